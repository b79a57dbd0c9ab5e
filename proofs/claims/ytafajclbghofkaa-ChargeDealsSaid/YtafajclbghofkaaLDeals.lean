/- The law of deals. -/
import Derived.Test.YtafajclbghofkaaG9
import Derived.Test.YtafajclbghofkaaG3
import Derived.Test.YtafajclbghofkaaB1
namespace Go.Proofs.Ytafajclbghofkaa
open Go.RowKit
set_option linter.unusedVariables false

/-- the law's own variables -/
def DlS (N : Nat) (day fee : Int) (A : Option Addr) (n cap : Nat) (C : Option Addr) (m cc : Nat) (cr ev sl dr bk pt : Int) (B : Option Addr) (q bc : Nat) (w W : World) : Prop :=
  Below N w W ∧ N + 1 < W.heap.size ∧ W.cell? ⟨N, 0, none⟩ = some (.int .i64 day) ∧ W.cell? ⟨N, 1, none⟩ = some (.slice A n cap) ∧ W.cell? ⟨N, 2, none⟩ = some (.int .i64 fee) ∧ W.cell? ⟨N, 3, none⟩ = some (.slice C m cc) ∧
    W.cell? ⟨N, 4, none⟩ = some (.int .i64 cr) ∧ W.cell? ⟨N, 5, none⟩ = some (.int .i64 ev) ∧ W.cell? ⟨N, 6, none⟩ = some (.int .i64 sl) ∧ W.cell? ⟨N, 7, none⟩ = some (.int .i64 dr) ∧ W.cell? ⟨N, 8, none⟩ = some (.int .i64 bk) ∧
    W.cell? ⟨N + 1, 0, none⟩ = some (.int .u64 pt) ∧ W.cell? ⟨N + 1, 1, none⟩ = some (.slice B q bc)
theorem DlS.below {N : Nat} {day fee : Int} {A : Option Addr} {n cap : Nat} {C : Option Addr} {m cc : Nat} {cr ev sl dr bk pt : Int} {B : Option Addr} {q bc : Nat} {w W W1 : World} (h : DlS N day fee A n cap C m cc cr ev sl dr bk pt B q bc w W) (hb : Below W.heap.size W W1) : DlS N day fee A n cap C m cc cr ev sl dr bk pt B q bc w W1 := by
  obtain ⟨h0, hz, h1, h2, h3, h4, h5, h6, h7, h8, h9, h10, h11⟩ := h
  have z : N < W.heap.size := by omega
  exact ⟨h0.trans (hb.mono (by omega)), Nat.lt_of_lt_of_le hz hb.size, below_cell hb z h1, below_cell hb z h2, below_cell hb z h3, below_cell hb z h4, below_cell hb z h5, below_cell hb z h6, below_cell hb z h7, below_cell hb z h8, below_cell hb z h9, below_cell hb hz h10, below_cell hb hz h11⟩
theorem DlS.start (day fee : Int) (A : Option Addr) (n cap : Nat) (C : Option Addr) (m cc : Nat) (cr ev sl dr bk pt : Int) (B : Option Addr) (q bc : Nat) (w : World) :
    DlS w.heap.size day fee A n cap C m cc cr ev sl dr bk pt B q bc w ((w.alloc (.cells #[.int .i64 day, .slice A n cap, .int .i64 fee, .slice C m cc, .int .i64 cr, .int .i64 ev, .int .i64 sl, .int .i64 dr, .int .i64 bk] 82)).alloc (.cells #[.int .u64 pt, .slice B q bc] 86)) := by
  refine ⟨((Below.refl _ _).alloc (Nat.le_refl _) _).alloc (by simp) _, by simp, ?_, ?_, ?_, ?_, ?_, ?_, ?_, ?_, ?_, ?_, ?_⟩ <;> go_simp
set_option maxRecDepth 100000 in
set_option maxHeartbeats 8000000 in
theorem Deals_walk (day fee : Int) (A : Option Addr) (bs : List Bd) (cap : Nat) (C : Option Addr) (cs : List Ct) (cc : Nat) (cr ev sl dr bk pt : Int) (B : Option Addr) (ps : List Int) (bc : Nat) (k n : Int) (w : World) (hcap : bs.length ≤ cap) (hl : cap ≤ 9223372036854775807) (hw : BandsAt w A bs) (hcc : cs.length ≤ cc) (hl2 : cc ≤ 9223372036854775807) (hw2 : CtsAt w C cs) (hbc : ps.length ≤ bc) (hl3 : bc ≤ 9223372036854775807) (hps : ∀ x ∈ ps, 0 ≤ x) (hw3 : PadsAt w B ps) :
    Calls Try.prog 8 #[.agg #[.int .i64 day, .slice A bs.length cap, .int .i64 fee, .slice C cs.length cc, .int .i64 cr, .int .i64 ev, .int .i64 sl, .int .i64 dr, .int .i64 bk], .agg #[.int .u64 pt, .slice B ps.length bc], .int .i64 k, .int .i64 n] w fun e w' => e = .returned (.bool true) ∧ Below w.heap.size w w' := by
  have h36 := Lib.hid (fun W (h : Below w.heap.size w W) => brief_c day fee A bs cap C cs cc cr ev sl dr bk W hcap hl (hw.below h) hcc hl2 (hw2.below h))
  have h39 := Lib.hid (fun W (h : Below w.heap.size w W) => CheckDeal_c day fee A bs cap C cs cc cr ev sl dr bk W hcap hl (hw.below h) hcc hl2 (hw2.below h))
  have h40 := Lib.hid (fun W (h : Below w.heap.size w W) => CheckDealR_c day fee A bs cap C cs cc cr ev sl dr bk W hcap hl (hw.below h) hcc hl2 (hw2.below h))
  have h37 := Lib.hid (fun W (h : Below w.heap.size w W) => Proof_c pt B ps bc k n W hbc hl3 hps (hw3.below h))
  have h38 := Lib.hid (fun W (h : Below w.heap.size w W) => ProofR_c pt B ps bc k n W hbc hl3 hps (hw3.below h))
  have S0 := Lib.hid (DlS.start day fee A bs.length cap C cs.length cc cr ev sl dr bk pt B ps.length bc w)
  have hn63 : bs.length ≤ 9223372036854775807 := by omega
  have hm63 : cs.length ≤ 9223372036854775807 := by omega
  have hp63 : ps.length ≤ 9223372036854775807 := by omega
  clear hw hw2 hw3 hps
  generalize Cv.deE (Cv.tarE day fee bs) cs.length (Cv.ctsOk cs) cr ev sl dr bk = de at *
  generalize Pf.prV pt ps k n = pv at *
  generalize Pf.prE pt ps k n = pe at *
  go_enter Try.func8, Try.ntmps8
  go_wp2_with fail
  refine (h36.out _ S0.out.1).mono ?_
  rintro e w1 ⟨b, rfl, hb⟩
  have S1 := Lib.hid (S0.out.below hb)
  obtain ⟨-, z1, c0, c1, c2, c3, c4, c5, c6, c7, c8, d0, d1⟩ := S1.out
  have z0 : w.heap.size < w1.heap.size := by omega
  clear hb
  cases b
  · go_wp2_with (go_at_call 12; refine (works_c _).mono ?_; rintro e w2 ⟨rfl, hb⟩; have B2 := Lib.hid (S1.out.1.trans (hb.mono S1.out.1.size)); clear hb)
    go_ret
    exact ⟨rfl, B2.out⟩
  · cases hq : decide (200 < (ps.length : Int))
    rotate_left 1
    · go_wp2_with (go_at_call 12; refine (works_c _).mono ?_; rintro e w2 ⟨rfl, hb⟩; have B2 := Lib.hid (S1.out.1.trans (hb.mono S1.out.1.size)); clear hb)
      go_ret
      exact ⟨rfl, B2.out⟩
    · go_wp2_with (first
        | (go_at_call 37; refine (h37.out _ S1.out.1).mono ?_; rintro e w2 ⟨rfl, hb⟩; have S2 := Lib.hid (S1.out.below hb); obtain ⟨-, z2, -, -, -, -, -, -, -, -, -, g0, g1⟩ := S2.out; clear hb)
        | (go_at_call 38; refine (h38.out _ S2.out.1).mono ?_; rintro e w3 ⟨rfl, hb⟩; have S3 := Lib.hid (S2.out.below hb); clear hb))
      obtain ⟨-, y1, e0, e1, e2, e3, e4, e5, e6, e7, e8, -, -⟩ := S3.out
      have y0 : w.heap.size < w3.heap.size := by omega
      refine wp_region_past (by kernel_rfl) (by kernel_rfl) ?_
      repeat (go_big_quiet_step (first | (go_at_call 39; exact past_below (h39.out _ (S3.out.1.trans ((Past.far _).mono S3.out.1.size)))) | (go_at_call 40; exact past_below (h40.out _ (S3.out.1.trans ((Past.far _).mono S3.out.1.size)))) | (go_at_call 12; exact past_below (works_c _))))
      refine wpQuiet_nil ?_
      intro x
      have HBx := Lib.hid x.far
      generalize x.w = w4 at HBx ⊢
      go_wp2
      go_ret
      exact ⟨rfl, S3.out.1.trans (HBx.out.mono S3.out.1.size)⟩
end Go.Proofs.Ytafajclbghofkaa
