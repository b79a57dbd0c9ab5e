/- Ack of charge. -/
import Derived.Test.YtafajclbghofkaaS10
import Derived.Test.YtafajclbghofkaaS7
namespace Go.Proofs.Ytafajclbghofkaa
open Go.RowKit
set_option linter.unusedVariables false
namespace Sx
def akE (cs : List Cl) (s nu : Int) : Int := if 0 ≤ s ∧ s < cs.length then aE cs s.toNat nu else 3
def akS (cs : List Cl) (s nu : Int) : List Cl := if akE cs s nu = 0 then cs.set s.toNat (aI (cs.getD s.toNat default) nu) else cs
theorem set_same {cs : List Cl} {m : Nat} (hm : m < cs.length) : cs.set m (cs.getD m default) = cs := by
  rw [List.getD_eq_getElem?_getD, List.getElem?_eq_getElem hm]
  exact List.set_getElem_self hm
theorem ack_cs {cs : List Cl} {m : Nat} (hm : m < cs.length) {nu : Int} (hk : (cs.getD m default).kn < nu) :
    (cs.set m { (cs.getD m default) with kn := nu }).set m { ((cs.set m { (cs.getD m default) with kn := nu }).getD m default) with L := (cs.getD m default).L.filter (kp nu) } = cs.set m (aI (cs.getD m default) nu) := by
  rw [getD_set' hm, if_pos rfl, List.set_set]
  unfold aI
  rw [if_pos hk]
  rfl
end Sx
/-- what Ack leaves -/
def AkPost (w : World) (B gs gc cc : Nat) (A : Nat → Option Addr) (q : Nat → Nat) (cs : List Sx.Cl) (D Bk N s nu : Int) (e : Ending) (w' : World) : Prop :=
  ∃ (A' : Nat → Option Addr) (q' : Nat → Nat), e = .returned (.int .i64 (Sx.akE cs s nu)) ∧ SiteAt w' B gs gc cc A' q' (Sx.akS cs s nu) D Bk N ∧ Touch (SOwn gs gc A cs.length) w w' ∧ ∀ i k, OwnB (A' i) k → OwnB (A i) k ∨ w.heap.size ≤ k
theorem akPost_no {w w' : World} {B gs gc cc : Nat} {A : Nat → Option Addr} {q : Nat → Nat} {cs : List Sx.Cl} {D Bk N s nu er : Int} (he : Sx.akE cs s nu = er) (h0 : Sx.akS cs s nu = cs) (h : SiteAt w B gs gc cc A q cs D Bk N) (hb : Below w.heap.size w w') :
    AkPost w B gs gc cc A q cs D Bk N s nu (.returned (.int .i64 er)) w' := by
  subst he
  refine ⟨A, q, rfl, ?_, Touch.of_below hb, fun i k hk => .inl hk⟩
  rw [h0]
  exact h.below hb
theorem rowLs_base {W : World} {B B' cap : Nat} {A : Option Addr} {L : List Ls} (h : LRow B A cap L W) (hB : B' ≤ B) : LRow B' A cap L W := by
  refine ⟨h.1, ?_⟩
  rcases h.2 with h2 | ⟨k, c, cur, hv, hb, r⟩
  · exact .inl h2
  · exact .inr ⟨k, c, cur, hv, by omega, r⟩
set_option maxRecDepth 100000 in
set_option maxHeartbeats 4000000 in
theorem Ack_c {w : World} {B gs gc cc : Nat} {A : Nat → Option Addr} {q : Nat → Nat} {cs : List Sx.Cl} {D Bk N : Int} (h : SiteAt w B gs gc cc A q cs D Bk N) (hB : B ≤ w.heap.size) {K : Int} (hK : K ≤ 100000) (hok : ∀ c ∈ cs, Sx.OkC K c) (s nu : Int) :
    Calls Try.prog 49 #[.pointer (some ⟨gs, 0, none⟩), .int .i64 s, .int .i64 nu] w (AkPost w B gs gc cc A q cs D Bk N s nu) := by
  have h73 := client_c gs gc cs.length cc s (w.alloc (.cells #[.int .i64 nu] 3)) h.c.1 h.c.2 ((h.below ((Below.refl _ _).alloc (Nat.le_refl _) _)).s.cell 3 rfl)
  have HS := Lib.hid h
  have hBA : Below w.heap.size w (w.alloc (.cells #[.int .i64 nu] 3)) := (Below.refl _ _).alloc (Nat.le_refl _) _
  by_cases hs : 0 ≤ s ∧ s < cs.length
  rotate_left 1
  · rw [if_neg hs] at h73
    have HE := Lib.hid (show Sx.akE cs s nu = 3 from if_neg hs)
    clear hs h hok
    have HBA := Lib.hid hBA
    clear hBA
    go_enter Try.func49, Try.ntmps49
    go_wp2_with (go_at_call 73; refine h73.mono ?_; rintro e w' ⟨rfl, rfl⟩)
    go_ret
    exact akPost_no HE.out (by unfold Sx.akS; rw [HE.out]; rfl) HS.out HBA.out
  rw [if_pos hs] at h73
  obtain ⟨m, rfl⟩ := Int.eq_ofNat_of_zero_le hs.1
  have hm : m < cs.length := by omega
  have HE0 := Lib.hid (show Sx.akE cs m nu = Sx.aE cs m nu from if_pos hs)
  have HOm := Lib.hid (hok (cs.getD m default) (by rw [List.getD_eq_getElem?_getD, List.getElem?_eq_getElem hm]; exact List.getElem_mem hm))
  simp only [Int.toNat_natCast] at h73
  have hSA := h.below hBA
  have c1 : (w.alloc (.cells #[.int .i64 nu] 3)).cell? ⟨gc, m * 3 + 1, none⟩ = some (.int .i64 (cs.getD m default).last) := hSA.a.cell hm 1 rfl
  have c2 : (w.alloc (.cells #[.int .i64 nu] 3)).cell? ⟨gc, m * 3 + 2, none⟩ = some (.int .i64 (cs.getD m default).kn) := hSA.a.cell hm 2 rfl
  have f2 := hSA.a.free (m * 3 + 2)
  have bp := Blk.new' w #[.int .i64 nu] 3
  have HBA := Lib.hid hBA
  have HBP := Lib.hid bp
  have p0 := bp.cell 0 rfl
  have hgw : gc < w.heap.size := h.a.lt
  clear hs h hok hBA hSA bp
  by_cases h1 : nu < 1
  · have hd : decide (nu < 1) = true := decide_eq_true h1
    have HE := Lib.hid (HE0.out.trans (show Sx.aE cs m nu = 5 by unfold Sx.aE; rw [if_neg (by omega)]))
    clear h1
    go_enter Try.func49, Try.ntmps49
    go_upto_region 4 with (go_at_call 73; refine h73.mono ?_; rintro e w' ⟨rfl, rfl⟩)
    go_quiet (fail)
    go_wp2_with fail
    go_ret
    exact akPost_no HE.out (by unfold Sx.akS; rw [HE.out]; rfl) HS.out (below_drewN HBA.out _)
  by_cases h2 : (cs.getD m default).last < nu
  · have hd : decide (nu < 1) = false := decide_eq_false h1
    have hd2 : decide ((cs.getD m default).last < nu) = true := decide_eq_true h2
    have HE := Lib.hid (HE0.out.trans (show Sx.aE cs m nu = 5 by unfold Sx.aE; rw [if_neg (by omega)]))
    clear h1 h2
    generalize (cs.getD m default).last = la at *
    go_enter Try.func49, Try.ntmps49
    go_upto_region 4 with (go_at_call 73; refine h73.mono ?_; rintro e w' ⟨rfl, rfl⟩)
    go_quiet (fail)
    go_wp2_with fail
    go_ret
    exact akPost_no HE.out (by unfold Sx.akS; rw [HE.out]; rfl) HS.out (below_drewN HBA.out _)
  have hd : decide (nu < 1) = false := decide_eq_false h1
  have hd2 : decide ((cs.getD m default).last < nu) = false := decide_eq_false h2
  have HE := Lib.hid (HE0.out.trans (show Sx.aE cs m nu = 0 by unfold Sx.aE; rw [if_pos (by omega)]))
  clear h1 h2
  by_cases h3 : (cs.getD m default).kn < nu
  rotate_left 1
  · have hd3 : decide ((cs.getD m default).kn < nu) = false := decide_eq_false h3
    have HSa := Lib.hid (show Sx.akS cs m nu = cs by unfold Sx.akS; rw [if_pos HE.out, Int.toNat_natCast]; unfold Sx.aI; rw [if_neg h3, Sx.set_same hm])
    clear h3
    generalize (cs.getD m default).last = la at *
    generalize (cs.getD m default).kn = ka at *
    go_enter Try.func49, Try.ntmps49
    go_upto_region 4 with (go_at_call 73; refine h73.mono ?_; rintro e w' ⟨rfl, rfl⟩)
    go_quiet (fail)
    go_upto_region 6 with fail
    go_quiet (fail)
    go_wp2_with fail
    go_ret
    exact akPost_no HE.out HSa.out HS.out (below_drewN (below_drewN HBA.out _) _)
  have hd3 : decide ((cs.getD m default).kn < nu) = true := decide_eq_true h3
  have HSa := Lib.hid (show Sx.akS cs m nu = cs.set m (Sx.aI (cs.getD m default) nu) by unfold Sx.akS; rw [if_pos HE.out, Int.toNat_natCast])
  have HK3 := Lib.hid h3
  clear h3
  have HLK := Lib.hid (show (cs.getD m default).last = (cs.getD m default).last ∧ (cs.getD m default).kn = (cs.getD m default).kn from ⟨rfl, rfl⟩)
  generalize hla : (cs.getD m default).last = la at c1 hd2
  generalize hka : (cs.getD m default).kn = ka at c2 hd3
  go_enter Try.func49, Try.ntmps49
  go_upto_region 4 with (go_at_call 73; refine h73.mono ?_; rintro e w' ⟨rfl, rfl⟩)
  go_quiet (fail)
  go_upto_region 6 with fail
  go_quiet (fail)
  go_upto_region 8 with fail
  refine gen_world' (fun W => SiteAt W B gs gc cc A q (cs.set m { (cs.getD m default) with kn := nu }) D Bk N ∧ Touch (SOwn gs gc A cs.length) w W ∧ Blk W w.heap.size 3 [.int .i64 nu]) ⟨(HS.out.below (below_drewN HBA.out _)).setKn hm nu, Touch.setCell (S := SOwn gs gc A cs.length) (Touch.of_below (below_drewN HBA.out _)) (Or.inl (Or.inr (Or.inl rfl))) _, (HBP.out.drewN _).setCell_ne (by show w.heap.size ≠ gc; omega) _⟩ ?_
  rintro w2 ⟨hs2, ht2, hb2⟩
  have HS2 := Lib.hid hs2
  have HT2 := Lib.hid ht2
  have hm1 : m < (cs.set m { (cs.getD m default) with kn := nu }).length := by simpa using hm
  have HCL := Lib.hid (show (cs.set m { (cs.getD m default) with kn := nu }).getD m default = { (cs.getD m default) with kn := nu } from by rw [Sx.getD_set' hm, if_pos rfl])
  have hrm : LRow B (A m) (q m) (cs.getD m default).L w2 := by have := hs2.r m hm1; rw [HCL.out] at this; exact this
  have a0 : w2.cell? ⟨gc, m * 3, none⟩ = some (.slice (A m) (cs.getD m default).L.length (q m)) := by have := hs2.a.cell hm1 0 rfl; rw [HCL.out] at this; exact this
  have hln : ((cs.getD m default).L.length : Int) ≤ 100000 := by have := HOm.out.ln; omega
  have HC70 := Lib.hid (CloneLs_c (A m) (q m) B _ w2 hrm (by omega))
  have hp2 : w2.cell? ⟨w.heap.size, 0, none⟩ = some (.int .i64 nu) := hb2.cell 0 rfl
  have hpl : w.heap.size < w2.heap.size := hb2.lt
  have hgc2 : gc < w2.heap.size := by omega
  have hfa := hs2.a.free (m * 3)
  have HRO := Lib.hid (fun k (hk : OwnB (A m) k) => hs2.ne_gc hm1 k hk)
  clear c1 c2 f2 p0 hd hd2 hd3 hs2 ht2 hb2 hrm
  obtain ⟨Lm, hLm⟩ : ∃ L, L = (cs.getD m default).L := ⟨_, rfl⟩
  have HLm := Lib.hid hLm
  rw [← hLm] at a0 hln HC70
  clear hLm
  go_wp2_with (first
    | (go_at_call 70; refine HC70.out.mono ?_; rintro e w3 ⟨A3, cap3, rfl, hrow, hb3⟩; have HB3 := Lib.hid hb3; have HR3 := Lib.hid hrow; have H79 := Lib.hid (DeleteFunc_c A3 w2.heap.size cap3 w.heap.size _ nu w3 hrow (by omega) ((hb3.cell (p := ⟨w.heap.size, 0, none⟩) hpl).trans hp2) (fun hk => by have := (rowE_lt hrow hk).1; omega)); have HNg := Lib.hid (fun k (hk : OwnB A3 k) => (rowE_lt hrow hk).1); clear hb3 hrow)
    | (go_at_call 79; refine H79.out.mono ?_; rintro e w4 ⟨rfl, hrow4, ht4⟩; have HR4 := Lib.hid hrow4; have HT4 := Lib.hid ht4; have g0 : w4.cell? ⟨gc, m * 3, none⟩ = some (.slice (A m) Lm.length (q m)) := ((ht4.cell (p := ⟨gc, m * 3, none⟩) (Nat.lt_of_lt_of_le hgc2 HB3.out.size) (fun hk => by have := HNg.out _ hk; simp at this; omega)).trans (HB3.out.cell (p := ⟨gc, m * 3, none⟩) hgc2)).trans a0; have g1 : w4.frozen? ⟨gc, m * 3, none⟩ = false := (((HS2.out.a.below HB3.out).touch ht4 (fun hk => by have := HNg.out _ hk; omega)).free (m * 3)); clear hrow4 ht4))
  go_ret
  have h1 := HS2.out.put hm1 (W1 := w4) (A' := A3) (cap' := cap3) (L' := Lm.filter (Sx.kp nu)) ((Touch.of_below HB3.out).then HT4.out (fun k hk => .inr (HNg.out k hk))) (rowLs_base HR4.out (by have := HT2.out.size; omega)) (fun k hk => .inr (HNg.out k hk))
  rw [HLm.out, Sx.ack_cs hm HK3.out] at h1
  refine ⟨fun i => if i = m then A3 else A i, fun i => if i = m then cap3 else q i, by rw [HE.out]; rfl, ?_, ?_, ?_⟩
  · rw [HSa.out, HLm.out]
    exact h1
  · exact Touch.setCell (S := SOwn gs gc A cs.length) ((HT2.out.below HB3.out).then HT4.out (fun k hk => .inr (by have := HNg.out k hk; have := HT2.out.size; omega))) (Or.inl (Or.inr (Or.inl rfl))) _
  · intro i k hk
    by_cases him : i = m
    · subst him
      simp only [if_true] at hk
      exact .inr (by have := HNg.out k hk; have := HT2.out.size; omega)
    · simp only [him, if_false] at hk
      exact .inl hk
end Go.Proofs.Ytafajclbghofkaa
