/- slices.Clone, IndexFunc and DeleteFunc of leases, with Ack's own test. -/
import Derived.Test.YtafajclbghofkaaS8
namespace Go.Proofs.Ytafajclbghofkaa
open Go.RowKit
set_option linter.unusedVariables false

theorem flatLs_src {w : World} {B cap : Nat} {A : Option Addr} {L : List Ls} (h : LRow B A cap L w) : SrcRow w A L.length (flatLs L) ∧ (A = none → L = []) := by
  rcases h.2 with ⟨h2, hx⟩ | ⟨g, c, cur, hv, hb, hg, hnc, hcm, hcs, htk⟩
  · injection h2 with e1 e2 e3
    subst e1
    have : L = [] := List.eq_nil_of_length_eq_zero hx
    subst this
    exact ⟨.inl ⟨rfl, rfl⟩, fun _ => rfl⟩
  · cases hv
    exact ⟨.inr ⟨_, rfl, fun j u hu => World.ownsRow.cells (g := g) h rfl j u hu⟩, fun e => by cases e⟩
/-- a clone: a new row with the leases -/
def CloneLs (w : World) (L : List Ls) (e : Ending) (w' : World) : Prop := ∃ A' cap', e = .returned (.slice A' L.length cap') ∧ LRow w.heap.size A' cap' L w' ∧ Below w.heap.size w w'
set_option maxHeartbeats 1000000 in
theorem CloneLs_c (A : Option Addr) (c B : Nat) (L : List Ls) (w : World) (hr : LRow B A c L w) (hl : L.length ≤ 1000000) :
    Calls Try.prog 70 #[.slice A L.length c] w (CloneLs w L) := by
  obtain ⟨hs, hnil⟩ := flatLs_src hr
  obtain ⟨n, hn⟩ : ∃ n, n = L.length := ⟨_, rfl⟩
  rw [← hn] at hs ⊢
  clear hr
  have q36 : ∀ (w : World) (a : Option Addr) (n c n' c' : Nat), (binOp .eql 36 (.slice a n c) (.slice none n' c')).run Try.prog w = .ok (.bool a.isNone) w := fun w a n c n' c' => Lib.run_eql_slice_nil w _ _ a n c n' c' Try.underlying36
  cases A with
  | none =>
    have hL := hnil rfl
    subst hL
    clear hs hnil
    go_enter Try.func70, Try.ntmps70
    go_wp2
    go_ret
    exact ⟨none, 0, rfl, World.ownsRow_nil _ _ _ _, Below.refl _ _⟩
  | some a =>
    clear hnil
    obtain ⟨i0, hi, hz0, hz1, hz2⟩ := info_parts info43
    have HC := Lib.hid (show SrcRow (w.alloc (.cells #[] 43)) (some a) n (flatLs L) from by
      rcases hs with ⟨h, _⟩ | ⟨a', h, hc⟩
      · cases h
      · exact .inr ⟨a', h, fun j u hu => ((World.grownBy_alloc w _ none).cell (hc j u hu) (by simp))⟩)
    have HL := Lib.hid hl
    have HN := Lib.hid hn
    clear hs hl hn
    go_enter Try.func70, Try.ntmps70
    go_wp2_with (at_builtin; refine wpList_append_any (.tmp 5) (.tmp 6) 36 rfl rfl w.heap.size 43 i0 (.agg #[.int .i64 0, .int .i64 0, .int .i64 0, .int .i64 0]) 4 32 Try.underlying36 hi hz0 hz1 hz2 rfl (by decide) (some ⟨w.heap.size, 0, none⟩) 0 0 [] (by rfl) (World.ownsRow_made w #[] 0 (Nat.le_refl _) (by decide) (by simp)) (some a) n c (flatLs L) (by rfl) (by rw [flatLs_length, HN.out]) HC.out (flatLs_one L) (by have := HL.out; have := HN.out; unfold maxLen; omega) (by have := HL.out; have := HN.out; omega) (by simp) ?_; intro A' cap' w1 hown hgrow hat; have HOw := Lib.hid hown; have HG := Lib.hid hgrow; clear hown hgrow hat)
    go_ret
    have hown := HOw.out
    refine ⟨A', cap', ?_, ?_, Below.grown ((Below.refl _ _).alloc (Nat.le_refl _) _) HG.out (by simp) (fun k hk => by simp [Value.ownBlock] at hk; omega)⟩
    · rw [← HN.out]; simp
    · unfold LRow; rw [← HN.out]; simpa using hown

/-- Ack's test of a lease -/
theorem ackT_c (p : Nat) (l : Ls) (nu : Int) (w : World) (c0 : w.cell? ⟨p, 0, none⟩ = some (.int .i64 nu)) :
    Calls Try.prog 80 #[.agg #[.int .i64 l.n, .int .i64 l.d, .int .i64 l.b, .int .i64 l.u], .pointer (some ⟨p, 0, none⟩)] w fun e w' => e = .returned (.bool (decide (l.n < nu))) ∧ Below w.heap.size w w' := by
  have zp : p < w.heap.size := World.block_lt_of_cell? _ _ c0
  have zp2 : p ≠ w.heap.size := by omega
  go_enter Try.func80, Try.ntmps80
  go_wp2
  go_ret
  exact ⟨rfl, (Below.refl _ _).alloc (Nat.le_refl _) _⟩

/-- the first lease of a lower number -/
def IxV (L : List Ls) (nu : Int) (v : Int) : Prop := (v = -1 ∧ ∀ i, i < L.length → nu ≤ (L.getD i default).n) ∨ ∃ i : Nat, v = i ∧ i < L.length ∧ (L.getD i default).n < nu ∧ ∀ j, j < i → nu ≤ (L.getD j default).n
set_option maxHeartbeats 2000000 in
theorem IndexFunc_c (g c p : Nat) (L : List Ls) (nu : Int) (w : World) (hr : RowM w g c L) (hcm : c ≤ maxLen) (c0 : w.cell? ⟨p, 0, none⟩ = some (.int .i64 nu)) :
    Calls Try.prog 89 #[.slice (some ⟨g, 0, none⟩) L.length c, .func (.func 80) #[] #[.pointer (some ⟨p, 0, none⟩)]] w fun e w' => ∃ v, e = .returned (.int .i64 v) ∧ IxV L nu v ∧ Below w.heap.size w w' := by
  have HR := Lib.hid hr
  have HP := Lib.hid c0
  have zp : p < w.heap.size := World.block_lt_of_cell? _ _ c0
  have hnc : L.length ≤ c := by obtain ⟨_, _, _, h, _⟩ := hr; exact h
  unfold maxLen at hcm
  clear hr c0
  go_enter Try.func89, Try.ntmps89
  go_wp2
  go_loopw [8] (fun i wr => ∃ k : Nat, k ≤ L.length ∧ i = .int .i64 k ∧ Hid (Below w.heap.size w wr ∧ ∀ j, j < k → nu ≤ (L.getD j default).n)) (fun i _ => L.length - (intOf i).toNat)
  case atStart => exact ⟨0, Nat.zero_le _, rfl, Lib.hid ⟨Below.refl _ _, fun j hj => absurd hj (Nat.not_lt_zero _)⟩⟩
  case round =>
    obtain ⟨k, hk, rfl, HB⟩ := hrel
    by_cases hlt : k < L.length
    · have hR := HR.out.below HB.out.1
      have c0 := hR.cell hlt 0 rfl
      have c1 := hR.cell hlt 1 rfl
      have c2 := hR.cell hlt 2 rfl
      have c3 := hR.cell hlt 3 rfl
      have HT := Lib.hid (fun W (hW : Below wr.heap.size wr W) => ackT_c p (L.getD k default) nu W (((HB.out.1.trans (hW.mono HB.out.1.size)).cell (p := ⟨p, 0, none⟩) zp).trans HP.out))
      have k0 : (0 : Int) ≤ (k : Int) := by omega
      have k1 : (k : Int) < (L.length : Int) := by omega
      have e4 : ((⟨g, 0, none⟩ : Addr).add (k * 4)) = ⟨g, k * 4, none⟩ := by unfold Addr.add; split <;> simp_all
      have HD := Lib.hid (show L.getD k default = L.getD k default from rfl)
      simp only [Nat.add_zero] at c0
      clear hR
      generalize hl : L.getD k default = l at HT c0 c1 c2 c3
      have HL := Lib.hid hl
      clear hl
      by_cases hd : l.n < nu
      · have hd' : decide (l.n < nu) = true := decide_eq_true hd
        rw [hd'] at HT
        have HDd := Lib.hid hd
        clear hd
        go_wp2_with (go_at_call 80; refine (HT.out _ (Below.refl _ _)).mono ?_; rintro e w1 ⟨rfl, hb⟩; have HB1 := Lib.hid hb; clear hb)
        go_ret
        exact ⟨k, rfl, .inr ⟨k, rfl, hlt, by rw [HL.out]; exact HDd.out, HB.out.2⟩, HB.out.1.trans (HB1.out.mono HB.out.1.size)⟩
      · have hd' : decide (l.n < nu) = false := decide_eq_false hd
        rw [hd'] at HT
        have HDd := Lib.hid hd
        clear hd
        go_wp2_with (go_at_call 80; refine (HT.out _ (Below.refl _ _)).mono ?_; rintro e w1 ⟨rfl, hb⟩; have HB1 := Lib.hid hb; clear hb)
        go_roundw
        case rel => exact ⟨k + 1, by omega, by go_num, Lib.hid ⟨HB.out.1.trans (HB1.out.mono HB.out.1.size), fun j hj => by
          rcases Nat.lt_or_ge j k with h | h
          · exact HB.out.2 j h
          · obtain rfl : j = k := by omega
            rw [HL.out]; have := HDd.out; omega⟩⟩
        case measure => simp [intOf]; omega
    · have e : k = L.length := by omega
      subst e
      go_wp2_with fail
      go_ret
      exact ⟨-1, rfl, .inl ⟨rfl, HB.out.2⟩, HB.out.1⟩
end Go.Proofs.Ytafajclbghofkaa
