/- Contracts that many functions lean on: great, upTo of one number, most; a world renamed. -/
import Derived.Test.YtcneohhfnnelgaaH1
import Derived.Laws.EntriesVeiled
namespace Go.Proofs.Ytcneohhfnnelgaa
open Go.RowKit
set_option linter.unusedVariables false

theorem IntsAt.below {w w1 : World} {A : Option Addr} {xs : List Int} (h : IntsAt w A xs) (hb : Below w.heap.size w w1) : IntsAt w1 A xs := by
  intro i hi
  obtain ⟨ad, e, hc⟩ := h i hi
  exact ⟨ad, e, (hb.cell (World.block_lt_of_cell? w _ hc)).trans hc⟩
theorem inB_up (m x : Int) : Dv.inB x (-m) m = upB m [x] := by simp [Dv.inB, upB]
theorem great_c (x : Int) (w : World) : Calls Try.prog 89 #[.int .i64 x] w fun e w' => e = .returned (.bool (!upB 68719476736 [x])) ∧ w = w' := by
  go_enter Try.func89, Try.ntmps89
  go_wp2_with (go_at_call 80; refine (within_c _ _ _ _).mono ?_; rintro e w' ⟨rfl, rfl⟩)
  go_ret
  exact ⟨ret_bool (by rw [← inB_up]), rfl⟩
theorem gen_world {P : Program} {c : Code} {Q : Exit → Act → World → Prop} {a : Act} {W : World} (J : World → Prop) (hJ : J W) (h : ∀ W', J W' → Code.wp P c Q a W') : Code.wp P c Q a W := h W hJ
theorem up1w (m a : Int) (W : World) (g : Nat) (hg : W.heap.size = g) (hm0 : 0 ≤ m) (hm1 : m ≤ 4611686018427387904) :
    Calls Try.prog 67 #[.int .i64 m, .slice (some ⟨g, 0, none⟩) 1 1] (W.alloc (.cells #[.int .i64 a] 2)) fun e w' => e = .returned (.bool (upB m [a])) ∧ Below W.heap.size W w' :=
  (up1 m a W g hg hm0 hm1).mono fun _ _ ⟨h1, h2⟩ => ⟨h1, h2 ▸ (Below.refl _ _).alloc (Nat.le_refl _) _⟩

/-- what most leaves -/
def MostR (p : Int → Bool) (lo hi : Int) (w : World) (e : Ending) (w' : World) : Prop := ∃ r : Int, e = .returned (.int .i64 r) ∧ lo ≤ r ∧ r ≤ hi ∧ p r = true ∧ (r = hi ∨ p (r + 1) = false) ∧ Below w.heap.size w w'
set_option maxHeartbeats 1000000 in
set_option maxRecDepth 100000 in
theorem most_c (F : FuncId) (a b : Value) (p : Int → Bool) (lo hi : Int) (w : World) (hlo : 0 ≤ lo) (hlh : lo ≤ hi) (hhi : hi ≤ 1152921504606846976) (hp : p lo = true) (hcf : ∀ (args : Array Value) (W : World), (callFunc F args).run Try.prog W = .ok (.enter F args) W)
    (hF : ∀ (x : Int) (W : World), lo ≤ x → x ≤ hi → Below w.heap.size w W → Calls Try.prog F #[.int .i64 x, a, b] W fun e W' => e = .returned (.bool (p x)) ∧ Below W.heap.size W W') :
    Calls Try.prog 91 #[.int .i64 lo, .int .i64 hi, .func (.func F) #[] #[a, b]] w (MostR p lo hi w) := by
  have HF := Lib.hid hF
  have HP := Lib.hid hp
  clear hF hp
  go_enter Try.func91, Try.ntmps91
  go_wp2
  go_loopw [0, 1] (fun x y wr => ∃ l h : Int, x = .int .i64 l ∧ y = .int .i64 h ∧ lo ≤ l ∧ l ≤ h ∧ h ≤ hi ∧ Hid (p l = true ∧ (h = hi ∨ p (h + 1) = false)) ∧ Below w.heap.size w wr) (fun x y _ => (intOf y - intOf x).toNat)
  case atStart => exact ⟨lo, hi, rfl, rfl, by omega, by omega, by omega, Lib.hid ⟨HP.out, .inl rfl⟩, Below.refl _ _⟩
  case round =>
    obtain ⟨l, h, rfl, rfl, h1, h2, h3, HQ, hb⟩ := hrel
    have HB := Lib.hid hb
    clear hb
    by_cases hlt : l < h
    · go_wp2_with fail
      refine (HF.out (l + (h - l + 1) / 2) _ (by omega) (by omega) HB.out).mono ?_
      rintro e w1 ⟨rfl, hb1⟩
      have HB1 := Lib.hid (HB.out.trans (hb1.mono HB.out.size))
      clear hb1
      cases hq : p (l + (h - l + 1) / 2)
      · have HQ2 := Lib.hid (show p l = true ∧ (l + (h - l + 1) / 2 - 1 = hi ∨ p (l + (h - l + 1) / 2 - 1 + 1) = false) from ⟨HQ.out.1, .inr (by rw [show l + (h - l + 1) / 2 - 1 + 1 = l + (h - l + 1) / 2 from by omega]; exact hq)⟩)
        clear hq
        go_wp2
        go_roundw
        case rel => exact ⟨l, l + (h - l + 1) / 2 - 1, rfl, rfl, by omega, by omega, by omega, HQ2, HB1.out⟩
        case measure => simp [intOf]; omega
      · have HQ2 := Lib.hid (show p (l + (h - l + 1) / 2) = true ∧ (h = hi ∨ p (h + 1) = false) from ⟨hq, HQ.out.2⟩)
        clear hq
        go_wp2
        go_roundw
        case rel => exact ⟨l + (h - l + 1) / 2, h, rfl, rfl, by omega, by omega, by omega, HQ2, HB1.out⟩
        case measure => simp [intOf]; omega
    · obtain rfl : l = h := by omega
      go_wp2
      go_ret
      exact ⟨l, rfl, h1, h3, HQ.out.1, HQ.out.2, HB.out⟩
end Go.Proofs.Ytcneohhfnnelgaa
