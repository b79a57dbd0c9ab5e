/- Contracts of Sin, Cos, TurnTo, Duties and Blend of drive, and of the examples of coulomblaw06. -/
import Derived.Test.YtcneohhfnnelgaaW2
namespace Go.Proofs.Ytcneohhfnnelgaa
open Go.RowKit

namespace Dv
/-- what Sin and Cos return, refused angles too -/
def angB (a : Int) : Bool := decide (0 ≤ a ∧ a < 65536)
def sinV (a : Int) : Int := if angB a = true then sine a else 0
def cosV (a : Int) : Int := if angB a = true then cosine a else 0
def sinE (a : Int) : Int := if angB a = true then 0 else 3
end Dv

theorem ret2_int {k l : IntKind} {a b c d : Int} (h : a = b) (h' : c = d) : Ending.returned (.tuple #[.int k a, .int l c]) = .returned (.tuple #[.int k b, .int l d]) := by rw [h, h']
theorem ret3_int {k l m : IntKind} {a b c d x y : Int} (h : a = b) (h' : c = d) (h'' : x = y) : Ending.returned (.tuple #[.int k a, .int l c, .int m x]) = .returned (.tuple #[.int k b, .int l d, .int m y]) := by rw [h, h', h'']

set_option maxHeartbeats 400000 in
theorem angle_c (a : Int) (w : World) : Calls Try.prog 71 #[.int .i64 a] w fun e w' => e = .returned (.bool (Dv.angB a)) ∧ w = w' := by
  by_cases h0 : 0 ≤ a
  · by_cases h1 : a < 65536
    all_goals
      go_enter Try.func71, Try.ntmps71
      go_wp2
      go_ret
      exact ⟨ret_bool (by simp [Dv.angB, h0, h1]), rfl⟩
  · go_enter Try.func71, Try.ntmps71
    go_wp2
    go_ret
    exact ⟨ret_bool (by simp [Dv.angB]; omega), rfl⟩

set_option maxHeartbeats 400000 in
theorem cosine_c (a : Int) (w : World) (h0 : 0 ≤ a) (h1 : a < 65536) :
    Calls Try.prog 73 #[.int .i64 a] w fun e w' => e = .returned (.int .i64 (Dv.cosine a)) ∧ w = w' := by
  have hm0 : 0 ≤ (a + 16384) % 65536 := by omega
  have hm1 : (a + 16384) % 65536 < 65536 := by omega
  go_enter Try.func73, Try.ntmps73
  go_wp2_with (go_at_call 72; refine (sine_c _ _ hm0 hm1).mono ?_; rintro e w' ⟨rfl, rfl⟩)
  go_ret
  exact ⟨rfl, rfl⟩

set_option maxHeartbeats 400000 in
theorem Sin_c (a : Int) (w : World) : Calls Try.prog 21 #[.int .i64 a] w fun e w' => e = .returned (.tuple #[.int .i64 (Dv.sinV a), .int .i64 (Dv.sinE a)]) ∧ w = w' := by
  by_cases h : Dv.angB a = true
  · have h' : 0 ≤ a ∧ a < 65536 := by simpa [Dv.angB] using h
    obtain ⟨h0, h1⟩ := h'
    have E := Lib.hid (show Dv.sinV a = Dv.sine a ∧ Dv.sinE a = 0 from by simp [Dv.sinV, Dv.sinE, h])
    go_enter Try.func21, Try.ntmps21
    go_wp2_with (first | (go_at_call 71; refine (angle_c _ _).mono ?_; rintro e w' ⟨rfl, rfl⟩) | (go_at_call 72; refine (sine_c _ _ h0 h1).mono ?_; rintro e w' ⟨rfl, rfl⟩))
    go_ret2
    exact ⟨ret2_int E.out.1.symm E.out.2.symm, rfl⟩
  · have h : Dv.angB a = false := by simpa using h
    have E := Lib.hid (show Dv.sinV a = 0 ∧ Dv.sinE a = 3 from by simp [Dv.sinV, Dv.sinE, h])
    go_enter Try.func21, Try.ntmps21
    go_wp2_with (first | (go_at_call 71; refine (angle_c _ _).mono ?_; rintro e w' ⟨rfl, rfl⟩))
    go_ret2
    exact ⟨ret2_int E.out.1.symm E.out.2.symm, rfl⟩

set_option maxHeartbeats 400000 in
theorem Cos_c (a : Int) (w : World) : Calls Try.prog 22 #[.int .i64 a] w fun e w' => e = .returned (.tuple #[.int .i64 (Dv.cosV a), .int .i64 (Dv.sinE a)]) ∧ w = w' := by
  by_cases h : Dv.angB a = true
  · have h' : 0 ≤ a ∧ a < 65536 := by simpa [Dv.angB] using h
    obtain ⟨h0, h1⟩ := h'
    have E := Lib.hid (show Dv.cosV a = Dv.cosine a ∧ Dv.sinE a = 0 from by simp [Dv.cosV, Dv.sinE, h])
    go_enter Try.func22, Try.ntmps22
    go_wp2_with (first | (go_at_call 71; refine (angle_c _ _).mono ?_; rintro e w' ⟨rfl, rfl⟩) | (go_at_call 73; refine (cosine_c _ _ h0 h1).mono ?_; rintro e w' ⟨rfl, rfl⟩))
    go_ret2
    exact ⟨ret2_int E.out.1.symm E.out.2.symm, rfl⟩
  · have h : Dv.angB a = false := by simpa using h
    have E := Lib.hid (show Dv.cosV a = 0 ∧ Dv.sinE a = 3 from by simp [Dv.cosV, Dv.sinE, h])
    go_enter Try.func22, Try.ntmps22
    go_wp2_with (first | (go_at_call 71; refine (angle_c _ _).mono ?_; rintro e w' ⟨rfl, rfl⟩))
    go_ret2
    exact ⟨ret2_int E.out.1.symm E.out.2.symm, rfl⟩

theorem bcell {W w1 : World} (hb : Below W.heap.size W w1) : (∀ b o, b < W.heap.size → w1.cell? ⟨b, o, none⟩ = W.cell? ⟨b, o, none⟩) ∧ (∀ b o, b < W.heap.size → w1.frozen? ⟨b, o, none⟩ = W.frozen? ⟨b, o, none⟩) :=
  ⟨fun b o h => hb.cell (p := ⟨b, o, none⟩) h, fun b o h => hb.frozen (p := ⟨b, o, none⟩) h⟩

/-- a block of numbers -/
theorem intsAt_alloc (w : World) (t : TypeId) (xs : List Int) : IntsAt (w.alloc (.cells (xs.map (Value.int .i64)).toArray t)) (some ⟨w.heap.size, 0, none⟩) xs := by
  intro i hi
  refine ⟨_, rfl, ?_⟩
  have e : (Addr.add ⟨w.heap.size, 0, none⟩ i) = ⟨w.heap.size, i, none⟩ := by unfold Addr.add; split <;> simp_all
  rw [e]
  simp [hi, List.getD]

theorem up1 (m a : Int) (W : World) (g : Nat) (hg : W.heap.size = g) (hm0 : 0 ≤ m) (hm1 : m ≤ 4611686018427387904) :
    Calls Try.prog 67 #[.int .i64 m, .slice (some ⟨g, 0, none⟩) 1 1] (W.alloc (.cells #[.int .i64 a] 2)) fun e w' => e = .returned (.bool (upB m [a])) ∧ W.alloc (.cells #[.int .i64 a] 2) = w' := by
  subst hg
  exact upTo_c m _ [a] 1 _ hm0 hm1 (by simp) (intsAt_alloc W 2 [a])
theorem up2 (m a b : Int) (W : World) (g : Nat) (hg : W.heap.size = g) (hm0 : 0 ≤ m) (hm1 : m ≤ 4611686018427387904) :
    Calls Try.prog 67 #[.int .i64 m, .slice (some ⟨g, 0, none⟩) 2 2] (W.alloc (.cells #[.int .i64 a, .int .i64 b] 2)) fun e w' => e = .returned (.bool (upB m [a, b])) ∧ W.alloc (.cells #[.int .i64 a, .int .i64 b] 2) = w' := by
  subst hg
  exact upTo_c m _ [a, b] 2 _ hm0 hm1 (by simp) (intsAt_alloc W 2 [a, b])
theorem up3 (m a b c : Int) (W : World) (g : Nat) (hg : W.heap.size = g) (hm0 : 0 ≤ m) (hm1 : m ≤ 4611686018427387904) :
    Calls Try.prog 67 #[.int .i64 m, .slice (some ⟨g, 0, none⟩) 3 3] (W.alloc (.cells #[.int .i64 a, .int .i64 b, .int .i64 c] 2)) fun e w' => e = .returned (.bool (upB m [a, b, c])) ∧ W.alloc (.cells #[.int .i64 a, .int .i64 b, .int .i64 c] 2) = w' := by
  subst hg
  exact upTo_c m _ [a, b, c] 3 _ hm0 hm1 (by simp) (intsAt_alloc W 2 [a, b, c])
theorem up4 (m a b c d : Int) (W : World) (g : Nat) (hg : W.heap.size = g) (hm0 : 0 ≤ m) (hm1 : m ≤ 4611686018427387904) :
    Calls Try.prog 67 #[.int .i64 m, .slice (some ⟨g, 0, none⟩) 4 4] (W.alloc (.cells #[.int .i64 a, .int .i64 b, .int .i64 c, .int .i64 d] 2)) fun e w' => e = .returned (.bool (upB m [a, b, c, d])) ∧ W.alloc (.cells #[.int .i64 a, .int .i64 b, .int .i64 c, .int .i64 d] 2) = w' := by
  subst hg
  exact upTo_c m _ [a, b, c, d] 4 _ hm0 hm1 (by simp) (intsAt_alloc W 2 [a, b, c, d])

theorem upB1 {m a : Int} : upB m [a] = true ↔ (-m ≤ a ∧ a ≤ m) := by simp [upB]
theorem upB2 {m a b : Int} : upB m [a, b] = true ↔ (-m ≤ a ∧ a ≤ m) ∧ (-m ≤ b ∧ b ≤ m) := by simp [upB]
theorem upB3 {m a b c : Int} : upB m [a, b, c] = true ↔ (-m ≤ a ∧ a ≤ m) ∧ (-m ≤ b ∧ b ≤ m) ∧ (-m ≤ c ∧ c ≤ m) := by simp [upB]
theorem upB4 {m a b c d : Int} : upB m [a, b, c, d] = true ↔ (-m ≤ a ∧ a ≤ m) ∧ (-m ≤ b ∧ b ≤ m) ∧ (-m ≤ c ∧ c ≤ m) ∧ (-m ≤ d ∧ d ≤ m) := by simp [upB]

namespace Dv
def turnB (a b x : Int) : Bool := upB 1073741824 [a, b] && angB x
def turnX (a b s c : Int) : Int := (a * c + b * s) / 16384
def turnY (a b s c : Int) : Int := (b * c - a * s) / 16384
def turnTo1 (a b x : Int) : Int := if turnB a b x = true then turnX a b (sine x) (cosine x) else 0
def turnTo2 (a b x : Int) : Int := if turnB a b x = true then turnY a b (sine x) (cosine x) else 0
def turnE (a b x : Int) : Int := if turnB a b x = true then 0 else 3
end Dv

set_option maxHeartbeats 400000 in
theorem turned_c (x y s c : Int) (w : World) (hx : -1073741824 ≤ x ∧ x ≤ 1073741824) (hy : -1073741824 ≤ y ∧ y ≤ 1073741824) (hs : -16384 ≤ s ∧ s ≤ 16384) (hc : -16384 ≤ c ∧ c ≤ 16384) :
    Calls Try.prog 86 #[.int .i64 x, .int .i64 y, .int .i64 s, .int .i64 c] w fun e w' => e = .returned (.tuple #[.int .i64 (Dv.turnX x y s c), .int .i64 (Dv.turnY x y s c)]) ∧ w = w' := by
  obtain ⟨a0, a1⟩ := Dv.mul_bd _ _ hx hc
  obtain ⟨b0, b1⟩ := Dv.mul_bd _ _ hy hs
  obtain ⟨c0, c1⟩ := Dv.mul_bd _ _ hy hc
  obtain ⟨d0, d1⟩ := Dv.mul_bd _ _ hx hs
  clear hx hy hs hc
  go_enter Try.func86, Try.ntmps86
  go_wp2_with (go_at_call 69; refine (div_c _ _ _ (by omega) (by omega) (by omega)).mono ?_; rintro e w' ⟨rfl, rfl⟩)
  go_ret2
  exact ⟨rfl, rfl⟩

set_option maxHeartbeats 400000 in
theorem TurnTo_c (a b x : Int) (w : World) : Calls Try.prog 29 #[.int .i64 a, .int .i64 b, .int .i64 x] w fun e w' => e = .returned (.tuple #[.int .i64 (Dv.turnTo1 a b x), .int .i64 (Dv.turnTo2 a b x), .int .i64 (Dv.turnE a b x)]) ∧ Below w.heap.size w w' := by
  by_cases h : Dv.turnB a b x = true
  · have h' := h
    unfold Dv.turnB at h'
    rw [Bool.and_eq_true] at h'
    obtain ⟨hup, hang⟩ := h'
    have E := Lib.hid (show Dv.turnTo1 a b x = Dv.turnX a b (Dv.sine x) (Dv.cosine x) ∧ Dv.turnTo2 a b x = Dv.turnY a b (Dv.sine x) (Dv.cosine x) ∧ Dv.turnE a b x = 0 from by simp [Dv.turnTo1, Dv.turnTo2, Dv.turnE, h])
    obtain ⟨ha, hb⟩ := upB2.1 hup
    have h' : 0 ≤ x ∧ x < 65536 := by simpa [Dv.angB] using hang
    obtain ⟨h0, h1⟩ := h'
    have hs := Dv.sine_bd x h0 h1
    have hc : -16384 ≤ Dv.cosine x ∧ Dv.cosine x ≤ 16384 := Dv.sine_bd _ (by omega) (by omega)
    clear h
    go_enter Try.func29, Try.ntmps29
    go_wp2_with (first | (go_at_call 67; refine (up2 _ _ _ _ _ rfl (by omega) (by omega)).mono ?_; rintro e w' ⟨rfl, rfl⟩) | (go_at_call 71; refine (angle_c _ _).mono ?_; rintro e w' ⟨rfl, rfl⟩) | (go_at_call 72; refine (sine_c _ _ h0 h1).mono ?_; rintro e w' ⟨rfl, rfl⟩) | (go_at_call 73; refine (cosine_c _ _ h0 h1).mono ?_; rintro e w' ⟨rfl, rfl⟩) | (go_at_call 86; refine (turned_c _ _ _ _ _ ha hb hs hc).mono ?_; rintro e w' ⟨rfl, rfl⟩))
    go_ret3
    exact ⟨ret3_int E.out.1.symm E.out.2.1.symm E.out.2.2.symm, (Below.refl _ _).alloc (Nat.le_refl _) _⟩
  · have E := Lib.hid (show Dv.turnTo1 a b x = 0 ∧ Dv.turnTo2 a b x = 0 ∧ Dv.turnE a b x = 3 from by simp [Dv.turnTo1, Dv.turnTo2, Dv.turnE, h])
    by_cases hup : upB 1073741824 [a, b] = true
    · have hang : Dv.angB x = false := by
        cases hx : Dv.angB x
        · rfl
        · exact absurd (by rw [Dv.turnB, hup, hx]; rfl) h
      clear h
      go_enter Try.func29, Try.ntmps29
      go_wp2_with (first | (go_at_call 67; refine (up2 _ _ _ _ _ rfl (by omega) (by omega)).mono ?_; rintro e w' ⟨rfl, rfl⟩) | (go_at_call 71; refine (angle_c _ _).mono ?_; rintro e w' ⟨rfl, rfl⟩))
      go_ret3
      exact ⟨ret3_int E.out.1.symm E.out.2.1.symm E.out.2.2.symm, (Below.refl _ _).alloc (Nat.le_refl _) _⟩
    · have hup : upB 1073741824 [a, b] = false := by simpa using hup
      clear h
      go_enter Try.func29, Try.ntmps29
      go_wp2_with (first | (go_at_call 67; refine (up2 _ _ _ _ _ rfl (by omega) (by omega)).mono ?_; rintro e w' ⟨rfl, rfl⟩))
      go_ret3
      exact ⟨ret3_int E.out.1.symm E.out.2.1.symm E.out.2.2.symm, (Below.refl _ _).alloc (Nat.le_refl _) _⟩
end Go.Proofs.Ytcneohhfnnelgaa
