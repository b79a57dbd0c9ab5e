/- NewSite of charge and of coulombref09; a site of coulombref09 in memory. -/
import Derived.Test.YtafajclbghofkaaS11
import Derived.Laws.MakeOwn
namespace Go.Proofs.Ytafajclbghofkaa
open Go.RowKit
set_option linter.unusedVariables false
/-- a site of coulombref09 -/
structure RefAt (W : World) (rs rc cc : Nat) (A : Nat → Option Addr) (q : Nat → Nat) (cs : List Sx.Cl) (D Bk N : Int) : Prop where
  s : Blk W rs 144 [.int .i64 D, .int .i64 Bk, .int .i64 N, .slice (some ⟨rc, 0, none⟩) cs.length cc]
  a : ArrAt W rc 156 cs.length (fun i => clV (A i) (q i) (cs.getD i default))
  r : ∀ i, i < cs.length → LRow 0 (A i) (q i) (cs.getD i default).L W
  c : cs.length ≤ cc ∧ cc ≤ 9223372036854775807
theorem RefAt.touch {W W' : World} {rs rc cc : Nat} {A : Nat → Option Addr} {q : Nat → Nat} {cs : List Sx.Cl} {D Bk N : Int} {S : Nat → Prop} (h : RefAt W rs rc cc A q cs D Bk N) (ht : Touch S W W') (hn : ∀ k, SOwn rs rc A cs.length k → ¬ S k) : RefAt W' rs rc cc A q cs D Bk N :=
  ⟨h.s.touch ht (hn _ (.inl rfl)), h.a.touch ht (hn _ (.inr (.inl rfl))), fun i hi => rowE_keep (h.r i hi) ht (fun k hk => hn k (.inr (.inr ⟨i, hi, hk⟩))), h.c⟩
theorem RefAt.below {W W' : World} {rs rc cc : Nat} {A : Nat → Option Addr} {q : Nat → Nat} {cs : List Sx.Cl} {D Bk N : Int} (h : RefAt W rs rc cc A q cs D Bk N) (hb : Below W.heap.size W W') : RefAt W' rs rc cc A q cs D Bk N :=
  h.touch (Touch.of_below (S := fun _ => False) hb) (fun _ _ e => e)
theorem RefAt.lt {W : World} {rs rc cc : Nat} {A : Nat → Option Addr} {q : Nat → Nat} {cs : List Sx.Cl} {D Bk N : Int} (h : RefAt W rs rc cc A q cs D Bk N) {k : Nat} (hk : SOwn rs rc A cs.length k) : k < W.heap.size := by
  rcases hk with rfl | rfl | ⟨i, hi, hk⟩
  · exact h.s.lt
  · exact h.a.lt
  · exact (rowE_lt (h.r i hi) hk).2
theorem SiteAt.lt {W : World} {B rs rc cc : Nat} {A : Nat → Option Addr} {q : Nat → Nat} {cs : List Sx.Cl} {D Bk N : Int} (h : SiteAt W B rs rc cc A q cs D Bk N) {k : Nat} (hk : SOwn rs rc A cs.length k) : k < W.heap.size := by
  rcases hk with rfl | rfl | ⟨i, hi, hk⟩
  · exact h.s.lt
  · exact h.a.lt
  · exact (rowE_lt (h.r i hi) hk).2
namespace Sx
def cl0 : Cl := ⟨[], 0, 0⟩
def nsE (st dr bk : Int) : Int := if st < 1 ∨ 32 < st then 3 else if (0 ≤ dr ∧ dr ≤ 1073741824) ∧ (0 ≤ bk ∧ bk ≤ 1073741824) then 0 else 2
def cs0 (n : Nat) : List Cl := List.replicate n cl0
theorem cs0_len (n : Nat) : (cs0 n).length = n := by simp [cs0]
theorem cs0_at {n i : Nat} (hi : i < n) : (cs0 n).getD i default = cl0 := by simp [cs0, List.getD_eq_getElem?_getD, hi]
end Sx
theorem info147 : (Try.prog.info? 147).map (fun i => (i.zero, i.size, i.bytes)) = some (some (.agg #[.slice none 0 0, .int .i64 0, .int .i64 0]), 3, 40) := by kernel_rfl
theorem info156 : (Try.prog.info? 156).map (fun i => (i.zero, i.size, i.bytes)) = some (some (.agg #[.slice none 0 0, .int .i64 0, .int .i64 0]), 3, 40) := by kernel_rfl
def zCl (n : Nat) : Array Value := madeCells #[.slice none 0 0, .int .i64 0, .int .i64 0] (n * 3)
theorem make_cl (n : Nat) (hn : n ≤ 32) (W : World) : (Instr.makeSlice 139 (.int .i64 n) (.int .i64 n)).run Try.prog W = .ok (.slice (some ⟨W.heap.size, 0, none⟩) n n) (W.alloc (.cells (zCl n) 147)) := by
  obtain ⟨i, hi, hz0, hz1, hz2⟩ := info_parts info147
  have hr := run_make (P := Try.prog) W 139 147 i _ Try.underlying139 hi hz0 .i64 .i64 n n (by omega) (by omega) (by rw [hz2]; omega) (by omega)
  simp only [Int.toNat_natCast, hz1] at hr
  exact hr
theorem make_st (n : Nat) (hn : n ≤ 32) (W : World) : (Instr.makeSlice 142 (.int .i64 n) (.int .i64 n)).run Try.prog W = .ok (.slice (some ⟨W.heap.size, 0, none⟩) n n) (W.alloc (.cells (zCl n) 156)) := by
  obtain ⟨i, hi, hz0, hz1, hz2⟩ := info_parts info156
  have hr := run_make (P := Try.prog) W 142 156 i _ Try.underlying142 hi hz0 .i64 .i64 n n (by omega) (by omega) (by rw [hz2]; omega) (by omega)
  simp only [Int.toNat_natCast, hz1] at hr
  exact hr
theorem arr_new (W : World) (ty : TypeId) (n : Nat) : ArrAt (W.alloc (.cells (zCl n) ty)) W.heap.size ty n (fun i => clV none 0 ((Sx.cs0 n).getD i default)) := by
  refine ⟨zCl n, by show (W.heap.push _)[W.heap.size]? = _; simp, fun i hi j u hu => ?_⟩
  simp only [Sx.cs0_at hi] at hu
  have hj : j < 3 := by rw [← clV_len none 0 Sx.cl0]; exact (List.getElem?_eq_some_iff.1 hu).1
  have hk : i * 3 + j < n * 3 := by omega
  have hm : (i * 3 + j) % 3 = j := by omega
  have : j = 0 ∨ j = 1 ∨ j = 2 := by omega
  unfold zCl madeCells
  rw [Array.getElem?_map, show (Array.range (n * 3))[i * 3 + j]? = some (i * 3 + j) by simp [hk]]
  simp only [Option.map_some]
  rw [show (#[Value.slice none 0 0, .int .i64 0, .int .i64 0] : Array Value).size = 3 from rfl, hm]
  rcases this with rfl | rfl | rfl <;> · rw [← hu]; rfl
theorem row_nil (W : World) (B : Nat) : LRow B none 0 [] W := World.ownsRow_nil _ _ _ _
theorem site_new {W : World} {n : Nat} {D Bk : Int} (B : Nat) (hB : B ≤ W.heap.size) (hn : n ≤ 32) : SiteAt ((W.alloc (.cells (zCl n) 147)).alloc (.cells #[.int .i64 D, .int .i64 Bk, .int .i64 0, .slice (some ⟨W.heap.size, 0, none⟩) n n] 141)) B (W.heap.size + 1) W.heap.size n (fun _ => none) (fun _ => 0) (Sx.cs0 n) D Bk 0 := by
  have hs := Blk.new' (W.alloc (.cells (zCl n) 147)) #[.int .i64 D, .int .i64 Bk, .int .i64 0, .slice (some ⟨W.heap.size, 0, none⟩) n n] 141
  simp only [World.size_alloc] at hs
  have ha := (arr_new W 147 n).below ((Below.refl _ _).alloc (Nat.le_refl _) (.cells #[.int .i64 D, .int .i64 Bk, .int .i64 0, .slice (some ⟨W.heap.size, 0, none⟩) n n] 141))
  refine ⟨by rw [Sx.cs0_len]; exact hs, by rw [Sx.cs0_len]; exact ha, fun i hi => ?_, fun i j _ _ _ k hk => (by obtain ⟨a, e, _⟩ := hk; cases e), by omega, by rw [Sx.cs0_len]; omega⟩
  rw [Sx.cs0_len] at hi
  rw [Sx.cs0_at hi]
  exact row_nil _ _
theorem ref_new {W : World} {n : Nat} {D Bk : Int} (hn : n ≤ 32) : RefAt ((W.alloc (.cells (zCl n) 156)).alloc (.cells #[.int .i64 D, .int .i64 Bk, .int .i64 0, .slice (some ⟨W.heap.size, 0, none⟩) n n] 144)) (W.heap.size + 1) W.heap.size n (fun _ => none) (fun _ => 0) (Sx.cs0 n) D Bk 0 := by
  have hs := Blk.new' (W.alloc (.cells (zCl n) 156)) #[.int .i64 D, .int .i64 Bk, .int .i64 0, .slice (some ⟨W.heap.size, 0, none⟩) n n] 144
  simp only [World.size_alloc] at hs
  have ha := (arr_new W 156 n).below ((Below.refl _ _).alloc (Nat.le_refl _) (.cells #[.int .i64 D, .int .i64 Bk, .int .i64 0, .slice (some ⟨W.heap.size, 0, none⟩) n n] 144))
  refine ⟨by rw [Sx.cs0_len]; exact hs, by rw [Sx.cs0_len]; exact ha, fun i hi => ?_, by rw [Sx.cs0_len]; omega⟩
  rw [Sx.cs0_len] at hi
  rw [Sx.cs0_at hi]
  exact row_nil _ _
/-- what NewSite says -/
theorem NewSite_no (st dr bk : Int) (w : World) (he : Sx.nsE st dr bk ≠ 0) : Calls Try.prog 41 #[.int .i64 st, .int .i64 dr, .int .i64 bk] w fun e w' => e = .returned (.tuple #[.pointer none, .int .i64 (Sx.nsE st dr bk)]) ∧ w = w' := by
  have HE := Lib.hid he
  clear he
  by_cases h1 : st < 1
  · have e : Sx.nsE st dr bk = 3 := by unfold Sx.nsE; rw [if_pos (.inl h1)]
    rw [e]
    clear e HE
    go_enter Try.func41, Try.ntmps41
    go_wp2
    go_ret2
    exact ⟨rfl, rfl⟩
  by_cases h2 : 32 < st
  · have e : Sx.nsE st dr bk = 3 := by unfold Sx.nsE; rw [if_pos (.inr h2)]
    rw [e]
    clear e HE
    go_enter Try.func41, Try.ntmps41
    go_wp2
    go_ret2
    exact ⟨rfl, rfl⟩
  rcases Bool.eq_false_or_eq_true (Cv.inB dr 0 1073741824) with k1 | k1
  rotate_left 1
  · have e : Sx.nsE st dr bk = 2 := by unfold Sx.nsE; rw [if_neg (by omega), if_neg (fun h => inB_no k1 h.1)]
    rw [e]
    clear e HE
    go_enter Try.func41, Try.ntmps41
    go_wp2_with (go_at_call 51; refine (within_c _ _ _ _).mono ?_; rintro e w' ⟨rfl, rfl⟩)
    go_ret2
    exact ⟨rfl, rfl⟩
  rcases Bool.eq_false_or_eq_true (Cv.inB bk 0 1073741824) with k2 | k2
  rotate_left 1
  · have e : Sx.nsE st dr bk = 2 := by unfold Sx.nsE; rw [if_neg (by omega), if_neg (fun h => inB_no k2 h.2)]
    rw [e]
    clear e HE
    go_enter Try.func41, Try.ntmps41
    go_wp2_with (go_at_call 51; refine (within_c _ _ _ _).mono ?_; rintro e w' ⟨rfl, rfl⟩)
    go_ret2
    exact ⟨rfl, rfl⟩
  · exact absurd (by unfold Sx.nsE; rw [if_neg (by omega), if_pos ⟨inB_yes k1, inB_yes k2⟩]) HE.out
theorem nsE_ok {st dr bk : Int} (h : Sx.nsE st dr bk = 0) : (1 ≤ st ∧ st ≤ 32) ∧ (0 ≤ dr ∧ dr ≤ 1073741824) ∧ (0 ≤ bk ∧ bk ≤ 1073741824) := by
  unfold Sx.nsE at h
  split at h
  · cases h
  · split at h
    · rename_i h1 h2; exact ⟨by omega, h2⟩
    · cases h
theorem inB_mk {x lo hi : Int} (h : lo ≤ x ∧ x ≤ hi) : Cv.inB x lo hi = true := by simpa [Cv.inB] using h
theorem NewSite_c (n : Nat) (dr bk : Int) (w : World) (he : Sx.nsE n dr bk = 0) : Calls Try.prog 41 #[.int .i64 n, .int .i64 dr, .int .i64 bk] w fun e w' => e = .returned (.tuple #[.pointer (some ⟨w.heap.size + 1, 0, none⟩), .int .i64 0]) ∧ w' = (w.alloc (.cells (zCl n) 147)).alloc (.cells #[.int .i64 dr, .int .i64 bk, .int .i64 0, .slice (some ⟨w.heap.size, 0, none⟩) n n] 141) := by
  obtain ⟨h1, h2, h3⟩ := nsE_ok he
  have k1 := inB_mk h2
  have k2 := inB_mk h3
  have hmk := make_cl n (by omega)
  have n1 : decide ((n : Int) < 1) = false := decide_eq_false (by omega)
  have n2 : decide (32 < (n : Int)) = false := decide_eq_false (by omega)
  clear he h1 h2 h3
  go_enter Try.func41, Try.ntmps41
  go_wp2_with (go_at_call 51; refine (within_c _ _ _ _).mono ?_; rintro e w' ⟨rfl, rfl⟩)
  go_ret2
  exact ⟨rfl, rfl⟩
/-- what NewSite says -/
theorem NewSiteR_no (st dr bk : Int) (w : World) (he : Sx.nsE st dr bk ≠ 0) : Calls Try.prog 42 #[.int .i64 st, .int .i64 dr, .int .i64 bk] w fun e w' => e = .returned (.tuple #[.pointer none, .int .i64 (Sx.nsE st dr bk)]) ∧ w = w' := by
  have HE := Lib.hid he
  clear he
  by_cases h1 : st < 1
  · have e : Sx.nsE st dr bk = 3 := by unfold Sx.nsE; rw [if_pos (.inl h1)]
    rw [e]
    clear e HE
    go_enter Try.func42, Try.ntmps42
    go_wp2
    go_ret2
    exact ⟨rfl, rfl⟩
  by_cases h2 : 32 < st
  · have e : Sx.nsE st dr bk = 3 := by unfold Sx.nsE; rw [if_pos (.inr h2)]
    rw [e]
    clear e HE
    go_enter Try.func42, Try.ntmps42
    go_wp2
    go_ret2
    exact ⟨rfl, rfl⟩
  rcases Bool.eq_false_or_eq_true (Cv.inB dr 0 1073741824) with k1 | k1
  rotate_left 1
  · have e : Sx.nsE st dr bk = 2 := by unfold Sx.nsE; rw [if_neg (by omega), if_neg (fun h => inB_no k1 h.1)]
    rw [e]
    clear e HE
    go_enter Try.func42, Try.ntmps42
    go_wp2_with (go_at_call 54; refine (in_c _ _ _ _).mono ?_; rintro e w' ⟨rfl, rfl⟩)
    go_ret2
    exact ⟨rfl, rfl⟩
  rcases Bool.eq_false_or_eq_true (Cv.inB bk 0 1073741824) with k2 | k2
  rotate_left 1
  · have e : Sx.nsE st dr bk = 2 := by unfold Sx.nsE; rw [if_neg (by omega), if_neg (fun h => inB_no k2 h.2)]
    rw [e]
    clear e HE
    go_enter Try.func42, Try.ntmps42
    go_wp2_with (go_at_call 54; refine (in_c _ _ _ _).mono ?_; rintro e w' ⟨rfl, rfl⟩)
    go_ret2
    exact ⟨rfl, rfl⟩
  · exact absurd (by unfold Sx.nsE; rw [if_neg (by omega), if_pos ⟨inB_yes k1, inB_yes k2⟩]) HE.out
theorem NewSiteR_c (n : Nat) (dr bk : Int) (w : World) (he : Sx.nsE n dr bk = 0) : Calls Try.prog 42 #[.int .i64 n, .int .i64 dr, .int .i64 bk] w fun e w' => e = .returned (.tuple #[.pointer (some ⟨w.heap.size + 1, 0, none⟩), .int .i64 0]) ∧ w' = (w.alloc (.cells (zCl n) 156)).alloc (.cells #[.int .i64 dr, .int .i64 bk, .int .i64 0, .slice (some ⟨w.heap.size, 0, none⟩) n n] 144) := by
  obtain ⟨h1, h2, h3⟩ := nsE_ok he
  have k1 := inB_mk h2
  have k2 := inB_mk h3
  have hmk := make_st n (by omega)
  have n1 : decide ((n : Int) < 1) = false := decide_eq_false (by omega)
  have n2 : decide (32 < (n : Int)) = false := decide_eq_false (by omega)
  clear he h1 h2 h3
  go_enter Try.func42, Try.ntmps42
  go_wp2_with (go_at_call 54; refine (in_c _ _ _ _).mono ?_; rintro e w' ⟨rfl, rfl⟩)
  go_ret2
  exact ⟨rfl, rfl⟩
end Go.Proofs.Ytafajclbghofkaa
