/- The contract of slices.Clone. -/
import Derived.Test.YtmebpglkeedaoaaC3
import Derived.Test.YtmebpglkeedaoaaM2
import Derived.WalkSpells
import Derived.Lib.SliceRun
namespace Go.Proofs.Ytmebpglkeedaoaa
open Go.RowKit Dp
set_option linter.unusedVariables false

theorem info2 : (Try.prog.info? 2).map (fun i => (i.zero, i.size, i.bytes)) = some (some (.int .i64 0), 1, 8) := by kernel_rfl
theorem info_parts {P : Program} {t : TypeId} {z : Option Value} {a b : Nat} (h : (P.info? t).map (fun i => (i.zero, i.size, i.bytes)) = some (z, a, b)) : ∃ i, P.info? t = some i ∧ i.zero = z ∧ i.size = a ∧ i.bytes = b := by
  cases hi : P.info? t with
  | none => rw [hi] at h; cases h
  | some i =>
    rw [hi] at h
    simp only [Option.map_some, Option.some.injEq, Prod.mk.injEq] at h
    exact ⟨i, rfl, h.1, h.2.1, h.2.2⟩
/-- numbers in a slice of the call's own, at block g -/
def OwnI (B : Nat) (W : World) (g c : Nat) (xs : List Int) : Prop := W.ownsRow B 2 1 (.slice (some ⟨g, 0, none⟩) xs.length c) xs.length (xs.map (Value.int .i64))

set_option maxHeartbeats 1000000 in
set_option maxRecDepth 100000 in
theorem clone_c (A : Option Addr) (xs : List Int) (n cap : Nat) (w : World) (hn : n = xs.length) (h1 : 1 ≤ n) (h2 : n ≤ 4096) (hA : IntsAt w A xs) :
    Calls Try.prog 57 #[.slice A n cap] w fun e w' => ∃ g c, e = .returned (.slice (some ⟨g, 0, none⟩) n c) ∧ Below w.heap.size w w' ∧ w.heap.size ≤ g ∧ g < w'.heap.size ∧ OwnI w.heap.size w' g c xs := by
  obtain ⟨ad, rfl, hbl, hc0⟩ := hA 0 (by omega)
  have HA := Lib.hid hA
  have HN := Lib.hid hn
  have hsrc : SrcRow (w.alloc (.cells #[] 2)) (some ad) n (xs.map (Value.int .i64)) := .inr ⟨ad, rfl, fun j u hu => by
    have hj : j < xs.length := by
      rcases Nat.lt_or_ge j xs.length with h | h
      · exact h
      · rw [List.getElem?_eq_none (by simpa using h)] at hu; cases hu
    obtain ⟨ad', e, hb, hc⟩ := HA.out j hj
    cases e
    have hu' : u = .int .i64 (xs.getD j 0) := by
      rw [List.getElem?_map, List.getElem?_eq_getElem hj] at hu
      simp only [Option.map_some, Option.some.injEq] at hu
      rw [← hu, List.getD_eq_getElem?_getD, List.getElem?_eq_getElem hj]; rfl
    rw [hu']
    exact (((Below.refl w.heap.size w).alloc (Nat.le_refl _) (.cells #[] 2)).cell (by rw [block_add]; exact hb)).trans hc⟩
  have HS := Lib.hid hsrc
  clear hsrc hA hn hc0
  obtain ⟨i0, hi, hz0, hz1, hz2⟩ := info_parts info2
  have qT : ∀ w : World, (binOp .eql 22 (.slice (some ad) n cap) (.slice none 0 0)).run Try.prog w = .ok (.bool false) w := fun w => Lib.run_eql_slice_nil w 22 2 (some ad) n cap 0 0 Try.underlying22
  go_enter Try.func57, Try.ntmps57
  go_wp2_with (at_builtin; refine wpList_append_any (.tmp 5) (.tmp 6) 22 rfl rfl w.heap.size 2 i0 (.int .i64 0) 1 8 Try.underlying22 hi hz0 hz1 hz2 rfl (by decide) (some ⟨w.heap.size, 0, none⟩) 0 0 [] (by rfl) (World.ownsRow_lit w #[] 0 (Nat.le_refl _) (Nat.zero_le _) rfl) (some ad) n cap (xs.map (Value.int .i64)) (by rfl) (by rw [HN.out]; simp) HS.out (by simp [Value.oneCell']) (by unfold maxLen; omega) (by omega) (by simp) ?_; intro A3 c3 w2 hown2 hgrow2 hat2; have HO2 := Lib.hid hown2; have HG2 := Lib.hid hgrow2; have HAT2 := Lib.hid hat2; clear hown2 hgrow2 hat2)
  go_ret
  obtain ⟨g, cap', e, z1, z2⟩ := HO2.out.form (by omega)
  cases e
  refine ⟨g, c3, rfl, ?_, z1, z2, ?_⟩
  · refine ((Below.refl w.heap.size w).alloc (Nat.le_refl _) (.cells #[] 2)).grown HG2.out (by simp) ?_
    intro k hk
    cases hk
    exact Nat.le_refl _
  · have := HO2.out
    rw [HN.out] at this
    simpa [OwnI] using this
end Go.Proofs.Ytmebpglkeedaoaa
