import Derived.Test.YtafajclbghofkaaA8
import Derived.Deep.AppendLies
import Derived.Deep.RegionLaw
namespace Go.Proofs.Ytafajclbghofkaa
open Go.RowKit
set_option linter.unusedVariables false
theorem info60 : (Try.prog.info? 60).map (fun i => (i.zero, i.size, i.bytes)) = some (some (.agg #[.int .i64 0, .int .i64 0, .int .i64 0, .int .i64 0, .int .i64 0]), 5, 40) := by kernel_rfl
set_option maxHeartbeats 1000000 in
theorem Send_x (g : Nat) (x x1 x2 x3 x4 : Int) (w : World) (c0 : w.cell? ⟨g, 0, none⟩ = some (.bool true)) (c1 : w.cell? ⟨g, 1, none⟩ = some (.slice none 0 0)) (f1 : w.frozen? ⟨g, 1, none⟩ = false) (hg : g < w.heap.size) : Calls Try.prog 28 #[.pointer (some ⟨g, 0, none⟩), .agg #[.int .i64 x, .int .i64 x1, .int .i64 x2, .int .i64 x3, .int .i64 x4]] w fun e w' => e = .returned (.int .i64 0) ∧ Below g w w' ∧ w'.cell? ⟨g, 0, none⟩ = some (.bool true) ∧ ∃ g' cap, w'.cell? ⟨g, 1, none⟩ = some (.slice (some ⟨g', 0, none⟩) 1 cap) := by
  obtain ⟨i0, hi, hz0, hz1, hz2⟩ := info_parts info60
  go_enter Try.func28, Try.ntmps28
  go_wp2
  go_region_law (first | (refine step_append_lies _ rfl (.tmp 20) (.tmp 22) 76 rfl w.heap.size 60 i0 (.agg #[.int .i64 0, .int .i64 0, .int .i64 0, .int .i64 0, .int .i64 0]) 5 40 Try.underlying76 hi hz0 hz1 hz2 rfl (by decide) (.slice none 0 0) 0 [] (by simp [Act.eval]) (World.ownsRow_nil _ _ _ _) ⟨w.heap.size + 1, 0, none⟩ 1 1 [.int .i64 x, .int .i64 x1, .int .i64 x2, .int .i64 x3, .int .i64 x4] (by simp [Act.eval]) rfl (by intro j u hj; match j, hj with | 0, hj => simp at hj; subst hj; simp [Addr.add, go_sem] | 1, hj => simp at hj; subst hj; simp [Addr.add, go_sem] | 2, hj => simp at hj; subst hj; simp [Addr.add, go_sem] | 3, hj => simp at hj; subst hj; simp [Addr.add, go_sem] | 4, hj => simp at hj; subst hj; simp [Addr.add, go_sem]) (by simp [Value.oneCell']) (by omega) (by decide) (by omega) (by simp; omega) _ rfl ?_; intro g' cap w1 hown hgrow hat hlt; have d1 : w1.cell? ⟨g, 1, none⟩ = some (.slice none 0 0) := (hgrow.cell_far ⟨g, 1, none⟩ (by simp; omega) (by simp [Value.ownBlock])).trans (by go_simp); have e1 : w1.frozen? ⟨g, 1, none⟩ = false := (hgrow.frozen_far ⟨g, 1, none⟩ (by simp; omega) (by simp [Value.ownBlock])).trans (by go_simp); have d0 : w1.cell? ⟨g, 0, none⟩ = some (.bool true) := (hgrow.cell_far ⟨g, 0, none⟩ (by simp; omega) (by simp [Value.ownBlock])).trans (by go_simp); have hb : Below g w w1 := Below.grown ((((Below.refl g w).alloc (by omega) _).drew).alloc (by simp; omega) _) hgrow (by simp; omega) (by simp [Value.ownBlock])))
  all_goals
    go_wp2_with fail
    go_ret
    exact ⟨rfl, hb.setCell (Nat.le_refl _) _, by go_simp, g', cap, by go_simp⟩
end Go.Proofs.Ytafajclbghofkaa
