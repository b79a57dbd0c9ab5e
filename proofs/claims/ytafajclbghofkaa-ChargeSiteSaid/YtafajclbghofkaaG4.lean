/- Contracts of the reference's tag: four of coulombref09; List, sum, Digest, Tag of coulombref07. -/
import Derived.Test.YtafajclbghofkaaG0
import Derived.Test.YtafajclbghofkaaG1
import Derived.OwnWalk
namespace Go.Proofs.Ytafajclbghofkaa
open Go.RowKit
set_option linter.unusedVariables false

theorem info5 : (Try.prog.info? 5).map (fun i => (i.zero, i.size, i.bytes)) = some (some (.int .u8 0), 1, 1) := by kernel_rfl
theorem info83 : (Try.prog.info? 83).map (fun i => (i.zero, i.size, i.bytes)) = some (some (.int .u64 0), 1, 8) := by kernel_rfl
/-- a row of bytes, and a row of words -/
abbrev BRow (B : Nat) (A : Option Addr) (n cap : Nat) (bs : List Int) (W : World) : Prop := W.ownsRow B 5 1 (.slice A n cap) n (bs.map (Value.int .u8))
abbrev URow (B : Nat) (A : Option Addr) (n cap : Nat) (us : List Int) (W : World) : Prop := W.ownsRow B 83 1 (.slice A n cap) n (us.map (Value.int .u64))
theorem row_new {W : World} {B : Nat} {t : TypeId} {cs : List Value} (hB : B ≤ W.heap.size) (hn : cs.length ≤ maxLen) : (W.alloc (.cells cs.toArray t)).ownsRow B t 1 (.slice (some ⟨W.heap.size, 0, none⟩) cs.length cs.length) cs.length cs :=
  ⟨by simp, .inr ⟨W.heap.size, cs.length, cs.toArray, rfl, hB, Blk.new W cs t, Nat.le_refl _, hn, by simp, by simp⟩⟩
theorem blk_row {W : World} {B g : Nat} {t : TypeId} {cs : List Value} (h : Blk W g t cs) (hB : B ≤ g) (hn : cs.length ≤ maxLen) : W.ownsRow B t 1 (.slice (some ⟨g, 0, none⟩) cs.length cs.length) cs.length cs :=
  ⟨by simp, .inr ⟨g, cs.length, cs.toArray, rfl, hB, h, Nat.le_refl _, hn, by simp, by simp⟩⟩
theorem src_blk {W : World} {g : Nat} {t : TypeId} {cs : List Value} (h : Blk W g t cs) (m : Nat) : SrcRow W (some ⟨g, 0, none⟩) m cs :=
  .inr ⟨_, rfl, fun j u hu => by rw [show ((⟨g, 0, none⟩ : Addr).add j) = ⟨g, j, none⟩ from (by unfold Addr.add; split <;> simp_all)]; exact h.cell j hu⟩
theorem src_row {W : World} {B n cap m : Nat} {e : TypeId} {A : Option Addr} {xs : List Value} (h : W.ownsRow B e 1 (.slice A n cap) n xs) (hn : 0 < n) : SrcRow W A m xs := by
  obtain ⟨g, rfl, _, _, _, hc⟩ := rowE_cells h hn
  exact .inr ⟨_, rfl, fun j u hu => by rw [show ((⟨g, 0, none⟩ : Addr).add j) = ⟨g, j, none⟩ from (by unfold Addr.add; split <;> simp_all)]; exact hc j u hu⟩
theorem one_u8 (bs : List Int) : ∀ u ∈ bs.map (Value.int .u8), u.oneCell' = true := by
  intro u hu
  obtain ⟨b, _, rfl⟩ := List.mem_map.1 hu
  rfl
theorem one_u64 (bs : List Int) : ∀ u ∈ bs.map (Value.int .u64), u.oneCell' = true := by
  intro u hu
  obtain ⟨b, _, rfl⟩ := List.mem_map.1 hu
  rfl
theorem urow_pads {W : World} {B n cap : Nat} {A : Option Addr} {us : List Int} (h : URow B A n cap us W) (hn : us.length = n) (h0 : 0 < n) : PadsAt W A us := by
  obtain ⟨g, rfl, hlt, _, _, hc⟩ := rowE_cells h h0
  intro i hi
  refine ⟨_, rfl, hlt, ?_⟩
  rw [show ((⟨g, 0, none⟩ : Addr).add i) = ⟨g, i, none⟩ from (by unfold Addr.add; split <;> simp_all)]
  exact hc i _ (by simp [List.getD, hi])

theorem four_c (n : Int) (hn : 0 ≤ n ∧ n ≤ 2147483647) (w : World) : Calls Try.prog 66 #[.int .i64 n] w fun e w' => e = .returned (.slice (some ⟨w.heap.size, 0, none⟩) 4 4) ∧ Below w.heap.size w w' ∧ Blk w' w.heap.size 5 ((Pf.four n).map (Value.int .u8)) := by
  have e1 : IntKind.u8.wrap (n / 16777216 % 256) = n / 16777216 % 256 := IntWalk.u8_in _ (by omega)
  have e2 : IntKind.u8.wrap (n / 65536 % 256) = n / 65536 % 256 := IntWalk.u8_in _ (by omega)
  have e3 : IntKind.u8.wrap (n / 256 % 256) = n / 256 % 256 := IntWalk.u8_in _ (by omega)
  have e4 : IntKind.u8.wrap (n % 256) = n % 256 := IntWalk.u8_in _ (by omega)
  go_enter Try.func66, Try.ntmps66
  go_wp2
  go_ret
  exact ⟨rfl, (Below.refl _ _).alloc (Nat.le_refl _) _, Blk.new' w _ 5⟩
end Go.Proofs.Ytafajclbghofkaa
