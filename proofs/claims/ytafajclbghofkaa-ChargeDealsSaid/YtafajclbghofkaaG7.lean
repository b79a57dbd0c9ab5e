/- Contracts of the tag of passport: digest, Digest, Tag. -/
import Derived.Test.YtafajclbghofkaaG6
namespace Go.Proofs.Ytafajclbghofkaa
open Go.RowKit Go.Shelf
set_option linter.unusedVariables false
attribute [local go_sem] Oper.semAt_some

theorem DgI.drew {w W : World} {fa ma : Addr} {c : Nat} {x : Int} {l : List Int} (h : DgI w fa ma c x l W) : DgI w fa ma c x l W.drew := DgI.own (Nat.le_refl _) _ _ W.drew none h ⟨rfl, rfl, rfl, Nat.le_refl _, fun _ _ _ => rfl⟩ (fun r e => by cases e)
set_option maxRecDepth 100000 in
set_option maxHeartbeats 4000000 in
theorem digest_c (F G c : Nat) (x : Int) (hx : 1 ≤ x ∧ x ≤ 2147483646) (bs : List Int) (w : World) (hfm : FmAt w F G bs) (hc8 : 8 ≤ c) (hcm : c ≤ maxLen) :
    Calls Try.prog 91 #[.pointer (some ⟨F, 4, none⟩), .int .u64 x, .slice (some ⟨G, 0, none⟩) 8 c] w fun e w' => e = .returned (.int .u64 (Pf.horn x (Pf.ws (bs ++ [1]) 3))) ∧ Below w.heap.size w w' := by
  have HF := Lib.hid hfm
  have HC := Lib.hid (And.intro hc8 hcm)
  clear hfm hc8 hcm
  refine (callsIn_wide (n := 3)).1 (callsIn_of_wp_marks Try.func91 rfl trivial (wpIn_wide.2 ?_) rfl)
  simp only [Try.ntmps91, List.size_toArray, List.length_cons, List.length_nil, Nat.reduceAdd, Nat.reduceSub, Array.replicate_succ, Array.replicate_zero, List.push_toArray, List.append_toArray, List.nil_append, List.cons_append]
  go_wp2_with fail
  refine (words_c _ _ _ ⟨_, rfl⟩ ⟨_, _, _, rfl⟩).mono ?_
  rintro e w1 ⟨rfl, hw1⟩
  have HI : Hid (DgI w ⟨F, 4, none⟩ ⟨G, 0, none⟩ c x [] w1) := Lib.hid (DgI.start w1 hw1)
  have hz : w.heap.size ≤ w1.heap.size := HI.out.2.2.2.2.2.size
  simp only [World.size_alloc, Nat.add_assoc, Nat.reduceAdd]
  clear hw1
  go_wp2_with fail
  refine (wpIn_wide (n := 3)).1 (range_mine2 (F := Fence.wide) (n := 3) rfl (by omega) (gf := 95) (lb := #[.pointer (some ⟨w.heap.size + 4, 0, none⟩), .pointer (some ⟨w.heap.size + 3, 0, none⟩)]) rfl trivial (fun _ _ => by kernel_rfl)
    (encs := fun y : Int => #[.int .u64 y]) (fun _ => rfl) (DgI w ⟨F, 4, none⟩ ⟨G, 0, none⟩ c x) (fun _ _ => False) (.exit 0) (fun ys => ys = Pf.ws (bs ++ [1]) 3) (fun pre => True) (fun pre y => 0 ≤ y ∧ y ≤ 16777215)
    (DgI.own hz) (fun _ _ _ _ h _ _ => h) HI.out (fun l J Jx W hJ hJg hY hj => words1_c w F G c x bs l HF.out HC.out.1 HC.out.2 J Jx hJ hJg hY W hj) ?a1 ?assign ?body ?done ?stop)
  case assign =>
    intro l y W K hK
    gi_wp2
    exact hK
  case body =>
    intro l pre y W hI hy
    have HI2 := Lib.hid hI
    have p0 := hI.1.cell 0 rfl
    have p1 := hI.2.1.cell 0 rfl
    have p2 := hI.2.2.1.cell 0 rfl
    have f2 := hI.2.2.1.free 0
    have q1 := (HF.out.below (w1 := W) ⟨hI.2.2.2.2.2.os, hI.2.2.2.2.2.tape, hI.2.2.2.2.2.output, hI.2.2.2.2.2.size, hI.2.2.2.2.2.block⟩).1.1
    have hs := Pf.horn_bd x pre
    have HST := Lib.hid (hI.step (y := y))
    clear hI
    generalize Pf.horn x pre = s at *
    have hm := Pf.mul_pos_bd (show 0 ≤ s + y ∧ s + y ≤ 2164260861 by omega) (show 0 ≤ x ∧ x ≤ 2147483646 by omega)
    gi_wp2
    have w1 : IntKind.u64.wrap (s + y) = s + y := IntWalk.u64_in _ (by omega)
    have w2 : IntKind.u64.wrap ((s + y) * x) = (s + y) * x := IntWalk.u64_in _ (by omega)
    have w3 : ((s + y) * x).tmod 2147483647 = (s + y) * x % 2147483647 := Int.tmod_eq_emod_of_nonneg hm.1
    clear hm hs hy hx
    refine lBeginIn (S := fun L W => (True) ∧ (L.getD 10 false = true ∨ (W.cell? ⟨w.heap.size, 0, none⟩ = some (.pointer (some ⟨F, 4, none⟩)) ∧ W.cell? ⟨w.heap.size + 1, 0, none⟩ = some (.int .u64 x) ∧ W.cell? ⟨w.heap.size + 2, 0, none⟩ = some (.int .u64 s) ∧ W.cell? ⟨F, 4, none⟩ = some (.int .u64 2147483647)))) (by kernel_rfl) (by kernel_rfl) (by first | assumption | exact (fun ⟨_, _, h⟩ => h)) ?_ (fun hHeld => ?_)
    · (try dsimp only); refine ⟨?_, Or.inr ?_⟩
      · (first | trivial | with_reducible assumption)
      · (first | with_reducible assumption | (refine ⟨?_, ?_, ?_, ?_⟩ <;> (go_simp; done)))
    refine lTake (i := 0) (v := ?_) rfl (by kernel_rfl) (by kernel_rfl) (by kernel_rfl) (fun _ _ _ h => h) (by rfl) (fun _ _ h => by simpa only [getD_set_ne false (show 0 ≠ 10 by decide)] using h) (fun _ _ h => by simpa only [getD_set_ne false (show 0 ≠ 10 by decide)] using h) ?_ (by assumption) (fun hHeld2 => ?_)
    rotate_left 1
    · (intro L W hL hK hSw; (try dsimp only at hSw); obtain ⟨h0, h1⟩ := hSw; replace h1 := still [] hK hL (by kernel_rfl) h1; clear hL hK; first | (go_simp; done) | (go_simp; with_reducible rfl))
    clear hHeld; have hHeld := hHeld2; clear hHeld2
    (try simp only [Act.put, List.setIfInBounds_toArray, List.set_cons_zero, List.set_cons_succ])
    refine lTake (i := 1) (v := ?_) rfl (by kernel_rfl) (by kernel_rfl) (by kernel_rfl) (fun _ _ _ h => h) (by rfl) (fun _ _ h => by simpa only [getD_set_ne false (show 1 ≠ 10 by decide)] using h) (fun _ _ h => by simpa only [getD_set_ne false (show 1 ≠ 10 by decide)] using h) ?_ (by assumption) (fun hHeld2 => ?_)
    rotate_left 1
    · (intro _ _ _ _ _; first | (go_simp; done) | (go_simp; with_reducible rfl))
    clear hHeld; have hHeld := hHeld2; clear hHeld2
    (try simp only [Act.put, List.setIfInBounds_toArray, List.set_cons_zero, List.set_cons_succ])
    refine lTake (i := 2) (v := ?_) rfl (by kernel_rfl) (by kernel_rfl) (by kernel_rfl) (fun _ _ _ h => h) (by rfl) (fun _ _ h => by simpa only [getD_set_ne false (show 2 ≠ 10 by decide)] using h) (fun _ _ h => by simpa only [getD_set_ne false (show 2 ≠ 10 by decide)] using h) ?_ (by assumption) (fun hHeld2 => ?_)
    rotate_left 1
    · (intro _ _ _ _ _; first | (go_simp; done) | (go_simp; with_reducible rfl))
    clear hHeld; have hHeld := hHeld2; clear hHeld2
    (try simp only [Act.put, List.setIfInBounds_toArray, List.set_cons_zero, List.set_cons_succ])
    refine lTake (i := 3) (v := ?_) rfl (by kernel_rfl) (by kernel_rfl) (by kernel_rfl) (fun _ _ _ h => h) (by rfl) (fun _ _ h => by simpa only [getD_set_ne false (show 3 ≠ 10 by decide)] using h) (fun _ _ h => by simpa only [getD_set_ne false (show 3 ≠ 10 by decide)] using h) ?_ (by assumption) (fun hHeld2 => ?_)
    rotate_left 1
    · (intro L W hL hK hSw; (try dsimp only at hSw); obtain ⟨h0, h1⟩ := hSw; replace h1 := still [] hK hL (by kernel_rfl) h1; clear hL hK; first | (go_simp; done) | (go_simp; with_reducible rfl))
    clear hHeld; have hHeld := hHeld2; clear hHeld2
    (try simp only [Act.put, List.setIfInBounds_toArray, List.set_cons_zero, List.set_cons_succ])
    refine lTake (i := 4) (v := ?_) rfl (by kernel_rfl) (by kernel_rfl) (by kernel_rfl) (fun _ _ _ h => h) (by rfl) (fun _ _ h => by simpa only [getD_set_ne false (show 4 ≠ 10 by decide)] using h) (fun _ _ h => by simpa only [getD_set_ne false (show 4 ≠ 10 by decide)] using h) ?_ (by assumption) (fun hHeld2 => ?_)
    rotate_left 1
    · (intro _ _ _ _ _; first | (go_simp; done) | (go_simp; with_reducible rfl))
    clear hHeld; have hHeld := hHeld2; clear hHeld2
    (try simp only [Act.put, List.setIfInBounds_toArray, List.set_cons_zero, List.set_cons_succ])
    refine lTake (i := 5) (v := ?_) rfl (by kernel_rfl) (by kernel_rfl) (by kernel_rfl) (fun _ _ _ h => h) (by rfl) (fun _ _ h => by simpa only [getD_set_ne false (show 5 ≠ 10 by decide)] using h) (fun _ _ h => by simpa only [getD_set_ne false (show 5 ≠ 10 by decide)] using h) ?_ (by assumption) (fun hHeld2 => ?_)
    rotate_left 1
    · (intro L W hL hK hSw; (try dsimp only at hSw); obtain ⟨h0, h1⟩ := hSw; replace h1 := still [] hK hL (by kernel_rfl) h1; clear hL hK; first | (go_simp; done) | (go_simp; with_reducible rfl))
    clear hHeld; have hHeld := hHeld2; clear hHeld2
    (try simp only [Act.put, List.setIfInBounds_toArray, List.set_cons_zero, List.set_cons_succ])
    refine lTake (i := 6) (v := ?_) rfl (by kernel_rfl) (by kernel_rfl) (by kernel_rfl) (fun _ _ _ h => h) (by rfl) (fun _ _ h => by simpa only [getD_set_ne false (show 6 ≠ 10 by decide)] using h) (fun _ _ h => by simpa only [getD_set_ne false (show 6 ≠ 10 by decide)] using h) ?_ (by assumption) (fun hHeld2 => ?_)
    rotate_left 1
    · (intro _ _ _ _ _; first | (go_simp; done) | (go_simp; with_reducible rfl))
    clear hHeld; have hHeld := hHeld2; clear hHeld2
    (try simp only [Act.put, List.setIfInBounds_toArray, List.set_cons_zero, List.set_cons_succ])
    refine lTake (i := 7) (v := ?_) rfl (by kernel_rfl) (by kernel_rfl) (by kernel_rfl) (fun _ _ _ h => h) (by rfl) (fun _ _ h => by simpa only [getD_set_ne false (show 7 ≠ 10 by decide)] using h) (fun _ _ h => by simpa only [getD_set_ne false (show 7 ≠ 10 by decide)] using h) ?_ (by assumption) (fun hHeld2 => ?_)
    rotate_left 1
    · (intro _ _ _ _ _; first | (go_simp; done) | (go_simp; with_reducible rfl))
    clear hHeld; have hHeld := hHeld2; clear hHeld2
    (try simp only [Act.put, List.setIfInBounds_toArray, List.set_cons_zero, List.set_cons_succ])
    refine lTake (i := 8) (v := ?_) rfl (by kernel_rfl) (by kernel_rfl) (by kernel_rfl) (fun _ _ _ h => h) (by rfl) (fun _ _ h => by simpa only [getD_set_ne false (show 8 ≠ 10 by decide)] using h) (fun _ _ h => by simpa only [getD_set_ne false (show 8 ≠ 10 by decide)] using h) ?_ (by assumption) (fun hHeld2 => ?_)
    rotate_left 1
    · (intro L W hL hK hSw; (try dsimp only at hSw); obtain ⟨h0, h1⟩ := hSw; replace h1 := still [] hK hL (by kernel_rfl) h1; clear hL hK; first | (go_simp; done) | (go_simp; with_reducible rfl))
    clear hHeld; have hHeld := hHeld2; clear hHeld2
    (try simp only [Act.put, List.setIfInBounds_toArray, List.set_cons_zero, List.set_cons_succ])
    refine lTake (i := 9) (v := ?_) rfl (by kernel_rfl) (by kernel_rfl) (by kernel_rfl) (fun _ _ _ h => h) (by rfl) (fun _ _ h => by simpa only [getD_set_ne false (show 9 ≠ 10 by decide)] using h) (fun _ _ h => by simpa only [getD_set_ne false (show 9 ≠ 10 by decide)] using h) ?_ (by assumption) (fun hHeld2 => ?_)
    rotate_left 1
    · (intro _ _ _ _ _; first | (go_simp; done) | (go_simp; with_reducible rfl))
    clear hHeld; have hHeld := hHeld2; clear hHeld2
    (try simp only [Act.put, List.setIfInBounds_toArray, List.set_cons_zero, List.set_cons_succ])
    refine lReady (rs := [10]) (by kernel_rfl) (by simp) ?_
    refine AllL.cons (i := 10) rfl (fun K hK => ?_) ?_
    · go_simp
      (try go_wp2_with fail)
      refine hK.out _ _ ?_ (fun hHeld2 => ?_)
      · (try dsimp only); refine ⟨?_, Or.inl (by rfl)⟩
        · (first | trivial | with_reducible assumption)
      clear hK K
      clear hHeld; have hHeld := hHeld2; clear hHeld2
      (try simp only [Act.put, List.setIfInBounds_toArray, List.set_cons_zero, List.set_cons_succ])
      refine lDone (by kernel_rfl) ?_ _
      exact (⟨((KeepsOthers.setCell _ _ _).trans (KeepsOthers.drew _)).from _, HST.out.drew⟩ : _ ∧ _)
    exact AllL.nil
  case done =>
    rintro D ys W hD rfl hI hK
    have HB := Lib.hid hI.2.2.2.2.2
    have p2 := hI.2.2.1.cell 0 rfl
    clear hI
    go_wp2
    refine ⟨by simp, .inl ⟨_, _, rfl, run_takeDeferred hK, ?_⟩⟩
    exact ⟨_, results_tmp rfl _ _ _, rfl, HB.out.grown (grownBy_putObj' W D _) HB.out.size (fun r e => by cases e; omega)⟩
  case stop =>
    rintro D pre0 W hD hk hI hK
    exact hI.elim

theorem PDigest_c (x : Int) (hx : 1 ≤ x ∧ x ≤ 2147483646) (G c : Nat) (bs : List Int) (w : World) (hb : bs.length = 8 ∧ ∀ x ∈ bs, 0 ≤ x ∧ x ≤ 255) (hm : ∀ j, j < 8 → w.cell? ⟨G, j, none⟩ = some (.int .u8 (bs.getD j 0))) (hc8 : 8 ≤ c) (hcm : c ≤ maxLen) :
    Calls Try.prog 83 #[.int .i64 2, .int .u64 x, .slice (some ⟨G, 0, none⟩) 8 c] w fun e w' => e = .returned (.tuple #[.int .u64 (Pf.horn x (Pf.ws (bs ++ [1]) 3)), .int .i64 0]) ∧ Below w.heap.size w w' := by
  have hd := fun w1 (hf : FmAt w1 w.heap.size G bs) => digest_c w.heap.size G c x hx bs w1 hf hc8 hcm
  have HM := Lib.hid hm
  have HBb := Lib.hid hb
  clear hm hb
  generalize Pf.horn x (Pf.ws (bs ++ [1]) 3) = r at *
  unfold maxLen at hcm
  go_enter Try.func83, Try.ntmps83
  go_wp2_with (first
    | (go_at_call 84; refine (fieldOf_c _).mono ?_; rintro e w1 ⟨rfl, hw1⟩; have q1 : w1.cell? ⟨w.heap.size, 4, none⟩ = some (.int .u64 2147483647) := (by rw [hw1]; go_simp); have q2 : w1.cell? ⟨w.heap.size, 5, none⟩ = some (.int .i64 3) := (by rw [hw1]; go_simp); have HB := Lib.hid (show Below w.heap.size w w1 from by rw [hw1]; exact (Below.refl _ _).alloc (Nat.le_refl _) _); have HFm := Lib.hid (show FmAt w1 w.heap.size G bs from ⟨⟨q1, q2⟩, HBb.out, fun j hj => (HB.out.cell (World.block_lt_of_cell? _ _ (HM.out j hj))).trans (HM.out j hj)⟩); clear hw1)
    | (go_at_call 91; refine (hd _ HFm.out).mono ?_; rintro e w2 ⟨rfl, hb⟩; have HB2 := Lib.hid (HB.out.trans (hb.mono HB.out.size)); clear hb))
  go_ret2
  exact ⟨rfl, HB2.out⟩
theorem PTag_c (x pad : Int) (hx : 1 ≤ x ∧ x ≤ 2147483646) (hp : 0 ≤ pad ∧ pad ≤ 2147483646) (G c : Nat) (bs : List Int) (w : World) (hb : bs.length = 8 ∧ ∀ x ∈ bs, 0 ≤ x ∧ x ≤ 255) (hm : ∀ j, j < 8 → w.cell? ⟨G, j, none⟩ = some (.int .u8 (bs.getD j 0))) (hc8 : 8 ≤ c) (hcm : c ≤ maxLen) :
    Calls Try.prog 63 #[.int .i64 2, .int .u64 x, .int .u64 pad, .slice (some ⟨G, 0, none⟩) 8 c] w fun e w' => e = .returned (.tuple #[.int .u64 (Pf.tag x pad (Pf.ws (bs ++ [1]) 3)), .int .i64 0]) ∧ Below w.heap.size w w' := by
  have hd := PDigest_c x hx G c bs w hb hm hc8 hcm
  have hr := Pf.horn_bd x (Pf.ws (bs ++ [1]) 3)
  clear hm hb
  unfold Pf.tag
  generalize Pf.horn x (Pf.ws (bs ++ [1]) 3) = r at *
  unfold maxLen at hcm
  go_enter Try.func63, Try.ntmps63
  go_wp2_with (first
    | (go_at_call 83; refine hd.mono ?_; rintro e w2 ⟨rfl, hb⟩; have HB := Lib.hid hb; clear hb)
    | (go_at_call 84; refine (fieldOf_c _).mono ?_; rintro e w1 ⟨rfl, hw1⟩; have q1 : w1.cell? ⟨w2.heap.size, 4, none⟩ = some (.int .u64 2147483647) := (by rw [hw1]; go_simp); have HB1 := Lib.hid (show Below w.heap.size w w1 from by rw [hw1]; exact HB.out.alloc HB.out.size _); clear hw1))
  go_ret2
  exact ⟨rfl, HB1.out⟩
end Go.Proofs.Ytafajclbghofkaa
