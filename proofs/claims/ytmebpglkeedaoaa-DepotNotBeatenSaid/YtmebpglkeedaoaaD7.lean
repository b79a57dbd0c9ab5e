/- The contracts of graph.rest and graph.flow of depot. -/
import Derived.Test.YtmebpglkeedaoaaD6
namespace Go.Proofs.Ytmebpglkeedaoaa
open Go.RowKit Dp
set_option linter.unusedVariables false

theorem max_i64 (x y : Int) (ts : Array TypeId) (t : TypeId) (w : World) : (Builtin.max_ ts t #[.int .i64 x, .int .i64 y]).run Try.prog w = .ok (.int .i64 (max x y)) w := maxTwo x y ts t w
theorem rest_succ (l : List Int) (k : Nat) (hk : k < l.length) : sum ((l.map (max 0)).take (k + 1)) = sum ((l.map (max 0)).take k) + max 0 (l.getD k 0) := by
  rw [sum_take _ k (by rw [List.length_map]; exact hk), getD_map (max 0) l k hk]
theorem rest_part {l : List Int} (h : ∀ v, v < l.length → -8589934592 ≤ l.getD v 0 ∧ l.getD v 0 ≤ 8589934592) : ∀ k : Nat, k ≤ l.length → 0 ≤ sum ((l.map (max 0)).take k) ∧ sum ((l.map (max 0)).take k) ≤ 8589934592 * k
  | 0, _ => by simp [sum]
  | k + 1, hk => by
    have ih := rest_part h k (by omega)
    have := h k (by omega)
    rw [rest_succ l k (by omega), Int.natCast_add, Int.mul_add]
    omega

set_option maxRecDepth 100000 in
theorem rest_c (b gl cl ce bo B n : Nat) (E : Option Addr) (G : Gr) (w : World) (hG : G.Ok n) (hg : GrAt w B b gl cl E ce bo G) :
    Calls Try.prog 64 #[.pointer (some ⟨b, 0, none⟩)] w fun e w' => e = .returned (.int .i64 (restV G.left)) ∧ w = w' := by
  have HL := Lib.hid hG.ll
  have hle := hG.n1.2
  have HB := Lib.hid (rest_part (l := G.left) (fun v hv => hG.lb v (by rw [← hG.ll]; exact hv)))
  have HS := Lib.hid (rest_succ G.left)
  have HC := Lib.hid (fun k hk => hg.left.cell k hk)
  have HLB := Lib.hid hG.lb
  have c0 := hg.blk.cell 0 rfl
  rw [hG.ll] at c0
  have HR : Hid (restV G.left = sum ((G.left.map (max 0)).take n)) := Lib.hid (by unfold restV; rw [List.take_of_length_le]; rw [List.length_map, hG.ll]; exact Nat.le_refl _)
  clear hG hg
  go_enter Try.func64, Try.ntmps64
  go_wp2_with fail
  go_loop [2, 10] (fun sv iv => ∃ k : Nat, iv = .int .i64 k ∧ k ≤ n ∧ sv = .int .i64 (sum ((G.left.map (max 0)).take k))) (fun _ iv => n - (intOf iv).toNat)
  case atStart => exact ⟨0, rfl, Nat.zero_le _, rfl⟩
  case round =>
    obtain ⟨k, rfl, hk, rfl⟩ := hrel
    have b0 := HB.out k (by rw [HL.out]; exact hk)
    by_cases hlt : k < n
    · have hki : (k : Int) < (n : Int) := by omega
      have l0 := HC.out k (by rw [HL.out]; exact hlt)
      have b1 := HLB.out k hlt
      have e1 := HS.out k (by rw [HL.out]; exact hlt)
      have E1 : Hid (G.lf k = G.left.getD k 0) := Lib.hid rfl
      rw [E1.out] at b1
      generalize G.left.getD k 0 = x at *
      have HE := Lib.hid e1
      clear e1
      generalize sum ((G.left.map (max 0)).take k) = S at *
      have hmx := fun ts t W => max_i64 0 x ts t W
      generalize hy : max 0 x = y at *
      have hy1 : 0 ≤ y ∧ y ≤ 8589934592 := by omega
      clear hy
      go_wp2
      go_round
      case rel => exact ⟨k + 1, by go_num, by omega, by rw [HE.out]⟩
      case measure => simp [intOf]; omega
    · obtain rfl : k = n := by omega
      have HR := Lib.hid HR.out
      generalize sum ((G.left.map (max 0)).take k) = S at *
      go_wp2
      go_ret
      exact ⟨by rw [HR.out]; rfl, rfl⟩

def flowE (es : List Ed) (k : Nat) : List Int := (List.range (es.length / 2)).map fun i => if i < k then (es.getD (2 * i + 1) default).room else 0
theorem flowE_len (es : List Ed) (k : Nat) : (flowE es k).length = es.length / 2 := by simp [flowE]
theorem flowE_get {es : List Ed} {k i : Nat} (hi : i < es.length / 2) : (flowE es k).getD i 0 = if i < k then (es.getD (2 * i + 1) default).room else 0 := by
  simp [flowE, List.getD_eq_getElem?_getD, hi]
theorem flowE_zero (es : List Ed) : List.replicate (es.length / 2) 0 = flowE es 0 := by
  refine list_eq (by simp [flowE_len]) (fun v hv => ?_)
  rw [flowE_len] at hv
  rw [flowE_get hv]
  simp [List.getD_eq_getElem?_getD, hv]
theorem flowE_succ (es : List Ed) (k : Nat) (hk : k < es.length / 2) : (flowE es k).set k (es.getD (2 * k + 1) default).room = flowE es (k + 1) := by
  refine list_eq (by simp [flowE_len]) (fun v hv => ?_)
  rw [flowE_len] at hv
  rw [getD_setI _ _ _ _ (by rw [flowE_len]; exact hk), flowE_get hv, flowE_get hv]
  by_cases e : v = k
  · subst e; rw [if_pos rfl, if_pos (Nat.lt_succ_self v)]
  · rw [if_neg e]
    by_cases h : v < k
    · rw [if_pos h, if_pos (show v < k + 1 by omega)]
    · rw [if_neg h, if_neg (show ¬ v < k + 1 by omega)]
theorem flowE_flow {N : Net} {G : Gr} (h : Fits N G) : flowE G.es (G.es.length / 2) = flowL N G := by
  have e : G.es.length / 2 = N.arcs.length := by rw [h.es]; omega
  refine list_eq (by rw [flowE_len, flowL_len, e]) (fun v hv => ?_)
  rw [flowL_len] at hv
  rw [flowE_get (by rw [e]; exact hv), flowL_get hv, if_pos (by rw [e]; exact hv)]
  rfl

set_option maxRecDepth 100000 in
theorem flow_c (b gl cl ce bo B n : Nat) (E : Option Addr) (G : Gr) (w : World) (hG : G.Ok n) (hg : GrAt w B b gl cl E ce bo G) :
    Calls Try.prog 65 #[.pointer (some ⟨b, 0, none⟩)] w fun e w' => ∃ gf, e = .returned (.slice (some ⟨gf, 0, none⟩) (G.es.length / 2) (G.es.length / 2)) ∧ Below w.heap.size w w' ∧ Fl 2 w' gf (flowE G.es (G.es.length / 2)) ∧ w.heap.size ≤ gf := by
  have HA := Lib.hid hg
  have c1 := hg.blk.cell 1 rfl
  have bl := hg.blk.lt
  have hle := hG.le
  have F0 := Lib.hid (fl_new 2 (G.es.length / 2) w)
  rw [flowE_zero] at F0
  have FL := Lib.hid (flowE_len G.es)
  have FS := Lib.hid (flowE_succ G.es)
  have GC : Hid (∀ W, Below w.heap.size w W → GrAt W B b gl cl E ce bo G) := Lib.hid (fun W h => HA.out.below h)
  clear hG hg
  have ED : Hid (∀ W, Below w.heap.size w W → ∀ k, k < G.es.length → ∃ ge, E = some ⟨ge, 0, none⟩ ∧ W.cell? ⟨ge, k * 3 + 1, none⟩ = some (.int .i64 (G.es.getD k default).room)) := Lib.hid (fun W h k hk => by
    obtain ⟨ge, e, _, _, c, _⟩ := (GC.out W h).edge k hk
    exact ⟨ge, e, c⟩)
  have hm1 := make_64 (G.es.length / 2) (by omega)
  have CW : Hid (∀ W, Below w.heap.size w W → W.cell? ⟨b, 1, none⟩ = some (.slice E G.es.length ce)) := Lib.hid (fun W h => (GC.out W h).blk.cell 1 rfl)
  generalize hml : G.es.length = ml at *
  have HML := Lib.hid hml
  clear hml
  obtain ⟨m, hm⟩ : ∃ m, m = ml / 2 := ⟨_, rfl⟩
  have hm2 : (ml : Int) / 2 = (m : Int) := by omega
  rw [← hm] at hm1 F0 FL FS ⊢
  have HMM := Lib.hid hm
  clear hm
  go_enter Try.func65, Try.ntmps65
  go_wp2_with fail
  have B0 := Lib.hid ((Below.refl w.heap.size w).alloc (Nat.le_refl _) (.cells (Array.replicate m (.int .i64 0)) 2))
  generalize w.alloc (.cells (Array.replicate m (.int .i64 0)) 2) = w1 at F0 B0 ⊢
  generalize hgf : w.heap.size = gf at *
  clear c1 bl hm1
  go_loopw [14] (fun iv wr => ∃ k : Nat, iv = .int .i64 k ∧ k ≤ m ∧ Hid (Below gf w wr ∧ Fl 2 wr gf (flowE G.es k))) (fun iv _ => m - (intOf iv).toNat)
  case atStart => exact ⟨0, rfl, Nat.zero_le _, Lib.hid ⟨B0.out, F0.out⟩⟩
  case round =>
    obtain ⟨k, rfl, hk, HJ⟩ := hrel
    have HB := Lib.hid HJ.out.1
    have HF := Lib.hid HJ.out.2
    clear HJ F0 B0
    by_cases hlt : k < m
    · have hki : (k : Int) < (m : Int) := by omega
      have hMM := HMM.out
      obtain ⟨ge, rfl, e1⟩ := ED.out _ HB.out (2 * k + 1) (by omega)
      have c1 := CW.out _ HB.out
      have f0 := HF.out.cell k (by rw [FL.out]; exact hlt)
      have z0 := HF.out.free k
      have P1 := Lib.hid (fun x => HF.out.put k x)
      have FS1 := Lib.hid (FS.out k hlt)
      generalize (G.es.getD (2 * k + 1) default).room = ro at *
      obtain ⟨q, hq⟩ : ∃ q, q = 2 * k + 1 := ⟨_, rfl⟩
      have hq1 : 2 * (k : Int) + 1 = (q : Int) := by omega
      have hq2 : q < ml := by omega
      have hq3 : (q : Int) < (ml : Int) := by omega
      rw [← hq] at e1
      clear hq hMM
      go_wp2_with fail
      have F1 := P1.out ro
      rw [FS1.out] at F1
      have F1 := Lib.hid F1
      have B1 := Lib.hid (HB.out.setCell (p := ⟨gf, k, none⟩) (Nat.le_refl _) (.int .i64 ro))
      go_roundw
      case rel => exact ⟨k + 1, by go_num, by omega, Lib.hid ⟨B1.out, F1.out⟩⟩
      case measure => simp [intOf]; omega
    · obtain rfl : k = m := by omega
      go_wp2
      go_ret
      exact ⟨gf, rfl, by rw [hgf]; exact HB.out, HF.out, by rw [hgf]; exact Nat.le_refl _⟩
end Go.Proofs.Ytmebpglkeedaoaa
