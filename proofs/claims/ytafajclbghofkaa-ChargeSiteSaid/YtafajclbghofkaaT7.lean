/- What is done with a site, on both sides: the states. -/
import Derived.Test.YtafajclbghofkaaT4
import Derived.Laws.StructEq
namespace Go.Proofs.Ytafajclbghofkaa
open Go.RowKit
set_option linter.unusedVariables false
theorem el3S (d : Nat) (w : World) (a b : Int) : (Op.equalIn (d + 1) 3 (.int .i64 a) (.int .i64 b)).run Try.prog w = .ok (a == b) w := run_equalIn_int w d 3 .i64 .i64 a b Try.underlying3
theorem el2S (d : Nat) (w : World) (a b : Int) : (Op.equalIn (d + 1) 2 (.int .i64 a) (.int .i64 b)).run Try.prog w = .ok (a == b) w := run_equalIn_int w d 2 .i64 .i64 a b Try.underlying2
theorem part2S (w : World) (cs : Array Value) (i : Nat) (v : Value) (h : cs[i]? = some v) : (part 2 cs i).run Try.prog w = .ok v w := by
  have hag : (isAgg 2).run Try.prog w = .ok false w := by kernel_rfl
  simp [part, Sem.run_bind, hag, h]
theorem part3S (w : World) (cs : Array Value) (i : Nat) (v : Value) (h : cs[i]? = some v) : (part 3 cs i).run Try.prog w = .ok v w := by
  have hag : (isAgg 3).run Try.prog w = .ok false w := by kernel_rfl
  simp [part, Sem.run_bind, hag, h]
theorem eqF_consS {P : Program} {d : Nat} {xs ys : Array Value} {f : Field} {fs : List Field} {w : World} {n : String} {t : TypeId} {o : Nat} {x y : Value} (h : (f.name, f.type, f.offset) = (n, t, o)) (hn : n ≠ "_") (hx : (part t xs o).run P w = .ok x w) (hy : (part t ys o).run P w = .ok y w)
    (he : (Op.equalIn d t x y).run P w = .ok true w) (hr : (Op.eqFields d xs ys fs).run P w = .ok true w) : (Op.eqFields d xs ys (f :: fs)).run P w = .ok true w := by
  simp only [Prod.mk.injEq] at h
  obtain ⟨h1, h2, h3⟩ := h
  simp only [Op.eqFields, Sem.run_bind, Sem.run_ite]
  rw [h1, h2, h3, if_pos hn, hx]
  simp only [Result.andThen_ok]
  rw [hy]
  simp only [Result.andThen_ok]
  rw [he]
  simp [hr]
theorem eqF_nilS {P : Program} {d : Nat} {xs ys : Array Value} {w : World} : (Op.eqFields d xs ys []).run P w = .ok true w := by simp [Op.eqFields]
theorem list4S {α β : Type} {f : α → β} {l : List α} {a b c d : β} (h : l.map f = [a, b, c, d]) : ∃ x0 x1 x2 x3, l = [x0, x1, x2, x3] ∧ f x0 = a ∧ f x1 = b ∧ f x2 = c ∧ f x3 = d := by
  match l, h with
  | [x0, x1, x2, x3], h => simp at h; exact ⟨x0, x1, x2, x3, rfl, h.1, h.2.1, h.2.2.1, h.2.2.2⟩
theorem fields43 : (Try.prog.fieldsOf 43).toList.map (fun f => (f.name, f.type, f.offset)) = [("Number", 3, 0), ("Draw", 2, 1), ("Back", 2, 2), ("Until", 2, 3)] := by kernel_rfl
theorem eqLs (d : Nat) (w : World) (a b c e : Int) : (Op.equalIn (d + 2) 43 (.agg #[.int .i64 a, .int .i64 b, .int .i64 c, .int .i64 e]) (.agg #[.int .i64 a, .int .i64 b, .int .i64 c, .int .i64 e])).run Try.prog w = .ok true w := by
  rw [run_equalIn_struct w (d + 1) 43 _ _ (by kernel_rfl) (by kernel_rfl)]
  obtain ⟨x0, x1, x2, x3, hl, h0, h1, h2, h3⟩ := list4S fields43
  rw [hl]
  refine eqF_consS h0 (by decide) (part3S w _ _ _ rfl) (part3S w _ _ _ rfl) ((el3S d w a a).trans (by simp)) ?_
  refine eqF_consS h1 (by decide) (part2S w _ _ _ rfl) (part2S w _ _ _ rfl) ((el2S d w b b).trans (by simp)) ?_
  refine eqF_consS h2 (by decide) (part2S w _ _ _ rfl) (part2S w _ _ _ rfl) ((el2S d w c c).trans (by simp)) ?_
  exact eqF_consS h3 (by decide) (part2S w _ _ _ rfl) (part2S w _ _ _ rfl) ((el2S d w e e).trans (by simp)) eqF_nilS
theorem runLs (w : World) (a b c e : Int) : (binOp .eql 43 (.agg #[.int .i64 a, .int .i64 b, .int .i64 c, .int .i64 e]) (.agg #[.int .i64 a, .int .i64 b, .int .i64 c, .int .i64 e])).run Try.prog w = .ok (.bool true) w := by
  rw [run_eql_struct, eqLs 9998]; rfl
namespace Sx
theorem oks_set {K : Int} {cs : List Cl} (h : ∀ c ∈ cs, OkC K c) {c : Cl} {K' : Int} (hK : K ≤ K') (hc : OkC K' c) (m : Nat) : ∀ x ∈ cs.set m c, OkC K' x := fun x hx => by
  rcases List.mem_or_eq_of_mem_set hx with hx | rfl
  · have := h x hx
    exact ⟨this.k0, this.k1, by have := this.l1; omega, this.ls, by have := this.ln; omega⟩
  · exact hc
theorem oks_mono {K K' : Int} {cs : List Cl} (h : ∀ c ∈ cs, OkC K c) (hK : K ≤ K') : ∀ x ∈ cs, OkC K' x := fun x hx => by
  have := h x hx
  exact ⟨this.k0, this.k1, by have := this.l1; omega, this.ls, by have := this.ln; omega⟩
theorem okC_grant {K : Int} {c : Cl} (h : OkC K c) {dr bk un now : Int} (ha : askOk dr bk un now) : OkC (K + 1) { c with L := c.L ++ [⟨c.last + 1, dr, bk, un⟩], last := c.last + 1 } :=
  ⟨h.k0, by have := h.k1; show c.kn ≤ c.last + 1; omega, by have := h.l1; show c.last + 1 ≤ K + 1; omega, fun y hy => by
    rcases List.mem_append.1 hy with hy | hy
    · exact h.ls y hy
    · obtain rfl : y = _ := by simpa using hy
      exact ⟨ha.1, ha.2.1⟩, by have := h.ln; show (((c.L ++ [_]).length : Nat) : Int) ≤ K + 1; rw [List.length_append]; simp; omega⟩
theorem okC_ackI {K : Int} {c : Cl} (h : OkC K c) {nu : Int} (hn : nu ≤ c.last) : OkC (K + 1) (aI c nu) := by
  unfold aI
  split
  · rename_i hk
    exact ⟨by have := h.k0; show 0 ≤ nu; omega, hn, by have := h.l1; show c.last ≤ K + 1; omega, fun y hy => h.ls y (List.mem_filter.1 hy).1, by have := h.ln; have h2 := List.length_filter_le (fun l => !decide (l.n < nu)) c.L; show ((c.L.filter (fun l => !decide (l.n < nu))).length : Int) ≤ K + 1; omega⟩
  · exact ⟨h.k0, h.k1, by have := h.l1; omega, h.ls, by have := h.ln; omega⟩
theorem okC_ackR {K : Int} {c : Cl} (h : OkC K c) {nu : Int} (hn : nu ≤ c.last) : OkC (K + 1) (aR c nu) :=
  ⟨by have := h.k0; show 0 ≤ max c.kn nu; omega, by have := h.k1; show max c.kn nu ≤ c.last; omega, by have := h.l1; show c.last ≤ K + 1; omega, h.ls, by have := h.ln; show (c.L.length : Int) ≤ K + 1; omega⟩
theorem grE_rel {xs ys : List Cl} (h : Rels xs ys) (D B N s dr bk un now : Int) : grE xs D B N s dr bk un now = grE ys D B N s dr bk un now := by
  unfold grE
  rw [← h.1]
  by_cases hs : 0 ≤ s ∧ s < xs.length
  · rw [if_pos hs, if_pos hs]
    exact gE_rel h (by omega) D B N dr bk un now
  · rw [if_neg hs, if_neg hs]
theorem grE_in {xs : List Cl} {D B N s dr bk un now : Int} (h : grE xs D B N s dr bk un now = 0) : (0 ≤ s ∧ s < xs.length) ∧ askOk dr bk un now := by
  unfold grE at h
  split at h
  · rename_i hs
    refine ⟨hs, ?_⟩
    unfold gE at h
    split at h
    · assumption
    · cases h
  · cases h
theorem grL_rel {xs ys : List Cl} (h : Rels xs ys) (D B N s dr bk un now : Int) : grL xs D B N s dr bk un now = grL ys D B N s dr bk un now := by
  unfold grL
  rw [← grE_rel h]
  by_cases he : grE xs D B N s dr bk un now = 0
  · rw [if_pos he, if_pos he]
    obtain ⟨hs, _⟩ := grE_in he
    unfold gLs
    rw [(h.2 s.toNat (by omega)).1]
  · rw [if_neg he, if_neg he]
theorem getD_mem {xs : List Cl} {i : Nat} (hi : i < xs.length) : xs.getD i default ∈ xs := by rw [List.getD_eq_getElem?_getD, List.getElem?_eq_getElem hi]; exact List.getElem_mem hi
theorem gr_rels {K : Int} {xs ys : List Cl} (h : Rels xs ys) (hy : ∀ c ∈ ys, OkC K c) (D B N s dr bk un now : Int) : Rels (grS xs D B N s dr bk un now) (grS ys D B N s dr bk un now) ∧ grN xs D B N s dr bk un now = grN ys D B N s dr bk un now := by
  unfold grS grN
  rw [← grE_rel h]
  by_cases he : grE xs D B N s dr bk un now = 0
  · simp only [he, if_true]
    obtain ⟨hs, _⟩ := grE_in he
    have hi : s.toNat < xs.length := by omega
    have hr := h.2 _ hi
    refine ⟨?_, trivial⟩
    unfold gS
    refine h.set hi ?_
    have hl : gLs xs s.toNat dr bk un = gLs ys s.toNat dr bk un := by unfold gLs; rw [hr.1]
    rw [hl, hr.1]
    have ho := hy _ (getD_mem (i := s.toNat) (by rw [← h.1]; exact hi))
    exact rel_grant hr (n := (ys.getD s.toNat default).last + 1) (by have := ho.k1; omega) (gLs ys s.toNat dr bk un) rfl _
  · simp only [he, if_false]
    exact ⟨h, trivial⟩
theorem gr_oks {K : Int} {xs : List Cl} (h : ∀ c ∈ xs, OkC K c) (D B N s dr bk un now : Int) : (∀ c ∈ grS xs D B N s dr bk un now, OkC (K + 1) c) ∧ (grS xs D B N s dr bk un now).length = xs.length := by
  unfold grS
  by_cases he : grE xs D B N s dr bk un now = 0
  · rw [if_pos he]
    obtain ⟨hs, ha⟩ := grE_in he
    unfold gS gLs
    exact ⟨oks_set h (by omega) (okC_grant (h _ (getD_mem (by omega))) ha) _, List.length_set⟩
  · rw [if_neg he]
    exact ⟨oks_mono h (by omega), rfl⟩
theorem akE_rel {xs ys : List Cl} (h : Rels xs ys) (s nu : Int) : akE xs s nu = akE ys s nu := by
  unfold akE aE
  rw [← h.1]
  by_cases hs : 0 ≤ s ∧ s < xs.length
  · rw [if_pos hs, if_pos hs, (h.2 s.toNat (by omega)).1]
  · rw [if_neg hs, if_neg hs]
theorem akE_in {xs : List Cl} {s nu : Int} (h : akE xs s nu = 0) : (0 ≤ s ∧ s < xs.length) ∧ (1 ≤ nu ∧ nu ≤ (xs.getD s.toNat default).last) := by
  unfold akE at h
  split at h
  · rename_i hs
    unfold aE at h
    split at h
    · exact ⟨hs, by assumption⟩
    · cases h
  · cases h
theorem ak_rels {xs ys : List Cl} (h : Rels xs ys) (s nu : Int) : Rels (akS xs s nu) (akSR ys s nu) := by
  unfold akS akSR
  rw [← akE_rel h]
  by_cases he : akE xs s nu = 0
  · rw [if_pos he, if_pos he]
    obtain ⟨hs, _⟩ := akE_in he
    exact h.set (by omega) (rel_ack (h.2 _ (by omega)) nu)
  · rw [if_neg he, if_neg he]
    exact h
theorem ak_oks {K : Int} {xs : List Cl} (h : ∀ c ∈ xs, OkC K c) (s nu : Int) : ((∀ c ∈ akS xs s nu, OkC (K + 1) c) ∧ (akS xs s nu).length = xs.length) ∧ ((∀ c ∈ akSR xs s nu, OkC (K + 1) c) ∧ (akSR xs s nu).length = xs.length) := by
  unfold akS akSR
  by_cases he : akE xs s nu = 0
  · rw [if_pos he, if_pos he]
    obtain ⟨hs, hn⟩ := akE_in he
    have hm := h _ (getD_mem (i := s.toNat) (xs := xs) (by omega))
    exact ⟨⟨oks_set h (by omega) (okC_ackI hm hn.2) _, List.length_set⟩, oks_set h (by omega) (okC_ackR hm hn.2) _, List.length_set⟩
  · rw [if_neg he, if_neg he]
    exact ⟨⟨oks_mono h (by omega), rfl⟩, oks_mono h (by omega), rfl⟩
theorem rels_cs0 (n : Nat) : Rels (cs0 n) (cs0 n) := ⟨rfl, fun i hi => by
  rw [cs0_len] at hi
  rw [cs0_at hi]
  exact ⟨rfl, rfl, rfl⟩⟩
theorem oks_cs0 (n : Nat) : ∀ c ∈ cs0 n, OkC 0 c := fun c hc => by
  obtain rfl := List.eq_of_mem_replicate hc
  exact ⟨by decide, by decide, by decide, fun _ h => by simp [cl0] at h, by decide⟩
end Sx
theorem rsV_rel {xs ys : List Sx.Cl} (h : Sx.Rels xs ys) (s t : Int) : RsV xs s t = RsV ys s t := by
  unfold RsV
  rw [← h.1]
  by_cases hs : 0 ≤ s ∧ s < xs.length
  · rw [if_pos hs, if_pos hs]
    obtain ⟨h1, h2, _⟩ := Sx.r_rel (h.2 s.toNat (by omega)) t
    rw [h1, h2]
  · rw [if_neg hs, if_neg hs]
end Go.Proofs.Ytafajclbghofkaa
