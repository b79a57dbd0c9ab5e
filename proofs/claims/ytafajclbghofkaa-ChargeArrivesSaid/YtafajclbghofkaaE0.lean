/- Notes and packets that are equal are found equal. -/
import Derived.Test.YtafajclbghofkaaD7
import Derived.Laws.StructEq
namespace Go.Proofs.Ytafajclbghofkaa
open Go.RowKit
set_option linter.unusedVariables false

theorem el3 (d : Nat) (w : World) (a b : Int) : (Op.equalIn (d + 1) 3 (.int .i64 a) (.int .i64 b)).run Try.prog w = .ok (a == b) w := run_equalIn_int w d 3 .i64 .i64 a b Try.underlying3
theorem el2 (d : Nat) (w : World) (a b : Int) : (Op.equalIn (d + 1) 2 (.int .i64 a) (.int .i64 b)).run Try.prog w = .ok (a == b) w := run_equalIn_int w d 2 .i64 .i64 a b Try.underlying2
theorem el4 (d : Nat) (w : World) (a b : Bool) : (Op.equalIn (d + 1) 4 (.bool a) (.bool b)).run Try.prog w = .ok (a == b) w := run_equalIn_bool' w d 4 a b Try.underlying4
theorem part2 (w : World) (cs : Array Value) (i : Nat) (v : Value) (h : cs[i]? = some v) : (part 2 cs i).run Try.prog w = .ok v w := by
  have hag : (isAgg 2).run Try.prog w = .ok false w := by kernel_rfl
  simp [part, Sem.run_bind, hag, h]
theorem part3 (w : World) (cs : Array Value) (i : Nat) (v : Value) (h : cs[i]? = some v) : (part 3 cs i).run Try.prog w = .ok v w := by
  have hag : (isAgg 3).run Try.prog w = .ok false w := by kernel_rfl
  simp [part, Sem.run_bind, hag, h]
theorem part4 (w : World) (cs : Array Value) (i : Nat) (v : Value) (h : cs[i]? = some v) : (part 4 cs i).run Try.prog w = .ok v w := by
  have hag : (isAgg 4).run Try.prog w = .ok false w := by kernel_rfl
  simp [part, Sem.run_bind, hag, h]
theorem part60 (w : World) (cs : Array Value) (i : Nat) : (part 60 cs i).run Try.prog w = .ok (.agg (cs.extract i (i + 5))) w := by
  have hag : (isAgg 60).run Try.prog w = .ok true w := by kernel_rfl
  simp [part, Sem.run_bind, hag]
theorem fields60 : (Try.prog.fieldsOf 60).toList.map (fun f => (f.name, f.type, f.offset)) = [("Kind", 3, 0), ("Session", 3, 1), ("A", 2, 2), ("B", 2, 3), ("C", 2, 4)] := by kernel_rfl
theorem fields62 : (Try.prog.fieldsOf 62).toList.map (fun f => (f.name, f.type, f.offset)) = [("Has", 4, 0), ("Number", 3, 1), ("Note", 60, 2), ("Ack", 3, 7)] := by kernel_rfl
theorem eqF_cons {P : Program} {d : Nat} {xs ys : Array Value} {f : Field} {fs : List Field} {w : World} {n : String} {t : TypeId} {o : Nat} {x y : Value} (h : (f.name, f.type, f.offset) = (n, t, o)) (hn : n ≠ "_") (hx : (part t xs o).run P w = .ok x w) (hy : (part t ys o).run P w = .ok y w)
    (he : (Op.equalIn d t x y).run P w = .ok true w) (hr : (Op.eqFields d xs ys fs).run P w = .ok true w) : (Op.eqFields d xs ys (f :: fs)).run P w = .ok true w := by
  simp only [Prod.mk.injEq] at h
  obtain ⟨h1, h2, h3⟩ := h
  simp only [Op.eqFields, Sem.run_bind, Sem.run_ite]
  rw [h1, h2, h3, if_pos hn, hx]
  simp only [Result.andThen_ok]
  rw [hy]
  simp only [Result.andThen_ok]
  rw [he]
  simp [hr]
theorem eqF_nil {P : Program} {d : Nat} {xs ys : Array Value} {w : World} : (Op.eqFields d xs ys []).run P w = .ok true w := by simp [Op.eqFields]
theorem list5 {α β : Type} {f : α → β} {l : List α} {a b c d e : β} (h : l.map f = [a, b, c, d, e]) : ∃ x0 x1 x2 x3 x4, l = [x0, x1, x2, x3, x4] ∧ f x0 = a ∧ f x1 = b ∧ f x2 = c ∧ f x3 = d ∧ f x4 = e := by
  match l, h with
  | [x0, x1, x2, x3, x4], h => simp at h; exact ⟨x0, x1, x2, x3, x4, rfl, h.1, h.2.1, h.2.2.1, h.2.2.2.1, h.2.2.2.2⟩
theorem list4 {α β : Type} {f : α → β} {l : List α} {a b c d : β} (h : l.map f = [a, b, c, d]) : ∃ x0 x1 x2 x3, l = [x0, x1, x2, x3] ∧ f x0 = a ∧ f x1 = b ∧ f x2 = c ∧ f x3 = d := by
  match l, h with
  | [x0, x1, x2, x3], h => simp at h; exact ⟨x0, x1, x2, x3, rfl, h.1, h.2.1, h.2.2.1, h.2.2.2⟩
theorem eqNt (d : Nat) (w : World) (a b c e f : Int) : (Op.equalIn (d + 2) 60 (.agg #[.int .i64 a, .int .i64 b, .int .i64 c, .int .i64 e, .int .i64 f]) (.agg #[.int .i64 a, .int .i64 b, .int .i64 c, .int .i64 e, .int .i64 f])).run Try.prog w = .ok true w := by
  rw [run_equalIn_struct w (d + 1) 60 _ _ (by kernel_rfl) (by kernel_rfl)]
  obtain ⟨x0, x1, x2, x3, x4, hl, h0, h1, h2, h3, h4⟩ := list5 fields60
  rw [hl]
  refine eqF_cons h0 (by decide) (part3 w _ _ _ rfl) (part3 w _ _ _ rfl) ((el3 d w a a).trans (by simp)) ?_
  refine eqF_cons h1 (by decide) (part3 w _ _ _ rfl) (part3 w _ _ _ rfl) ((el3 d w b b).trans (by simp)) ?_
  refine eqF_cons h2 (by decide) (part2 w _ _ _ rfl) (part2 w _ _ _ rfl) ((el2 d w c c).trans (by simp)) ?_
  refine eqF_cons h3 (by decide) (part2 w _ _ _ rfl) (part2 w _ _ _ rfl) ((el2 d w e e).trans (by simp)) ?_
  exact eqF_cons h4 (by decide) (part2 w _ _ _ rfl) (part2 w _ _ _ rfl) ((el2 d w f f).trans (by simp)) eqF_nil
theorem eqPk (d : Nat) (w : World) (q : Bool) (z a b c e f k : Int) : (Op.equalIn (d + 3) 62 (.agg #[.bool q, .int .i64 z, .int .i64 a, .int .i64 b, .int .i64 c, .int .i64 e, .int .i64 f, .int .i64 k]) (.agg #[.bool q, .int .i64 z, .int .i64 a, .int .i64 b, .int .i64 c, .int .i64 e, .int .i64 f, .int .i64 k])).run Try.prog w = .ok true w := by
  rw [run_equalIn_struct w (d + 2) 62 _ _ (by kernel_rfl) (by kernel_rfl)]
  obtain ⟨x0, x1, x2, x3, hl, h0, h1, h2, h3⟩ := list4 fields62
  rw [hl]
  refine eqF_cons h0 (by decide) (part4 w _ _ _ rfl) (part4 w _ _ _ rfl) ((el4 (d + 1) w q q).trans (by simp)) ?_
  refine eqF_cons h1 (by decide) (part3 w _ _ _ rfl) (part3 w _ _ _ rfl) ((el3 (d + 1) w z z).trans (by simp)) ?_
  refine eqF_cons h2 (by decide) (part60 w _ _) (part60 w _ _) (by simpa using eqNt d w a b c e f) ?_
  exact eqF_cons h3 (by decide) (part3 w _ _ _ rfl) (part3 w _ _ _ rfl) ((el3 (d + 1) w k k).trans (by simp)) eqF_nil
/-- the comparison of a note, and of a packet, with itself -/
theorem runNt (w : World) (a b c e f : Int) : (binOp .eql 60 (.agg #[.int .i64 a, .int .i64 b, .int .i64 c, .int .i64 e, .int .i64 f]) (.agg #[.int .i64 a, .int .i64 b, .int .i64 c, .int .i64 e, .int .i64 f])).run Try.prog w = .ok (.bool true) w := by
  rw [run_eql_struct, eqNt 9998]; rfl
theorem runPk (w : World) (q : Bool) (z a b c e f k : Int) : (binOp .eql 62 (.agg #[.bool q, .int .i64 z, .int .i64 a, .int .i64 b, .int .i64 c, .int .i64 e, .int .i64 f, .int .i64 k]) (.agg #[.bool q, .int .i64 z, .int .i64 a, .int .i64 b, .int .i64 c, .int .i64 e, .int .i64 f, .int .i64 k])).run Try.prog w = .ok (.bool true) w := by
  rw [run_eql_struct, eqPk 9997]; rfl
theorem guard60 : Try.prog.eqGuardType Try.prog.depth 60 = false := by kernel_rfl
theorem guard62 : Try.prog.eqGuardType Try.prog.depth 62 = false := by kernel_rfl
end Go.Proofs.Ytafajclbghofkaa
