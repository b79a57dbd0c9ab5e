/- A site of charge in memory; NewSite, client, Reserved. -/
import Derived.Test.YtafajclbghofkaaS3

namespace Go.Proofs.Ytafajclbghofkaa
open Go.RowKit
set_option linter.unusedVariables false
def clV (A : Option Addr) (cap : Nat) (c : Sx.Cl) : List Value := [.slice A c.L.length cap, .int .i64 c.last, .int .i64 c.kn]
/-- a block of n elements of three cells -/
def ArrAt (W : World) (g : Nat) (ty : TypeId) (n : Nat) (f : Nat → List Value) : Prop := ∃ cs : Array Value, W.heap[g]? = some (.cells cs ty (0, 0)) ∧ ∀ i, i < n → ∀ j u, (f i)[j]? = some u → cs[i * 3 + j]? = some u
section
variable {W W' : World} {g n : Nat} {ty : TypeId} {f : Nat → List Value}
theorem ArrAt.lt (h : ArrAt W g ty n f) : g < W.heap.size := by
  obtain ⟨cs, h, _⟩ := h
  exact (Array.getElem?_eq_some_iff.1 h).1
theorem ArrAt.cell (h : ArrAt W g ty n f) {i : Nat} (hi : i < n) (j : Nat) {u : Value} (hu : (f i)[j]? = some u) : W.cell? ⟨g, i * 3 + j, none⟩ = some u := by
  obtain ⟨cs, h, hc⟩ := h
  simp [World.cell?, h, hc i hi j u hu]
theorem ArrAt.free (h : ArrAt W g ty n f) (o : Nat) : W.frozen? ⟨g, o, none⟩ = false := by
  obtain ⟨cs, h, hc⟩ := h
  simp [World.frozen?, h]
theorem ArrAt.of_eq (h : ArrAt W g ty n f) (e : W'.heap[g]? = W.heap[g]?) : ArrAt W' g ty n f := by
  obtain ⟨cs, h, hc⟩ := h
  exact ⟨cs, e.trans h, hc⟩
theorem ArrAt.touch {S : Nat → Prop} (h : ArrAt W g ty n f) (ht : Touch S W W') (hn : ¬ S g) : ArrAt W' g ty n f := h.of_eq (ht.block g h.lt hn)
theorem ArrAt.below (h : ArrAt W g ty n f) (hb : Below W.heap.size W W') : ArrAt W' g ty n f := h.of_eq (hb.block g h.lt)
theorem ArrAt.set (h : ArrAt W g ty n f) {i j : Nat} (hi : i < n) (hj : j < 3) (h3 : ∀ i, i < n → (f i).length = 3) (v : Value) : ArrAt (W.setCell ⟨g, i * 3 + j, none⟩ v) g ty n (fun k => if k = i then (f i).set j v else f k) := by
  have hlt := h.lt
  obtain ⟨cs, h, hc⟩ := h
  refine ⟨cs.setIfInBounds (i * 3 + j) v, ?_, fun k hk o u hu => ?_⟩
  · have h' : W.heap[g] = .cells cs ty (0, 0) := by simpa [Array.getElem?_eq_getElem hlt] using h
    show (W.heap.modify g _)[g]? = _
    rw [Array.getElem?_eq_getElem (by simpa using hlt), Array.getElem_modify_self, h']
    rfl
  · have hcs : i * 3 + j < cs.size := by
      obtain ⟨u0, hu0⟩ : ∃ u0, (f i)[j]? = some u0 := ⟨_, List.getElem?_eq_getElem (by rw [h3 i hi]; exact hj)⟩
      exact (Array.getElem?_eq_some_iff.1 (hc i hi j u0 hu0)).1
    by_cases hki : k = i
    · subst hki
      simp only [if_true] at hu
      rw [List.getElem?_set] at hu
      by_cases hjo : j = o
      · subst hjo
        rw [if_pos rfl] at hu
        split at hu
        · cases hu; simp [hcs]
        · cases hu
      · rw [if_neg hjo] at hu
        rw [Array.getElem?_setIfInBounds_ne (by omega)]
        exact hc k hk o u hu
    · simp only [hki, if_false] at hu
      have ho : o < 3 := by rw [← h3 k hk]; exact (List.getElem?_eq_some_iff.1 hu).1
      rw [Array.getElem?_setIfInBounds_ne (by omega)]
      exact hc k hk o u hu
theorem ArrAt.congr {f' : Nat → List Value} (h : ArrAt W g ty n f) (e : ∀ i, i < n → f' i = f i) : ArrAt W g ty n f' := by
  obtain ⟨cs, h, hc⟩ := h
  exact ⟨cs, h, fun i hi j u hu => hc i hi j u (by rw [← e i hi]; exact hu)⟩
end
/-- a site of charge -/
structure SiteAt (W : World) (B gs gc cc : Nat) (A : Nat → Option Addr) (q : Nat → Nat) (cs : List Sx.Cl) (D Bk N : Int) : Prop where
  s : Blk W gs 141 [.int .i64 D, .int .i64 Bk, .int .i64 N, .slice (some ⟨gc, 0, none⟩) cs.length cc]
  a : ArrAt W gc 147 cs.length (fun i => clV (A i) (q i) (cs.getD i default))
  r : ∀ i, i < cs.length → LRow B (A i) (q i) (cs.getD i default).L W
  ne : ∀ i j, i < cs.length → j < cs.length → i ≠ j → ∀ k, OwnB (A i) k → ¬ OwnB (A j) k
  b : B ≤ gs ∧ B ≤ gc
  c : cs.length ≤ cc ∧ cc ≤ 9223372036854775807
/-- the blocks of a site -/
def SOwn (gs gc : Nat) (A : Nat → Option Addr) (n k : Nat) : Prop := k = gs ∨ k = gc ∨ ∃ i, i < n ∧ OwnB (A i) k
theorem SiteAt.touch {W W' : World} {B gs gc cc : Nat} {A : Nat → Option Addr} {q : Nat → Nat} {cs : List Sx.Cl} {D Bk N : Int} {S : Nat → Prop} (h : SiteAt W B gs gc cc A q cs D Bk N) (ht : Touch S W W') (hn : ∀ k, SOwn gs gc A cs.length k → ¬ S k) : SiteAt W' B gs gc cc A q cs D Bk N :=
  ⟨h.s.touch ht (hn _ (.inl rfl)), h.a.touch ht (hn _ (.inr (.inl rfl))), fun i hi => rowE_keep (h.r i hi) ht (fun k hk => hn k (.inr (.inr ⟨i, hi, hk⟩))), h.ne, h.b, h.c⟩
theorem SiteAt.below {W W' : World} {B gs gc cc : Nat} {A : Nat → Option Addr} {q : Nat → Nat} {cs : List Sx.Cl} {D Bk N : Int} (h : SiteAt W B gs gc cc A q cs D Bk N) (hb : Below W.heap.size W W') : SiteAt W' B gs gc cc A q cs D Bk N :=
  h.touch (Touch.of_below (S := fun _ => False) hb) (fun _ _ e => e)

set_option maxHeartbeats 1000000 in
theorem client_c (gs gc n cc : Nat) (s : Int) (w : World) (hn : n ≤ cc) (hcc : cc ≤ 9223372036854775807) (c3 : w.cell? ⟨gs, 3, none⟩ = some (.slice (some ⟨gc, 0, none⟩) n cc)) :
    Calls Try.prog 73 #[.pointer (some ⟨gs, 0, none⟩), .int .i64 s] w fun e w' => e = .returned (if 0 ≤ s ∧ s < n then .tuple #[.pointer (some ⟨gc, s.toNat * 3, none⟩), .int .i64 0] else .tuple #[.pointer none, .int .i64 3]) ∧ w = w' := by
  have q139 : ∀ (w : World) (a : Option Addr) (n c n' c' : Nat), (binOp .eql 139 (.slice a n c) (.slice none n' c')).run Try.prog w = .ok (.bool a.isNone) w := fun w a n c n' c' => Lib.run_eql_slice_nil w _ _ a n c n' c' Try.underlying139
  by_cases h1 : 0 ≤ s
  · obtain ⟨m, rfl⟩ := Int.eq_ofNat_of_zero_le h1
    have h1' : decide ((m : Int) < 0) = false := decide_eq_false (by omega)
    by_cases h2 : m < n
    · have h2' : decide (n ≤ m) = false := decide_eq_false (by omega)
      rw [if_pos (by omega)]
      have hm0 : (0 : Int) ≤ (m : Int) := by omega
      have hm1 : (m : Int) < (n : Int) := by omega
      go_enter Try.func73, Try.ntmps73
      go_wp2
      go_ret2
      simp
    · have h2' : decide (n ≤ m) = true := decide_eq_true (by omega)
      rw [if_neg (by omega)]
      clear h2
      go_enter Try.func73, Try.ntmps73
      go_wp2
      go_ret2
      exact ⟨rfl, rfl⟩
  · have h1' : decide (s < 0) = true := decide_eq_true (by omega)
    rw [if_neg (by omega)]
    clear h1
    go_enter Try.func73, Try.ntmps73
    go_wp2
    go_ret2
    exact ⟨rfl, rfl⟩

theorem ret3_mk {a b c x y z : Int} (h : a = x ∧ b = y ∧ c = z) : Ending.returned (.tuple #[.int .i64 a, .int .i64 b, .int .i64 c]) = .returned (.tuple #[.int .i64 x, .int .i64 y, .int .i64 z]) := by rw [h.1, h.2.1, h.2.2]
/-- what a station has, in the site -/
theorem SiteAt.res {W : World} {B gs gc cc : Nat} {A : Nat → Option Addr} {q : Nat → Nat} {cs : List Sx.Cl} {D Bk N : Int} (h : SiteAt W B gs gc cc A q cs D Bk N) {K : Int} (hk : K ≤ 100000) (hok : ∀ c ∈ cs, Sx.OkC K c) {i : Nat} (hi : i < cs.length) (t : Int) {w : World} (hb : Below W.heap.size W w) :
    Calls Try.prog 74 #[.pointer (some ⟨gc, i * 3, none⟩), .int .i64 t] w fun e w' => e = .returned (.tuple #[.int .i64 (Sx.rD (cs.getD i default) t), .int .i64 (Sx.rB (cs.getD i default) t), .int .i64 (Sx.many (cs.getD i default) t)]) ∧ Below w.heap.size w w' := by
  have hw := h.below hb
  have hm := hok (cs.getD i default) (by rw [List.getD_eq_getElem?_getD, List.getElem?_eq_getElem hi]; exact List.getElem_mem hi)
  have hc := lrow_cap (hw.r i hi)
  unfold maxLen at hc
  have hln := hm.ln
  exact reserved_c gc (i * 3) (A i) (q i) _ t w hm.ls (by omega) hc.1 (by omega) (hw.a.cell hi 0 rfl) (hw.a.cell hi 2 rfl) (lrow_at (hw.r i hi))
/-- what Reserved says -/
def RsV (cs : List Sx.Cl) (s t : Int) : Value := if 0 ≤ s ∧ s < cs.length then .tuple #[.int .i64 (Sx.rD (cs.getD s.toNat default) t), .int .i64 (Sx.rB (cs.getD s.toNat default) t), .int .i64 0] else .tuple #[.int .i64 0, .int .i64 0, .int .i64 3]
theorem Reserved_c {w : World} {B gs gc cc : Nat} {A : Nat → Option Addr} {q : Nat → Nat} {cs : List Sx.Cl} {D Bk N : Int} (h : SiteAt w B gs gc cc A q cs D Bk N) {K : Int} (hk : K ≤ 100000) (hok : ∀ c ∈ cs, Sx.OkC K c) (s t : Int) :
    Calls Try.prog 46 #[.pointer (some ⟨gs, 0, none⟩), .int .i64 s, .int .i64 t] w fun e w' => e = .returned (RsV cs s t) ∧ Below w.heap.size w w' := by
  have h73 := client_c gs gc cs.length cc s w h.c.1 h.c.2 (h.s.cell 3 rfl)
  unfold RsV
  by_cases hs : 0 ≤ s ∧ s < cs.length
  · rw [if_pos hs] at h73 ⊢
    have h74 := h.res hk hok (i := s.toNat) (by omega) t (Below.refl _ _)
    clear h hok hs
    generalize Sx.rD (cs.getD s.toNat default) t = x at *
    generalize Sx.rB (cs.getD s.toNat default) t = y at *
    generalize ((Sx.many (cs.getD s.toNat default) t : Nat) : Int) = z at *
    generalize s.toNat = m at *
    go_enter Try.func46, Try.ntmps46
    go_wp2_with (first | (go_at_call 73; refine h73.mono ?_; rintro e w' ⟨rfl, rfl⟩) | (go_at_call 74; refine h74.mono ?_; rintro e w1 ⟨rfl, hb⟩; have HB := Lib.hid hb; clear hb))
    go_ret3
    exact ⟨rfl, HB.out⟩
  · rw [if_neg hs] at h73 ⊢
    clear h hok hs
    go_enter Try.func46, Try.ntmps46
    go_wp2_with (go_at_call 73; refine h73.mono ?_; rintro e w' ⟨rfl, rfl⟩)
    go_ret3
    exact ⟨rfl, Below.refl _ _⟩
end Go.Proofs.Ytafajclbghofkaa
