/- The contract of heap.put of depot at visits. -/
import Derived.Test.YtmebpglkeedaoaaN2
import Derived.Test.YtmebpglkeedaoaaR15
import Derived.Test.YtmebpglkeedaoaaC3
namespace Go.Proofs.Ytmebpglkeedaoaa
open Go.RowKit Dp
set_option linter.unusedVariables false

theorem stepV_append {P : Program} {o : Oper} {a : Act} {w : World} {N : Value → World → Prop} (s x : Operand) (t : TypeId)
    (ho : o.op = .call { callee := .builtin .append, args := #[s, x], argTypes := #[t, t] })
    (base : Nat) (e : TypeId) (i : TypeInfo) (z : Value) (size bytes : Nat) (ht : P.underlying t = some (.slice e)) (hi : P.info? e = some i) (hz : i.zero = some z)
    (hsize : i.size = size) (hby : i.bytes = bytes) (hzs : z.cells.size = size) (hsz : 0 < size)
    (A : Option Addr) (n cap : Nat) (xs : List Value) (hs : a.eval s = .slice A n cap) (hown : w.ownsRow base e size (.slice A n cap) n xs)
    (Bo : Option Addr) (m c : Nat) (news : List Value) (hx : a.eval x = .slice Bo m c) (hl : news.length = m * size) (hnews : SrcRow w Bo m news) (h1 : ∀ u ∈ news, u.oneCell' = true)
    (h63 : n + m ≤ maxLen) (hbytes : (n + m) * bytes ≤ 140737488355328) (hbase : base ≤ w.heap.size)
    (h : ∀ A' cap' w', w'.ownsRow base e size (.slice A' (n + m) cap') (n + m) (xs ++ news) → w.grownBy w' (Value.slice A n cap).ownBlock → (∀ k, OwnB A' k → OwnB A k ∨ k = w.heap.size) → N (.slice A' (n + m) cap') w') : StepV P o a w N := by
  obtain ⟨A', cap', w', hr, h2, h3, h4⟩ := run_append_any (P := P) t o.type base e i z size bytes ht hi hz hsize hby hzs hsz A n cap xs hown Bo m c news hl hnews h1 h63 hbytes hbase
  unfold StepV execOp
  simp only [ho, resolve, invoke, builtin, Sem.run_bind, Sem.run_pure, Result.andThen_ok, List.map_toArray, List.map_cons, List.map_nil, hs, hx, hr]
  exact h A' cap' w' h2 h3 h4
theorem spineV_cons {P : Program} {C : World → Prop} {T : Act → World → Prop} {o : Oper} {f : Bool} {r : List (Oper × Bool)} {a : Act} {w : World} (h : StepV P o a w fun v w' => (f = true → C w') ∧ SpineV P C T r (a.put o.dst v) w') : SpineV P C T ((o, f) :: r) a w := h
theorem spineV_nil {P : Program} {C : World → Prop} {T : Act → World → Prop} {a : Act} {w : World} (h : T a w) : SpineV P C T [] a w := h
theorem less_c (a b c d : Int) (w : World) : Calls Try.prog 101 #[.agg #[.int .i64 a, .int .i64 b], .agg #[.int .i64 c, .int .i64 d]] w fun e w' => e = .returned (.bool (decide (b < d))) ∧ Below w.heap.size w w' := by
  go_enter Try.func101, Try.ntmps101
  go_wp2
  go_ret
  refine ⟨rfl, ?_⟩
  exact ((Below.refl w.heap.size w).alloc (Nat.le_refl _) _).alloc (by simp) _
def visC (e : Vs) : List Value := [.int .i64 e.1, .int .i64 e.2]
theorem visC_len (e : Vs) : (visC e).length = 2 := rfl
theorem info154 : (Try.prog.info? 154).map (fun i => (i.zero, i.size, i.bytes)) = some (some (.agg #[.int .i64 0, .int .i64 0]), 2, 16) := by kernel_rfl
/-- a heap of visits at block b -/
def HpAt (w : World) (B b : Nat) (A : Option Addr) (c : Nat) (l : List Vs) : Prop := Blk w b 158 [.slice A l.length c, .func (.func 101) #[] #[]] ∧ OwnR visC 154 2 B w A c l ∧ ¬ OwnB A b

theorem HpAt.touch {S : Nat → Prop} {w w' : World} {B b : Nat} {A : Option Addr} {c : Nat} {l : List Vs} (h : HpAt w B b A c l) (k : Touch S w w') (h1 : ¬ S b) (h2 : ∀ g, OwnB A g → ¬ S g) : HpAt w' B b A c l := ⟨h.1.touch k h1, h.2.1.touch k h2, h.2.2⟩
theorem HpAt.below {w w' : World} {B b : Nat} {A : Option Addr} {c : Nat} {l : List Vs} (h : HpAt w B b A c l) (k : Below w.heap.size w w') : HpAt w' B b A c l := ⟨h.1.below k h.1.lt, h.2.1.below k, h.2.2⟩
/-- memory in put before the list grows -/
def PutC (w : World) (B b : Nat) (A : Option Addr) (c : Nat) (l : List Vs) (x y : Int) (V : World) : Prop := HpAt V B b A c l ∧ Below w.heap.size w V ∧ Blk V w.heap.size 154 [.int .i64 x, .int .i64 y]
theorem PutC.alloc {w : World} {B b : Nat} {A : Option Addr} {c : Nat} {l : List Vs} {x y : Int} {V : World} (h : PutC w B b A c l x y V) (o : Obj) : PutC w B b A c l x y (V.alloc o) :=
  ⟨h.1.below ((Below.refl _ _).alloc (Nat.le_refl _) _), h.2.1.alloc h.2.1.size _, h.2.2.alloc _⟩
theorem PutC.drew {w : World} {B b : Nat} {A : Option Addr} {c : Nat} {l : List Vs} {x y : Int} {V : World} (h : PutC w B b A c l x y V) : PutC w B b A c l x y V.drew := ⟨⟨h.1.1.drew, h.1.2.1.drew, h.1.2.2⟩, h.2.1.drew, h.2.2.drew⟩

/-- memory in put once the list has grown -/
def PutJ (w : World) (B b : Nat) (A : Option Addr) (l : List Vs) (x y : Int) (g c' : Nat) (l' : List Vs) (W : World) : Prop :=
  HpAt W B b (some ⟨g, 0, none⟩) c' l' ∧ l'.Perm ((x, y) :: l) ∧ Touch (fun k => k = b ∨ OwnB A k) w W ∧ (OwnB A g ∨ w.heap.size ≤ g)
theorem ownB_some {g k : Nat} : OwnB (some ⟨g, 0, none⟩) k ↔ k = g := ⟨fun ⟨a, h, e⟩ => by cases h; exact e.symm, fun h => ⟨_, rfl, h.symm⟩⟩
theorem putJ_new {w V W : World} {B b : Nat} {A : Option Addr} {c : Nat} {l : List Vs} {x y : Int} {g c' : Nat} (hV : PutC w B b A c l x y V) (ho : W.ownsRow B 154 2 (.slice (some ⟨g, 0, none⟩) (l.length + 1) c') (l.length + 1) (flat visC l ++ [.int .i64 x, .int .i64 y]))
    (hg : V.grownBy W (Value.slice A l.length c).ownBlock) (hk : OwnB A g ∨ g = V.heap.size) (hb : b < w.heap.size) :
    PutJ w B b A l x y g c' (l ++ [(x, y)]) (W.setCell ⟨b, 0, none⟩ (.slice (some ⟨g, 0, none⟩) (l.length + 1) c')) := by
  have hbV : b < V.heap.size := Nat.lt_of_lt_of_le hb hV.2.1.size
  have hbg : b ≠ g := by
    intro e; subst e
    rcases hk with hk | hk
    · exact hV.1.2.2 hk
    · omega
  have h1 : Blk W b 158 [.slice A l.length c, .func (.func 101) #[] #[]] := hV.1.1.grown hg (fun e => hV.1.2.2 (ownB_iff.2 e.symm))
  have h2 := h1.setCell 0 (.slice (some ⟨g, 0, none⟩) (l.length + 1) c')
  have hl : (l ++ [(x, y)]).length = l.length + 1 := by simp
  refine ⟨⟨by rw [hl]; exact h2, ?_, fun h => hbg (ownB_some.1 h)⟩, ?_, ?_, ?_⟩
  · have h3 : OwnR visC 154 2 B W (some ⟨g, 0, none⟩) c' (l ++ [(x, y)]) := by
      unfold OwnR
      rw [hl, flat_append]
      exact ho
    exact h3.set_ne (fun h => hbg (ownB_some.1 h)) _
  · exact List.perm_append_singleton _ _
  · refine Touch.setCell ?_ (.inl (.inl rfl)) _
    exact (Touch.of_below hV.2.1).grown hg (fun k e => .inl (.inr (ownB_iff.2 e)))
  · rcases hk with hk | hk
    · exact .inl hk
    · right; have := hV.2.1.size; omega
theorem PutJ.below {w W W' : World} {B b : Nat} {A : Option Addr} {l : List Vs} {x y : Int} {g c' : Nat} {l' : List Vs} (h : PutJ w B b A l x y g c' l' W) (hb : Below W.heap.size W W') : PutJ w B b A l x y g c' l' W' :=
  ⟨h.1.below hb, h.2.1, h.2.2.1.below hb, h.2.2.2⟩
theorem PutJ.drew {w W : World} {B b : Nat} {A : Option Addr} {l : List Vs} {x y : Int} {g c' : Nat} {l' : List Vs} (h : PutJ w B b A l x y g c' l' W) : PutJ w B b A l x y g c' l' W.drew := h.below (Below.refl _ _).drew
theorem HpAt.put {w : World} {B b g c : Nat} {l : List Vs} (h : HpAt w B b (some ⟨g, 0, none⟩) c l) (i : Nat) (e : Vs) (hi : i < l.length) : HpAt ((w.setCell ⟨g, i * 2, none⟩ (.int .i64 e.1)).setCell ⟨g, i * 2 + 1, none⟩ (.int .i64 e.2)) B b (some ⟨g, 0, none⟩) c (l.set i e) := by
  have hbg : b ≠ g := fun e => h.2.2 (ownB_some.2 e)
  refine ⟨by rw [List.length_set]; exact (h.1.setCell_ne (p := ⟨g, i * 2, none⟩) hbg _).setCell_ne (p := ⟨g, i * 2 + 1, none⟩) hbg _, ?_, h.2.2⟩
  have h1 := h.2.1.put visC_len i 0 (e.1, (l.getD i (0, 0)).2) (l.getD i (0, 0)) (.int .i64 e.1) (getElem_D l i (0, 0) hi) (by omega) rfl
  have h2 := h1.put visC_len i 1 e (e.1, (l.getD i (0, 0)).2) (.int .i64 e.2) (by rw [List.getElem?_set_self hi]) (by omega) rfl
  rw [List.set_set] at h2
  exact h2
theorem HpAt.cells {w : World} {B b g c : Nat} {l : List Vs} (h : HpAt w B b (some ⟨g, 0, none⟩) c l) (i : Nat) (hi : i < l.length) : w.cell? ⟨g, i * 2, none⟩ = some (.int .i64 (l.getD i (0, 0)).1) ∧ w.cell? ⟨g, i * 2 + 1, none⟩ = some (.int .i64 (l.getD i (0, 0)).2) :=
  ⟨h.2.1.cell visC_len i 0 _ (getElem_D l i (0, 0) hi) (by omega), h.2.1.cell visC_len i 1 _ (getElem_D l i (0, 0) hi) (by omega)⟩
theorem HpAt.swap {w : World} {B b g c : Nat} {l : List Vs} (h : HpAt w B b (some ⟨g, 0, none⟩) c l) (i j : Nat) (hi : i < l.length) (hj : j < l.length) :
    HpAt ((((w.setCell ⟨g, i * 2, none⟩ (.int .i64 (l.getD j (0, 0)).1)).setCell ⟨g, i * 2 + 1, none⟩ (.int .i64 (l.getD j (0, 0)).2)).setCell ⟨g, j * 2, none⟩ (.int .i64 (l.getD i (0, 0)).1)).setCell ⟨g, j * 2 + 1, none⟩ (.int .i64 (l.getD i (0, 0)).2)) B b (some ⟨g, 0, none⟩) c (swp l i j) :=
  (h.put i _ hi).put j _ (by simpa using hj)
theorem PutJ.swap {w W : World} {B b : Nat} {A : Option Addr} {l : List Vs} {x y : Int} {g c' : Nat} {l' : List Vs} (h : PutJ w B b A l x y g c' l' W) (i j : Nat) (hi : i < l'.length) (hj : j < l'.length) :
    PutJ w B b A l x y g c' (swp l' i j) ((((W.setCell ⟨g, i * 2, none⟩ (.int .i64 (l'.getD j (0, 0)).1)).setCell ⟨g, i * 2 + 1, none⟩ (.int .i64 (l'.getD j (0, 0)).2)).setCell ⟨g, j * 2, none⟩ (.int .i64 (l'.getD i (0, 0)).1)).setCell ⟨g, j * 2 + 1, none⟩ (.int .i64 (l'.getD i (0, 0)).2)) := by
  have hS : (g = b ∨ OwnB A g) ∨ w.heap.size ≤ g := h.2.2.2.elim (fun h => .inl (.inr h)) .inr
  exact ⟨h.1.swap i j hi hj, (swp_perm hi hj).trans h.2.1, (((h.2.2.1.setCell (p := ⟨g, i * 2, none⟩) hS _).setCell (p := ⟨g, i * 2 + 1, none⟩) hS _).setCell (p := ⟨g, j * 2, none⟩) hS _).setCell (p := ⟨g, j * 2 + 1, none⟩) hS _, h.2.2.2⟩
set_option maxRecDepth 100000 in
theorem put_c (b : Nat) (A : Option Addr) (n c : Nat) (l : List Vs) (x y : Int) (B : Nat) (w : World) (hn : n = l.length) (hn2 : n ≤ 8388608) (hB : B ≤ w.heap.size) (h : HpAt w B b A c l) (hp : Heap l) :
    Calls Try.prog 102 #[.pointer (some ⟨b, 0, none⟩), .agg #[.int .i64 x, .int .i64 y]] w fun e w' => e = .returned (.tuple #[]) ∧ ∃ A' c' l', HpAt w' B b A' c' l' ∧ l'.Perm ((x, y) :: l) ∧ Heap l' ∧ Touch (fun k => k = b ∨ OwnB A k) w w' ∧ ∀ k, OwnB A' k → OwnB A k ∨ w.heap.size ≤ k := by
  have HN := Lib.hid hn
  have HA := Lib.hid h
  have HP := Lib.hid hp
  clear h hp hn
  have hbl := HA.out.1.lt
  have X1 := Lib.hid (Blk.new' w #[.int .i64 x, .int .i64 y] 154)
  have B1 := Lib.hid (Below.refl w.heap.size w |>.alloc (Nat.le_refl _) (.cells #[.int .i64 x, .int .i64 y] 154))
  obtain ⟨i0, hi, hz0, hz1, hz2⟩ := info_parts info154
  go_enter Try.func102, Try.ntmps102
  go_wp2_with fail
  have J1 : Hid (PutC w B b A c l x y (w.alloc (.cells #[.int .i64 x, .int .i64 y] 154))) := Lib.hid ⟨HA.out.below B1.out, B1.out, X1.out⟩
  generalize w.alloc (.cells #[.int .i64 x, .int .i64 y] 154) = w1 at J1 ⊢
  clear X1 B1
  refine wp_region_spine 6 [true, false] [0] ?af1 (fun V => PutC w B b A c l x y V) (by kernel_rfl) (by kernel_rfl) J1.out.drew ?walk1 ?spine1
  case walk1 =>
    intro V hV
    have c0 := hV.1.1.cell 0 rfl
    have d0 := hV.2.2.cell 0 rfl
    have d1 := hV.2.2.cell 1 rfl
    clear hV
    rw [← HN.out] at c0
    simp only [List.take_succ_cons, List.take_zero]
    repeat (go_big_quiet_step (fail))
    refine wpQuiet_nil ?_
    rfl
  case spine1 =>
    intro V hV
    have JV := Lib.hid hV
    refine spineV_cons ?_
    unfold StepV
    clear hV
    go_simp
    refine ⟨JV.out.alloc _, ?_⟩
    have J2 := Lib.hid (JV.out.alloc (.cells #[.int .i64 x, .int .i64 y] 154))
    have X2 := Lib.hid (Blk.new' V #[.int .i64 x, .int .i64 y] 154)
    generalize V.alloc (.cells #[.int .i64 x, .int .i64 y] 154) = V2 at J2 X2 ⊢
    generalize V.heap.size = gv at *
    refine spineV_cons ?_
    refine stepV_append (.tmp 10) (.tmp 12) 156 rfl B 154 i0 (.agg #[.int .i64 0, .int .i64 0]) 2 16 Try.underlying156 hi hz0 hz1 hz2 rfl (by decide) A n c (flat visC l) (by rfl) (by rw [HN.out]; exact J2.out.1.2.1) (some ⟨gv, 0, none⟩) 1 1 [.int .i64 x, .int .i64 y] (by rfl) (by rfl) (.inr ⟨_, rfl, ?_⟩) (by simp [Value.oneCell']) (by unfold maxLen; omega) (by omega) ?_ ?_
    · intro j u hj
      rcases j with _ | _ | j
      · simp at hj; subst hj; exact X2.out.cell 0 rfl
      · simp at hj; subst hj; exact X2.out.cell 1 rfl
      · simp at hj
    · have := J2.out.2.1.size; omega
    intro A' c' w3 ho hg hk
    refine ⟨fun h => (by cases h), ?_⟩
    obtain ⟨g, c'', hA', _, _⟩ := ho.form (by omega)
    cases hA'
    have hk2 : OwnB A g ∨ g = V2.heap.size := hk g (ownB_some.2 rfl)
    have GB := J2.out.1.1.grown hg (fun e => J2.out.1.2.2 (ownB_iff.2 (by rw [HN.out] at e; exact e.symm)))
    have fz := GB.free 0
    have cc := GB.cell 0 rfl
    clear GB
    have J3 : Hid (PutJ w B b A l x y g c' (l ++ [(x, y)]) (w3.setCell ⟨b, 0, none⟩ (.slice (some ⟨g, 0, none⟩) (n + 1) c'))) := Lib.hid (by
      rw [HN.out] at ho hg ⊢
      exact putJ_new J2.out ho hg hk2 hbl)
    have U3 := Lib.hid (up_start HP.out (x, y))
    rw [← HN.out] at U3
    clear ho hg hk hk2 J2 X2 JV J1
    refine spineV_nil ?_
    go_wp2_with fail
    trace "loop"
    generalize w3.setCell ⟨b, 0, none⟩ (.slice (some ⟨g, 0, none⟩) (n + 1) c') = w4 at J3 ⊢
    clear fz cc
    go_loopw [4] (fun i wr => ∃ k : Nat, i = .int .i64 k ∧ k < n + 1 ∧ Hid (∃ l', PutJ w B b A l x y g c' l' wr ∧ UpAt l' k)) (fun i _ => (intOf i).toNat)
    case atStart => 
      refine ⟨n, ?_, by omega, Lib.hid ⟨_, J3.out, U3.out⟩⟩
      go_num
    case round =>
      obtain ⟨k, rfl, hk, HJ⟩ := hrel
      obtain ⟨l', j, u⟩ := HJ.out
      have JR := Lib.hid j
      have UR := Lib.hid u
      clear HJ j u
      have HL : Hid (l'.length = n + 1) := Lib.hid (by rw [JR.out.2.1.length_eq, HN.out]; rfl)
      by_cases h0 : k = 0
      · subst h0
        go_wp2
        refine bodyPost_end (v := .tuple #[]) (by simp [results, Try.results102, go_sem]) rfl ⟨rfl, _, _, l', JR.out.1, JR.out.2.1, up_done UR.out (.inl rfl), JR.out.2.2.1, ?_⟩
        intro q hq
        rw [ownB_some.1 hq]
        exact JR.out.2.2.2
      · obtain ⟨q, hq⟩ : ∃ q : Nat, q = (k - 1) / 2 := ⟨_, rfl⟩
        have HQ := Lib.hid hq
        have hq1 : ((k : Int) - 1) / 2 = (q : Int) := by omega
        have hqn : q < n + 1 := by omega
        clear hq
        have k0 : (0 : Int) < (k : Int) := by omega
        have c0 := JR.out.1.1.cell 0 rfl
        have c1 := JR.out.1.1.cell 1 rfl
        rw [HL.out] at c0
        have bl := JR.out.1.1.lt
        have gl := JR.out.1.2.1.lt.2
        obtain ⟨e0, e1⟩ := JR.out.1.cells k (by rw [HL.out]; exact hk)
        obtain ⟨f0, f1⟩ := JR.out.1.cells q (by rw [HL.out]; exact hqn)
        have HS := Lib.hid (fun V (h : PutJ w B b A l x y g c' l' V) => h.swap k q (by rw [HL.out]; exact hk) (by rw [HL.out]; exact hqn))
        have HE1 : Hid (keyAt l' k = (l'.getD k (0, 0)).2) := Lib.hid rfl
        have HE2 : Hid (keyAt l' q = (l'.getD q (0, 0)).2) := Lib.hid rfl
        generalize hek : (l'.getD k (0, 0)) = ek at *
        generalize heq : (l'.getD q (0, 0)) = eq at *
        obtain ⟨ek0, ek1⟩ := ek
        obtain ⟨eq0, eq1⟩ := eq
        have HEK := Lib.hid hek
        have HEQ := Lib.hid heq
        clear hek heq
        simp only at e0 e1 f0 f1 HE1 HE2 HS
        go_wp2_with fail
        refine wp_region_past (by kernel_rfl) (by kernel_rfl) ?_
        repeat (go_big_quiet_step (exact past_below (less_c _ _ _ _ _)))
        refine wpQuiet_nil ?_
        intro xx
        have J5 := Lib.hid (JR.out.below xx.far)
        generalize xx.w = w5 at J5 ⊢
        clear c0 c1 e0 e1 f0 f1 bl gl
        by_cases hlt : ek1 < eq1
        · have d1 : decide (ek1 < eq1) = true := decide_eq_true hlt
          simp only [d1, Bool.not_true]
          go_wp2_with fail
          refine wp_region_spine 25 [false] [9] ?af6 (fun V => PutJ w B b A l x y g c' l' V) (by kernel_rfl) (by kernel_rfl) J5.out.drew ?walk6 ?spine6
          case walk6 =>
            intro V hV
            have c0 := hV.1.1.cell 0 rfl
            rw [HL.out] at c0
            obtain ⟨e0, e1⟩ := hV.1.cells k (by rw [HL.out]; exact hk)
            obtain ⟨f0, f1⟩ := hV.1.cells q (by rw [HL.out]; exact hqn)
            rw [HEK.out] at e0 e1
            rw [HEQ.out] at f0 f1
            clear hV
            simp only [List.take_succ_cons, List.take_zero]
            repeat (go_big_quiet_step (fail))
            refine wpQuiet_nil ?_
            rfl
          case spine6 =>
            intro V hV
            have HSV := Lib.hid (HS.out V hV)
            have HUP : Hid (UpAt (swp l' k q) q) := Lib.hid (by
              have e1 := HE1.out
              have e2 := HE2.out
              rw [HQ.out] at e2 ⊢
              exact up_step UR.out (by omega) (by rw [HL.out]; exact hk) (by omega))
            have P1 := Lib.hid (hV.1.put k (eq0, eq1) (by rw [HL.out]; exact hk))
            obtain ⟨e0, e1⟩ := hV.1.cells k (by rw [HL.out]; exact hk)
            have z0 := hV.1.2.1.free (k * 2)
            have z1 := hV.1.2.1.free (k * 2 + 1)
            clear hV
            refine spineV_cons ?_
            unfold StepV
            go_simp
            generalize (V.setCell ⟨g, k * 2, none⟩ (.int .i64 eq0)).setCell ⟨g, k * 2 + 1, none⟩ (.int .i64 eq1) = V1 at HSV P1 ⊢
            clear e0 e1 z0 z1
            refine spineV_nil ?_
            obtain ⟨e0, e1⟩ := P1.out.cells q (by rw [List.length_set, HL.out]; exact hqn)
            have z0 := P1.out.2.1.free (q * 2)
            have z1 := P1.out.2.1.free (q * 2 + 1)
            go_wp2_with fail
            go_roundw
            case rel => exact ⟨q, rfl, by omega, Lib.hid ⟨_, HSV.out, HUP.out⟩⟩
            case measure => simp [intOf]; omega
        · have d1 : decide (ek1 < eq1) = false := decide_eq_false hlt
          simp only [d1, Bool.not_false]
          go_wp2
          refine bodyPost_ret (v := .tuple #[]) (by simp [results, Try.results102, go_sem]) rfl ⟨rfl, _, _, l', J5.out.1, J5.out.2.1, up_done UR.out (.inr ?_), J5.out.2.2.1, ?_⟩
          · rw [← HQ.out, HE1.out, HE2.out]; omega
          · intro q hq
            rw [ownB_some.1 hq]
            exact J5.out.2.2.2
end Go.Proofs.Ytmebpglkeedaoaa
