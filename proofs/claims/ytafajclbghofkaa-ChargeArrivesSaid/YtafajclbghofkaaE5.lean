/- For the law of arrivals: hops in memory, what holds between the rounds, what the rounds leave. -/
import Derived.Test.YtafajclbghofkaaE4
import Derived.Test.YtafajclbghofkaaR3
import Derived.Deep.CutBlock
namespace Go.Proofs.Ytafajclbghofkaa
open Go.RowKit
set_option linter.unusedVariables false

theorem no_ownB {k : Nat} : ¬ OwnB none k := fun ⟨_, e, _⟩ => by cases e
/-- a hop in memory -/
structure Hp where
  d : Int
  a : Int
instance : Inhabited Hp := ⟨⟨0, 0⟩⟩
abbrev HopAt (w : World) (ad : Addr) (h : Hp) : Prop := w.cell? ad = some (.int .u8 h.d) ∧ w.cell? ⟨ad.block, ad.off + 1, none⟩ = some (.int .u8 h.a)
theorem HopAt.below {w w1 : World} {ad : Addr} {h : Hp} (hh : HopAt w ad h) (hb : Below w.heap.size w w1) : HopAt w1 ad h := by
  have hlt : ad.block < w.heap.size := World.block_lt_of_cell? _ _ hh.1
  exact ⟨(hb.cell hlt).trans hh.1, (hb.cell (p := ⟨_, _, none⟩) hlt).trans hh.2⟩
def HopsAt (w : World) (A : Option Addr) (hs : List Hp) : Prop := ∀ i, i < hs.length → ∃ ad, A = some ad ∧ HopAt w (ad.add (i * 2)) (hs.getD i default) ∧ (0 ≤ (hs.getD i default).d ∧ (hs.getD i default).d ≤ 255) ∧ 0 ≤ (hs.getD i default).a ∧ (hs.getD i default).a ≤ 255
/-- what holds between the rounds -/
def ArRel (w : World) (k : Nat) (v : Value) (W : World) : Prop := ∃ A c s ln AF cF F, v = .slice AF F.length cF ∧ ArS w (w.heap.size + 2) (w.heap.size + 3) (w.heap.size + 4) (fun e => w.heap.size + e) A c s (fun e => (ln e).tk) ln AF cF F W ∧ Ar.Inv k s ln F ∧ F.length ≤ 100
theorem tks_up (ln : Nat → Ln) (e : Nat) (l' : Ln) : (fun j => (Ar.up ln e l' j).tk) = Ar.up (fun j => (ln j).tk) e l'.tk := by
  funext j
  by_cases h : j = e
  · subst h; simp [Ar.up_same]
  · simp [Ar.up_ne _ _ h]
/-- a line of the state -/
theorem ArS.at_ {w : World} {ge gs gg : Nat} {gx : Nat → Nat} {A : Nat → Option Addr} {c : Nat → Nat} {s q : Nat → Int} {ln : Nat → Ln} {AF : Option Addr} {cF : Nat} {F : List (Nat × Pk)} {W : World} (h : ArS w ge gs gg gx A c s q ln AF cF F W) (e : Nat) (he : e < 2) : LineAt W w.heap.size (gx e) (A e) (c e) (ln e) := h.two.x e he

theorem up_self {α : Type} (f : Nat → α) (e : Nat) : Ar.up f e (f e) = f := by
  funext j
  by_cases h : j = e
  · subst h; rw [Ar.up_same]
  · rw [Ar.up_ne _ _ h]
theorem tks_no {ln : Nat → Ln} {e : Nat} {l' : Ln} {b : Bool} (h : l'.tk = (ln e).tk + if b = true then 1 else 0) (hb : false = b) : (fun j => (ln j).tk) = fun j => (Ar.up ln e l' j).tk := by
  subst hb
  have h2 : l'.tk = (fun j => (ln j).tk) e := by simpa using h
  rw [tks_up, h2, up_self]
theorem tks_yes {ln : Nat → Ln} {e : Nat} {l' : Ln} {b : Bool} (h : l'.tk = (ln e).tk + if b = true then 1 else 0) (hb : true = b) : Ar.up (fun j => (ln j).tk) e ((ln e).tk + 1) = fun j => (Ar.up ln e l' j).tk := by
  subst hb
  have h2 : l'.tk = (ln e).tk + 1 := by simpa using h
  rw [tks_up, h2]
theorem inv_next {k : Nat} {s : Nat → Int} {ln : Nat → Ln} {F : List (Nat × Pk)} (h : Ar.Inv k s ln F) : Ar.Inv ((k + 1 : Nat) : Int) s ln F := h.mono (by omega)
section
variable {w W : World} {k : Nat} {A : Nat → Option Addr} {c : Nat → Nat} {s q : Nat → Int} {ln : Nat → Ln} {AF : Option Addr} {cF : Nat} {F : List (Nat × Pk)}
theorem rel_mk (h : ArS w (w.heap.size + 2) (w.heap.size + 3) (w.heap.size + 4) (fun e => w.heap.size + e) A c s q ln AF cF F W) (hq : q = fun e => (ln e).tk) (hi : Ar.Inv ((k + 1 : Nat) : Int) s ln F) (h100 : F.length ≤ 100) : ArRel w (k + 1) (.slice AF F.length cF) W := by
  subst hq
  exact ⟨A, c, s, ln, AF, cF, F, rfl, h, hi, h100⟩
theorem rel_send {e o : Nat} (he : e + o = 1) (h : ArS w (w.heap.size + 2) (w.heap.size + 3) (w.heap.size + 4) (fun e => w.heap.size + e) A c s (fun e => (ln e).tk) (Ar.up ln e (Lx.sendL (ln e) (Ar.nt e (s e + 1)))) AF cF F W) (hi : Ar.Inv k s ln F) (hl : (ln e).L.length < 64) (h100 : F.length ≤ 100) :
    ArRel w (k + 1) (.slice AF F.length cF) (W.setCell ⟨w.heap.size + 3, e, none⟩ (.int .i64 (s e + 1))) := by
  refine rel_mk (h.setSent (by omega) (s e + 1)) ?_ ?_ h100
  · rw [tks_up, show (Lx.sendL (ln e) (Ar.nt e (s e + 1))).tk = (fun j => (ln j).tk) e by unfold Lx.sendL; split <;> rfl, up_self]
  · have := hi.send he hl
    simpa using this
theorem rel_full {e : Nat} (h : ArS w (w.heap.size + 2) (w.heap.size + 3) (w.heap.size + 4) (fun e => w.heap.size + e) A c s (fun e => (ln e).tk) (Ar.up ln e (Lx.sendL (ln e) (Ar.nt e (s e + 1)))) AF cF F W) (hi : Ar.Inv k s ln F) (hl : 64 ≤ (ln e).L.length) (h100 : F.length ≤ 100) :
    ArRel w (k + 1) (.slice AF F.length cF) W := by
  have hs : Lx.sendL (ln e) (Ar.nt e (s e + 1)) = ln e := by unfold Lx.sendL; rw [if_pos hl]
  rw [hs, up_self] at h
  exact rel_mk h rfl (inv_next hi) h100
theorem rel_poll {e o : Nat} (he : e + o = 1) (h : ArS w (w.heap.size + 2) (w.heap.size + 3) (w.heap.size + 4) (fun e => w.heap.size + e) A c s (fun e => (ln e).tk) (Ar.up ln e (Lx.pollL (ln e))) AF cF F W) (hi : Ar.Inv k s ln F) (h100 : F.length ≤ 100) :
    ArRel w (k + 1) (.slice AF F.length cF) W := by
  refine rel_mk h ?_ (inv_next (hi.poll he).1) h100
  rw [tks_up, show (Lx.pollL (ln e)).tk = (fun j => (ln j).tk) e from rfl, up_self]
theorem rel_add {e o : Nat} (he : e + o = 1) (h : ArS w (w.heap.size + 2) (w.heap.size + 3) (w.heap.size + 4) (fun e => w.heap.size + e) A c s (fun e => (ln e).tk) (Ar.up ln e (Lx.pollL (ln e))) AF cF (F ++ [(e, Lx.pollP (ln e))]) W) (hi : Ar.Inv k s ln F) (hb : Lx.pollB (ln e) = true) (h100 : F.length < 100) :
    ArRel w (k + 1) (.slice AF (F.length + 1) cF) W := by
  have h2 := rel_mk (k := k) h (by rw [tks_up, show (Lx.pollL (ln e)).tk = (fun j => (ln j).tk) e from rfl, up_self]) (inv_next ((hi.poll he).1.add ((hi.poll he).2 hb))) (by simp; omega)
  simpa using h2
end
theorem src_sent {W : World} {b : Nat} {x : Nat × Pk} (h : Blk W b 66 (sentV x)) : SrcRow W (some ⟨b, 0, none⟩) 1 (sentV x) :=
  .inr ⟨_, rfl, fun j u hu => by rw [show ((⟨b, 0, none⟩ : Addr).add j) = ⟨b, j, none⟩ from (by unfold Addr.add; split <;> simp_all)]; exact h.cell j hu⟩
theorem sent_new (W : World) (o : Obj) (x : Nat × Pk) : Blk ((W.alloc o).alloc (.cells #[.int .i64 x.1, .bool x.2.has, .int .i64 x.2.nu, .int .i64 x.2.nt.k, .int .i64 x.2.nt.s, .int .i64 x.2.nt.a, .int .i64 x.2.nt.b, .int .i64 x.2.nt.c, .int .i64 x.2.ak] 66)) (W.heap.size + 1) 66 (sentV x) := by
  have := Blk.new' (W.alloc o) #[.int .i64 x.1, .bool x.2.has, .int .i64 x.2.nu, .int .i64 x.2.nt.k, .int .i64 x.2.nt.s, .int .i64 x.2.nt.a, .int .i64 x.2.nt.b, .int .i64 x.2.nt.c, .int .i64 x.2.ak] 66
  rw [show (W.alloc o).heap.size = W.heap.size + 1 by simp] at this
  exact this
theorem flight_add {w W w2 : World} {ge gs gg : Nat} {gx : Nat → Nat} {A : Nat → Option Addr} {c : Nat → Nat} {s q : Nat → Int} {ln : Nat → Ln} {AF A' : Option Addr} {cF c' n0 : Nat} {F : List (Nat × Pk)} {x : Nat × Pk} (h : ArS w ge gs gg gx A c s q ln AF cF F W)
    (hg : W.grownBy w2 (Value.slice AF n0 cF).ownBlock) (hown : w2.ownsRow w.heap.size 66 9 (.slice A' (n0 + 1) c') (n0 + 1) (flatS F ++ sentV x)) (hn : n0 = F.length) : ArS w ge gs gg gx A c s q ln A' c' (F ++ [x]) w2 := by
  subst hn
  refine h.flight ((Touch.refl _ _).grown hg (fun k hk => .inl (ownB_iff.2 hk))) ?_
  rw [flatS_append]
  simpa [flatS] using hown
/-- the packet at a place -/
theorem flight_at {w W : World} {ge gs gg : Nat} {gx : Nat → Nat} {A : Nat → Option Addr} {c : Nat → Nat} {s q : Nat → Int} {ln : Nat → Ln} {AF : Option Addr} {cF : Nat} {F : List (Nat × Pk)} (h : ArS w ge gs gg gx A c s q ln AF cF F W) {p : Nat} (hp : p < F.length) :
    ∃ r x, AF = some ⟨r, 0, none⟩ ∧ F[p]? = some x ∧ F.length ≤ cF ∧ cF ≤ maxLen ∧ r < W.heap.size ∧ ∀ j u, (sentV x)[j]? = some u → W.cell? ⟨r, p * 9 + j, none⟩ = some u := by
  have hx : F[p]? = some F[p] := List.getElem?_eq_getElem hp
  rcases h.fl.2 with ⟨_, h0⟩ | ⟨r, cc, cur, hv, hb, hg, hnc, hcm, hcs, htake⟩
  · omega
  · cases hv
    refine ⟨r, F[p], rfl, hx, hnc, hcm, (Array.getElem?_eq_some_iff.1 hg).1, fun j u hu => ?_⟩
    have hd : ((flatS F).drop (p * 9))[j]? = some u := by
      rw [flatS_drop, List.drop_eq_getElem_cons hp]
      show (sentV F[p] ++ flatS (F.drop (p + 1)))[j]? = some u
      rw [List.getElem?_append_left (List.getElem?_eq_some_iff.1 hu).1]
      exact hu
    rw [List.getElem?_drop] at hd
    have hc := World.ownsRow.cells (g := r) h.fl rfl (p * 9 + j) u hd
    have ha : ((⟨r, 0, none⟩ : Addr).add (p * 9 + j)) = ⟨r, p * 9 + j, none⟩ := by unfold Addr.add; split <;> simp_all
    rw [ha] at hc
    exact hc
theorem own_emptyS {W : World} {B b : Nat} (h : Blk W b 66 []) (hB : B ≤ b) : W.ownsRow B 66 9 (.slice (some ⟨b, 0, none⟩) 0 0) 0 [] :=
  ⟨rfl, .inr ⟨b, 0, #[], rfl, hB, h, Nat.le_refl _, Nat.zero_le _, rfl, rfl⟩⟩
theorem flight_src {w W W' : World} {ge gs gg r : Nat} {gx : Nat → Nat} {A : Nat → Option Addr} {c : Nat → Nat} {s q : Nat → Int} {ln : Nat → Ln} {cF : Nat} {F : List (Nat × Pk)} (h : ArS w ge gs gg gx A c s q ln (some ⟨r, 0, none⟩) cF F W) (ht : Touch (fun _ => False) W W') :
    (∀ p, SrcRow W' (some ⟨r, 0, none⟩) p (flatS (F.take p))) ∧ ∀ p, SrcRow W' (some ⟨r, p * 9, none⟩) (F.length - p) (flatS (F.drop p)) := by
  have hf := ownE_keep h.fl ht (fun _ _ e => e)
  have hc := World.ownsRow.cells (g := r) hf rfl
  have ha : ∀ j, ((⟨r, 0, none⟩ : Addr).add j) = ⟨r, j, none⟩ := fun j => by unfold Addr.add; split <;> simp_all
  refine ⟨fun p => .inr ⟨_, rfl, fun j u hu => ?_⟩, fun p => .inr ⟨_, rfl, fun j u hu => ?_⟩⟩
  · rw [← flatS_take] at hu
    have hl := (List.getElem?_eq_some_iff.1 hu).1
    rw [List.length_take] at hl
    rw [List.getElem?_take_of_lt (by omega)] at hu
    exact hc j u hu
  · rw [← flatS_drop, List.getElem?_drop] at hu
    have := hc _ u hu
    rw [ha] at this
    rw [show ((⟨r, p * 9, none⟩ : Addr).add j) = ⟨r, p * 9 + j, none⟩ from (by unfold Addr.add; split <;> simp_all)]
    exact this
theorem cut_one {wr W w1 : World} {e : Nat} {A1 : Option Addr} {cs : List Value} (ht : Touch (fun _ => False) wr W) (hS : Blk W wr.heap.size 66 cs) (he : wr.heap.size < e) (hg : W.grownBy w1 (Value.slice (some ⟨e, 0, none⟩) 0 0).ownBlock) (hat : ∀ k, OwnB A1 k → OwnB (some ⟨e, 0, none⟩) k ∨ k = W.heap.size) :
    (Touch (fun _ => False) wr w1 ∧ Blk w1 wr.heap.size 66 cs) ∧ ∀ k, OwnB A1 k → wr.heap.size < k :=
  ⟨⟨ht.grown hg (fun k hk => .inr (by simp [Value.ownBlock] at hk; omega)), hS.grown hg (by simp [Value.ownBlock]; omega)⟩, fun k hk => by
    rcases hat k hk with ⟨a, e1, e2⟩ | e1
    · cases e1; simp at e2; omega
    · have := hS.lt; omega⟩
theorem cut_two {wr w1 w2 : World} {A1 : Option Addr} {n cc : Nat} {cs : List Value} (h : (Touch (fun _ => False) wr w1 ∧ Blk w1 wr.heap.size 66 cs) ∧ ∀ k, OwnB A1 k → wr.heap.size < k) (hg : w1.grownBy w2 (Value.slice A1 n cc).ownBlock) : Touch (fun _ => False) wr w2 ∧ Blk w2 wr.heap.size 66 cs :=
  ⟨h.1.1.grown hg (fun k hk => .inr (Nat.le_of_lt (h.2 k (ownB_iff.2 hk)))), h.1.2.grown hg (own_ne (fun e => by have := h.2 _ e; omega))⟩
theorem flight_cut {w W w2 : World} {ge gs gg r p0 n0 c2 : Nat} {gx : Nat → Nat} {A : Nat → Option Addr} {c : Nat → Nat} {s q : Nat → Int} {ln : Nat → Ln} {cF : Nat} {F : List (Nat × Pk)} {A2 : Option Addr} (h : ArS w ge gs gg gx A c s q ln (some ⟨r, 0, none⟩) cF F W) (ht : Touch (fun _ => False) W w2)
    (hown : w2.ownsRow w.heap.size 66 9 (.slice A2 (p0 + (n0 - (p0 + 1))) c2) (p0 + (n0 - (p0 + 1))) (flatS (F.take p0) ++ flatS (F.drop (p0 + 1)))) (hn : n0 = F.length) (hp : p0 < n0) : ArS w ge gs gg gx A c s q ln A2 c2 (F.take p0 ++ F.drop (p0 + 1)) w2 ∧ (F.take p0 ++ F.drop (p0 + 1)).length = p0 + (n0 - (p0 + 1)) := by
  have hl : (F.take p0 ++ F.drop (p0 + 1)).length = p0 + (n0 - (p0 + 1)) := by rw [List.length_append, List.length_take, List.length_drop]; omega
  refine ⟨h.flight (ht.mono (fun _ e => e.elim)) ?_, hl⟩
  rw [hl, flatS_append]
  exact hown
theorem cut_mem {F : List (Nat × Pk)} {p0 : Nat} {x : Nat × Pk} (h : x ∈ F.take p0 ++ F.drop (p0 + 1)) : x ∈ F := by
  rcases List.mem_append.1 h with h | h
  · exact List.mem_of_mem_take h
  · exact List.mem_of_mem_drop h
/-- the state at the start -/
theorem ar_start (w : World) : ArS w (w.heap.size + 2) (w.heap.size + 3) (w.heap.size + 4) (fun e => w.heap.size + e) (fun _ => none) (fun _ => 0) (fun _ => 0) (fun e => (((fun _ => Lx.ln0) : Nat → Ln) e).tk) (fun _ => Lx.ln0) none 0 []
    (((((w.alloc (.cells #[.bool true, .slice none 0 0, .int .i64 0, .int .i64 0, .bool false] 130)).alloc (.cells #[.bool true, .slice none 0 0, .int .i64 0, .int .i64 0, .bool false] 130)).alloc (.cells #[.pointer (some ⟨w.heap.size, 0, none⟩), .pointer (some ⟨w.heap.size + 1, 0, none⟩)] 51)).alloc (.cells #[.int .i64 0, .int .i64 0] 3)).alloc (.cells #[.int .i64 0, .int .i64 0] 3)) := by
  have b0 := ((((Blk.new' w #[.bool true, .slice none 0 0, .int .i64 0, .int .i64 0, .bool false] 130).alloc (.cells #[.bool true, .slice none 0 0, .int .i64 0, .int .i64 0, .bool false] 130)).alloc (.cells #[.pointer (some ⟨w.heap.size, 0, none⟩), .pointer (some ⟨w.heap.size + 1, 0, none⟩)] 51)).alloc (.cells #[.int .i64 0, .int .i64 0] 3)).alloc (.cells #[.int .i64 0, .int .i64 0] 3)
  have b1 := (((Blk.new' (w.alloc (.cells #[.bool true, .slice none 0 0, .int .i64 0, .int .i64 0, .bool false] 130)) #[.bool true, .slice none 0 0, .int .i64 0, .int .i64 0, .bool false] 130).alloc (.cells #[.pointer (some ⟨w.heap.size, 0, none⟩), .pointer (some ⟨w.heap.size + 1, 0, none⟩)] 51)).alloc (.cells #[.int .i64 0, .int .i64 0] 3)).alloc (.cells #[.int .i64 0, .int .i64 0] 3)
  have b2 := ((Blk.new' ((w.alloc (.cells #[.bool true, .slice none 0 0, .int .i64 0, .int .i64 0, .bool false] 130)).alloc (.cells #[.bool true, .slice none 0 0, .int .i64 0, .int .i64 0, .bool false] 130)) #[.pointer (some ⟨w.heap.size, 0, none⟩), .pointer (some ⟨w.heap.size + 1, 0, none⟩)] 51).alloc (.cells #[.int .i64 0, .int .i64 0] 3)).alloc (.cells #[.int .i64 0, .int .i64 0] 3)
  have b3 := (Blk.new' (((w.alloc (.cells #[.bool true, .slice none 0 0, .int .i64 0, .int .i64 0, .bool false] 130)).alloc (.cells #[.bool true, .slice none 0 0, .int .i64 0, .int .i64 0, .bool false] 130)).alloc (.cells #[.pointer (some ⟨w.heap.size, 0, none⟩), .pointer (some ⟨w.heap.size + 1, 0, none⟩)] 51)) #[.int .i64 0, .int .i64 0] 3).alloc (.cells #[.int .i64 0, .int .i64 0] 3)
  have b4 := Blk.new' ((((w.alloc (.cells #[.bool true, .slice none 0 0, .int .i64 0, .int .i64 0, .bool false] 130)).alloc (.cells #[.bool true, .slice none 0 0, .int .i64 0, .int .i64 0, .bool false] 130)).alloc (.cells #[.pointer (some ⟨w.heap.size, 0, none⟩), .pointer (some ⟨w.heap.size + 1, 0, none⟩)] 51)).alloc (.cells #[.int .i64 0, .int .i64 0] 3)) #[.int .i64 0, .int .i64 0] 3
  have z1 : (w.alloc (.cells #[.bool true, .slice none 0 0, .int .i64 0, .int .i64 0, .bool false] 130)).heap.size = w.heap.size + 1 := by simp
  have z2 : ((w.alloc (.cells #[.bool true, .slice none 0 0, .int .i64 0, .int .i64 0, .bool false] 130)).alloc (.cells #[.bool true, .slice none 0 0, .int .i64 0, .int .i64 0, .bool false] 130)).heap.size = w.heap.size + 2 := by simp
  have z3 : (((w.alloc (.cells #[.bool true, .slice none 0 0, .int .i64 0, .int .i64 0, .bool false] 130)).alloc (.cells #[.bool true, .slice none 0 0, .int .i64 0, .int .i64 0, .bool false] 130)).alloc (.cells #[.pointer (some ⟨w.heap.size, 0, none⟩), .pointer (some ⟨w.heap.size + 1, 0, none⟩)] 51)).heap.size = w.heap.size + 3 := by simp
  have z4 : ((((w.alloc (.cells #[.bool true, .slice none 0 0, .int .i64 0, .int .i64 0, .bool false] 130)).alloc (.cells #[.bool true, .slice none 0 0, .int .i64 0, .int .i64 0, .bool false] 130)).alloc (.cells #[.pointer (some ⟨w.heap.size, 0, none⟩), .pointer (some ⟨w.heap.size + 1, 0, none⟩)] 51)).alloc (.cells #[.int .i64 0, .int .i64 0] 3)).heap.size = w.heap.size + 4 := by simp
  rw [z1] at b1
  rw [z2] at b2
  rw [z3] at b3
  rw [z4] at b4
  refine ⟨⟨fun e he => ?_, fun e o h => ?_, fun e o h k hk => (no_ownB hk).elim⟩, b2, b3, b4, World.ownsRow_nil _ _ _ _, by omega, ((((((Below.refl _ _).alloc (Nat.le_refl _) _).alloc (by simp) _).alloc (by simp; omega) _).alloc (by simp; omega) _).alloc (by simp; omega) _), by omega⟩
  · have h2 : e = 0 ∨ e = 1 := by omega
    rcases h2 with rfl | rfl
    · exact ⟨b0, World.ownsRow_nil _ _ _ _, Nat.le_refl _, no_ownB⟩
    · exact ⟨b1, World.ownsRow_nil _ _ _ _, by omega, no_ownB⟩
  · show w.heap.size + e ≠ w.heap.size + o
    omega

theorem gen_world {P : Program} {c : Code} {Q : Exit → Act → World → Prop} {a : Act} {W : World} (J : World → Prop) (hJ : J W) (h : ∀ W', J W' → Code.wp P c Q a W') : Code.wp P c Q a W := h W hJ
end Go.Proofs.Ytafajclbghofkaa
