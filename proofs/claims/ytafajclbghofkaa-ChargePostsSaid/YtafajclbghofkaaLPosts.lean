/- The law of posts. -/
import Derived.Test.YtafajclbghofkaaC1
import Derived.Test.YtafajclbghofkaaR1
import Derived.Test.YtafajclbghofkaaLTariffs
namespace Go.Proofs.Ytafajclbghofkaa
open Go.RowKit
set_option linter.unusedVariables false
attribute [local go_sem ↓] Go.wp_at_zero Go.wp_at_succ

instance : Inhabited Ls := ⟨⟨0, 0, 0, 0⟩⟩
/-- a slice's leases -/
abbrev LeaseAt (w : World) (ad : Addr) (l : Ls) : Prop := w.cell? ad = some (.int .i64 l.n) ∧ w.cell? ⟨ad.block, ad.off + 1, none⟩ = some (.int .i64 l.d) ∧ w.cell? ⟨ad.block, ad.off + 2, none⟩ = some (.int .i64 l.b) ∧ w.cell? ⟨ad.block, ad.off + 3, none⟩ = some (.int .i64 l.u)
theorem LeaseAt.below {w w1 : World} {ad : Addr} {l : Ls} (h : LeaseAt w ad l) (hb : Below w.heap.size w w1) : LeaseAt w1 ad l := by
  have hlt : ad.block < w.heap.size := World.block_lt_of_cell? _ _ h.1
  exact ⟨(hb.cell hlt).trans h.1, (hb.cell (p := ⟨_, _, none⟩) hlt).trans h.2.1, (hb.cell (p := ⟨_, _, none⟩) hlt).trans h.2.2.1, (hb.cell (p := ⟨_, _, none⟩) hlt).trans h.2.2.2⟩
def LeasesAt (w : World) (A : Option Addr) (ls : List Ls) : Prop := ∀ i, i < ls.length → ∃ ad, A = some ad ∧ LeaseAt w (ad.add (i * 4)) (ls.getD i default)

/-- two posts that hold leases, and what was there before -/
structure PoS (w : World) (gx gy : Nat) (p q : Ls) (W : World) : Prop where
  x : PostAt W gx p
  y : PostRAt W gy q
  b : Below w.heap.size w W
  hx : w.heap.size ≤ gx
  hy : w.heap.size ≤ gy
  ne : gx ≠ gy
theorem PoS.size {w : World} {gx gy : Nat} {p q : Ls} {W : World} (h : PoS w gx gy p q W) : w.heap.size ≤ W.heap.size := h.b.size
theorem PoS.drew {w : World} {gx gy : Nat} {p q : Ls} {W : World} (h : PoS w gx gy p q W) : PoS w gx gy p q W.drew := ⟨h.x, h.y, h.b.drew, h.hx, h.hy, h.ne⟩
theorem PoS.keep {w : World} {gx gy : Nat} {p q : Ls} {W W1 : World} (h : PoS w gx gy p q W) (hb : Below W.heap.size W W1) : PoS w gx gy p q W1 :=
  ⟨Blk.below h.x hb (Blk.lt h.x), Blk.below h.y hb (Blk.lt h.y), h.b.trans (hb.mono h.b.size), h.hx, h.hy, h.ne⟩
theorem PoS.alloc {w : World} {gx gy : Nat} {p q : Ls} {W : World} (h : PoS w gx gy p q W) (o : Obj) : PoS w gx gy p q (W.alloc o) := h.keep ((Below.refl _ _).alloc (Nat.le_refl _) _)
theorem PoS.takeX {w : World} {gx gy : Nat} {p q p' : Ls} {W W1 : World} (h : PoS w gx gy p q W) (hp : PostAt W1 gx p') (ht : Touch (· = gx) W W1) : PoS w gx gy p' q W1 :=
  ⟨hp, Blk.touch h.y ht (fun e => h.ne e.symm), Below.touch h.b h.b.size ht (fun k e => by subst e; exact h.hx), h.hx, h.hy, h.ne⟩
theorem PoS.takeY {w : World} {gx gy : Nat} {p q q' : Ls} {W W1 : World} (h : PoS w gx gy p q W) (hp : PostRAt W1 gy q') (ht : Touch (· = gy) W W1) : PoS w gx gy p q' W1 :=
  ⟨Blk.touch h.x ht (fun e => h.ne e), hp, Below.touch h.b h.b.size ht (fun k e => by subst e; exact h.hy), h.hx, h.hy, h.ne⟩
theorem PoS.takeC {w : World} {gx gy : Nat} {p q : Ls} {W0 W W1 : World} (h0 : PoS w gx gy p q W0) (h : PoS w gx gy p q W) (ht : Touch (· = W0.heap.size) W W1) : PoS w gx gy p q W1 :=
  ⟨Blk.touch h.x ht (fun e => by have := Blk.lt h0.x; omega), Blk.touch h.y ht (fun e => by have := Blk.lt h0.y; omega), Below.touch h.b h.b.size ht (fun k e => by have := h0.b.size; omega), h.hx, h.hy, h.ne⟩

set_option maxRecDepth 100000 in
set_option maxHeartbeats 8000000 in
theorem Posts_walk (at_ : Int) (A : Option Addr) (ls : List Ls) (cap : Nat) (w : World) (hcap : ls.length ≤ cap) (hl : cap ≤ 9223372036854775807) (hw : LeasesAt w A ls) :
    Calls Try.prog 5 #[.slice A ls.length cap, .int .i64 at_] w fun e w' => e = .returned (.bool true) ∧ Below w.heap.size w w' := by
  have HL := Lib.hid hw
  have hn : ls.length ≤ 9223372036854775807 := by omega
  clear hw
  go_enter Try.func5, Try.ntmps5
  go_wp2_with (first
    | (go_at_call 19; refine (NewPost_c _).mono ?_; rintro e w' ⟨rfl, rfl⟩)
    | (go_at_call 20; refine (NewPostR_c _).mono ?_; rintro e w' ⟨rfl, rfl⟩))
  go_loopw [7] (fun i wr => ∃ k : Nat, ∃ p : Ls, k ≤ ls.length ∧ i = .int .i64 k ∧ PoS w w.heap.size (w.heap.size + 1) p p wr) (fun i _ => ls.length - (intOf i).toNat)
  case atStart =>
    refine ⟨0, ⟨0, 0, 0, 0⟩, Nat.zero_le _, rfl, ⟨(Blk.new' w _ 124).alloc _, ?_, ((Below.refl _ _).alloc (Nat.le_refl _) _).alloc (by simp) _, Nat.le_refl _, by omega, by omega⟩⟩
    have := Blk.new' (w.alloc (.cells #[.bool true, .int .i64 0, .int .i64 0, .int .i64 0, .int .i64 0] 124)) #[.int .i64 0, .int .i64 0, .int .i64 0, .int .i64 0] 48
    simp at this
    exact this
  case round =>
    obtain ⟨k, p, hk, rfl, hs⟩ := hrel
    have HS := Lib.hid hs
    clear hs
    by_cases hlt : k < ls.length
    · by_cases h50 : k < 50
      · obtain ⟨ad, hA, hc⟩ := HL.out k hlt
        subst hA
        have HC := Lib.hid hc
        clear hc
        generalize ls.getD k default = l at *
        obtain ⟨f1, hf1⟩ : ∃ f : Int → Int, f = Po.m1 p := ⟨_, rfl⟩
        obtain ⟨f2, hf2⟩ : ∃ f : Int → Int, f = Po.m2 p := ⟨_, rfl⟩
        obtain ⟨tb, htb⟩ : ∃ b : Bool, b = Po.tkB p l := ⟨_, rfl⟩
        have hM := fun (a : Int) (W : World) (h : PostAt W w.heap.size p) => Most_c _ p a W h
        have hR := fun (a : Int) (W : World) (h : PostRAt W (w.heap.size + 1) p) => MostR_c _ p a W h
        have hT := fun (W : World) (h : PostAt W w.heap.size p) => Take_c _ p l W h
        have hU := fun (W : World) (h : PostRAt W (w.heap.size + 1) p) => TakeR_c _ p l W h
        simp only [← hf1, ← hf2] at hM hR
        simp only [← htb] at hT hU
        clear hf1 hf2 htb
        obtain ⟨u1, hu1⟩ : ∃ u1 : Int, wrap64 (l.u - 1) = u1 := ⟨_, rfl⟩
        have B0 : (0:Int) ≤ (k:Int) := by omega
        have B1 : (k:Int) < (ls.length:Int) := by omega
        go_wp2_with (first
          | (go_at_call 21; refine (PostCopy_c _ p _ HS.out.x).mono ?_; rintro e w' ⟨rfl, rfl⟩; have HT := HS; replace HS := Lib.hid (HS.out.alloc (.cells #[.bool true, .int .i64 p.n, .int .i64 p.d, .int .i64 p.b, .int .i64 p.u] 124)))
          | (go_at_call 22; refine (Take_c _ p ⟨1099511627776, 1, 0, 1125899906842624⟩ _ (Blk.new' _ _ _)).mono ?_; rintro e w1 ⟨he, _, ht⟩; generalize Po.tkB _ _ = tc at he; subst he; replace HS := Lib.hid (PoS.takeC HT.out HS.out ht); clear ht HT; obtain ⟨c0, c1, c2, c3⟩ := HC.out.below HS.out.b)
          | (go_at_call 23; refine (hM _ _ HS.out.x).mono ?_; rintro e w1 ⟨rfl, hb⟩; replace HS := Lib.hid (HS.out.keep hb); clear hb c0 c1 c2 c3; obtain ⟨c0, c1, c2, c3⟩ := HC.out.below HS.out.b)
          | (go_at_call 24; refine (hR _ _ HS.out.y).mono ?_; rintro e w1 ⟨rfl, hb⟩; replace HS := Lib.hid (HS.out.keep hb); clear hb c0 c1 c2 c3; obtain ⟨c0, c1, c2, c3⟩ := HC.out.below HS.out.b))
        have y0 := Blk.cell HS.out.y 0 rfl
        replace HS := Lib.hid HS.out.drew
        refine beginL (S := fun W => LeaseAt W (ad.add (k * 4)) l) (by kernel_rfl) ?_ (fun hHeld => ?_)
        · (first | assumption | exact ⟨c0, c1, c2, c3⟩)
        refine takeL (i := 0) (v := ?_) rfl (by kernel_rfl) (by kernel_rfl) (by kernel_rfl) (fun _ _ _ h => h) (by rfl) ?_ (by assumption) ?_
        rotate_left 1
        · (intro w hSw; (try dsimp only at hSw); first | (go_simp; done) | (go_simp; with_reducible rfl))
        (try simp only [Act.put, List.setIfInBounds_toArray, List.set_cons_zero, List.set_cons_succ])
        refine takeL (i := 1) (v := ?_) rfl (by kernel_rfl) (by kernel_rfl) (by kernel_rfl) (fun _ _ _ h => h) (by rfl) ?_ (by assumption) ?_
        rotate_left 1
        · (intro w hSw; (try dsimp only at hSw); first | (go_simp; done) | (go_simp; with_reducible rfl))
        (try simp only [Act.put, List.setIfInBounds_toArray, List.set_cons_zero, List.set_cons_succ])
        refine takeL (i := 2) (v := ?_) rfl (by kernel_rfl) (by kernel_rfl) (by kernel_rfl) (fun _ _ _ h => h) (by rfl) ?_ (by assumption) ?_
        rotate_left 1
        · (intro w hSw; (try dsimp only at hSw); first | (go_simp; done) | (go_simp; with_reducible rfl))
        (try simp only [Act.put, List.setIfInBounds_toArray, List.set_cons_zero, List.set_cons_succ])
        refine takeL (i := 3) (v := ?_) rfl (by kernel_rfl) (by kernel_rfl) (by kernel_rfl) (fun _ _ _ h => h) (by rfl) ?_ (by assumption) ?_
        rotate_left 1
        · (intro w hSw; (try dsimp only at hSw); first | (go_simp; done) | (go_simp; with_reducible rfl))
        (try simp only [Act.put, List.setIfInBounds_toArray, List.set_cons_zero, List.set_cons_succ])
        refine takeL (i := 4) (v := ?_) rfl (by kernel_rfl) (by kernel_rfl) (by kernel_rfl) (fun _ _ _ h => h) (by rfl) ?_ (by assumption) ?_
        rotate_left 1
        · (intro w hSw; (try dsimp only at hSw); first | (go_simp; done) | (go_simp; with_reducible rfl))
        (try simp only [Act.put, List.setIfInBounds_toArray, List.set_cons_zero, List.set_cons_succ])
        refine takeL (i := 5) (v := ?_) rfl (by kernel_rfl) (by kernel_rfl) (by kernel_rfl) (fun _ _ _ h => h) (by rfl) ?_ (by assumption) ?_
        rotate_left 1
        · (intro w hSw; (try dsimp only at hSw); first | (go_simp; done) | (go_simp; with_reducible rfl))
        (try simp only [Act.put, List.setIfInBounds_toArray, List.set_cons_zero, List.set_cons_succ])
        refine takeL (i := 6) (v := ?_) rfl (by kernel_rfl) (by kernel_rfl) (by kernel_rfl) (fun _ _ _ h => h) (by rfl) ?_ (by assumption) ?_
        rotate_left 1
        · (intro w hSw; (try dsimp only at hSw); first | (go_simp; done) | (go_simp; with_reducible rfl))
        (try simp only [Act.put, List.setIfInBounds_toArray, List.set_cons_zero, List.set_cons_succ])
        refine takeL (i := 7) (v := ?_) rfl (by kernel_rfl) (by kernel_rfl) (by kernel_rfl) (fun _ _ _ h => h) (by rfl) ?_ (by assumption) ?_
        rotate_left 1
        · (intro w hSw; (try dsimp only at hSw); first | (go_simp; done) | (go_simp; with_reducible rfl))
        (try simp only [Act.put, List.setIfInBounds_toArray, List.set_cons_zero, List.set_cons_succ])
        refine takeL (i := 8) (v := ?_) rfl (by kernel_rfl) (by kernel_rfl) (by kernel_rfl) (fun _ _ _ h => h) (by rfl) ?_ (by assumption) ?_
        rotate_left 1
        · (intro w hSw; (try dsimp only at hSw); first | (go_simp; done) | (go_simp; with_reducible rfl))
        (try simp only [Act.put, List.setIfInBounds_toArray, List.set_cons_zero, List.set_cons_succ])
        refine takeL (i := 9) (v := ?_) rfl (by kernel_rfl) (by kernel_rfl) (by kernel_rfl) (fun _ _ _ h => h) (by rfl) ?_ (by assumption) ?_
        rotate_left 1
        · (intro w hSw; (try dsimp only at hSw); first | (go_simp; done) | (go_simp; with_reducible rfl))
        (try simp only [Act.put, List.setIfInBounds_toArray, List.set_cons_zero, List.set_cons_succ])
        refine takeL (i := 10) (v := ?_) rfl (by kernel_rfl) (by kernel_rfl) (by kernel_rfl) (fun _ _ _ h => h) (by rfl) ?_ (by assumption) ?_
        rotate_left 1
        · (intro w hSw; (try dsimp only at hSw); first | (go_simp; done) | (go_simp; with_reducible rfl))
        (try simp only [Act.put, List.setIfInBounds_toArray, List.set_cons_zero, List.set_cons_succ])
        refine takeL (i := 11) (v := ?_) rfl (by kernel_rfl) (by kernel_rfl) (by kernel_rfl) (fun _ _ _ h => h) (by rfl) ?_ (by assumption) ?_
        rotate_left 1
        · (intro w hSw; (try dsimp only at hSw); first | (go_simp; done) | (go_simp; with_reducible rfl))
        (try simp only [Act.put, List.setIfInBounds_toArray, List.set_cons_zero, List.set_cons_succ])
        refine takeL (i := 12) (v := ?_) rfl (by kernel_rfl) (by kernel_rfl) (by kernel_rfl) (fun _ _ _ h => h) (by rfl) ?_ (by assumption) ?_
        rotate_left 1
        · (intro w hSw; (try dsimp only at hSw); first | (go_simp; done) | (go_simp; with_reducible rfl))
        (try simp only [Act.put, List.setIfInBounds_toArray, List.set_cons_zero, List.set_cons_succ])
        refine takeL (i := 13) (v := ?_) rfl (by kernel_rfl) (by kernel_rfl) (by kernel_rfl) (fun _ _ _ h => h) (by rfl) ?_ (by assumption) ?_
        rotate_left 1
        · (intro w hSw; (try dsimp only at hSw); first | (go_simp; done) | (go_simp; with_reducible rfl))
        (try simp only [Act.put, List.setIfInBounds_toArray, List.set_cons_zero, List.set_cons_succ])
        refine takeL (i := 14) (v := ?_) rfl (by kernel_rfl) (by kernel_rfl) (by kernel_rfl) (fun _ _ _ h => h) (by rfl) ?_ (by assumption) ?_
        rotate_left 1
        · (intro w hSw; (try dsimp only at hSw); first | (go_simp; done) | (go_simp; with_reducible rfl))
        (try simp only [Act.put, List.setIfInBounds_toArray, List.set_cons_zero, List.set_cons_succ])
        refine takeL (i := 15) (v := ?_) rfl (by kernel_rfl) (by kernel_rfl) (by kernel_rfl) (fun _ _ _ h => h) (by rfl) ?_ (by assumption) ?_
        rotate_left 1
        · (intro w hSw; (try dsimp only at hSw); first | (go_simp; done) | (go_simp; with_reducible rfl))
        (try simp only [Act.put, List.setIfInBounds_toArray, List.set_cons_zero, List.set_cons_succ])
        refine takeL (i := 16) (v := ?_) rfl (by kernel_rfl) (by kernel_rfl) (by kernel_rfl) (fun _ _ _ h => h) (by rfl) ?_ (by assumption) ?_
        rotate_left 1
        · (intro w hSw; (try dsimp only at hSw); first | (go_simp; done) | (go_simp; with_reducible rfl))
        (try simp only [Act.put, List.setIfInBounds_toArray, List.set_cons_zero, List.set_cons_succ])
        refine takeL (i := 17) (v := ?_) rfl (by kernel_rfl) (by kernel_rfl) (by kernel_rfl) (fun _ _ _ h => h) (by rfl) ?_ (by assumption) ?_
        rotate_left 1
        · (intro w hSw; (try dsimp only at hSw); first | (go_simp; done) | (go_simp; with_reducible rfl))
        (try simp only [Act.put, List.setIfInBounds_toArray, List.set_cons_zero, List.set_cons_succ])
        refine takeL (i := 18) (v := ?_) rfl (by kernel_rfl) (by kernel_rfl) (by kernel_rfl) (fun _ _ _ h => h) (by rfl) ?_ (by assumption) ?_
        rotate_left 1
        · (intro w hSw; (try dsimp only at hSw); first | (go_simp; done) | (go_simp; with_reducible rfl))
        (try simp only [Act.put, List.setIfInBounds_toArray, List.set_cons_zero, List.set_cons_succ])
        refine takeL (i := 19) (v := ?_) rfl (by kernel_rfl) (by kernel_rfl) (by kernel_rfl) (fun _ _ _ h => h) (by rfl) ?_ (by assumption) ?_
        rotate_left 1
        · (intro w hSw; (try dsimp only at hSw); first | (go_simp; done) | (go_simp; with_reducible rfl))
        (try simp only [Act.put, List.setIfInBounds_toArray, List.set_cons_zero, List.set_cons_succ])
        refine takeL (i := 21) (v := ?_) rfl (by kernel_rfl) (by kernel_rfl) (by kernel_rfl) (fun _ _ _ h => h) (by rfl) ?_ (by assumption) ?_
        rotate_left 1
        · (intro w hSw; (try dsimp only at hSw); first | (go_simp; done) | (go_simp; with_reducible rfl))
        (try simp only [Act.put, List.setIfInBounds_toArray, List.set_cons_zero, List.set_cons_succ])
        refine takeL (i := 22) (v := ?_) rfl (by kernel_rfl) (by kernel_rfl) (by kernel_rfl) (fun _ _ _ h => h) (by rfl) ?_ (by assumption) ?_
        rotate_left 1
        · (intro w hSw; (try dsimp only at hSw); first | (go_simp; done) | (go_simp; with_reducible rfl))
        (try simp only [Act.put, List.setIfInBounds_toArray, List.set_cons_zero, List.set_cons_succ])
        refine takeL (i := 23) (v := ?_) rfl (by kernel_rfl) (by kernel_rfl) (by kernel_rfl) (fun _ _ _ h => h) (by rfl) ?_ (by assumption) ?_
        rotate_left 1
        · (intro w hSw; (try dsimp only at hSw); first | (go_simp; done) | (go_simp; with_reducible rfl))
        (try simp only [Act.put, List.setIfInBounds_toArray, List.set_cons_zero, List.set_cons_succ])
        refine takeL (i := 24) (v := ?_) rfl (by kernel_rfl) (by kernel_rfl) (by kernel_rfl) (fun _ _ _ h => h) (by rfl) ?_ (by assumption) ?_
        rotate_left 1
        · (intro w hSw; (try dsimp only at hSw); first | (go_simp; done) | (go_simp; with_reducible rfl))
        (try simp only [Act.put, List.setIfInBounds_toArray, List.set_cons_zero, List.set_cons_succ])
        refine wpAnyH_ready (rs := [20, 25]) (by kernel_rfl) (by simp) ?_
        refine consL (i := 20) rfl (fun K hK => ?_) ?_
        · go_simp; (refine (PostNumber_c _ p _ HS.out.x).mono ?_; rintro e w1 ⟨rfl, rfl⟩)
          (try go_wp2_with fail)
          refine hK.out _ _ ?_ (fun hHeld2 => ?_)
          · (first | assumption | exact ⟨c0, c1, c2, c3⟩)
          clear hK K
          replace hHeld := hHeld2; clear hHeld2
          (try simp only [Act.put, List.setIfInBounds_toArray, List.set_cons_zero, List.set_cons_succ])
          refine wpAnyH_ready (rs := [25]) (by kernel_rfl) (by simp) ?_
          refine consL (i := 25) rfl (fun K hK => ?_) ?_
          · go_simp
            (try go_wp2_with fail)
            refine hK.out _ _ ?_ (fun hHeld2 => ?_)
            · (first | assumption | exact ⟨c0, c1, c2, c3⟩)
            clear hK K
            replace hHeld := hHeld2; clear hHeld2
            (try simp only [Act.put, List.setIfInBounds_toArray, List.set_cons_zero, List.set_cons_succ])
            refine takeL (i := 26) (v := ?_) rfl (by kernel_rfl) (by kernel_rfl) (by kernel_rfl) (fun _ _ _ h => h) (by rfl) ?_ (by assumption) ?_
            rotate_left 1
            · (intro w hSw; (try dsimp only at hSw); first | (go_simp; done) | (go_simp; with_reducible rfl))
            (try simp only [Act.put, List.setIfInBounds_toArray, List.set_cons_zero, List.set_cons_succ])
            refine takeL (i := 27) (v := ?_) rfl (by kernel_rfl) (by kernel_rfl) (by kernel_rfl) (fun _ _ _ h => h) (by rfl) ?_ (by assumption) ?_
            rotate_left 1
            · (intro w hSw; (try dsimp only at hSw); first | (go_simp; done) | (go_simp; with_reducible rfl))
            (try simp only [Act.put, List.setIfInBounds_toArray, List.set_cons_zero, List.set_cons_succ])
            refine takeL (i := 28) (v := ?_) rfl (by kernel_rfl) (by kernel_rfl) (by kernel_rfl) (fun _ _ _ h => h) (by rfl) ?_ (by assumption) ?_
            rotate_left 1
            · (intro w hSw; (try dsimp only at hSw); first | (go_simp; done) | (go_simp; with_reducible rfl))
            (try simp only [Act.put, List.setIfInBounds_toArray, List.set_cons_zero, List.set_cons_succ])
            refine takeL (i := 29) (v := ?_) rfl (by kernel_rfl) (by kernel_rfl) (by kernel_rfl) (fun _ _ _ h => h) (by rfl) ?_ (by assumption) ?_
            rotate_left 1
            · (intro w hSw; (try dsimp only at hSw); first | (go_simp; done) | (go_simp; with_reducible rfl))
            (try simp only [Act.put, List.setIfInBounds_toArray, List.set_cons_zero, List.set_cons_succ])
            refine takeL (i := 30) (v := ?_) rfl (by kernel_rfl) (by kernel_rfl) (by kernel_rfl) (fun _ _ _ h => h) (by rfl) ?_ (by assumption) ?_
            rotate_left 1
            · (intro w hSw; (try dsimp only at hSw); first | (go_simp; done) | (go_simp; with_reducible rfl))
            (try simp only [Act.put, List.setIfInBounds_toArray, List.set_cons_zero, List.set_cons_succ])
            refine takeL (i := 31) (v := ?_) rfl (by kernel_rfl) (by kernel_rfl) (by kernel_rfl) (fun _ _ _ h => h) (by rfl) ?_ (by assumption) ?_
            rotate_left 1
            · (intro w hSw; (try dsimp only at hSw); first | (go_simp; done) | (go_simp; with_reducible rfl))
            (try simp only [Act.put, List.setIfInBounds_toArray, List.set_cons_zero, List.set_cons_succ])
            refine takeL (i := 32) (v := ?_) rfl (by kernel_rfl) (by kernel_rfl) (by kernel_rfl) (fun _ _ _ h => h) (by rfl) ?_ (by assumption) ?_
            rotate_left 1
            · (intro w hSw; (try dsimp only at hSw); first | (go_simp; done) | (go_simp; with_reducible rfl))
            (try simp only [Act.put, List.setIfInBounds_toArray, List.set_cons_zero, List.set_cons_succ])
            refine takeL (i := 33) (v := ?_) rfl (by kernel_rfl) (by kernel_rfl) (by kernel_rfl) (fun _ _ _ h => h) (by rfl) ?_ (by assumption) ?_
            rotate_left 1
            · (intro w hSw; (try dsimp only at hSw); first | (go_simp; done) | (go_simp; with_reducible rfl))
            (try simp only [Act.put, List.setIfInBounds_toArray, List.set_cons_zero, List.set_cons_succ])
            refine takeL (i := 35) (v := ?_) rfl (by kernel_rfl) (by kernel_rfl) (by kernel_rfl) (fun _ _ _ h => h) (by rfl) ?_ (by assumption) ?_
            rotate_left 1
            · (intro w hSw; (try dsimp only at hSw); first | (go_simp; done) | (go_simp; with_reducible rfl))
            (try simp only [Act.put, List.setIfInBounds_toArray, List.set_cons_zero, List.set_cons_succ])
            refine takeL (i := 36) (v := ?_) rfl (by kernel_rfl) (by kernel_rfl) (by kernel_rfl) (fun _ _ _ h => h) (by rfl) ?_ (by assumption) ?_
            rotate_left 1
            · (intro w hSw; (try dsimp only at hSw); first | (go_simp; done) | (go_simp; with_reducible rfl))
            (try simp only [Act.put, List.setIfInBounds_toArray, List.set_cons_zero, List.set_cons_succ])
            refine takeL (i := 37) (v := ?_) rfl (by kernel_rfl) (by kernel_rfl) (by kernel_rfl) (fun _ _ _ h => h) (by rfl) ?_ (by assumption) ?_
            rotate_left 1
            · (intro w hSw; (try dsimp only at hSw); first | (go_simp; done) | (go_simp; with_reducible rfl))
            (try simp only [Act.put, List.setIfInBounds_toArray, List.set_cons_zero, List.set_cons_succ])
            refine takeL (i := 38) (v := ?_) rfl (by kernel_rfl) (by kernel_rfl) (by kernel_rfl) (fun _ _ _ h => h) (by rfl) ?_ (by assumption) ?_
            rotate_left 1
            · (intro w hSw; (try dsimp only at hSw); first | (go_simp; done) | (go_simp; with_reducible rfl))
            (try simp only [Act.put, List.setIfInBounds_toArray, List.set_cons_zero, List.set_cons_succ])
            refine takeL (i := 39) (v := ?_) rfl (by kernel_rfl) (by kernel_rfl) (by kernel_rfl) (fun _ _ _ h => h) (by rfl) ?_ (by assumption) ?_
            rotate_left 1
            · (intro w hSw; (try dsimp only at hSw); first | (go_simp; done) | (go_simp; with_reducible rfl))
            (try simp only [Act.put, List.setIfInBounds_toArray, List.set_cons_zero, List.set_cons_succ])
            refine wpAnyH_ready (rs := [34]) (by kernel_rfl) (by simp) ?_
            refine consL (i := 34) rfl (fun K hK => ?_) ?_
            · go_simp; (refine (hT _ HS.out.x).mono ?_; rintro e w1 ⟨rfl, hp, ht⟩; replace HS := Lib.hid (PoS.takeX HS.out hp ht); clear hp ht c0 c1 c2 c3; obtain ⟨c0, c1, c2, c3⟩ := HC.out.below HS.out.b)
              (try go_wp2_with fail)
              refine hK.out _ _ ?_ (fun hHeld2 => ?_)
              · (first | assumption | exact ⟨c0, c1, c2, c3⟩)
              clear hK K
              replace hHeld := hHeld2; clear hHeld2
              (try simp only [Act.put, List.setIfInBounds_toArray, List.set_cons_zero, List.set_cons_succ])
              refine wpAnyH_ready (rs := [40]) (by kernel_rfl) (by simp) ?_
              refine consL (i := 40) rfl (fun K hK => ?_) ?_
              · go_simp; (refine (hU _ HS.out.y).mono ?_; rintro e w1 ⟨rfl, hp, ht⟩; replace HS := Lib.hid (PoS.takeY HS.out hp ht); clear hp ht c0 c1 c2 c3; obtain ⟨c0, c1, c2, c3⟩ := HC.out.below HS.out.b)
                (try go_wp2_with fail)
                refine hK.out _ _ ?_ (fun hHeld2 => ?_)
                · (first | assumption | exact ⟨c0, c1, c2, c3⟩)
                clear hK K
                replace hHeld := hHeld2; clear hHeld2
                (try simp only [Act.put, List.setIfInBounds_toArray, List.set_cons_zero, List.set_cons_succ])
                refine takeL (i := 41) (v := ?_) rfl (by kernel_rfl) (by kernel_rfl) (by kernel_rfl) (fun _ _ _ h => h) (by rfl) ?_ (by assumption) ?_
                rotate_left 1
                · (intro w hSw; (try dsimp only at hSw); first | (go_simp; done) | (go_simp; with_reducible rfl))
                (try simp only [Act.put, List.setIfInBounds_toArray, List.set_cons_zero, List.set_cons_succ])
                refine takeL (i := 42) (v := ?_) rfl (by kernel_rfl) (by kernel_rfl) (by kernel_rfl) (fun _ _ _ h => h) (by rfl) ?_ (by assumption) ?_
                rotate_left 1
                · (intro w hSw; (try dsimp only at hSw); first | (go_simp; done) | (go_simp; with_reducible rfl))
                (try simp only [Act.put, List.setIfInBounds_toArray, List.set_cons_zero, List.set_cons_succ])
                refine wpAnyH_done (by kernel_rfl) ?_ _
                go_wp2_with fail
                go_roundw
                case rel => exact ⟨k + 1, Po.tk p l, by omega, by go_num, HS.out⟩
                case measure => simp [intOf]; omega
              exact AllReadyH.nil
            exact AllReadyH.nil
          exact AllReadyH.nil
        refine consL (i := 25) rfl (fun K hK => ?_) ?_
        · go_simp
          (try go_wp2_with fail)
          refine hK.out _ _ ?_ (fun hHeld2 => ?_)
          · (first | assumption | exact ⟨c0, c1, c2, c3⟩)
          clear hK K
          replace hHeld := hHeld2; clear hHeld2
          (try simp only [Act.put, List.setIfInBounds_toArray, List.set_cons_zero, List.set_cons_succ])
          refine wpAnyH_ready (rs := [20]) (by kernel_rfl) (by simp) ?_
          refine consL (i := 20) rfl (fun K hK => ?_) ?_
          · go_simp; (refine (PostNumber_c _ p _ HS.out.x).mono ?_; rintro e w1 ⟨rfl, rfl⟩)
            (try go_wp2_with fail)
            refine hK.out _ _ ?_ (fun hHeld2 => ?_)
            · (first | assumption | exact ⟨c0, c1, c2, c3⟩)
            clear hK K
            replace hHeld := hHeld2; clear hHeld2
            (try simp only [Act.put, List.setIfInBounds_toArray, List.set_cons_zero, List.set_cons_succ])
            refine takeL (i := 26) (v := ?_) rfl (by kernel_rfl) (by kernel_rfl) (by kernel_rfl) (fun _ _ _ h => h) (by rfl) ?_ (by assumption) ?_
            rotate_left 1
            · (intro w hSw; (try dsimp only at hSw); first | (go_simp; done) | (go_simp; with_reducible rfl))
            (try simp only [Act.put, List.setIfInBounds_toArray, List.set_cons_zero, List.set_cons_succ])
            refine takeL (i := 27) (v := ?_) rfl (by kernel_rfl) (by kernel_rfl) (by kernel_rfl) (fun _ _ _ h => h) (by rfl) ?_ (by assumption) ?_
            rotate_left 1
            · (intro w hSw; (try dsimp only at hSw); first | (go_simp; done) | (go_simp; with_reducible rfl))
            (try simp only [Act.put, List.setIfInBounds_toArray, List.set_cons_zero, List.set_cons_succ])
            refine takeL (i := 28) (v := ?_) rfl (by kernel_rfl) (by kernel_rfl) (by kernel_rfl) (fun _ _ _ h => h) (by rfl) ?_ (by assumption) ?_
            rotate_left 1
            · (intro w hSw; (try dsimp only at hSw); first | (go_simp; done) | (go_simp; with_reducible rfl))
            (try simp only [Act.put, List.setIfInBounds_toArray, List.set_cons_zero, List.set_cons_succ])
            refine takeL (i := 29) (v := ?_) rfl (by kernel_rfl) (by kernel_rfl) (by kernel_rfl) (fun _ _ _ h => h) (by rfl) ?_ (by assumption) ?_
            rotate_left 1
            · (intro w hSw; (try dsimp only at hSw); first | (go_simp; done) | (go_simp; with_reducible rfl))
            (try simp only [Act.put, List.setIfInBounds_toArray, List.set_cons_zero, List.set_cons_succ])
            refine takeL (i := 30) (v := ?_) rfl (by kernel_rfl) (by kernel_rfl) (by kernel_rfl) (fun _ _ _ h => h) (by rfl) ?_ (by assumption) ?_
            rotate_left 1
            · (intro w hSw; (try dsimp only at hSw); first | (go_simp; done) | (go_simp; with_reducible rfl))
            (try simp only [Act.put, List.setIfInBounds_toArray, List.set_cons_zero, List.set_cons_succ])
            refine takeL (i := 31) (v := ?_) rfl (by kernel_rfl) (by kernel_rfl) (by kernel_rfl) (fun _ _ _ h => h) (by rfl) ?_ (by assumption) ?_
            rotate_left 1
            · (intro w hSw; (try dsimp only at hSw); first | (go_simp; done) | (go_simp; with_reducible rfl))
            (try simp only [Act.put, List.setIfInBounds_toArray, List.set_cons_zero, List.set_cons_succ])
            refine takeL (i := 32) (v := ?_) rfl (by kernel_rfl) (by kernel_rfl) (by kernel_rfl) (fun _ _ _ h => h) (by rfl) ?_ (by assumption) ?_
            rotate_left 1
            · (intro w hSw; (try dsimp only at hSw); first | (go_simp; done) | (go_simp; with_reducible rfl))
            (try simp only [Act.put, List.setIfInBounds_toArray, List.set_cons_zero, List.set_cons_succ])
            refine takeL (i := 33) (v := ?_) rfl (by kernel_rfl) (by kernel_rfl) (by kernel_rfl) (fun _ _ _ h => h) (by rfl) ?_ (by assumption) ?_
            rotate_left 1
            · (intro w hSw; (try dsimp only at hSw); first | (go_simp; done) | (go_simp; with_reducible rfl))
            (try simp only [Act.put, List.setIfInBounds_toArray, List.set_cons_zero, List.set_cons_succ])
            refine takeL (i := 35) (v := ?_) rfl (by kernel_rfl) (by kernel_rfl) (by kernel_rfl) (fun _ _ _ h => h) (by rfl) ?_ (by assumption) ?_
            rotate_left 1
            · (intro w hSw; (try dsimp only at hSw); first | (go_simp; done) | (go_simp; with_reducible rfl))
            (try simp only [Act.put, List.setIfInBounds_toArray, List.set_cons_zero, List.set_cons_succ])
            refine takeL (i := 36) (v := ?_) rfl (by kernel_rfl) (by kernel_rfl) (by kernel_rfl) (fun _ _ _ h => h) (by rfl) ?_ (by assumption) ?_
            rotate_left 1
            · (intro w hSw; (try dsimp only at hSw); first | (go_simp; done) | (go_simp; with_reducible rfl))
            (try simp only [Act.put, List.setIfInBounds_toArray, List.set_cons_zero, List.set_cons_succ])
            refine takeL (i := 37) (v := ?_) rfl (by kernel_rfl) (by kernel_rfl) (by kernel_rfl) (fun _ _ _ h => h) (by rfl) ?_ (by assumption) ?_
            rotate_left 1
            · (intro w hSw; (try dsimp only at hSw); first | (go_simp; done) | (go_simp; with_reducible rfl))
            (try simp only [Act.put, List.setIfInBounds_toArray, List.set_cons_zero, List.set_cons_succ])
            refine takeL (i := 38) (v := ?_) rfl (by kernel_rfl) (by kernel_rfl) (by kernel_rfl) (fun _ _ _ h => h) (by rfl) ?_ (by assumption) ?_
            rotate_left 1
            · (intro w hSw; (try dsimp only at hSw); first | (go_simp; done) | (go_simp; with_reducible rfl))
            (try simp only [Act.put, List.setIfInBounds_toArray, List.set_cons_zero, List.set_cons_succ])
            refine takeL (i := 39) (v := ?_) rfl (by kernel_rfl) (by kernel_rfl) (by kernel_rfl) (fun _ _ _ h => h) (by rfl) ?_ (by assumption) ?_
            rotate_left 1
            · (intro w hSw; (try dsimp only at hSw); first | (go_simp; done) | (go_simp; with_reducible rfl))
            (try simp only [Act.put, List.setIfInBounds_toArray, List.set_cons_zero, List.set_cons_succ])
            refine wpAnyH_ready (rs := [34]) (by kernel_rfl) (by simp) ?_
            refine consL (i := 34) rfl (fun K hK => ?_) ?_
            · go_simp; (refine (hT _ HS.out.x).mono ?_; rintro e w1 ⟨rfl, hp, ht⟩; replace HS := Lib.hid (PoS.takeX HS.out hp ht); clear hp ht c0 c1 c2 c3; obtain ⟨c0, c1, c2, c3⟩ := HC.out.below HS.out.b)
              (try go_wp2_with fail)
              refine hK.out _ _ ?_ (fun hHeld2 => ?_)
              · (first | assumption | exact ⟨c0, c1, c2, c3⟩)
              clear hK K
              replace hHeld := hHeld2; clear hHeld2
              (try simp only [Act.put, List.setIfInBounds_toArray, List.set_cons_zero, List.set_cons_succ])
              refine wpAnyH_ready (rs := [40]) (by kernel_rfl) (by simp) ?_
              refine consL (i := 40) rfl (fun K hK => ?_) ?_
              · go_simp; (refine (hU _ HS.out.y).mono ?_; rintro e w1 ⟨rfl, hp, ht⟩; replace HS := Lib.hid (PoS.takeY HS.out hp ht); clear hp ht c0 c1 c2 c3; obtain ⟨c0, c1, c2, c3⟩ := HC.out.below HS.out.b)
                (try go_wp2_with fail)
                refine hK.out _ _ ?_ (fun hHeld2 => ?_)
                · (first | assumption | exact ⟨c0, c1, c2, c3⟩)
                clear hK K
                replace hHeld := hHeld2; clear hHeld2
                (try simp only [Act.put, List.setIfInBounds_toArray, List.set_cons_zero, List.set_cons_succ])
                refine takeL (i := 41) (v := ?_) rfl (by kernel_rfl) (by kernel_rfl) (by kernel_rfl) (fun _ _ _ h => h) (by rfl) ?_ (by assumption) ?_
                rotate_left 1
                · (intro w hSw; (try dsimp only at hSw); first | (go_simp; done) | (go_simp; with_reducible rfl))
                (try simp only [Act.put, List.setIfInBounds_toArray, List.set_cons_zero, List.set_cons_succ])
                refine takeL (i := 42) (v := ?_) rfl (by kernel_rfl) (by kernel_rfl) (by kernel_rfl) (fun _ _ _ h => h) (by rfl) ?_ (by assumption) ?_
                rotate_left 1
                · (intro w hSw; (try dsimp only at hSw); first | (go_simp; done) | (go_simp; with_reducible rfl))
                (try simp only [Act.put, List.setIfInBounds_toArray, List.set_cons_zero, List.set_cons_succ])
                refine wpAnyH_done (by kernel_rfl) ?_ _
                go_wp2_with fail
                go_roundw
                case rel => exact ⟨k + 1, Po.tk p l, by omega, by go_num, HS.out⟩
                case measure => simp [intOf]; omega
              exact AllReadyH.nil
            exact AllReadyH.nil
          exact AllReadyH.nil
        exact AllReadyH.nil
      · have y0 := Blk.cell HS.out.y 0 rfl
        go_wp2_with fail
        replace HS := Lib.hid HS.out.drew
        go_region_with (first
          | (go_at_call 25; refine (PostNumber_c _ p _ HS.out.x).mono ?_; rintro e w1 ⟨rfl, rfl⟩)
          | (go_at_call 12; refine (works_c _).mono ?_; rintro e w1 ⟨rfl, hb⟩; have HE := Lib.hid (HS.out.keep hb); clear hb))
        all_goals
          go_wp2_with fail
          go_ret
          exact ⟨rfl, HE.out.b⟩
    · have y0 := Blk.cell HS.out.y 0 rfl
      go_wp2_with fail
      replace HS := Lib.hid HS.out.drew
      go_region_with (first
        | (go_at_call 25; refine (PostNumber_c _ p _ HS.out.x).mono ?_; rintro e w1 ⟨rfl, rfl⟩)
        | (go_at_call 12; refine (works_c _).mono ?_; rintro e w1 ⟨rfl, hb⟩; have HE := Lib.hid (HS.out.keep hb); clear hb))
      all_goals
        go_wp2_with fail
        go_ret
        exact ⟨rfl, HE.out.b⟩
end Go.Proofs.Ytafajclbghofkaa
