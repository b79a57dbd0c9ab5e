/- The law of lines. -/
import Derived.Test.YtafajclbghofkaaE1
namespace Go.Proofs.Ytafajclbghofkaa
open Go.RowKit
set_option linter.unusedVariables false

theorem no_own {k : Nat} : ¬ OwnB none k := fun ⟨_, e, _⟩ => by cases e
/-- a step that came in -/
structure St where
  d : Int
  n : Nt
  p : Pk
instance : Inhabited St := ⟨⟨0, Lx.nt0, Lx.pk0⟩⟩
/-- a step in memory -/
abbrev StepAt (w : World) (ad : Addr) (s : St) : Prop := w.cell? ad = some (.int .u8 s.d) ∧
  w.cell? ⟨ad.block, ad.off + 1, none⟩ = some (.int .i64 s.n.k) ∧ w.cell? ⟨ad.block, ad.off + 2, none⟩ = some (.int .i64 s.n.s) ∧ w.cell? ⟨ad.block, ad.off + 3, none⟩ = some (.int .i64 s.n.a) ∧ w.cell? ⟨ad.block, ad.off + 4, none⟩ = some (.int .i64 s.n.b) ∧ w.cell? ⟨ad.block, ad.off + 5, none⟩ = some (.int .i64 s.n.c) ∧ w.cell? ⟨ad.block, ad.off + 6, none⟩ = some (.bool s.p.has) ∧ w.cell? ⟨ad.block, ad.off + 7, none⟩ = some (.int .i64 s.p.nu) ∧ w.cell? ⟨ad.block, ad.off + 8, none⟩ = some (.int .i64 s.p.nt.k) ∧ w.cell? ⟨ad.block, ad.off + 9, none⟩ = some (.int .i64 s.p.nt.s) ∧ w.cell? ⟨ad.block, ad.off + 10, none⟩ = some (.int .i64 s.p.nt.a) ∧ w.cell? ⟨ad.block, ad.off + 11, none⟩ = some (.int .i64 s.p.nt.b) ∧ w.cell? ⟨ad.block, ad.off + 12, none⟩ = some (.int .i64 s.p.nt.c) ∧ w.cell? ⟨ad.block, ad.off + 13, none⟩ = some (.int .i64 s.p.ak)
theorem StepAt.below {w w1 : World} {ad : Addr} {s : St} (h : StepAt w ad s) (hb : Below w.heap.size w w1) : StepAt w1 ad s := by
  have hlt : ad.block < w.heap.size := World.block_lt_of_cell? _ _ h.1
  have hc : ∀ o v, w.cell? ⟨ad.block, o, none⟩ = some v → w1.cell? ⟨ad.block, o, none⟩ = some v := fun o v hv => (hb.cell (p := ⟨_, _, none⟩) hlt).trans hv
  obtain ⟨h0, h1, h2, h3, h4, h5, h6, h7, h8, h9, h10, h11, h12, h13⟩ := h
  exact ⟨(hb.cell hlt).trans h0, hc _ _ h1, hc _ _ h2, hc _ _ h3, hc _ _ h4, hc _ _ h5, hc _ _ h6, hc _ _ h7, hc _ _ h8, hc _ _ h9, hc _ _ h10, hc _ _ h11, hc _ _ h12, hc _ _ h13⟩
def StepsAt (w : World) (A : Option Addr) (ss : List St) : Prop := ∀ i, i < ss.length → ∃ ad, A = some ad ∧ StepAt w (ad.add (i * 14)) (ss.getD i default) ∧ (0 ≤ (ss.getD i default).d ∧ (ss.getD i default).d ≤ 255) ∧ (ss.getD i default).p.ak ≤ 9223372036854775807

/-- the two lines of the law -/
structure LSt (w : World) (Ax : Option Addr) (cx : Nat) (Ay : Option Addr) (cy : Nat) (l : Ln) (W : World) : Prop where
  s : LnS w.heap.size w.heap.size Ax cx l (w.heap.size + 1) Ay cy l W
  b : Below w.heap.size w W
theorem LSt.below {w W W1 : World} {Ax Ay : Option Addr} {cx cy : Nat} {l : Ln} (h : LSt w Ax cx Ay cy l W) (hb : Below W.heap.size W W1) : LSt w Ax cx Ay cy l W1 := ⟨h.s.below hb, h.b.trans (hb.mono h.b.size)⟩
theorem LSt.drew {w W : World} {Ax Ay : Option Addr} {cx cy : Nat} {l : Ln} (h : LSt w Ax cx Ay cy l W) : LSt w Ax cx Ay cy l W.drew := h.below (Below.refl _ _).drew
/-- a step with the lines -/
theorem LSt.step {w W W1 : World} {Ax Ay A1 A2 : Option Addr} {cx cy c1 c2 : Nat} {l l' : Ln} (h : LSt w Ax cx Ay cy l W) (ht : Touch (fun k => k = w.heap.size ∨ OwnB Ax k ∨ k = w.heap.size + 1) W W1) (hs : LnS w.heap.size w.heap.size A1 c1 l' (w.heap.size + 1) A2 c2 l' W1) : LSt w A1 c1 A2 c2 l' W1 :=
  ⟨hs, Below.touch h.b h.b.size ht (fun k hk => by
    rcases hk with e | e | e
    · omega
    · exact (own_lt h.s.x.own e).1
    · omega)⟩
/-- copies of the lines -/
structure Cps (w W0 : World) (Ac : Option Addr) (cc gd : Nat) (Ay : Option Addr) (cy : Nat) (l : Ln) (W : World) : Prop where
  s : LnS w.heap.size W0.heap.size Ac cc l gd Ay cy l W
  c : ∀ k, OwnB Ac k → W0.heap.size ≤ k
  d : W0.heap.size ≤ gd
theorem cps_of {w W0 W1 W2 : World} {Ax Ac Ay : Option Addr} {cx cc cy : Nat} {l : Ln} (h : LSt w Ax cx Ay cy l W0) (hc : LineAt W1 W0.heap.size W0.heap.size Ac cc l) (hb1 : Below W0.heap.size W0 W1) (hd : LineRAt W2 w.heap.size W1.heap.size Ay cy l) (hb2 : Below W1.heap.size W1 W2) : Cps w W0 Ac cc W1.heap.size Ay cy l W2 := by
  have hA : ∀ k, OwnB Ac k → W0.heap.size ≤ k ∧ k < W1.heap.size := fun k hk => own_lt hc.own hk
  have hY : ∀ k, OwnB Ay k → k < W0.heap.size := fun k hk => (own_lt h.s.y.own hk).2
  have hg := hc.blk.lt
  have hc2 : LineAt W2 w.heap.size W0.heap.size Ac cc l := by
    have := hc.touch (S := fun _ => False) (Touch.of_below hb2) (fun e => e) (fun _ _ e => e)
    exact ⟨this.blk, own_base this.own h.b.size, h.b.size, this.apart⟩
  exact ⟨⟨hc2, hd, by omega, fun e => by have := (hA _ e).2; omega, fun e => by have := hY _ e; omega, fun k hk hk2 => by have := (hA k hk).1; have := hY k hk2; omega⟩, fun k hk => (hA k hk).1, hb1.size⟩
theorem Cps.drew {w W0 W : World} {Ac Ay : Option Addr} {cc gd cy : Nat} {l : Ln} (h : Cps w W0 Ac cc gd Ay cy l W) : LnS w.heap.size W0.heap.size Ac cc l gd Ay cy l W.drew := h.s.below (Below.refl _ _).drew
/-- a step with the copies leaves the lines -/
theorem LSt.copies {w W0 W W1 : World} {Ax Ac Ay : Option Addr} {cx cc gd cy : Nat} {l : Ln} (h0 : LSt w Ax cx Ay cy l W0) (h : LSt w Ax cx Ay cy l W) (hc : Cps w W0 Ac cc gd Ay cy l W) (ht : Touch (fun k => k = W0.heap.size ∨ OwnB Ac k ∨ k = gd) W.drew W1) : LSt w Ax cx Ay cy l W1 := by
  have hS : ∀ k, (k = W0.heap.size ∨ OwnB Ac k ∨ k = gd) → W0.heap.size ≤ k := fun k hk => by
    rcases hk with e | e | e
    · omega
    · exact hc.c k e
    · have := hc.d; omega
  have hx := h0.s.x.blk.lt
  have hy := h0.s.y.blk.lt
  refine ⟨h.drew.s.touch ht (fun e => by have := hS _ e; omega) (fun e => by have := hS _ e; omega) (fun k hk e => by have := hS _ e; have := (own_lt h0.s.x.own hk).2; omega) (fun k hk e => by have := hS _ e; have := (own_lt h0.s.y.own hk).2; omega), Below.touch h.drew.b h.drew.b.size ht (fun k hk => by have := hS k hk; have := h0.b.size; omega)⟩

set_option maxRecDepth 100000 in
set_option maxHeartbeats 8000000 in
theorem Lines_walk (at_ : Int) (A : Option Addr) (ss : List St) (cap : Nat) (w : World) (hcap : ss.length ≤ cap) (hl : cap ≤ 9223372036854775807) (hw : StepsAt w A ss) (ha : 0 ≤ at_ ∧ at_ ≤ 255) :
    Calls Try.prog 7 #[.slice A ss.length cap, .int .u8 at_] w fun e w' => e = .returned (.bool true) ∧ Below w.heap.size w w' := by
  have HW := Lib.hid hw
  have hn : ss.length ≤ 9223372036854775807 := by omega
  clear hw
  go_enter Try.func7, Try.ntmps7
  go_wp2_with (first
    | (go_at_call 27; refine (NewLine_c _).mono ?_; rintro e w' ⟨rfl, rfl⟩)
    | (go_at_call 32; refine (NewLineR_c _).mono ?_; rintro e w' ⟨rfl, rfl⟩))
  go_loopw [7] (fun i wr => ∃ k : Nat, ∃ Ax cx Ay cy l, k ≤ ss.length ∧ i = .int .i64 k ∧ LSt w Ax cx Ay cy l wr ∧ Lx.ok (64 * k) l) (fun i _ => ss.length - (intOf i).toNat)
  case atStart =>
    refine ⟨0, none, 0, none, 0, Lx.ln0, Nat.zero_le _, rfl, ⟨⟨⟨(Blk.new' w _ 130).alloc _, World.ownsRow_nil _ _ _ _, Nat.le_refl _, no_own⟩, ⟨?_, World.ownsRow_nil _ _ _ _, by omega, no_own⟩, by omega, no_own, no_own, fun k h => (no_own h).elim⟩, ((Below.refl _ _).alloc (Nat.le_refl _) _).alloc (by simp) _⟩, ⟨by simp [Lx.ln0], by simp [Lx.ln0], by simp [Lx.ln0]⟩⟩
    have := Blk.new' (w.alloc (.cells #[.bool true, .slice none 0 0, .int .i64 0, .int .i64 0, .bool false] 130)) #[.slice none 0 0, .int .i64 0, .int .i64 0, .bool false] 78
    simp at this
    exact this
  case round =>
    obtain ⟨k, Ax, cx, Ay, cy, l, hk, rfl, hs, hok⟩ := hrel
    have HS := Lib.hid hs
    have HOk := Lib.hid hok
    clear hs hok
    by_cases hlt : k < ss.length
    · by_cases h200 : k < 200
      · obtain ⟨ad, hA, hc, hd0, hak⟩ := HW.out k hlt
        subst hA
        have HC := Lib.hid hc
        have HD := Lib.hid hd0
        have HAk := Lib.hid hak
        clear hc hd0 hak
        generalize ss.getD k default = s at *
        have B0 : (0:Int) ≤ (k:Int) := by omega
        have B1 : (k:Int) < (ss.length:Int) := by omega
        by_cases hat : (k : Int) = at_
        · have hat' : ((k : Int) == at_) = true := by simpa using hat
          clear hat
          go_wp2_with (first
            | (go_at_call 33; refine (CopyL_c _ _ _ _ _ _ HS.out.s.x HOk.out.2.2).mono ?_; rintro e w1 ⟨rfl, ⟨Ac, cc, hc⟩, hb⟩; have HCx := Lib.hid (And.intro hc hb); clear hc hb)
            | (go_at_call 34; refine (CopyR_c _ _ _ _ _ _ (HS.out.s.y.touch (S := fun _ => False) (Touch.of_below HCx.out.2) (fun e => e) (fun _ _ e => e))).mono ?_; rintro e w2 ⟨rfl, hd, hb⟩; have HCp := Lib.hid (cps_of HS.out HCx.out.1 HCx.out.2 hd hb); have HS2 := Lib.hid ((HS.out.below HCx.out.2).below hb); have y1 := HS2.out.s.y.blk.cell 0 rfl; clear hd hb))
          refine lBegin (S := fun _ W => (StepAt W (ad.add (k * 14)) s ∧ W.cell? ⟨w.heap.size + 1, 0, none⟩ = some (.slice Ay l.L.length cy))) (by kernel_rfl) ?_ (fun hHeld => ?_)
          · (try dsimp only); (first | with_reducible assumption | with_reducible exact ⟨HC.out.below HS2.out.drew.b, y1⟩ | exact ⟨HC.out.below HS2.out.drew.b, HS2.out.drew.s.y.blk.cell 0 rfl⟩ | exact ⟨HC.out.below HSc.out.b, HSc.out.s.y.blk.cell 0 rfl⟩)
          refine lTake (i := 0) (v := ?_) rfl (by kernel_rfl) (by kernel_rfl) (by kernel_rfl) (fun _ _ _ h => h) (by rfl) (fun _ _ h => h) (fun _ _ h => h) ?_ (by assumption) (fun hHeld2 => ?_)
          rotate_left 1
          · (intro _ _ _ _ _; first | (go_simp; done) | (go_simp; with_reducible rfl))
          clear hHeld; have hHeld := hHeld2; clear hHeld2
          (try simp only [Act.put, List.setIfInBounds_toArray, List.set_cons_zero, List.set_cons_succ])
          refine lTake (i := 1) (v := ?_) rfl (by kernel_rfl) (by kernel_rfl) (by kernel_rfl) (fun _ _ _ h => h) (by rfl) (fun _ _ h => h) (fun _ _ h => h) ?_ (by assumption) (fun hHeld2 => ?_)
          rotate_left 1
          · (intro _ _ _ _ _; first | (go_simp; done) | (go_simp; with_reducible rfl))
          clear hHeld; have hHeld := hHeld2; clear hHeld2
          (try simp only [Act.put, List.setIfInBounds_toArray, List.set_cons_zero, List.set_cons_succ])
          refine lTake (i := 2) (v := ?_) rfl (by kernel_rfl) (by kernel_rfl) (by kernel_rfl) (fun _ _ _ h => h) (by rfl) (fun _ _ h => h) (fun _ _ h => h) ?_ (by assumption) (fun hHeld2 => ?_)
          rotate_left 1
          · (intro _ _ _ _ _; first | (go_simp; done) | (go_simp; with_reducible rfl))
          clear hHeld; have hHeld := hHeld2; clear hHeld2
          (try simp only [Act.put, List.setIfInBounds_toArray, List.set_cons_zero, List.set_cons_succ])
          refine lTake (i := 3) (v := ?_) rfl (by kernel_rfl) (by kernel_rfl) (by kernel_rfl) (fun _ _ _ h => h) (by rfl) (fun _ _ h => h) (fun _ _ h => h) ?_ (by assumption) (fun hHeld2 => ?_)
          rotate_left 1
          · (intro _ _ _ _ _; first | (go_simp; done) | (go_simp; with_reducible rfl))
          clear hHeld; have hHeld := hHeld2; clear hHeld2
          (try simp only [Act.put, List.setIfInBounds_toArray, List.set_cons_zero, List.set_cons_succ])
          refine lTake (i := 4) (v := ?_) rfl (by kernel_rfl) (by kernel_rfl) (by kernel_rfl) (fun _ _ _ h => h) (by rfl) (fun _ _ h => h) (fun _ _ h => h) ?_ (by assumption) (fun hHeld2 => ?_)
          rotate_left 1
          · (intro _ _ _ _ _; first | (go_simp; done) | (go_simp; with_reducible rfl))
          clear hHeld; have hHeld := hHeld2; clear hHeld2
          (try simp only [Act.put, List.setIfInBounds_toArray, List.set_cons_zero, List.set_cons_succ])
          refine lTake (i := 5) (v := ?_) rfl (by kernel_rfl) (by kernel_rfl) (by kernel_rfl) (fun _ _ _ h => h) (by rfl) (fun _ _ h => h) (fun _ _ h => h) ?_ (by assumption) (fun hHeld2 => ?_)
          rotate_left 1
          · (intro _ _ _ _ _; first | (go_simp; done) | (go_simp; with_reducible rfl))
          clear hHeld; have hHeld := hHeld2; clear hHeld2
          (try simp only [Act.put, List.setIfInBounds_toArray, List.set_cons_zero, List.set_cons_succ])
          refine lTake (i := 6) (v := ?_) rfl (by kernel_rfl) (by kernel_rfl) (by kernel_rfl) (fun _ _ _ h => h) (by rfl) (fun _ _ h => h) (fun _ _ h => h) ?_ (by assumption) (fun hHeld2 => ?_)
          rotate_left 1
          · (intro _ _ _ _ _; first | (go_simp; done) | (go_simp; with_reducible rfl))
          clear hHeld; have hHeld := hHeld2; clear hHeld2
          (try simp only [Act.put, List.setIfInBounds_toArray, List.set_cons_zero, List.set_cons_succ])
          refine lTake (i := 7) (v := ?_) rfl (by kernel_rfl) (by kernel_rfl) (by kernel_rfl) (fun _ _ _ h => h) (by rfl) (fun _ _ h => h) (fun _ _ h => h) ?_ (by assumption) (fun hHeld2 => ?_)
          rotate_left 1
          · (intro _ _ _ _ _; first | (go_simp; done) | (go_simp; with_reducible rfl))
          clear hHeld; have hHeld := hHeld2; clear hHeld2
          (try simp only [Act.put, List.setIfInBounds_toArray, List.set_cons_zero, List.set_cons_succ])
          refine lTake (i := 8) (v := ?_) rfl (by kernel_rfl) (by kernel_rfl) (by kernel_rfl) (fun _ _ _ h => h) (by rfl) (fun _ _ h => h) (fun _ _ h => h) ?_ (by assumption) (fun hHeld2 => ?_)
          rotate_left 1
          · (intro L W _ _ hSw; (try dsimp only at hSw); first | (go_simp; done) | (go_simp; with_reducible rfl))
          clear hHeld; have hHeld := hHeld2; clear hHeld2
          (try simp only [Act.put, List.setIfInBounds_toArray, List.set_cons_zero, List.set_cons_succ])
          refine lReady (rs := [9]) (by kernel_rfl) (by simp) ?_
          refine AllL.cons (i := 9) rfl (fun K hK => ?_) ?_
          · go_simp; (refine (line_c (64 * k) w.heap.size _ _ _ _ _ _ l s.d s.n s.p _ HCp.out.drew HS2.out.drew.b.size HOk.out (by omega) HAk.out HD.out).mono ?_; rintro e w3 ⟨rfl, ht, _, _, _, _, _, _, _⟩; have HSc := Lib.hid (LSt.copies HS.out HS2.out HCp.out ht); clear ht)
            (try go_wp2_with fail)
            refine hK.out _ _ ?_ (fun hHeld2 => ?_)
            · (try dsimp only); (first | with_reducible assumption | with_reducible exact ⟨HC.out.below HS2.out.drew.b, y1⟩ | exact ⟨HC.out.below HS2.out.drew.b, HS2.out.drew.s.y.blk.cell 0 rfl⟩ | exact ⟨HC.out.below HSc.out.b, HSc.out.s.y.blk.cell 0 rfl⟩)
            clear hK K
            clear hHeld; have hHeld := hHeld2; clear hHeld2
            (try simp only [Act.put, List.setIfInBounds_toArray, List.set_cons_zero, List.set_cons_succ])
            refine lTake (i := 10) (v := ?_) rfl (by kernel_rfl) (by kernel_rfl) (by kernel_rfl) (fun _ _ _ h => h) (by rfl) (fun _ _ h => h) (fun _ _ h => h) ?_ (by assumption) (fun hHeld2 => ?_)
            rotate_left 1
            · (intro _ _ _ _ _; first | (go_simp; done) | (go_simp; with_reducible rfl))
            clear hHeld; have hHeld := hHeld2; clear hHeld2
            (try simp only [Act.put, List.setIfInBounds_toArray, List.set_cons_zero, List.set_cons_succ])
            refine lTake (i := 11) (v := ?_) rfl (by kernel_rfl) (by kernel_rfl) (by kernel_rfl) (fun _ _ _ h => h) (by rfl) (fun _ _ h => h) (fun _ _ h => h) ?_ (by assumption) (fun hHeld2 => ?_)
            rotate_left 1
            · (intro _ _ _ _ _; first | (go_simp; done) | (go_simp; with_reducible rfl))
            clear hHeld; have hHeld := hHeld2; clear hHeld2
            (try simp only [Act.put, List.setIfInBounds_toArray, List.set_cons_zero, List.set_cons_succ])
            refine lTake (i := 12) (v := ?_) rfl (by kernel_rfl) (by kernel_rfl) (by kernel_rfl) (fun _ _ _ h => h) (by rfl) (fun _ _ h => h) (fun _ _ h => h) ?_ (by assumption) (fun hHeld2 => ?_)
            rotate_left 1
            · (intro _ _ _ _ _; first | (go_simp; done) | (go_simp; with_reducible rfl))
            clear hHeld; have hHeld := hHeld2; clear hHeld2
            (try simp only [Act.put, List.setIfInBounds_toArray, List.set_cons_zero, List.set_cons_succ])
            refine lTake (i := 13) (v := ?_) rfl (by kernel_rfl) (by kernel_rfl) (by kernel_rfl) (fun _ _ _ h => h) (by rfl) (fun _ _ h => h) (fun _ _ h => h) ?_ (by assumption) (fun hHeld2 => ?_)
            rotate_left 1
            · (intro _ _ _ _ _; first | (go_simp; done) | (go_simp; with_reducible rfl))
            clear hHeld; have hHeld := hHeld2; clear hHeld2
            (try simp only [Act.put, List.setIfInBounds_toArray, List.set_cons_zero, List.set_cons_succ])
            refine lTake (i := 15) (v := ?_) rfl (by kernel_rfl) (by kernel_rfl) (by kernel_rfl) (fun _ _ _ h => h) (by rfl) (fun _ _ h => h) (fun _ _ h => h) ?_ (by assumption) (fun hHeld2 => ?_)
            rotate_left 1
            · (intro _ _ _ _ _; first | (go_simp; done) | (go_simp; with_reducible rfl))
            clear hHeld; have hHeld := hHeld2; clear hHeld2
            (try simp only [Act.put, List.setIfInBounds_toArray, List.set_cons_zero, List.set_cons_succ])
            refine lTake (i := 16) (v := ?_) rfl (by kernel_rfl) (by kernel_rfl) (by kernel_rfl) (fun _ _ _ h => h) (by rfl) (fun _ _ h => h) (fun _ _ h => h) ?_ (by assumption) (fun hHeld2 => ?_)
            rotate_left 1
            · (intro _ _ _ _ _; first | (go_simp; done) | (go_simp; with_reducible rfl))
            clear hHeld; have hHeld := hHeld2; clear hHeld2
            (try simp only [Act.put, List.setIfInBounds_toArray, List.set_cons_zero, List.set_cons_succ])
            refine lTake (i := 17) (v := ?_) rfl (by kernel_rfl) (by kernel_rfl) (by kernel_rfl) (fun _ _ _ h => h) (by rfl) (fun _ _ h => h) (fun _ _ h => h) ?_ (by assumption) (fun hHeld2 => ?_)
            rotate_left 1
            · (intro _ _ _ _ _; first | (go_simp; done) | (go_simp; with_reducible rfl))
            clear hHeld; have hHeld := hHeld2; clear hHeld2
            (try simp only [Act.put, List.setIfInBounds_toArray, List.set_cons_zero, List.set_cons_succ])
            refine lTake (i := 18) (v := ?_) rfl (by kernel_rfl) (by kernel_rfl) (by kernel_rfl) (fun _ _ _ h => h) (by rfl) (fun _ _ h => h) (fun _ _ h => h) ?_ (by assumption) (fun hHeld2 => ?_)
            rotate_left 1
            · (intro L W _ _ hSw; (try dsimp only at hSw); first | (go_simp; done) | (go_simp; with_reducible rfl))
            clear hHeld; have hHeld := hHeld2; clear hHeld2
            (try simp only [Act.put, List.setIfInBounds_toArray, List.set_cons_zero, List.set_cons_succ])
            refine lTake (i := 19) (v := ?_) rfl (by kernel_rfl) (by kernel_rfl) (by kernel_rfl) (fun _ _ _ h => h) (by rfl) (fun _ _ h => h) (fun _ _ h => h) ?_ (by assumption) (fun hHeld2 => ?_)
            rotate_left 1
            · (intro _ _ _ _ _; first | (go_simp; done) | (go_simp; with_reducible rfl))
            clear hHeld; have hHeld := hHeld2; clear hHeld2
            (try simp only [Act.put, List.setIfInBounds_toArray, List.set_cons_zero, List.set_cons_succ])
            refine lReady (rs := [14]) (by kernel_rfl) (by simp) ?_
            refine AllL.cons (i := 14) rfl (fun K hK => ?_) ?_
            · go_simp; (refine (WaitingL_c _ _ _ _ _ _ HSc.out.s.x).mono ?_; rintro e w2 ⟨rfl, rfl⟩)
              (try go_wp2_with fail)
              refine hK.out _ _ ?_ (fun hHeld2 => ?_)
              · (try dsimp only); (first | with_reducible assumption | with_reducible exact ⟨HC.out.below HS2.out.drew.b, y1⟩ | exact ⟨HC.out.below HS2.out.drew.b, HS2.out.drew.s.y.blk.cell 0 rfl⟩ | exact ⟨HC.out.below HSc.out.b, HSc.out.s.y.blk.cell 0 rfl⟩)
              clear hK K
              clear hHeld; have hHeld := hHeld2; clear hHeld2
              (try simp only [Act.put, List.setIfInBounds_toArray, List.set_cons_zero, List.set_cons_succ])
              refine lTake (i := 20) (v := ?_) rfl (by kernel_rfl) (by kernel_rfl) (by kernel_rfl) (fun _ _ _ h => h) (by rfl) (fun _ _ h => h) (fun _ _ h => h) ?_ (by assumption) (fun hHeld2 => ?_)
              rotate_left 1
              · (intro _ _ _ _ _; first | (go_simp; done) | (go_simp; with_reducible rfl))
              clear hHeld; have hHeld := hHeld2; clear hHeld2
              (try simp only [Act.put, List.setIfInBounds_toArray, List.set_cons_zero, List.set_cons_succ])
              refine lTake (i := 21) (v := ?_) rfl (by kernel_rfl) (by kernel_rfl) (by kernel_rfl) (fun _ _ _ h => h) (by rfl) (fun _ _ h => h) (fun _ _ h => h) ?_ (by assumption) (fun hHeld2 => ?_)
              rotate_left 1
              · (intro _ _ _ _ _; first | (go_simp; done) | (go_simp; with_reducible rfl))
              clear hHeld; have hHeld := hHeld2; clear hHeld2
              (try simp only [Act.put, List.setIfInBounds_toArray, List.set_cons_zero, List.set_cons_succ])
              refine lDone (by kernel_rfl) ?_ _
              clear hHeld
              go_wp2_with fail
              replace HS := HSc
              clear HSc HS2 HCx HCp y1
              refine lBegin (S := fun _ W => (StepAt W (ad.add (k * 14)) s)) (by kernel_rfl) ?_ (fun hHeld => ?_)
              · (try dsimp only); (first | with_reducible assumption | with_reducible exact HC.out.below HS.out.drew.b | with_reducible exact HC.out.below HS1.out.b)
              refine lTake (i := 0) (v := ?_) rfl (by kernel_rfl) (by kernel_rfl) (by kernel_rfl) (fun _ _ _ h => h) (by rfl) (fun _ _ h => h) (fun _ _ h => h) ?_ (by assumption) (fun hHeld2 => ?_)
              rotate_left 1
              · (intro _ _ _ _ _; first | (go_simp; done) | (go_simp; with_reducible rfl))
              clear hHeld; have hHeld := hHeld2; clear hHeld2
              (try simp only [Act.put, List.setIfInBounds_toArray, List.set_cons_zero, List.set_cons_succ])
              refine lTake (i := 1) (v := ?_) rfl (by kernel_rfl) (by kernel_rfl) (by kernel_rfl) (fun _ _ _ h => h) (by rfl) (fun _ _ h => h) (fun _ _ h => h) ?_ (by assumption) (fun hHeld2 => ?_)
              rotate_left 1
              · (intro _ _ _ _ _; first | (go_simp; done) | (go_simp; with_reducible rfl))
              clear hHeld; have hHeld := hHeld2; clear hHeld2
              (try simp only [Act.put, List.setIfInBounds_toArray, List.set_cons_zero, List.set_cons_succ])
              refine lTake (i := 2) (v := ?_) rfl (by kernel_rfl) (by kernel_rfl) (by kernel_rfl) (fun _ _ _ h => h) (by rfl) (fun _ _ h => h) (fun _ _ h => h) ?_ (by assumption) (fun hHeld2 => ?_)
              rotate_left 1
              · (intro _ _ _ _ _; first | (go_simp; done) | (go_simp; with_reducible rfl))
              clear hHeld; have hHeld := hHeld2; clear hHeld2
              (try simp only [Act.put, List.setIfInBounds_toArray, List.set_cons_zero, List.set_cons_succ])
              refine lTake (i := 3) (v := ?_) rfl (by kernel_rfl) (by kernel_rfl) (by kernel_rfl) (fun _ _ _ h => h) (by rfl) (fun _ _ h => h) (fun _ _ h => h) ?_ (by assumption) (fun hHeld2 => ?_)
              rotate_left 1
              · (intro _ _ _ _ _; first | (go_simp; done) | (go_simp; with_reducible rfl))
              clear hHeld; have hHeld := hHeld2; clear hHeld2
              (try simp only [Act.put, List.setIfInBounds_toArray, List.set_cons_zero, List.set_cons_succ])
              refine lTake (i := 4) (v := ?_) rfl (by kernel_rfl) (by kernel_rfl) (by kernel_rfl) (fun _ _ _ h => h) (by rfl) (fun _ _ h => h) (fun _ _ h => h) ?_ (by assumption) (fun hHeld2 => ?_)
              rotate_left 1
              · (intro _ _ _ _ _; first | (go_simp; done) | (go_simp; with_reducible rfl))
              clear hHeld; have hHeld := hHeld2; clear hHeld2
              (try simp only [Act.put, List.setIfInBounds_toArray, List.set_cons_zero, List.set_cons_succ])
              refine lTake (i := 5) (v := ?_) rfl (by kernel_rfl) (by kernel_rfl) (by kernel_rfl) (fun _ _ _ h => h) (by rfl) (fun _ _ h => h) (fun _ _ h => h) ?_ (by assumption) (fun hHeld2 => ?_)
              rotate_left 1
              · (intro L W _ _ hSw; (try dsimp only at hSw); first | (go_simp; done) | (go_simp; with_reducible rfl))
              clear hHeld; have hHeld := hHeld2; clear hHeld2
              (try simp only [Act.put, List.setIfInBounds_toArray, List.set_cons_zero, List.set_cons_succ])
              refine lReady (rs := [6]) (by kernel_rfl) (by simp) ?_
              refine AllL.cons (i := 6) rfl (fun K hK => ?_) ?_
              · go_simp; (refine (line_c (64 * k) w.heap.size w.heap.size Ax cx (w.heap.size + 1) Ay cy l s.d s.n s.p _ HS.out.drew.s HS.out.drew.b.size HOk.out (by omega) HAk.out HD.out).mono ?_; rintro e w1 ⟨rfl, ht, A1, c1, A2, c2, l', hs1, hok1⟩; have HS1 := Lib.hid (HS.out.drew.step ht hs1); have HOk1 := Lib.hid hok1; have y0 := hs1.y.blk.cell 0 rfl; clear ht hs1 hok1)
                (try go_wp2_with fail)
                refine hK.out _ _ ?_ (fun hHeld2 => ?_)
                · (try dsimp only); (first | with_reducible assumption | with_reducible exact HC.out.below HS.out.drew.b | with_reducible exact HC.out.below HS1.out.b)
                clear hK K
                clear hHeld; have hHeld := hHeld2; clear hHeld2
                (try simp only [Act.put, List.setIfInBounds_toArray, List.set_cons_zero, List.set_cons_succ])
                refine lTake (i := 7) (v := ?_) rfl (by kernel_rfl) (by kernel_rfl) (by kernel_rfl) (fun _ _ _ h => h) (by rfl) (fun _ _ h => h) (fun _ _ h => h) ?_ (by assumption) (fun hHeld2 => ?_)
                rotate_left 1
                · (intro _ _ _ _ _; first | (go_simp; done) | (go_simp; with_reducible rfl))
                clear hHeld; have hHeld := hHeld2; clear hHeld2
                (try simp only [Act.put, List.setIfInBounds_toArray, List.set_cons_zero, List.set_cons_succ])
                refine lTake (i := 8) (v := ?_) rfl (by kernel_rfl) (by kernel_rfl) (by kernel_rfl) (fun _ _ _ h => h) (by rfl) (fun _ _ h => h) (fun _ _ h => h) ?_ (by assumption) (fun hHeld2 => ?_)
                rotate_left 1
                · (intro _ _ _ _ _; first | (go_simp; done) | (go_simp; with_reducible rfl))
                clear hHeld; have hHeld := hHeld2; clear hHeld2
                (try simp only [Act.put, List.setIfInBounds_toArray, List.set_cons_zero, List.set_cons_succ])
                refine lTake (i := 9) (v := ?_) rfl (by kernel_rfl) (by kernel_rfl) (by kernel_rfl) (fun _ _ _ h => h) (by rfl) (fun _ _ h => h) (fun _ _ h => h) ?_ (by assumption) (fun hHeld2 => ?_)
                rotate_left 1
                · (intro _ _ _ _ _; first | (go_simp; done) | (go_simp; with_reducible rfl))
                clear hHeld; have hHeld := hHeld2; clear hHeld2
                (try simp only [Act.put, List.setIfInBounds_toArray, List.set_cons_zero, List.set_cons_succ])
                refine lTake (i := 11) (v := ?_) rfl (by kernel_rfl) (by kernel_rfl) (by kernel_rfl) (fun _ _ _ h => h) (by rfl) (fun _ _ h => h) (fun _ _ h => h) ?_ (by assumption) (fun hHeld2 => ?_)
                rotate_left 1
                · (intro _ _ _ _ _; first | (go_simp; done) | (go_simp; with_reducible rfl))
                clear hHeld; have hHeld := hHeld2; clear hHeld2
                (try simp only [Act.put, List.setIfInBounds_toArray, List.set_cons_zero, List.set_cons_succ])
                refine lTake (i := 12) (v := ?_) rfl (by kernel_rfl) (by kernel_rfl) (by kernel_rfl) (fun _ _ _ h => h) (by rfl) (fun _ _ h => h) (fun _ _ h => h) ?_ (by assumption) (fun hHeld2 => ?_)
                rotate_left 1
                · (intro _ _ _ _ _; first | (go_simp; done) | (go_simp; with_reducible rfl))
                clear hHeld; have hHeld := hHeld2; clear hHeld2
                (try simp only [Act.put, List.setIfInBounds_toArray, List.set_cons_zero, List.set_cons_succ])
                refine lTake (i := 13) (v := ?_) rfl (by kernel_rfl) (by kernel_rfl) (by kernel_rfl) (fun _ _ _ h => h) (by rfl) (fun _ _ h => h) (fun _ _ h => h) ?_ (by assumption) (fun hHeld2 => ?_)
                rotate_left 1
                · (intro _ _ _ _ _; first | (go_simp; done) | (go_simp; with_reducible rfl))
                clear hHeld; have hHeld := hHeld2; clear hHeld2
                (try simp only [Act.put, List.setIfInBounds_toArray, List.set_cons_zero, List.set_cons_succ])
                refine lReady (rs := [10, 14]) (by kernel_rfl) (by simp) ?_
                refine AllL.cons (i := 10) rfl (fun K hK => ?_) ?_
                · go_simp; (refine (WaitingL_c _ _ _ _ _ _ HS1.out.s.x).mono ?_; rintro e w2 ⟨rfl, rfl⟩)
                  (try go_wp2_with fail)
                  refine hK.out _ _ ?_ (fun hHeld2 => ?_)
                  · (try dsimp only); (first | with_reducible assumption | with_reducible exact HC.out.below HS.out.drew.b | with_reducible exact HC.out.below HS1.out.b)
                  clear hK K
                  clear hHeld; have hHeld := hHeld2; clear hHeld2
                  (try simp only [Act.put, List.setIfInBounds_toArray, List.set_cons_zero, List.set_cons_succ])
                  refine lReady (rs := [14]) (by kernel_rfl) (by simp) ?_
                  refine AllL.cons (i := 14) rfl (fun K hK => ?_) ?_
                  · go_simp
                    (try go_wp2_with fail)
                    refine hK.out _ _ ?_ (fun hHeld2 => ?_)
                    · (try dsimp only); (first | with_reducible assumption | with_reducible exact HC.out.below HS.out.drew.b | with_reducible exact HC.out.below HS1.out.b)
                    clear hK K
                    clear hHeld; have hHeld := hHeld2; clear hHeld2
                    (try simp only [Act.put, List.setIfInBounds_toArray, List.set_cons_zero, List.set_cons_succ])
                    refine lTake (i := 15) (v := ?_) rfl (by kernel_rfl) (by kernel_rfl) (by kernel_rfl) (fun _ _ _ h => h) (by rfl) (fun _ _ h => h) (fun _ _ h => h) ?_ (by assumption) (fun hHeld2 => ?_)
                    rotate_left 1
                    · (intro _ _ _ _ _; first | (go_simp; done) | (go_simp; with_reducible rfl))
                    clear hHeld; have hHeld := hHeld2; clear hHeld2
                    (try simp only [Act.put, List.setIfInBounds_toArray, List.set_cons_zero, List.set_cons_succ])
                    refine lTake (i := 16) (v := ?_) rfl (by kernel_rfl) (by kernel_rfl) (by kernel_rfl) (fun _ _ _ h => h) (by rfl) (fun _ _ h => h) (fun _ _ h => h) ?_ (by assumption) (fun hHeld2 => ?_)
                    rotate_left 1
                    · (intro _ _ _ _ _; first | (go_simp; done) | (go_simp; with_reducible rfl))
                    clear hHeld; have hHeld := hHeld2; clear hHeld2
                    (try simp only [Act.put, List.setIfInBounds_toArray, List.set_cons_zero, List.set_cons_succ])
                    refine lTake (i := 17) (v := ?_) rfl (by kernel_rfl) (by kernel_rfl) (by kernel_rfl) (fun _ _ _ h => h) (by rfl) (fun _ _ h => h) (fun _ _ h => h) ?_ (by assumption) (fun hHeld2 => ?_)
                    rotate_left 1
                    · (intro _ _ _ _ _; first | (go_simp; done) | (go_simp; with_reducible rfl))
                    clear hHeld; have hHeld := hHeld2; clear hHeld2
                    (try simp only [Act.put, List.setIfInBounds_toArray, List.set_cons_zero, List.set_cons_succ])
                    refine lDone (by kernel_rfl) ?_ _
                    clear hHeld
                    go_wp2_with fail
                    go_roundw
                    case rel => exact ⟨k + 1, A1, c1, A2, c2, l', by omega, by go_num, HS1.out, Lx.ok_mono HOk1.out (by omega)⟩
                    case measure => simp [intOf]; omega
                  exact AllL.nil
                refine AllL.cons (i := 14) rfl (fun K hK => ?_) ?_
                · go_simp
                  (try go_wp2_with fail)
                  refine hK.out _ _ ?_ (fun hHeld2 => ?_)
                  · (try dsimp only); (first | with_reducible assumption | with_reducible exact HC.out.below HS.out.drew.b | with_reducible exact HC.out.below HS1.out.b)
                  clear hK K
                  clear hHeld; have hHeld := hHeld2; clear hHeld2
                  (try simp only [Act.put, List.setIfInBounds_toArray, List.set_cons_zero, List.set_cons_succ])
                  refine lTake (i := 15) (v := ?_) rfl (by kernel_rfl) (by kernel_rfl) (by kernel_rfl) (fun _ _ _ h => h) (by rfl) (fun _ _ h => h) (fun _ _ h => h) ?_ (by assumption) (fun hHeld2 => ?_)
                  rotate_left 1
                  · (intro _ _ _ _ _; first | (go_simp; done) | (go_simp; with_reducible rfl))
                  clear hHeld; have hHeld := hHeld2; clear hHeld2
                  (try simp only [Act.put, List.setIfInBounds_toArray, List.set_cons_zero, List.set_cons_succ])
                  refine lReady (rs := [10]) (by kernel_rfl) (by simp) ?_
                  refine AllL.cons (i := 10) rfl (fun K hK => ?_) ?_
                  · go_simp; (refine (WaitingL_c _ _ _ _ _ _ HS1.out.s.x).mono ?_; rintro e w2 ⟨rfl, rfl⟩)
                    (try go_wp2_with fail)
                    refine hK.out _ _ ?_ (fun hHeld2 => ?_)
                    · (try dsimp only); (first | with_reducible assumption | with_reducible exact HC.out.below HS.out.drew.b | with_reducible exact HC.out.below HS1.out.b)
                    clear hK K
                    clear hHeld; have hHeld := hHeld2; clear hHeld2
                    (try simp only [Act.put, List.setIfInBounds_toArray, List.set_cons_zero, List.set_cons_succ])
                    refine lTake (i := 16) (v := ?_) rfl (by kernel_rfl) (by kernel_rfl) (by kernel_rfl) (fun _ _ _ h => h) (by rfl) (fun _ _ h => h) (fun _ _ h => h) ?_ (by assumption) (fun hHeld2 => ?_)
                    rotate_left 1
                    · (intro _ _ _ _ _; first | (go_simp; done) | (go_simp; with_reducible rfl))
                    clear hHeld; have hHeld := hHeld2; clear hHeld2
                    (try simp only [Act.put, List.setIfInBounds_toArray, List.set_cons_zero, List.set_cons_succ])
                    refine lTake (i := 17) (v := ?_) rfl (by kernel_rfl) (by kernel_rfl) (by kernel_rfl) (fun _ _ _ h => h) (by rfl) (fun _ _ h => h) (fun _ _ h => h) ?_ (by assumption) (fun hHeld2 => ?_)
                    rotate_left 1
                    · (intro _ _ _ _ _; first | (go_simp; done) | (go_simp; with_reducible rfl))
                    clear hHeld; have hHeld := hHeld2; clear hHeld2
                    (try simp only [Act.put, List.setIfInBounds_toArray, List.set_cons_zero, List.set_cons_succ])
                    refine lDone (by kernel_rfl) ?_ _
                    clear hHeld
                    go_wp2_with fail
                    go_roundw
                    case rel => exact ⟨k + 1, A1, c1, A2, c2, l', by omega, by go_num, HS1.out, Lx.ok_mono HOk1.out (by omega)⟩
                    case measure => simp [intOf]; omega
                  exact AllL.nil
                exact AllL.nil
              exact AllL.nil
            exact AllL.nil
          exact AllL.nil
        · have hat' : ((k : Int) == at_) = false := by simpa using hat
          clear hat
          go_wp2_with fail
          refine lBegin (S := fun _ W => (StepAt W (ad.add (k * 14)) s)) (by kernel_rfl) ?_ (fun hHeld => ?_)
          · (try dsimp only); (first | with_reducible assumption | with_reducible exact HC.out.below HS.out.drew.b | with_reducible exact HC.out.below HS1.out.b)
          refine lTake (i := 0) (v := ?_) rfl (by kernel_rfl) (by kernel_rfl) (by kernel_rfl) (fun _ _ _ h => h) (by rfl) (fun _ _ h => h) (fun _ _ h => h) ?_ (by assumption) (fun hHeld2 => ?_)
          rotate_left 1
          · (intro _ _ _ _ _; first | (go_simp; done) | (go_simp; with_reducible rfl))
          clear hHeld; have hHeld := hHeld2; clear hHeld2
          (try simp only [Act.put, List.setIfInBounds_toArray, List.set_cons_zero, List.set_cons_succ])
          refine lTake (i := 1) (v := ?_) rfl (by kernel_rfl) (by kernel_rfl) (by kernel_rfl) (fun _ _ _ h => h) (by rfl) (fun _ _ h => h) (fun _ _ h => h) ?_ (by assumption) (fun hHeld2 => ?_)
          rotate_left 1
          · (intro _ _ _ _ _; first | (go_simp; done) | (go_simp; with_reducible rfl))
          clear hHeld; have hHeld := hHeld2; clear hHeld2
          (try simp only [Act.put, List.setIfInBounds_toArray, List.set_cons_zero, List.set_cons_succ])
          refine lTake (i := 2) (v := ?_) rfl (by kernel_rfl) (by kernel_rfl) (by kernel_rfl) (fun _ _ _ h => h) (by rfl) (fun _ _ h => h) (fun _ _ h => h) ?_ (by assumption) (fun hHeld2 => ?_)
          rotate_left 1
          · (intro _ _ _ _ _; first | (go_simp; done) | (go_simp; with_reducible rfl))
          clear hHeld; have hHeld := hHeld2; clear hHeld2
          (try simp only [Act.put, List.setIfInBounds_toArray, List.set_cons_zero, List.set_cons_succ])
          refine lTake (i := 3) (v := ?_) rfl (by kernel_rfl) (by kernel_rfl) (by kernel_rfl) (fun _ _ _ h => h) (by rfl) (fun _ _ h => h) (fun _ _ h => h) ?_ (by assumption) (fun hHeld2 => ?_)
          rotate_left 1
          · (intro _ _ _ _ _; first | (go_simp; done) | (go_simp; with_reducible rfl))
          clear hHeld; have hHeld := hHeld2; clear hHeld2
          (try simp only [Act.put, List.setIfInBounds_toArray, List.set_cons_zero, List.set_cons_succ])
          refine lTake (i := 4) (v := ?_) rfl (by kernel_rfl) (by kernel_rfl) (by kernel_rfl) (fun _ _ _ h => h) (by rfl) (fun _ _ h => h) (fun _ _ h => h) ?_ (by assumption) (fun hHeld2 => ?_)
          rotate_left 1
          · (intro _ _ _ _ _; first | (go_simp; done) | (go_simp; with_reducible rfl))
          clear hHeld; have hHeld := hHeld2; clear hHeld2
          (try simp only [Act.put, List.setIfInBounds_toArray, List.set_cons_zero, List.set_cons_succ])
          refine lTake (i := 5) (v := ?_) rfl (by kernel_rfl) (by kernel_rfl) (by kernel_rfl) (fun _ _ _ h => h) (by rfl) (fun _ _ h => h) (fun _ _ h => h) ?_ (by assumption) (fun hHeld2 => ?_)
          rotate_left 1
          · (intro L W _ _ hSw; (try dsimp only at hSw); first | (go_simp; done) | (go_simp; with_reducible rfl))
          clear hHeld; have hHeld := hHeld2; clear hHeld2
          (try simp only [Act.put, List.setIfInBounds_toArray, List.set_cons_zero, List.set_cons_succ])
          refine lReady (rs := [6]) (by kernel_rfl) (by simp) ?_
          refine AllL.cons (i := 6) rfl (fun K hK => ?_) ?_
          · go_simp; (refine (line_c (64 * k) w.heap.size w.heap.size Ax cx (w.heap.size + 1) Ay cy l s.d s.n s.p _ HS.out.drew.s HS.out.drew.b.size HOk.out (by omega) HAk.out HD.out).mono ?_; rintro e w1 ⟨rfl, ht, A1, c1, A2, c2, l', hs1, hok1⟩; have HS1 := Lib.hid (HS.out.drew.step ht hs1); have HOk1 := Lib.hid hok1; have y0 := hs1.y.blk.cell 0 rfl; clear ht hs1 hok1)
            (try go_wp2_with fail)
            refine hK.out _ _ ?_ (fun hHeld2 => ?_)
            · (try dsimp only); (first | with_reducible assumption | with_reducible exact HC.out.below HS.out.drew.b | with_reducible exact HC.out.below HS1.out.b)
            clear hK K
            clear hHeld; have hHeld := hHeld2; clear hHeld2
            (try simp only [Act.put, List.setIfInBounds_toArray, List.set_cons_zero, List.set_cons_succ])
            refine lTake (i := 7) (v := ?_) rfl (by kernel_rfl) (by kernel_rfl) (by kernel_rfl) (fun _ _ _ h => h) (by rfl) (fun _ _ h => h) (fun _ _ h => h) ?_ (by assumption) (fun hHeld2 => ?_)
            rotate_left 1
            · (intro _ _ _ _ _; first | (go_simp; done) | (go_simp; with_reducible rfl))
            clear hHeld; have hHeld := hHeld2; clear hHeld2
            (try simp only [Act.put, List.setIfInBounds_toArray, List.set_cons_zero, List.set_cons_succ])
            refine lTake (i := 8) (v := ?_) rfl (by kernel_rfl) (by kernel_rfl) (by kernel_rfl) (fun _ _ _ h => h) (by rfl) (fun _ _ h => h) (fun _ _ h => h) ?_ (by assumption) (fun hHeld2 => ?_)
            rotate_left 1
            · (intro _ _ _ _ _; first | (go_simp; done) | (go_simp; with_reducible rfl))
            clear hHeld; have hHeld := hHeld2; clear hHeld2
            (try simp only [Act.put, List.setIfInBounds_toArray, List.set_cons_zero, List.set_cons_succ])
            refine lTake (i := 9) (v := ?_) rfl (by kernel_rfl) (by kernel_rfl) (by kernel_rfl) (fun _ _ _ h => h) (by rfl) (fun _ _ h => h) (fun _ _ h => h) ?_ (by assumption) (fun hHeld2 => ?_)
            rotate_left 1
            · (intro _ _ _ _ _; first | (go_simp; done) | (go_simp; with_reducible rfl))
            clear hHeld; have hHeld := hHeld2; clear hHeld2
            (try simp only [Act.put, List.setIfInBounds_toArray, List.set_cons_zero, List.set_cons_succ])
            refine lTake (i := 11) (v := ?_) rfl (by kernel_rfl) (by kernel_rfl) (by kernel_rfl) (fun _ _ _ h => h) (by rfl) (fun _ _ h => h) (fun _ _ h => h) ?_ (by assumption) (fun hHeld2 => ?_)
            rotate_left 1
            · (intro _ _ _ _ _; first | (go_simp; done) | (go_simp; with_reducible rfl))
            clear hHeld; have hHeld := hHeld2; clear hHeld2
            (try simp only [Act.put, List.setIfInBounds_toArray, List.set_cons_zero, List.set_cons_succ])
            refine lTake (i := 12) (v := ?_) rfl (by kernel_rfl) (by kernel_rfl) (by kernel_rfl) (fun _ _ _ h => h) (by rfl) (fun _ _ h => h) (fun _ _ h => h) ?_ (by assumption) (fun hHeld2 => ?_)
            rotate_left 1
            · (intro _ _ _ _ _; first | (go_simp; done) | (go_simp; with_reducible rfl))
            clear hHeld; have hHeld := hHeld2; clear hHeld2
            (try simp only [Act.put, List.setIfInBounds_toArray, List.set_cons_zero, List.set_cons_succ])
            refine lTake (i := 13) (v := ?_) rfl (by kernel_rfl) (by kernel_rfl) (by kernel_rfl) (fun _ _ _ h => h) (by rfl) (fun _ _ h => h) (fun _ _ h => h) ?_ (by assumption) (fun hHeld2 => ?_)
            rotate_left 1
            · (intro _ _ _ _ _; first | (go_simp; done) | (go_simp; with_reducible rfl))
            clear hHeld; have hHeld := hHeld2; clear hHeld2
            (try simp only [Act.put, List.setIfInBounds_toArray, List.set_cons_zero, List.set_cons_succ])
            refine lReady (rs := [10, 14]) (by kernel_rfl) (by simp) ?_
            refine AllL.cons (i := 10) rfl (fun K hK => ?_) ?_
            · go_simp; (refine (WaitingL_c _ _ _ _ _ _ HS1.out.s.x).mono ?_; rintro e w2 ⟨rfl, rfl⟩)
              (try go_wp2_with fail)
              refine hK.out _ _ ?_ (fun hHeld2 => ?_)
              · (try dsimp only); (first | with_reducible assumption | with_reducible exact HC.out.below HS.out.drew.b | with_reducible exact HC.out.below HS1.out.b)
              clear hK K
              clear hHeld; have hHeld := hHeld2; clear hHeld2
              (try simp only [Act.put, List.setIfInBounds_toArray, List.set_cons_zero, List.set_cons_succ])
              refine lReady (rs := [14]) (by kernel_rfl) (by simp) ?_
              refine AllL.cons (i := 14) rfl (fun K hK => ?_) ?_
              · go_simp
                (try go_wp2_with fail)
                refine hK.out _ _ ?_ (fun hHeld2 => ?_)
                · (try dsimp only); (first | with_reducible assumption | with_reducible exact HC.out.below HS.out.drew.b | with_reducible exact HC.out.below HS1.out.b)
                clear hK K
                clear hHeld; have hHeld := hHeld2; clear hHeld2
                (try simp only [Act.put, List.setIfInBounds_toArray, List.set_cons_zero, List.set_cons_succ])
                refine lTake (i := 15) (v := ?_) rfl (by kernel_rfl) (by kernel_rfl) (by kernel_rfl) (fun _ _ _ h => h) (by rfl) (fun _ _ h => h) (fun _ _ h => h) ?_ (by assumption) (fun hHeld2 => ?_)
                rotate_left 1
                · (intro _ _ _ _ _; first | (go_simp; done) | (go_simp; with_reducible rfl))
                clear hHeld; have hHeld := hHeld2; clear hHeld2
                (try simp only [Act.put, List.setIfInBounds_toArray, List.set_cons_zero, List.set_cons_succ])
                refine lTake (i := 16) (v := ?_) rfl (by kernel_rfl) (by kernel_rfl) (by kernel_rfl) (fun _ _ _ h => h) (by rfl) (fun _ _ h => h) (fun _ _ h => h) ?_ (by assumption) (fun hHeld2 => ?_)
                rotate_left 1
                · (intro _ _ _ _ _; first | (go_simp; done) | (go_simp; with_reducible rfl))
                clear hHeld; have hHeld := hHeld2; clear hHeld2
                (try simp only [Act.put, List.setIfInBounds_toArray, List.set_cons_zero, List.set_cons_succ])
                refine lTake (i := 17) (v := ?_) rfl (by kernel_rfl) (by kernel_rfl) (by kernel_rfl) (fun _ _ _ h => h) (by rfl) (fun _ _ h => h) (fun _ _ h => h) ?_ (by assumption) (fun hHeld2 => ?_)
                rotate_left 1
                · (intro _ _ _ _ _; first | (go_simp; done) | (go_simp; with_reducible rfl))
                clear hHeld; have hHeld := hHeld2; clear hHeld2
                (try simp only [Act.put, List.setIfInBounds_toArray, List.set_cons_zero, List.set_cons_succ])
                refine lDone (by kernel_rfl) ?_ _
                clear hHeld
                go_wp2_with fail
                go_roundw
                case rel => exact ⟨k + 1, A1, c1, A2, c2, l', by omega, by go_num, HS1.out, Lx.ok_mono HOk1.out (by omega)⟩
                case measure => simp [intOf]; omega
              exact AllL.nil
            refine AllL.cons (i := 14) rfl (fun K hK => ?_) ?_
            · go_simp
              (try go_wp2_with fail)
              refine hK.out _ _ ?_ (fun hHeld2 => ?_)
              · (try dsimp only); (first | with_reducible assumption | with_reducible exact HC.out.below HS.out.drew.b | with_reducible exact HC.out.below HS1.out.b)
              clear hK K
              clear hHeld; have hHeld := hHeld2; clear hHeld2
              (try simp only [Act.put, List.setIfInBounds_toArray, List.set_cons_zero, List.set_cons_succ])
              refine lTake (i := 15) (v := ?_) rfl (by kernel_rfl) (by kernel_rfl) (by kernel_rfl) (fun _ _ _ h => h) (by rfl) (fun _ _ h => h) (fun _ _ h => h) ?_ (by assumption) (fun hHeld2 => ?_)
              rotate_left 1
              · (intro _ _ _ _ _; first | (go_simp; done) | (go_simp; with_reducible rfl))
              clear hHeld; have hHeld := hHeld2; clear hHeld2
              (try simp only [Act.put, List.setIfInBounds_toArray, List.set_cons_zero, List.set_cons_succ])
              refine lReady (rs := [10]) (by kernel_rfl) (by simp) ?_
              refine AllL.cons (i := 10) rfl (fun K hK => ?_) ?_
              · go_simp; (refine (WaitingL_c _ _ _ _ _ _ HS1.out.s.x).mono ?_; rintro e w2 ⟨rfl, rfl⟩)
                (try go_wp2_with fail)
                refine hK.out _ _ ?_ (fun hHeld2 => ?_)
                · (try dsimp only); (first | with_reducible assumption | with_reducible exact HC.out.below HS.out.drew.b | with_reducible exact HC.out.below HS1.out.b)
                clear hK K
                clear hHeld; have hHeld := hHeld2; clear hHeld2
                (try simp only [Act.put, List.setIfInBounds_toArray, List.set_cons_zero, List.set_cons_succ])
                refine lTake (i := 16) (v := ?_) rfl (by kernel_rfl) (by kernel_rfl) (by kernel_rfl) (fun _ _ _ h => h) (by rfl) (fun _ _ h => h) (fun _ _ h => h) ?_ (by assumption) (fun hHeld2 => ?_)
                rotate_left 1
                · (intro _ _ _ _ _; first | (go_simp; done) | (go_simp; with_reducible rfl))
                clear hHeld; have hHeld := hHeld2; clear hHeld2
                (try simp only [Act.put, List.setIfInBounds_toArray, List.set_cons_zero, List.set_cons_succ])
                refine lTake (i := 17) (v := ?_) rfl (by kernel_rfl) (by kernel_rfl) (by kernel_rfl) (fun _ _ _ h => h) (by rfl) (fun _ _ h => h) (fun _ _ h => h) ?_ (by assumption) (fun hHeld2 => ?_)
                rotate_left 1
                · (intro _ _ _ _ _; first | (go_simp; done) | (go_simp; with_reducible rfl))
                clear hHeld; have hHeld := hHeld2; clear hHeld2
                (try simp only [Act.put, List.setIfInBounds_toArray, List.set_cons_zero, List.set_cons_succ])
                refine lDone (by kernel_rfl) ?_ _
                clear hHeld
                go_wp2_with fail
                go_roundw
                case rel => exact ⟨k + 1, A1, c1, A2, c2, l', by omega, by go_num, HS1.out, Lx.ok_mono HOk1.out (by omega)⟩
                case measure => simp [intOf]; omega
              exact AllL.nil
            exact AllL.nil
          exact AllL.nil
      · go_wp2_with (go_at_call 12; refine (works_c _).mono ?_; rintro e w1 ⟨rfl, hb⟩; have HE := Lib.hid (HS.out.below hb); clear hb)
        go_ret
        exact ⟨rfl, HE.out.b⟩
    · go_wp2_with (go_at_call 12; refine (works_c _).mono ?_; rintro e w1 ⟨rfl, hb⟩; have HE := Lib.hid (HS.out.below hb); clear hb)
      go_ret
      exact ⟨rfl, HE.out.b⟩
end Go.Proofs.Ytafajclbghofkaa
