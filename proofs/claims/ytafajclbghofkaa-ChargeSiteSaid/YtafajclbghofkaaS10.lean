/- slices.DeleteFunc of leases; Ack of charge. -/
import Derived.Test.YtafajclbghofkaaS9
namespace Go.Proofs.Ytafajclbghofkaa
open Go.RowKit
set_option linter.unusedVariables false
namespace Sx
/-- what Ack keeps -/
def kp (nu : Int) (l : Ls) : Bool := !decide (l.n < nu)
theorem kp_all {L : List Ls} {nu : Int} (h : ∀ i, i < L.length → nu ≤ (L.getD i default).n) : L.filter (kp nu) = L := by
  rw [List.filter_eq_self]
  intro l hl
  obtain ⟨i, hi, rfl⟩ := List.mem_iff_getElem.1 hl
  have := h i hi
  rw [List.getD_eq_getElem?_getD, List.getElem?_eq_getElem hi] at this
  simp at this
  simp [kp]
  omega
theorem getD_at {L : List Ls} {i : Nat} (hi : i < L.length) : L.getD i default = L[i] := by rw [List.getD_eq_getElem?_getD, List.getElem?_eq_getElem hi]; rfl
theorem del_start {L : List Ls} {nu : Int} {i : Nat} (hi : i < L.length) (h0 : (L.getD i default).n < nu) (h : ∀ j, j < i → nu ≤ (L.getD j default).n) : L.take i = (L.take (i + 1)).filter (kp nu) := by
  rw [List.take_succ_eq_append_getElem hi, List.filter_append, ← getD_at hi]
  have h1 : (L.take i).filter (kp nu) = L.take i := kp_all (fun j hj => by
    rw [List.length_take] at hj
    have := h j (by omega)
    rwa [List.getD_eq_getElem?_getD, List.getElem?_take, if_pos (by omega), ← List.getD_eq_getElem?_getD])
  rw [h1]
  generalize L.getD i default = x at h0
  simp [kp, h0]
theorem del_at {L M : List Ls} {b : Nat} (hb : b < L.length) (h : M.drop b = L.drop b) : M.getD b default = L.getD b default := by
  have h1 : (M.drop b)[0]? = (L.drop b)[0]? := by rw [h]
  rw [List.getElem?_drop, List.getElem?_drop] at h1
  rw [List.getD_eq_getElem?_getD, List.getD_eq_getElem?_getD]
  simpa using congrArg (fun o => o.getD default) h1
theorem drop_next {L M : List Ls} {b : Nat} (h : M.drop b = L.drop b) : M.drop (b + 1) = L.drop (b + 1) := by
  rw [← List.drop_drop, ← List.drop_drop, h]
theorem del_gone {L : List Ls} {nu : Int} {b : Nat} (hb : b < L.length) (h0 : (L.getD b default).n < nu) : (L.take (b + 1)).filter (kp nu) = (L.take b).filter (kp nu) := by
  rw [List.take_succ_eq_append_getElem hb, List.filter_append, ← getD_at hb]
  generalize L.getD b default = x at h0
  simp [kp, h0]
theorem del_keep {L M : List Ls} {nu : Int} {a b : Nat} (hb : b < L.length) (hm : M.length = L.length) (hab : a < b) (h0 : ¬ (L.getD b default).n < nu) (ht : M.take a = (L.take b).filter (kp nu)) (hd : M.drop b = L.drop b) :
    (M.set a (L.getD b default)).take (a + 1) = (L.take (b + 1)).filter (kp nu) ∧ (M.set a (L.getD b default)).drop (b + 1) = L.drop (b + 1) := by
  constructor
  · rw [List.take_succ_eq_append_getElem (by simp; omega), List.getElem_set_self, List.take_set_of_le (Nat.le_refl _), ht, List.take_succ_eq_append_getElem hb, List.filter_append, ← getD_at hb]
    generalize L.getD b default = x at h0
    simp [kp, h0]
  · rw [List.drop_set_of_lt (by omega)]
    exact drop_next hd
end Sx
theorem IndexFunc_any (A : Option Addr) (B c p : Nat) (L : List Ls) (nu : Int) (w : World) (hr : LRow B A c L w) (c0 : w.cell? ⟨p, 0, none⟩ = some (.int .i64 nu)) :
    Calls Try.prog 89 #[.slice A L.length c, .func (.func 80) #[] #[.pointer (some ⟨p, 0, none⟩)]] w fun e w' => ∃ v, e = .returned (.int .i64 v) ∧ IxV L nu v ∧ Below w.heap.size w w' := by
  by_cases h0 : 0 < L.length
  · obtain ⟨g, rfl, _, hcm, hm⟩ := RowM.of_row hr h0
    exact IndexFunc_c g c p L nu w hm hcm c0
  · have : L = [] := List.eq_nil_of_length_eq_zero (by omega)
    subst this
    clear hr c0 h0
    go_enter Try.func89, Try.ntmps89
    go_wp2
    refine wp_loop_rounds 1 ?_
    rw [rounds_succ]
    go_wp2
    go_ret
    exact ⟨-1, rfl, .inl ⟨rfl, fun i hi => by simp at hi⟩, Below.refl _ _⟩
/-- what DeleteFunc leaves -/
def DelTo (w : World) (B : Nat) (A : Option Addr) (c : Nat) (L : List Ls) (nu : Int) (e : Ending) (w' : World) : Prop := e = .returned (.slice A (L.filter (Sx.kp nu)).length c) ∧ LRow B A c (L.filter (Sx.kp nu)) w' ∧ Touch (OwnB A) w w'
def DelI (w : World) (g c : Nat) (L : List Ls) (nu : Int) (a b : Nat) (M : List Ls) (W : World) : Prop := RowM W g c M ∧ M.length = L.length ∧ M.take a = (L.take b).filter (Sx.kp nu) ∧ M.drop b = L.drop b ∧ Touch (OwnB (some ⟨g, 0, none⟩)) w W
theorem touch4 {w W : World} {g : Nat} (h : Touch (OwnB (some ⟨g, 0, none⟩)) w W) (o : Nat) (v0 v1 v2 v3 : Value) : Touch (OwnB (some ⟨g, 0, none⟩)) w ((((W.setCell ⟨g, o, none⟩ v0).setCell ⟨g, o + 1, none⟩ v1).setCell ⟨g, o + 2, none⟩ v2).setCell ⟨g, o + 3, none⟩ v3) :=
  have hg : OwnB (some ⟨g, 0, none⟩) g := ⟨_, rfl, rfl⟩
  (((h.setCell (p := ⟨g, o, none⟩) (.inl hg) v0).setCell (p := ⟨g, o + 1, none⟩) (.inl hg) v1).setCell (p := ⟨g, o + 2, none⟩) (.inl hg) v2).setCell (p := ⟨g, o + 3, none⟩) (.inl hg) v3
set_option maxHeartbeats 4000000 in
theorem DeleteFunc_c (A : Option Addr) (B c p : Nat) (L : List Ls) (nu : Int) (w : World) (hr : LRow B A c L w) (hl : L.length ≤ 1000000) (c0 : w.cell? ⟨p, 0, none⟩ = some (.int .i64 nu)) (hp : ¬ OwnB A p) :
    Calls Try.prog 79 #[.slice A L.length c, .func (.func 80) #[] #[.pointer (some ⟨p, 0, none⟩)]] w (DelTo w B A c L nu) := by
  have HI := Lib.hid (IndexFunc_any A B c p L nu w hr c0)
  have HR := Lib.hid hr
  have HP := Lib.hid c0
  have HPn := Lib.hid hp
  have zp : p < w.heap.size := World.block_lt_of_cell? _ _ c0
  obtain ⟨hc1, hc2⟩ := lrow_cap hr
  unfold maxLen at hc2
  clear hr c0 hp
  go_enter Try.func79, Try.ntmps79
  go_upto_region 2 with (go_at_call 89; refine HI.out.mono ?_; rintro e w1 ⟨v, rfl, hv, hb⟩; have HV := Lib.hid hv; have HB := Lib.hid hb; clear hv hb)
  rcases HV.out with ⟨hv, hall⟩ | ⟨i0, hv, hi0, hdel, hbef⟩
  · subst hv
    have HK := Lib.hid (Sx.kp_all hall)
    clear hall
    go_wp2_with fail
    go_ret
    unfold DelTo
    rw [HK.out]
    exact ⟨rfl, rowE_below HR.out HB.out, Touch.of_below HB.out⟩
  subst hv
  obtain ⟨g, rfl, hBg, hcm, hm⟩ := RowM.of_row HR.out (by omega)
  have HM := Lib.hid (hm.below HB.out)
  have HD := Lib.hid (Sx.del_start hi0 hdel hbef)
  have hne : ((i0 : Int) == -1) = false := by simp
  have P1 := Lib.hid ((HB.out.cell (p := ⟨p, 0, none⟩) zp).trans HP.out)
  clear hdel hbef hm HV
  have hg2 : g < w1.heap.size := HM.out.lt
  have hpg : p ≠ g := fun e => HPn.out ⟨⟨g, 0, none⟩, rfl, e.symm⟩
  go_wp2_with fail
  go_loopw [5, 6] (fun i j wr => ∃ (a b : Nat) (M : List Ls), a < b ∧ b ≤ L.length ∧ i = .int .i64 a ∧ j = .int .i64 b ∧ Hid (DelI w g c L nu a b M wr)) (fun _ j _ => L.length - (intOf j).toNat)
  case atStart => exact ⟨i0, i0 + 1, L, by omega, by omega, rfl, by go_num, Lib.hid ⟨HM.out, rfl, HD.out, rfl, Touch.of_below HB.out⟩⟩
  case round =>
    obtain ⟨a, b, M, hab, hb, rfl, rfl, HJ⟩ := hrel
    have HPr := Lib.hid (show wr.cell? ⟨p, 0, none⟩ = some (.int .i64 nu) from (HJ.out.2.2.2.2.cell (p := ⟨p, 0, none⟩) zp (fun e => hpg (by obtain ⟨x, hx, rfl⟩ := e; cases hx; rfl))).trans HP.out)
    by_cases hlt : b < L.length
    · have hbM : b < M.length := by rw [HJ.out.2.1]; exact hlt
      have haM : a < M.length := by omega
      have c0 := HJ.out.1.cell hbM 0 rfl
      have c1 := HJ.out.1.cell hbM 1 rfl
      have c2 := HJ.out.1.cell hbM 2 rfl
      have c3 := HJ.out.1.cell hbM 3 rfl
      have hz : g < wr.heap.size := HJ.out.1.lt
      have HE := Lib.hid (Sx.del_at hlt HJ.out.2.2.2.1)
      rw [HE.out] at c0 c1 c2 c3
      have HT := Lib.hid (fun W (hW : Below wr.heap.size wr W) => ackT_c p (L.getD b default) nu W ((hW.cell (p := ⟨p, 0, none⟩) (World.block_lt_of_cell? _ _ HPr.out)).trans HPr.out))
      have k0 : (0 : Int) ≤ (b : Int) := by omega
      have k1 : (b : Int) < (L.length : Int) := by omega
      have k2 : (0 : Int) ≤ (a : Int) := by omega
      have k3 : (a : Int) < (L.length : Int) := by omega
      simp only [Nat.add_zero] at c0
      by_cases hd : (L.getD b default).n < nu
      · have HGo := Lib.hid (Sx.del_gone hlt hd)
        have hd' : decide ((L.getD b default).n < nu) = true := decide_eq_true hd
        rw [hd'] at HT
        clear hd hd'
        generalize L.getD b default = l at HT c0 c1 c2 c3
        go_wp2_with (go_at_call 80; refine (HT.out _ ((Below.refl _ _).alloc (Nat.le_refl _) _)).mono ?_; rintro e w2 ⟨rfl, hb2⟩; have HB2 := Lib.hid hb2; clear hb2)
        go_roundw
        case rel =>
          have hbb : Below wr.heap.size wr w2 := ((Below.refl _ _).alloc (Nat.le_refl _) _).trans (HB2.out.mono (by simp))
          exact ⟨a, b + 1, M, by omega, by omega, rfl, by go_num, Lib.hid ⟨HJ.out.1.below hbb, HJ.out.2.1, HJ.out.2.2.1.trans HGo.out.symm, Sx.drop_next HJ.out.2.2.2.1, HJ.out.2.2.2.2.below hbb⟩⟩
        case measure => simp [intOf]; omega
      · have HKe := Lib.hid (Sx.del_keep hlt HJ.out.2.1 hab hd HJ.out.2.2.1 HJ.out.2.2.2.1)
        have hd' : decide ((L.getD b default).n < nu) = false := decide_eq_false hd
        rw [hd'] at HT
        clear hd hd'
        generalize L.getD b default = l at HT c0 c1 c2 c3 HKe
        go_upto_region 9 with (go_at_call 80; refine (HT.out _ ((Below.refl _ _).alloc (Nat.le_refl _) _)).mono ?_; rintro e w2 ⟨rfl, hb2⟩; have HB2 := Lib.hid hb2; clear hb2)
        have hbb : Below wr.heap.size wr w2 := ((Below.refl _ _).alloc (Nat.le_refl _) _).trans (HB2.out.mono (by simp))
        have hr2 := HJ.out.1.below hbb
        have HR2 := Lib.hid hr2
        have HT2 := Lib.hid (HJ.out.2.2.2.2.below hbb)
        have t := (Blk.new' wr #[.int .i64 l.n, .int .i64 l.d, .int .i64 l.b, .int .i64 l.u] 43).touch (Touch.of_below (S := fun _ => False) HB2.out) (fun e => e)
        have t0 := t.cell 0 rfl
        have t1 := t.cell 1 rfl
        have t2 := t.cell 2 rfl
        have t3 := t.cell 3 rfl
        have b0 := hr2.cell haM 0 rfl
        have b1 := hr2.cell haM 1 rfl
        have b2 := hr2.cell haM 2 rfl
        have b3 := hr2.cell haM 3 rfl
        have y0 := hr2.free (a * 4)
        have y1 := hr2.free (a * 4 + 1)
        have y2 := hr2.free (a * 4 + 2)
        have y3 := hr2.free (a * 4 + 3)
        simp only [Nat.add_zero] at b0
        clear c0 c1 c2 c3 t hr2 hbb
        go_wp2_with fail
        exact ⟨⟨a + 1, b + 1, M.set a l, by omega, by omega, by go_num, by go_num, Lib.hid ⟨HR2.out.store haM l, by rw [List.length_set]; exact HJ.out.2.1, HKe.out.1, HKe.out.2, touch4 HT2.out _ _ _ _ _⟩⟩, by simp [intOf]; omega⟩
    · have e : b = L.length := by omega
      subst e
      have hML := HJ.out.2.1
      obtain ⟨vs, hcl⟩ := run_clear_ls wr g (a * 4) (L.length - a) (c - a) (by omega) (fun j hj => HJ.out.1.isSome (by omega)) (fun j => HJ.out.1.free j)
      have HF : Hid (M.take a = L.filter (Sx.kp nu)) := Lib.hid (by have := HJ.out.2.2.1; rwa [List.take_length] at this)
      have HLn : Hid ((L.filter (Sx.kp nu)).length = a) := Lib.hid (by rw [← HF.out, List.length_take]; omega)
      have k2 : (0 : Int) ≤ (a : Int) := by omega
      have k3 : (a : Int) ≤ (L.length : Int) := by omega
      have k4 : (a : Int) ≤ (c : Int) := by omega
      have k5 : (L.length : Int) ≤ (c : Int) := by omega
      go_wp2_with (simp only [hcl])
      go_ret
      have hcm2 := HJ.out.1.clear (i := a) (by omega) vs
      have hrow := hcm2.to_row hBg hcm (n := a) (by rw [List.length_take]; omega)
      rw [List.take_take, Nat.min_self, HF.out] at hrow
      exact ⟨by rw [HLn.out]; rfl, hrow, touch_setCells ⟨_, rfl, rfl⟩ vs _ _ HJ.out.2.2.2.2⟩
end Go.Proofs.Ytafajclbghofkaa
