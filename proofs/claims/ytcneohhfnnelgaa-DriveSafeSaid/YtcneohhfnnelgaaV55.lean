/- The contract of ends of coulombref06. The contract of possible of coulombref06. The contracts of allowed and Allowed of coulombref06 and of Allowed of drive. The contracts of Allowed of drive and of coulombref06. -/
import Derived.Test.YtcneohhfnnelgaaV52
import Derived.Test.YtcneohhfnnelgaaH2
import Derived.OwnWalk
import Derived.Test.YtcneohhfnnelgaaRA
namespace Go.Proofs.Ytcneohhfnnelgaa
open Go.RowKit
set_option linter.unusedVariables false

theorem infoTwo : (Try.prog.info? 2).map (fun i => (i.zero, i.size, i.bytes)) = some (some (.int .i64 0), 1, 8) := by kernel_rfl
theorem ownOn {P : World} {w w' : World} {B n cap : Nat} {A : Option Addr} {xs : List Value} (h : w.ownsRow B 2 1 (.slice A n cap) n xs) (hb : Below w.heap.size w w') : w'.ownsRow B 2 1 (.slice A n cap) n xs := by
  refine ⟨h.1, ?_⟩
  rcases h.2 with h2 | ⟨k, c, cur, hv, hb', hg, r⟩
  · exact .inl h2
  · cases hv
    exact .inr ⟨k, cap, cur, rfl, hb', by rw [hb.block k (Array.getElem?_eq_some_iff.1 hg).1]; exact hg, r⟩
theorem ownInts {w : World} {B n cap : Nat} {A : Option Addr} {ys : List Int} (h : w.ownsRow B 2 1 (.slice A n cap) n (ys.map (Value.int .i64))) : IntsAt w A ys := by
  intro i hi
  rcases h.2 with ⟨h2, hn⟩ | ⟨g, c, cur, hv, hb, hg, r⟩
  · have := h.1
    simp at this
    omega
  · cases hv
    have hc := World.ownsRow.cells (g := g) h rfl i (.int .i64 (ys.getD i 0)) (by simp [List.getD, hi])
    exact ⟨_, rfl, hc⟩

theorem ownGe {w : World} {B n cap : Nat} {A : Option Addr} {xs : List Value} (h : w.ownsRow B 2 1 (.slice A n cap) n xs) {k : Nat} (hk : (Value.slice A n cap).ownBlock = some k) : B ≤ k := by
  rcases h.2 with ⟨h2, _⟩ | ⟨g, c, cur, hv, hb, _⟩
  · cases h2; cases hk
  · cases hv; cases hk; exact hb
theorem Blk.cellOne {W : World} {g : Nat} {t : TypeId} {v : Value} (h : Blk W g t [v]) (j : Nat) (u : Value) (hu : [v][j]? = some u) : W.cell? ((⟨g, 0, none⟩ : Addr).add j) = some u := by
  cases j with
  | zero => cases hu; exact h.cell 0 rfl
  | succ j => cases hu

theorem own_grown {w w' : World} {row : Option Nat} {B n cap : Nat} {A : Option Addr} {xs : List Value} (h : w.ownsRow B 2 1 (.slice A n cap) n xs) (hg : w.grownBy w' row) (hne : ∀ k, OwnB A k → some k ≠ row) : w'.ownsRow B 2 1 (.slice A n cap) n xs := by
  refine ⟨h.1, ?_⟩
  rcases h.2 with h2 | ⟨k, c, cur, hv, hb', hgk, r⟩
  · exact .inl h2
  · cases hv
    exact .inr ⟨k, cap, cur, rfl, hb', by rw [hg.block k (Array.getElem?_eq_some_iff.1 hgk).1 (hne k ⟨_, rfl, rfl⟩)]; exact hgk, r⟩
theorem own_lt {w : World} {B n cap : Nat} {A : Option Addr} {xs : List Value} (h : w.ownsRow B 2 1 (.slice A n cap) n xs) {k : Nat} (hk : OwnB A k) : k < w.heap.size ∧ B ≤ k := by
  obtain ⟨a, rfl, rfl⟩ := hk
  rcases h.2 with ⟨h2, _⟩ | ⟨g, c, cur, hv, hb, hg, _⟩
  · cases h2
  · cases hv
    exact ⟨(Array.getElem?_eq_some_iff.1 hg).1, hb⟩
theorem St.grown {w W W' : World} {l : List BlkRow} {row : Option Nat} (h : St w l W) (hg : W.grownBy W' row) (hr : ∀ k, row = some k → w.heap.size ≤ k ∧ ∀ x, x ∈ l → x.1 ≠ k) : St w l W' :=
  ⟨h.1.grown hg h.1.size (fun k hk => (hr k hk).1), fun x hx => (h.2.1 x hx).grown hg (fun e => (hr _ e.symm).2 x hx rfl), h.2.2⟩

/-- the two rows that ends makes -/
structure EnW (w : World) (m : Mot) (A1 A2 : Option Addr) (k c1 c2 : Nat) (xs ys : List Int) (W : World) : Prop where
  st : St w [(w.heap.size + 1 + 1, 52, [.int .i64 mot0.r, .int .i64 mot0.ld, .int .i64 mot0.lq, .int .i64 mot0.fx, .int .i64 mot0.po, .int .i64 mot0.mi, .int .i64 mot0.sp, .int .i64 mot0.dr, .int .i64 mot0.cu, .int .i64 mot0.fa]), (w.heap.size + 1, 52, [.int .i64 mot0.r, .int .i64 mot0.ld, .int .i64 mot0.lq, .int .i64 mot0.fx, .int .i64 mot0.po, .int .i64 mot0.mi, .int .i64 mot0.sp, .int .i64 mot0.dr, .int .i64 mot0.cu, .int .i64 mot0.fa]), (w.heap.size, 52, [.int .i64 m.r, .int .i64 m.ld, .int .i64 m.lq, .int .i64 m.fx, .int .i64 m.po, .int .i64 m.mi, .int .i64 m.sp, .int .i64 m.dr, .int .i64 m.cu, .int .i64 m.fa])] W
  own1 : W.ownsRow (w.heap.size + 3) 2 1 (.slice A1 k c1) k (xs.map (Value.int .i64))
  own2 : W.ownsRow (w.heap.size + 3) 2 1 (.slice A2 k c2) k (ys.map (Value.int .i64))
  dis : ∀ b, OwnB A1 b → ¬ OwnB A2 b
theorem EnW.size {w : World} {m : Mot} {A1 A2 : Option Addr} {k c1 c2 : Nat} {xs ys : List Int} {W : World} (h : EnW w m A1 A2 k c1 c2 xs ys W) : w.heap.size + 3 ≤ W.heap.size := by
  have := (h.st.get 0 rfl).lt
  omega
theorem ids3 {w : World} {a b c : List Value} {k : Nat} (hk : w.heap.size + 3 ≤ k) : ∀ x : BlkRow, x ∈ [(w.heap.size + 1 + 1, 52, a), (w.heap.size + 1, 52, b), (w.heap.size, 52, c)] → x.1 ≠ k := by
  intro x hx e
  simp only [List.mem_cons, List.not_mem_nil, or_false] at hx
  rcases hx with rfl | rfl | rfl <;> (simp only at e; omega)
theorem own_row {A : Option Addr} {n cap k : Nat} (h : (Value.slice A n cap).ownBlock = some k) : OwnB A k := ownB_iff.2 h

set_option maxHeartbeats 4000000 in
set_option maxRecDepth 100000 in
theorem ends_r (m : Mot) (A : Option Addr) (s0 s1 s2 s3 s4 : Sp) (cap : Nat) (w : World) (hx : SpAt w A [s0, s1, s2, s3, s4]) (hm : Dv.chk m) (v0 : Dv.spV s0 = true) (v1 : Dv.spV s1 = true) (v2 : Dv.spV s2 = true) (v3 : Dv.spV s3 = true) :
    Calls Try.prog 113 #[.agg #[.int .i64 m.r, .int .i64 m.ld, .int .i64 m.lq, .int .i64 m.fx, .int .i64 m.po, .int .i64 m.mi, .int .i64 m.sp, .int .i64 m.dr, .int .i64 m.cu, .int .i64 m.fa], .slice A 5 cap] w fun e w' => e = .returned (.tuple #[.agg #[.int .i64 (m.plus s0.lo s1.lo s2.lo s3.lo).r, .int .i64 (m.plus s0.lo s1.lo s2.lo s3.lo).ld, .int .i64 (m.plus s0.lo s1.lo s2.lo s3.lo).lq, .int .i64 (m.plus s0.lo s1.lo s2.lo s3.lo).fx, .int .i64 m.po, .int .i64 m.mi, .int .i64 m.sp, .int .i64 m.dr, .int .i64 m.cu, .int .i64 m.fa], .agg #[.int .i64 (m.plus s0.hi s1.hi s2.hi s3.hi).r, .int .i64 (m.plus s0.hi s1.hi s2.hi s3.hi).ld, .int .i64 (m.plus s0.hi s1.hi s2.hi s3.hi).lq, .int .i64 (m.plus s0.hi s1.hi s2.hi s3.hi).fx, .int .i64 m.po, .int .i64 m.mi, .int .i64 m.sp, .int .i64 m.dr, .int .i64 m.cu, .int .i64 m.fa]]) ∧ Below w.heap.size w w' := by
  have q0 := spV_bd v0
  have q1 := spV_bd v1
  have q2 := spV_bd v2
  have q3 := spV_bd v3
  have HQ := Lib.hid (And.intro q0 (And.intro q1 (And.intro q2 q3)))
  clear q0 q1 q2 q3 v0 v1 v2 v3
  have HX := Lib.hid hx
  have HM := Lib.hid hm
  clear hx hm
  obtain ⟨i0, hi, hz0, hz1, hz2⟩ := info_parts infoTwo
  have S0 : Hid (St w [(w.heap.size + 1 + 1, 52, [.int .i64 mot0.r, .int .i64 mot0.ld, .int .i64 mot0.lq, .int .i64 mot0.fx, .int .i64 mot0.po, .int .i64 mot0.mi, .int .i64 mot0.sp, .int .i64 mot0.dr, .int .i64 mot0.cu, .int .i64 mot0.fa]), (w.heap.size + 1, 52, [.int .i64 mot0.r, .int .i64 mot0.ld, .int .i64 mot0.lq, .int .i64 mot0.fx, .int .i64 mot0.po, .int .i64 mot0.mi, .int .i64 mot0.sp, .int .i64 mot0.dr, .int .i64 mot0.cu, .int .i64 mot0.fa]), (w.heap.size, 52, [.int .i64 m.r, .int .i64 m.ld, .int .i64 m.lq, .int .i64 m.fx, .int .i64 m.po, .int .i64 m.mi, .int .i64 m.sp, .int .i64 m.dr, .int .i64 m.cu, .int .i64 m.fa])] (((w.alloc (.cells #[.int .i64 m.r, .int .i64 m.ld, .int .i64 m.lq, .int .i64 m.fx, .int .i64 m.po, .int .i64 m.mi, .int .i64 m.sp, .int .i64 m.dr, .int .i64 m.cu, .int .i64 m.fa] 52)).alloc (.cells #[.int .i64 0, .int .i64 0, .int .i64 0, .int .i64 0, .int .i64 0, .int .i64 0, .int .i64 0, .int .i64 0, .int .i64 0, .int .i64 0] 52)).alloc (.cells #[.int .i64 0, .int .i64 0, .int .i64 0, .int .i64 0, .int .i64 0, .int .i64 0, .int .i64 0, .int .i64 0, .int .i64 0, .int .i64 0] 52))) := Lib.hid (by
    have := (((St.start w).alloc [.int .i64 m.r, .int .i64 m.ld, .int .i64 m.lq, .int .i64 m.fx, .int .i64 m.po, .int .i64 m.mi, .int .i64 m.sp, .int .i64 m.dr, .int .i64 m.cu, .int .i64 m.fa] 52).alloc [.int .i64 mot0.r, .int .i64 mot0.ld, .int .i64 mot0.lq, .int .i64 mot0.fx, .int .i64 mot0.po, .int .i64 mot0.mi, .int .i64 mot0.sp, .int .i64 mot0.dr, .int .i64 mot0.cu, .int .i64 mot0.fa] 52).alloc [.int .i64 mot0.r, .int .i64 mot0.ld, .int .i64 mot0.lq, .int .i64 mot0.fx, .int .i64 mot0.po, .int .i64 mot0.mi, .int .i64 mot0.sp, .int .i64 mot0.dr, .int .i64 mot0.cu, .int .i64 mot0.fa] 52
    simp at this
    exact this)
  go_enter Try.func113, Try.ntmps113
  go_wp2
  go_loopw [6, 7, 8] (fun o p i wr => ∃ (k : Nat) (A1 A2 : Option Addr) (c1 c2 : Nat), k ≤ 4 ∧ i = .int .i64 k ∧ o = .slice A1 k c1 ∧ p = .slice A2 k c2 ∧ Hid (EnW w m A1 A2 k c1 c2 ([s0.lo, s1.lo, s2.lo, s3.lo, s4.lo].take k) ([s0.hi, s1.hi, s2.hi, s3.hi, s4.hi].take k) wr)) (fun _ _ i _ => 4 - (intOf i).toNat)
  case atStart => exact ⟨0, none, none, 0, 0, by omega, rfl, rfl, rfl, Lib.hid ⟨S0.out, World.ownsRow_nil _ _ _ _, World.ownsRow_nil _ _ _ _, fun b ⟨a, h, _⟩ => by cases h⟩⟩
  case round =>
    obtain ⟨k, A1, A2, c1, c2, hk, rfl, rfl, rfl, HW⟩ := hrel
    by_cases hlt : k < 4
    · have hl5 : k < [s0, s1, s2, s3, s4].length := by simp; omega
      obtain ⟨ad, rfl, z1, x0, x1⟩ := (HX.out.below HW.out.st.1) k hl5
      have HT1 := Lib.hid (show [s0.lo, s1.lo, s2.lo, s3.lo, s4.lo].take (k + 1) = [s0.lo, s1.lo, s2.lo, s3.lo, s4.lo].take k ++ [([s0, s1, s2, s3, s4].getD k default).lo] from by
        match k, hlt with
        | 0, _ => rfl
        | 1, _ => rfl
        | 2, _ => rfl
        | 3, _ => rfl)
      have HT2 := Lib.hid (show [s0.hi, s1.hi, s2.hi, s3.hi, s4.hi].take (k + 1) = [s0.hi, s1.hi, s2.hi, s3.hi, s4.hi].take k ++ [([s0, s1, s2, s3, s4].getD k default).hi] from by
        match k, hlt with
        | 0, _ => rfl
        | 1, _ => rfl
        | 2, _ => rfl
        | 3, _ => rfl)
      generalize [s0, s1, s2, s3, s4].getD k default = s at x0 x1 HT1 HT2
      generalize [s0.lo, s1.lo, s2.lo, s3.lo, s4.lo].take k = xs at HW HT1
      generalize [s0.hi, s1.hi, s2.hi, s3.hi, s4.hi].take k = ys at HW HT2
      have HZ := Lib.hid (show ad.block < w.heap.size from by
        obtain ⟨ad', e', hz, _⟩ := HX.out 0 (by simp)
        cases e'
        exact hz)
      have HC := Lib.hid x1
      clear hl5 x1
      go_upto_region 6 with (at_builtin; refine wpList_append_any (.tmp 13) (.tmp 19) 45 rfl rfl (w.heap.size + 3) 2 i0 (.int .i64 0) 1 8 Try.underlying45 hi hz0 hz1 hz2 rfl (by decide) A1 k c1 (xs.map (Value.int .i64)) (by rfl) (ownOn (P := wr) HW.out.own1 ((Below.refl _ _).alloc (Nat.le_refl _) _)) (some ⟨wr.heap.size, 0, none⟩) 1 1 [.int .i64 s.lo] (by rfl) rfl (.inr ⟨_, rfl, fun j u hu => (Blk.new' wr #[.int .i64 s.lo] 2).cellOne j u hu⟩) (by simp [Value.oneCell']) (by unfold maxLen; omega) (by omega) (by have := HW.out.size; simp; omega) ?_; intro A3 c3 w2 hown2 hgrow2 hat2; have HO2 := Lib.hid hown2; have HG2 := Lib.hid hgrow2; have HAT2 := Lib.hid hat2; clear hown2 hgrow2 hat2)
      have HW2 : Hid (EnW w m A3 A2 k c3 c2 xs ys w2 ∨ True) := Lib.hid (.inr trivial)
      have st1 : St w [(w.heap.size + 1 + 1, 52, [.int .i64 mot0.r, .int .i64 mot0.ld, .int .i64 mot0.lq, .int .i64 mot0.fx, .int .i64 mot0.po, .int .i64 mot0.mi, .int .i64 mot0.sp, .int .i64 mot0.dr, .int .i64 mot0.cu, .int .i64 mot0.fa]), (w.heap.size + 1, 52, [.int .i64 mot0.r, .int .i64 mot0.ld, .int .i64 mot0.lq, .int .i64 mot0.fx, .int .i64 mot0.po, .int .i64 mot0.mi, .int .i64 mot0.sp, .int .i64 mot0.dr, .int .i64 mot0.cu, .int .i64 mot0.fa]), (w.heap.size, 52, [.int .i64 m.r, .int .i64 m.ld, .int .i64 m.lq, .int .i64 m.fx, .int .i64 m.po, .int .i64 m.mi, .int .i64 m.sp, .int .i64 m.dr, .int .i64 m.cu, .int .i64 m.fa])] w2 := (HW.out.st.below ((Below.refl _ _).alloc (Nat.le_refl _) _)).grown HG2.out (fun q hq => by
        have hb := own_lt HW.out.own1 (own_row hq)
        exact ⟨by omega, ids3 hb.2⟩)
      have o2 : w2.ownsRow (w.heap.size + 3) 2 1 (.slice A2 k c2) k (ys.map (Value.int .i64)) := own_grown (ownOn (P := wr) HW.out.own2 ((Below.refl _ _).alloc (Nat.le_refl _) _)) HG2.out (fun q hq e => HW.out.dis q (own_row e.symm) hq)
      have d2 : ∀ b, OwnB A3 b → ¬ OwnB A2 b := fun b hb hb2 => by
        rcases HAT2.out b hb with h | h
        · exact HW.out.dis b h hb2
        · have := (own_lt HW.out.own2 hb2).1
          simp at h
          omega
      have ST1 := Lib.hid st1
      have O2 := Lib.hid o2
      have D2 := Lib.hid d2
      have x1 : w2.cell? ⟨(ad.add (k * 2)).block, (ad.add (k * 2)).off + 1, none⟩ = some (.int .i64 s.hi) := by
        have hbl : (ad.add (k * 2)).block < w.heap.size := by rw [block_add]; exact HZ.out
        have h1 := HW.out.st.1.cell (p := ⟨(ad.add (k * 2)).block, (ad.add (k * 2)).off + 1, none⟩) hbl
        have h2 := st1.1.cell (p := ⟨(ad.add (k * 2)).block, (ad.add (k * 2)).off + 1, none⟩) hbl
        rw [h2, ← h1]
        exact HC.out
      have z2 : ad.block < w2.heap.size := Nat.lt_of_lt_of_le HZ.out st1.1.size
      clear st1 o2 d2 x0 z1 HW2
      go_wp2_with (at_builtin; refine wpList_append_any (.tmp 21) (.tmp 27) 45 rfl rfl (w.heap.size + 3) 2 i0 (.int .i64 0) 1 8 Try.underlying45 hi hz0 hz1 hz2 rfl (by decide) A2 k c2 (ys.map (Value.int .i64)) (by rfl) (ownOn (P := w2) O2.out ((Below.refl _ _).alloc (Nat.le_refl _) _)) (some ⟨w2.heap.size, 0, none⟩) 1 1 [.int .i64 s.hi] (by rfl) rfl (.inr ⟨_, rfl, fun j u hu => (Blk.new' w2 #[.int .i64 s.hi] 2).cellOne j u hu⟩) (by simp [Value.oneCell']) (by unfold maxLen; omega) (by omega) (by have := (ST1.out.get 0 rfl).lt; simp; omega) ?_; intro A4 c4 w3 hown3 hgrow3 hat3; have HO3 := Lib.hid hown3; have HG3 := Lib.hid hgrow3; have HAT3 := Lib.hid hat3; clear hown3 hgrow3 hat3)
      have E : Hid (EnW w m A3 A4 (k + 1) c3 c4 (xs ++ [s.lo]) (ys ++ [s.hi]) w3) := Lib.hid ⟨(ST1.out.below ((Below.refl _ _).alloc (Nat.le_refl _) _)).grown HG3.out (fun q hq => by
          have hb := own_lt O2.out (own_row hq)
          exact ⟨by omega, ids3 hb.2⟩),
        by rw [List.map_append]; exact own_grown (ownOn (P := w2) HO2.out ((Below.refl _ _).alloc (Nat.le_refl _) _)) HG3.out (fun q hq e => D2.out q hq (own_row e.symm)),
        by rw [List.map_append]; exact HO3.out,
        fun b hb hb2 => by
          rcases HAT3.out b hb2 with h | h
          · exact D2.out b hb h
          · have := (own_lt HO2.out hb).1
            simp at h
            omega⟩
      go_wp2
      go_roundw
      case rel => exact ⟨k + 1, A3, A4, c3, c4, by omega, by go_num, rfl, rfl, by rw [HT1.out, HT2.out]; exact E⟩
      case measure => simp [intOf]; omega
    · obtain rfl : k = 4 := by omega
      have ia1 := ownInts (n := 4) HW.out.own1
      have ia2 := ownInts (n := 4) HW.out.own2
      obtain ⟨a1, rfl, h1⟩ := IntsAt.four (a := s0.lo) (b := s1.lo) (c := s2.lo) (d := s3.lo) ia1
      obtain ⟨a2, rfl, h2⟩ := IntsAt.four (a := s0.hi) (b := s1.hi) (c := s2.hi) (d := s3.hi) ia2
      have H1 := Lib.hid h1
      have H2 := Lib.hid h2
      have ST := Lib.hid HW.out.st
      clear HW h1 h2 ia1 ia2
      have KP1 := Lib.hid (show ∀ V : World, Below wr.heap.size wr V → Calls Try.prog 107 #[.agg #[.int .i64 m.r, .int .i64 m.ld, .int .i64 m.lq, .int .i64 m.fx, .int .i64 m.po, .int .i64 m.mi, .int .i64 m.sp, .int .i64 m.dr, .int .i64 m.cu, .int .i64 m.fa], .slice (some a1) 4 c1] V fun e w' => e = .returned (.agg #[.int .i64 (m.plus s0.lo s1.lo s2.lo s3.lo).r, .int .i64 (m.plus s0.lo s1.lo s2.lo s3.lo).ld, .int .i64 (m.plus s0.lo s1.lo s2.lo s3.lo).lq, .int .i64 (m.plus s0.lo s1.lo s2.lo s3.lo).fx, .int .i64 m.po, .int .i64 m.mi, .int .i64 m.sp, .int .i64 m.dr, .int .i64 m.cu, .int .i64 m.fa]) ∧ Below V.heap.size V w' from fun V hV => plus_c m s0.lo s1.lo s2.lo s3.lo a1 c1 V HM.out (H1.out.below hV H1.out.1) HQ.out.1.1 HQ.out.2.1.1 HQ.out.2.2.1.1 HQ.out.2.2.2.1)
      have KP2 := Lib.hid (show ∀ V : World, Below wr.heap.size wr V → Calls Try.prog 107 #[.agg #[.int .i64 m.r, .int .i64 m.ld, .int .i64 m.lq, .int .i64 m.fx, .int .i64 m.po, .int .i64 m.mi, .int .i64 m.sp, .int .i64 m.dr, .int .i64 m.cu, .int .i64 m.fa], .slice (some a2) 4 c2] V fun e w' => e = .returned (.agg #[.int .i64 (m.plus s0.hi s1.hi s2.hi s3.hi).r, .int .i64 (m.plus s0.hi s1.hi s2.hi s3.hi).ld, .int .i64 (m.plus s0.hi s1.hi s2.hi s3.hi).lq, .int .i64 (m.plus s0.hi s1.hi s2.hi s3.hi).fx, .int .i64 m.po, .int .i64 m.mi, .int .i64 m.sp, .int .i64 m.dr, .int .i64 m.cu, .int .i64 m.fa]) ∧ Below V.heap.size V w' from fun V hV => plus_c m s0.hi s1.hi s2.hi s3.hi a2 c2 V HM.out (H2.out.below hV H2.out.1) HQ.out.1.2.1 HQ.out.2.1.2.1 HQ.out.2.2.1.2.1 HQ.out.2.2.2.2.1)
      clear H1 H2
      go_wp2_with fail
      refine wp_region_priv 6 [.q, .q, .q, .q, .q, .q] (fun _ => (.cells #[] 29, fun b => .pointer none)) ?af (by kernel_rfl) (by kernel_rfl) ?walk ?tail
      case walk =>
        intro V hV
        have IV := Lib.hid (ST.out.below hV)
        have zz := (IV.out.get 2 rfl).lt
        obtain ⟨e0, e1, e2, e3, e4, e5, e6, e7, e8, e9⟩ := motOf (m := m) (IV.out.get 2 rfl)
        have HV := Lib.hid (show ∀ x : Past V, Below wr.heap.size wr x.w from fun x => hV.trans (x.far.mono hV.size))
        clear hV
        simp only [List.take_succ_cons, List.take_zero]
        repeat (refine wpP_q ?_; go_big_quiet_step (first | (go_at_call 107; with_reducible exact past_below (KP1.out _ (HV.out _))) | (go_at_call 107; with_reducible exact past_below (KP2.out _ (HV.out _)))); refine wpQuiet_nil ?_)
        refine wpP_nil ?_
        rfl
      case tail =>
      intro gs w3 hb3 _ _
      have S3 := Lib.hid (ST.out.below hb3)
      clear hb3 ST
      simp only [List.drop_succ_cons, List.drop_zero, List.take_succ_cons, List.take_zero, fillP]
      have zz := (S3.out.get 0 rfl).lt
      obtain ⟨e0, e1, e2, e3, e4, e5, e6, e7, e8, e9⟩ := motOf (m := mot0) (S3.out.get 0 rfl)
      obtain ⟨d0, d1, d2, d3, d4, d5, d6, d7, d8, d9⟩ := motOf (m := mot0) (S3.out.get 1 rfl)
      obtain ⟨f0, f1, f2, f3, f4, f5, f6, f7, f8, f9⟩ := freeMot (m := mot0) (S3.out.get 0 rfl)
      obtain ⟨g0, g1, g2, g3, g4, g5, g6, g7, g8, g9⟩ := freeMot (m := mot0) (S3.out.get 1 rfl)
      go_wp2
      exact bodyPost_ret (v := .tuple #[.agg #[.int .i64 (m.plus s0.lo s1.lo s2.lo s3.lo).r, .int .i64 (m.plus s0.lo s1.lo s2.lo s3.lo).ld, .int .i64 (m.plus s0.lo s1.lo s2.lo s3.lo).lq, .int .i64 (m.plus s0.lo s1.lo s2.lo s3.lo).fx, .int .i64 m.po, .int .i64 m.mi, .int .i64 m.sp, .int .i64 m.dr, .int .i64 m.cu, .int .i64 m.fa], .agg #[.int .i64 (m.plus s0.hi s1.hi s2.hi s3.hi).r, .int .i64 (m.plus s0.hi s1.hi s2.hi s3.hi).ld, .int .i64 (m.plus s0.hi s1.hi s2.hi s3.hi).lq, .int .i64 (m.plus s0.hi s1.hi s2.hi s3.hi).fx, .int .i64 m.po, .int .i64 m.mi, .int .i64 m.sp, .int .i64 m.dr, .int .i64 m.cu, .int .i64 m.fa]]) (by simp [results, Try.results113, go_sem, e0, e1, e2, e3, e4, e5, e6, e7, e8, e9, d0, d1, d2, d3, d4, d5, d6, d7, d8, d9]) rfl ⟨rfl, below_put10 (below_put10 S3.out.1 (by omega) _ _ _ _ _ _ _ _ _ _) (by omega) _ _ _ _ _ _ _ _ _ _⟩
end Go.Proofs.Ytcneohhfnnelgaa
namespace Go.Proofs.Ytcneohhfnnelgaa
open Go.RowKit
set_option linter.unusedVariables false

theorem quantity_is (x : Int) (b : Bool) (h : upB 1099511627776 [x] = b) (w : World) : Calls Try.prog 78 #[.int .i64 x] w fun e w' => e = .returned (.bool b) ∧ w = w' :=
  (quantity_c x w).mono fun _ _ ⟨h1, h2⟩ => ⟨by rw [h1, h], h2⟩
theorem speed_is (x : Int) (b : Int) (h : Dv.spE x = b) (w : World) : Calls Try.prog 98 #[.int .i64 x] w fun e w' => e = .returned (.int .i64 b) ∧ w = w' :=
  (speed_c x w).mono fun _ _ ⟨h1, h2⟩ => ⟨by rw [h1, h], h2⟩
theorem spanB_of {lo hi : Int} {b : Bool} (h : (upB 1099511627776 [lo] && (upB 1099511627776 [hi] && decide (lo ≤ hi))) = b) : Dv.spanB lo hi = b := by
  rw [← h]
  unfold Dv.spanB
  rw [show upB 1099511627776 [lo, hi] = (upB 1099511627776 [lo] && upB 1099511627776 [hi]) by simp [upB], Bool.and_assoc]
/-- a span of the five is not valid -/
theorem lmE_bad {m : Mot} {l : List Sp} {k : Nat} (hk : k < l.length) (h : Dv.spanB (l.getD k default).lo (l.getD k default).hi = false) : Dv.lmE m l = 2 := by
  unfold Dv.lmE
  rw [if_neg]
  intro ha
  unfold Dv.lmA at ha
  simp only [Bool.and_eq_true, List.all_eq_true] at ha
  have hm : l.getD k default ∈ l := by
    rw [List.getD_eq_getElem?_getD, List.getElem?_eq_getElem hk]
    exact List.getElem_mem _
  have := ha.2.2 _ hm
  unfold Dv.spV at this
  rw [h] at this
  cases this
theorem lmE_five {m : Mot} {s0 s1 s2 s3 s4 : Sp} (hC : Dv.chkB m = true) (v : ∀ j, j < 5 → Dv.spV ([s0, s1, s2, s3, s4].getD j default) = true) :
    Dv.lmE m [s0, s1, s2, s3, s4] = if (Dv.chkB (m.plus s0.lo s1.lo s2.lo s3.lo) && (Dv.chkB (m.plus s0.hi s1.hi s2.hi s3.hi) && upB 16384 [s4.lo, s4.hi])) = true then 0 else 3 := by
  have ha : Dv.lmA m [s0, s1, s2, s3, s4] = true := by
    unfold Dv.lmA
    rw [hC]
    simp only [List.all_cons, List.all_nil]
    rw [show Dv.spV s0 = true from v 0 (by omega), show Dv.spV s1 = true from v 1 (by omega), show Dv.spV s2 = true from v 2 (by omega), show Dv.spV s3 = true from v 3 (by omega), show Dv.spV s4 = true from v 4 (by omega)]
    rfl
  unfold Dv.lmE
  rw [if_pos ha]
  rfl

set_option maxHeartbeats 1000000 in
theorem possible_no1 (m : Mot) (A : Option Addr) (n cap : Nat) (w : World) (hC : Dv.chkB m = false) :
    Calls Try.prog 110 #[.agg #[.int .i64 m.r, .int .i64 m.ld, .int .i64 m.lq, .int .i64 m.fx, .int .i64 m.po, .int .i64 m.mi, .int .i64 m.sp, .int .i64 m.dr, .int .i64 m.cu, .int .i64 m.fa], .slice A n cap] w fun e w' => e = .returned (.int .i64 2) ∧ Below w.heap.size w w' := by
  go_enter Try.func110, Try.ntmps110
  go_wp2_with fail
  refine (CheckR_no m _ hC).mono ?_
  rintro e w1 ⟨rfl, hb1⟩
  have HB := Lib.hid (((Below.refl w.heap.size w).alloc (Nat.le_refl _) (.cells #[.int .i64 m.r, .int .i64 m.ld, .int .i64 m.lq, .int .i64 m.fx, .int .i64 m.po, .int .i64 m.mi, .int .i64 m.sp, .int .i64 m.dr, .int .i64 m.cu, .int .i64 m.fa] 52)).trans (hb1.mono (by simp)))
  clear hb1
  go_wp2
  go_ret
  exact ⟨rfl, HB.out⟩
set_option maxHeartbeats 1000000 in
theorem possible_no2 (m : Mot) (A : Option Addr) (n cap : Nat) (w : World) (hC : Dv.chkB m = true) (hl : ((n : Int) != 5) = true) :
    Calls Try.prog 110 #[.agg #[.int .i64 m.r, .int .i64 m.ld, .int .i64 m.lq, .int .i64 m.fx, .int .i64 m.po, .int .i64 m.mi, .int .i64 m.sp, .int .i64 m.dr, .int .i64 m.cu, .int .i64 m.fa], .slice A n cap] w fun e w' => e = .returned (.int .i64 2) ∧ Below w.heap.size w w' := by
  go_enter Try.func110, Try.ntmps110
  go_wp2_with fail
  refine (CheckR_yes m _ hC).mono ?_
  rintro e w1 ⟨rfl, hb1⟩
  have HB := Lib.hid (((Below.refl w.heap.size w).alloc (Nat.le_refl _) (.cells #[.int .i64 m.r, .int .i64 m.ld, .int .i64 m.lq, .int .i64 m.fx, .int .i64 m.po, .int .i64 m.mi, .int .i64 m.sp, .int .i64 m.dr, .int .i64 m.cu, .int .i64 m.fa] 52)).trans (hb1.mono (by simp)))
  clear hb1
  go_wp2
  go_ret
  exact ⟨rfl, HB.out⟩

set_option maxHeartbeats 4000000 in
set_option maxRecDepth 100000 in
theorem possible_go (m : Mot) (A : Option Addr) (s0 s1 s2 s3 s4 : Sp) (cap : Nat) (w : World) (hx : SpAt w A [s0, s1, s2, s3, s4]) (hC : Dv.chkB m = true) :
    Calls Try.prog 110 #[.agg #[.int .i64 m.r, .int .i64 m.ld, .int .i64 m.lq, .int .i64 m.fx, .int .i64 m.po, .int .i64 m.mi, .int .i64 m.sp, .int .i64 m.dr, .int .i64 m.cu, .int .i64 m.fa], .slice A 5 cap] w fun e w' => e = .returned (.int .i64 (Dv.lmE m [s0, s1, s2, s3, s4])) ∧ Below w.heap.size w w' := by
  have HX := Lib.hid hx
  have HC := Lib.hid hC
  clear hx
  obtain ⟨ad, hA, i5⟩ := HX.out.five
  subst hA
  have H5 := Lib.hid i5
  clear i5
  generalize hE : Dv.lmE m [s0, s1, s2, s3, s4] = E
  have HE0 := Lib.hid hE
  clear hE
  go_enter Try.func110, Try.ntmps110
  go_wp2_with fail
  refine (CheckR_yes m _ hC).mono ?_
  rintro e w1 ⟨rfl, hb1⟩
  have S1 := Lib.hid (((St.start w).alloc [.int .i64 m.r, .int .i64 m.ld, .int .i64 m.lq, .int .i64 m.fx, .int .i64 m.po, .int .i64 m.mi, .int .i64 m.sp, .int .i64 m.dr, .int .i64 m.cu, .int .i64 m.fa] 52).below hb1)
  clear hb1 hC
  go_wp2_with fail
  go_loopw [5] (fun i wr => ∃ k : Nat, k ≤ 5 ∧ i = .int .i64 k ∧ Hid (St w [(w.heap.size, 52, [.int .i64 m.r, .int .i64 m.ld, .int .i64 m.lq, .int .i64 m.fx, .int .i64 m.po, .int .i64 m.mi, .int .i64 m.sp, .int .i64 m.dr, .int .i64 m.cu, .int .i64 m.fa])] wr ∧ ∀ j, j < k → Dv.spV ([s0, s1, s2, s3, s4].getD j default) = true)) (fun i _ => 5 - (intOf i).toNat)
  case atStart => exact ⟨0, by omega, rfl, Lib.hid ⟨S1.out, fun j hj => absurd hj (Nat.not_lt_zero _)⟩⟩
  case round =>
    obtain ⟨k, hk, rfl, HW⟩ := hrel
    by_cases hlt : k < 5
    · obtain ⟨ad', e', z1, x0, x1⟩ := (HX.out.below HW.out.1.1) k hlt
      cases e'
      have HN := Lib.hid (show Dv.spanB ([s0, s1, s2, s3, s4].getD k default).lo ([s0, s1, s2, s3, s4].getD k default).hi = false → Dv.lmE m [s0, s1, s2, s3, s4] = 2 from fun hf => lmE_bad hlt hf)
      have HY := Lib.hid (show Dv.spanB ([s0, s1, s2, s3, s4].getD k default).lo ([s0, s1, s2, s3, s4].getD k default).hi = true → ∀ j, j < k + 1 → Dv.spV ([s0, s1, s2, s3, s4].getD j default) = true from fun ht j hj => by
        by_cases hjk : j = k
        · subst hjk; exact ht
        · exact HW.out.2 j (by omega))
      have HS := Lib.hid HW.out.1
      clear HW
      generalize [s0, s1, s2, s3, s4].getD k default = s at x0 x1 HN HY
      have HP := Lib.hid (show ∀ x : Past wr, x.w.cell? (ad.add (k * 2)) = some (.int .i64 s.lo) ∧ x.w.cell? ⟨(ad.add (k * 2)).block, (ad.add (k * 2)).off + 1, none⟩ = some (.int .i64 s.hi) ∧ ad.block < x.w.heap.size from fun x => ⟨(x.far.cell (by rw [block_add]; exact z1)).trans x0, (x.far.cell (p := ⟨_, _, none⟩) (by show (ad.add (k * 2)).block < _; rw [block_add]; exact z1)).trans x1, Nat.lt_of_lt_of_le z1 x.far.size⟩)
      have hp0 : ∀ x : Past wr, x.w.cell? (ad.add (k * 2)) = some (.int .i64 s.lo) := fun x => (HP.out x).1
      have hp1 : ∀ x : Past wr, x.w.cell? ⟨(ad.add (k * 2)).block, (ad.add (k * 2)).off + 1, none⟩ = some (.int .i64 s.hi) := fun x => (HP.out x).2.1
      clear HP x0 x1
      go_wp2_with fail
      cases u0 : upB 1099511627776 [s.lo]
      · have HE := Lib.hid (HN.out (spanB_of (by rw [u0]; rfl)))
        refine wp_region_past (by kernel_rfl) (by kernel_rfl) ?_
        repeat (go_big_quiet_step (first | (go_at_call 78; with_reducible exact past_same (quantity_is s.lo _ u0 _))))
        refine wpQuiet_nil ?_
        intro y
        have S2 := Lib.hid (HS.out.below y.far)
        clear hp0 hp1 u0
        generalize y.w = w4 at S2 ⊢
        go_wp2
        go_ret
        exact ⟨by rw [← HE0.out, HE.out]; rfl, S2.out.1⟩
      · cases u1 : upB 1099511627776 [s.hi]
        · have HE := Lib.hid (HN.out (spanB_of (by rw [u0, u1]; rfl)))
          refine wp_region_past (by kernel_rfl) (by kernel_rfl) ?_
          repeat (go_big_quiet_step (first | (go_at_call 78; with_reducible exact past_same (quantity_is s.lo _ u0 _)) | (go_at_call 78; with_reducible exact past_same (quantity_is s.hi _ u1 _))))
          refine wpQuiet_nil ?_
          intro y
          have S2 := Lib.hid (HS.out.below y.far)
          clear hp0 hp1 u0 u1
          generalize y.w = w4 at S2 ⊢
          go_wp2
          go_ret
          exact ⟨by rw [← HE0.out, HE.out]; rfl, S2.out.1⟩
        · by_cases hle : s.lo ≤ s.hi
          · have HF := Lib.hid (HY.out (spanB_of (by rw [u0, u1, decide_eq_true hle]; rfl)))
            have hb : decide (s.hi < s.lo) = false := decide_eq_false (by omega)
            refine wp_region_past (by kernel_rfl) (by kernel_rfl) ?_
            repeat (go_big_quiet_step (first | (go_at_call 78; with_reducible exact past_same (quantity_is s.lo _ u0 _)) | (go_at_call 78; with_reducible exact past_same (quantity_is s.hi _ u1 _))))
            refine wpQuiet_nil ?_
            intro y
            have S2 := Lib.hid (HS.out.below y.far)
            clear hp0 hp1 u0 u1 hb
            generalize y.w = w4 at S2 ⊢
            go_wp2
            go_roundw
            case rel => exact ⟨k + 1, by omega, by go_num, Lib.hid ⟨S2.out, HF.out⟩⟩
            case measure => simp [intOf]; omega
          · have HE := Lib.hid (HN.out (spanB_of (by rw [u0, u1, decide_eq_false hle]; rfl)))
            have hb : decide (s.hi < s.lo) = true := decide_eq_true (by omega)
            refine wp_region_past (by kernel_rfl) (by kernel_rfl) ?_
            repeat (go_big_quiet_step (first | (go_at_call 78; with_reducible exact past_same (quantity_is s.lo _ u0 _)) | (go_at_call 78; with_reducible exact past_same (quantity_is s.hi _ u1 _))))
            refine wpQuiet_nil ?_
            intro y
            have S2 := Lib.hid (HS.out.below y.far)
            clear hp0 hp1 u0 u1 hb
            generalize y.w = w4 at S2 ⊢
            go_wp2
            go_ret
            exact ⟨by rw [← HE0.out, HE.out]; rfl, S2.out.1⟩
    · obtain rfl : k = 5 := by omega
      have HEE := Lib.hid (lmE_five HC.out HW.out.2)
      have v0 := HW.out.2 0 (by omega)
      have v1 := HW.out.2 1 (by omega)
      have v2 := HW.out.2 2 (by omega)
      have v3 := HW.out.2 3 (by omega)
      have KE := Lib.hid (show ∀ V : World, Below w.heap.size w V → Calls Try.prog 113 #[.agg #[.int .i64 m.r, .int .i64 m.ld, .int .i64 m.lq, .int .i64 m.fx, .int .i64 m.po, .int .i64 m.mi, .int .i64 m.sp, .int .i64 m.dr, .int .i64 m.cu, .int .i64 m.fa], .slice (some ad) 5 cap] V fun e w' => e = .returned (.tuple #[.agg #[.int .i64 (m.plus s0.lo s1.lo s2.lo s3.lo).r, .int .i64 (m.plus s0.lo s1.lo s2.lo s3.lo).ld, .int .i64 (m.plus s0.lo s1.lo s2.lo s3.lo).lq, .int .i64 (m.plus s0.lo s1.lo s2.lo s3.lo).fx, .int .i64 m.po, .int .i64 m.mi, .int .i64 m.sp, .int .i64 m.dr, .int .i64 m.cu, .int .i64 m.fa], .agg #[.int .i64 (m.plus s0.hi s1.hi s2.hi s3.hi).r, .int .i64 (m.plus s0.hi s1.hi s2.hi s3.hi).ld, .int .i64 (m.plus s0.hi s1.hi s2.hi s3.hi).lq, .int .i64 (m.plus s0.hi s1.hi s2.hi s3.hi).fx, .int .i64 m.po, .int .i64 m.mi, .int .i64 m.sp, .int .i64 m.dr, .int .i64 m.cu, .int .i64 m.fa]]) ∧ Below V.heap.size V w' from fun V hV => ends_r m (some ad) s0 s1 s2 s3 s4 cap V (HX.out.below hV) (Dv.chkB_iff.1 HC.out) v0 v1 v2 v3)
      have S2 := Lib.hid HW.out.1
      clear HW v0 v1 v2 v3
      generalize hlo : m.plus s0.lo s1.lo s2.lo s3.lo = lo at KE HEE
      generalize hhi : m.plus s0.hi s1.hi s2.hi s3.hi = hi at KE HEE
      have PLO : Hid (lo.po = m.po ∧ lo.mi = m.mi ∧ lo.sp = m.sp ∧ lo.dr = m.dr ∧ lo.cu = m.cu ∧ lo.fa = m.fa) := Lib.hid (by subst hlo; exact ⟨rfl, rfl, rfl, rfl, rfl, rfl⟩)
      have PHI : Hid (hi.po = m.po ∧ hi.mi = m.mi ∧ hi.sp = m.sp ∧ hi.dr = m.dr ∧ hi.cu = m.cu ∧ hi.fa = m.fa) := Lib.hid (by subst hhi; exact ⟨rfl, rfl, rfl, rfl, rfl, rfl⟩)
      have KE := Lib.hid (show ∀ V : World, Below w.heap.size w V → Calls Try.prog 113 #[.agg #[.int .i64 m.r, .int .i64 m.ld, .int .i64 m.lq, .int .i64 m.fx, .int .i64 m.po, .int .i64 m.mi, .int .i64 m.sp, .int .i64 m.dr, .int .i64 m.cu, .int .i64 m.fa], .slice (some ad) 5 cap] V fun e w' => e = .returned (.tuple #[.agg #[.int .i64 lo.r, .int .i64 lo.ld, .int .i64 lo.lq, .int .i64 lo.fx, .int .i64 lo.po, .int .i64 lo.mi, .int .i64 lo.sp, .int .i64 lo.dr, .int .i64 lo.cu, .int .i64 lo.fa], .agg #[.int .i64 hi.r, .int .i64 hi.ld, .int .i64 hi.lq, .int .i64 hi.fx, .int .i64 hi.po, .int .i64 hi.mi, .int .i64 hi.sp, .int .i64 hi.dr, .int .i64 hi.cu, .int .i64 hi.fa]]) ∧ Below V.heap.size V w' from fun V hV => by
        have := KE.out V hV
        rw [PLO.out.1, PLO.out.2.1, PLO.out.2.2.1, PLO.out.2.2.2.1, PLO.out.2.2.2.2.1, PLO.out.2.2.2.2.2, PHI.out.1, PHI.out.2.1, PHI.out.2.2.1, PHI.out.2.2.2.1, PHI.out.2.2.2.2.1, PHI.out.2.2.2.2.2]
        exact this)
      clear hlo hhi PLO PHI
      have zm := (S2.out.get 0 rfl).lt
      obtain ⟨m0, m1, m2, m3, m4, m5, m6, m7, m8, m9⟩ := motOf (m := m) (S2.out.get 0 rfl)
      go_wp2_with fail
      refine (KE.out _ S2.out.1).mono ?_
      rintro e w3 ⟨rfl, hb3⟩
      have S3 := Lib.hid (((S2.out.below hb3).alloc [.int .i64 lo.r, .int .i64 lo.ld, .int .i64 lo.lq, .int .i64 lo.fx, .int .i64 lo.po, .int .i64 lo.mi, .int .i64 lo.sp, .int .i64 lo.dr, .int .i64 lo.cu, .int .i64 lo.fa] 52).alloc [.int .i64 hi.r, .int .i64 hi.ld, .int .i64 hi.lq, .int .i64 hi.fx, .int .i64 hi.po, .int .i64 hi.mi, .int .i64 hi.sp, .int .i64 hi.dr, .int .i64 hi.cu, .int .i64 hi.fa] 52)
      clear hb3 m0 m1 m2 m3 m4 m5 m6 m7 m8 m9 zm S2
      go_upto_region 9 with (fail)
      refine gen_world (fun W => St w [(w3.heap.size + 1, 52, [.int .i64 hi.r, .int .i64 hi.ld, .int .i64 hi.lq, .int .i64 hi.fx, .int .i64 hi.po, .int .i64 hi.mi, .int .i64 hi.sp, .int .i64 hi.dr, .int .i64 hi.cu, .int .i64 hi.fa]), (w3.heap.size, 52, [.int .i64 lo.r, .int .i64 lo.ld, .int .i64 lo.lq, .int .i64 lo.fx, .int .i64 lo.po, .int .i64 lo.mi, .int .i64 lo.sp, .int .i64 lo.dr, .int .i64 lo.cu, .int .i64 lo.fa]), (w.heap.size, 52, [.int .i64 m.r, .int .i64 m.ld, .int .i64 m.lq, .int .i64 m.fx, .int .i64 m.po, .int .i64 m.mi, .int .i64 m.sp, .int .i64 m.dr, .int .i64 m.cu, .int .i64 m.fa])] W) (by have := S3.out; simp at this; exact this) ?_
      clear S3
      generalize w3.heap.size = ga
      clear w3
      rintro w3 i3
      have S3 := Lib.hid i3
      clear i3
      have zl := (S3.out.get 1 rfl).lt
      obtain ⟨b0, b1, b2, b3, b4, b5, b6, b7, b8, b9⟩ := motOf (m := lo) (S3.out.get 1 rfl)
      go_wp2_with fail
      cases h1 : Dv.chkB lo
      · have HE : Hid (Dv.lmE m [s0, s1, s2, s3, s4] = 3) := Lib.hid (by rw [HEE.out, h1]; rfl)
        refine (CheckR_no lo _ h1).mono ?_
        rintro e w5 ⟨rfl, hb5⟩
        have S5 := Lib.hid (S3.out.below hb5)
        clear hb5 h1
        clear b0 b1 b2 b3 b4 b5 b6 b7 b8 b9 zl
        go_wp2
        go_ret
        exact ⟨by rw [← HE0.out, HE.out]; rfl, S5.out.1⟩
      · refine (CheckR_yes lo _ h1).mono ?_
        rintro e w5 ⟨rfl, hb5⟩
        have S5 := Lib.hid (S3.out.below hb5)
        clear hb5
        clear b0 b1 b2 b3 b4 b5 b6 b7 b8 b9 zl
        have zl := (S5.out.get 0 rfl).lt
        obtain ⟨b0, b1, b2, b3, b4, b5, b6, b7, b8, b9⟩ := motOf (m := hi) (S5.out.get 0 rfl)
        go_wp2_with fail
        cases h2 : Dv.chkB hi
        · have HE : Hid (Dv.lmE m [s0, s1, s2, s3, s4] = 3) := Lib.hid (by rw [HEE.out, h1, h2]; rfl)
          refine (CheckR_no hi _ h2).mono ?_
          rintro e w6 ⟨rfl, hb6⟩
          have S6 := Lib.hid (S5.out.below hb6)
          clear hb6 h1 h2
          clear b0 b1 b2 b3 b4 b5 b6 b7 b8 b9 zl
          go_wp2
          go_ret
          exact ⟨by rw [← HE0.out, HE.out]; rfl, S6.out.1⟩
        · refine (CheckR_yes hi _ h2).mono ?_
          rintro e w6 ⟨rfl, hb6⟩
          have S6 := Lib.hid (S5.out.below hb6)
          clear hb6
          clear b0 b1 b2 b3 b4 b5 b6 b7 b8 b9 zl
          have hz5 := H5.out.1
          obtain ⟨z5, x0, x1, x2, x3, x4, x5, x6, x7, x8, x9⟩ := H5.out.below S6.out.1 hz5
          have x99 : w6.cell? ⟨ad.block, ad.off + 8 + 1, none⟩ = some (.int .i64 s4.hi) := x9
          clear x0 x1 x2 x3 x4 x5 x6 x7
          cases h3 : upB 16384 [s4.lo]
          · have HE : Hid (Dv.lmE m [s0, s1, s2, s3, s4] = 3) := Lib.hid (by rw [HEE.out, h1, h2, show upB 16384 [s4.lo, s4.hi] = (upB 16384 [s4.lo] && upB 16384 [s4.hi]) by simp [upB], h3]; rfl)
            have e3 : Dv.spE s4.lo = 3 := by simp [Dv.spE, h3]
            clear h1 h2 h3
            go_wp2_with (go_at_call 98; with_reducible refine (speed_is s4.lo _ e3 _).mono ?_; rintro e w' ⟨rfl, rfl⟩)
            go_ret
            exact ⟨by rw [← HE0.out, HE.out]; rfl, S6.out.1⟩
          · have e3 : Dv.spE s4.lo = 0 := by simp [Dv.spE, h3]
            cases h4 : upB 16384 [s4.hi]
            · have HE : Hid (Dv.lmE m [s0, s1, s2, s3, s4] = 3) := Lib.hid (by rw [HEE.out, h1, h2, show upB 16384 [s4.lo, s4.hi] = (upB 16384 [s4.lo] && upB 16384 [s4.hi]) by simp [upB], h3, h4]; rfl)
              have e4 : Dv.spE s4.hi = 3 := by simp [Dv.spE, h4]
              clear h1 h2 h3 h4
              go_wp2_with (first | (go_at_call 98; (with_reducible refine (speed_is s4.lo _ e3 _).mono ?_); rintro e w' ⟨rfl, rfl⟩) | (go_at_call 98; (with_reducible refine (speed_is s4.hi _ e4 _).mono ?_); rintro e w' ⟨rfl, rfl⟩))
              go_ret
              exact ⟨by rw [← HE0.out, HE.out]; rfl, S6.out.1⟩
            · have HE : Hid (Dv.lmE m [s0, s1, s2, s3, s4] = 0) := Lib.hid (by rw [HEE.out, h1, h2, show upB 16384 [s4.lo, s4.hi] = (upB 16384 [s4.lo] && upB 16384 [s4.hi]) by simp [upB], h3, h4]; rfl)
              have e4 : Dv.spE s4.hi = 0 := by simp [Dv.spE, h4]
              clear h1 h2 h3 h4
              go_wp2_with (first | (go_at_call 98; (with_reducible refine (speed_is s4.lo _ e3 _).mono ?_); rintro e w' ⟨rfl, rfl⟩) | (go_at_call 98; (with_reducible refine (speed_is s4.hi _ e4 _).mono ?_); rintro e w' ⟨rfl, rfl⟩))
              go_ret
              exact ⟨by rw [← HE0.out, HE.out]; rfl, S6.out.1⟩

theorem possible_c (m : Mot) (A : Option Addr) (l : List Sp) (cap : Nat) (w : World) (hx : SpAt w A l) :
    Calls Try.prog 110 #[.agg #[.int .i64 m.r, .int .i64 m.ld, .int .i64 m.lq, .int .i64 m.fx, .int .i64 m.po, .int .i64 m.mi, .int .i64 m.sp, .int .i64 m.dr, .int .i64 m.cu, .int .i64 m.fa], .slice A l.length cap] w fun e w' => e = .returned (.int .i64 (Dv.lmE m l)) ∧ Below w.heap.size w w' := by
  cases hC : Dv.chkB m
  · exact (possible_no1 m A l.length cap w hC).mono fun _ _ ⟨h1, h2⟩ => ⟨by rw [h1, show Dv.lmE m l = 2 by simp [Dv.lmE, Dv.lmA, hC]], h2⟩
  · by_cases hl : l.length = 5
    · match l, hl with
      | [s0, s1, s2, s3, s4], _ => exact possible_go m A s0 s1 s2 s3 s4 cap w hx hC
    · exact (possible_no2 m A l.length cap w hC (by simp; omega)).mono fun _ _ ⟨h1, h2⟩ => ⟨by rw [h1, show Dv.lmE m l = 2 by simp [Dv.lmE, Dv.lmA, hl]], h2⟩
end Go.Proofs.Ytcneohhfnnelgaa
namespace Go.Proofs.Ytcneohhfnnelgaa
open Go.RowKit
set_option linter.unusedVariables false
namespace Dv
def aLo (m : Mot) (l : List Sp) (d q s : Int) : Int := alLo m.cu d (lmLo m l).ld m.mi (bdLo (lmLo m l) (lmHi m l) d q (s + (lmS l).lo) (s + (lmS l).hi))
def aHi (m : Mot) (l : List Sp) (d q s : Int) : Int := alHi m.cu d (lmLo m l).ld m.mi (bdHi (lmLo m l) (lmHi m l) d q (s + (lmS l).lo) (s + (lmS l).hi))
def bLo (m : Mot) (l : List Sp) (d q s : Int) : Int := alLo m.cu q (lmLo m l).lq m.mi (bqLo (lmLo m l) (lmHi m l) d q (s + (lmS l).lo) (s + (lmS l).hi))
def bHi (m : Mot) (l : List Sp) (d q s : Int) : Int := alHi m.cu q (lmLo m l).lq m.mi (bqHi (lmLo m l) (lmHi m l) d q (s + (lmS l).lo) (s + (lmS l).hi))
def alIn (m : Mot) (d q s : Int) : Bool := upB m.cu [d, q] && upB m.fa [s]
def alOk (m : Mot) (l : List Sp) (d q s : Int) : Bool := decide (aLo m l d q s ≤ aHi m l d q s) && decide (bLo m l d q s ≤ bHi m l d q s)
def alE (m : Mot) (l : List Sp) (d q s : Int) : Int := if lmE m l = 0 then (if alIn m d q s = true then (if alOk m l d q s = true then 0 else 17) else 3) else lmE m l
def alV (m : Mot) (l : List Sp) (d q s x : Int) : Int := if alE m l d q s = 0 then x else 0
theorem lmE_ok {m : Mot} {l : List Sp} (h : lmE m l = 0) : lmA m l = true ∧ lmB m l = true := by
  unfold lmE at h
  split at h
  · rename_i ha
    split at h
    · rename_i hb
      exact ⟨ha, hb⟩
    · omega
  · omega
/-- what a motor with possible tolerances is -/
theorem lm_parts {m : Mot} {l : List Sp} (h : lmE m l = 0) : chk m ∧ l.length = 5 ∧ chk (lmLo m l) ∧ chk (lmHi m l) ∧ (-16384 ≤ (lmS l).lo ∧ (lmS l).lo ≤ 16384) ∧ (-16384 ≤ (lmS l).hi ∧ (lmS l).hi ≤ 16384) ∧ (∀ x, x ∈ l → spV x = true) := by
  obtain ⟨ha, hb⟩ := lmE_ok h
  unfold lmA at ha
  unfold lmB at hb
  simp only [Bool.and_eq_true, decide_eq_true_eq, List.all_eq_true] at ha hb
  have := upB2.1 hb.2.2
  exact ⟨chkB_iff.1 ha.1, ha.2.1, chkB_iff.1 hb.1, chkB_iff.1 hb.2.1, this.1, this.2, ha.2.2⟩
end Dv
theorem St.add {w W W' : World} {l : List BlkRow} (h : St w l W) (hb : Below W.heap.size W W') {g : Nat} {t : TypeId} {cs : List Value} (hg : W.heap.size ≤ g) (k : Blk W' g t cs) : St w ((g, t, cs) :: l) W' := ⟨h.1.trans (hb.mono h.1.size), Has.cons k (h.2.1.below hb), by
  rw [List.map_cons, List.nodup_cons]
  exact ⟨h.apart' hg, h.2.2⟩⟩
/-- ends for a motor with possible tolerances -/
theorem ends_p (m : Mot) (A : Option Addr) (l : List Sp) (cap : Nat) (w : World) (hx : SpAt w A l) (h : Dv.lmE m l = 0) :
    Calls Try.prog 113 #[.agg #[.int .i64 m.r, .int .i64 m.ld, .int .i64 m.lq, .int .i64 m.fx, .int .i64 m.po, .int .i64 m.mi, .int .i64 m.sp, .int .i64 m.dr, .int .i64 m.cu, .int .i64 m.fa], .slice A l.length cap] w fun e w' => e = .returned (.tuple #[.agg #[.int .i64 (Dv.lmLo m l).r, .int .i64 (Dv.lmLo m l).ld, .int .i64 (Dv.lmLo m l).lq, .int .i64 (Dv.lmLo m l).fx, .int .i64 (Dv.lmLo m l).po, .int .i64 (Dv.lmLo m l).mi, .int .i64 (Dv.lmLo m l).sp, .int .i64 (Dv.lmLo m l).dr, .int .i64 (Dv.lmLo m l).cu, .int .i64 (Dv.lmLo m l).fa], .agg #[.int .i64 (Dv.lmHi m l).r, .int .i64 (Dv.lmHi m l).ld, .int .i64 (Dv.lmHi m l).lq, .int .i64 (Dv.lmHi m l).fx, .int .i64 (Dv.lmHi m l).po, .int .i64 (Dv.lmHi m l).mi, .int .i64 (Dv.lmHi m l).sp, .int .i64 (Dv.lmHi m l).dr, .int .i64 (Dv.lmHi m l).cu, .int .i64 (Dv.lmHi m l).fa]]) ∧ Below w.heap.size w w' := by
  obtain ⟨hm, hl, _, _, _, _, hv⟩ := Dv.lm_parts h
  match l, hl with
  | [s0, s1, s2, s3, s4], _ => exact ends_r m A s0 s1 s2 s3 s4 cap w hx hm (hv s0 (by simp)) (hv s1 (by simp)) (hv s2 (by simp)) (hv s3 (by simp))

set_option maxHeartbeats 4000000 in
set_option maxRecDepth 100000 in
theorem allowedR_go (m lo hi : Mot) (s0 s1 s2 s3 s4 : Sp) (d q s : Int) {x1 x2 x3 x4 : Int} (ad : Addr) (cap : Nat) (w : World) (h5 : Sp5 w ad s0 s1 s2 s3 s4) (hm : Dv.chk m) (hlo : Dv.chk lo) (hhi : Dv.chk hi) (hs : -16384 ≤ s ∧ s ≤ 16384) (hsl : -16384 ≤ s4.lo ∧ s4.lo ≤ 16384) (hsh : -16384 ≤ s4.hi ∧ s4.hi ≤ 16384) (hd : -1048576 ≤ d ∧ d ≤ 1048576) (hq : -1048576 ≤ q ∧ q ≤ 1048576)
    (hK : ∀ V : World, Below w.heap.size w V → Calls Try.prog 113 #[.agg #[.int .i64 m.r, .int .i64 m.ld, .int .i64 m.lq, .int .i64 m.fx, .int .i64 m.po, .int .i64 m.mi, .int .i64 m.sp, .int .i64 m.dr, .int .i64 m.cu, .int .i64 m.fa], .slice (some ad) 5 cap] V fun e w' => e = .returned (.tuple #[.agg #[.int .i64 lo.r, .int .i64 lo.ld, .int .i64 lo.lq, .int .i64 lo.fx, .int .i64 lo.po, .int .i64 lo.mi, .int .i64 lo.sp, .int .i64 lo.dr, .int .i64 lo.cu, .int .i64 lo.fa], .agg #[.int .i64 hi.r, .int .i64 hi.ld, .int .i64 hi.lq, .int .i64 hi.fx, .int .i64 hi.po, .int .i64 hi.mi, .int .i64 hi.sp, .int .i64 hi.dr, .int .i64 hi.cu, .int .i64 hi.fa]]) ∧ Below V.heap.size V w')
    (e1 : Dv.bdLo lo hi d q (s + s4.lo) (s + s4.hi) = x1) (e2 : Dv.bdHi lo hi d q (s + s4.lo) (s + s4.hi) = x2) (e3 : Dv.bqLo lo hi d q (s + s4.lo) (s + s4.hi) = x3) (e4 : Dv.bqHi lo hi d q (s + s4.lo) (s + s4.hi) = x4) :
    Calls Try.prog 111 #[.agg #[.int .i64 m.r, .int .i64 m.ld, .int .i64 m.lq, .int .i64 m.fx, .int .i64 m.po, .int .i64 m.mi, .int .i64 m.sp, .int .i64 m.dr, .int .i64 m.cu, .int .i64 m.fa], .slice (some ad) 5 cap, .int .i64 d, .int .i64 q, .int .i64 s] w fun e w' => e = .returned (.tuple #[.agg #[.int .i64 (Dv.alLo m.cu d lo.ld m.mi x1), .int .i64 (Dv.alHi m.cu d lo.ld m.mi x2)], .agg #[.int .i64 (Dv.alLo m.cu q lo.lq m.mi x3), .int .i64 (Dv.alHi m.cu q lo.lq m.mi x4)]]) ∧ Below w.heap.size w w' := by
  have hib := Dv.inn_bd lo hi d q (s + s4.lo) (s + s4.hi) hlo hhi hd hq (by omega) (by omega)
  rw [e1, e2, e3, e4] at hib
  have KI := Lib.hid (show ∀ W : World, Calls Try.prog 126 #[.agg #[.int .i64 lo.r, .int .i64 lo.ld, .int .i64 lo.lq, .int .i64 lo.fx, .int .i64 lo.po, .int .i64 lo.mi, .int .i64 lo.sp, .int .i64 lo.dr, .int .i64 lo.cu, .int .i64 lo.fa], .agg #[.int .i64 hi.r, .int .i64 hi.ld, .int .i64 hi.lq, .int .i64 hi.fx, .int .i64 hi.po, .int .i64 hi.mi, .int .i64 hi.sp, .int .i64 hi.dr, .int .i64 hi.cu, .int .i64 hi.fa], .int .i64 d, .int .i64 q, .agg #[.int .i64 (s + s4.lo), .int .i64 (s + s4.hi)]] W fun e w' => e = .returned (.tuple #[.agg #[.int .i64 x1, .int .i64 x2], .agg #[.int .i64 x3, .int .i64 x4]]) ∧ Below W.heap.size W w' from fun W => by rw [← e1, ← e2, ← e3, ← e4]; exact innersR_c lo hi (s + s4.lo) (s + s4.hi) d q W hlo hhi (by omega) (by omega) hd hq)
  clear e1 e2 e3 e4
  have KE := Lib.hid hK
  have H5 := Lib.hid h5
  clear hK h5
  unfold Dv.chk at hm hlo hhi
  have ab1 := al_bd (x := m.cu + d) (l := lo.ld) (by omega) (by omega)
  have ab2 := al_bd (x := m.cu - d + 1) (l := lo.ld) (by omega) (by omega)
  have ab3 := al_bd (x := m.cu + q) (l := lo.lq) (by omega) (by omega)
  have ab4 := al_bd (x := m.cu - q + 1) (l := lo.lq) (by omega) (by omega)
  have KA := Lib.hid (show ∀ W : World, Calls Try.prog 127 #[.int .i64 m.cu, .int .i64 d, .int .i64 lo.ld, .int .i64 m.mi, .agg #[.int .i64 x1, .int .i64 x2]] W fun e w' => e = .returned (.agg #[.int .i64 (Dv.alLo m.cu d lo.ld m.mi x1), .int .i64 (Dv.alHi m.cu d lo.ld m.mi x2)]) ∧ Below W.heap.size W w' from fun W => spanR_c m.cu d lo.ld m.mi x1 x2 W (by omega) (by omega) (by omega) ab1 ab2 hib.1 hib.2.1)
  have KB := Lib.hid (show ∀ W : World, Calls Try.prog 127 #[.int .i64 m.cu, .int .i64 q, .int .i64 lo.lq, .int .i64 m.mi, .agg #[.int .i64 x3, .int .i64 x4]] W fun e w' => e = .returned (.agg #[.int .i64 (Dv.alLo m.cu q lo.lq m.mi x3), .int .i64 (Dv.alHi m.cu q lo.lq m.mi x4)]) ∧ Below W.heap.size W w' from fun W => spanR_c m.cu q lo.lq m.mi x3 x4 W (by omega) (by omega) (by omega) ab3 ab4 hib.2.2.1 hib.2.2.2)
  clear ab1 ab2 ab3 ab4 hib
  have S0 := Lib.hid (show St w [(w.heap.size + 1 + 1, 29, [.int .i64 0, .int .i64 0]), (w.heap.size + 1, 29, [.int .i64 0, .int .i64 0]), (w.heap.size, 52, [.int .i64 m.r, .int .i64 m.ld, .int .i64 m.lq, .int .i64 m.fx, .int .i64 m.po, .int .i64 m.mi, .int .i64 m.sp, .int .i64 m.dr, .int .i64 m.cu, .int .i64 m.fa])] (((w.alloc (.cells #[.int .i64 m.r, .int .i64 m.ld, .int .i64 m.lq, .int .i64 m.fx, .int .i64 m.po, .int .i64 m.mi, .int .i64 m.sp, .int .i64 m.dr, .int .i64 m.cu, .int .i64 m.fa] 52)).alloc (.cells #[.int .i64 0, .int .i64 0] 29)).alloc (.cells #[.int .i64 0, .int .i64 0] 29)) from by
    have := (((St.start w).alloc [.int .i64 m.r, .int .i64 m.ld, .int .i64 m.lq, .int .i64 m.fx, .int .i64 m.po, .int .i64 m.mi, .int .i64 m.sp, .int .i64 m.dr, .int .i64 m.cu, .int .i64 m.fa] 52).alloc [.int .i64 0, .int .i64 0] 29).alloc [.int .i64 0, .int .i64 0] 29
    simp at this
    exact this)
  go_enter Try.func111, Try.ntmps111
  go_wp2_with fail
  refine (KE.out _ S0.out.1).mono ?_
  rintro e w1 ⟨rfl, hb1⟩
  have S1 := Lib.hid (((S0.out.below hb1).alloc [.int .i64 lo.r, .int .i64 lo.ld, .int .i64 lo.lq, .int .i64 lo.fx, .int .i64 lo.po, .int .i64 lo.mi, .int .i64 lo.sp, .int .i64 lo.dr, .int .i64 lo.cu, .int .i64 lo.fa] 52).alloc [.int .i64 hi.r, .int .i64 hi.ld, .int .i64 hi.lq, .int .i64 hi.fx, .int .i64 hi.po, .int .i64 hi.mi, .int .i64 hi.sp, .int .i64 hi.dr, .int .i64 hi.cu, .int .i64 hi.fa] 52)
  clear hb1 S0
  go_upto_region 2 with (fail)
  refine gen_world (fun W => St w [(w1.heap.size + 1, 52, [.int .i64 hi.r, .int .i64 hi.ld, .int .i64 hi.lq, .int .i64 hi.fx, .int .i64 hi.po, .int .i64 hi.mi, .int .i64 hi.sp, .int .i64 hi.dr, .int .i64 hi.cu, .int .i64 hi.fa]), (w1.heap.size, 52, [.int .i64 lo.r, .int .i64 lo.ld, .int .i64 lo.lq, .int .i64 lo.fx, .int .i64 lo.po, .int .i64 lo.mi, .int .i64 lo.sp, .int .i64 lo.dr, .int .i64 lo.cu, .int .i64 lo.fa]), (w.heap.size + 1 + 1, 29, [.int .i64 0, .int .i64 0]), (w.heap.size + 1, 29, [.int .i64 0, .int .i64 0]), (w.heap.size, 52, [.int .i64 m.r, .int .i64 m.ld, .int .i64 m.lq, .int .i64 m.fx, .int .i64 m.po, .int .i64 m.mi, .int .i64 m.sp, .int .i64 m.dr, .int .i64 m.cu, .int .i64 m.fa])] W) (by have := S1.out; simp at this; exact this) ?_
  clear S1
  rintro w2 i_
  have I1 := Lib.hid i_
  clear i_
  generalize w1.heap.size = ga at I1 ⊢
  refine wp_region_privz 23 [20] [.q, .q, .q, .q, .q, .q, .q, .q, .q, .q, .q, .q, .q, .q, .q, .q, .q, .q, .q, .q, .q, .p, .p] (fun _ => (.cells #[.int .i64 0, .int .i64 0] 29, fun b => .pointer (some ⟨b, 0, none⟩))) ?afr3 (by kernel_rfl) (by kernel_rfl) (fun _ _ _ _ _ h => h) ?walkr3 ?tailr3
  case walkr3 =>
    intro V hV
    have IV := Lib.hid (I1.out.below hV)
    have z_hi := (IV.out.get 0 rfl).lt
    have c_hi0 := (IV.out.get 0 rfl).cell 0 rfl
    have c_hi1 := (IV.out.get 0 rfl).cell 1 rfl
    have c_hi2 := (IV.out.get 0 rfl).cell 2 rfl
    have c_hi3 := (IV.out.get 0 rfl).cell 3 rfl
    have c_hi4 := (IV.out.get 0 rfl).cell 4 rfl
    have c_hi5 := (IV.out.get 0 rfl).cell 5 rfl
    have c_hi6 := (IV.out.get 0 rfl).cell 6 rfl
    have c_hi7 := (IV.out.get 0 rfl).cell 7 rfl
    have c_hi8 := (IV.out.get 0 rfl).cell 8 rfl
    have c_hi9 := (IV.out.get 0 rfl).cell 9 rfl
    have z_lo := (IV.out.get 1 rfl).lt
    have c_lo0 := (IV.out.get 1 rfl).cell 0 rfl
    have c_lo1 := (IV.out.get 1 rfl).cell 1 rfl
    have c_lo2 := (IV.out.get 1 rfl).cell 2 rfl
    have c_lo3 := (IV.out.get 1 rfl).cell 3 rfl
    have c_lo4 := (IV.out.get 1 rfl).cell 4 rfl
    have c_lo5 := (IV.out.get 1 rfl).cell 5 rfl
    have c_lo6 := (IV.out.get 1 rfl).cell 6 rfl
    have c_lo7 := (IV.out.get 1 rfl).cell 7 rfl
    have c_lo8 := (IV.out.get 1 rfl).cell 8 rfl
    have c_lo9 := (IV.out.get 1 rfl).cell 9 rfl
    have hz5 := H5.out.1
    obtain ⟨z5, _, _, _, _, _, _, _, _, x8, x9⟩ := H5.out.below IV.out.1 hz5
    simp only [List.take_succ_cons, List.take_zero]
    repeat (refine wpP_q ?_; go_big_quiet_step (first | (go_at_call 126; with_reducible exact past_below (KI.out _))); refine wpQuiet_nil ?_)
    refine wpP_p (by kernel_rfl) (fun _ => by kernel_rfl) ?_
    (try simp only [Act.put, List.setIfInBounds_toArray, List.set_cons_zero, List.set_cons_succ])
    refine wpP_p (by kernel_rfl) (fun _ => by kernel_rfl) ?_
    (try simp only [Act.put, List.setIfInBounds_toArray, List.set_cons_zero, List.set_cons_succ])
    refine wpP_nil ?_
    rfl
  case tailr3 =>
  intro gs w4 hb5 hP hD
  obtain ⟨hg_a, k_a⟩ := hP 21 rfl
  obtain ⟨hg_b, k_b⟩ := hP 22 rfl
  have hne := hD 21 22 rfl rfl (by decide)
  simp only [List.take_succ_cons, List.take_zero, fillP]
  (try simp only [Act.put, List.setIfInBounds_toArray, List.set_cons_zero, List.set_cons_succ])
  generalize gs 21 = g_a at hg_a k_a hne ⊢
  generalize gs 22 = g_b at hg_b k_b hne ⊢
  clear hP hD
  have k2_a : Blk w4 g_a 29 [.int .i64 0, .int .i64 0] := k_a
  have gz_a : w.heap.size ≤ g_a := Nat.le_trans I1.out.1.size hg_a
  have f_a0 := k2_a.free 0
  have d_a0 := k2_a.cell 0 rfl
  have f_a1 := k2_a.free 1
  have d_a1 := k2_a.cell 1 rfl
  have k2_b : Blk w4 g_b 29 [.int .i64 0, .int .i64 0] := k_b
  have gz_b : w.heap.size ≤ g_b := Nat.le_trans I1.out.1.size hg_b
  have f_b0 := k2_b.free 0
  have d_b0 := k2_b.cell 0 rfl
  have f_b1 := k2_b.free 1
  have d_b1 := k2_b.cell 1 rfl
  have J6 := Lib.hid (I1.out.lay2 hb5 hg_a hg_b hne k2_a k2_b [.int .i64 x1, .int .i64 x2] [.int .i64 x3, .int .i64 x4] rfl rfl)
  have hn1 : ¬ g_a = g_b := hne
  have hn2 : ¬ g_b = g_a := fun e => hne e.symm
  clear hb5 I1 hg_a k_a k2_a hg_b k_b k2_b hne
  simp only [List.drop_succ_cons, List.drop_zero]
  go_upto_region 3 with (fail)
  refine gen_world (fun W => St w [(g_b, 29, [.int .i64 x3, .int .i64 x4]), (g_a, 29, [.int .i64 x1, .int .i64 x2]), (ga + 1, 52, [.int .i64 hi.r, .int .i64 hi.ld, .int .i64 hi.lq, .int .i64 hi.fx, .int .i64 hi.po, .int .i64 hi.mi, .int .i64 hi.sp, .int .i64 hi.dr, .int .i64 hi.cu, .int .i64 hi.fa]), (ga, 52, [.int .i64 lo.r, .int .i64 lo.ld, .int .i64 lo.lq, .int .i64 lo.fx, .int .i64 lo.po, .int .i64 lo.mi, .int .i64 lo.sp, .int .i64 lo.dr, .int .i64 lo.cu, .int .i64 lo.fa]), (w.heap.size + 1 + 1, 29, [.int .i64 0, .int .i64 0]), (w.heap.size + 1, 29, [.int .i64 0, .int .i64 0]), (w.heap.size, 52, [.int .i64 m.r, .int .i64 m.ld, .int .i64 m.lq, .int .i64 m.fx, .int .i64 m.po, .int .i64 m.mi, .int .i64 m.sp, .int .i64 m.dr, .int .i64 m.cu, .int .i64 m.fa])] W) (J6.out) ?_
  clear J6 f_a0 d_a0 f_a1 d_a1 f_b0 d_b0 f_b1 d_b1 hn1 hn2
  rintro w8 i_
  have I7 := Lib.hid i_
  clear i_
  refine wp_region_priv 18 [.q, .q, .q, .q, .q, .q, .q, .q, .q, .q, .q, .q, .q, .q, .q, .q, .q, .q] (fun _ => (.cells #[] 29, fun b => .pointer none)) ?af (by kernel_rfl) (by kernel_rfl) ?walk ?tail
  case walk =>
    intro V hV
    have IV := Lib.hid (I7.out.below hV)
    have z_a := (IV.out.get 1 rfl).lt
    have c_a0 := (IV.out.get 1 rfl).cell 0 rfl
    have c_a1 := (IV.out.get 1 rfl).cell 1 rfl
    have z_b := (IV.out.get 0 rfl).lt
    have c_b0 := (IV.out.get 0 rfl).cell 0 rfl
    have c_b1 := (IV.out.get 0 rfl).cell 1 rfl
    have z_m := (IV.out.get 6 rfl).lt
    have c_m5 := (IV.out.get 6 rfl).cell 5 rfl
    have c_m8 := (IV.out.get 6 rfl).cell 8 rfl
    have z_lo := (IV.out.get 3 rfl).lt
    have c_lo1 := (IV.out.get 3 rfl).cell 1 rfl
    have c_lo2 := (IV.out.get 3 rfl).cell 2 rfl
    simp only [List.take_succ_cons, List.take_zero]
    repeat (refine wpP_q ?_; go_big_quiet_step (first | (go_at_call 127; with_reducible exact past_below (KA.out _)) | (go_at_call 127; with_reducible exact past_below (KB.out _))); refine wpQuiet_nil ?_)
    refine wpP_nil ?_
    rfl
  case tail =>
  intro gs w3 hb3 _ _
  have S3 := Lib.hid (I7.out.below hb3)
  clear hb3 I7
  simp only [List.drop_succ_cons, List.drop_zero, List.take_succ_cons, List.take_zero, fillP]
  have z_r0 := (S3.out.get 5 rfl).lt
  have c_r00 := (S3.out.get 5 rfl).cell 0 rfl
  have c_r01 := (S3.out.get 5 rfl).cell 1 rfl
  have z_r1 := (S3.out.get 4 rfl).lt
  have c_r10 := (S3.out.get 4 rfl).cell 0 rfl
  have c_r11 := (S3.out.get 4 rfl).cell 1 rfl
  have f_r00 := (S3.out.get 5 rfl).free 0
  have f_r01 := (S3.out.get 5 rfl).free 1
  have f_r10 := (S3.out.get 4 rfl).free 0
  have f_r11 := (S3.out.get 4 rfl).free 1
  go_wp2
  exact bodyPost_ret (v := .tuple #[.agg #[.int .i64 (Dv.alLo m.cu d lo.ld m.mi x1), .int .i64 (Dv.alHi m.cu d lo.ld m.mi x2)], .agg #[.int .i64 (Dv.alLo m.cu q lo.lq m.mi x3), .int .i64 (Dv.alHi m.cu q lo.lq m.mi x4)]]) (by simp [results, Try.results111, go_sem, c_r00, c_r01, c_r10, c_r11]) rfl ⟨rfl, below_put2 (below_put2 S3.out.1 (by omega) _ _) (by omega) _ _⟩
theorem allowedR_c (m : Mot) (A : Option Addr) (l : List Sp) (d q s : Int) (cap : Nat) (w : World) (hx : SpAt w A l) (h : Dv.lmE m l = 0) (hs : -16384 ≤ s ∧ s ≤ 16384) (hd : -1048576 ≤ d ∧ d ≤ 1048576) (hq : -1048576 ≤ q ∧ q ≤ 1048576) :
    Calls Try.prog 111 #[.agg #[.int .i64 m.r, .int .i64 m.ld, .int .i64 m.lq, .int .i64 m.fx, .int .i64 m.po, .int .i64 m.mi, .int .i64 m.sp, .int .i64 m.dr, .int .i64 m.cu, .int .i64 m.fa], .slice A l.length cap, .int .i64 d, .int .i64 q, .int .i64 s] w fun e w' => e = .returned (.tuple #[.agg #[.int .i64 (Dv.aLo m l d q s), .int .i64 (Dv.aHi m l d q s)], .agg #[.int .i64 (Dv.bLo m l d q s), .int .i64 (Dv.bHi m l d q s)]]) ∧ Below w.heap.size w w' := by
  obtain ⟨hm, hl, hlo, hhi, hsl, hsh, hv⟩ := Dv.lm_parts h
  match l, hl with
  | [s0, s1, s2, s3, s4], _ =>
    obtain ⟨ad, rfl, h5⟩ := hx.five
    exact allowedR_go m (Dv.lmLo m [s0, s1, s2, s3, s4]) (Dv.lmHi m [s0, s1, s2, s3, s4]) s0 s1 s2 s3 s4 d q s ad cap w h5 hm hlo hhi hs hsl hsh hd hq (fun V hV => ends_p m (some ad) [s0, s1, s2, s3, s4] cap V (hx.below hV) h) rfl rfl rfl rfl
end Go.Proofs.Ytcneohhfnnelgaa
namespace Go.Proofs.Ytcneohhfnnelgaa
open Go.RowKit
set_option linter.unusedVariables false

/-- what Allowed leaves -/
def AlP (m : Mot) (l : List Sp) (d q s : Int) (w : World) (e : Ending) (w' : World) : Prop :=
  e = .returned (.tuple #[.agg #[.int .i64 (Dv.alV m l d q s (Dv.aLo m l d q s)), .int .i64 (Dv.alV m l d q s (Dv.aHi m l d q s))], .agg #[.int .i64 (Dv.alV m l d q s (Dv.bLo m l d q s)), .int .i64 (Dv.alV m l d q s (Dv.bHi m l d q s))], .int .i64 (Dv.alE m l d q s)]) ∧ Below w.heap.size w w'
theorem AlP.no {m : Mot} {l : List Sp} {d q s : Int} {w w' : World} {e : Ending} {E : Int} (hE : Dv.alE m l d q s = E) (h0 : E ≠ 0) (he : e = .returned (.tuple #[.agg #[.int .i64 0, .int .i64 0], .agg #[.int .i64 0, .int .i64 0], .int .i64 E])) (hb : Below w.heap.size w w') : AlP m l d q s w e w' := by
  refine ⟨?_, hb⟩
  rw [he]
  unfold Dv.alV
  rw [hE]
  simp [h0]
theorem AlP.yes {m : Mot} {l : List Sp} {d q s : Int} {w w' : World} {e : Ending} (hE : Dv.alE m l d q s = 0) (he : e = .returned (.tuple #[.agg #[.int .i64 (Dv.aLo m l d q s), .int .i64 (Dv.aHi m l d q s)], .agg #[.int .i64 (Dv.bLo m l d q s), .int .i64 (Dv.bHi m l d q s)], .int .i64 0])) (hb : Below w.heap.size w w') : AlP m l d q s w e w' := by
  refine ⟨?_, hb⟩
  rw [he]
  unfold Dv.alV
  rw [hE]
  simp
theorem within_is (x c : Int) (b : Bool) (h : upB c [x] = b) (w : World) : Calls Try.prog 80 #[.int .i64 x, .int .i64 (-c), .int .i64 c] w fun e w' => e = .returned (.bool b) ∧ w = w' :=
  (within_c x (-c) c w).mono fun _ _ ⟨h1, h2⟩ => ⟨by rw [h1, ← h, ← inB_up], h2⟩
theorem St.tail {w W : World} {l : List BlkRow} {x : BlkRow} (h : St w (x :: l) W) : St w l W := ⟨h.1, h.2.1.sub (fun y hy => by simp [hy]), by have := h.2.2; rw [List.map_cons, List.nodup_cons] at this; exact this.2⟩
theorem alIn_bd {m : Mot} {d q s : Int} (hm : Dv.chk m) (h0 : upB m.cu [d, q] = true) (h1 : upB m.fa [s] = true) : (-1048576 ≤ d ∧ d ≤ 1048576) ∧ (-1048576 ≤ q ∧ q ≤ 1048576) ∧ (-16384 ≤ s ∧ s ≤ 16384) := by
  have a := upB2.1 h0
  have b := upB1.1 h1
  unfold Dv.chk at hm
  omega
theorem both_p (m : Mot) (l : List Sp) (d q s : Int) (g : Nat) (w : World) (hE : Dv.lmE m l = 0) (hg : Blk w g 131 (lmC m (Dv.lmLo m l) (Dv.lmHi m l) (Dv.lmS l).lo (Dv.lmS l).hi)) (hs : -16384 ≤ s ∧ s ≤ 16384) (hd : -1048576 ≤ d ∧ d ≤ 1048576) (hq : -1048576 ≤ q ∧ q ≤ 1048576) :
    Calls Try.prog 109 #[.pointer (some ⟨g, 0, none⟩), .int .i64 d, .int .i64 q, .int .i64 s] w fun e w' => e = .returned (.tuple #[.agg #[.int .i64 (Dv.aLo m l d q s), .int .i64 (Dv.aHi m l d q s)], .agg #[.int .i64 (Dv.bLo m l d q s), .int .i64 (Dv.bHi m l d q s)]]) ∧ Below w.heap.size w w' := by
  obtain ⟨hm, _, hlo, hhi, hsl, hsh, _⟩ := Dv.lm_parts hE
  exact both_c m (Dv.lmLo m l) (Dv.lmHi m l) (Dv.lmS l).lo (Dv.lmS l).hi d q s g w hg hm hlo hhi hs hsl hsh hd hq

set_option maxHeartbeats 4000000 in
set_option maxRecDepth 100000 in
theorem Allowed_c (m : Mot) (A : Option Addr) (l : List Sp) (d q s : Int) (cap : Nat) (w : World) (hx : SpAt w A l) (hll : l.length ≤ 4611686018427387904) :
    Calls Try.prog 57 #[.agg #[.int .i64 m.r, .int .i64 m.ld, .int .i64 m.lq, .int .i64 m.fx, .int .i64 m.po, .int .i64 m.mi, .int .i64 m.sp, .int .i64 m.dr, .int .i64 m.cu, .int .i64 m.fa], .slice A l.length cap, .int .i64 d, .int .i64 q, .int .i64 s] w (AlP m l d q s w) := by
  have HX := Lib.hid hx
  have HLL := Lib.hid hll
  clear hx hll
  have S0 := Lib.hid (show St w [(w.heap.size + 1 + 1, 29, [.int .i64 0, .int .i64 0]), (w.heap.size + 1, 29, [.int .i64 0, .int .i64 0]), (w.heap.size, 52, [.int .i64 m.r, .int .i64 m.ld, .int .i64 m.lq, .int .i64 m.fx, .int .i64 m.po, .int .i64 m.mi, .int .i64 m.sp, .int .i64 m.dr, .int .i64 m.cu, .int .i64 m.fa])] (((w.alloc (.cells #[.int .i64 m.r, .int .i64 m.ld, .int .i64 m.lq, .int .i64 m.fx, .int .i64 m.po, .int .i64 m.mi, .int .i64 m.sp, .int .i64 m.dr, .int .i64 m.cu, .int .i64 m.fa] 52)).alloc (.cells #[.int .i64 0, .int .i64 0] 29)).alloc (.cells #[.int .i64 0, .int .i64 0] 29)) from by
    have := (((St.start w).alloc [.int .i64 m.r, .int .i64 m.ld, .int .i64 m.lq, .int .i64 m.fx, .int .i64 m.po, .int .i64 m.mi, .int .i64 m.sp, .int .i64 m.dr, .int .i64 m.cu, .int .i64 m.fa] 52).alloc [.int .i64 0, .int .i64 0] 29).alloc [.int .i64 0, .int .i64 0] 29
    simp at this
    exact this)
  go_enter Try.func57, Try.ntmps57
  go_wp2_with fail
  refine (newLimiter_c m A l cap _ (HX.out.below S0.out.1) HLL.out).mono ?_
  rintro e w1 ⟨hb1, h⟩
  rcases h with ⟨hne, rfl⟩ | ⟨h0, g, hgz, rfl, hg⟩
  · have S1 := Lib.hid (S0.out.below hb1)
    have HE : Hid (Dv.alE m l d q s = Dv.lmE m l) := Lib.hid (by unfold Dv.alE; rw [if_neg hne])
    have HNE := Lib.hid hne
    have hbt : (Dv.lmE m l != 0) = true := by simpa using hne
    clear hb1 S0 hne
    generalize Dv.lmE m l = E at HE HNE hbt
    have f0 := (S1.out.get 1 rfl).free 0
    have f1 := (S1.out.get 1 rfl).free 1
    have f2 := (S1.out.get 0 rfl).free 0
    have f3 := (S1.out.get 0 rfl).free 1
    have y0 := (S1.out.get 1 rfl).cell 0 rfl
    have y1 := (S1.out.get 1 rfl).cell 1 rfl
    have y2 := (S1.out.get 0 rfl).cell 0 rfl
    have y3 := (S1.out.get 0 rfl).cell 1 rfl
    have zy := (S1.out.get 0 rfl).lt
    go_wp2
    exact bodyPost_ret (v := .tuple #[.agg #[.int .i64 0, .int .i64 0], .agg #[.int .i64 0, .int .i64 0], .int .i64 E]) (by simp [results, Try.results57, go_sem, y0, y1, y2, y3]) rfl (AlP.no HE.out (HNE.out) rfl (below_put2 (below_put2 S1.out.1 (by omega) _ _) (by omega) _ _))
  · have S1 := Lib.hid (S0.out.add hb1 hgz hg)
    have HL := Lib.hid h0
    have HM := Lib.hid (Dv.lm_parts h0).1
    clear hb1 S0 hgz hg h0
    have hm := HM.out
    unfold Dv.chk at hm
    have q8 := (S1.out.get 3 rfl).cell 8 rfl
    have q9 := (S1.out.get 3 rfl).cell 9 rfl
    have zm := (S1.out.get 3 rfl).lt
    go_wp2_with fail
    cases u0 : upB m.cu [d, q]
    · have HE : Hid (Dv.alE m l d q s = 3) := Lib.hid (by unfold Dv.alE Dv.alIn; rw [if_pos HL.out, u0]; rfl)
      refine (up2w m.cu d q w1 _ rfl (by omega) (by omega)).mono ?_
      rintro e w2 ⟨rfl, hb2⟩
      rw [u0]
      have S2 := Lib.hid (S1.out.below hb2)
      clear hb2 S1 q8 q9 u0 zm
      have f0 := (S2.out.get 2 rfl).free 0
      have f1 := (S2.out.get 2 rfl).free 1
      have f2 := (S2.out.get 1 rfl).free 0
      have f3 := (S2.out.get 1 rfl).free 1
      have y0 := (S2.out.get 2 rfl).cell 0 rfl
      have y1 := (S2.out.get 2 rfl).cell 1 rfl
      have y2 := (S2.out.get 1 rfl).cell 0 rfl
      have y3 := (S2.out.get 1 rfl).cell 1 rfl
      have zy := (S2.out.get 1 rfl).lt
      go_wp2
      exact bodyPost_ret (v := .tuple #[.agg #[.int .i64 0, .int .i64 0], .agg #[.int .i64 0, .int .i64 0], .int .i64 3]) (by simp [results, Try.results57, go_sem, y0, y1, y2, y3]) rfl (AlP.no HE.out (by decide) rfl (below_put2 (below_put2 S2.out.1 (by omega) _ _) (by omega) _ _))
    · refine (up2w m.cu d q w1 _ rfl (by omega) (by omega)).mono ?_
      rintro e w2 ⟨rfl, hb2⟩
      rw [u0]
      have S2 := Lib.hid (S1.out.below hb2)
      clear hb2 S1 q8 q9 zm
      have q9 := (S2.out.get 3 rfl).cell 9 rfl
      have zm := (S2.out.get 3 rfl).lt
      go_wp2_with fail
      cases u1 : upB m.fa [s]
      · have HE : Hid (Dv.alE m l d q s = 3) := Lib.hid (by unfold Dv.alE Dv.alIn; rw [if_pos HL.out, u0, u1]; rfl)
        refine (up1w m.fa s w2 _ rfl (by omega) (by omega)).mono ?_
        rintro e w3 ⟨rfl, hb3⟩
        rw [u1]
        have S3 := Lib.hid (S2.out.below hb3)
        clear hb3 S2 q9 u0 u1 zm
        have f0 := (S3.out.get 2 rfl).free 0
        have f1 := (S3.out.get 2 rfl).free 1
        have f2 := (S3.out.get 1 rfl).free 0
        have f3 := (S3.out.get 1 rfl).free 1
        have y0 := (S3.out.get 2 rfl).cell 0 rfl
        have y1 := (S3.out.get 2 rfl).cell 1 rfl
        have y2 := (S3.out.get 1 rfl).cell 0 rfl
        have y3 := (S3.out.get 1 rfl).cell 1 rfl
        have zy := (S3.out.get 1 rfl).lt
        go_wp2
        exact bodyPost_ret (v := .tuple #[.agg #[.int .i64 0, .int .i64 0], .agg #[.int .i64 0, .int .i64 0], .int .i64 3]) (by simp [results, Try.results57, go_sem, y0, y1, y2, y3]) rfl (AlP.no HE.out (by decide) rfl (below_put2 (below_put2 S3.out.1 (by omega) _ _) (by omega) _ _))
      · have HIN : Hid (Dv.alIn m d q s = true) := Lib.hid (by unfold Dv.alIn; rw [u0, u1]; rfl)
        obtain ⟨hd, hq, hs⟩ := alIn_bd HM.out u0 u1
        have KB := Lib.hid (show ∀ W : World, Blk W g 131 (lmC m (Dv.lmLo m l) (Dv.lmHi m l) (Dv.lmS l).lo (Dv.lmS l).hi) → Calls Try.prog 109 #[.pointer (some ⟨g, 0, none⟩), .int .i64 d, .int .i64 q, .int .i64 s] W fun e w' => e = .returned (.tuple #[.agg #[.int .i64 (Dv.aLo m l d q s), .int .i64 (Dv.aHi m l d q s)], .agg #[.int .i64 (Dv.bLo m l d q s), .int .i64 (Dv.bHi m l d q s)]]) ∧ Below W.heap.size W w' from fun W hW => both_p m l d q s g W HL.out hW hs hd hq)
        refine (up1w m.fa s w2 _ rfl (by omega) (by omega)).mono ?_
        rintro e w3 ⟨rfl, hb3⟩
        rw [u1]
        have S3 := Lib.hid (S2.out.below hb3)
        clear hb3 S2 q9 u0 u1 zm hd hq hs
        generalize hx1 : Dv.aLo m l d q s = x1 at KB
        generalize hx2 : Dv.aHi m l d q s = x2 at KB
        generalize hx3 : Dv.bLo m l d q s = x3 at KB
        generalize hx4 : Dv.bHi m l d q s = x4 at KB
        have X1 := Lib.hid hx1
        have X2 := Lib.hid hx2
        have X3 := Lib.hid hx3
        have X4 := Lib.hid hx4
        clear hx1 hx2 hx3 hx4
        go_wp2_with fail
        refine (KB.out _ (S3.out.get 0 rfl)).mono ?_
        rintro e w4 ⟨rfl, hb4⟩
        have S4 := Lib.hid ((((S3.out.below hb4).tail).alloc [.int .i64 x1, .int .i64 x2] 29).alloc [.int .i64 x3, .int .i64 x4] 29)
        clear hb4 S3
        go_upto_region 7 with (fail)
        refine gen_world (fun W => St w [(w4.heap.size + 1, 29, [.int .i64 x3, .int .i64 x4]), (w4.heap.size, 29, [.int .i64 x1, .int .i64 x2]), (w.heap.size + 1 + 1, 29, [.int .i64 0, .int .i64 0]), (w.heap.size + 1, 29, [.int .i64 0, .int .i64 0]), (w.heap.size, 52, [.int .i64 m.r, .int .i64 m.ld, .int .i64 m.lq, .int .i64 m.fx, .int .i64 m.po, .int .i64 m.mi, .int .i64 m.sp, .int .i64 m.dr, .int .i64 m.cu, .int .i64 m.fa])] W) (by have := S4.out; simp at this; exact this) ?_
        clear S4
        generalize w4.heap.size = ga
        clear w4
        rintro w4 i4
        have S4 := Lib.hid i4
        clear i4
        have c0 := (S4.out.get 1 rfl).cell 0 rfl
        have c1 := (S4.out.get 1 rfl).cell 1 rfl
        have c2 := (S4.out.get 0 rfl).cell 0 rfl
        have c3 := (S4.out.get 0 rfl).cell 1 rfl
        have zc0 := (S4.out.get 0 rfl).lt
        have zc1 := (S4.out.get 1 rfl).lt
        have HOK : Hid (∀ b1 b2 : Bool, decide (x1 ≤ x2) = b1 → decide (x3 ≤ x4) = b2 → Dv.alOk m l d q s = (b1 && b2)) := Lib.hid (fun b1 b2 h1 h2 => by unfold Dv.alOk; rw [X1.out, X2.out, X3.out, X4.out, h1, h2])
        by_cases k1 : x1 ≤ x2
        · by_cases k2 : x3 ≤ x4
          · have HE : Hid (Dv.alE m l d q s = 0) := Lib.hid (by unfold Dv.alE; rw [if_pos HL.out, if_pos HIN.out, if_pos (by rw [HOK.out _ _ (decide_eq_true k1) (decide_eq_true k2)]; rfl)])
            have j1 : decide (x2 < x1) = false := decide_eq_false (by omega)
            have j2 : decide (x4 < x3) = false := decide_eq_false (by omega)
            go_upto_region 9 with (fail)
            have f0 := (S4.out.get 3 rfl).free 0
            have f1 := (S4.out.get 3 rfl).free 1
            have f2 := (S4.out.get 2 rfl).free 0
            have f3 := (S4.out.get 2 rfl).free 1
            have y0 := (S4.out.get 3 rfl).cell 0 rfl
            have y1 := (S4.out.get 3 rfl).cell 1 rfl
            have y2 := (S4.out.get 2 rfl).cell 0 rfl
            have y3 := (S4.out.get 2 rfl).cell 1 rfl
            have zy := (S4.out.get 2 rfl).lt
            have n_0_2 := S4.out.ne 0 2 rfl rfl (by decide)
            have n_2_0 := S4.out.ne 2 0 rfl rfl (by decide)
            have n_0_3 := S4.out.ne 0 3 rfl rfl (by decide)
            have n_3_0 := S4.out.ne 3 0 rfl rfl (by decide)
            have n_1_2 := S4.out.ne 1 2 rfl rfl (by decide)
            have n_2_1 := S4.out.ne 2 1 rfl rfl (by decide)
            have n_1_3 := S4.out.ne 1 3 rfl rfl (by decide)
            have n_3_1 := S4.out.ne 3 1 rfl rfl (by decide)
            have n_2_3 := S4.out.ne 2 3 rfl rfl (by decide)
            have n_3_2 := S4.out.ne 3 2 rfl rfl (by decide)
            go_region
            all_goals
              go_wp2
              exact bodyPost_ret (v := .tuple #[.agg #[.int .i64 x1, .int .i64 x2], .agg #[.int .i64 x3, .int .i64 x4], .int .i64 0]) (by simp [results, Try.results57, go_sem, y0, y1, y2, y3]) rfl (AlP.yes HE.out (by rw [X1.out, X2.out, X3.out, X4.out]) (below_put2 (below_put2 S4.out.1.drew (by omega) _ _) (by omega) _ _))
          · have HE : Hid (Dv.alE m l d q s = 17) := Lib.hid (by unfold Dv.alE; rw [if_pos HL.out, if_pos HIN.out, if_neg (by rw [HOK.out _ _ (decide_eq_true k1) (decide_eq_false k2)]; decide)])
            have j1 : decide (x2 < x1) = false := decide_eq_false (by omega)
            have j2 : decide (x4 < x3) = true := decide_eq_true (by omega)
            have f0 := (S4.out.get 3 rfl).free 0
            have f1 := (S4.out.get 3 rfl).free 1
            have f2 := (S4.out.get 2 rfl).free 0
            have f3 := (S4.out.get 2 rfl).free 1
            have y0 := (S4.out.get 3 rfl).cell 0 rfl
            have y1 := (S4.out.get 3 rfl).cell 1 rfl
            have y2 := (S4.out.get 2 rfl).cell 0 rfl
            have y3 := (S4.out.get 2 rfl).cell 1 rfl
            have zy := (S4.out.get 2 rfl).lt
            go_wp2
            exact bodyPost_ret (v := .tuple #[.agg #[.int .i64 0, .int .i64 0], .agg #[.int .i64 0, .int .i64 0], .int .i64 17]) (by simp [results, Try.results57, go_sem, y0, y1, y2, y3]) rfl (AlP.no HE.out (by decide) rfl (below_put2 (below_put2 S4.out.1 (by omega) _ _) (by omega) _ _))
        · have HE : Hid (Dv.alE m l d q s = 17) := Lib.hid (by unfold Dv.alE; rw [if_pos HL.out, if_pos HIN.out, if_neg (by rw [HOK.out _ _ (decide_eq_false k1) rfl]; simp)])
          have j1 : decide (x2 < x1) = true := decide_eq_true (by omega)
          have f0 := (S4.out.get 3 rfl).free 0
          have f1 := (S4.out.get 3 rfl).free 1
          have f2 := (S4.out.get 2 rfl).free 0
          have f3 := (S4.out.get 2 rfl).free 1
          have y0 := (S4.out.get 3 rfl).cell 0 rfl
          have y1 := (S4.out.get 3 rfl).cell 1 rfl
          have y2 := (S4.out.get 2 rfl).cell 0 rfl
          have y3 := (S4.out.get 2 rfl).cell 1 rfl
          have zy := (S4.out.get 2 rfl).lt
          go_wp2
          exact bodyPost_ret (v := .tuple #[.agg #[.int .i64 0, .int .i64 0], .agg #[.int .i64 0, .int .i64 0], .int .i64 17]) (by simp [results, Try.results57, go_sem, y0, y1, y2, y3]) rfl (AlP.no HE.out (by decide) rfl (below_put2 (below_put2 S4.out.1 (by omega) _ _) (by omega) _ _))
set_option maxHeartbeats 4000000 in
set_option maxRecDepth 100000 in
theorem AllowedR_c (m : Mot) (A : Option Addr) (l : List Sp) (d q s : Int) (cap : Nat) (w : World) (hx : SpAt w A l) (hll : l.length ≤ 4611686018427387904) :
    Calls Try.prog 58 #[.agg #[.int .i64 m.r, .int .i64 m.ld, .int .i64 m.lq, .int .i64 m.fx, .int .i64 m.po, .int .i64 m.mi, .int .i64 m.sp, .int .i64 m.dr, .int .i64 m.cu, .int .i64 m.fa], .slice A l.length cap, .int .i64 d, .int .i64 q, .int .i64 s] w (AlP m l d q s w) := by
  have HX := Lib.hid hx
  have HLL := Lib.hid hll
  clear hx hll
  have S0 := Lib.hid (show St w [(w.heap.size + 1 + 1, 29, [.int .i64 0, .int .i64 0]), (w.heap.size + 1, 29, [.int .i64 0, .int .i64 0]), (w.heap.size, 52, [.int .i64 m.r, .int .i64 m.ld, .int .i64 m.lq, .int .i64 m.fx, .int .i64 m.po, .int .i64 m.mi, .int .i64 m.sp, .int .i64 m.dr, .int .i64 m.cu, .int .i64 m.fa])] (((w.alloc (.cells #[.int .i64 m.r, .int .i64 m.ld, .int .i64 m.lq, .int .i64 m.fx, .int .i64 m.po, .int .i64 m.mi, .int .i64 m.sp, .int .i64 m.dr, .int .i64 m.cu, .int .i64 m.fa] 52)).alloc (.cells #[.int .i64 0, .int .i64 0] 29)).alloc (.cells #[.int .i64 0, .int .i64 0] 29)) from by
    have := (((St.start w).alloc [.int .i64 m.r, .int .i64 m.ld, .int .i64 m.lq, .int .i64 m.fx, .int .i64 m.po, .int .i64 m.mi, .int .i64 m.sp, .int .i64 m.dr, .int .i64 m.cu, .int .i64 m.fa] 52).alloc [.int .i64 0, .int .i64 0] 29).alloc [.int .i64 0, .int .i64 0] 29
    simp at this
    exact this)
  go_enter Try.func58, Try.ntmps58
  go_wp2_with fail
  refine (possible_c m A l cap _ (HX.out.below S0.out.1)).mono ?_
  rintro e w1 ⟨rfl, hb1⟩
  have S1 := Lib.hid (S0.out.below hb1)
  clear hb1 S0
  by_cases h0 : Dv.lmE m l = 0
  rotate_left 1
  · have HE : Hid (Dv.alE m l d q s = Dv.lmE m l) := Lib.hid (by unfold Dv.alE; rw [if_neg h0])
    have HNE := Lib.hid h0
    have hbt : (Dv.lmE m l != 0) = true := by simpa using h0
    obtain ⟨m0, m1, m2, m3, m4, m5, m6, m7, m8, m9⟩ := motOf (m := m) (S1.out.get 2 rfl)
    have zm := (S1.out.get 2 rfl).lt
    have KP := Lib.hid (fun (V : World) (hV : Below w.heap.size w V) => possible_c m A l cap V (HX.out.below hV))
    clear h0
    generalize Dv.lmE m l = E at HE HNE hbt KP ⊢
    go_wp2_with fail
    refine (KP.out _ S1.out.1).mono ?_
    rintro e w2 ⟨rfl, hb2⟩
    have S2 := Lib.hid (S1.out.below hb2)
    clear hb2 S1 m0 m1 m2 m3 m4 m5 m6 m7 m8 m9 zm
    have f0 := (S2.out.get 1 rfl).free 0
    have f1 := (S2.out.get 1 rfl).free 1
    have f2 := (S2.out.get 0 rfl).free 0
    have f3 := (S2.out.get 0 rfl).free 1
    have y0 := (S2.out.get 1 rfl).cell 0 rfl
    have y1 := (S2.out.get 1 rfl).cell 1 rfl
    have y2 := (S2.out.get 0 rfl).cell 0 rfl
    have y3 := (S2.out.get 0 rfl).cell 1 rfl
    have zy := (S2.out.get 0 rfl).lt
    go_wp2
    exact bodyPost_ret (v := .tuple #[.agg #[.int .i64 0, .int .i64 0], .agg #[.int .i64 0, .int .i64 0], .int .i64 E]) (by simp [results, Try.results58, go_sem, y0, y1, y2, y3]) rfl (AlP.no HE.out (HNE.out) rfl (below_put2 (below_put2 S2.out.1 (by omega) _ _) (by omega) _ _))
  · have HL := Lib.hid h0
    have HM := Lib.hid (Dv.lm_parts h0).1
    rw [h0]
    clear h0
    have hm := HM.out
    unfold Dv.chk at hm
    have q8 := (S1.out.get 2 rfl).cell 8 rfl
    have q9 := (S1.out.get 2 rfl).cell 9 rfl
    have zm := (S1.out.get 2 rfl).lt
    have HU : Hid (∀ b1 b2 b3, upB m.cu [d] = b1 → upB m.cu [q] = b2 → upB m.fa [s] = b3 → Dv.alIn m d q s = (b1 && b2 && b3)) := Lib.hid (fun b1 b2 b3 h1 h2 h3 => by unfold Dv.alIn; rw [show upB m.cu [d, q] = (upB m.cu [d] && upB m.cu [q]) by simp [upB], h1, h2, h3])
    cases u0 : upB m.cu [d]
    · have HE : Hid (Dv.alE m l d q s = 3) := Lib.hid (by unfold Dv.alE; rw [if_pos HL.out, HU.out _ _ _ u0 rfl rfl]; rfl)
      go_upto_region 4 with (go_at_call 80; (with_reducible refine (within_is d m.cu _ u0 _).mono ?_); rintro e w' ⟨rfl, rfl⟩)
      clear q8 q9 u0 zm
      have f0 := (S1.out.get 1 rfl).free 0
      have f1 := (S1.out.get 1 rfl).free 1
      have f2 := (S1.out.get 0 rfl).free 0
      have f3 := (S1.out.get 0 rfl).free 1
      have y0 := (S1.out.get 1 rfl).cell 0 rfl
      have y1 := (S1.out.get 1 rfl).cell 1 rfl
      have y2 := (S1.out.get 0 rfl).cell 0 rfl
      have y3 := (S1.out.get 0 rfl).cell 1 rfl
      have zy := (S1.out.get 0 rfl).lt
      go_wp2
      exact bodyPost_ret (v := .tuple #[.agg #[.int .i64 0, .int .i64 0], .agg #[.int .i64 0, .int .i64 0], .int .i64 3]) (by simp [results, Try.results58, go_sem, y0, y1, y2, y3]) rfl (AlP.no HE.out (by decide) rfl (below_put2 (below_put2 S1.out.1 (by omega) _ _) (by omega) _ _))
    · cases u1 : upB m.cu [q]
      · have HE : Hid (Dv.alE m l d q s = 3) := Lib.hid (by unfold Dv.alE; rw [if_pos HL.out, HU.out _ _ _ u0 u1 rfl]; rfl)
        go_upto_region 4 with (first | (go_at_call 80; (with_reducible refine (within_is d m.cu _ u0 _).mono ?_); rintro e w' ⟨rfl, rfl⟩) | (go_at_call 80; (with_reducible refine (within_is q m.cu _ u1 _).mono ?_); rintro e w' ⟨rfl, rfl⟩))
        clear q8 q9 u0 u1 zm
        have f0 := (S1.out.get 1 rfl).free 0
        have f1 := (S1.out.get 1 rfl).free 1
        have f2 := (S1.out.get 0 rfl).free 0
        have f3 := (S1.out.get 0 rfl).free 1
        have y0 := (S1.out.get 1 rfl).cell 0 rfl
        have y1 := (S1.out.get 1 rfl).cell 1 rfl
        have y2 := (S1.out.get 0 rfl).cell 0 rfl
        have y3 := (S1.out.get 0 rfl).cell 1 rfl
        have zy := (S1.out.get 0 rfl).lt
        go_wp2
        exact bodyPost_ret (v := .tuple #[.agg #[.int .i64 0, .int .i64 0], .agg #[.int .i64 0, .int .i64 0], .int .i64 3]) (by simp [results, Try.results58, go_sem, y0, y1, y2, y3]) rfl (AlP.no HE.out (by decide) rfl (below_put2 (below_put2 S1.out.1 (by omega) _ _) (by omega) _ _))
      · cases u2 : upB m.fa [s]
        · have HE : Hid (Dv.alE m l d q s = 3) := Lib.hid (by unfold Dv.alE; rw [if_pos HL.out, HU.out _ _ _ u0 u1 u2]; rfl)
          go_upto_region 4 with (first | (go_at_call 80; (with_reducible refine (within_is d m.cu _ u0 _).mono ?_); rintro e w' ⟨rfl, rfl⟩) | (go_at_call 80; (with_reducible refine (within_is q m.cu _ u1 _).mono ?_); rintro e w' ⟨rfl, rfl⟩) | (go_at_call 80; (with_reducible refine (within_is s m.fa _ u2 _).mono ?_); rintro e w' ⟨rfl, rfl⟩))
          clear q8 q9 u0 u1 u2 zm
          have f0 := (S1.out.get 1 rfl).free 0
          have f1 := (S1.out.get 1 rfl).free 1
          have f2 := (S1.out.get 0 rfl).free 0
          have f3 := (S1.out.get 0 rfl).free 1
          have y0 := (S1.out.get 1 rfl).cell 0 rfl
          have y1 := (S1.out.get 1 rfl).cell 1 rfl
          have y2 := (S1.out.get 0 rfl).cell 0 rfl
          have y3 := (S1.out.get 0 rfl).cell 1 rfl
          have zy := (S1.out.get 0 rfl).lt
          go_wp2
          exact bodyPost_ret (v := .tuple #[.agg #[.int .i64 0, .int .i64 0], .agg #[.int .i64 0, .int .i64 0], .int .i64 3]) (by simp [results, Try.results58, go_sem, y0, y1, y2, y3]) rfl (AlP.no HE.out (by decide) rfl (below_put2 (below_put2 S1.out.1 (by omega) _ _) (by omega) _ _))
        · have HIN : Hid (Dv.alIn m d q s = true) := Lib.hid (by rw [HU.out _ _ _ u0 u1 u2]; rfl)
          go_upto_region 5 with (first | (go_at_call 80; (with_reducible refine (within_is d m.cu _ u0 _).mono ?_); rintro e w' ⟨rfl, rfl⟩) | (go_at_call 80; (with_reducible refine (within_is q m.cu _ u1 _).mono ?_); rintro e w' ⟨rfl, rfl⟩) | (go_at_call 80; (with_reducible refine (within_is s m.fa _ u2 _).mono ?_); rintro e w' ⟨rfl, rfl⟩))
          obtain ⟨hd, hq, hs⟩ := alIn_bd HM.out (show upB m.cu [d, q] = true by rw [show upB m.cu [d, q] = (upB m.cu [d] && upB m.cu [q]) by simp [upB], u0, u1]; rfl) u2
          have KB := Lib.hid (fun (V : World) (hV : Below w.heap.size w V) => allowedR_c m A l d q s cap V (HX.out.below hV) HL.out hs hd hq)
          clear q8 q9 u0 u1 u2 hd hq hs
          obtain ⟨m0, m1, m2, m3, m4, m5, m6, m7, m8, m9⟩ := motOf (m := m) (S1.out.get 2 rfl)
          generalize hx1 : Dv.aLo m l d q s = x1 at KB
          generalize hx2 : Dv.aHi m l d q s = x2 at KB
          generalize hx3 : Dv.bLo m l d q s = x3 at KB
          generalize hx4 : Dv.bHi m l d q s = x4 at KB
          have X1 := Lib.hid hx1
          have X2 := Lib.hid hx2
          have X3 := Lib.hid hx3
          have X4 := Lib.hid hx4
          clear hx1 hx2 hx3 hx4
          go_wp2_with fail
          refine (KB.out _ S1.out.1).mono ?_
          rintro e w4 ⟨rfl, hb4⟩
          have S4 := Lib.hid (((S1.out.below hb4).alloc [.int .i64 x1, .int .i64 x2] 29).alloc [.int .i64 x3, .int .i64 x4] 29)
          clear hb4 S1 m0 m1 m2 m3 m4 m5 m6 m7 m8 m9 zm
          go_upto_region 6 with (fail)
          refine gen_world (fun W => St w [(w4.heap.size + 1, 29, [.int .i64 x3, .int .i64 x4]), (w4.heap.size, 29, [.int .i64 x1, .int .i64 x2]), (w.heap.size + 1 + 1, 29, [.int .i64 0, .int .i64 0]), (w.heap.size + 1, 29, [.int .i64 0, .int .i64 0]), (w.heap.size, 52, [.int .i64 m.r, .int .i64 m.ld, .int .i64 m.lq, .int .i64 m.fx, .int .i64 m.po, .int .i64 m.mi, .int .i64 m.sp, .int .i64 m.dr, .int .i64 m.cu, .int .i64 m.fa])] W) (by have := S4.out; simp at this; exact this) ?_
          clear S4
          generalize w4.heap.size = ga
          clear w4
          rintro w4 i4
          have S4 := Lib.hid i4
          clear i4
          have c0 := (S4.out.get 1 rfl).cell 0 rfl
          have c1 := (S4.out.get 1 rfl).cell 1 rfl
          have c2 := (S4.out.get 0 rfl).cell 0 rfl
          have c3 := (S4.out.get 0 rfl).cell 1 rfl
          have zc0 := (S4.out.get 0 rfl).lt
          have zc1 := (S4.out.get 1 rfl).lt
          have HOK : Hid (∀ b1 b2 : Bool, decide (x1 ≤ x2) = b1 → decide (x3 ≤ x4) = b2 → Dv.alOk m l d q s = (b1 && b2)) := Lib.hid (fun b1 b2 h1 h2 => by unfold Dv.alOk; rw [X1.out, X2.out, X3.out, X4.out, h1, h2])
          by_cases k1 : x1 ≤ x2
          · by_cases k2 : x3 ≤ x4
            · have HE : Hid (Dv.alE m l d q s = 0) := Lib.hid (by unfold Dv.alE; rw [if_pos HL.out, if_pos HIN.out, if_pos (by rw [HOK.out _ _ (decide_eq_true k1) (decide_eq_true k2)]; rfl)])
              have j1 : decide (x2 < x1) = false := decide_eq_false (by omega)
              have j2 : decide (x4 < x3) = false := decide_eq_false (by omega)
              go_upto_region 8 with (fail)
              have f0 := (S4.out.get 3 rfl).free 0
              have f1 := (S4.out.get 3 rfl).free 1
              have f2 := (S4.out.get 2 rfl).free 0
              have f3 := (S4.out.get 2 rfl).free 1
              have y0 := (S4.out.get 3 rfl).cell 0 rfl
              have y1 := (S4.out.get 3 rfl).cell 1 rfl
              have y2 := (S4.out.get 2 rfl).cell 0 rfl
              have y3 := (S4.out.get 2 rfl).cell 1 rfl
              have zy := (S4.out.get 2 rfl).lt
              have n_0_2 := S4.out.ne 0 2 rfl rfl (by decide)
              have n_2_0 := S4.out.ne 2 0 rfl rfl (by decide)
              have n_0_3 := S4.out.ne 0 3 rfl rfl (by decide)
              have n_3_0 := S4.out.ne 3 0 rfl rfl (by decide)
              have n_1_2 := S4.out.ne 1 2 rfl rfl (by decide)
              have n_2_1 := S4.out.ne 2 1 rfl rfl (by decide)
              have n_1_3 := S4.out.ne 1 3 rfl rfl (by decide)
              have n_3_1 := S4.out.ne 3 1 rfl rfl (by decide)
              have n_2_3 := S4.out.ne 2 3 rfl rfl (by decide)
              have n_3_2 := S4.out.ne 3 2 rfl rfl (by decide)
              go_region
              all_goals
                go_wp2
                exact bodyPost_ret (v := .tuple #[.agg #[.int .i64 x1, .int .i64 x2], .agg #[.int .i64 x3, .int .i64 x4], .int .i64 0]) (by simp [results, Try.results58, go_sem, y0, y1, y2, y3]) rfl (AlP.yes HE.out (by rw [X1.out, X2.out, X3.out, X4.out]) (below_put2 (below_put2 S4.out.1.drew (by omega) _ _) (by omega) _ _))
            · have HE : Hid (Dv.alE m l d q s = 17) := Lib.hid (by unfold Dv.alE; rw [if_pos HL.out, if_pos HIN.out, if_neg (by rw [HOK.out _ _ (decide_eq_true k1) (decide_eq_false k2)]; decide)])
              have j1 : decide (x2 < x1) = false := decide_eq_false (by omega)
              have j2 : decide (x4 < x3) = true := decide_eq_true (by omega)
              have f0 := (S4.out.get 3 rfl).free 0
              have f1 := (S4.out.get 3 rfl).free 1
              have f2 := (S4.out.get 2 rfl).free 0
              have f3 := (S4.out.get 2 rfl).free 1
              have y0 := (S4.out.get 3 rfl).cell 0 rfl
              have y1 := (S4.out.get 3 rfl).cell 1 rfl
              have y2 := (S4.out.get 2 rfl).cell 0 rfl
              have y3 := (S4.out.get 2 rfl).cell 1 rfl
              have zy := (S4.out.get 2 rfl).lt
              go_wp2
              exact bodyPost_ret (v := .tuple #[.agg #[.int .i64 0, .int .i64 0], .agg #[.int .i64 0, .int .i64 0], .int .i64 17]) (by simp [results, Try.results58, go_sem, y0, y1, y2, y3]) rfl (AlP.no HE.out (by decide) rfl (below_put2 (below_put2 S4.out.1 (by omega) _ _) (by omega) _ _))
          · have HE : Hid (Dv.alE m l d q s = 17) := Lib.hid (by unfold Dv.alE; rw [if_pos HL.out, if_pos HIN.out, if_neg (by rw [HOK.out _ _ (decide_eq_false k1) rfl]; simp)])
            have j1 : decide (x2 < x1) = true := decide_eq_true (by omega)
            have f0 := (S4.out.get 3 rfl).free 0
            have f1 := (S4.out.get 3 rfl).free 1
            have f2 := (S4.out.get 2 rfl).free 0
            have f3 := (S4.out.get 2 rfl).free 1
            have y0 := (S4.out.get 3 rfl).cell 0 rfl
            have y1 := (S4.out.get 3 rfl).cell 1 rfl
            have y2 := (S4.out.get 2 rfl).cell 0 rfl
            have y3 := (S4.out.get 2 rfl).cell 1 rfl
            have zy := (S4.out.get 2 rfl).lt
            go_wp2
            exact bodyPost_ret (v := .tuple #[.agg #[.int .i64 0, .int .i64 0], .agg #[.int .i64 0, .int .i64 0], .int .i64 17]) (by simp [results, Try.results58, go_sem, y0, y1, y2, y3]) rfl (AlP.no HE.out (by decide) rfl (below_put2 (below_put2 S4.out.1 (by omega) _ _) (by omega) _ _))
end Go.Proofs.Ytcneohhfnnelgaa
