/- Contracts that the claim leans on, part 5: T4b T4 T5 T6 N4 N6 N7 N8 N9 N10 N11 T11 T12 T13 -/
import Derived.Test.YtmebpglkeedaoaaDS4
import Derived.Deep.Cut
set_option linter.unusedVariables false
set_option linter.unusedSimpArgs false
set_option linter.unnecessarySimpa false
namespace Go.Proofs.Ytmebpglkeedaoaa
open Go.RowKit Dp
theorem within_b {x lo hi : Int} {b : Bool} (h : b = decide (lo ≤ x ∧ x ≤ hi)) (w : World) : Calls Try.prog 60 #[.int .i64 x, .int .i64 lo, .int .i64 hi] w fun e w' => e = .returned (.bool b) ∧ w = w' := by
  rw [h]; exact within_c x lo hi w
noncomputable def loop41b : Code := ((Try.f41.body.bind (blockOf 4)).getD .skip)
noncomputable def end41b : Code := ((Try.f41.body.bind (behind 4)).getD .skip)
set_option maxHeartbeats 8000000 in
set_option maxRecDepth 100000 in
theorem plr4 (A B C D E P Q : Option Addr) (S : Site) (cs : List Car) (T : Tab) (n nB nC nD m cA cB cC cD cE cP cQ : Nat) (w W0 : World) (bt : Nat) (hn : n = S.lim.length) (hnB : nB = S.exp.length) (hm : m = cs.length) (hE : m ≤ cE ∧ cE ≤ 9223372036854775807) (hP : m ≤ cP ∧ cP ≤ 9223372036854775807) (hQ : m ≤ cQ ∧ cQ ≤ 9223372036854775807)
    (h0 : stE S cs = 0) (hl : (lenG cs.length S.lim.length T.inn && lenG cs.length S.lim.length T.out) = true) (hS : SiteAt w A B C D S) (hcs : CarsAt w E cs) (hT : TabAt w P Q T) (hXS : Blk W0 w.heap.size 51 [.slice A n cA, .slice B nB cB, .slice C nC cC, .slice D nD cD]) (hX : Blk W0 bt 55 [.slice P m cP, .slice Q m cQ]) (hB : Below w.heap.size w W0)
    {K : Act → World → Prop} (hK : ∀ a w', Code.wp Try.prog end41b (bodyPost Try.prog Try.f41 (R41 S cs T w)) a w' → K a w') {x0 x2 x4 x6 x8 x9 x11 x12 x13 x14 x15 x16 x17 x18 x19 x20 x21 x22 x23 x24 x25 x26 x27 x28 x29 x30 x31 x32 x33 x34 x35 x36 x37 x38 x39 x40 x41 x42 x43 x44 x45 x46 x47 x48 x49 x50 x51 x52 x53 x54 x55 x56 x57 x58 x59 x60 x61 x62 x63 x64 x65 x66 x67 x68 x69 x70 x71 x72 x73 x74 x75 x76 x77 x78 x79 x80 x81 x82 x83 x84 x85 x86 x87 x88 x89 x90 x91 x92 x93 x94 x95 x96 x97 x98 x99 x100 x101 x102 x103 x104 x105 x106 x107 x108 x109 x110 x111 x112 x113 x114 x115 x116 x117 x118 x119 x120 x121 x122 x123 x124 x125 x126 x127 x128 x129 x130 x131 x132 x133 x134 x135 x136 x137 x138 x139 x140 x141 x142 x143 x144 x145 x146 x147 x148 x149 x150 x151 x152 x153 x154 x155 x156 x157 x158 x159 x160 x161 x162 x163 x164 x165 x166 x167 x168 x169 x170 x171 x172 x173 x174 x175 x176 x177 x178 x179 x180 x181 x182 x183 x184 x185 x186 x187 x188 x189 x190 x191 x192 x193 x194 x195 x196 x197 x198 x199 x200 x201 x202 x203 x204 x205 x206 x207 x208 x209 x210 x211 x212 x213 x214 x215 x216 x217 x218 x219 x220 x221 x222 x223 x224 x225 x226 x227 x228 : Value} :
    Code.wp Try.prog loop41b (Exit.inBlock 4 (Exit.then K (bodyPost Try.prog Try.f41 (R41 S cs T w)))) { tmps := List.toArray (x0 :: (.slice E m cE : Value) :: x2 :: (.pointer (some ⟨w.heap.size, 0, none⟩) : Value) :: x4 :: (.pointer (some ⟨bt, 0, none⟩) : Value) :: x6 :: (.int .i64 n : Value) :: x8 :: x9 :: (.int .i64 0 : Value) :: x11 :: x12 :: x13 :: x14 :: x15 :: x16 :: x17 :: x18 :: x19 :: x20 :: x21 :: x22 :: x23 :: x24 :: x25 :: x26 :: x27 :: x28 :: x29 :: x30 :: x31 :: x32 :: x33 :: x34 :: x35 :: x36 :: x37 :: x38 :: x39 :: x40 :: x41 :: x42 :: x43 :: x44 :: x45 :: x46 :: x47 :: x48 :: x49 :: x50 :: x51 :: x52 :: x53 :: x54 :: x55 :: x56 :: x57 :: x58 :: x59 :: x60 :: x61 :: x62 :: x63 :: x64 :: x65 :: x66 :: x67 :: x68 :: x69 :: x70 :: x71 :: x72 :: x73 :: x74 :: x75 :: x76 :: x77 :: x78 :: x79 :: x80 :: x81 :: x82 :: x83 :: x84 :: x85 :: x86 :: x87 :: x88 :: x89 :: x90 :: x91 :: x92 :: x93 :: x94 :: x95 :: x96 :: x97 :: x98 :: x99 :: x100 :: x101 :: x102 :: x103 :: x104 :: x105 :: x106 :: x107 :: x108 :: x109 :: x110 :: x111 :: x112 :: x113 :: x114 :: x115 :: x116 :: x117 :: x118 :: x119 :: x120 :: x121 :: x122 :: x123 :: x124 :: x125 :: x126 :: x127 :: x128 :: x129 :: x130 :: x131 :: x132 :: x133 :: x134 :: x135 :: x136 :: x137 :: x138 :: x139 :: x140 :: x141 :: x142 :: x143 :: x144 :: x145 :: x146 :: x147 :: x148 :: x149 :: x150 :: x151 :: x152 :: x153 :: x154 :: x155 :: x156 :: x157 :: x158 :: x159 :: x160 :: x161 :: x162 :: x163 :: x164 :: x165 :: x166 :: x167 :: x168 :: x169 :: x170 :: x171 :: x172 :: x173 :: x174 :: x175 :: x176 :: x177 :: x178 :: x179 :: x180 :: x181 :: x182 :: x183 :: x184 :: x185 :: x186 :: x187 :: x188 :: x189 :: x190 :: x191 :: x192 :: x193 :: x194 :: x195 :: x196 :: x197 :: x198 :: x199 :: x200 :: x201 :: x202 :: x203 :: x204 :: x205 :: x206 :: x207 :: x208 :: x209 :: x210 :: x211 :: x212 :: x213 :: x214 :: x215 :: x216 :: x217 :: x218 :: x219 :: x220 :: x221 :: x222 :: x223 :: x224 :: x225 :: x226 :: x227 :: x228 :: []), defers := [] } W0 := by
  have HN := Lib.hid hn
  have HM := Lib.hid hm
  have H0 := Lib.hid h0
  have HL := Lib.hid hl
  have HLG : Hid ((T.inn.length = cs.length ∧ ∀ i, i < cs.length → (T.inn.getD i []).length = S.lim.length) ∧ (T.out.length = cs.length ∧ ∀ i, i < cs.length → (T.out.getD i []).length = S.lim.length)) := Lib.hid (by
    rw [Bool.and_eq_true] at hl
    exact ⟨lenG_iff.1 hl.1, lenG_iff.1 hl.2⟩)
  have HS := Lib.hid hS
  have HCS := Lib.hid hcs
  have HT := Lib.hid hT
  have XT := Lib.hid hX
  have XS := Lib.hid hXS
  have HB := Lib.hid hB
  have SH := Lib.hid (siteHead_iff.1 (stE_0 h0).2.1)
  have h48 : n ≤ 48 := by have h3 := (siteHead_iff.1 (stE_0 h0).2.1).1; omega
  have h8 : m ≤ 8 := by have h3 := (stE_0 h0).1; omega
  obtain rfl : nB = n := by have h3 := SH.out.2.1; omega
  clear hn hnB hm h0 hl hS hcs hT hX hXS hB
  conv => arg 2; whnf
  go_loopw [10, 11, 12] (fun iv _ _ wr => ∃ k : Nat, k ≤ nB ∧ iv = .int .i64 k ∧ Hid (Below W0.heap.size W0 wr ∧ ∀ j, j < k → slotE S cs T j = 0)) (fun iv _ _ _ => nB - (intOf iv).toNat)
  case atStart => exact ⟨0, Nat.zero_le _, rfl, Lib.hid ⟨Below.refl _ _, fun x hx => absurd hx (Nat.not_lt_zero _)⟩⟩
  case round =>
    obtain ⟨k, hk, rfl, HJ⟩ := hrel
    have HBW := Lib.hid (HB.out.trans (HJ.out.1.mono HB.out.size))
    by_cases hlt : k < nB
    · have hki : (k : Int) < (nB : Int) := by omega
      have kS : k < S.lim.length := by rw [← HN.out]; exact hlt
      go_wp2_with fail
      go_loopw [11, 12] (fun iv _ wr => ∃ i : Nat, i ≤ m ∧ iv = .int .i64 i ∧ Hid (Below W0.heap.size W0 wr ∧ ∀ x, x < i → carAt cs T k x = true)) (fun iv _ _ => m - (intOf iv).toNat)
      case atStart => exact ⟨0, Nat.zero_le _, rfl, Lib.hid ⟨HJ.out.1, fun x hx => absurd hx (Nat.not_lt_zero _)⟩⟩
      case round =>
        obtain ⟨i, hi, rfl, HI⟩ := hrel
        have HBI := Lib.hid (HB.out.trans (HI.out.1.mono HB.out.size))
        by_cases hlt2 : i < m
        · have hii : (i : Int) < (m : Int) := by omega
          have il : i < cs.length := by rw [← HM.out]; exact hlt2
          have HCA := Lib.hid (show carAt cs T k i = carG (cs.getD i default) ((T.inn.getD i []).getD k 0) ((T.out.getD i []).getD k 0) (awayC (cs.getD i default) k) from rfl)
          have HEE : Hid (carAt cs T k i = false → plE S cs T = 3) := Lib.hid (fun h => plE_slot H0.out HL.out kS HJ.out.2 (slotE_car il h) (by decide))
          have HGO : Hid (carAt cs T k i = true → ∀ x, x < i + 1 → carAt cs T k x = true) := Lib.hid (fun h x hx => by
            by_cases e : x = i
            · subst e; exact h
            · exact HI.out.2 x (by omega))
          obtain ⟨ad, hE2, abl, c0, c1, c2, c3, c4, TT, cT, c5, hcT, HTT⟩ := (HCS.out.below HBI.out (Nat.le_refl _)) i il
          subst hE2
          have HTR := Lib.hid HTT
          clear HTT
          obtain ⟨pa, hP2, pal, PT, cPT, p0, pb, pi⟩ := (HT.out.below HBI.out (Nat.le_refl _)).1 i (by rw [HLG.out.1.1]; exact il)
          obtain ⟨qa, hQ2, qal, QT, cQT, q0, qb, qi⟩ := (HT.out.below HBI.out (Nat.le_refl _)).2 i (by rw [HLG.out.2.1]; exact il)
          subst hP2
          subst hQ2
          have L1 := HLG.out.1.2 i il
          have L2 := HLG.out.2.2 i il
          rw [L1, ← HN.out] at p0 pb
          rw [L2, ← HN.out] at q0 qb
          obtain ⟨pd, hpd, pdl, px⟩ := pi k (by rw [L1]; exact kS)
          obtain ⟨qd, hqd, qdl, qx⟩ := qi k (by rw [L2]; exact kS)
          subst hpd
          subst hqd
          generalize carAt cs T k i = ca at *
          generalize hcc : cs.getD i default = c at *
          clear hcc
          obtain ⟨cap, inn, out, start, fin, trips⟩ := c
          simp only at c0 c1 c2 c3 c4 c5 hcT HTR
          generalize (T.inn.getD i []).getD k 0 = x at *
          generalize (T.out.getD i []).getD k 0 = y at *
          obtain ⟨qn, hqn⟩ : ∃ qn, qn = trips.length := ⟨_, rfl⟩
          rw [← hqn] at c5 hcT
          have HQN := Lib.hid hqn
          clear hqn pi qi L1 L2
          obtain ⟨aw, haw⟩ : ∃ aw, aw = awayC ⟨cap, inn, out, start, fin, trips⟩ k := ⟨_, rfl⟩
          rw [← haw] at HCA
          have HAW : Hid (∀ V, Below wr.heap.size wr V → Calls Try.prog 84 #[.agg #[.int .i64 cap, .int .i64 inn, .int .i64 out, .int .i64 start, .int .i64 fin, .slice TT qn cT], .int .i64 ((k : Nat) : Int)] V fun e w' => e = .returned (.bool aw) ∧ Below V.heap.size V w') := Lib.hid (fun V hV => by
            have := away_c (.int .i64 cap) (.int .i64 inn) (.int .i64 out) (.int .i64 start) (.int .i64 fin) k TT trips qn cT V HQN.out hcT (HTR.out.below hV (Nat.le_refl _))
            rw [haw, show awayC ⟨cap, inn, out, start, fin, trips⟩ k = awayP trips k qn from by rw [HQN.out]; rfl]
            exact this)
          clear haw
          have HCG := Lib.hid (HCA.out.trans rfl)
          have HP0 : Hid (∀ V, Below wr.heap.size wr V → ((V.cell? (pa.add i) = some (.slice (some pd) nB cPT) ∧ (pa.add i).block < V.heap.size) ∧ (V.cell? (qa.add i) = some (.slice (some qd) nB cQT) ∧ (qa.add i).block < V.heap.size)) ∧ ((V.cell? (pd.add k) = some (.int .i64 x) ∧ (pd.add k).block < V.heap.size) ∧ (V.cell? (qd.add k) = some (.int .i64 y) ∧ (qd.add k).block < V.heap.size))) := Lib.hid (fun V hV => by
            have z := hV.size
            exact ⟨⟨⟨(hV.cell (by rw [block_add]; omega)).trans p0, by rw [block_add]; omega⟩, ⟨(hV.cell (by rw [block_add]; omega)).trans q0, by rw [block_add]; omega⟩⟩, ⟨⟨(hV.cell (by rw [block_add]; omega)).trans px, by rw [block_add]; omega⟩, ⟨(hV.cell (by rw [block_add]; omega)).trans qx, by rw [block_add]; omega⟩⟩⟩)
          clear p0 q0 pal qal px qx pdl qdl
          go_upto_region 25 with fail
          have HWX := Lib.hid ((Below.refl wr.heap.size wr).alloc (Nat.le_refl _) (.cells #[.int .i64 cap, .int .i64 inn, .int .i64 out, .int .i64 start, .int .i64 fin, .slice TT qn cT] 63))
          have XC := Lib.hid (Blk.new' wr #[.int .i64 cap, .int .i64 inn, .int .i64 out, .int .i64 start, .int .i64 fin, .slice TT qn cT] 63)
          clear c0 c1 c2 c3 c4 c5 abl
          generalize wr.alloc (.cells #[.int .i64 cap, .int .i64 inn, .int .i64 out, .int .i64 start, .int .i64 fin, .slice TT qn cT] 63) = wx at HWX XC ⊢
          obtain ⟨gc, hgc⟩ : ∃ gc, gc = wr.heap.size := ⟨_, rfl⟩
          rw [← hgc] at XC ⊢
          clear hgc
          obtain ⟨⟨⟨pa0, pab⟩, ⟨qa0, qab⟩⟩, ⟨⟨px0, pxb⟩, ⟨qx0, qxb⟩⟩⟩ := HP0.out wx HWX.out
          have e0 := XC.out.cell 0 rfl
          have e1 := XC.out.cell 1 rfl
          have e2 := XC.out.cell 2 rfl
          have e3 := XC.out.cell 3 rfl
          have e4 := XC.out.cell 4 rfl
          have e5 := XC.out.cell 5 rfl
          have el := XC.out.lt
          have XTV := XT.out.below (HI.out.1.trans (HWX.out.mono HI.out.1.size)) XT.out.lt
          have t0 := XTV.cell 0 rfl
          have t1 := XTV.cell 1 rfl
          have tl := XTV.lt
          clear XTV
          by_cases g1 : 0 ≤ x ∧ x ≤ inn
          rotate_left
          · have W1 := Lib.hid (fun V => within_b (x := x) (lo := 0) (hi := inn) (b := false) (decide_eq_false g1).symm V)
            have EE := Lib.hid (HEE.out (by rw [HCA.out]; exact decide_eq_false (fun h => by simp only at h; omega)))
            refine wp_region_past (by kernel_rfl) (by kernel_rfl) ?_
            repeat (go_big_quiet_step ((go_at_call 60; exact past_same (W1.out _))))
            refine wpQuiet_nil ?_
            intro xx
            have HZ := Lib.hid (HI.out.1.trans ((HWX.out.trans (xx.far.mono HWX.out.size)).mono HI.out.1.size))
            generalize xx.w = w3 at HZ ⊢
            go_wp2_with fail
            go_ret
            exact ⟨ret_int EE.out.symm, HB.out.trans (HZ.out.mono HB.out.size)⟩
          have W1 := Lib.hid (fun V => within_b (x := x) (lo := 0) (hi := inn) (b := true) (decide_eq_true g1).symm V)
          by_cases g2 : 0 ≤ y ∧ y ≤ out
          rotate_left
          · have W2 := Lib.hid (fun V => within_b (x := y) (lo := 0) (hi := out) (b := false) (decide_eq_false g2).symm V)
            have EE := Lib.hid (HEE.out (by rw [HCA.out]; exact decide_eq_false (fun h => by simp only at h; omega)))
            refine wp_region_past (by kernel_rfl) (by kernel_rfl) ?_
            repeat (go_big_quiet_step ((first | (go_at_call 60; first | with_reducible exact past_same (W1.out _) | with_reducible exact past_same (W2.out _)) | (go_at_call 84; exact past_below (HAW.out _ (HWX.out.trans ((Past.far _).mono HWX.out.size)))))))
            refine wpQuiet_nil ?_
            intro xx
            have HZ := Lib.hid (HI.out.1.trans ((HWX.out.trans (xx.far.mono HWX.out.size)).mono HI.out.1.size))
            generalize xx.w = w3 at HZ ⊢
            go_wp2_with fail
            go_ret
            exact ⟨ret_int EE.out.symm, HB.out.trans (HZ.out.mono HB.out.size)⟩
          have W2 := Lib.hid (fun V => within_b (x := y) (lo := 0) (hi := out) (b := true) (decide_eq_true g2).symm V)
          cases aw
          · have EE := Lib.hid (HGO.out (by rw [HCA.out]; exact decide_eq_true (by simp only; refine ⟨g1, g2, fun h => ?_⟩; cases h)))
            refine wp_region_past (by kernel_rfl) (by kernel_rfl) ?_
            repeat (go_big_quiet_step ((first | (go_at_call 60; first | with_reducible exact past_same (W1.out _) | with_reducible exact past_same (W2.out _)) | (go_at_call 84; exact past_below (HAW.out _ (HWX.out.trans ((Past.far _).mono HWX.out.size)))))))
            refine wpQuiet_nil ?_
            intro xx
            have HZ := Lib.hid (HI.out.1.trans ((HWX.out.trans (xx.far.mono HWX.out.size)).mono HI.out.1.size))
            generalize xx.w = w3 at HZ ⊢
            go_wp2_with fail
            exact ⟨⟨i + 1, by omega, by go_num, Lib.hid ⟨HZ.out, EE.out⟩⟩, by simp [intOf]; omega⟩
          · by_cases g3 : x = 0
            · subst g3
              by_cases g4 : y = 0
              · subst g4
                have EE := Lib.hid (HGO.out (by rw [HCA.out]; exact decide_eq_true (by simp only; exact ⟨g1, g2, fun _ => rfl⟩)))
                refine wp_region_past (by kernel_rfl) (by kernel_rfl) ?_
                repeat (go_big_quiet_step ((first | (go_at_call 60; first | with_reducible exact past_same (W1.out _) | with_reducible exact past_same (W2.out _)) | (go_at_call 84; exact past_below (HAW.out _ (HWX.out.trans ((Past.far _).mono HWX.out.size)))))))
                refine wpQuiet_nil ?_
                intro xx
                have HZ := Lib.hid (HI.out.1.trans ((HWX.out.trans (xx.far.mono HWX.out.size)).mono HI.out.1.size))
                generalize xx.w = w3 at HZ ⊢
                go_wp2_with fail
                exact ⟨⟨i + 1, by omega, by go_num, Lib.hid ⟨HZ.out, EE.out⟩⟩, by simp [intOf]; omega⟩
              · have g4b : (y == 0) = false := by simpa using g4
                have EE := Lib.hid (HEE.out (by rw [HCA.out]; exact decide_eq_false (fun h => by simp only at h; have := h.2.2 (by trivial); omega)))
                refine wp_region_past (by kernel_rfl) (by kernel_rfl) ?_
                repeat (go_big_quiet_step ((first | (go_at_call 60; first | with_reducible exact past_same (W1.out _) | with_reducible exact past_same (W2.out _)) | (go_at_call 84; exact past_below (HAW.out _ (HWX.out.trans ((Past.far _).mono HWX.out.size)))))))
                refine wpQuiet_nil ?_
                intro xx
                have HZ := Lib.hid (HI.out.1.trans ((HWX.out.trans (xx.far.mono HWX.out.size)).mono HI.out.1.size))
                generalize xx.w = w3 at HZ ⊢
                go_wp2_with fail
                go_ret
                exact ⟨ret_int EE.out.symm, HB.out.trans (HZ.out.mono HB.out.size)⟩
            · have g3b : (x == 0) = false := by simpa using g3
              have g3c : (x != 0) = true := by simpa using g3
              have g3d : decide (x = 0) = false := by simpa using g3
              have EE := Lib.hid (HEE.out (by rw [HCA.out]; exact decide_eq_false (fun h => by simp only at h; have := h.2.2 (by trivial); omega)))
              refine wp_region_past (by kernel_rfl) (by kernel_rfl) ?_
              repeat (go_big_quiet_step ((first | (go_at_call 60; first | with_reducible exact past_same (W1.out _) | with_reducible exact past_same (W2.out _)) | (go_at_call 84; exact past_below (HAW.out _ (HWX.out.trans ((Past.far _).mono HWX.out.size)))))))
              refine wpQuiet_nil ?_
              intro xx
              have HZ := Lib.hid (HI.out.1.trans ((HWX.out.trans (xx.far.mono HWX.out.size)).mono HI.out.1.size))
              generalize xx.w = w3 at HZ ⊢
              go_wp2_with fail
              go_ret
              exact ⟨ret_int EE.out.symm, HB.out.trans (HZ.out.mono HB.out.size)⟩
        · obtain rfl : m = i := by omega
          have HALL : Hid (∀ x, x < cs.length → carAt cs T k x = true) := Lib.hid (fun x hx => HI.out.2 x (by rw [HM.out]; exact hx))
          have HSB := Lib.hid (slot_bd H0.out HL.out kS HALL.out)
          have HTI : Hid (m = T.inn.length ∧ m = T.out.length) := Lib.hid ⟨HM.out.trans HLG.out.1.1.symm, HM.out.trans HLG.out.2.1.symm⟩
          rw [← HM.out] at HSB
          have HDR := Lib.hid (fun V (hV : Below w.heap.size w V) => drawnR_c P Q T m m cP cQ k V HTI.out.1 HTI.out.2 (Nat.le_refl _) h8 hP hQ (HT.out.below hV (Nat.le_refl _)) HSB.out)
          have HLIM : Hid (¬ (drP T k m ≤ S.lim.getD k 0 ∧ -(S.exp.getD k 0) ≤ drP T k m) → plE S cs T = 17) := Lib.hid (fun h => plE_slot H0.out HL.out kS HJ.out.2 (slotE_lim HALL.out (by rw [← HTI.out.1]; exact h)) (by decide))
          have HNX : Hid ((drP T k m ≤ S.lim.getD k 0 ∧ -(S.exp.getD k 0) ≤ drP T k m) → ∀ j, j < k + 1 → slotE S cs T j = 0) := Lib.hid (fun h j hj => by
            by_cases e : j = k
            · subst e; exact slotE_ok HALL.out (by rw [← HTI.out.1]; exact h)
            · exact HJ.out.2 j (by omega))
          have SB := slotOk_iff.1 ((stE_0 H0.out).2.2.1 k kS)
          obtain ⟨la, hla, lal, lx⟩ := (HS.out.below HBI.out (Nat.le_refl _)).1 k kS
          obtain ⟨ea, hea, eal, ex⟩ := (HS.out.below HBI.out (Nat.le_refl _)).2.1 k (by rw [SH.out.2.1]; exact kS)
          have XSV := XS.out.below HI.out.1 XS.out.lt
          have s0 := XSV.cell 0 rfl
          have s1 := XSV.cell 1 rfl
          have sl := XSV.lt
          have XTV := XT.out.below HI.out.1 XT.out.lt
          have t0 := XTV.cell 0 rfl
          have t1 := XTV.cell 1 rfl
          have tl := XTV.lt
          clear XTV XSV
          rw [hla] at s0
          rw [hea] at s1
          have la2 : (la.add k).block < wr.heap.size := by rw [block_add]; exact lal
          have ea2 : (ea.add k).block < wr.heap.size := by rw [block_add]; exact eal
          clear hla hea
          generalize S.lim.getD k 0 = lm at *
          generalize S.exp.getD k 0 = ep at *
          generalize drP T k m = d at *
          have wne : IntKind.i64.wrap (-ep) = -ep := IntWalk.i64_in _ (by omega)
          clear SB
          go_upto_region 27 with fail
          by_cases g : -ep ≤ d ∧ d ≤ lm
          · have W3 := Lib.hid (fun V => within_b (x := d) (lo := -ep) (hi := lm) (b := true) (decide_eq_true g).symm V)
            have EE := Lib.hid (HNX.out ⟨g.2, g.1⟩)
            refine wp_region_past (by kernel_rfl) (by kernel_rfl) ?_
            repeat (go_big_quiet_step ((first | (go_at_call 60; exact past_same (W3.out _)) | (go_at_call 85; exact past_below (HDR.out _ (HBI.out.trans ((Past.far _).mono HBI.out.size)))))))
            refine wpQuiet_nil ?_
            intro xx
            have HZ := Lib.hid (HI.out.1.trans (xx.far.mono HI.out.1.size))
            generalize xx.w = w3 at HZ ⊢
            go_wp2_with fail
            go_roundw
            case measure => simp [intOf]; omega
            case rel => exact ⟨k + 1, by omega, by go_num, Lib.hid ⟨HZ.out, EE.out⟩⟩
          · have W3 := Lib.hid (fun V => within_b (x := d) (lo := -ep) (hi := lm) (b := false) (decide_eq_false g).symm V)
            have EE := Lib.hid (HLIM.out (fun h => g ⟨h.2, h.1⟩))
            refine wp_region_past (by kernel_rfl) (by kernel_rfl) ?_
            repeat (go_big_quiet_step ((first | (go_at_call 60; exact past_same (W3.out _)) | (go_at_call 85; exact past_below (HDR.out _ (HBI.out.trans ((Past.far _).mono HBI.out.size)))))))
            refine wpQuiet_nil ?_
            intro xx
            have HZ := Lib.hid (HI.out.1.trans (xx.far.mono HI.out.1.size))
            generalize xx.w = w3 at HZ ⊢
            go_wp2_with fail
            go_ret
            exact ⟨ret_int EE.out.symm, HB.out.trans (HZ.out.mono HB.out.size)⟩
    · obtain rfl : nB = k := by omega
      have HSS : Hid (∀ j, j < S.lim.length → slotE S cs T j = 0) := Lib.hid (fun j hj => HJ.out.2 j (by rw [HN.out]; exact hj))
      have XTE := Lib.hid (XT.out.below HJ.out.1 XT.out.lt)
      go_wp2_with fail
      conv => arg 2; whnf
      go_wp2_with fail
      rename_i KK hKK
      refine wp_codeP (c' := loop41c) (by kernel_rfl) ?_
      exact plr8 A B C D E P Q S cs T nB nB nC nD m cA cB cC cD cE cP cQ w wr bt HN.out HM.out hE hP hQ H0.out HL.out HSS.out HCS.out HT.out XTE.out HBW.out (fun a w' h => hKK a w' (wp_codeP (by kernel_rfl) h))
end Go.Proofs.Ytmebpglkeedaoaa
namespace Go.Proofs.Ytmebpglkeedaoaa
open Go.RowKit Dp
theorem lenG_no {m n : Nat} {l : List (List Int)} (h : ¬ (l.length = m ∧ ∀ i, i < m → (l.getD i []).length = n)) : lenG m n l = false := by
  cases hb : lenG m n l
  · rfl
  · exact absurd (lenG_iff.1 hb) h
set_option maxHeartbeats 8000000 in
set_option maxRecDepth 100000 in
theorem CheckPlanR_c (A B C D E P Q : Option Addr) (S : Site) (cs : List Car) (T : Tab) (n nB nC nD m p q cA cB cC cD cE cP cQ : Nat) (w : World) (hn : n = S.lim.length) (hnB : nB = S.exp.length) (hnC : nC = S.buy.length) (hnD : nD = S.sell.length) (hm : m = cs.length) (hp : p = T.inn.length) (hq : q = T.out.length)
    (hA : n ≤ cA ∧ cA ≤ 9223372036854775807) (hB : nB ≤ cB ∧ cB ≤ 9223372036854775807) (hC : nC ≤ cC ∧ cC ≤ 9223372036854775807) (hD : nD ≤ cD ∧ cD ≤ 9223372036854775807) (hE : m ≤ cE ∧ cE ≤ 9223372036854775807) (hP : p ≤ cP ∧ cP ≤ 9223372036854775807) (hQ : q ≤ cQ ∧ cQ ≤ 9223372036854775807)
    (hS : SiteAt w A B C D S) (hcs : CarsAt w E cs) (hT : TabAt w P Q T) :
    Calls Try.prog 41 #[.agg #[.slice A n cA, .slice B nB cB, .slice C nC cC, .slice D nD cD], .slice E m cE, .agg #[.slice P p cP, .slice Q q cQ]] w (R41 S cs T w) := by
  have HN := Lib.hid hn
  have HNB := Lib.hid hnB
  have HM := Lib.hid hm
  have HP := Lib.hid hp
  have HQ := Lib.hid hq
  have HS := Lib.hid hS
  have HCS := Lib.hid hcs
  have HT := Lib.hid hT
  have F31 : Hid (∀ V, Below w.heap.size w V → Calls Try.prog 31 #[.agg #[.slice A n cA, .slice B nB cB, .slice C nC cC, .slice D nD cD], .slice E m cE] V fun e w' => e = .returned (.int .i64 (stE S cs)) ∧ Below V.heap.size V w') := Lib.hid (fun V hV => CheckSiteR_c A B C D E S cs n nB nC nD m cA cB cC cD cE V hn hnB hnC hnD hm hA hB hC hD hE (hS.below hV (Nat.le_refl _)) (hcs.below hV (Nat.le_refl _)))
  clear hn hnB hnC hnD hm hp hq hS hcs hT
  have HB := Lib.hid (((Below.refl w.heap.size w).alloc (Nat.le_refl _) (.cells #[.slice A n cA, .slice B nB cB, .slice C nC cC, .slice D nD cD] 51)).alloc (by simp) (.cells #[.slice P p cP, .slice Q q cQ] 55))
  have XS := Lib.hid ((Blk.new' w #[.slice A n cA, .slice B nB cB, .slice C nC cC, .slice D nD cD] 51).alloc (.cells #[.slice P p cP, .slice Q q cQ] 55))
  have XT := Lib.hid (show Blk ((w.alloc (.cells #[.slice A n cA, .slice B nB cB, .slice C nC cC, .slice D nD cD] 51)).alloc (.cells #[.slice P p cP, .slice Q q cQ] 55)) (w.heap.size + 1) 55 [.slice P p cP, .slice Q q cQ] from by simpa using Blk.new' (w.alloc (.cells #[.slice A n cA, .slice B nB cB, .slice C nC cC, .slice D nD cD] 51)) #[.slice P p cP, .slice Q q cQ] 55)
  go_enter Try.func41, Try.ntmps41
  go_upto_region 1 with fail
  generalize (w.alloc (.cells #[.slice A n cA, .slice B nB cB, .slice C nC cC, .slice D nD cD] 51)).alloc (.cells #[.slice P p cP, .slice Q q cQ] 55) = w1 at HB XS XT ⊢
  have XSV := XS.out
  have s0 := XSV.cell 0 rfl
  have s1 := XSV.cell 1 rfl
  have s2 := XSV.cell 2 rfl
  have s3 := XSV.cell 3 rfl
  have sl := XSV.lt
  clear XSV
  obtain ⟨v, hv⟩ : ∃ v, v = stE S cs := ⟨_, rfl⟩
  rw [← hv] at F31
  have HV := Lib.hid hv
  clear hv
  go_wp2_with fail
  refine (F31.out w1 HB.out).mono ?_
  rintro e w2 ⟨rfl, hb⟩
  have HB2 := Lib.hid (HB.out.trans (hb.mono HB.out.size))
  have XS2 := Lib.hid (XS.out.below hb XS.out.lt)
  have XT2 := Lib.hid (XT.out.below hb XT.out.lt)
  clear hb s0 s1 s2 s3 sl HB XS XT
  by_cases h0 : v = 0
  rotate_left
  · have hb0 : (v == 0) = false := by simpa using h0
    have EE := Lib.hid (plE_site (S := S) (cs := cs) (T := T) (by rw [← HV.out]; exact h0))
    rw [← HV.out] at EE
    have XSV := XS2.out
    have s0 := XSV.cell 0 rfl
    have s1 := XSV.cell 1 rfl
    have s2 := XSV.cell 2 rfl
    have s3 := XSV.cell 3 rfl
    have sl := XSV.lt
    clear XSV
    go_wp2_with fail
    refine (F31.out w2 HB2.out).mono ?_
    rintro e w3 ⟨rfl, hb⟩
    have HB3 := Lib.hid (HB2.out.trans (hb.mono HB2.out.size))
    clear hb s0 s1 s2 s3 sl
    go_wp2_with fail
    go_ret
    exact ⟨ret_int EE.out.symm, HB3.out⟩
  subst h0
  have HZ : Hid (stE S cs = 0) := Lib.hid HV.out.symm
  clear HV
  have XSV := XS2.out
  have s0 := XSV.cell 0 rfl
  have s1 := XSV.cell 1 rfl
  have s2 := XSV.cell 2 rfl
  have s3 := XSV.cell 3 rfl
  have sl := XSV.lt
  clear XSV
  have XTV := XT2.out
  have t0 := XTV.cell 0 rfl
  have t1 := XTV.cell 1 rfl
  have tl := XTV.lt
  clear XTV
  have HTW := Lib.hid (HT.out.below HB2.out (Nat.le_refl _))
  by_cases hpm : p = m
  rotate_left
  · have hpb : ((p : Int) == (m : Int)) = false := by simp; omega
    have EE := Lib.hid (plE_len HZ.out (T := T) (by rw [lenG_no (fun h => hpm (by rw [HP.out, HM.out]; exact h.1))]; rfl))
    go_wp2_with fail
    go_ret
    exact ⟨ret_int EE.out.symm, HB2.out⟩
  subst hpm
  go_wp2_with fail
  go_loop [8] (fun iv => ∃ i : Nat, i ≤ p ∧ iv = .int .i64 i ∧ Hid (∀ x, x < i → (T.inn.getD x []).length = S.lim.length)) (fun iv => p - (intOf iv).toNat)
  case atStart => exact ⟨0, Nat.zero_le _, rfl, Lib.hid (fun x hx => absurd hx (Nat.not_lt_zero _))⟩
  case round =>
    obtain ⟨i, hi, rfl, HI⟩ := hrel
    by_cases hlt : i < p
    · have hii : (i : Int) < (p : Int) := by omega
      obtain ⟨pa, hP2, pal, PT, cPT, p0, pb, pi⟩ := HTW.out.1 i (by rw [← HP.out]; exact hlt)
      subst hP2
      have HE : Hid ((T.inn.getD i []).length = (T.inn.getD i []).length) := Lib.hid rfl
      obtain ⟨ln, hln⟩ : ∃ ln, ln = (T.inn.getD i []).length := ⟨_, rfl⟩
      rw [← hln] at p0 pb
      have HLN := Lib.hid hln
      clear hln pi
      have pb2 : (pa.add i).block < w2.heap.size := by rw [block_add]; exact pal
      by_cases hl : ln = n
      · subst hl
        have HNX : Hid (∀ x, x < i + 1 → (T.inn.getD x []).length = S.lim.length) := Lib.hid (fun x hx => by
          by_cases e : x = i
          · subst e; rw [← HLN.out]; exact HN.out
          · exact HI.out x (by omega))
        go_wp2_with fail
        exact ⟨⟨i + 1, by omega, by go_num, HNX⟩, by simp [intOf]; omega⟩
      · have hlb : ((ln : Int) == (n : Int)) = false := by simp; omega
        have EE := Lib.hid (plE_len HZ.out (T := T) (by rw [lenG_no (fun h => hl (by rw [HLN.out, HN.out]; exact h.2 i (by rw [← HM.out]; exact hlt)))]; rfl))
        go_wp2_with fail
        go_ret
        exact ⟨ret_int EE.out.symm, HB2.out⟩
    · obtain rfl : p = i := by omega
      have HI1 := HI
      clear HI
      by_cases hqm : q = p
      rotate_left
      · have hqb : ((q : Int) == (p : Int)) = false := by simp; omega
        have EE := Lib.hid (plE_len HZ.out (T := T) (by rw [lenG_no (l := T.out) (fun h => hqm (by rw [HQ.out, HM.out]; exact h.1))]; exact Bool.and_false _))
        go_wp2_with fail
        go_ret
        exact ⟨ret_int EE.out.symm, HB2.out⟩
      subst hqm
      go_wp2_with fail
      go_loop [9] (fun iv => ∃ i : Nat, i ≤ q ∧ iv = .int .i64 i ∧ Hid (∀ x, x < i → (T.out.getD x []).length = S.lim.length)) (fun iv => q - (intOf iv).toNat)
      case atStart => exact ⟨0, Nat.zero_le _, rfl, Lib.hid (fun x hx => absurd hx (Nat.not_lt_zero _))⟩
      case round =>
        obtain ⟨i, hi, rfl, HI⟩ := hrel
        by_cases hlt : i < q
        · have hii : (i : Int) < (q : Int) := by omega
          obtain ⟨pa, hP2, pal, PT, cPT, p0, pb, pi⟩ := HTW.out.2 i (by rw [← HQ.out]; exact hlt)
          subst hP2
          have HE : Hid ((T.out.getD i []).length = (T.out.getD i []).length) := Lib.hid rfl
          obtain ⟨ln, hln⟩ : ∃ ln, ln = (T.out.getD i []).length := ⟨_, rfl⟩
          rw [← hln] at p0 pb
          have HLN := Lib.hid hln
          clear hln pi
          have pb2 : (pa.add i).block < w2.heap.size := by rw [block_add]; exact pal
          by_cases hl : ln = n
          · subst hl
            have HNX : Hid (∀ x, x < i + 1 → (T.out.getD x []).length = S.lim.length) := Lib.hid (fun x hx => by
              by_cases e : x = i
              · subst e; rw [← HLN.out]; exact HN.out
              · exact HI.out x (by omega))
            go_wp2_with fail
            exact ⟨⟨i + 1, by omega, by go_num, HNX⟩, by simp [intOf]; omega⟩
          · have hlb : ((ln : Int) == (n : Int)) = false := by simp; omega
            have EE := Lib.hid (plE_len HZ.out (T := T) (by rw [lenG_no (l := T.out) (fun h => hl (by rw [HLN.out, HN.out]; exact h.2 i (by rw [← HM.out]; exact hlt)))]; exact Bool.and_false _))
            go_wp2_with fail
            go_ret
            exact ⟨ret_int EE.out.symm, HB2.out⟩
        · obtain rfl : q = i := by omega
          have HLL : Hid ((lenG cs.length S.lim.length T.inn && lenG cs.length S.lim.length T.out) = true) := Lib.hid (by
            rw [Bool.and_eq_true]
            exact ⟨lenG_iff.2 ⟨HP.out.symm.trans HM.out, fun x hx => HI1.out x (by rw [HM.out]; exact hx)⟩, lenG_iff.2 ⟨HQ.out.symm.trans HM.out, fun x hx => HI.out x (by rw [HM.out]; exact hx)⟩⟩)
          go_wp2_with fail
          rename_i KK hKK _
          refine wp_codeP (c' := loop41b) (by kernel_rfl) ?_
          exact plr4 A B C D E P Q S cs T n nB nC nD q cA cB cC cD cE cP cQ w w2 (w.heap.size + 1) HN.out HNB.out HM.out hE hP hQ HZ.out HLL.out HS.out HCS.out HT.out XS2.out XT2.out HB2.out (fun a w' h => hKK a w' (wp_codeP (by kernel_rfl) h))
end Go.Proofs.Ytmebpglkeedaoaa
namespace Go.Proofs.Ytmebpglkeedaoaa
open Go.RowKit Dp
set_option maxHeartbeats 4000000 in
set_option maxRecDepth 100000 in
theorem Price_c (A B C D E P Q : Option Addr) (S : Site) (cs : List Car) (T : Tab) (n nB nC nD m p q cA cB cC cD cE cP cQ : Nat) (w : World) (hn : n = S.lim.length) (hnB : nB = S.exp.length) (hnC : nC = S.buy.length) (hnD : nD = S.sell.length) (hm : m = cs.length) (hp : p = T.inn.length) (hq : q = T.out.length)
    (hA : n ≤ cA ∧ cA ≤ 9223372036854775807) (hB : nB ≤ cB ∧ cB ≤ 9223372036854775807) (hC : nC ≤ cC ∧ cC ≤ 9223372036854775807) (hD : nD ≤ cD ∧ cD ≤ 9223372036854775807) (hE : m ≤ cE ∧ cE ≤ 9223372036854775807) (hP : p ≤ cP ∧ cP ≤ 9223372036854775807) (hQ : q ≤ cQ ∧ cQ ≤ 9223372036854775807)
    (hS : SiteAt w A B C D S) (hcs : CarsAt w E cs) (hT : TabAt w P Q T) :
    Calls Try.prog 38 #[.agg #[.slice A n cA, .slice B nB cB, .slice C nC cC, .slice D nD cD], .slice E m cE, .agg #[.slice P p cP, .slice Q q cQ]] w fun e w' => e = .returned (.tuple #[.int .i64 (prcV S cs T), .int .i64 (plE S cs T)]) ∧ Below w.heap.size w w' := by
  have F32 : Hid (∀ V, Below w.heap.size w V → Calls Try.prog 32 #[.agg #[.slice A n cA, .slice B nB cB, .slice C nC cC, .slice D nD cD], .slice E m cE, .agg #[.slice P p cP, .slice Q q cQ]] V fun e w' => e = .returned (.int .i64 (plE S cs T)) ∧ Below V.heap.size V w') := Lib.hid (fun V hV => CheckPlan_c A B C D E P Q S cs T n nB nC nD m p q cA cB cC cD cE cP cQ V hn hnB hnC hnD hm hp hq hA hB hC hD hE hP hQ (hS.below hV (Nat.le_refl _)) (hcs.below hV (Nat.le_refl _)) (hT.below hV (Nat.le_refl _)))
  have F81 : Hid (plE S cs T = 0 → ∀ V, Below w.heap.size w V → Calls Try.prog 81 #[.agg #[.slice A n cA, .slice B nB cB, .slice C nC cC, .slice D nD cD], .agg #[.slice P p cP, .slice Q q cQ]] V fun e w' => e = .returned (.int .i64 (prc S T cs.length S.lim.length)) ∧ Below V.heap.size V w') := Lib.hid (fun h0 V hV => by
    have HK := plE_0 h0
    have S0 := stE_0 HK.ok
    have SH := siteHead_iff.1 S0.2.1
    have e1 : p = m := by rw [hp, hm, HK.li]
    have e2 : q = m := by rw [hq, hm, HK.lo]
    subst e1
    subst e2
    have e3 : nC = nD := by omega
    have e4 : n = nD := by omega
    subst e3
    subst e4
    rw [← hm, ← hn]
    exact price_c A B C D P Q S T n nB n n q q cA cB cC cD cP cQ V hn (by omega) (by omega) hp hq (Nat.le_refl _) (by omega) (by omega) rfl rfl hP hQ (hS.below hV (Nat.le_refl _)) (hT.below hV (Nat.le_refl _)) (fun k hk => ⟨S0.2.2.1 k (by omega), by have := HK.slot (k := k) (by omega); rwa [← hm] at this⟩))
  have HV0 : Hid (plE S cs T = 0 → prcV S cs T = prc S T cs.length S.lim.length) := Lib.hid (fun h => by unfold prcV; rw [if_pos h])
  have HV1 : Hid (plE S cs T ≠ 0 → prcV S cs T = 0) := Lib.hid (fun h => by unfold prcV; rw [if_neg h])
  clear hn hnB hnC hnD hm hp hq hS hcs hT
  obtain ⟨v, hv⟩ : ∃ v, v = plE S cs T := ⟨_, rfl⟩
  rw [← hv] at F32 F81 HV0 HV1 ⊢
  clear hv
  have HB := Lib.hid (((Below.refl w.heap.size w).alloc (Nat.le_refl _) (.cells #[.slice A n cA, .slice B nB cB, .slice C nC cC, .slice D nD cD] 51)).alloc (by simp) (.cells #[.slice P p cP, .slice Q q cQ] 55))
  have XS := Lib.hid ((Blk.new' w #[.slice A n cA, .slice B nB cB, .slice C nC cC, .slice D nD cD] 51).alloc (.cells #[.slice P p cP, .slice Q q cQ] 55))
  have XT := Lib.hid (show Blk ((w.alloc (.cells #[.slice A n cA, .slice B nB cB, .slice C nC cC, .slice D nD cD] 51)).alloc (.cells #[.slice P p cP, .slice Q q cQ] 55)) (w.heap.size + 1) 55 [.slice P p cP, .slice Q q cQ] from by simpa using Blk.new' (w.alloc (.cells #[.slice A n cA, .slice B nB cB, .slice C nC cC, .slice D nD cD] 51)) #[.slice P p cP, .slice Q q cQ] 55)
  go_enter Try.func38, Try.ntmps38
  go_upto_region 1 with fail
  generalize (w.alloc (.cells #[.slice A n cA, .slice B nB cB, .slice C nC cC, .slice D nD cD] 51)).alloc (.cells #[.slice P p cP, .slice Q q cQ] 55) = w1 at HB XS XT ⊢
  have s0 := XS.out.cell 0 rfl
  have s1 := XS.out.cell 1 rfl
  have s2 := XS.out.cell 2 rfl
  have s3 := XS.out.cell 3 rfl
  have t0 := XT.out.cell 0 rfl
  have t1 := XT.out.cell 1 rfl
  have sl := XS.out.lt
  have tl := XT.out.lt
  go_wp2_with fail
  refine (F32.out w1 HB.out).mono ?_
  rintro e w2 ⟨rfl, hb⟩
  have HB2 := Lib.hid (HB.out.trans (hb.mono HB.out.size))
  have XS2 := Lib.hid (XS.out.below hb XS.out.lt)
  have XT2 := Lib.hid (XT.out.below hb XT.out.lt)
  clear hb s0 s1 s2 s3 t0 t1 sl tl
  have s0 := XS2.out.cell 0 rfl
  have s1 := XS2.out.cell 1 rfl
  have s2 := XS2.out.cell 2 rfl
  have s3 := XS2.out.cell 3 rfl
  have t0 := XT2.out.cell 0 rfl
  have t1 := XT2.out.cell 1 rfl
  have sl := XS2.out.lt
  have tl := XT2.out.lt
  by_cases h0 : v = 0
  rotate_left
  · have hb0 : (v == 0) = false := by simpa using h0
    have EE := Lib.hid (HV1.out h0)
    go_wp2_with fail
    exact bodyPost_ret (v := .tuple #[.int .i64 0, .int .i64 v]) (by simp [results, Try.results38, go_sem]) rfl ⟨by rw [EE.out], HB2.out⟩
  subst h0
  have G81 := F81.out rfl w2 HB2.out
  have EE := Lib.hid (HV0.out rfl)
  generalize prc S T cs.length S.lim.length = pv at *
  go_wp2_with fail
  refine G81.mono ?_
  rintro e w3 ⟨rfl, hb⟩
  have HB3 := Lib.hid (HB2.out.trans (hb.mono HB2.out.size))
  have XS3 := Lib.hid (XS2.out.below hb XS2.out.lt)
  have XT3 := Lib.hid (XT2.out.below hb XT2.out.lt)
  clear hb s0 s1 s2 s3 t0 t1 sl tl
  go_wp2_with fail
  exact bodyPost_ret (v := .tuple #[.int .i64 pv, .int .i64 0]) (by simp [results, Try.results38, go_sem]) rfl ⟨by rw [EE.out], HB3.out⟩
set_option maxHeartbeats 4000000 in
set_option maxRecDepth 100000 in
theorem PriceR_c (A B C D E P Q : Option Addr) (S : Site) (cs : List Car) (T : Tab) (n nB nC nD m p q cA cB cC cD cE cP cQ : Nat) (w : World) (hn : n = S.lim.length) (hnB : nB = S.exp.length) (hnC : nC = S.buy.length) (hnD : nD = S.sell.length) (hm : m = cs.length) (hp : p = T.inn.length) (hq : q = T.out.length)
    (hA : n ≤ cA ∧ cA ≤ 9223372036854775807) (hB : nB ≤ cB ∧ cB ≤ 9223372036854775807) (hC : nC ≤ cC ∧ cC ≤ 9223372036854775807) (hD : nD ≤ cD ∧ cD ≤ 9223372036854775807) (hE : m ≤ cE ∧ cE ≤ 9223372036854775807) (hP : p ≤ cP ∧ cP ≤ 9223372036854775807) (hQ : q ≤ cQ ∧ cQ ≤ 9223372036854775807)
    (hS : SiteAt w A B C D S) (hcs : CarsAt w E cs) (hT : TabAt w P Q T) :
    Calls Try.prog 39 #[.agg #[.slice A n cA, .slice B nB cB, .slice C nC cC, .slice D nD cD], .slice E m cE, .agg #[.slice P p cP, .slice Q q cQ]] w fun e w' => e = .returned (.tuple #[.int .i64 (prcV S cs T), .int .i64 (plE S cs T)]) ∧ Below w.heap.size w w' := by
  have F32 : Hid (∀ V, Below w.heap.size w V → Calls Try.prog 41 #[.agg #[.slice A n cA, .slice B nB cB, .slice C nC cC, .slice D nD cD], .slice E m cE, .agg #[.slice P p cP, .slice Q q cQ]] V fun e w' => e = .returned (.int .i64 (plE S cs T)) ∧ Below V.heap.size V w') := Lib.hid (fun V hV => CheckPlanR_c A B C D E P Q S cs T n nB nC nD m p q cA cB cC cD cE cP cQ V hn hnB hnC hnD hm hp hq hA hB hC hD hE hP hQ (hS.below hV (Nat.le_refl _)) (hcs.below hV (Nat.le_refl _)) (hT.below hV (Nat.le_refl _)))
  have F81 : Hid (plE S cs T = 0 → ∀ V, Below w.heap.size w V → Calls Try.prog 82 #[.agg #[.slice A n cA, .slice B nB cB, .slice C nC cC, .slice D nD cD], .agg #[.slice P p cP, .slice Q q cQ]] V fun e w' => e = .returned (.int .i64 (prc S T cs.length S.lim.length)) ∧ Below V.heap.size V w') := Lib.hid (fun h0 V hV => by
    have HK := plE_0 h0
    have S0 := stE_0 HK.ok
    have SH := siteHead_iff.1 S0.2.1
    have e1 : p = m := by rw [hp, hm, HK.li]
    have e2 : q = m := by rw [hq, hm, HK.lo]
    subst e1
    subst e2
    have e3 : nC = nD := by omega
    have e4 : n = nD := by omega
    subst e3
    subst e4
    rw [← hm, ← hn]
    exact priceR_c A B C D P Q S T n nB n n q q cA cB cC cD cP cQ V hn (by omega) (by omega) hp hq (Nat.le_refl _) (by omega) (by omega) rfl rfl hP hQ (hS.below hV (Nat.le_refl _)) (hT.below hV (Nat.le_refl _)) (fun k hk => ⟨S0.2.2.1 k (by omega), by have := HK.slot (k := k) (by omega); rwa [← hm] at this⟩))
  have HV0 : Hid (plE S cs T = 0 → prcV S cs T = prc S T cs.length S.lim.length) := Lib.hid (fun h => by unfold prcV; rw [if_pos h])
  have HV1 : Hid (plE S cs T ≠ 0 → prcV S cs T = 0) := Lib.hid (fun h => by unfold prcV; rw [if_neg h])
  clear hn hnB hnC hnD hm hp hq hS hcs hT
  obtain ⟨v, hv⟩ : ∃ v, v = plE S cs T := ⟨_, rfl⟩
  rw [← hv] at F32 F81 HV0 HV1 ⊢
  clear hv
  have HB := Lib.hid (((Below.refl w.heap.size w).alloc (Nat.le_refl _) (.cells #[.slice A n cA, .slice B nB cB, .slice C nC cC, .slice D nD cD] 51)).alloc (by simp) (.cells #[.slice P p cP, .slice Q q cQ] 55))
  have XS := Lib.hid ((Blk.new' w #[.slice A n cA, .slice B nB cB, .slice C nC cC, .slice D nD cD] 51).alloc (.cells #[.slice P p cP, .slice Q q cQ] 55))
  have XT := Lib.hid (show Blk ((w.alloc (.cells #[.slice A n cA, .slice B nB cB, .slice C nC cC, .slice D nD cD] 51)).alloc (.cells #[.slice P p cP, .slice Q q cQ] 55)) (w.heap.size + 1) 55 [.slice P p cP, .slice Q q cQ] from by simpa using Blk.new' (w.alloc (.cells #[.slice A n cA, .slice B nB cB, .slice C nC cC, .slice D nD cD] 51)) #[.slice P p cP, .slice Q q cQ] 55)
  go_enter Try.func39, Try.ntmps39
  go_upto_region 1 with fail
  generalize (w.alloc (.cells #[.slice A n cA, .slice B nB cB, .slice C nC cC, .slice D nD cD] 51)).alloc (.cells #[.slice P p cP, .slice Q q cQ] 55) = w1 at HB XS XT ⊢
  have s0 := XS.out.cell 0 rfl
  have s1 := XS.out.cell 1 rfl
  have s2 := XS.out.cell 2 rfl
  have s3 := XS.out.cell 3 rfl
  have t0 := XT.out.cell 0 rfl
  have t1 := XT.out.cell 1 rfl
  have sl := XS.out.lt
  have tl := XT.out.lt
  go_wp2_with fail
  refine (F32.out w1 HB.out).mono ?_
  rintro e w2 ⟨rfl, hb⟩
  have HB2 := Lib.hid (HB.out.trans (hb.mono HB.out.size))
  have XS2 := Lib.hid (XS.out.below hb XS.out.lt)
  have XT2 := Lib.hid (XT.out.below hb XT.out.lt)
  clear hb s0 s1 s2 s3 t0 t1 sl tl
  have s0 := XS2.out.cell 0 rfl
  have s1 := XS2.out.cell 1 rfl
  have s2 := XS2.out.cell 2 rfl
  have s3 := XS2.out.cell 3 rfl
  have t0 := XT2.out.cell 0 rfl
  have t1 := XT2.out.cell 1 rfl
  have sl := XS2.out.lt
  have tl := XT2.out.lt
  by_cases h0 : v = 0
  rotate_left
  · have hb0 : (v == 0) = false := by simpa using h0
    have EE := Lib.hid (HV1.out h0)
    go_wp2_with fail
    refine (F32.out w2 HB2.out).mono ?_
    rintro e w3 ⟨rfl, hb⟩
    have HB3 := Lib.hid (HB2.out.trans (hb.mono HB2.out.size))
    have XS3 := Lib.hid (XS2.out.below hb XS2.out.lt)
    have XT3 := Lib.hid (XT2.out.below hb XT2.out.lt)
    clear hb s0 s1 s2 s3 t0 t1 sl tl
    go_wp2_with fail
    exact bodyPost_ret (v := .tuple #[.int .i64 0, .int .i64 v]) (by simp [results, Try.results39, go_sem]) rfl ⟨by rw [EE.out], HB3.out⟩
  subst h0
  have G81 := F81.out rfl w2 HB2.out
  have EE := Lib.hid (HV0.out rfl)
  generalize prc S T cs.length S.lim.length = pv at *
  go_wp2_with fail
  refine G81.mono ?_
  rintro e w3 ⟨rfl, hb⟩
  have HB3 := Lib.hid (HB2.out.trans (hb.mono HB2.out.size))
  have XS3 := Lib.hid (XS2.out.below hb XS2.out.lt)
  have XT3 := Lib.hid (XT2.out.below hb XT2.out.lt)
  clear hb s0 s1 s2 s3 t0 t1 sl tl
  go_wp2_with fail
  exact bodyPost_ret (v := .tuple #[.int .i64 pv, .int .i64 0]) (by simp [results, Try.results39, go_sem]) rfl ⟨by rw [EE.out], HB3.out⟩
end Go.Proofs.Ytmebpglkeedaoaa
namespace Go.Proofs.Ytmebpglkeedaoaa
open Go.RowKit Dp
theorem stepV_new {P : Program} {o : Oper} {a : Act} {w : World} {N : Value → World → Prop} (O : Obj) (vf : Nat → Value) (h : ∀ w : World, (execOp a.eval o).run P w = .ok (.value (vf w.heap.size)) (w.alloc O)) (k : N (vf w.heap.size) (w.alloc O)) : StepV P o a w N := by
  unfold StepV; rw [h]; exact k
theorem stepV_call {P : Program} {o : Oper} {a : Act} {w : World} {N : Value → World → Prop} {f : FuncId} {args : Array Value} (h : ∀ w : World, (execOp a.eval o).run P w = .ok (.enter f args) w) (k : Calls P f args w fun e w' => ∃ v, e = .returned v ∧ N v w') : StepV P o a w N := by
  unfold StepV; rw [h]; exact k
theorem RowsO.below {D : Nat} {w w' : World} {i n : Nat} {vs : List Value} {cs : List Car} {T : Tab} (h : RowsO D w i n vs cs T) (hb : Below w.heap.size w w') : RowsO D w' i n vs cs T := fun x hx => by
  obtain ⟨u, h1, h2⟩ := h x hx
  exact ⟨u, h1, ownV_below h2 hb⟩
theorem RowsO.grown {D B' : Nat} {w w' : World} {i n n' z' : Nat} {e' : TypeId} {v' : Value} {xs' vs : List Value} {cs : List Car} {T : Tab} (h : RowsO D w i n vs cs T) (h' : w.ownsRow B' e' z' v' n' xs') (hne : (2 : TypeId) ≠ e') (hg : w.grownBy w' v'.ownBlock) : RowsO D w' i n vs cs T := fun x hx => by
  obtain ⟨u, h1, h2⟩ := h x hx
  exact ⟨u, h1, ownV_other h2 h' hne hg⟩
theorem RowsO.add {D : Nat} {w : World} {i n : Nat} {vs : List Value} {cs : List Car} {T : Tab} {v : Value} (h : RowsO D w i n vs cs T) (hl : vs.length = i) (hv : w.ownsRow D 2 1 v (n + 1) ((lvN (cs.getD i default) (T.inn.getD i []) (T.out.getD i []) (n + 1)).map (.int .i64))) : RowsO D w (i + 1) n (vs ++ [v]) cs T := fun x hx => by
  by_cases e : x = i
  · subst e
    exact ⟨v, by rw [List.getElem?_append_right (by omega)]; simp [hl], hv⟩
  · obtain ⟨u, h1, h2⟩ := h x (by omega)
    exact ⟨u, by rw [List.getElem?_append_left (by omega)]; exact h1, h2⟩
theorem own_len {w : World} {D e n : Nat} {v : Value} {vs : List Value} (h : w.ownsRow D e 1 v n vs) : vs.length = n := by have := h.1; omega
set_option maxHeartbeats 4000000 in
set_option maxRecDepth 100000 in
theorem LevelsR_c (A B C D E P Q : Option Addr) (S : Site) (cs : List Car) (T : Tab) (n nB nC nD m p q cA cB cC cD cE cP cQ : Nat) (w : World) (hn : n = S.lim.length) (hnB : nB = S.exp.length) (hnC : nC = S.buy.length) (hnD : nD = S.sell.length) (hm : m = cs.length) (hp : p = T.inn.length) (hq : q = T.out.length)
    (hA : n ≤ cA ∧ cA ≤ 9223372036854775807) (hB : nB ≤ cB ∧ cB ≤ 9223372036854775807) (hC : nC ≤ cC ∧ cC ≤ 9223372036854775807) (hD : nD ≤ cD ∧ cD ≤ 9223372036854775807) (hE : m ≤ cE ∧ cE ≤ 9223372036854775807) (hP : p ≤ cP ∧ cP ≤ 9223372036854775807) (hQ : q ≤ cQ ∧ cQ ≤ 9223372036854775807)
    (hS : SiteAt w A B C D S) (hcs : CarsAt w E cs) (hT : TabAt w P Q T) :
    Calls Try.prog 40 #[.agg #[.slice A n cA, .slice B nB cB, .slice C nC cC, .slice D nD cD], .slice E m cE, .agg #[.slice P p cP, .slice Q q cQ]] w (LevP S cs T n m w) := by
  have HN := Lib.hid hn
  have HM := Lib.hid hm
  have HP := Lib.hid hp
  have HQ := Lib.hid hq
  have HT := Lib.hid hT
  have HCS := Lib.hid hcs
  have F32 : Hid (∀ V, Below w.heap.size w V → Calls Try.prog 41 #[.agg #[.slice A n cA, .slice B nB cB, .slice C nC cC, .slice D nD cD], .slice E m cE, .agg #[.slice P p cP, .slice Q q cQ]] V fun e w' => e = .returned (.int .i64 (plE S cs T)) ∧ Below V.heap.size V w') := Lib.hid (fun V hV => CheckPlanR_c A B C D E P Q S cs T n nB nC nD m p q cA cB cC cD cE cP cQ V hn hnB hnC hnD hm hp hq hA hB hC hD hE hP hQ (hS.below hV (Nat.le_refl _)) (hcs.below hV (Nat.le_refl _)) (hT.below hV (Nat.le_refl _)))
  have HPOST : Hid (∀ e w', LevP S cs T n m w e w' ↔ (Below w.heap.size w w' ∧ ((plE S cs T = 0 ∧ ∃ v vs, e = .returned (.tuple #[v, .int .i64 0]) ∧ w'.ownsRow w.heap.size 22 1 v m vs ∧ RowsO w.heap.size w' m n vs cs T) ∨ (plE S cs T ≠ 0 ∧ e = .returned (.tuple #[.slice none 0 0, .int .i64 (plE S cs T)]))))) := Lib.hid (fun e w' => Iff.rfl)
  clear hn hnB hnC hnD hm hp hq hS hcs hT
  have HB := Lib.hid (((Below.refl w.heap.size w).alloc (Nat.le_refl _) (.cells #[.slice A n cA, .slice B nB cB, .slice C nC cC, .slice D nD cD] 51)).alloc (by simp) (.cells #[.slice P p cP, .slice Q q cQ] 55))
  have XS := Lib.hid ((Blk.new' w #[.slice A n cA, .slice B nB cB, .slice C nC cC, .slice D nD cD] 51).alloc (.cells #[.slice P p cP, .slice Q q cQ] 55))
  have XT := Lib.hid (show Blk ((w.alloc (.cells #[.slice A n cA, .slice B nB cB, .slice C nC cC, .slice D nD cD] 51)).alloc (.cells #[.slice P p cP, .slice Q q cQ] 55)) (w.heap.size + 1) 55 [.slice P p cP, .slice Q q cQ] from by simpa using Blk.new' (w.alloc (.cells #[.slice A n cA, .slice B nB cB, .slice C nC cC, .slice D nD cD] 51)) #[.slice P p cP, .slice Q q cQ] 55)
  obtain ⟨v, hv⟩ : ∃ v, v = plE S cs T := ⟨_, rfl⟩
  rw [← hv] at F32 HPOST
  have HV := Lib.hid hv
  clear hv
  generalize LevP S cs T n m w = POST at *
  go_enter Try.func40, Try.ntmps40
  go_upto_region 1 with fail
  generalize (w.alloc (.cells #[.slice A n cA, .slice B nB cB, .slice C nC cC, .slice D nD cD] 51)).alloc (.cells #[.slice P p cP, .slice Q q cQ] 55) = w1 at HB XS XT ⊢
  have s0 := XS.out.cell 0 rfl
  have s1 := XS.out.cell 1 rfl
  have s2 := XS.out.cell 2 rfl
  have s3 := XS.out.cell 3 rfl
  have t0 := XT.out.cell 0 rfl
  have t1 := XT.out.cell 1 rfl
  have sl := XS.out.lt
  have tl := XT.out.lt
  go_wp2_with fail
  refine (F32.out w1 HB.out).mono ?_
  rintro e w2 ⟨rfl, hb⟩
  have HB2 := Lib.hid (HB.out.trans (hb.mono HB.out.size))
  have XS2 := Lib.hid (XS.out.below hb XS.out.lt)
  have XT2 := Lib.hid (XT.out.below hb XT.out.lt)
  clear hb s0 s1 s2 s3 t0 t1 sl tl
  by_cases h0 : v = 0
  rotate_left
  · have hb0 : (v == 0) = false := by simpa using h0
    have EE := Lib.hid h0
    have s0 := XS2.out.cell 0 rfl
    have s1 := XS2.out.cell 1 rfl
    have s2 := XS2.out.cell 2 rfl
    have s3 := XS2.out.cell 3 rfl
    have t0 := XT2.out.cell 0 rfl
    have t1 := XT2.out.cell 1 rfl
    have sl := XS2.out.lt
    have tl := XT2.out.lt
    go_wp2_with fail
    refine (F32.out w2 HB2.out).mono ?_
    rintro e w3 ⟨rfl, hb⟩
    have HB3 := Lib.hid (HB2.out.trans (hb.mono HB2.out.size))
    have XS3 := Lib.hid (XS2.out.below hb XS2.out.lt)
    have XT3 := Lib.hid (XT2.out.below hb XT2.out.lt)
    clear hb s0 s1 s2 s3 t0 t1 sl tl
    go_wp2_with fail
    exact (HPOST.out _ _).2 ⟨HB3.out, .inr ⟨EE.out, rfl⟩⟩
  subst h0
  have HKP := Lib.hid (plE_0 HV.out.symm)
  clear HV F32
  have h48 : n ≤ 48 := by have h3 := (siteHead_iff.1 (stE_0 HKP.out.ok).2.1).1; have := HN.out; omega
  have h8 : m ≤ 8 := by have h3 := (stE_0 HKP.out.ok).1; have := HM.out; omega
  obtain ⟨i22, h22i, h22z, h22s, h22b⟩ := info_parts info22
  go_wp2_with fail
  go_loopw [8, 9] (fun lv iv wr => ∃ (i : Nat) (A8 : Option Addr) (c8 : Nat), i ≤ m ∧ iv = .int .i64 i ∧ lv = .slice A8 i c8 ∧ Hid (∃ vs, Below w2.heap.size w2 wr ∧ wr.ownsRow w2.heap.size 22 1 (.slice A8 i c8) i vs ∧ RowsO w2.heap.size wr i n vs cs T)) (fun _ iv _ => m - (intOf iv).toNat)
  case atStart => exact ⟨0, none, 0, Nat.zero_le _, rfl, rfl, Lib.hid ⟨[], Below.refl _ _, World.ownsRow_nil _ _ _ _, fun x hx => absurd hx (Nat.not_lt_zero _)⟩⟩
  case round =>
    obtain ⟨i, A8, c8, hi, rfl, rfl, HJ⟩ := hrel
    obtain ⟨vs, hj1, hj2, hj3⟩ := HJ.out
    have HBW := Lib.hid hj1
    have HOW := Lib.hid hj2
    have HRO := Lib.hid hj3
    clear hj1 hj2 hj3 HJ
    have HBB := Lib.hid (HB2.out.trans (HBW.out.mono HB2.out.size))
    by_cases hlt : i < m
    · have hii : (i : Int) < (m : Int) := by omega
      have il : i < cs.length := by rw [← HM.out]; exact hlt
      have hip : (i : Int) < (p : Int) := by have := HP.out; have := HKP.out.li; omega
      have hiq : (i : Int) < (q : Int) := by have := HQ.out; have := HKP.out.lo; omega
      have HRB := Lib.hid (HKP.out.rows il)
      have HOK := Lib.hid (HKP.out.carok il)
      have L1 := HKP.out.ri i il
      have L2 := HKP.out.ro i il
      obtain ⟨ad, hE2, abl, c0, c1, c2, c3, c4, TT, cT, c5, hcT, HTT⟩ := (HCS.out.below HBB.out (Nat.le_refl _)) i il
      subst hE2
      have HTR := Lib.hid HTT
      clear HTT
      obtain ⟨pa, hP2, pal, PT, cPT, p0, pb, pi⟩ := (HT.out.below HBB.out (Nat.le_refl _)).1 i (by rw [HKP.out.li]; exact il)
      obtain ⟨qa, hQ2, qal, QT, cQT, q0, qb, qi⟩ := (HT.out.below HBB.out (Nat.le_refl _)).2 i (by rw [HKP.out.lo]; exact il)
      subst hP2
      subst hQ2
      rw [L1, ← HN.out] at p0 pb
      rw [L2, ← HN.out] at q0 qb
      rw [← HN.out] at HRB HOK
      have HADD := Lib.hid (fun (V : World) vs v h1 h2 h3 => RowsO.add (D := w2.heap.size) (w := V) (i := i) (n := n) (vs := vs) (cs := cs) (T := T) (v := v) h1 h2 h3)
      generalize hcc : cs.getD i default = c at *
      clear hcc
      obtain ⟨cap, inn, out, start, fin, trips⟩ := c
      simp only at c0 c1 c2 c3 c4 c5 hcT HTR
      generalize T.inn.getD i [] = xr at *
      generalize T.out.getD i [] = yr at *
      obtain ⟨qn, hqn⟩ : ∃ qn, qn = trips.length := ⟨_, rfl⟩
      rw [← hqn] at c5 hcT
      have HQN := Lib.hid hqn
      have HPI := Lib.hid pi
      have HQI := Lib.hid qi
      clear hqn pi qi L1 L2
      have HLC : Hid (∀ V, Below wr.heap.size wr V → Calls Try.prog 83 #[.agg #[.int .i64 cap, .int .i64 inn, .int .i64 out, .int .i64 start, .int .i64 fin, .slice TT qn cT], .slice PT n cPT, .slice QT n cQT] V fun e w' => ∃ g c, e = .returned (.slice (some ⟨g, 0, none⟩) (n + 1) c) ∧ OwnI V.heap.size w' g c (lvN ⟨cap, inn, out, start, fin, trips⟩ xr yr (n + 1)) ∧ Below V.heap.size V w') := Lib.hid (fun V hV => levelsR_c cap inn out start fin trips xr yr TT PT QT qn n cT cPT cQT V HQN.out hcT (HTR.out.below hV (Nat.le_refl _)) HOK.out h48 pb qb (HPI.out.below hV (Nat.le_refl _)) (HQI.out.below hV (Nat.le_refl _)) HRB.out.1 HRB.out.2)
      have HP0 : Hid (∀ V, Below wr.heap.size wr V → (V.cell? (pa.add i) = some (.slice PT n cPT) ∧ V.cell? (qa.add i) = some (.slice QT n cQT)) ∧ (V.cell? (ad.add (i * 6)) = some (.int .i64 cap) ∧ V.cell? ⟨(ad.add (i * 6)).block, (ad.add (i * 6)).off + 1, none⟩ = some (.int .i64 inn) ∧ V.cell? ⟨(ad.add (i * 6)).block, (ad.add (i * 6)).off + 2, none⟩ = some (.int .i64 out) ∧ V.cell? ⟨(ad.add (i * 6)).block, (ad.add (i * 6)).off + 3, none⟩ = some (.int .i64 start) ∧ V.cell? ⟨(ad.add (i * 6)).block, (ad.add (i * 6)).off + 4, none⟩ = some (.int .i64 fin) ∧ V.cell? ⟨(ad.add (i * 6)).block, (ad.add (i * 6)).off + 5, none⟩ = some (.slice TT qn cT)) ∧ Blk V (w.heap.size + 1) 55 [.slice (some pa) p cP, .slice (some qa) q cQ]) := Lib.hid (fun V hV => by
        have hbl : (ad.add (i * 6)).block < wr.heap.size := by rw [block_add]; exact abl
        exact ⟨⟨(hV.cell (by rw [block_add]; omega)).trans p0, (hV.cell (by rw [block_add]; omega)).trans q0⟩, ⟨(hV.cell hbl).trans c0, (hV.cell (p := ⟨_, _, none⟩) hbl).trans c1, (hV.cell (p := ⟨_, _, none⟩) hbl).trans c2, (hV.cell (p := ⟨_, _, none⟩) hbl).trans c3, (hV.cell (p := ⟨_, _, none⟩) hbl).trans c4, (hV.cell (p := ⟨_, _, none⟩) hbl).trans c5⟩, XT2.out.below (HBW.out.trans (hV.mono HBW.out.size)) XT2.out.lt⟩)
      clear p0 q0 pal qal c0 c1 c2 c3 c4 c5 abl
      go_upto_region 7 with fail
      refine wp_region_spine 15 [false, false, false] [0] ?af (fun V => Below wr.heap.size wr V) (by kernel_rfl) (by kernel_rfl) (Below.refl _ _).drew ?walk ?spine
      case walk =>
        intro V hV
        obtain ⟨⟨p0, q0⟩, ⟨c0, c1, c2, c3, c4, c5⟩, XTV⟩ := HP0.out V hV
        have t0 := XTV.cell 0 rfl
        have t1 := XTV.cell 1 rfl
        clear XTV hV
        simp only [List.take_succ_cons, List.take_zero]
        repeat (go_big_quiet_step (fail))
        refine wpQuiet_nil ?_
        rfl
      case spine =>
        intro V hV
        have HV := Lib.hid hV
        clear hV
        refine spineV_cons ?_
        refine stepV_call (f := 83) (args := #[.agg #[.int .i64 cap, .int .i64 inn, .int .i64 out, .int .i64 start, .int .i64 fin, .slice TT qn cT], .slice PT n cPT, .slice QT n cQT]) (fun _ => by kernel_rfl) ?_
        refine (HLC.out V HV.out).mono ?_
        rintro e w5 ⟨g, cg, rfl, ho, hb⟩
        refine ⟨_, rfl, fun h => (by cases h), ?_⟩
        have HV5 := Lib.hid (HV.out.trans (hb.mono HV.out.size))
        have HO5 : Hid (OwnI w2.heap.size w5 g cg (lvN ⟨cap, inn, out, start, fin, trips⟩ xr yr (n + 1))) := Lib.hid (ho.mono (by have := HV.out.size; have := HBW.out.size; omega))
        clear ho hb HLC
        (try simp only [Act.put, List.setIfInBounds_toArray, List.set_cons_zero, List.set_cons_succ])
        refine spineV_cons ?_
        refine stepV_new (.cells #[.slice (some ⟨g, 0, none⟩) (n + 1) cg] 22) (fun b => .slice (some ⟨b, 0, none⟩) 1 1) (fun _ => by kernel_rfl) ?_
        refine ⟨fun h => (by cases h), ?_⟩
        have al := (Below.refl w5.heap.size w5).alloc (Nat.le_refl _) (.cells #[.slice (some ⟨g, 0, none⟩) (n + 1) cg] 22)
        have HV6 := Lib.hid (HV5.out.trans (al.mono HV5.out.size))
        have HO6 := Lib.hid (HO5.out.below al)
        have X6 := Lib.hid (Blk.new' w5 #[.slice (some ⟨g, 0, none⟩) (n + 1) cg] 22)
        clear al HV5 HO5
        generalize w5.alloc (.cells #[.slice (some ⟨g, 0, none⟩) (n + 1) cg] 22) = w6 at HV6 HO6 X6 ⊢
        generalize w5.heap.size = g5 at *
        have OW6 := Lib.hid (ownV_below HOW.out (HV6.out))
        have RO6 := Lib.hid (HRO.out.below HV6.out)
        refine spineV_cons ?_
        refine stepV_append (.tmp 25) (.tmp 41) 53 rfl w2.heap.size 22 i22 (.slice none 0 0) 1 24 Try.underlying53 h22i h22z h22s h22b rfl (by decide) A8 i c8 vs (by rfl) OW6.out (some ⟨g5, 0, none⟩) 1 1 [.slice (some ⟨g, 0, none⟩) (n + 1) cg] (by rfl) (by rfl) (.inr ⟨_, rfl, fun k u hk => by rcases k with _ | k <;> simp at hk; subst hk; exact X6.out.cell 0 rfl⟩) (by simp [Value.oneCell']) (by unfold maxLen; omega) (by omega) (by have := HV6.out.size; have := HBW.out.size; omega) ?_
        intro A9 c9 w7 hown hgrow hat
        refine ⟨fun h => (by cases h), ?_⟩
        have RO7 := Lib.hid (RO6.out.grown OW6.out (by decide) hgrow)
        have HO7 : Hid (w7.ownsRow w2.heap.size 2 1 (.slice (some ⟨g, 0, none⟩) (n + 1) cg) (n + 1) ((lvN ⟨cap, inn, out, start, fin, trips⟩ xr yr (n + 1)).map (.int .i64))) := Lib.hid (ownV_other (by have := HO6.out; unfold OwnI at this; rwa [lvN_len] at this) OW6.out (by decide) hgrow)
        have HB7 := Lib.hid ((HBW.out.trans (HV6.out.mono HBW.out.size)).grown hgrow (HBW.out.trans (HV6.out.mono HBW.out.size)).size (fun k e => (World.ownsRow.lt OW6.out k e).1))
        have OW7 := Lib.hid hown
        have RO8 := Lib.hid (HADD.out w7 vs _ RO7.out (own_len OW6.out) HO7.out)
        clear hown hgrow hat
        refine spineV_nil ?_
        go_wp2_with fail
        exact ⟨⟨i + 1, A9, c9, by omega, by go_num, rfl, Lib.hid ⟨_, HB7.out, OW7.out, RO8.out⟩⟩, by simp [intOf]; omega⟩
    · obtain rfl : i = m := by omega
      have HFIN := Lib.hid ((HPOST.out (.returned (.tuple #[.slice A8 i c8, .int .i64 0])) wr).2 ⟨HBB.out, .inl ⟨by first | rfl | trivial, _, vs, rfl, ownV_mono HOW.out HB2.out.size, fun x hx => by
        obtain ⟨u, e1, e2⟩ := HRO.out x hx
        exact ⟨u, e1, ownV_mono e2 HB2.out.size⟩⟩⟩)
      go_wp2_with fail
      exact HFIN.out
end Go.Proofs.Ytmebpglkeedaoaa
namespace Go.Proofs.Ytmebpglkeedaoaa
open Go.RowKit Dp
theorem blk_own_ne {W : World} {g t B e z n cap : Nat} {cs xs : List Value} {A : Option Addr} (hb : Blk W g t cs) (h : W.ownsRow B e z (.slice A n cap) n xs) (hne : t ≠ e) : some g ≠ (Value.slice A n cap).ownBlock := by
  intro hk
  rcases h.2 with ⟨h0, _⟩ | ⟨g', cap', cur, hv, _, hg, _⟩
  · rw [h0] at hk; cases hk
  · rw [hv] at hk
    simp only [Value.ownBlock, Option.some.injEq] at hk
    subst hk
    unfold Blk at hb
    rw [hg] at hb
    simp only [Option.some.injEq, Obj.cells.injEq] at hb
    exact hne hb.2.1.symm
theorem own_blk_no {W : World} {g t B e z n cap : Nat} {cs xs : List Value} {A : Option Addr} (hb : Blk W g t cs) (h : W.ownsRow B e z (.slice A n cap) n xs) (hne : t ≠ e) : ¬ OwnB A g := fun hk => blk_own_ne hb h hne (ownB_iff.1 hk).symm
def RowF (W : World) (n G : Nat) (v : Value) (xs : List Int) : Prop := ∃ g, v = .slice (some ⟨g, 0, none⟩) n n ∧ g < G ∧ Fl 3 W g xs ∧ xs.length = n
def RowsF (W : World) (n G : Nat) (vs : List Value) (R : Nat → List Int) (i : Nat) : Prop := ∀ x, x < i → ∃ v, vs[x]? = some v ∧ RowF W n G v (R x)
section
variable {W V : World} {n G i : Nat} {vs : List Value} {R : Nat → List Int}
theorem RowsF.of (h : RowsF W n G vs R i) (f : ∀ g xs, g < G → Fl 3 W g xs → Fl 3 V g xs) : RowsF V n G vs R i := fun x hx => by
  obtain ⟨v, h1, g, h2, h3, h4, h5⟩ := h x hx
  exact ⟨v, h1, g, h2, h3, f g _ h3 h4, h5⟩
theorem RowsF.below (h : RowsF W n G vs R i) (hb : Below W.heap.size W V) : RowsF V n G vs R i := h.of fun g xs _ hf => hf.below hb
theorem RowsF.grown {B e z m cap : Nat} {A : Option Addr} {xs : List Value} (h : RowsF W n G vs R i) (ho : W.ownsRow B e z (.slice A m cap) m xs) (hne : 3 ≠ e) (hg : W.grownBy V (Value.slice A m cap).ownBlock) : RowsF V n G vs R i := h.of fun g xs _ hf => Blk.grown hf hg (blk_own_ne hf ho hne)
theorem RowsF.set (h : RowsF W n G vs R i) {p : Addr} {t : TypeId} {cs : List Value} (hb : Blk W p.block t cs) (hn : t ≠ 3 ∨ G ≤ p.block) (u : Value) : RowsF (W.setCell p u) n G vs R i := h.of fun g xs hlt hf => Blk.setCell_ne hf (fun e => by
  rcases hn with hn | hn
  · subst e; exact blk_type_ne hb hf hn rfl
  · omega) u
theorem RowsF.up {G' : Nat} (h : RowsF W n G vs R i) (hG : G ≤ G') : RowsF W n G' vs R i := fun x hx => by
  obtain ⟨v, h1, g, h2, h3, h4⟩ := h x hx
  exact ⟨v, h1, g, h2, by omega, h4⟩
theorem RowsF.add {g : Nat} (h : RowsF W n G vs R i) (hl : vs.length = i) (hf : Fl 3 W g (R i)) (hR : (R i).length = n) (hg : g < G) : RowsF W n G (vs ++ [.slice (some ⟨g, 0, none⟩) n n]) R (i + 1) := fun x hx => by
  by_cases e : x = i
  · subst e
    exact ⟨_, by rw [List.getElem?_append_right (by omega)]; simp [hl], g, rfl, hg, hf, hR⟩
  · obtain ⟨u, e1, e2⟩ := h x (by omega)
    exact ⟨u, by rw [List.getElem?_append_left (by omega)]; exact e1, e2⟩
end
structure BdJ (w : World) (gs gb : Nat) (A : Option Addr) (cap : Nat) (AI AO : Option Addr) (ci co i : Nat) (vi vo : List Value) (sup : List Int) (arcs : List Arc) (W : World) : Prop where
  b : Blk W gb 125 [.slice (some ⟨gs, 0, none⟩) sup.length sup.length, .slice A arcs.length cap, .slice AI i ci, .slice AO i co]
  s : Fl 2 W gs sup
  own : W.ownsRow w.heap.size 46 4 (.slice A arcs.length cap) arcs.length (flat arcV arcs)
  oi : W.ownsRow w.heap.size 26 1 (.slice AI i ci) i vi
  oo : W.ownsRow w.heap.size 26 1 (.slice AO i co) i vo
  dis : ∀ k, OwnB AI k → ¬ OwnB AO k
  lt : w.heap.size ≤ gs ∧ w.heap.size ≤ gb
  bel : Below w.heap.size w W
section
variable {w W V : World} {gs gb cap cap2 ci co i : Nat} {A A2 AI AO : Option Addr} {vi vo : List Value} {sup : List Int} {arcs arcs2 : List Arc}
theorem BdJ.below (h : BdJ w gs gb A cap AI AO ci co i vi vo sup arcs W) (hb : Below W.heap.size W V) : BdJ w gs gb A cap AI AO ci co i vi vo sup arcs V :=
  ⟨h.b.below hb h.b.lt, h.s.below hb, ownBelow h.own hb, ownBelow h.oi hb, ownBelow h.oo hb, h.dis, h.lt, h.bel.trans (hb.mono h.bel.size)⟩
theorem BdJ.other (h : BdJ w gs gb A cap AI AO ci co i vi vo sup arcs W) {p : Addr} {cs : List Value} (hb : Blk W p.block 3 cs) (hp : w.heap.size ≤ p.block) (u : Value) : BdJ w gs gb A cap AI AO ci co i vi vo sup arcs (W.setCell p u) :=
  ⟨h.b.setCell_ne (fun e => by have := h.b; rw [e] at this; exact blk_type_ne hb this (by decide) rfl) u, h.s.set_ne (fun e => by have := h.s; rw [e] at this; exact blk_type_ne hb this (by decide) rfl) u,
    ownSet h.own (own_blk_no hb h.own (by decide)) u, ownSet h.oi (own_blk_no hb h.oi (by decide)) u, ownSet h.oo (own_blk_no hb h.oo (by decide)) u, h.dis, h.lt, h.bel.setCell hp u⟩
theorem BdJ.set (h : BdJ w gs gb A cap AI AO ci co i vi vo sup arcs W) (k : Nat) (v : Int) : BdJ w gs gb A cap AI AO ci co i vi vo (sup.set k v) arcs (W.setCell ⟨gs, k, none⟩ (.int .i64 v)) :=
  ⟨by rw [List.length_set]; exact h.b.setCell_ne (fun e => blk_type_ne h.b h.s (by decide) e.symm) _, h.s.put k v,
    ownSet h.own (own_blk_no (g := gs) h.s h.own (by decide)) _, ownSet h.oi (own_blk_no (g := gs) h.s h.oi (by decide)) _, ownSet h.oo (own_blk_no (g := gs) h.s h.oo (by decide)) _, h.dis, h.lt, h.bel.setCell (by simp; exact h.lt.1) _⟩
theorem grow_own {B B' e e' z z' n n' c c' : Nat} {A A' : Option Addr} {xs xs' : List Value} (h : W.ownsRow B e z (.slice A n c) n xs) (h' : W.ownsRow B' e' z' (.slice A' n' c') n' xs') (hne : ∀ k, OwnB A k → ¬ OwnB A' k) (hg : W.grownBy V (Value.slice A' n' c').ownBlock) : V.ownsRow B e z (.slice A n c) n xs := by
  refine ⟨h.1, ?_⟩
  rcases h.2 with h2 | ⟨k, c1, cur, hv, hb, hgk, r⟩
  · exact .inl h2
  · refine .inr ⟨k, c1, cur, hv, hb, (hg.block k (Array.getElem?_eq_some_iff.1 hgk).1 (fun ek => ?_)).trans hgk, r⟩
    exact hne k ((ownB_iff (n := n) (cap := c)).2 (by rw [hv]; rfl)) (ownB_iff.2 ek.symm)
theorem own_type {B B' e e' z z' n n' c c' : Nat} {A A' : Option Addr} {xs xs' : List Value} (h : W.ownsRow B e z (.slice A n c) n xs) (h' : W.ownsRow B' e' z' (.slice A' n' c') n' xs') (hne : e ≠ e') : ∀ k, OwnB A k → ¬ OwnB A' k := by
  intro k h1 h2
  have k1 := ownB_iff (n := n) (cap := c) |>.1 h1
  have k2 := ownB_iff (n := n') (cap := c') |>.1 h2
  rcases h.2 with ⟨h0, _⟩ | ⟨g, c1, cur, hv, _, hg, _⟩
  · rw [h0] at k1; cases k1
  · rcases h'.2 with ⟨h0, _⟩ | ⟨g', c1', cur', hv', _, hg', _⟩
    · rw [h0] at k2; cases k2
    · rw [hv] at k1; rw [hv'] at k2
      simp only [Value.ownBlock, Option.some.injEq] at k1 k2
      subst k1; subst k2
      rw [hg] at hg'
      simp only [Option.some.injEq, Obj.cells.injEq] at hg'
      exact hne hg'.2.1
theorem BdJ.push (h : BdJ w gs gb A cap AI AO ci co i vi vo sup arcs W) (hg : W.grownBy V (Value.slice A arcs.length cap).ownBlock)
    (ho : V.ownsRow w.heap.size 46 4 (.slice A2 arcs2.length cap2) arcs2.length (flat arcV arcs2)) : BdJ w gs gb A2 cap2 AI AO ci co i vi vo sup arcs2 (V.setCell ⟨gb, 1, none⟩ (.slice A2 arcs2.length cap2)) := by
  have b1 := h.b.grown hg (blk_own_ne h.b h.own (by decide))
  have s1 : Fl 2 V gs sup := Blk.grown h.s hg (blk_own_ne h.s h.own (by decide))
  have i1 := grow_own h.oi h.own (own_type h.oi h.own (by decide)) hg
  have o1 := grow_own h.oo h.own (own_type h.oo h.own (by decide)) hg
  have bel1 : Below w.heap.size w V := h.bel.grown hg h.bel.size (fun k e => (World.ownsRow.lt h.own k e).1)
  refine ⟨b1.setCell 1 _, s1.set_ne (fun e => blk_type_ne b1 s1 (by decide) e) _, ownSet ho (own_blk_no (g := gb) b1 ho (by decide)) _, ownSet i1 (own_blk_no (g := gb) b1 i1 (by decide)) _, ownSet o1 (own_blk_no (g := gb) b1 o1 (by decide)) _, h.dis, h.lt, bel1.setCell (by simp; exact h.lt.2) _⟩
end
structure BkJ (w : World) (n G i gs gb gi go gc : Nat) (AI AO : Option Addr) (ci co : Nat) (vi vo : List Value) (RI RO : Nat → List Int) (cv : List Value) (A : Option Addr) (cap : Nat) (sup : List Int) (arcs : List Arc) (ri ro : List Int) (W : World) : Prop where
  d : BdJ w gs gb A cap AI AO ci co i vi vo sup arcs W
  fi : Fl 3 W gi ri
  fo : Fl 3 W go ro
  ne : gi ≠ go
  ge : (G ≤ gi ∧ G ≤ go) ∧ (w.heap.size ≤ gi ∧ w.heap.size ≤ go)
  ri : RowsF W n G vi RI i
  ro : RowsF W n G vo RO i
  car : Blk W gc 63 cv
section
variable {w W V : World} {n G i gs gb gi go gc ci co cap cap2 : Nat} {A A2 AI AO : Option Addr} {vi vo cv : List Value} {RI RO : Nat → List Int} {sup : List Int} {arcs arcs2 : List Arc} {ri ro : List Int}
theorem BkJ.below (h : BkJ w n G i gs gb gi go gc AI AO ci co vi vo RI RO cv A cap sup arcs ri ro W) (hb : Below W.heap.size W V) : BkJ w n G i gs gb gi go gc AI AO ci co vi vo RI RO cv A cap sup arcs ri ro V :=
  ⟨h.d.below hb, h.fi.below hb, h.fo.below hb, h.ne, h.ge, h.ri.below hb, h.ro.below hb, h.car.below hb h.car.lt⟩
theorem BkJ.alloc (h : BkJ w n G i gs gb gi go gc AI AO ci co vi vo RI RO cv A cap sup arcs ri ro W) (o : Obj) : BkJ w n G i gs gb gi go gc AI AO ci co vi vo RI RO cv A cap sup arcs ri ro (W.alloc o) := h.below ((Below.refl _ _).alloc (Nat.le_refl _) o)
theorem BkJ.push (h : BkJ w n G i gs gb gi go gc AI AO ci co vi vo RI RO cv A cap sup arcs ri ro W) (hg : W.grownBy V (Value.slice A arcs.length cap).ownBlock)
    (ho : V.ownsRow w.heap.size 46 4 (.slice A2 arcs2.length cap2) arcs2.length (flat arcV arcs2)) : BkJ w n G i gs gb gi go gc AI AO ci co vi vo RI RO cv A2 cap2 sup arcs2 ri ro (V.setCell ⟨gb, 1, none⟩ (.slice A2 arcs2.length cap2)) := by
  have b1 := h.d.b.grown hg (blk_own_ne h.d.b h.d.own (by decide))
  have f1 : Fl 3 V gi ri := Blk.grown h.fi hg (blk_own_ne h.fi h.d.own (by decide))
  have f2 : Fl 3 V go ro := Blk.grown h.fo hg (blk_own_ne h.fo h.d.own (by decide))
  have c1 : Blk V gc 63 cv := Blk.grown h.car hg (blk_own_ne h.car h.d.own (by decide))
  exact ⟨h.d.push hg ho, f1.set_ne (fun e => blk_type_ne b1 f1 (by decide) e) _, f2.set_ne (fun e => blk_type_ne b1 f2 (by decide) e) _, h.ne, h.ge,
    (h.ri.grown h.d.own (by decide) hg).set (p := ⟨gb, 1, none⟩) b1 (.inl (by decide)) _, (h.ro.grown h.d.own (by decide) hg).set (p := ⟨gb, 1, none⟩) b1 (.inl (by decide)) _, c1.setCell_ne (fun e => blk_type_ne b1 c1 (by decide) e) _⟩
theorem BkJ.set (h : BkJ w n G i gs gb gi go gc AI AO ci co vi vo RI RO cv A cap sup arcs ri ro W) (k : Nat) (v : Int) : BkJ w n G i gs gb gi go gc AI AO ci co vi vo RI RO cv A cap (sup.set k v) arcs ri ro (W.setCell ⟨gs, k, none⟩ (.int .i64 v)) :=
  ⟨h.d.set k v, h.fi.set_ne (fun e => blk_type_ne h.d.s h.fi (by decide) e) _, h.fo.set_ne (fun e => blk_type_ne h.d.s h.fo (by decide) e) _, h.ne, h.ge, h.ri.set (p := ⟨gs, k, none⟩) h.d.s (.inl (by decide)) _, h.ro.set (p := ⟨gs, k, none⟩) h.d.s (.inl (by decide)) _, h.car.setCell_ne (fun e => blk_type_ne h.d.s h.car (by decide) e) _⟩
theorem BkJ.seti (h : BkJ w n G i gs gb gi go gc AI AO ci co vi vo RI RO cv A cap sup arcs ri ro W) (k : Nat) (v : Int) : BkJ w n G i gs gb gi go gc AI AO ci co vi vo RI RO cv A cap sup arcs (ri.set k v) ro (W.setCell ⟨gi, k, none⟩ (.int .i64 v)) :=
  ⟨h.d.other (p := ⟨gi, k, none⟩) h.fi h.ge.2.1 _, h.fi.put k v, h.fo.set_ne (fun e => h.ne e.symm) _, h.ne, h.ge, h.ri.set (p := ⟨gi, k, none⟩) h.fi (.inr h.ge.1.1) _, h.ro.set (p := ⟨gi, k, none⟩) h.fi (.inr h.ge.1.1) _, h.car.setCell_ne (fun e => blk_type_ne h.fi h.car (by decide) e) _⟩
theorem BkJ.seto (h : BkJ w n G i gs gb gi go gc AI AO ci co vi vo RI RO cv A cap sup arcs ri ro W) (k : Nat) (v : Int) : BkJ w n G i gs gb gi go gc AI AO ci co vi vo RI RO cv A cap sup arcs ri (ro.set k v) (W.setCell ⟨go, k, none⟩ (.int .i64 v)) :=
  ⟨h.d.other (p := ⟨go, k, none⟩) h.fo h.ge.2.2 _, h.fi.set_ne (fun e => h.ne e) _, h.fo.put k v, h.ne, h.ge, h.ri.set (p := ⟨go, k, none⟩) h.fo (.inr h.ge.1.2) _, h.ro.set (p := ⟨go, k, none⟩) h.fo (.inr h.ge.1.2) _, h.car.setCell_ne (fun e => blk_type_ne h.fo h.car (by decide) e) _⟩
end
set_option maxHeartbeats 2000000 in
set_option maxRecDepth 100000 in
theorem addG_c (W : World) (gb n cap B m c : Nat) (A Bo : Option Addr) (v0 v2 v3 : Value) (arcs news : List Arc) (hn : n = arcs.length) (hm : m = news.length) (hnm : n + m ≤ 4096) (hb : Blk W gb 125 [v0, .slice A n cap, v2, v3]) (ho : W.ownsRow B 46 4 (.slice A n cap) n (flat arcV arcs)) (hs : SrcRow W Bo m (flat arcV news)) (hB : B ≤ W.heap.size) :
    Calls Try.prog 108 #[.pointer (some ⟨gb, 0, none⟩), .slice Bo m c] W fun e W' => ∃ A2 cap2 V, e = .returned (.int .i64 n) ∧ W' = V.setCell ⟨gb, 1, none⟩ (.slice A2 (n + m) cap2) ∧ W.grownBy V (Value.slice A n cap).ownBlock ∧ V.ownsRow B 46 4 (.slice A2 (n + m) cap2) (n + m) (flat arcV (arcs ++ news)) := by
  have X := Lib.hid hb
  have HO := Lib.hid ho
  have HS := Lib.hid hs
  have HN := Lib.hid hn
  have HM := Lib.hid hm
  have FL := Lib.hid (flat_length (f := arcV) (s := 4) (fun _ => rfl) news)
  clear hb ho hs hn hm
  obtain ⟨i3, h3i, h3z, h3s, h3b⟩ := info_parts info46
  have y0 := X.out.cell 1 rfl
  have wnm : IntKind.i64.wrap ((n : Int) + (m : Int) - (m : Int)) = (n : Int) := by rw [show (n : Int) + (m : Int) - (m : Int) = n by omega]; exact IntWalk.i64_in _ (by omega)
  go_enter Try.func108, Try.ntmps108
  go_wp2_with (at_builtin; refine wpList_append_any (.tmp 10) (.tmp 11) 23 rfl rfl B 46 i3 (.agg #[.int .i64 0, .int .i64 0, .int .i64 0, .int .i64 0]) 4 32 Try.underlying23 h3i h3z h3s h3b rfl (by decide) A n cap (flat arcV arcs) (by rfl) HO.out Bo m c (flat arcV news) (by rfl) (by rw [FL.out, HM.out]) HS.out (by intro u hu; obtain ⟨a, _, ha⟩ := List.mem_flatMap.1 hu; simp [arcV] at ha; rcases ha with rfl | rfl | rfl | rfl <;> rfl) (by unfold maxLen; omega) (by omega) hB ?_; intro A2 c2 v hown hgrow hat; have HO2 := Lib.hid hown; have HG2 := Lib.hid hgrow; have MM := X.out.grown hgrow (blk_own_ne X.out HO.out (by decide)); clear y0; have y0 := MM.cell 1 rfl; have q0 := MM.free 1; have ML := MM.lt; have XX := Lib.hid (MM.setCell 1 (.slice A2 (n + m) c2)); clear MM hown hgrow hat)
  go_upto_region 2 with fail
  have HW : Hid (v.setCell ⟨gb, 1, none⟩ (.slice A2 (n + m) c2) = v.setCell ⟨gb, 1, none⟩ (.slice A2 (n + m) c2)) := Lib.hid rfl
  generalize hv1 : v.setCell ⟨gb, 1, none⟩ (.slice A2 (n + m) c2) = v1 at XX ⊢
  have HV1 := Lib.hid hv1
  clear y0 q0 hv1 HW
  have y0 := XX.out.cell 1 rfl
  go_wp2_with fail
  exact bodyPost_ret (v := .int .i64 n) (by simp [results, Try.results108, go_sem]) rfl ⟨A2, c2, v, rfl, HV1.out.symm, HG2.out, by rw [flat_append]; exact HO2.out⟩
end Go.Proofs.Ytmebpglkeedaoaa
namespace Go.Proofs.Ytmebpglkeedaoaa
open Go.RowKit Dp
structure NtJ (w : World) (gs gx gr : Nat) (cv : List Value) (A : Option Addr) (cap : Nat) (sup : List Int) (arcs : List Arc) (W : World) : Prop where
  b : Blk W gx 25 [.slice (some ⟨gs, 0, none⟩) sup.length sup.length, .slice A arcs.length cap]
  r : Blk W gr 25 [.slice none 0 0, .slice none 0 0]
  s : Fl 2 W gs sup
  own : W.ownsRow w.heap.size 46 4 (.slice A arcs.length cap) arcs.length (flat arcV arcs)
  st : Blk W w.heap.size 51 cv
  ne : gx ≠ gr
  lt : w.heap.size ≤ gs ∧ w.heap.size ≤ gx ∧ w.heap.size ≤ gr
  bel : Below w.heap.size w W
section
variable {w W V : World} {gs gx gr gc cap cap2 n m : Nat} {A A2 : Option Addr} {cv kv : List Value} {sup : List Int} {arcs news : List Arc}
theorem NtJ.below (h : NtJ w gs gx gr cv A cap sup arcs W) (hb : Below W.heap.size W V) : NtJ w gs gx gr cv A cap sup arcs V :=
  ⟨h.b.below hb h.b.lt, h.r.below hb h.r.lt, h.s.below hb, ownBelow h.own hb, h.st.below hb h.st.lt, h.ne, h.lt, h.bel.trans (hb.mono h.bel.size)⟩
theorem NtJ.alloc (h : NtJ w gs gx gr cv A cap sup arcs W) (o : Obj) : NtJ w gs gx gr cv A cap sup arcs (W.alloc o) := h.below ((Below.refl _ _).alloc (Nat.le_refl _) o)
theorem NtJ.set (h : NtJ w gs gx gr cv A cap sup arcs W) (k : Nat) (v : Int) : NtJ w gs gx gr cv A cap (sup.set k v) arcs (W.setCell ⟨gs, k, none⟩ (.int .i64 v)) :=
  ⟨by rw [List.length_set]; exact h.b.setCell_ne (fun e => blk_type_ne h.b h.s (by decide) e.symm) _, h.r.setCell_ne (fun e => blk_type_ne h.r h.s (by decide) e.symm) _, h.s.put k v,
    ownSet h.own (own_blk_no (g := gs) h.s h.own (by decide)) _, h.st.setCell_ne (fun e => blk_type_ne h.st h.s (by decide) e.symm) _, h.ne, h.lt, h.bel.setCell (by simp; exact h.lt.1) _⟩
theorem NtJ.mid (h : NtJ w gs gx gr cv A cap sup arcs W) (hg : W.grownBy V (Value.slice A arcs.length cap).ownBlock) : Blk V gx 25 [.slice (some ⟨gs, 0, none⟩) sup.length sup.length, .slice A arcs.length cap] := h.b.grown hg (blk_own_ne h.b h.own (by decide))
theorem NtJ.push (h : NtJ w gs gx gr cv A cap sup arcs W) (hn : n = arcs.length) (hm : m = news.length) (hg : W.grownBy V (Value.slice A n cap).ownBlock)
    (ho : V.ownsRow w.heap.size 46 4 (.slice A2 (n + m) cap2) (n + m) (flat arcV arcs ++ flat arcV news)) : NtJ w gs gx gr cv A2 cap2 sup (arcs ++ news) (V.setCell ⟨gx, 1, none⟩ (.slice A2 (n + m) cap2)) := by
  subst hn
  rw [← flat_append] at ho
  have el : (arcs ++ news).length = arcs.length + m := by simp [hm]
  rw [← el] at ho ⊢
  have b1 := h.mid hg
  have s1 : Fl 2 V gs sup := Blk.grown h.s hg (blk_own_ne h.s h.own (by decide))
  have r1 := h.r.grown hg (blk_own_ne h.r h.own (by decide))
  have t1 := h.st.grown hg (blk_own_ne h.st h.own (by decide))
  have bel1 : Below w.heap.size w V := h.bel.grown hg h.bel.size (fun k e => (World.ownsRow.lt h.own k e).1)
  exact ⟨b1.setCell 1 _, r1.setCell_ne (fun e => h.ne e.symm) _, s1.set_ne (fun e => blk_type_ne b1 s1 (by decide) e) _, ownSet ho (own_blk_no (g := gx) b1 ho (by decide)) _, t1.setCell_ne (fun e => blk_type_ne b1 t1 (by decide) e) _, h.ne, h.lt, bel1.setCell (by simp; exact h.lt.2.1) _⟩
structure NkJ (w : World) (gs gx gr gc : Nat) (cv kv : List Value) (A : Option Addr) (cap : Nat) (sup : List Int) (arcs : List Arc) (W : World) : Prop where
  d : NtJ w gs gx gr cv A cap sup arcs W
  car : Blk W gc 63 kv
theorem NkJ.below (h : NkJ w gs gx gr gc cv kv A cap sup arcs W) (hb : Below W.heap.size W V) : NkJ w gs gx gr gc cv kv A cap sup arcs V := ⟨h.d.below hb, h.car.below hb h.car.lt⟩
theorem NkJ.alloc (h : NkJ w gs gx gr gc cv kv A cap sup arcs W) (o : Obj) : NkJ w gs gx gr gc cv kv A cap sup arcs (W.alloc o) := h.below ((Below.refl _ _).alloc (Nat.le_refl _) o)
theorem NkJ.set (h : NkJ w gs gx gr gc cv kv A cap sup arcs W) (k : Nat) (v : Int) : NkJ w gs gx gr gc cv kv A cap (sup.set k v) arcs (W.setCell ⟨gs, k, none⟩ (.int .i64 v)) :=
  ⟨h.d.set k v, h.car.setCell_ne (fun e => blk_type_ne h.d.s h.car (by decide) e) _⟩
theorem NkJ.push (h : NkJ w gs gx gr gc cv kv A cap sup arcs W) (hn : n = arcs.length) (hm : m = news.length) (hg : W.grownBy V (Value.slice A n cap).ownBlock)
    (ho : V.ownsRow w.heap.size 46 4 (.slice A2 (n + m) cap2) (n + m) (flat arcV arcs ++ flat arcV news)) : NkJ w gs gx gr gc cv kv A2 cap2 sup (arcs ++ news) (V.setCell ⟨gx, 1, none⟩ (.slice A2 (n + m) cap2)) := by
  have hg' := hg
  rw [hn] at hg'
  have b1 := h.d.mid hg'
  have c1 := h.car.grown hg' (blk_own_ne h.car h.d.own (by decide))
  exact ⟨h.d.push hn hm hg ho, c1.setCell_ne (fun e => blk_type_ne b1 c1 (by decide) e) _⟩
end
end Go.Proofs.Ytmebpglkeedaoaa
namespace Go.Proofs.Ytmebpglkeedaoaa
open Go.RowKit Dp
structure RwJ (n m g : Nat) (gI : Nat → Nat) (R : Nat → List Int) (W : World) : Prop where
  b : ∃ cs, Blk W g 22 cs ∧ ∀ i, i < m → cs[i]? = some (.slice (some ⟨gI i, 0, none⟩) n n)
  f : ∀ i, i < m → Fl 2 W (gI i) (R i) ∧ (R i).length = n
  inj : ∀ i j, i < m → j < m → gI i = gI j → i = j
section
variable {W V : World} {n m g gl : Nat} {gI gO : Nat → Nat} {R RO : Nat → List Int}
theorem RwJ.below (h : RwJ n m g gI R W) (hb : Below W.heap.size W V) : RwJ n m g gI R V := by
  obtain ⟨cs, h1, h2⟩ := h.b
  exact ⟨⟨cs, h1.below hb h1.lt, h2⟩, fun i hi => ⟨(h.f i hi).1.below hb, (h.f i hi).2⟩, h.inj⟩
theorem RwJ.lt (h : RwJ n m g gI R W) : g < W.heap.size := by
  obtain ⟨cs, h1, _⟩ := h.b
  exact h1.lt
theorem RwJ.cell (h : RwJ n m g gI R W) (i : Nat) (hi : i < m) : W.cell? ⟨g, i, none⟩ = some (.slice (some ⟨gI i, 0, none⟩) n n) := by
  obtain ⟨cs, h1, h2⟩ := h.b
  exact h1.cell i (h2 i hi)
theorem RwJ.other (h : RwJ n m g gI R W) {p : Addr} (h1 : g ≠ p.block) (h2 : ∀ i, i < m → gI i ≠ p.block) (u : Value) : RwJ n m g gI R (W.setCell p u) := by
  obtain ⟨cs, b1, b2⟩ := h.b
  exact ⟨⟨cs, b1.setCell_ne h1 u, b2⟩, fun i hi => ⟨(h.f i hi).1.set_ne (h2 i hi) u, (h.f i hi).2⟩, h.inj⟩
theorem RwJ.set (h : RwJ n m g gI R W) (i : Nat) (hi : i < m) (k : Nat) (v : Int) : RwJ n m g gI (upd R i ((R i).set k v)) (W.setCell ⟨gI i, k, none⟩ (.int .i64 v)) := by
  obtain ⟨cs, b1, b2⟩ := h.b
  refine ⟨⟨cs, b1.setCell_ne (fun e => blk_type_ne b1 (h.f i hi).1 (by decide) e.symm) _, b2⟩, fun j hj => ?_, h.inj⟩
  by_cases e : j = i
  · subst e
    unfold upd
    rw [if_pos rfl]
    exact ⟨(h.f j hj).1.put k v, by rw [List.length_set]; exact (h.f j hj).2⟩
  · unfold upd
    rw [if_neg e]
    exact ⟨(h.f j hj).1.set_ne (fun q => e (h.inj j i hj hi q)) _, (h.f j hj).2⟩
theorem RwJ.of (h : RwJ n m g gI R W) {R' : Nat → List Int} (he : ∀ i, i < m → R' i = R i) : RwJ n m g gI R' W :=
  ⟨h.b, fun i hi => by rw [he i hi]; exact h.f i hi, h.inj⟩
theorem RwJ.rows (h : RwJ n m g gI R W) (hn : n ≤ 9223372036854775807) : RowsAt W (some ⟨g, 0, none⟩) ((List.range m).map R) := fun i hi => by
  have hi' : i < m := by simpa using hi
  have e : ((List.range m).map R).getD i [] = R i := by simp [List.getD_eq_getElem?_getD, hi']
  refine ⟨_, rfl, h.lt, some ⟨gI i, 0, none⟩, n, ?_, ?_, ?_⟩
  · rw [add_row, e, (h.f i hi').2]; exact h.cell i hi'
  · rw [e, (h.f i hi').2]; exact ⟨Nat.le_refl _, hn⟩
  · rw [e]; exact (h.f i hi').1.ints
end
structure TbJ (w : World) (n m gt g1 g2 c1 c2 : Nat) (gI gO : Nat → Nat) (RI RO : Nat → List Int) (W : World) : Prop where
  b : Blk W gt 55 [.slice (some ⟨g1, 0, none⟩) m c1, .slice (some ⟨g2, 0, none⟩) m c2]
  i : RwJ n m g1 gI RI W
  o : RwJ n m g2 gO RO W
  ne : g1 ≠ g2
  dis : ∀ x y, x < m → y < m → gI x ≠ gO y
  bel : Below w.heap.size w W
  ge : ∀ x, x < m → w.heap.size ≤ gI x ∧ w.heap.size ≤ gO x
section
variable {w W V : World} {n m gt g1 g2 c1 c2 gl : Nat} {gI gO : Nat → Nat} {RI RO : Nat → List Int}
theorem TbJ.below (h : TbJ w n m gt g1 g2 c1 c2 gI gO RI RO W) (hb : Below W.heap.size W V) : TbJ w n m gt g1 g2 c1 c2 gI gO RI RO V :=
  ⟨h.b.below hb h.b.lt, h.i.below hb, h.o.below hb, h.ne, h.dis, h.bel.trans (hb.mono h.bel.size), h.ge⟩
theorem TbJ.set (h : TbJ w n m gt g1 g2 c1 c2 gI gO RI RO W) (x : Nat) (hx : x < m) (k : Nat) (v : Int) : TbJ w n m gt g1 g2 c1 c2 gI gO (upd RI x ((RI x).set k v)) RO (W.setCell ⟨gI x, k, none⟩ (.int .i64 v)) := by
  obtain ⟨cs, b1, b2⟩ := h.o.b
  exact ⟨h.b.setCell_ne (fun e => blk_type_ne h.b (h.i.f x hx).1 (by decide) e.symm) _, h.i.set x hx k v, h.o.other (fun e => blk_type_ne b1 (h.i.f x hx).1 (by decide) e.symm) (fun y hy e => h.dis x y hx hy e.symm) _, h.ne, h.dis, h.bel.setCell (by simp; exact (h.ge x hx).1) _, h.ge⟩
theorem TbJ.other (h : TbJ w n m gt g1 g2 c1 c2 gI gO RI RO W) {p : Addr} {xs : List Int} (hf : Fl 2 W p.block xs) (h1 : ∀ x, x < m → gI x ≠ p.block ∧ gO x ≠ p.block) (hp : w.heap.size ≤ p.block) (u : Value) : TbJ w n m gt g1 g2 c1 c2 gI gO RI RO (W.setCell p u) := by
  obtain ⟨cs, b1, b2⟩ := h.o.b
  obtain ⟨cs', b1', b2'⟩ := h.i.b
  exact ⟨h.b.setCell_ne (fun e => blk_type_ne h.b hf (by decide) e.symm) _, h.i.other (fun e => blk_type_ne b1' hf (by decide) e.symm) (fun y hy => (h1 y hy).1) _, h.o.other (fun e => blk_type_ne b1 hf (by decide) e.symm) (fun y hy => (h1 y hy).2) _, h.ne, h.dis, h.bel.setCell hp _, h.ge⟩
theorem TbJ.tab (h : TbJ w n m gt g1 g2 c1 c2 gI gO RI RO W) (hn : n ≤ 9223372036854775807) : TabAt W (some ⟨g1, 0, none⟩) (some ⟨g2, 0, none⟩) ⟨(List.range m).map RI, (List.range m).map RO⟩ := ⟨h.i.rows hn, h.o.rows hn⟩
end
end Go.Proofs.Ytmebpglkeedaoaa
namespace Go.Proofs.Ytmebpglkeedaoaa
open Go.RowKit Dp
theorem RwJ.add {n i g gn : Nat} {gI : Nat → Nat} {R : Nat → List Int} {W : World} (h : RwJ n i g gI R W) {cs : List Value} (hl : Blk W g 22 cs) (hi : i < cs.length) (hf : Fl 2 W gn (R i)) (hR : (R i).length = n) (hne : ∀ x, x < i → gI x ≠ gn) : RwJ n (i + 1) g (upd gI i gn) R (W.setCell ⟨g, i, none⟩ (.slice (some ⟨gn, 0, none⟩) n n)) := by
  obtain ⟨cs', b1, b2⟩ := h.b
  have e : cs' = cs := by
    unfold Blk at b1 hl
    rw [b1] at hl
    simpa using hl
  subst e
  refine ⟨⟨cs'.set i (.slice (some ⟨gn, 0, none⟩) n n), hl.setCell i _, fun x hx => ?_⟩, fun x hx => ?_, fun x y hx hy e => ?_⟩
  · unfold upd
    by_cases e : x = i
    · subst e; rw [if_pos rfl, List.getElem?_set_self hi]
    · rw [if_neg e, List.getElem?_set_ne (fun q => e q.symm)]; exact b2 x (by omega)
  · unfold upd
    by_cases e : x = i
    · subst e; rw [if_pos rfl]; exact ⟨hf.set_ne (p := ⟨g, x, none⟩) (fun q => blk_type_ne hl hf (by decide) q) _, hR⟩
    · rw [if_neg e]; exact ⟨(h.f x (by omega)).1.set_ne (p := ⟨g, i, none⟩) (fun q => blk_type_ne hl (h.f x (by omega)).1 (by decide) q) _, (h.f x (by omega)).2⟩
  · unfold upd at e
    by_cases e1 : x = i <;> by_cases e2 : y = i
    · omega
    · rw [if_pos e1, if_neg e2] at e; exact absurd e.symm (hne y (by omega))
    · rw [if_neg e1, if_pos e2] at e; exact absurd e (hne x (by omega))
    · rw [if_neg e1, if_neg e2] at e; exact h.inj x y (by omega) (by omega) e
structure TaJ (w : World) (n m ni no gt g1 g2 gl : Nat) (gI gO : Nat → Nat) (lv : List Int) (W : World) : Prop where
  b : Blk W gt 55 [.slice (some ⟨g1, 0, none⟩) m m, .slice (some ⟨g2, 0, none⟩) m m]
  li : ∃ cs, Blk W g1 22 cs ∧ cs.length = m
  lo : ∃ cs, Blk W g2 22 cs ∧ cs.length = m
  ri : RwJ n ni g1 gI (fun _ => List.replicate n 0) W
  ro : RwJ n no g2 gO (fun _ => List.replicate n 0) W
  lev : Fl 2 W gl lv
  ne : g1 ≠ g2
  dis : ∀ x y, x < ni → y < no → gI x ≠ gO y
  al : (∀ x, x < ni → gI x ≠ gl ∧ w.heap.size ≤ gI x) ∧ (∀ y, y < no → gO y ≠ gl ∧ w.heap.size ≤ gO y)
  bel : Below w.heap.size w W
  ge : w.heap.size ≤ g1 ∧ w.heap.size ≤ g2 ∧ w.heap.size ≤ gl
section
variable {w W V : World} {n m ni no gt g1 g2 gl a : Nat} {gI gO : Nat → Nat} {lv : List Int}
theorem TaJ.below (h : TaJ w n m ni no gt g1 g2 gl gI gO lv W) (hb : Below W.heap.size W V) : TaJ w n m ni no gt g1 g2 gl gI gO lv V := by
  obtain ⟨c1, x1, x2⟩ := h.li
  obtain ⟨c2, y1, y2⟩ := h.lo
  exact ⟨h.b.below hb h.b.lt, ⟨c1, x1.below hb x1.lt, x2⟩, ⟨c2, y1.below hb y1.lt, y2⟩, h.ri.below hb, h.ro.below hb, h.lev.below hb, h.ne, h.dis, h.al, h.bel.trans (hb.mono h.bel.size), h.ge⟩
theorem TaJ.fresh (h : TaJ w n m ni no gt g1 g2 gl gI gO lv W) (ha : W.heap.size ≤ a) : (∀ x, x < ni → gI x ≠ a) ∧ (∀ y, y < no → gO y ≠ a) ∧ a ≠ gl ∧ w.heap.size ≤ a :=
  ⟨fun x hx e => by have := (h.ri.f x hx).1.lt; omega, fun y hy e => by have := (h.ro.f y hy).1.lt; omega, fun e => by have := h.lev.lt; omega, by have := h.bel.size; omega⟩
theorem TaJ.inn (h : TaJ w n m ni no gt g1 g2 gl gI gO lv W) (hi : ni < m) (hf : Fl 2 W a (List.replicate n 0)) (hx : (∀ x, x < ni → gI x ≠ a) ∧ (∀ y, y < no → gO y ≠ a) ∧ a ≠ gl ∧ w.heap.size ≤ a) :
    TaJ w n m (ni + 1) no gt g1 g2 gl (upd gI ni a) gO lv (W.setCell ⟨g1, ni, none⟩ (.slice (some ⟨a, 0, none⟩) n n)) := by
  obtain ⟨c1, x1, x2⟩ := h.li
  obtain ⟨c2, y1, y2⟩ := h.lo
  refine ⟨h.b.setCell_ne (fun e => blk_type_ne h.b x1 (by decide) e.symm) _, ⟨_, x1.setCell ni _, by simp [x2]⟩, ⟨c2, y1.setCell_ne (fun e => h.ne e.symm) _, y2⟩, h.ri.add x1 (by omega) hf (by simp) hx.1,
    h.ro.other (fun e => h.ne e.symm) (fun y hy e => blk_type_ne x1 (h.ro.f y hy).1 (by decide) e) _, h.lev.set_ne (fun e => blk_type_ne x1 h.lev (by decide) e) _, h.ne, fun x y hx' hy => ?_, ⟨fun x hx' => ?_, h.al.2⟩, h.bel.setCell h.ge.1 _, h.ge⟩
  · unfold upd
    by_cases e : x = ni
    · rw [if_pos e]; exact fun q => hx.2.1 y hy q.symm
    · rw [if_neg e]; exact h.dis x y (by omega) hy
  · unfold upd
    by_cases e : x = ni
    · rw [if_pos e]; exact ⟨hx.2.2.1, hx.2.2.2⟩
    · rw [if_neg e]; exact h.al.1 x (by omega)
theorem TaJ.outt (h : TaJ w n m ni no gt g1 g2 gl gI gO lv W) (hi : no < m) (hf : Fl 2 W a (List.replicate n 0)) (hx : (∀ x, x < ni → gI x ≠ a) ∧ (∀ y, y < no → gO y ≠ a) ∧ a ≠ gl ∧ w.heap.size ≤ a) :
    TaJ w n m ni (no + 1) gt g1 g2 gl gI (upd gO no a) lv (W.setCell ⟨g2, no, none⟩ (.slice (some ⟨a, 0, none⟩) n n)) := by
  obtain ⟨c1, x1, x2⟩ := h.li
  obtain ⟨c2, y1, y2⟩ := h.lo
  refine ⟨h.b.setCell_ne (fun e => blk_type_ne h.b y1 (by decide) e.symm) _, ⟨c1, x1.setCell_ne (fun e => h.ne e) _, x2⟩, ⟨_, y1.setCell no _, by simp [y2]⟩, h.ri.other (fun e => h.ne e) (fun x hx' e => blk_type_ne y1 (h.ri.f x hx').1 (by decide) e) _,
    h.ro.add y1 (by omega) hf (by simp) hx.2.1, h.lev.set_ne (fun e => blk_type_ne y1 h.lev (by decide) e) _, h.ne, fun x y hx' hy => ?_, ⟨h.al.1, fun y hy => ?_⟩, h.bel.setCell h.ge.2.1 _, h.ge⟩
  · unfold upd
    by_cases e : y = no
    · rw [if_pos e]; exact hx.1 x hx'
    · rw [if_neg e]; exact h.dis x y hx' (by omega)
  · unfold upd
    by_cases e : y = no
    · rw [if_pos e]; exact ⟨hx.2.2.1, hx.2.2.2⟩
    · rw [if_neg e]; exact h.al.2 y (by omega)
theorem TaJ.set (h : TaJ w n m ni no gt g1 g2 gl gI gO lv W) (k : Nat) (v : Int) : TaJ w n m ni no gt g1 g2 gl gI gO (lv.set k v) (W.setCell ⟨gl, k, none⟩ (.int .i64 v)) := by
  obtain ⟨c1, x1, x2⟩ := h.li
  obtain ⟨c2, y1, y2⟩ := h.lo
  exact ⟨h.b.setCell_ne (fun e => blk_type_ne h.b h.lev (by decide) e.symm) _, ⟨c1, x1.setCell_ne (fun e => blk_type_ne x1 h.lev (by decide) e.symm) _, x2⟩, ⟨c2, y1.setCell_ne (fun e => blk_type_ne y1 h.lev (by decide) e.symm) _, y2⟩, h.ri.other (fun e => blk_type_ne x1 h.lev (by decide) e.symm) (fun x hx => (h.al.1 x hx).1) _,
    h.ro.other (fun e => blk_type_ne y1 h.lev (by decide) e.symm) (fun y hy => (h.al.2 y hy).1) _, h.lev.put k v, h.ne, h.dis, h.al, h.bel.setCell h.ge.2.2 _, h.ge⟩
theorem TaJ.cellI (h : TaJ w n m ni no gt g1 g2 gl gI gO lv W) (k : Nat) (hk : k < m) : (∃ v, W.cell? ⟨g1, k, none⟩ = some v) ∧ W.frozen? ⟨g1, k, none⟩ = false ∧ g1 < W.heap.size := by
  obtain ⟨c1, x1, x2⟩ := h.li
  exact ⟨⟨_, x1.cell k (List.getElem?_eq_getElem (by omega))⟩, x1.free k, x1.lt⟩
theorem TaJ.cellO (h : TaJ w n m ni no gt g1 g2 gl gI gO lv W) (k : Nat) (hk : k < m) : (∃ v, W.cell? ⟨g2, k, none⟩ = some v) ∧ W.frozen? ⟨g2, k, none⟩ = false ∧ g2 < W.heap.size := by
  obtain ⟨c1, x1, x2⟩ := h.lo
  exact ⟨⟨_, x1.cell k (List.getElem?_eq_getElem (by omega))⟩, x1.free k, x1.lt⟩
theorem TaJ.full (h : TaJ w n m m m gt g1 g2 gl gI gO lv W) : TbJ w n m gt g1 g2 m m gI gO (fun _ => List.replicate n 0) (fun _ => List.replicate n 0) W :=
  ⟨h.b, h.ri, h.ro, h.ne, h.dis, h.bel, fun x hx => ⟨(h.al.1 x hx).2, (h.al.2 x hx).2⟩⟩
end
end Go.Proofs.Ytmebpglkeedaoaa
namespace Go.Proofs.Ytmebpglkeedaoaa
open Go.RowKit Dp
namespace Dp
def mapR (m : Nat) (f : Nat → Int) : List Int := (List.range m).map f
theorem mapR_len (m : Nat) (f : Nat → Int) : (mapR m f).length = m := by simp [mapR]
theorem mapR_get {m i : Nat} {f : Nat → Int} (h : i < m) : (mapR m f).getD i 0 = f i := by simp [mapR, List.getD_eq_getElem?_getD, h]
theorem mapR_congr {m : Nat} {f g : Nat → Int} (h : ∀ x, x < m → f x = g x) : mapR m f = mapR m g := by
  unfold mapR
  exact List.map_congr_left fun x hx => h x (by simpa using hx)
theorem mapR_set {m i : Nat} {f : Nat → Int} (v : Int) : (mapR m f).set i v = mapR m (fun x => if x = i then v else f x) := by
  apply List.ext_getElem
  · simp [mapR]
  · intro j h1 h2
    simp only [mapR, List.getElem_set, List.getElem_map, List.getElem_range]
    by_cases e : i = j
    · subst e; simp
    · rw [if_neg e, if_neg (fun q => e q.symm)]
def lvC (S : Site) (cs : List Car) (m k i : Nat) : List Int := mapR m (fun x => if x < i then egL S cs (k + 1) x else egL S cs k x)
def rwC (S : Site) (cs : List Car) (n k i : Nat) (x : Nat) : List Int := rowK (egX S cs x) n (if x < i then k + 1 else k)
theorem lvC_zero (S : Site) (cs : List Car) (m k : Nat) : lvC S cs m k 0 = mapR m (egL S cs k) := mapR_congr fun x _ => by rw [if_neg (by omega)]
theorem lvC_all (S : Site) (cs : List Car) (m k : Nat) : lvC S cs m k m = mapR m (egL S cs (k + 1)) := mapR_congr fun x hx => by rw [if_pos hx]
theorem rwC_zero (S : Site) (cs : List Car) (n k x : Nat) : rwC S cs n k 0 x = rowK (egX S cs x) n k := by unfold rwC; rw [if_neg (by omega)]
theorem rwC_all (S : Site) (cs : List Car) {n k m x : Nat} (h : x < m) : rwC S cs n k m x = rowK (egX S cs x) n (k + 1) := by unfold rwC; rw [if_pos h]
theorem lvC_get (S : Site) (cs : List Car) {m k i : Nat} (h : i < m) : (lvC S cs m k i).getD i 0 = egL S cs k i := by unfold lvC; rw [mapR_get h, if_neg (by omega)]
theorem lvC_set (S : Site) (cs : List Car) {m k i : Nat} (h : i < m) (u v : Int) (hv : v = egL S cs (k + 1) i) : ((lvC S cs m k i).set i u).set i v = lvC S cs m k (i + 1) ∧ (lvC S cs m k i).set i v = lvC S cs m k (i + 1) := by
  rw [List.set_set]
  unfold lvC
  rw [mapR_set]
  have : mapR m (fun x => if x = i then v else if x < i then egL S cs (k + 1) x else egL S cs k x) = mapR m (fun x => if x < i + 1 then egL S cs (k + 1) x else egL S cs k x) := mapR_congr fun x hx => by
    by_cases e : x = i
    · subst e; rw [if_pos rfl, if_pos (by omega), hv]
    · rw [if_neg e]
      by_cases h2 : x < i
      · rw [if_pos h2, if_pos (by omega)]
      · rw [if_neg h2, if_neg (by omega)]
  exact ⟨this, this⟩
theorem rwC_set (S : Site) (cs : List Car) {n k i : Nat} (hk : k < n) (x : Nat) : (if x = i then (rwC S cs n k i i).set k (egX S cs i k) else rwC S cs n k i x) = rwC S cs n k (i + 1) x := by
  by_cases e : x = i
  · subst e
    rw [if_pos rfl]
    unfold rwC
    rw [if_neg (by omega), if_pos (by omega), rowK_set _ _ _ hk]
  · rw [if_neg e]
    unfold rwC
    by_cases h2 : x < i
    · rw [if_pos h2, if_pos (by omega)]
    · rw [if_neg h2, if_neg (by omega)]
theorem rwC_skip (S : Site) (cs : List Car) {n k i : Nat} (hk : k < n) (h0 : egX S cs i k = 0) (x : Nat) : rwC S cs n k i x = rwC S cs n k (i + 1) x := by
  unfold rwC
  by_cases e : x = i
  · subst e
    rw [if_neg (by omega), if_pos (by omega), rowK_none _ _ _ h0 hk]
  · by_cases h2 : x < i
    · rw [if_pos h2, if_pos (by omega)]
    · rw [if_neg h2, if_neg (by omega)]
end Dp
theorem make_53 (n : Nat) (hn : n ≤ 4096) (W : World) : (Instr.makeSlice 53 (.int .i64 n) (.int .i64 n)).run Try.prog W = .ok (.slice (some ⟨W.heap.size, 0, none⟩) n n) (W.alloc (.cells (Array.replicate n (.slice none 0 0)) 22)) := by
  obtain ⟨i, hi, hz0, hz1, hz2⟩ := info_parts info22
  have hr := run_make (P := Try.prog) W 53 22 i _ Try.underlying53 hi hz0 .i64 .i64 n n (by omega) (by omega) (by rw [hz2]; omega) (by omega)
  simp only [Int.toNat_natCast, hz1, Nat.mul_one] at hr
  rw [hr]
  have e1 : madeCells (Value.slice none 0 0).cells n = Array.replicate n (.slice none 0 0) := by
    unfold madeCells
    apply Array.ext
    · simp
    · intro j h1 h2
      simp [Value.cells, Nat.mod_one]
  rw [e1]
theorem min3_run (x y z : Int) (ts : Array TypeId) (t : TypeId) (w : World) : (Builtin.min_ ts t #[.int .i64 x, .int .i64 y, .int .i64 z]).run Try.prog w = .ok (.int .i64 (min (min x y) z)) w := by
  have h : (Builtin.min_ ts t #[.int .i64 x, .int .i64 y, .int .i64 z]).run Try.prog w = .ok (.int .i64 (if z < (if y < x then y else x) then z else (if y < x then y else x))) w := by
    have e : ∀ a b w, Sem.run Try.prog (Builtin.min2 (.int .i64 a) (.int .i64 b)) w = .ok (.int .i64 (if b < a then b else a)) w := fun a b w => rfl
    simp [Builtin.min_, e]
  rw [h, gmin_eq, gmin_eq]
structure EgJ (w : World) (n m gt g1 g2 c1 c2 gl gr : Nat) (gI gO : Nat → Nat) (cv : List Value) (RI : Nat → List Int) (lv : List Int) (W : World) : Prop where
  t : TbJ w n m gt g1 g2 c1 c2 gI gO RI (fun _ => List.replicate n 0) W
  l : Fl 2 W gl lv
  ap : ∀ x, x < m → gI x ≠ gl ∧ gO x ≠ gl
  lg : w.heap.size ≤ gl
  s : Blk W w.heap.size 51 cv
  r : Blk W gr 55 [.slice none 0 0, .slice none 0 0]
  rg : gr ≠ gt ∧ w.heap.size ≤ gr
section
variable {w W V : World} {n m gt g1 g2 c1 c2 gl gr : Nat} {gI gO : Nat → Nat} {cv : List Value} {RI : Nat → List Int} {lv : List Int}
theorem EgJ.below (h : EgJ w n m gt g1 g2 c1 c2 gl gr gI gO cv RI lv W) (hb : Below W.heap.size W V) : EgJ w n m gt g1 g2 c1 c2 gl gr gI gO cv RI lv V :=
  ⟨h.t.below hb, h.l.below hb, h.ap, h.lg, h.s.below hb h.s.lt, h.r.below hb h.r.lt, h.rg⟩
theorem EgJ.setI (h : EgJ w n m gt g1 g2 c1 c2 gl gr gI gO cv RI lv W) (x : Nat) (hx : x < m) (k : Nat) (v : Int) : EgJ w n m gt g1 g2 c1 c2 gl gr gI gO cv (fun y => if y = x then (RI x).set k v else RI y) lv (W.setCell ⟨gI x, k, none⟩ (.int .i64 v)) :=
  ⟨h.t.set x hx k v, h.l.set_ne (p := ⟨gI x, k, none⟩) (fun e => (h.ap x hx).1 e.symm) _, h.ap, h.lg, h.s.setCell_ne (fun e => blk_type_ne h.s (h.t.i.f x hx).1 (by decide) e.symm) _, h.r.setCell_ne (fun e => blk_type_ne h.r (h.t.i.f x hx).1 (by decide) e.symm) _, h.rg⟩
theorem EgJ.setL (h : EgJ w n m gt g1 g2 c1 c2 gl gr gI gO cv RI lv W) (k : Nat) (v : Int) : EgJ w n m gt g1 g2 c1 c2 gl gr gI gO cv RI (lv.set k v) (W.setCell ⟨gl, k, none⟩ (.int .i64 v)) :=
  ⟨h.t.other (p := ⟨gl, k, none⟩) h.l (fun x hx => h.ap x hx) h.lg _, h.l.put k v, h.ap, h.lg, h.s.setCell_ne (fun e => blk_type_ne h.s h.l (by decide) e.symm) _, h.r.setCell_ne (fun e => blk_type_ne h.r h.l (by decide) e.symm) _, h.rg⟩
theorem EgJ.rows (h : EgJ w n m gt g1 g2 c1 c2 gl gr gI gO cv RI lv W) {R' : Nat → List Int} (he : ∀ i, i < m → R' i = RI i) : EgJ w n m gt g1 g2 c1 c2 gl gr gI gO cv R' lv W :=
  ⟨⟨h.t.b, h.t.i.of he, h.t.o, h.t.ne, h.t.dis, h.t.bel, h.t.ge⟩, h.l, h.ap, h.lg, h.s, h.r, h.rg⟩
end
end Go.Proofs.Ytmebpglkeedaoaa
namespace Go.Proofs.Ytmebpglkeedaoaa
open Go.RowKit Dp
def slR (n i : Nat) (gI : Nat → Nat) : List Value := (List.range i).map fun x => .slice (some ⟨gI x, 0, none⟩) n n
theorem slR_add (n i a : Nat) (gI : Nat → Nat) : slR n i gI ++ [.slice (some ⟨a, 0, none⟩) n n] = slR n (i + 1) (upd gI i a) := by
  unfold slR
  rw [List.range_succ, List.map_append]
  congr 1
  · exact List.map_congr_left fun x hx => by unfold upd; rw [if_neg (by have : x < i := (by simpa using hx); omega)]
  · simp [upd]
structure EhJ (w : World) (n i : Nat) (A : Option Addr) (c : Nat) (gI : Nat → Nat) (W : World) : Prop where
  o : W.ownsRow w.heap.size 22 1 (.slice A i c) i (slR n i gI)
  f : ∀ x, x < i → Fl 2 W (gI x) (List.replicate n 0) ∧ w.heap.size ≤ gI x
  inj : ∀ x y, x < i → y < i → gI x = gI y → x = y
section
variable {w W V : World} {n i c c2 a : Nat} {A A2 : Option Addr} {gI : Nat → Nat}
theorem EhJ.below (h : EhJ w n i A c gI W) (hb : Below W.heap.size W V) : EhJ w n i A c gI V := ⟨ownBelow h.o hb, fun x hx => ⟨(h.f x hx).1.below hb, (h.f x hx).2⟩, h.inj⟩
theorem EhJ.set {t : TypeId} {p : Addr} {cs : List Value} (h : EhJ w n i A c gI W) (hb : Blk W p.block t cs) (h1 : t ≠ 2) (h2 : t ≠ 22) (u : Value) : EhJ w n i A c gI (W.setCell p u) :=
  ⟨ownSet h.o (own_blk_no hb h.o h2) u, fun x hx => ⟨(h.f x hx).1.set_ne (fun e => by have := (h.f x hx).1; rw [e] at this; exact blk_type_ne hb this h1 rfl) u, (h.f x hx).2⟩, h.inj⟩
theorem EhJ.nil (w W : World) (n : Nat) (gI : Nat → Nat) : EhJ w n 0 none 0 gI W := ⟨World.ownsRow_nil _ _ _ _, fun x hx => absurd hx (Nat.not_lt_zero _), fun x y hx => absurd hx (Nat.not_lt_zero _)⟩
theorem EhJ.add (h : EhJ w n i A c gI W) (hg : W.grownBy V (Value.slice A i c).ownBlock) (ho : V.ownsRow w.heap.size 22 1 (.slice A2 (i + 1) c2) (i + 1) (slR n i gI ++ [.slice (some ⟨a, 0, none⟩) n n])) (hf : Fl 2 W a (List.replicate n 0)) (ha : w.heap.size ≤ a) (hne : ∀ x, x < i → gI x ≠ a) : EhJ w n (i + 1) A2 c2 (upd gI i a) V := by
  rw [slR_add] at ho
  refine ⟨ho, fun x hx => ?_, fun x y hx hy e => ?_⟩
  · unfold upd
    by_cases e : x = i
    · rw [if_pos e]; exact ⟨Blk.grown hf hg (blk_own_ne hf h.o (by decide)), ha⟩
    · rw [if_neg e]; exact ⟨Blk.grown (h.f x (by omega)).1 hg (blk_own_ne (h.f x (by omega)).1 h.o (by decide)), (h.f x (by omega)).2⟩
  · unfold upd at e
    by_cases e1 : x = i <;> by_cases e2 : y = i
    · omega
    · rw [if_pos e1, if_neg e2] at e; exact absurd e.symm (hne y (by omega))
    · rw [if_neg e1, if_pos e2] at e; exact absurd e (hne x (by omega))
    · rw [if_neg e1, if_neg e2] at e; exact h.inj x y (by omega) (by omega) e
theorem EhJ.grown {j c' : Nat} {A' : Option Addr} {gO : Nat → Nat} (h : EhJ w n i A c gI W) (h' : EhJ w n j A' c' gO W) (hd : ∀ k, OwnB A k → ¬ OwnB A' k) (hg : W.grownBy V (Value.slice A' j c').ownBlock) : EhJ w n i A c gI V :=
  ⟨grow_own h.o h'.o hd hg, fun x hx => ⟨Blk.grown (h.f x hx).1 hg (blk_own_ne (h.f x hx).1 h'.o (by decide)), (h.f x hx).2⟩, h.inj⟩
theorem EhJ.rw (h : EhJ w n i A c gI W) (hi : 0 < i) : ∃ g, A = some ⟨g, 0, none⟩ ∧ RwJ n i g gI (fun _ => List.replicate n 0) W ∧ i ≤ c ∧ c ≤ 9223372036854775807 := by
  obtain ⟨g, hA, hb, hl, h1, h2⟩ := own_form h.o hi
  subst hA
  rcases h.o.2 with ⟨h0, _⟩ | ⟨g', c', cur, hv, _, hgk, hnc, hcm, hsz, htk⟩
  · simp at h0
  · simp only [Value.slice.injEq, Option.some.injEq, Addr.mk.injEq, and_true, true_and] at hv
    obtain ⟨rfl, rfl⟩ := hv
    refine ⟨g, rfl, ⟨⟨cur.toList, by unfold Blk; simpa using hgk, fun x hx => ?_⟩, fun x hx => ⟨(h.f x hx).1, by simp⟩, h.inj⟩, h1, h2⟩
    have e : (cur.toList.take (i * 1))[x]? = cur.toList[x]? := by rw [List.getElem?_take, if_pos (by omega)]
    rw [← e, htk]
    unfold slR
    rw [List.getElem?_map, List.getElem?_range hx]; rfl
end
structure EmJ (w : World) (n m i j gt gr : Nat) (A1 A2 : Option Addr) (c1 c2 : Nat) (gI gO : Nat → Nat) (W : World) : Prop where
  b : Blk W gt 55 [.slice A1 i c1, .slice A2 j c2]
  r : Blk W gr 55 [.slice none 0 0, .slice none 0 0]
  x : EhJ w n i A1 c1 gI W
  y : EhJ w n j A2 c2 gO W
  d : ∀ k, OwnB A1 k → ¬ OwnB A2 k
  dis : ∀ p q, p < i → q < j → gI p ≠ gO q
  ne : gt ≠ gr
  bel : Below w.heap.size w W
  ge : w.heap.size ≤ gt ∧ w.heap.size ≤ gr
section
variable {w W V : World} {n m i j gt gr c1 c2 c3 a : Nat} {A1 A2 A3 : Option Addr} {gI gO : Nat → Nat}
theorem EmJ.below (h : EmJ w n m i j gt gr A1 A2 c1 c2 gI gO W) (hb : Below W.heap.size W V) : EmJ w n m i j gt gr A1 A2 c1 c2 gI gO V :=
  ⟨h.b.below hb h.b.lt, h.r.below hb h.r.lt, h.x.below hb, h.y.below hb, h.d, h.dis, h.ne, h.bel.trans (hb.mono h.bel.size), h.ge⟩
theorem EmJ.fresh (h : EmJ w n m i j gt gr A1 A2 c1 c2 gI gO W) (ha : W.heap.size ≤ a) : (∀ p, p < i → gI p ≠ a) ∧ (∀ q, q < j → gO q ≠ a) ∧ w.heap.size ≤ a :=
  ⟨fun p hp e => by have := (h.x.f p hp).1.lt; omega, fun q hq e => by have := (h.y.f q hq).1.lt; omega, by have := h.bel.size; omega⟩
theorem EmJ.addI (h : EmJ w n m i j gt gr A1 A2 c1 c2 gI gO W) (hg : W.grownBy V (Value.slice A1 i c1).ownBlock) (ho : V.ownsRow w.heap.size 22 1 (.slice A3 (i + 1) c3) (i + 1) (slR n i gI ++ [.slice (some ⟨a, 0, none⟩) n n])) (hk : ∀ k, OwnB A3 k → OwnB A1 k ∨ k = W.heap.size) (hf : Fl 2 W a (List.replicate n 0)) (hx : (∀ p, p < i → gI p ≠ a) ∧ (∀ q, q < j → gO q ≠ a) ∧ w.heap.size ≤ a) :
    EmJ w n m (i + 1) j gt gr A3 A2 c3 c2 (upd gI i a) gO (V.setCell ⟨gt, 0, none⟩ (.slice A3 (i + 1) c3)) := by
  have b1 := h.b.grown hg (blk_own_ne h.b h.x.o (by decide))
  have r1 := h.r.grown hg (blk_own_ne h.r h.x.o (by decide))
  refine ⟨b1.setCell 0 _, r1.setCell_ne (fun e => h.ne e.symm) _, (h.x.add hg ho hf hx.2.2 hx.1).set (p := ⟨gt, 0, none⟩) b1 (by decide) (by decide) _, (h.y.grown h.x (fun k h1 h2 => h.d k h2 h1) hg).set (p := ⟨gt, 0, none⟩) b1 (by decide) (by decide) _, fun k h1 h2 => ?_, fun p q hp hq => ?_, h.ne, (h.bel.grown hg h.bel.size (fun k e => (World.ownsRow.lt h.x.o k e).1)).setCell (by simp; exact h.ge.1) _, h.ge⟩
  · rcases hk k h1 with h3 | h3
    · exact h.d k h3 h2
    · have := (ownLt h.y.o h2).1; omega
  · unfold upd
    by_cases e : p = i
    · rw [if_pos e]; exact fun z => hx.2.1 q hq z.symm
    · rw [if_neg e]; exact h.dis p q (by omega) hq
theorem EmJ.addO (h : EmJ w n m i j gt gr A1 A2 c1 c2 gI gO W) (hg : W.grownBy V (Value.slice A2 j c2).ownBlock) (ho : V.ownsRow w.heap.size 22 1 (.slice A3 (j + 1) c3) (j + 1) (slR n j gO ++ [.slice (some ⟨a, 0, none⟩) n n])) (hk : ∀ k, OwnB A3 k → OwnB A2 k ∨ k = W.heap.size) (hf : Fl 2 W a (List.replicate n 0)) (hx : (∀ p, p < i → gI p ≠ a) ∧ (∀ q, q < j → gO q ≠ a) ∧ w.heap.size ≤ a) :
    EmJ w n m i (j + 1) gt gr A1 A3 c1 c3 gI (upd gO j a) (V.setCell ⟨gt, 1, none⟩ (.slice A3 (j + 1) c3)) := by
  have b1 := h.b.grown hg (blk_own_ne h.b h.y.o (by decide))
  have r1 := h.r.grown hg (blk_own_ne h.r h.y.o (by decide))
  refine ⟨b1.setCell 1 _, r1.setCell_ne (fun e => h.ne e.symm) _, (h.x.grown h.y h.d hg).set (p := ⟨gt, 1, none⟩) b1 (by decide) (by decide) _, (h.y.add hg ho hf hx.2.2 hx.2.1).set (p := ⟨gt, 1, none⟩) b1 (by decide) (by decide) _, fun k h1 h2 => ?_, fun p q hp hq => ?_, h.ne, (h.bel.grown hg h.bel.size (fun k e => (World.ownsRow.lt h.y.o k e).1)).setCell (by simp; exact h.ge.1) _, h.ge⟩
  · rcases hk k h2 with h3 | h3
    · exact h.d k h1 h3
    · have := (ownLt h.x.o h1).1; omega
  · unfold upd
    by_cases e : q = j
    · rw [if_pos e]; exact hx.1 p hp
    · rw [if_neg e]; exact h.dis p q hp (by omega)
end
end Go.Proofs.Ytmebpglkeedaoaa
namespace Go.Proofs.Ytmebpglkeedaoaa
open Go.RowKit Dp
structure RfJ (w : World) (n m gt gr : Nat) (A1 A2 : Option Addr) (c1 c2 : Nat) (cv : List Value) (RI : Nat → List Int) (W : World) : Prop where
  b : Blk W gt 55 [.slice A1 m c1, .slice A2 m c2]
  r : Blk W gr 55 [.slice none 0 0, .slice none 0 0]
  s : Blk W w.heap.size 51 cv
  ne : gr ≠ gt
  ge : w.heap.size ≤ gt ∧ w.heap.size ≤ gr
  bel : Below w.heap.size w W
  rw : 0 < m → ∃ g1 g2 gI gO, A1 = some ⟨g1, 0, none⟩ ∧ A2 = some ⟨g2, 0, none⟩ ∧ TbJ w n m gt g1 g2 c1 c2 gI gO RI (fun _ => List.replicate n 0) W
  cc : (m ≤ c1 ∧ c1 ≤ 9223372036854775807) ∧ (m ≤ c2 ∧ c2 ≤ 9223372036854775807)
section
variable {w W V : World} {n m gt gr c1 c2 : Nat} {A1 A2 : Option Addr} {cv : List Value} {RI R' : Nat → List Int}
theorem RfJ.below (h : RfJ w n m gt gr A1 A2 c1 c2 cv RI W) (hb : Below W.heap.size W V) : RfJ w n m gt gr A1 A2 c1 c2 cv RI V :=
  ⟨h.b.below hb h.b.lt, h.r.below hb h.r.lt, h.s.below hb h.s.lt, h.ne, h.ge, h.bel.trans (hb.mono h.bel.size), fun hm => by
    obtain ⟨g1, g2, gI, gO, e1, e2, t⟩ := h.rw hm
    exact ⟨g1, g2, gI, gO, e1, e2, t.below hb⟩, h.cc⟩
theorem RfJ.rows (h : RfJ w n m gt gr A1 A2 c1 c2 cv RI W) (he : ∀ x, x < m → R' x = RI x) : RfJ w n m gt gr A1 A2 c1 c2 cv R' W :=
  ⟨h.b, h.r, h.s, h.ne, h.ge, h.bel, fun hm => by
    obtain ⟨g1, g2, gI, gO, e1, e2, t⟩ := h.rw hm
    exact ⟨g1, g2, gI, gO, e1, e2, ⟨t.b, t.i.of he, t.o, t.ne, t.dis, t.bel, t.ge⟩⟩, h.cc⟩
theorem RfJ.set (h : RfJ w n m gt gr A1 A2 c1 c2 cv RI W) {g1 g2 : Nat} {gI gO : Nat → Nat} (e1 : A1 = some ⟨g1, 0, none⟩) (e2 : A2 = some ⟨g2, 0, none⟩) (t : TbJ w n m gt g1 g2 c1 c2 gI gO RI (fun _ => List.replicate n 0) W) (x : Nat) (hx : x < m) (k : Nat) (v : Int) :
    RfJ w n m gt gr A1 A2 c1 c2 cv (fun y => if y = x then (RI x).set k v else RI y) (W.setCell ⟨gI x, k, none⟩ (.int .i64 v)) := by
  have f := (t.i.f x hx).1
  refine ⟨h.b.setCell_ne (fun e => blk_type_ne h.b f (by decide) e.symm) _, h.r.setCell_ne (fun e => blk_type_ne h.r f (by decide) e.symm) _, h.s.setCell_ne (fun e => blk_type_ne h.s f (by decide) e.symm) _, h.ne, h.ge, h.bel.setCell (by simp; exact (t.ge x hx).1) _, fun _ => ⟨g1, g2, gI, gO, e1, e2, t.set x hx k v⟩, h.cc⟩
theorem RfJ.tab (h : RfJ w n m gt gr A1 A2 c1 c2 cv RI W) (hn : n ≤ 9223372036854775807) : TabAt W A1 A2 ⟨(List.range m).map RI, (List.range m).map fun _ => List.replicate n 0⟩ := by
  by_cases hm : 0 < m
  · obtain ⟨g1, g2, gI, gO, e1, e2, t⟩ := h.rw hm
    subst e1; subst e2
    exact t.tab hn
  · obtain rfl : m = 0 := by omega
    exact ⟨fun i hi => absurd hi (by simp), fun i hi => absurd hi (by simp)⟩
theorem RfJ.tabset (h : RfJ w n m gt gr A1 A2 c1 c2 cv RI W) (hn : n ≤ 9223372036854775807) (u v : Value) : TabAt ((W.setCell ⟨gr, 0, none⟩ u).setCell ⟨gr, 1, none⟩ v) A1 A2 ⟨(List.range m).map RI, (List.range m).map fun _ => List.replicate n 0⟩ := by
  by_cases hm : 0 < m
  · obtain ⟨g1, g2, gI, gO, e1, e2, t⟩ := h.rw hm
    subst e1; subst e2
    obtain ⟨ci, x1, x2⟩ := t.i.b
    obtain ⟨co, y1, y2⟩ := t.o.b
    have e1 := (t.i.other (p := ⟨gr, 0, none⟩) (fun e => blk_type_ne h.r x1 (by decide) e) (fun x hx e => blk_type_ne h.r (t.i.f x hx).1 (by decide) e) u).other (p := ⟨gr, 1, none⟩) (fun e => blk_type_ne h.r x1 (by decide) e) (fun x hx e => blk_type_ne h.r (t.i.f x hx).1 (by decide) e) v
    have e2 := (t.o.other (p := ⟨gr, 0, none⟩) (fun e => blk_type_ne h.r y1 (by decide) e) (fun x hx e => blk_type_ne h.r (t.o.f x hx).1 (by decide) e) u).other (p := ⟨gr, 1, none⟩) (fun e => blk_type_ne h.r y1 (by decide) e) (fun x hx e => blk_type_ne h.r (t.o.f x hx).1 (by decide) e) v
    exact ⟨e1.rows hn, e2.rows hn⟩
  · obtain rfl : m = 0 := by omega
    exact ⟨fun i hi => absurd hi (by simp), fun i hi => absurd hi (by simp)⟩
theorem RfJ.start {gI gO : Nat → Nat} (hb : Blk W gt 55 [.slice A1 m c1, .slice A2 m c2]) (hr : Blk W gr 55 [.slice none 0 0, .slice none 0 0]) (hs : Blk W w.heap.size 51 cv) (hne : gr ≠ gt) (hge : w.heap.size ≤ gt ∧ w.heap.size ≤ gr) (hbel : Below w.heap.size w W) {w0 : World} (h0 : w.heap.size ≤ w0.heap.size) (x : EhJ w0 n m A1 c1 gI W) (y : EhJ w0 n m A2 c2 gO W) (hd : ∀ k, OwnB A1 k → ¬ OwnB A2 k) (hdis : ∀ p q, p < m → q < m → gI p ≠ gO q) : RfJ w n m gt gr A1 A2 c1 c2 cv (fun _ => List.replicate n 0) W := by
  refine ⟨hb, hr, hs, hne, hge, hbel, fun hm => ?_, ?_⟩
  · obtain ⟨g1, e1, r1, _, _⟩ := x.rw hm
    obtain ⟨g2, e2, r2, _, _⟩ := y.rw hm
    refine ⟨g1, g2, gI, gO, e1, e2, ⟨by rw [← e1, ← e2]; exact hb, r1, r2, fun e => ?_, hdis, hbel, fun z hz => ⟨Nat.le_trans h0 (x.f z hz).2, Nat.le_trans h0 (y.f z hz).2⟩⟩⟩
    subst e1; subst e2
    exact hd g1 (ownB_some.2 rfl) (ownB_some.2 e)
  · by_cases hm : 0 < m
    · obtain ⟨g1, e1, r1, k1, k2⟩ := x.rw hm
      obtain ⟨g2, e2, r2, k3, k4⟩ := y.rw hm
      exact ⟨⟨k1, k2⟩, ⟨k3, k4⟩⟩
    · obtain rfl : m = 0 := by omega
      refine ⟨⟨Nat.zero_le _, ?_⟩, ⟨Nat.zero_le _, ?_⟩⟩
      · rcases x.o.2 with ⟨h, _⟩ | ⟨g, c, cur, hv, _, _, _, hc, _⟩
        · simp only [Value.slice.injEq] at h; omega
        · simp only [Value.slice.injEq] at hv; unfold maxLen at hc; omega
      · rcases y.o.2 with ⟨h, _⟩ | ⟨g, c, cur, hv, _, _, _, hc, _⟩
        · simp only [Value.slice.injEq] at h; omega
        · simp only [Value.slice.injEq] at hv; unfold maxLen at hc; omega
end
end Go.Proofs.Ytmebpglkeedaoaa
namespace Go.Proofs.Ytmebpglkeedaoaa
open Go.RowKit Dp
def EgP (S : Site) (cs : List Car) (w : World) : Ending → World → Prop := fun e w' =>
  (egE S cs = 0 ∧ ∃ A1 A2 c1 c2, e = .returned (.tuple #[.agg #[.slice A1 cs.length c1, .slice A2 cs.length c2], .int .i64 0]) ∧ TabAt w' A1 A2 (egT S cs) ∧ (cs.length ≤ c1 ∧ c1 ≤ 9223372036854775807) ∧ (cs.length ≤ c2 ∧ c2 ≤ 9223372036854775807) ∧ Below w.heap.size w w') ∨
  (egE S cs ≠ 0 ∧ e = .returned (.tuple #[.agg #[.slice none 0 0, .slice none 0 0], .int .i64 (egE S cs)]) ∧ Below w.heap.size w w')
theorem lvA_aux {f : Nat → Int} {m : Nat} : rowK f m m = mapR m f := by
  unfold rowK mapR
  exact List.map_congr_left fun x hx => by rw [if_pos (by simpa using hx)]
def lvA (cs : List Car) (m i : Nat) : List Int := rowK (fun x => (cs.getD x default).start) m i
set_option maxHeartbeats 16000000 in
set_option maxRecDepth 100000 in
theorem Eager_c (A B C D E : Option Addr) (S : Site) (cs : List Car) (n nB nC nD m cA cB cC cD cE : Nat) (w : World) (hn : n = S.lim.length) (hnB : nB = S.exp.length) (hnC : nC = S.buy.length) (hnD : nD = S.sell.length) (hm : m = cs.length)
    (hA : n ≤ cA ∧ cA ≤ 9223372036854775807) (hB : nB ≤ cB ∧ cB ≤ 9223372036854775807) (hC : nC ≤ cC ∧ cC ≤ 9223372036854775807) (hD : nD ≤ cD ∧ cD ≤ 9223372036854775807) (hE : m ≤ cE ∧ cE ≤ 9223372036854775807)
    (hS : SiteAt w A B C D S) (hcs : CarsAt w E cs) :
    Calls Try.prog 43 #[.agg #[.slice A n cA, .slice B nB cB, .slice C nC cC, .slice D nD cD], .slice E m cE] w (EgP S cs w) := by
  have HN := Lib.hid hn
  have HM := Lib.hid hm
  have HS := Lib.hid hS
  have HCS := Lib.hid hcs
  have F36 : Hid (∀ V, Below w.heap.size w V → Calls Try.prog 36 #[.agg #[.slice A n cA, .slice B nB cB, .slice C nC cC, .slice D nD cD], .slice E m cE] V fun e w' => e = .returned (.int .i64 (stE S cs)) ∧ Below V.heap.size V w') := Lib.hid (fun V hV => CheckSite_c A B C D E S cs n nB nC nD m cA cB cC cD cE V hn hnB hnC hnD hm hA hB hC hD hE (hS.below hV (Nat.le_refl _)) (hcs.below hV (Nat.le_refl _)))
  have F32 : Hid (∀ V g1 g2, Below w.heap.size w V → TabAt V (some ⟨g1, 0, none⟩) (some ⟨g2, 0, none⟩) (egT S cs) → Calls Try.prog 32 #[.agg #[.slice A n cA, .slice B nB cB, .slice C nC cC, .slice D nD cD], .slice E m cE, .agg #[.slice (some ⟨g1, 0, none⟩) m m, .slice (some ⟨g2, 0, none⟩) m m]] V fun e w' => e = .returned (.int .i64 (plE S cs (egT S cs))) ∧ Below V.heap.size V w') := Lib.hid (fun V g1 g2 hV hT => CheckPlan_c A B C D E _ _ S cs (egT S cs) n nB nC nD m m m cA cB cC cD cE m m V hn hnB hnC hnD hm (by rw [hm]; simp [egT]) (by rw [hm]; simp [egT]) hA hB hC hD hE ⟨Nat.le_refl _, by omega⟩ ⟨Nat.le_refl _, by omega⟩ (hS.below hV (Nat.le_refl _)) (hcs.below hV (Nat.le_refl _)) hT)
  have HP1 : Hid (stE S cs = 0 → plE S cs (egT S cs) = 0 → ∀ g1 g2 w', TabAt w' (some ⟨g1, 0, none⟩) (some ⟨g2, 0, none⟩) (egT S cs) → Below w.heap.size w w' → EgP S cs w (.returned (.tuple #[.agg #[.slice (some ⟨g1, 0, none⟩) m m, .slice (some ⟨g2, 0, none⟩) m m], .int .i64 0])) w') := Lib.hid (fun h h2 g1 g2 w' ht hb => .inl ⟨by unfold egE; rw [if_pos h, if_pos h2], _, _, m, m, by rw [hm], ht, by omega, by omega, hb⟩)
  have HP2 : Hid (stE S cs ≠ 0 → ∀ w', Below w.heap.size w w' → EgP S cs w (.returned (.tuple #[.agg #[.slice none 0 0, .slice none 0 0], .int .i64 (stE S cs)])) w') := Lib.hid (fun h w' hb => .inr ⟨by unfold egE; rw [if_neg h]; exact h, by unfold egE; rw [if_neg h], hb⟩)
  have HP3 : Hid (stE S cs = 0 → plE S cs (egT S cs) ≠ 0 → ∀ w', Below w.heap.size w w' → EgP S cs w (.returned (.tuple #[.agg #[.slice none 0 0, .slice none 0 0], .int .i64 18])) w') := Lib.hid (fun h h2 w' hb => .inr ⟨by unfold egE; rw [if_pos h, if_neg h2]; decide, by unfold egE; rw [if_pos h, if_neg h2], hb⟩)
  obtain ⟨v, hv⟩ : ∃ v, v = stE S cs := ⟨_, rfl⟩
  rw [← hv] at F36 HP1 HP2 HP3
  have HV := Lib.hid hv
  clear hv hn hnB hnC hnD hm hS hcs
  generalize EgP S cs w = POST at *
  have HB := Lib.hid (((Below.refl w.heap.size w).alloc (Nat.le_refl _) (.cells #[.slice A n cA, .slice B nB cB, .slice C nC cC, .slice D nD cD] 51)).alloc (by simp) (.cells #[.slice none 0 0, .slice none 0 0] 55))
  have XS := Lib.hid ((Blk.new' w #[.slice A n cA, .slice B nB cB, .slice C nC cC, .slice D nD cD] 51).alloc (.cells #[.slice none 0 0, .slice none 0 0] 55))
  have XR := Lib.hid (show Blk ((w.alloc (.cells #[.slice A n cA, .slice B nB cB, .slice C nC cC, .slice D nD cD] 51)).alloc (.cells #[.slice none 0 0, .slice none 0 0] 55)) (w.heap.size + 1) 55 [.slice none 0 0, .slice none 0 0] from by simpa using Blk.new' (w.alloc (.cells #[.slice A n cA, .slice B nB cB, .slice C nC cC, .slice D nD cD] 51)) #[.slice none 0 0, .slice none 0 0] 55)
  go_enter Try.func43, Try.ntmps43
  go_upto_region 1 with fail
  (try simp only [World.size_alloc])
  generalize (w.alloc (.cells #[.slice A n cA, .slice B nB cB, .slice C nC cC, .slice D nD cD] 51)).alloc (.cells #[.slice none 0 0, .slice none 0 0] 55) = w1 at HB XS XR ⊢
  have s0 := XS.out.cell 0 rfl
  have s1 := XS.out.cell 1 rfl
  have s2 := XS.out.cell 2 rfl
  have s3 := XS.out.cell 3 rfl
  have sl := XS.out.lt
  go_wp2_with fail
  refine (F36.out w1 HB.out).mono ?_
  rintro e w2 ⟨rfl, hb⟩
  clear s0 s1 s2 s3 sl
  have HB2 := Lib.hid (HB.out.trans (hb.mono HB.out.size))
  have XS2 := Lib.hid (XS.out.below hb XS.out.lt)
  have XR2 := Lib.hid (XR.out.below hb XR.out.lt)
  clear hb HB XS XR F36
  have HGR : Hid (w.heap.size ≤ w.heap.size + 1) := Lib.hid (by omega)
  generalize w.heap.size + 1 = gr at *
  by_cases h0 : v = 0
  rotate_left
  · have hb0 : (v == 0) = false := by simpa using h0
    have EE := Lib.hid (HP2.out h0)
    have r0 := XR2.out.cell 0 rfl
    have r1 := XR2.out.cell 1 rfl
    have rz := XR2.out.free 0
    have rz1 := XR2.out.free 1
    have rl := XR2.out.lt
    have HF := Lib.hid (And.intro ((XR2.out.setCell 0 (.slice none 0 0)).setCell 1 (.slice none 0 0)) (((HB2.out.setCell (p := ⟨gr, 0, none⟩) HGR.out (.slice none 0 0)).setCell (p := ⟨gr, 1, none⟩) HGR.out (.slice none 0 0))))
    go_wp2_with fail
    have q0 := HF.out.1.cell 0 rfl
    have q1 := HF.out.1.cell 1 rfl
    exact bodyPost_ret (v := .tuple #[.agg #[.slice none 0 0, .slice none 0 0], .int .i64 v]) (by simp [results, Try.results43, go_sem, q0, q1]) rfl (EE.out _ HF.out.2)
  subst h0
  have HZ : Hid (stE S cs = 0) := Lib.hid HV.out.symm
  clear HV HP2
  have h48 : n ≤ 48 := by have h3 := (siteHead_iff.1 (stE_0 HZ.out).2.1).1; have := HN.out; omega
  have h8 : m ≤ 8 := by have := (stE_0 HZ.out).1; have := HM.out; omega
  have hmk53 := make_53 m (by omega)
  have hmk22 := make_64 n (by omega)
  have hmk2m := make_64 m (by omega)
  have s0 := XS2.out.cell 0 rfl
  have s1 := XS2.out.cell 1 rfl
  have s2 := XS2.out.cell 2 rfl
  have s3 := XS2.out.cell 3 rfl
  have sl := XS2.out.lt
  go_upto_region 5 with fail
  clear s0 s1 s2 s3 sl
  have HT := Lib.hid (Below.refl w2.heap.size w2).drew
  go_cut [8] from 29 to 35 (fun tv wc => ∃ gt g1 g2 : Nat, tv = .pointer (some ⟨gt, 0, none⟩) ∧ Hid ((Blk wc gt 55 [.slice (some ⟨g1, 0, none⟩) m m, .slice (some ⟨g2, 0, none⟩) m m] ∧ Blk wc g1 22 (List.replicate m (.slice none 0 0)) ∧ Blk wc g2 22 (List.replicate m (.slice none 0 0)) ∧ g1 ≠ g2) ∧ (w2.heap.size ≤ gt ∧ w2.heap.size ≤ g1 ∧ w2.heap.size ≤ g2) ∧ Below w2.heap.size w2 wc))
  case first =>
    refine lBegin (S := fun _ W => (True)) (by kernel_rfl) ?_ (fun hHeld => ?_)
    · trivial
    refine lTake (i := 0) (v := ?_) rfl (by kernel_rfl) (by kernel_rfl) (by kernel_rfl) (fun _ _ _ h => h) (by rfl) (fun _ _ h => h) (fun _ _ h => h) ?_ (by assumption) (fun hHeld2 => ?_)
    rotate_left 1
    · (intro _ _ _ _ _; first | (go_simp; done) | (go_simp; with_reducible rfl))
    clear hHeld; have hHeld := hHeld2; clear hHeld2
    (try simp only [Act.put, List.setIfInBounds_toArray, List.set_cons_zero, List.set_cons_succ])
    refine lTake (i := 1) (v := ?_) rfl (by kernel_rfl) (by kernel_rfl) (by kernel_rfl) (fun _ _ _ h => h) (by rfl) (fun _ _ h => h) (fun _ _ h => h) ?_ (by assumption) (fun hHeld2 => ?_)
    rotate_left 1
    · (intro _ _ _ _ _; first | (go_simp; done) | (go_simp; with_reducible rfl))
    clear hHeld; have hHeld := hHeld2; clear hHeld2
    (try simp only [Act.put, List.setIfInBounds_toArray, List.set_cons_zero, List.set_cons_succ])
    refine lTake (i := 3) (v := ?_) rfl (by kernel_rfl) (by kernel_rfl) (by kernel_rfl) (fun _ _ _ h => h) (by rfl) (fun _ _ h => h) (fun _ _ h => h) ?_ (by assumption) (fun hHeld2 => ?_)
    rotate_left 1
    · (intro _ _ _ _ _; first | (go_simp; done) | (go_simp; with_reducible rfl))
    clear hHeld; have hHeld := hHeld2; clear hHeld2
    (try simp only [Act.put, List.setIfInBounds_toArray, List.set_cons_zero, List.set_cons_succ])
    refine lTake (i := 4) (v := ?_) rfl (by kernel_rfl) (by kernel_rfl) (by kernel_rfl) (fun _ _ _ h => h) (by rfl) (fun _ _ h => h) (fun _ _ h => h) ?_ (by assumption) (fun hHeld2 => ?_)
    rotate_left 1
    · (intro _ _ _ _ _; first | (go_simp; done) | (go_simp; with_reducible rfl))
    clear hHeld; have hHeld := hHeld2; clear hHeld2
    (try simp only [Act.put, List.setIfInBounds_toArray, List.set_cons_zero, List.set_cons_succ])
    refine lReady (rs := [2, 5, 7]) (by kernel_rfl) (by simp) ?_
    refine AllL.cons (i := 2) rfl (fun K hK => ?_) ?_
    · refine step_new (.cells (Array.replicate m (.slice none 0 0)) 22) (fun g => .slice (some ⟨g, 0, none⟩) m m) rfl (by unfold execOp; simp [hmk53, go_sem]) ?_; intro g1 wv z6 hc6 hb6; (try have HNE := Lib.hid (show g1 ≠ g2 from by have := HFg2.out.lt; omega)); (try have HFg2 := Lib.hid (HFg2.out.below hb6 HFg2.out.lt)); (try have HF7 := Lib.hid (HF7.out.below hb6 HF7.out.lt)); have HFg1 := Lib.hid (show Blk wv g1 22 (List.replicate m (.slice none 0 0)) from by unfold Blk; rw [hc6]; simp); have HZg1 := Lib.hid (show w2.heap.size ≤ g1 from Nat.le_trans HT.out.size z6); have HT := Lib.hid (HT.out.trans (hb6.mono HT.out.size)); clear hb6 hc6 z6
      (try go_wp2_with fail)
      refine hK.out _ _ ?_ (fun hHeld2 => ?_)
      · trivial
      clear hK K
      clear hHeld; have hHeld := hHeld2; clear hHeld2
      (try simp only [Act.put, List.setIfInBounds_toArray, List.set_cons_zero, List.set_cons_succ])
      refine lReady (rs := [5, 7]) (by kernel_rfl) (by simp) ?_
      refine AllL.cons (i := 5) rfl (fun K hK => ?_) ?_
      · refine step_new (.cells (Array.replicate m (.slice none 0 0)) 22) (fun g => .slice (some ⟨g, 0, none⟩) m m) rfl (by unfold execOp; simp [hmk53, go_sem]) ?_; intro g2 wv z6 hc6 hb6; (try have HNE := Lib.hid (show g1 ≠ g2 from by have := HFg1.out.lt; omega)); (try have HFg1 := Lib.hid (HFg1.out.below hb6 HFg1.out.lt)); (try have HF7 := Lib.hid (HF7.out.below hb6 HF7.out.lt)); have HFg2 := Lib.hid (show Blk wv g2 22 (List.replicate m (.slice none 0 0)) from by unfold Blk; rw [hc6]; simp); have HZg2 := Lib.hid (show w2.heap.size ≤ g2 from Nat.le_trans HT.out.size z6); have HT := Lib.hid (HT.out.trans (hb6.mono HT.out.size)); clear hb6 hc6 z6
        (try go_wp2_with fail)
        refine hK.out _ _ ?_ (fun hHeld2 => ?_)
        · trivial
        clear hK K
        clear hHeld; have hHeld := hHeld2; clear hHeld2
        (try simp only [Act.put, List.setIfInBounds_toArray, List.set_cons_zero, List.set_cons_succ])
        refine lTake (i := 6) (v := ?_) rfl (by kernel_rfl) (by kernel_rfl) (by kernel_rfl) (fun _ _ _ h => h) (by rfl) (fun _ _ h => h) (fun _ _ h => h) ?_ (by assumption) (fun hHeld2 => ?_)
        rotate_left 1
        · (intro _ _ _ _ _; first | (go_simp; done) | (go_simp; with_reducible rfl))
        clear hHeld; have hHeld := hHeld2; clear hHeld2
        (try simp only [Act.put, List.setIfInBounds_toArray, List.set_cons_zero, List.set_cons_succ])
        refine lReady (rs := [7]) (by kernel_rfl) (by simp) ?_
        refine AllL.cons (i := 7) rfl (fun K hK => ?_) ?_
        · refine step_new (.cells #[.slice none 0 0, .slice none 0 0] 55) (fun g => .pointer (some ⟨g, 0, none⟩)) rfl (by kernel_rfl) ?_; intro gt wv z6 hc6 hb6; (try have HFg1 := Lib.hid (HFg1.out.below hb6 HFg1.out.lt)); (try have HFg2 := Lib.hid (HFg2.out.below hb6 HFg2.out.lt)); have HF7 := Lib.hid (show Blk wv gt 55 [.slice none 0 0, .slice none 0 0] from hc6); have HZ7 := Lib.hid (show w2.heap.size ≤ gt from Nat.le_trans HT.out.size z6); have HT := Lib.hid (HT.out.trans (hb6.mono HT.out.size)); clear hb6 hc6 z6
          (try go_wp2_with fail)
          refine hK.out _ _ ?_ (fun hHeld2 => ?_)
          · trivial
          clear hK K
          clear hHeld; have hHeld := hHeld2; clear hHeld2
          (try simp only [Act.put, List.setIfInBounds_toArray, List.set_cons_zero, List.set_cons_succ])
          refine lReady (rs := [8]) (by kernel_rfl) (by simp) ?_
          refine AllL.cons (i := 8) rfl (fun K hK => ?_) ?_
          · have q0 := HF7.out.cell 0 rfl; have q1 := HF7.out.cell 1 rfl; have z0 := HF7.out.free 0; have z1 := HF7.out.free 1; have ql := HF7.out.lt; have HFIN := Lib.hid (And.intro (And.intro ((HF7.out.setCell 0 (.slice (some ⟨g1, 0, none⟩) m m)).setCell 1 (.slice (some ⟨g2, 0, none⟩) m m)) (And.intro ((HFg1.out.setCell_ne (p := ⟨gt, 0, none⟩) (fun e => blk_type_ne HF7.out HFg1.out (by decide) e) (.slice (some ⟨g1, 0, none⟩) m m)).setCell_ne (p := ⟨gt, 1, none⟩) (fun e => blk_type_ne HF7.out HFg1.out (by decide) e) (.slice (some ⟨g2, 0, none⟩) m m)) (And.intro ((HFg2.out.setCell_ne (p := ⟨gt, 0, none⟩) (fun e => blk_type_ne HF7.out HFg2.out (by decide) e) (.slice (some ⟨g1, 0, none⟩) m m)).setCell_ne (p := ⟨gt, 1, none⟩) (fun e => blk_type_ne HF7.out HFg2.out (by decide) e) (.slice (some ⟨g2, 0, none⟩) m m)) HNE.out))) (And.intro (And.intro HZ7.out (And.intro HZg1.out HZg2.out)) ((HT.out.setCell (p := ⟨gt, 0, none⟩) HZ7.out (.slice (some ⟨g1, 0, none⟩) m m)).setCell (p := ⟨gt, 1, none⟩) HZ7.out (.slice (some ⟨g2, 0, none⟩) m m)))); go_simp
            (try go_wp2_with fail)
            refine hK.out _ _ ?_ (fun hHeld2 => ?_)
            · trivial
            clear hK K
            clear hHeld; have hHeld := hHeld2; clear hHeld2
            (try simp only [Act.put, List.setIfInBounds_toArray, List.set_cons_zero, List.set_cons_succ])
            refine lDone (by kernel_rfl) ?_ _
            go_wp2_with fail
            go_meet
            case rel => exact ⟨gt, g1, g2, rfl, HFIN⟩
          exact AllL.nil
        exact AllL.nil
      refine AllL.cons (i := 7) rfl (fun K hK => ?_) ?_
      · refine step_new (.cells #[.slice none 0 0, .slice none 0 0] 55) (fun g => .pointer (some ⟨g, 0, none⟩)) rfl (by kernel_rfl) ?_; intro gt wv z6 hc6 hb6; (try have HFg1 := Lib.hid (HFg1.out.below hb6 HFg1.out.lt)); (try have HFg2 := Lib.hid (HFg2.out.below hb6 HFg2.out.lt)); have HF7 := Lib.hid (show Blk wv gt 55 [.slice none 0 0, .slice none 0 0] from hc6); have HZ7 := Lib.hid (show w2.heap.size ≤ gt from Nat.le_trans HT.out.size z6); have HT := Lib.hid (HT.out.trans (hb6.mono HT.out.size)); clear hb6 hc6 z6
        (try go_wp2_with fail)
        refine hK.out _ _ ?_ (fun hHeld2 => ?_)
        · trivial
        clear hK K
        clear hHeld; have hHeld := hHeld2; clear hHeld2
        (try simp only [Act.put, List.setIfInBounds_toArray, List.set_cons_zero, List.set_cons_succ])
        refine lReady (rs := [5]) (by kernel_rfl) (by simp) ?_
        refine AllL.cons (i := 5) rfl (fun K hK => ?_) ?_
        · refine step_new (.cells (Array.replicate m (.slice none 0 0)) 22) (fun g => .slice (some ⟨g, 0, none⟩) m m) rfl (by unfold execOp; simp [hmk53, go_sem]) ?_; intro g2 wv z6 hc6 hb6; (try have HNE := Lib.hid (show g1 ≠ g2 from by have := HFg1.out.lt; omega)); (try have HFg1 := Lib.hid (HFg1.out.below hb6 HFg1.out.lt)); (try have HF7 := Lib.hid (HF7.out.below hb6 HF7.out.lt)); have HFg2 := Lib.hid (show Blk wv g2 22 (List.replicate m (.slice none 0 0)) from by unfold Blk; rw [hc6]; simp); have HZg2 := Lib.hid (show w2.heap.size ≤ g2 from Nat.le_trans HT.out.size z6); have HT := Lib.hid (HT.out.trans (hb6.mono HT.out.size)); clear hb6 hc6 z6
          (try go_wp2_with fail)
          refine hK.out _ _ ?_ (fun hHeld2 => ?_)
          · trivial
          clear hK K
          clear hHeld; have hHeld := hHeld2; clear hHeld2
          (try simp only [Act.put, List.setIfInBounds_toArray, List.set_cons_zero, List.set_cons_succ])
          refine lTake (i := 6) (v := ?_) rfl (by kernel_rfl) (by kernel_rfl) (by kernel_rfl) (fun _ _ _ h => h) (by rfl) (fun _ _ h => h) (fun _ _ h => h) ?_ (by assumption) (fun hHeld2 => ?_)
          rotate_left 1
          · (intro _ _ _ _ _; first | (go_simp; done) | (go_simp; with_reducible rfl))
          clear hHeld; have hHeld := hHeld2; clear hHeld2
          (try simp only [Act.put, List.setIfInBounds_toArray, List.set_cons_zero, List.set_cons_succ])
          refine lReady (rs := [8]) (by kernel_rfl) (by simp) ?_
          refine AllL.cons (i := 8) rfl (fun K hK => ?_) ?_
          · have q0 := HF7.out.cell 0 rfl; have q1 := HF7.out.cell 1 rfl; have z0 := HF7.out.free 0; have z1 := HF7.out.free 1; have ql := HF7.out.lt; have HFIN := Lib.hid (And.intro (And.intro ((HF7.out.setCell 0 (.slice (some ⟨g1, 0, none⟩) m m)).setCell 1 (.slice (some ⟨g2, 0, none⟩) m m)) (And.intro ((HFg1.out.setCell_ne (p := ⟨gt, 0, none⟩) (fun e => blk_type_ne HF7.out HFg1.out (by decide) e) (.slice (some ⟨g1, 0, none⟩) m m)).setCell_ne (p := ⟨gt, 1, none⟩) (fun e => blk_type_ne HF7.out HFg1.out (by decide) e) (.slice (some ⟨g2, 0, none⟩) m m)) (And.intro ((HFg2.out.setCell_ne (p := ⟨gt, 0, none⟩) (fun e => blk_type_ne HF7.out HFg2.out (by decide) e) (.slice (some ⟨g1, 0, none⟩) m m)).setCell_ne (p := ⟨gt, 1, none⟩) (fun e => blk_type_ne HF7.out HFg2.out (by decide) e) (.slice (some ⟨g2, 0, none⟩) m m)) HNE.out))) (And.intro (And.intro HZ7.out (And.intro HZg1.out HZg2.out)) ((HT.out.setCell (p := ⟨gt, 0, none⟩) HZ7.out (.slice (some ⟨g1, 0, none⟩) m m)).setCell (p := ⟨gt, 1, none⟩) HZ7.out (.slice (some ⟨g2, 0, none⟩) m m)))); go_simp
            (try go_wp2_with fail)
            refine hK.out _ _ ?_ (fun hHeld2 => ?_)
            · trivial
            clear hK K
            clear hHeld; have hHeld := hHeld2; clear hHeld2
            (try simp only [Act.put, List.setIfInBounds_toArray, List.set_cons_zero, List.set_cons_succ])
            refine lDone (by kernel_rfl) ?_ _
            go_wp2_with fail
            go_meet
            case rel => exact ⟨gt, g1, g2, rfl, HFIN⟩
          exact AllL.nil
        exact AllL.nil
      exact AllL.nil
    refine AllL.cons (i := 5) rfl (fun K hK => ?_) ?_
    · refine step_new (.cells (Array.replicate m (.slice none 0 0)) 22) (fun g => .slice (some ⟨g, 0, none⟩) m m) rfl (by unfold execOp; simp [hmk53, go_sem]) ?_; intro g2 wv z6 hc6 hb6; (try have HNE := Lib.hid (show g1 ≠ g2 from by have := HFg1.out.lt; omega)); (try have HFg1 := Lib.hid (HFg1.out.below hb6 HFg1.out.lt)); (try have HF7 := Lib.hid (HF7.out.below hb6 HF7.out.lt)); have HFg2 := Lib.hid (show Blk wv g2 22 (List.replicate m (.slice none 0 0)) from by unfold Blk; rw [hc6]; simp); have HZg2 := Lib.hid (show w2.heap.size ≤ g2 from Nat.le_trans HT.out.size z6); have HT := Lib.hid (HT.out.trans (hb6.mono HT.out.size)); clear hb6 hc6 z6
      (try go_wp2_with fail)
      refine hK.out _ _ ?_ (fun hHeld2 => ?_)
      · trivial
      clear hK K
      clear hHeld; have hHeld := hHeld2; clear hHeld2
      (try simp only [Act.put, List.setIfInBounds_toArray, List.set_cons_zero, List.set_cons_succ])
      refine lReady (rs := [2, 7]) (by kernel_rfl) (by simp) ?_
      refine AllL.cons (i := 2) rfl (fun K hK => ?_) ?_
      · refine step_new (.cells (Array.replicate m (.slice none 0 0)) 22) (fun g => .slice (some ⟨g, 0, none⟩) m m) rfl (by unfold execOp; simp [hmk53, go_sem]) ?_; intro g1 wv z6 hc6 hb6; (try have HNE := Lib.hid (show g1 ≠ g2 from by have := HFg2.out.lt; omega)); (try have HFg2 := Lib.hid (HFg2.out.below hb6 HFg2.out.lt)); (try have HF7 := Lib.hid (HF7.out.below hb6 HF7.out.lt)); have HFg1 := Lib.hid (show Blk wv g1 22 (List.replicate m (.slice none 0 0)) from by unfold Blk; rw [hc6]; simp); have HZg1 := Lib.hid (show w2.heap.size ≤ g1 from Nat.le_trans HT.out.size z6); have HT := Lib.hid (HT.out.trans (hb6.mono HT.out.size)); clear hb6 hc6 z6
        (try go_wp2_with fail)
        refine hK.out _ _ ?_ (fun hHeld2 => ?_)
        · trivial
        clear hK K
        clear hHeld; have hHeld := hHeld2; clear hHeld2
        (try simp only [Act.put, List.setIfInBounds_toArray, List.set_cons_zero, List.set_cons_succ])
        refine lTake (i := 6) (v := ?_) rfl (by kernel_rfl) (by kernel_rfl) (by kernel_rfl) (fun _ _ _ h => h) (by rfl) (fun _ _ h => h) (fun _ _ h => h) ?_ (by assumption) (fun hHeld2 => ?_)
        rotate_left 1
        · (intro _ _ _ _ _; first | (go_simp; done) | (go_simp; with_reducible rfl))
        clear hHeld; have hHeld := hHeld2; clear hHeld2
        (try simp only [Act.put, List.setIfInBounds_toArray, List.set_cons_zero, List.set_cons_succ])
        refine lReady (rs := [7]) (by kernel_rfl) (by simp) ?_
        refine AllL.cons (i := 7) rfl (fun K hK => ?_) ?_
        · refine step_new (.cells #[.slice none 0 0, .slice none 0 0] 55) (fun g => .pointer (some ⟨g, 0, none⟩)) rfl (by kernel_rfl) ?_; intro gt wv z6 hc6 hb6; (try have HFg1 := Lib.hid (HFg1.out.below hb6 HFg1.out.lt)); (try have HFg2 := Lib.hid (HFg2.out.below hb6 HFg2.out.lt)); have HF7 := Lib.hid (show Blk wv gt 55 [.slice none 0 0, .slice none 0 0] from hc6); have HZ7 := Lib.hid (show w2.heap.size ≤ gt from Nat.le_trans HT.out.size z6); have HT := Lib.hid (HT.out.trans (hb6.mono HT.out.size)); clear hb6 hc6 z6
          (try go_wp2_with fail)
          refine hK.out _ _ ?_ (fun hHeld2 => ?_)
          · trivial
          clear hK K
          clear hHeld; have hHeld := hHeld2; clear hHeld2
          (try simp only [Act.put, List.setIfInBounds_toArray, List.set_cons_zero, List.set_cons_succ])
          refine lReady (rs := [8]) (by kernel_rfl) (by simp) ?_
          refine AllL.cons (i := 8) rfl (fun K hK => ?_) ?_
          · have q0 := HF7.out.cell 0 rfl; have q1 := HF7.out.cell 1 rfl; have z0 := HF7.out.free 0; have z1 := HF7.out.free 1; have ql := HF7.out.lt; have HFIN := Lib.hid (And.intro (And.intro ((HF7.out.setCell 0 (.slice (some ⟨g1, 0, none⟩) m m)).setCell 1 (.slice (some ⟨g2, 0, none⟩) m m)) (And.intro ((HFg1.out.setCell_ne (p := ⟨gt, 0, none⟩) (fun e => blk_type_ne HF7.out HFg1.out (by decide) e) (.slice (some ⟨g1, 0, none⟩) m m)).setCell_ne (p := ⟨gt, 1, none⟩) (fun e => blk_type_ne HF7.out HFg1.out (by decide) e) (.slice (some ⟨g2, 0, none⟩) m m)) (And.intro ((HFg2.out.setCell_ne (p := ⟨gt, 0, none⟩) (fun e => blk_type_ne HF7.out HFg2.out (by decide) e) (.slice (some ⟨g1, 0, none⟩) m m)).setCell_ne (p := ⟨gt, 1, none⟩) (fun e => blk_type_ne HF7.out HFg2.out (by decide) e) (.slice (some ⟨g2, 0, none⟩) m m)) HNE.out))) (And.intro (And.intro HZ7.out (And.intro HZg1.out HZg2.out)) ((HT.out.setCell (p := ⟨gt, 0, none⟩) HZ7.out (.slice (some ⟨g1, 0, none⟩) m m)).setCell (p := ⟨gt, 1, none⟩) HZ7.out (.slice (some ⟨g2, 0, none⟩) m m)))); go_simp
            (try go_wp2_with fail)
            refine hK.out _ _ ?_ (fun hHeld2 => ?_)
            · trivial
            clear hK K
            clear hHeld; have hHeld := hHeld2; clear hHeld2
            (try simp only [Act.put, List.setIfInBounds_toArray, List.set_cons_zero, List.set_cons_succ])
            refine lDone (by kernel_rfl) ?_ _
            go_wp2_with fail
            go_meet
            case rel => exact ⟨gt, g1, g2, rfl, HFIN⟩
          exact AllL.nil
        exact AllL.nil
      refine AllL.cons (i := 7) rfl (fun K hK => ?_) ?_
      · refine step_new (.cells #[.slice none 0 0, .slice none 0 0] 55) (fun g => .pointer (some ⟨g, 0, none⟩)) rfl (by kernel_rfl) ?_; intro gt wv z6 hc6 hb6; (try have HFg1 := Lib.hid (HFg1.out.below hb6 HFg1.out.lt)); (try have HFg2 := Lib.hid (HFg2.out.below hb6 HFg2.out.lt)); have HF7 := Lib.hid (show Blk wv gt 55 [.slice none 0 0, .slice none 0 0] from hc6); have HZ7 := Lib.hid (show w2.heap.size ≤ gt from Nat.le_trans HT.out.size z6); have HT := Lib.hid (HT.out.trans (hb6.mono HT.out.size)); clear hb6 hc6 z6
        (try go_wp2_with fail)
        refine hK.out _ _ ?_ (fun hHeld2 => ?_)
        · trivial
        clear hK K
        clear hHeld; have hHeld := hHeld2; clear hHeld2
        (try simp only [Act.put, List.setIfInBounds_toArray, List.set_cons_zero, List.set_cons_succ])
        refine lReady (rs := [2]) (by kernel_rfl) (by simp) ?_
        refine AllL.cons (i := 2) rfl (fun K hK => ?_) ?_
        · refine step_new (.cells (Array.replicate m (.slice none 0 0)) 22) (fun g => .slice (some ⟨g, 0, none⟩) m m) rfl (by unfold execOp; simp [hmk53, go_sem]) ?_; intro g1 wv z6 hc6 hb6; (try have HNE := Lib.hid (show g1 ≠ g2 from by have := HFg2.out.lt; omega)); (try have HFg2 := Lib.hid (HFg2.out.below hb6 HFg2.out.lt)); (try have HF7 := Lib.hid (HF7.out.below hb6 HF7.out.lt)); have HFg1 := Lib.hid (show Blk wv g1 22 (List.replicate m (.slice none 0 0)) from by unfold Blk; rw [hc6]; simp); have HZg1 := Lib.hid (show w2.heap.size ≤ g1 from Nat.le_trans HT.out.size z6); have HT := Lib.hid (HT.out.trans (hb6.mono HT.out.size)); clear hb6 hc6 z6
          (try go_wp2_with fail)
          refine hK.out _ _ ?_ (fun hHeld2 => ?_)
          · trivial
          clear hK K
          clear hHeld; have hHeld := hHeld2; clear hHeld2
          (try simp only [Act.put, List.setIfInBounds_toArray, List.set_cons_zero, List.set_cons_succ])
          refine lTake (i := 6) (v := ?_) rfl (by kernel_rfl) (by kernel_rfl) (by kernel_rfl) (fun _ _ _ h => h) (by rfl) (fun _ _ h => h) (fun _ _ h => h) ?_ (by assumption) (fun hHeld2 => ?_)
          rotate_left 1
          · (intro _ _ _ _ _; first | (go_simp; done) | (go_simp; with_reducible rfl))
          clear hHeld; have hHeld := hHeld2; clear hHeld2
          (try simp only [Act.put, List.setIfInBounds_toArray, List.set_cons_zero, List.set_cons_succ])
          refine lReady (rs := [8]) (by kernel_rfl) (by simp) ?_
          refine AllL.cons (i := 8) rfl (fun K hK => ?_) ?_
          · have q0 := HF7.out.cell 0 rfl; have q1 := HF7.out.cell 1 rfl; have z0 := HF7.out.free 0; have z1 := HF7.out.free 1; have ql := HF7.out.lt; have HFIN := Lib.hid (And.intro (And.intro ((HF7.out.setCell 0 (.slice (some ⟨g1, 0, none⟩) m m)).setCell 1 (.slice (some ⟨g2, 0, none⟩) m m)) (And.intro ((HFg1.out.setCell_ne (p := ⟨gt, 0, none⟩) (fun e => blk_type_ne HF7.out HFg1.out (by decide) e) (.slice (some ⟨g1, 0, none⟩) m m)).setCell_ne (p := ⟨gt, 1, none⟩) (fun e => blk_type_ne HF7.out HFg1.out (by decide) e) (.slice (some ⟨g2, 0, none⟩) m m)) (And.intro ((HFg2.out.setCell_ne (p := ⟨gt, 0, none⟩) (fun e => blk_type_ne HF7.out HFg2.out (by decide) e) (.slice (some ⟨g1, 0, none⟩) m m)).setCell_ne (p := ⟨gt, 1, none⟩) (fun e => blk_type_ne HF7.out HFg2.out (by decide) e) (.slice (some ⟨g2, 0, none⟩) m m)) HNE.out))) (And.intro (And.intro HZ7.out (And.intro HZg1.out HZg2.out)) ((HT.out.setCell (p := ⟨gt, 0, none⟩) HZ7.out (.slice (some ⟨g1, 0, none⟩) m m)).setCell (p := ⟨gt, 1, none⟩) HZ7.out (.slice (some ⟨g2, 0, none⟩) m m)))); go_simp
            (try go_wp2_with fail)
            refine hK.out _ _ ?_ (fun hHeld2 => ?_)
            · trivial
            clear hK K
            clear hHeld; have hHeld := hHeld2; clear hHeld2
            (try simp only [Act.put, List.setIfInBounds_toArray, List.set_cons_zero, List.set_cons_succ])
            refine lDone (by kernel_rfl) ?_ _
            go_wp2_with fail
            go_meet
            case rel => exact ⟨gt, g1, g2, rfl, HFIN⟩
          exact AllL.nil
        exact AllL.nil
      exact AllL.nil
    refine AllL.cons (i := 7) rfl (fun K hK => ?_) ?_
    · refine step_new (.cells #[.slice none 0 0, .slice none 0 0] 55) (fun g => .pointer (some ⟨g, 0, none⟩)) rfl (by kernel_rfl) ?_; intro gt wv z6 hc6 hb6; (try have HFg1 := Lib.hid (HFg1.out.below hb6 HFg1.out.lt)); (try have HFg2 := Lib.hid (HFg2.out.below hb6 HFg2.out.lt)); have HF7 := Lib.hid (show Blk wv gt 55 [.slice none 0 0, .slice none 0 0] from hc6); have HZ7 := Lib.hid (show w2.heap.size ≤ gt from Nat.le_trans HT.out.size z6); have HT := Lib.hid (HT.out.trans (hb6.mono HT.out.size)); clear hb6 hc6 z6
      (try go_wp2_with fail)
      refine hK.out _ _ ?_ (fun hHeld2 => ?_)
      · trivial
      clear hK K
      clear hHeld; have hHeld := hHeld2; clear hHeld2
      (try simp only [Act.put, List.setIfInBounds_toArray, List.set_cons_zero, List.set_cons_succ])
      refine lReady (rs := [2, 5]) (by kernel_rfl) (by simp) ?_
      refine AllL.cons (i := 2) rfl (fun K hK => ?_) ?_
      · refine step_new (.cells (Array.replicate m (.slice none 0 0)) 22) (fun g => .slice (some ⟨g, 0, none⟩) m m) rfl (by unfold execOp; simp [hmk53, go_sem]) ?_; intro g1 wv z6 hc6 hb6; (try have HNE := Lib.hid (show g1 ≠ g2 from by have := HFg2.out.lt; omega)); (try have HFg2 := Lib.hid (HFg2.out.below hb6 HFg2.out.lt)); (try have HF7 := Lib.hid (HF7.out.below hb6 HF7.out.lt)); have HFg1 := Lib.hid (show Blk wv g1 22 (List.replicate m (.slice none 0 0)) from by unfold Blk; rw [hc6]; simp); have HZg1 := Lib.hid (show w2.heap.size ≤ g1 from Nat.le_trans HT.out.size z6); have HT := Lib.hid (HT.out.trans (hb6.mono HT.out.size)); clear hb6 hc6 z6
        (try go_wp2_with fail)
        refine hK.out _ _ ?_ (fun hHeld2 => ?_)
        · trivial
        clear hK K
        clear hHeld; have hHeld := hHeld2; clear hHeld2
        (try simp only [Act.put, List.setIfInBounds_toArray, List.set_cons_zero, List.set_cons_succ])
        refine lReady (rs := [5]) (by kernel_rfl) (by simp) ?_
        refine AllL.cons (i := 5) rfl (fun K hK => ?_) ?_
        · refine step_new (.cells (Array.replicate m (.slice none 0 0)) 22) (fun g => .slice (some ⟨g, 0, none⟩) m m) rfl (by unfold execOp; simp [hmk53, go_sem]) ?_; intro g2 wv z6 hc6 hb6; (try have HNE := Lib.hid (show g1 ≠ g2 from by have := HFg1.out.lt; omega)); (try have HFg1 := Lib.hid (HFg1.out.below hb6 HFg1.out.lt)); (try have HF7 := Lib.hid (HF7.out.below hb6 HF7.out.lt)); have HFg2 := Lib.hid (show Blk wv g2 22 (List.replicate m (.slice none 0 0)) from by unfold Blk; rw [hc6]; simp); have HZg2 := Lib.hid (show w2.heap.size ≤ g2 from Nat.le_trans HT.out.size z6); have HT := Lib.hid (HT.out.trans (hb6.mono HT.out.size)); clear hb6 hc6 z6
          (try go_wp2_with fail)
          refine hK.out _ _ ?_ (fun hHeld2 => ?_)
          · trivial
          clear hK K
          clear hHeld; have hHeld := hHeld2; clear hHeld2
          (try simp only [Act.put, List.setIfInBounds_toArray, List.set_cons_zero, List.set_cons_succ])
          refine lTake (i := 6) (v := ?_) rfl (by kernel_rfl) (by kernel_rfl) (by kernel_rfl) (fun _ _ _ h => h) (by rfl) (fun _ _ h => h) (fun _ _ h => h) ?_ (by assumption) (fun hHeld2 => ?_)
          rotate_left 1
          · (intro _ _ _ _ _; first | (go_simp; done) | (go_simp; with_reducible rfl))
          clear hHeld; have hHeld := hHeld2; clear hHeld2
          (try simp only [Act.put, List.setIfInBounds_toArray, List.set_cons_zero, List.set_cons_succ])
          refine lReady (rs := [8]) (by kernel_rfl) (by simp) ?_
          refine AllL.cons (i := 8) rfl (fun K hK => ?_) ?_
          · have q0 := HF7.out.cell 0 rfl; have q1 := HF7.out.cell 1 rfl; have z0 := HF7.out.free 0; have z1 := HF7.out.free 1; have ql := HF7.out.lt; have HFIN := Lib.hid (And.intro (And.intro ((HF7.out.setCell 0 (.slice (some ⟨g1, 0, none⟩) m m)).setCell 1 (.slice (some ⟨g2, 0, none⟩) m m)) (And.intro ((HFg1.out.setCell_ne (p := ⟨gt, 0, none⟩) (fun e => blk_type_ne HF7.out HFg1.out (by decide) e) (.slice (some ⟨g1, 0, none⟩) m m)).setCell_ne (p := ⟨gt, 1, none⟩) (fun e => blk_type_ne HF7.out HFg1.out (by decide) e) (.slice (some ⟨g2, 0, none⟩) m m)) (And.intro ((HFg2.out.setCell_ne (p := ⟨gt, 0, none⟩) (fun e => blk_type_ne HF7.out HFg2.out (by decide) e) (.slice (some ⟨g1, 0, none⟩) m m)).setCell_ne (p := ⟨gt, 1, none⟩) (fun e => blk_type_ne HF7.out HFg2.out (by decide) e) (.slice (some ⟨g2, 0, none⟩) m m)) HNE.out))) (And.intro (And.intro HZ7.out (And.intro HZg1.out HZg2.out)) ((HT.out.setCell (p := ⟨gt, 0, none⟩) HZ7.out (.slice (some ⟨g1, 0, none⟩) m m)).setCell (p := ⟨gt, 1, none⟩) HZ7.out (.slice (some ⟨g2, 0, none⟩) m m)))); go_simp
            (try go_wp2_with fail)
            refine hK.out _ _ ?_ (fun hHeld2 => ?_)
            · trivial
            clear hK K
            clear hHeld; have hHeld := hHeld2; clear hHeld2
            (try simp only [Act.put, List.setIfInBounds_toArray, List.set_cons_zero, List.set_cons_succ])
            refine lDone (by kernel_rfl) ?_ _
            go_wp2_with fail
            go_meet
            case rel => exact ⟨gt, g1, g2, rfl, HFIN⟩
          exact AllL.nil
        exact AllL.nil
      refine AllL.cons (i := 5) rfl (fun K hK => ?_) ?_
      · refine step_new (.cells (Array.replicate m (.slice none 0 0)) 22) (fun g => .slice (some ⟨g, 0, none⟩) m m) rfl (by unfold execOp; simp [hmk53, go_sem]) ?_; intro g2 wv z6 hc6 hb6; (try have HNE := Lib.hid (show g1 ≠ g2 from by have := HFg1.out.lt; omega)); (try have HFg1 := Lib.hid (HFg1.out.below hb6 HFg1.out.lt)); (try have HF7 := Lib.hid (HF7.out.below hb6 HF7.out.lt)); have HFg2 := Lib.hid (show Blk wv g2 22 (List.replicate m (.slice none 0 0)) from by unfold Blk; rw [hc6]; simp); have HZg2 := Lib.hid (show w2.heap.size ≤ g2 from Nat.le_trans HT.out.size z6); have HT := Lib.hid (HT.out.trans (hb6.mono HT.out.size)); clear hb6 hc6 z6
        (try go_wp2_with fail)
        refine hK.out _ _ ?_ (fun hHeld2 => ?_)
        · trivial
        clear hK K
        clear hHeld; have hHeld := hHeld2; clear hHeld2
        (try simp only [Act.put, List.setIfInBounds_toArray, List.set_cons_zero, List.set_cons_succ])
        refine lReady (rs := [2]) (by kernel_rfl) (by simp) ?_
        refine AllL.cons (i := 2) rfl (fun K hK => ?_) ?_
        · refine step_new (.cells (Array.replicate m (.slice none 0 0)) 22) (fun g => .slice (some ⟨g, 0, none⟩) m m) rfl (by unfold execOp; simp [hmk53, go_sem]) ?_; intro g1 wv z6 hc6 hb6; (try have HNE := Lib.hid (show g1 ≠ g2 from by have := HFg2.out.lt; omega)); (try have HFg2 := Lib.hid (HFg2.out.below hb6 HFg2.out.lt)); (try have HF7 := Lib.hid (HF7.out.below hb6 HF7.out.lt)); have HFg1 := Lib.hid (show Blk wv g1 22 (List.replicate m (.slice none 0 0)) from by unfold Blk; rw [hc6]; simp); have HZg1 := Lib.hid (show w2.heap.size ≤ g1 from Nat.le_trans HT.out.size z6); have HT := Lib.hid (HT.out.trans (hb6.mono HT.out.size)); clear hb6 hc6 z6
          (try go_wp2_with fail)
          refine hK.out _ _ ?_ (fun hHeld2 => ?_)
          · trivial
          clear hK K
          clear hHeld; have hHeld := hHeld2; clear hHeld2
          (try simp only [Act.put, List.setIfInBounds_toArray, List.set_cons_zero, List.set_cons_succ])
          refine lTake (i := 6) (v := ?_) rfl (by kernel_rfl) (by kernel_rfl) (by kernel_rfl) (fun _ _ _ h => h) (by rfl) (fun _ _ h => h) (fun _ _ h => h) ?_ (by assumption) (fun hHeld2 => ?_)
          rotate_left 1
          · (intro _ _ _ _ _; first | (go_simp; done) | (go_simp; with_reducible rfl))
          clear hHeld; have hHeld := hHeld2; clear hHeld2
          (try simp only [Act.put, List.setIfInBounds_toArray, List.set_cons_zero, List.set_cons_succ])
          refine lReady (rs := [8]) (by kernel_rfl) (by simp) ?_
          refine AllL.cons (i := 8) rfl (fun K hK => ?_) ?_
          · have q0 := HF7.out.cell 0 rfl; have q1 := HF7.out.cell 1 rfl; have z0 := HF7.out.free 0; have z1 := HF7.out.free 1; have ql := HF7.out.lt; have HFIN := Lib.hid (And.intro (And.intro ((HF7.out.setCell 0 (.slice (some ⟨g1, 0, none⟩) m m)).setCell 1 (.slice (some ⟨g2, 0, none⟩) m m)) (And.intro ((HFg1.out.setCell_ne (p := ⟨gt, 0, none⟩) (fun e => blk_type_ne HF7.out HFg1.out (by decide) e) (.slice (some ⟨g1, 0, none⟩) m m)).setCell_ne (p := ⟨gt, 1, none⟩) (fun e => blk_type_ne HF7.out HFg1.out (by decide) e) (.slice (some ⟨g2, 0, none⟩) m m)) (And.intro ((HFg2.out.setCell_ne (p := ⟨gt, 0, none⟩) (fun e => blk_type_ne HF7.out HFg2.out (by decide) e) (.slice (some ⟨g1, 0, none⟩) m m)).setCell_ne (p := ⟨gt, 1, none⟩) (fun e => blk_type_ne HF7.out HFg2.out (by decide) e) (.slice (some ⟨g2, 0, none⟩) m m)) HNE.out))) (And.intro (And.intro HZ7.out (And.intro HZg1.out HZg2.out)) ((HT.out.setCell (p := ⟨gt, 0, none⟩) HZ7.out (.slice (some ⟨g1, 0, none⟩) m m)).setCell (p := ⟨gt, 1, none⟩) HZ7.out (.slice (some ⟨g2, 0, none⟩) m m)))); go_simp
            (try go_wp2_with fail)
            refine hK.out _ _ ?_ (fun hHeld2 => ?_)
            · trivial
            clear hK K
            clear hHeld; have hHeld := hHeld2; clear hHeld2
            (try simp only [Act.put, List.setIfInBounds_toArray, List.set_cons_zero, List.set_cons_succ])
            refine lDone (by kernel_rfl) ?_ _
            go_wp2_with fail
            go_meet
            case rel => exact ⟨gt, g1, g2, rfl, HFIN⟩
          exact AllL.nil
        exact AllL.nil
      exact AllL.nil
    exact AllL.nil
  case rest =>
    clear HT
    obtain ⟨gt, g1, g2, rfl, HJ⟩ := hcut
    go_upto_region 7 with fail
    have al := (Below.refl wc.heap.size wc).alloc (Nat.le_refl _) (.cells (Array.replicate m (.int .i64 0)) 2)
    have HGG : Hid ((gr ≠ gt ∧ w.heap.size ≤ wc.heap.size) ∧ Below w.heap.size w wc) := Lib.hid ⟨⟨by have := XR2.out.lt; have := HJ.out.2.1.1; omega, by have := HB2.out.size; have := HJ.out.2.2.size; omega⟩, HB2.out.trans (HJ.out.2.2.mono HB2.out.size)⟩
    have HT0 : Hid (TaJ w n m 0 0 gt g1 g2 wc.heap.size (fun _ => 0) (fun _ => 0) (lvA cs m 0) (wc.alloc (.cells (Array.replicate m (.int .i64 0)) 2))) := Lib.hid (by
      obtain ⟨⟨h1, h2, h3, h4⟩, ⟨h5, h6, h7⟩, h8⟩ := HJ.out
      have hz := HB2.out.size
      refine ⟨h1.alloc _, ⟨_, h2.alloc _, by simp⟩, ⟨_, h3.alloc _, by simp⟩, ⟨⟨_, h2.alloc _, fun x hx => absurd hx (Nat.not_lt_zero _)⟩, fun x hx => absurd hx (Nat.not_lt_zero _), fun x y hx => absurd hx (Nat.not_lt_zero _)⟩, ⟨⟨_, h3.alloc _, fun x hx => absurd hx (Nat.not_lt_zero _)⟩, fun x hx => absurd hx (Nat.not_lt_zero _), fun x y hx => absurd hx (Nat.not_lt_zero _)⟩, by unfold lvA; rw [rowK_zero]; exact fl_new 2 m wc, h4, fun x y hx => absurd hx (Nat.not_lt_zero _), ⟨fun x hx => absurd hx (Nat.not_lt_zero _), fun x hx => absurd hx (Nat.not_lt_zero _)⟩, HGG.out.2.trans (al.mono HGG.out.1.2), ⟨by omega, by omega, HGG.out.1.2⟩⟩)
    have XS3 := Lib.hid (XS2.out.below (HJ.out.2.2.trans (al.mono HJ.out.2.2.size)) XS2.out.lt)
    have XR3 := Lib.hid (XR2.out.below (HJ.out.2.2.trans (al.mono HJ.out.2.2.size)) XR2.out.lt)
    have HG1 := Lib.hid HGG.out.1
    clear al HJ HGG XS2 XR2 HB2
    generalize wc.alloc (.cells (Array.replicate m (.int .i64 0)) 2) = w3 at HT0 XS3 XR3 ⊢
    obtain ⟨gl, hgl⟩ : ∃ gl, gl = wc.heap.size := ⟨_, rfl⟩
    rw [← hgl] at HT0 ⊢
    clear hgl
    go_wp2_with fail
    go_loopw [10, 11, 41] (fun _ _ iv wr => ∃ i : Nat, i ≤ m ∧ iv = .int .i64 i ∧ Hid (∃ gI gO, TaJ w n m i i gt g1 g2 gl gI gO (lvA cs m i) wr ∧ Blk wr w.heap.size 51 [.slice A n cA, .slice B nB cB, .slice C nC cC, .slice D nD cD] ∧ Blk wr gr 55 [.slice none 0 0, .slice none 0 0])) (fun _ _ iv _ => m - (intOf iv).toNat)
    case atStart => exact ⟨0, Nat.zero_le _, rfl, Lib.hid ⟨_, _, HT0.out, XS3.out, XR3.out⟩⟩
    case round =>
      clear HT0 XS3 XR3
      obtain ⟨i, hi, rfl, HJ⟩ := hrel
      obtain ⟨gI, gO, hj1, hj2, hj3⟩ := HJ.out
      have HT := Lib.hid hj1
      have XS := Lib.hid hj2
      have XR := Lib.hid hj3
      clear hj1 hj2 hj3 HJ
      by_cases hlt : i < m
      · have hii : (i : Int) < (m : Int) := by omega
        have il : i < cs.length := by rw [← HM.out]; exact hlt
        obtain ⟨ad, hE2, abl, c0, c1, c2, c3, c4, TT, cT, c5, hcT, HTT⟩ := (HCS.out.below HT.out.bel (Nat.le_refl _)) i il
        subst hE2
        clear HTT
        have HLV : Hid ((rowK (fun x => (cs.getD x default).start) m i).set i (cs.getD i default).start = rowK (fun x => (cs.getD x default).start) m (i + 1)) := Lib.hid (rowK_set _ m i hlt)
        generalize hcc : cs.getD i default = c at *
        clear hcc
        obtain ⟨cap, inn, out, start, fin, trips⟩ := c
        simp only at c0 c1 c2 c3 c4 c5 hcT HLV
        obtain ⟨qn, hqn⟩ : ∃ qn, qn = trips.length := ⟨_, rfl⟩
        rw [← hqn] at c5 hcT
        clear hqn
        go_upto_region 10 with fail
        have al := (Below.refl wr.heap.size wr).alloc (Nat.le_refl _) (.cells #[.int .i64 cap, .int .i64 inn, .int .i64 out, .int .i64 start, .int .i64 fin, .slice TT qn cT] 63)
        have HT := Lib.hid (HT.out.below al)
        have XS := Lib.hid (XS.out.below al XS.out.lt)
        have XR := Lib.hid (XR.out.below al XR.out.lt)
        have HC := Lib.hid (Blk.new' wr #[.int .i64 cap, .int .i64 inn, .int .i64 out, .int .i64 start, .int .i64 fin, .slice TT qn cT] 63)
        clear c0 c1 c2 c3 c4 c5 abl al
        generalize wr.alloc (.cells #[.int .i64 cap, .int .i64 inn, .int .i64 out, .int .i64 start, .int .i64 fin, .slice TT qn cT] 63) = wx at HT XS XR HC ⊢
        obtain ⟨gc, hgc⟩ : ∃ gc, gc = wr.heap.size := ⟨_, rfl⟩
        rw [← hgc] at HC ⊢
        clear hgc
        have HT := Lib.hid (HT.out.below (Below.refl _ _).drew)
        have XS := Lib.hid XS.out.drew
        have XR := Lib.hid XR.out.drew
        have HC := Lib.hid HC.out.drew
        refine lBegin (S := fun _ W => ((W.cell? ⟨gt, 0, none⟩ = some (.slice (some ⟨g1, 0, none⟩) m m) ∧ W.cell? ⟨gt, 1, none⟩ = some (.slice (some ⟨g2, 0, none⟩) m m) ∧ W.cell? ⟨gc, 3, none⟩ = some (.int .i64 start)))) (by kernel_rfl) ?_ (fun hHeld => ?_)
        · (try dsimp only); (with_reducible exact ⟨HT.out.b.cell 0 rfl, HT.out.b.cell 1 rfl, HC.out.cell 3 rfl⟩)
        refine lTake (i := 0) (v := ?_) rfl (by kernel_rfl) (by kernel_rfl) (by kernel_rfl) (fun _ _ _ h => h) (by rfl) (fun _ _ h => h) (fun _ _ h => h) ?_ (by assumption) (fun hHeld2 => ?_)
        rotate_left 1
        · (intro _ _ _ _ _; first | (go_simp; done) | (go_simp; with_reducible rfl))
        clear hHeld; have hHeld := hHeld2; clear hHeld2
        (try simp only [Act.put, List.setIfInBounds_toArray, List.set_cons_zero, List.set_cons_succ])
        refine lTake (i := 1) (v := ?_) rfl (by kernel_rfl) (by kernel_rfl) (by kernel_rfl) (fun _ _ _ h => h) (by rfl) (fun _ _ h => h) (fun _ _ h => h) ?_ (by assumption) (fun hHeld2 => ?_)
        rotate_left 1
        · (intro L W _ _ hSw; (try dsimp only at hSw); first | (go_simp; done) | (go_simp; with_reducible rfl))
        clear hHeld; have hHeld := hHeld2; clear hHeld2
        (try simp only [Act.put, List.setIfInBounds_toArray, List.set_cons_zero, List.set_cons_succ])
        refine lTake (i := 2) (v := ?_) rfl (by kernel_rfl) (by kernel_rfl) (by kernel_rfl) (fun _ _ _ h => h) (by rfl) (fun _ _ h => h) (fun _ _ h => h) ?_ (by assumption) (fun hHeld2 => ?_)
        rotate_left 1
        · (intro _ _ _ _ _; first | (go_simp; done) | (go_simp; with_reducible rfl))
        clear hHeld; have hHeld := hHeld2; clear hHeld2
        (try simp only [Act.put, List.setIfInBounds_toArray, List.set_cons_zero, List.set_cons_succ])
        refine lTake (i := 3) (v := ?_) rfl (by kernel_rfl) (by kernel_rfl) (by kernel_rfl) (fun _ _ _ h => h) (by rfl) (fun _ _ h => h) (fun _ _ h => h) ?_ (by assumption) (fun hHeld2 => ?_)
        rotate_left 1
        · (intro _ _ _ _ _; first | (go_simp; done) | (go_simp; with_reducible rfl))
        clear hHeld; have hHeld := hHeld2; clear hHeld2
        (try simp only [Act.put, List.setIfInBounds_toArray, List.set_cons_zero, List.set_cons_succ])
        refine lTake (i := 4) (v := ?_) rfl (by kernel_rfl) (by kernel_rfl) (by kernel_rfl) (fun _ _ _ h => h) (by rfl) (fun _ _ h => h) (fun _ _ h => h) ?_ (by assumption) (fun hHeld2 => ?_)
        rotate_left 1
        · (intro L W _ _ hSw; (try dsimp only at hSw); first | (go_simp; done) | (go_simp; with_reducible rfl))
        clear hHeld; have hHeld := hHeld2; clear hHeld2
        (try simp only [Act.put, List.setIfInBounds_toArray, List.set_cons_zero, List.set_cons_succ])
        refine lTake (i := 5) (v := ?_) rfl (by kernel_rfl) (by kernel_rfl) (by kernel_rfl) (fun _ _ _ h => h) (by rfl) (fun _ _ h => h) (fun _ _ h => h) ?_ (by assumption) (fun hHeld2 => ?_)
        rotate_left 1
        · (intro _ _ _ _ _; first | (go_simp; done) | (go_simp; with_reducible rfl))
        clear hHeld; have hHeld := hHeld2; clear hHeld2
        (try simp only [Act.put, List.setIfInBounds_toArray, List.set_cons_zero, List.set_cons_succ])
        refine lTake (i := 6) (v := ?_) rfl (by kernel_rfl) (by kernel_rfl) (by kernel_rfl) (fun _ _ _ h => h) (by rfl) (fun _ _ h => h) (fun _ _ h => h) ?_ (by assumption) (fun hHeld2 => ?_)
        rotate_left 1
        · (intro _ _ _ _ _; first | (go_simp; done) | (go_simp; with_reducible rfl))
        clear hHeld; have hHeld := hHeld2; clear hHeld2
        (try simp only [Act.put, List.setIfInBounds_toArray, List.set_cons_zero, List.set_cons_succ])
        refine lTake (i := 7) (v := ?_) rfl (by kernel_rfl) (by kernel_rfl) (by kernel_rfl) (fun _ _ _ h => h) (by rfl) (fun _ _ h => h) (fun _ _ h => h) ?_ (by assumption) (fun hHeld2 => ?_)
        rotate_left 1
        · (intro _ _ _ _ _; first | (go_simp; done) | (go_simp; with_reducible rfl))
        clear hHeld; have hHeld := hHeld2; clear hHeld2
        (try simp only [Act.put, List.setIfInBounds_toArray, List.set_cons_zero, List.set_cons_succ])
        refine lTake (i := 8) (v := ?_) rfl (by kernel_rfl) (by kernel_rfl) (by kernel_rfl) (fun _ _ _ h => h) (by rfl) (fun _ _ h => h) (fun _ _ h => h) ?_ (by assumption) (fun hHeld2 => ?_)
        rotate_left 1
        · (intro _ _ _ _ _; first | (go_simp; done) | (go_simp; with_reducible rfl))
        clear hHeld; have hHeld := hHeld2; clear hHeld2
        (try simp only [Act.put, List.setIfInBounds_toArray, List.set_cons_zero, List.set_cons_succ])
        refine lTake (i := 10) (v := ?_) rfl (by kernel_rfl) (by kernel_rfl) (by kernel_rfl) (fun _ _ _ h => h) (by rfl) (fun _ _ h => h) (fun _ _ h => h) ?_ (by assumption) (fun hHeld2 => ?_)
        rotate_left 1
        · (intro _ _ _ _ _; first | (go_simp; done) | (go_simp; with_reducible rfl))
        clear hHeld; have hHeld := hHeld2; clear hHeld2
        (try simp only [Act.put, List.setIfInBounds_toArray, List.set_cons_zero, List.set_cons_succ])
        refine lTake (i := 12) (v := ?_) rfl (by kernel_rfl) (by kernel_rfl) (by kernel_rfl) (fun _ _ _ h => h) (by rfl) (fun _ _ h => h) (fun _ _ h => h) ?_ (by assumption) (fun hHeld2 => ?_)
        rotate_left 1
        · (intro _ _ _ _ _; first | (go_simp; done) | (go_simp; with_reducible rfl))
        clear hHeld; have hHeld := hHeld2; clear hHeld2
        (try simp only [Act.put, List.setIfInBounds_toArray, List.set_cons_zero, List.set_cons_succ])
        refine lTake (i := 13) (v := ?_) rfl (by kernel_rfl) (by kernel_rfl) (by kernel_rfl) (fun _ _ _ h => h) (by rfl) (fun _ _ h => h) (fun _ _ h => h) ?_ (by assumption) (fun hHeld2 => ?_)
        rotate_left 1
        · (intro L W _ _ hSw; (try dsimp only at hSw); first | (go_simp; done) | (go_simp; with_reducible rfl))
        clear hHeld; have hHeld := hHeld2; clear hHeld2
        (try simp only [Act.put, List.setIfInBounds_toArray, List.set_cons_zero, List.set_cons_succ])
        refine lReady (rs := [9, 11]) (by kernel_rfl) (by simp) ?_
        refine AllL.cons (i := 9) rfl (fun K hK => ?_) ?_
        · refine step_new (.cells (Array.replicate n (.int .i64 0)) 2) (fun g => .slice (some ⟨g, 0, none⟩) n n) rfl (by unfold execOp; simp [hmk22, go_sem]) ?_; intro ga wv z6 hc6 hb6; (try have HAB := Lib.hid (show ga ≠ gb from by have := HB.out.lt; omega)); (try have HB := Lib.hid (Fl.below HB.out hb6)); have HAF := Lib.hid (HT.out.fresh z6); have HA := Lib.hid (show Fl 2 wv ga (List.replicate n 0) from by unfold Fl Blk; rw [hc6]; simp); have HT := Lib.hid (HT.out.below hb6); have XS := Lib.hid (XS.out.below hb6 XS.out.lt); have XR := Lib.hid (XR.out.below hb6 XR.out.lt); have HC := Lib.hid (HC.out.below hb6 HC.out.lt); clear hb6 hc6 z6
          (try go_wp2_with fail)
          refine hK.out _ _ ?_ (fun hHeld2 => ?_)
          · (try dsimp only); (with_reducible exact ⟨HT.out.b.cell 0 rfl, HT.out.b.cell 1 rfl, HC.out.cell 3 rfl⟩)
          clear hK K
          clear hHeld; have hHeld := hHeld2; clear hHeld2
          (try simp only [Act.put, List.setIfInBounds_toArray, List.set_cons_zero, List.set_cons_succ])
          refine lTake (i := 14) (v := ?_) rfl (by kernel_rfl) (by kernel_rfl) (by kernel_rfl) (fun _ _ _ h => h) (by rfl) (fun _ _ h => h) (fun _ _ h => h) ?_ (by assumption) (fun hHeld2 => ?_)
          rotate_left 1
          · (intro _ _ _ _ _; first | (go_simp; done) | (go_simp; with_reducible rfl))
          clear hHeld; have hHeld := hHeld2; clear hHeld2
          (try simp only [Act.put, List.setIfInBounds_toArray, List.set_cons_zero, List.set_cons_succ])
          refine lReady (rs := [11, 15]) (by kernel_rfl) (by simp) ?_
          refine AllL.cons (i := 11) rfl (fun K hK => ?_) ?_
          · refine step_new (.cells (Array.replicate n (.int .i64 0)) 2) (fun g => .slice (some ⟨g, 0, none⟩) n n) rfl (by unfold execOp; simp [hmk22, go_sem]) ?_; intro gb wv z6 hc6 hb6; (try have HAB := Lib.hid (show ga ≠ gb from by have := HA.out.lt; omega)); (try have HA := Lib.hid (Fl.below HA.out hb6)); have HBF := Lib.hid (HT.out.fresh z6); have HB := Lib.hid (show Fl 2 wv gb (List.replicate n 0) from by unfold Fl Blk; rw [hc6]; simp); have HT := Lib.hid (HT.out.below hb6); have XS := Lib.hid (XS.out.below hb6 XS.out.lt); have XR := Lib.hid (XR.out.below hb6 XR.out.lt); have HC := Lib.hid (HC.out.below hb6 HC.out.lt); clear hb6 hc6 z6
            (try go_wp2_with fail)
            refine hK.out _ _ ?_ (fun hHeld2 => ?_)
            · (try dsimp only); (with_reducible exact ⟨HT.out.b.cell 0 rfl, HT.out.b.cell 1 rfl, HC.out.cell 3 rfl⟩)
            clear hK K
            clear hHeld; have hHeld := hHeld2; clear hHeld2
            (try simp only [Act.put, List.setIfInBounds_toArray, List.set_cons_zero, List.set_cons_succ])
            refine lReady (rs := [15]) (by kernel_rfl) (by simp) ?_
            refine AllL.cons (i := 15) rfl (fun K hK => ?_) ?_
            · obtain ⟨⟨v1, q1⟩, q2, q3⟩ := HT.out.cellI i hlt; go_simp; obtain ⟨cq, bq⟩ := HT.out.li; (try have HB := Lib.hid (HB.out.set_ne (p := ⟨g1, i, none⟩) (fun e => blk_type_ne bq.1 HB.out (by decide) e) (.slice (some ⟨ga, 0, none⟩) n n))); have XS := Lib.hid (XS.out.setCell_ne (p := ⟨g1, i, none⟩) (fun e => blk_type_ne XS.out bq.1 (by decide) e.symm) (.slice (some ⟨ga, 0, none⟩) n n)); have XR := Lib.hid (XR.out.setCell_ne (p := ⟨g1, i, none⟩) (fun e => blk_type_ne XR.out bq.1 (by decide) e.symm) (.slice (some ⟨ga, 0, none⟩) n n)); have HC := Lib.hid (HC.out.setCell_ne (p := ⟨g1, i, none⟩) (fun e => blk_type_ne HC.out bq.1 (by decide) e.symm) (.slice (some ⟨ga, 0, none⟩) n n)); have HT := Lib.hid (HT.out.inn hlt HA.out HAF.out); clear bq q1 q2 q3
              (try go_wp2_with fail)
              refine hK.out _ _ ?_ (fun hHeld2 => ?_)
              · (try dsimp only); (with_reducible exact ⟨HT.out.b.cell 0 rfl, HT.out.b.cell 1 rfl, HC.out.cell 3 rfl⟩)
              clear hK K
              clear hHeld; have hHeld := hHeld2; clear hHeld2
              (try simp only [Act.put, List.setIfInBounds_toArray, List.set_cons_zero, List.set_cons_succ])
              refine lTake (i := 16) (v := ?_) rfl (by kernel_rfl) (by kernel_rfl) (by kernel_rfl) (fun _ _ _ h => h) (by rfl) (fun _ _ h => h) (fun _ _ h => h) ?_ (by assumption) (fun hHeld2 => ?_)
              rotate_left 1
              · (intro _ _ _ _ _; first | (go_simp; done) | (go_simp; with_reducible rfl))
              clear hHeld; have hHeld := hHeld2; clear hHeld2
              (try simp only [Act.put, List.setIfInBounds_toArray, List.set_cons_zero, List.set_cons_succ])
              refine lReady (rs := [17]) (by kernel_rfl) (by simp) ?_
              refine AllL.cons (i := 17) rfl (fun K hK => ?_) ?_
              · obtain ⟨⟨v1, q1⟩, q2, q3⟩ := HT.out.cellO i hlt; go_simp; obtain ⟨cq, bq⟩ := HT.out.lo; have XS := Lib.hid (XS.out.setCell_ne (p := ⟨g2, i, none⟩) (fun e => blk_type_ne XS.out bq.1 (by decide) e.symm) (.slice (some ⟨gb, 0, none⟩) n n)); have XR := Lib.hid (XR.out.setCell_ne (p := ⟨g2, i, none⟩) (fun e => blk_type_ne XR.out bq.1 (by decide) e.symm) (.slice (some ⟨gb, 0, none⟩) n n)); have HC := Lib.hid (HC.out.setCell_ne (p := ⟨g2, i, none⟩) (fun e => blk_type_ne HC.out bq.1 (by decide) e.symm) (.slice (some ⟨gb, 0, none⟩) n n)); have HT := Lib.hid (HT.out.outt hlt HB.out ⟨(by first | exact HBF.out.1 | (intro x hx; unfold upd; split; exact HAB.out; exact HBF.out.1 x (by omega))), HBF.out.2⟩); clear bq q1 q2 q3
                (try go_wp2_with fail)
                refine hK.out _ _ ?_ (fun hHeld2 => ?_)
                · (try dsimp only); (with_reducible exact ⟨HT.out.b.cell 0 rfl, HT.out.b.cell 1 rfl, HC.out.cell 3 rfl⟩)
                clear hK K
                clear hHeld; have hHeld := hHeld2; clear hHeld2
                (try simp only [Act.put, List.setIfInBounds_toArray, List.set_cons_zero, List.set_cons_succ])
                refine lTake (i := 18) (v := ?_) rfl (by kernel_rfl) (by kernel_rfl) (by kernel_rfl) (fun _ _ _ h => h) (by rfl) (fun _ _ h => h) (fun _ _ h => h) ?_ (by assumption) (fun hHeld2 => ?_)
                rotate_left 1
                · (intro _ _ _ _ _; first | (go_simp; done) | (go_simp; with_reducible rfl))
                clear hHeld; have hHeld := hHeld2; clear hHeld2
                (try simp only [Act.put, List.setIfInBounds_toArray, List.set_cons_zero, List.set_cons_succ])
                refine lReady (rs := [19]) (by kernel_rfl) (by simp) ?_
                refine AllL.cons (i := 19) rfl (fun K hK => ?_) ?_
                · have q1 := HT.out.lev.cell i (by unfold lvA; rw [rowK_len]; exact hlt); have q2 := HT.out.lev.free i; have q3 := HT.out.lev.lt; go_simp; have bq := And.intro (show Blk _ gl 2 _ from HT.out.lev) True.intro; have XS := Lib.hid (XS.out.setCell_ne (p := ⟨gl, i, none⟩) (fun e => blk_type_ne XS.out bq.1 (by decide) e.symm) (.int .i64 start)); have XR := Lib.hid (XR.out.setCell_ne (p := ⟨gl, i, none⟩) (fun e => blk_type_ne XR.out bq.1 (by decide) e.symm) (.int .i64 start)); have HC := Lib.hid (HC.out.setCell_ne (p := ⟨gl, i, none⟩) (fun e => blk_type_ne HC.out bq.1 (by decide) e.symm) (.int .i64 start)); have HT := Lib.hid (HT.out.set i start); clear bq q1 q2 q3
                  (try go_wp2_with fail)
                  refine hK.out _ _ ?_ (fun hHeld2 => ?_)
                  · (try dsimp only); (with_reducible exact ⟨HT.out.b.cell 0 rfl, HT.out.b.cell 1 rfl, HC.out.cell 3 rfl⟩)
                  clear hK K
                  clear hHeld; have hHeld := hHeld2; clear hHeld2
                  (try simp only [Act.put, List.setIfInBounds_toArray, List.set_cons_zero, List.set_cons_succ])
                  refine lDone (by kernel_rfl) ?_ _
                  unfold lvA at HT
                  rw [HLV.out] at HT
                  go_wp2_with fail
                  exact ⟨⟨i + 1, by omega, by go_num, Lib.hid ⟨_, _, HT.out, XS.out, XR.out⟩⟩, by simp [intOf]; omega⟩
                exact AllL.nil
              exact AllL.nil
            exact AllL.nil
          refine AllL.cons (i := 15) rfl (fun K hK => ?_) ?_
          · obtain ⟨⟨v1, q1⟩, q2, q3⟩ := HT.out.cellI i hlt; go_simp; obtain ⟨cq, bq⟩ := HT.out.li; (try have HB := Lib.hid (HB.out.set_ne (p := ⟨g1, i, none⟩) (fun e => blk_type_ne bq.1 HB.out (by decide) e) (.slice (some ⟨ga, 0, none⟩) n n))); have XS := Lib.hid (XS.out.setCell_ne (p := ⟨g1, i, none⟩) (fun e => blk_type_ne XS.out bq.1 (by decide) e.symm) (.slice (some ⟨ga, 0, none⟩) n n)); have XR := Lib.hid (XR.out.setCell_ne (p := ⟨g1, i, none⟩) (fun e => blk_type_ne XR.out bq.1 (by decide) e.symm) (.slice (some ⟨ga, 0, none⟩) n n)); have HC := Lib.hid (HC.out.setCell_ne (p := ⟨g1, i, none⟩) (fun e => blk_type_ne HC.out bq.1 (by decide) e.symm) (.slice (some ⟨ga, 0, none⟩) n n)); have HT := Lib.hid (HT.out.inn hlt HA.out HAF.out); clear bq q1 q2 q3
            (try go_wp2_with fail)
            refine hK.out _ _ ?_ (fun hHeld2 => ?_)
            · (try dsimp only); (with_reducible exact ⟨HT.out.b.cell 0 rfl, HT.out.b.cell 1 rfl, HC.out.cell 3 rfl⟩)
            clear hK K
            clear hHeld; have hHeld := hHeld2; clear hHeld2
            (try simp only [Act.put, List.setIfInBounds_toArray, List.set_cons_zero, List.set_cons_succ])
            refine lReady (rs := [11]) (by kernel_rfl) (by simp) ?_
            refine AllL.cons (i := 11) rfl (fun K hK => ?_) ?_
            · refine step_new (.cells (Array.replicate n (.int .i64 0)) 2) (fun g => .slice (some ⟨g, 0, none⟩) n n) rfl (by unfold execOp; simp [hmk22, go_sem]) ?_; intro gb wv z6 hc6 hb6; (try have HAB := Lib.hid (show ga ≠ gb from by have := HA.out.lt; omega)); (try have HA := Lib.hid (Fl.below HA.out hb6)); have HBF := Lib.hid (HT.out.fresh z6); have HB := Lib.hid (show Fl 2 wv gb (List.replicate n 0) from by unfold Fl Blk; rw [hc6]; simp); have HT := Lib.hid (HT.out.below hb6); have XS := Lib.hid (XS.out.below hb6 XS.out.lt); have XR := Lib.hid (XR.out.below hb6 XR.out.lt); have HC := Lib.hid (HC.out.below hb6 HC.out.lt); clear hb6 hc6 z6
              (try go_wp2_with fail)
              refine hK.out _ _ ?_ (fun hHeld2 => ?_)
              · (try dsimp only); (with_reducible exact ⟨HT.out.b.cell 0 rfl, HT.out.b.cell 1 rfl, HC.out.cell 3 rfl⟩)
              clear hK K
              clear hHeld; have hHeld := hHeld2; clear hHeld2
              (try simp only [Act.put, List.setIfInBounds_toArray, List.set_cons_zero, List.set_cons_succ])
              refine lTake (i := 16) (v := ?_) rfl (by kernel_rfl) (by kernel_rfl) (by kernel_rfl) (fun _ _ _ h => h) (by rfl) (fun _ _ h => h) (fun _ _ h => h) ?_ (by assumption) (fun hHeld2 => ?_)
              rotate_left 1
              · (intro _ _ _ _ _; first | (go_simp; done) | (go_simp; with_reducible rfl))
              clear hHeld; have hHeld := hHeld2; clear hHeld2
              (try simp only [Act.put, List.setIfInBounds_toArray, List.set_cons_zero, List.set_cons_succ])
              refine lReady (rs := [17]) (by kernel_rfl) (by simp) ?_
              refine AllL.cons (i := 17) rfl (fun K hK => ?_) ?_
              · obtain ⟨⟨v1, q1⟩, q2, q3⟩ := HT.out.cellO i hlt; go_simp; obtain ⟨cq, bq⟩ := HT.out.lo; have XS := Lib.hid (XS.out.setCell_ne (p := ⟨g2, i, none⟩) (fun e => blk_type_ne XS.out bq.1 (by decide) e.symm) (.slice (some ⟨gb, 0, none⟩) n n)); have XR := Lib.hid (XR.out.setCell_ne (p := ⟨g2, i, none⟩) (fun e => blk_type_ne XR.out bq.1 (by decide) e.symm) (.slice (some ⟨gb, 0, none⟩) n n)); have HC := Lib.hid (HC.out.setCell_ne (p := ⟨g2, i, none⟩) (fun e => blk_type_ne HC.out bq.1 (by decide) e.symm) (.slice (some ⟨gb, 0, none⟩) n n)); have HT := Lib.hid (HT.out.outt hlt HB.out ⟨(by first | exact HBF.out.1 | (intro x hx; unfold upd; split; exact HAB.out; exact HBF.out.1 x (by omega))), HBF.out.2⟩); clear bq q1 q2 q3
                (try go_wp2_with fail)
                refine hK.out _ _ ?_ (fun hHeld2 => ?_)
                · (try dsimp only); (with_reducible exact ⟨HT.out.b.cell 0 rfl, HT.out.b.cell 1 rfl, HC.out.cell 3 rfl⟩)
                clear hK K
                clear hHeld; have hHeld := hHeld2; clear hHeld2
                (try simp only [Act.put, List.setIfInBounds_toArray, List.set_cons_zero, List.set_cons_succ])
                refine lTake (i := 18) (v := ?_) rfl (by kernel_rfl) (by kernel_rfl) (by kernel_rfl) (fun _ _ _ h => h) (by rfl) (fun _ _ h => h) (fun _ _ h => h) ?_ (by assumption) (fun hHeld2 => ?_)
                rotate_left 1
                · (intro _ _ _ _ _; first | (go_simp; done) | (go_simp; with_reducible rfl))
                clear hHeld; have hHeld := hHeld2; clear hHeld2
                (try simp only [Act.put, List.setIfInBounds_toArray, List.set_cons_zero, List.set_cons_succ])
                refine lReady (rs := [19]) (by kernel_rfl) (by simp) ?_
                refine AllL.cons (i := 19) rfl (fun K hK => ?_) ?_
                · have q1 := HT.out.lev.cell i (by unfold lvA; rw [rowK_len]; exact hlt); have q2 := HT.out.lev.free i; have q3 := HT.out.lev.lt; go_simp; have bq := And.intro (show Blk _ gl 2 _ from HT.out.lev) True.intro; have XS := Lib.hid (XS.out.setCell_ne (p := ⟨gl, i, none⟩) (fun e => blk_type_ne XS.out bq.1 (by decide) e.symm) (.int .i64 start)); have XR := Lib.hid (XR.out.setCell_ne (p := ⟨gl, i, none⟩) (fun e => blk_type_ne XR.out bq.1 (by decide) e.symm) (.int .i64 start)); have HC := Lib.hid (HC.out.setCell_ne (p := ⟨gl, i, none⟩) (fun e => blk_type_ne HC.out bq.1 (by decide) e.symm) (.int .i64 start)); have HT := Lib.hid (HT.out.set i start); clear bq q1 q2 q3
                  (try go_wp2_with fail)
                  refine hK.out _ _ ?_ (fun hHeld2 => ?_)
                  · (try dsimp only); (with_reducible exact ⟨HT.out.b.cell 0 rfl, HT.out.b.cell 1 rfl, HC.out.cell 3 rfl⟩)
                  clear hK K
                  clear hHeld; have hHeld := hHeld2; clear hHeld2
                  (try simp only [Act.put, List.setIfInBounds_toArray, List.set_cons_zero, List.set_cons_succ])
                  refine lDone (by kernel_rfl) ?_ _
                  unfold lvA at HT
                  rw [HLV.out] at HT
                  go_wp2_with fail
                  exact ⟨⟨i + 1, by omega, by go_num, Lib.hid ⟨_, _, HT.out, XS.out, XR.out⟩⟩, by simp [intOf]; omega⟩
                exact AllL.nil
              exact AllL.nil
            exact AllL.nil
          exact AllL.nil
        refine AllL.cons (i := 11) rfl (fun K hK => ?_) ?_
        · refine step_new (.cells (Array.replicate n (.int .i64 0)) 2) (fun g => .slice (some ⟨g, 0, none⟩) n n) rfl (by unfold execOp; simp [hmk22, go_sem]) ?_; intro gb wv z6 hc6 hb6; (try have HAB := Lib.hid (show ga ≠ gb from by have := HA.out.lt; omega)); (try have HA := Lib.hid (Fl.below HA.out hb6)); have HBF := Lib.hid (HT.out.fresh z6); have HB := Lib.hid (show Fl 2 wv gb (List.replicate n 0) from by unfold Fl Blk; rw [hc6]; simp); have HT := Lib.hid (HT.out.below hb6); have XS := Lib.hid (XS.out.below hb6 XS.out.lt); have XR := Lib.hid (XR.out.below hb6 XR.out.lt); have HC := Lib.hid (HC.out.below hb6 HC.out.lt); clear hb6 hc6 z6
          (try go_wp2_with fail)
          refine hK.out _ _ ?_ (fun hHeld2 => ?_)
          · (try dsimp only); (with_reducible exact ⟨HT.out.b.cell 0 rfl, HT.out.b.cell 1 rfl, HC.out.cell 3 rfl⟩)
          clear hK K
          clear hHeld; have hHeld := hHeld2; clear hHeld2
          (try simp only [Act.put, List.setIfInBounds_toArray, List.set_cons_zero, List.set_cons_succ])
          refine lReady (rs := [9]) (by kernel_rfl) (by simp) ?_
          refine AllL.cons (i := 9) rfl (fun K hK => ?_) ?_
          · refine step_new (.cells (Array.replicate n (.int .i64 0)) 2) (fun g => .slice (some ⟨g, 0, none⟩) n n) rfl (by unfold execOp; simp [hmk22, go_sem]) ?_; intro ga wv z6 hc6 hb6; (try have HAB := Lib.hid (show ga ≠ gb from by have := HB.out.lt; omega)); (try have HB := Lib.hid (Fl.below HB.out hb6)); have HAF := Lib.hid (HT.out.fresh z6); have HA := Lib.hid (show Fl 2 wv ga (List.replicate n 0) from by unfold Fl Blk; rw [hc6]; simp); have HT := Lib.hid (HT.out.below hb6); have XS := Lib.hid (XS.out.below hb6 XS.out.lt); have XR := Lib.hid (XR.out.below hb6 XR.out.lt); have HC := Lib.hid (HC.out.below hb6 HC.out.lt); clear hb6 hc6 z6
            (try go_wp2_with fail)
            refine hK.out _ _ ?_ (fun hHeld2 => ?_)
            · (try dsimp only); (with_reducible exact ⟨HT.out.b.cell 0 rfl, HT.out.b.cell 1 rfl, HC.out.cell 3 rfl⟩)
            clear hK K
            clear hHeld; have hHeld := hHeld2; clear hHeld2
            (try simp only [Act.put, List.setIfInBounds_toArray, List.set_cons_zero, List.set_cons_succ])
            refine lTake (i := 14) (v := ?_) rfl (by kernel_rfl) (by kernel_rfl) (by kernel_rfl) (fun _ _ _ h => h) (by rfl) (fun _ _ h => h) (fun _ _ h => h) ?_ (by assumption) (fun hHeld2 => ?_)
            rotate_left 1
            · (intro _ _ _ _ _; first | (go_simp; done) | (go_simp; with_reducible rfl))
            clear hHeld; have hHeld := hHeld2; clear hHeld2
            (try simp only [Act.put, List.setIfInBounds_toArray, List.set_cons_zero, List.set_cons_succ])
            refine lReady (rs := [15]) (by kernel_rfl) (by simp) ?_
            refine AllL.cons (i := 15) rfl (fun K hK => ?_) ?_
            · obtain ⟨⟨v1, q1⟩, q2, q3⟩ := HT.out.cellI i hlt; go_simp; obtain ⟨cq, bq⟩ := HT.out.li; (try have HB := Lib.hid (HB.out.set_ne (p := ⟨g1, i, none⟩) (fun e => blk_type_ne bq.1 HB.out (by decide) e) (.slice (some ⟨ga, 0, none⟩) n n))); have XS := Lib.hid (XS.out.setCell_ne (p := ⟨g1, i, none⟩) (fun e => blk_type_ne XS.out bq.1 (by decide) e.symm) (.slice (some ⟨ga, 0, none⟩) n n)); have XR := Lib.hid (XR.out.setCell_ne (p := ⟨g1, i, none⟩) (fun e => blk_type_ne XR.out bq.1 (by decide) e.symm) (.slice (some ⟨ga, 0, none⟩) n n)); have HC := Lib.hid (HC.out.setCell_ne (p := ⟨g1, i, none⟩) (fun e => blk_type_ne HC.out bq.1 (by decide) e.symm) (.slice (some ⟨ga, 0, none⟩) n n)); have HT := Lib.hid (HT.out.inn hlt HA.out HAF.out); clear bq q1 q2 q3
              (try go_wp2_with fail)
              refine hK.out _ _ ?_ (fun hHeld2 => ?_)
              · (try dsimp only); (with_reducible exact ⟨HT.out.b.cell 0 rfl, HT.out.b.cell 1 rfl, HC.out.cell 3 rfl⟩)
              clear hK K
              clear hHeld; have hHeld := hHeld2; clear hHeld2
              (try simp only [Act.put, List.setIfInBounds_toArray, List.set_cons_zero, List.set_cons_succ])
              refine lTake (i := 16) (v := ?_) rfl (by kernel_rfl) (by kernel_rfl) (by kernel_rfl) (fun _ _ _ h => h) (by rfl) (fun _ _ h => h) (fun _ _ h => h) ?_ (by assumption) (fun hHeld2 => ?_)
              rotate_left 1
              · (intro _ _ _ _ _; first | (go_simp; done) | (go_simp; with_reducible rfl))
              clear hHeld; have hHeld := hHeld2; clear hHeld2
              (try simp only [Act.put, List.setIfInBounds_toArray, List.set_cons_zero, List.set_cons_succ])
              refine lReady (rs := [17]) (by kernel_rfl) (by simp) ?_
              refine AllL.cons (i := 17) rfl (fun K hK => ?_) ?_
              · obtain ⟨⟨v1, q1⟩, q2, q3⟩ := HT.out.cellO i hlt; go_simp; obtain ⟨cq, bq⟩ := HT.out.lo; have XS := Lib.hid (XS.out.setCell_ne (p := ⟨g2, i, none⟩) (fun e => blk_type_ne XS.out bq.1 (by decide) e.symm) (.slice (some ⟨gb, 0, none⟩) n n)); have XR := Lib.hid (XR.out.setCell_ne (p := ⟨g2, i, none⟩) (fun e => blk_type_ne XR.out bq.1 (by decide) e.symm) (.slice (some ⟨gb, 0, none⟩) n n)); have HC := Lib.hid (HC.out.setCell_ne (p := ⟨g2, i, none⟩) (fun e => blk_type_ne HC.out bq.1 (by decide) e.symm) (.slice (some ⟨gb, 0, none⟩) n n)); have HT := Lib.hid (HT.out.outt hlt HB.out ⟨(by first | exact HBF.out.1 | (intro x hx; unfold upd; split; exact HAB.out; exact HBF.out.1 x (by omega))), HBF.out.2⟩); clear bq q1 q2 q3
                (try go_wp2_with fail)
                refine hK.out _ _ ?_ (fun hHeld2 => ?_)
                · (try dsimp only); (with_reducible exact ⟨HT.out.b.cell 0 rfl, HT.out.b.cell 1 rfl, HC.out.cell 3 rfl⟩)
                clear hK K
                clear hHeld; have hHeld := hHeld2; clear hHeld2
                (try simp only [Act.put, List.setIfInBounds_toArray, List.set_cons_zero, List.set_cons_succ])
                refine lTake (i := 18) (v := ?_) rfl (by kernel_rfl) (by kernel_rfl) (by kernel_rfl) (fun _ _ _ h => h) (by rfl) (fun _ _ h => h) (fun _ _ h => h) ?_ (by assumption) (fun hHeld2 => ?_)
                rotate_left 1
                · (intro _ _ _ _ _; first | (go_simp; done) | (go_simp; with_reducible rfl))
                clear hHeld; have hHeld := hHeld2; clear hHeld2
                (try simp only [Act.put, List.setIfInBounds_toArray, List.set_cons_zero, List.set_cons_succ])
                refine lReady (rs := [19]) (by kernel_rfl) (by simp) ?_
                refine AllL.cons (i := 19) rfl (fun K hK => ?_) ?_
                · have q1 := HT.out.lev.cell i (by unfold lvA; rw [rowK_len]; exact hlt); have q2 := HT.out.lev.free i; have q3 := HT.out.lev.lt; go_simp; have bq := And.intro (show Blk _ gl 2 _ from HT.out.lev) True.intro; have XS := Lib.hid (XS.out.setCell_ne (p := ⟨gl, i, none⟩) (fun e => blk_type_ne XS.out bq.1 (by decide) e.symm) (.int .i64 start)); have XR := Lib.hid (XR.out.setCell_ne (p := ⟨gl, i, none⟩) (fun e => blk_type_ne XR.out bq.1 (by decide) e.symm) (.int .i64 start)); have HC := Lib.hid (HC.out.setCell_ne (p := ⟨gl, i, none⟩) (fun e => blk_type_ne HC.out bq.1 (by decide) e.symm) (.int .i64 start)); have HT := Lib.hid (HT.out.set i start); clear bq q1 q2 q3
                  (try go_wp2_with fail)
                  refine hK.out _ _ ?_ (fun hHeld2 => ?_)
                  · (try dsimp only); (with_reducible exact ⟨HT.out.b.cell 0 rfl, HT.out.b.cell 1 rfl, HC.out.cell 3 rfl⟩)
                  clear hK K
                  clear hHeld; have hHeld := hHeld2; clear hHeld2
                  (try simp only [Act.put, List.setIfInBounds_toArray, List.set_cons_zero, List.set_cons_succ])
                  refine lDone (by kernel_rfl) ?_ _
                  unfold lvA at HT
                  rw [HLV.out] at HT
                  go_wp2_with fail
                  exact ⟨⟨i + 1, by omega, by go_num, Lib.hid ⟨_, _, HT.out, XS.out, XR.out⟩⟩, by simp [intOf]; omega⟩
                exact AllL.nil
              exact AllL.nil
            exact AllL.nil
          exact AllL.nil
        exact AllL.nil
      · obtain rfl : m = i := by omega
        have HJ : Hid (EgJ w n m gt g1 g2 m m gl gr gI gO [.slice A n cA, .slice B nB cB, .slice C nC cC, .slice D nD cD] (fun x => rowK (egX S cs x) n 0) (mapR m (egL S cs 0)) wr) := Lib.hid ((EgJ.mk HT.out.full (by have := HT.out.lev; unfold lvA at this; rw [lvA_aux] at this; exact this) (fun x hx => ⟨(HT.out.al.1 x hx).1, (HT.out.al.2 x hx).1⟩) HT.out.ge.2.2 XS.out XR.out ⟨HG1.out.1, HGR.out⟩).rows (fun x _ => rowK_zero _ _))
        clear HT XS XR
        go_wp2_with fail
        go_loopw [65] (fun iv wr => ∃ k : Nat, k ≤ n ∧ iv = .int .i64 k ∧ Hid (EgJ w n m gt g1 g2 m m gl gr gI gO [.slice A n cA, .slice B nB cB, .slice C nC cC, .slice D nD cD] (fun x => rowK (egX S cs x) n k) (mapR m (egL S cs k)) wr)) (fun iv _ => n - (intOf iv).toNat)
        case atStart => exact ⟨0, Nat.zero_le _, rfl, HJ⟩
        case round =>
          clear HJ
          obtain ⟨k, hk, rfl, HJ⟩ := hrel
          by_cases hlt : k < n
          · have hki : (k : Int) < (n : Int) := by omega
            have kS : k < S.lim.length := by rw [← HN.out]; exact hlt
            have s0 := HJ.out.s.cell 0 rfl
            have sl := HJ.out.s.lt
            obtain ⟨la, hla, lal, lx⟩ := (HS.out.below HJ.out.t.bel (Nat.le_refl _)).1 k kS
            rw [hla] at s0
            have la2 : (la.add k).block < wr.heap.size := by rw [block_add]; exact lal
            rw [show S.lim.getD k 0 = egV S cs k 0 from rfl] at lx
            have HJ0 : Hid (EgJ w n m gt g1 g2 m m gl gr gI gO [.slice A n cA, .slice B nB cB, .slice C nC cC, .slice D nD cD] (rwC S cs n k 0) (lvC S cs m k 0) wr) := Lib.hid (by rw [lvC_zero]; exact HJ.out.rows (fun x _ => rwC_zero S cs n k x))
            clear HJ
            generalize hv0 : egV S cs k 0 = lf0 at lx
            have HV0 := Lib.hid hv0
            clear hv0 hla
            go_wp2_with fail
            clear s0 sl lx la2 lal
            go_loopw [13, 75] (fun lv iv wr => ∃ i : Nat, i ≤ m ∧ iv = .int .i64 i ∧ lv = .int .i64 (egV S cs k i) ∧ Hid (EgJ w n m gt g1 g2 m m gl gr gI gO [.slice A n cA, .slice B nB cB, .slice C nC cC, .slice D nD cD] (rwC S cs n k i) (lvC S cs m k i) wr)) (fun _ iv _ => m - (intOf iv).toNat)
            case atStart => exact ⟨0, Nat.zero_le _, rfl, by rw [HV0.out], HJ0⟩
            case round =>
              clear HJ0
              obtain ⟨i, hi, rfl, rfl, HJ⟩ := hrel
              by_cases hlt2 : i < m
              · have hii : (i : Int) < (m : Int) := by omega
                have il : i < cs.length := by rw [← HM.out]; exact hlt2
                obtain ⟨ad, hE2, abl, c0, c1, c2, c3, c4, TT, cT, c5, hcT, HTT⟩ := (HCS.out.below HJ.out.t.bel (Nat.le_refl _)) i il
                subst hE2
                have HTR := Lib.hid HTT
                clear HTT
                have b1 := egL_bd HZ.out il k
                have b2 := egV_bd HZ.out kS i (by omega)
                have b3 := egX_bd HZ.out il k
                have b4 := useC_bd (carok_of HZ.out il) k
                have b5 := (carOk_iff.1 (carok_of HZ.out il)).1
                have HXD := Lib.hid (show egX S cs i k = if awayC (cs.getD i default) k = true then 0 else max 0 (min (min (cs.getD i default).inn ((cs.getD i default).cap - egL S cs k i)) (egV S cs k i)) from rfl)
                have HLN := Lib.hid (egL_succ S cs k i)
                have HVN := Lib.hid (egV_succ S cs k i)
                have HLG := Lib.hid (lvC_get S cs (k := k) hlt2)
                have HLS := Lib.hid (fun u v hv => lvC_set S cs (k := k) hlt2 u v hv)
                have HRS := Lib.hid (rwC_set S cs (n := n) (k := k) (i := i) hlt)
                have HRK := Lib.hid (rwC_skip S cs (n := n) (k := k) (i := i) hlt)
                generalize hcc : cs.getD i default = c at *
                clear hcc
                obtain ⟨cap, inn, out, start, fin, trips⟩ := c
                simp only at c0 c1 c2 c3 c4 c5 hcT HTR b5 HXD
                obtain ⟨qn, hqn⟩ : ∃ qn, qn = trips.length := ⟨_, rfl⟩
                rw [← hqn] at c5 hcT
                have HQN := Lib.hid hqn
                clear hqn
                obtain ⟨u, hu⟩ : ∃ u, u = useC ⟨cap, inn, out, start, fin, trips⟩ k := ⟨_, rfl⟩
                obtain ⟨aw, haw⟩ : ∃ aw, aw = awayC ⟨cap, inn, out, start, fin, trips⟩ k := ⟨_, rfl⟩
                have HTC : Hid (∀ V, Below wr.heap.size wr V → Calls Try.prog 87 #[.agg #[.int .i64 cap, .int .i64 inn, .int .i64 out, .int .i64 start, .int .i64 fin, .slice TT qn cT], .int .i64 ((k : Nat) : Int)] V fun e w' => e = .returned (.tuple #[.int .i64 u, .bool aw]) ∧ Below V.heap.size V w') := Lib.hid (fun V hV => by
                  have := trip_c (.int .i64 cap) (.int .i64 inn) (.int .i64 out) (.int .i64 start) (.int .i64 fin) k TT trips qn cT V HQN.out hcT (HTR.out.below hV (Nat.le_refl _))
                  rw [hu, haw, show useC ⟨cap, inn, out, start, fin, trips⟩ k = useP trips k qn from by rw [HQN.out]; rfl, show awayC ⟨cap, inn, out, start, fin, trips⟩ k = awayP trips k qn from by rw [HQN.out]; rfl]
                  exact this)
                rw [← hu] at b4 HLN
                rw [← haw] at HXD
                clear hu haw
                generalize egL S cs (k + 1) i = l2 at *
                generalize egL S cs k i = l at *
                generalize egX S cs i k = x at *
                generalize egV S cs k i = lf at *
                go_upto_region 19 with fail
                have al := (Below.refl wr.heap.size wr).alloc (Nat.le_refl _) (.cells #[.int .i64 cap, .int .i64 inn, .int .i64 out, .int .i64 start, .int .i64 fin, .slice TT qn cT] 63)
                have HK := Lib.hid (HJ.out.below al)
                have HC := Lib.hid (Blk.new' wr #[.int .i64 cap, .int .i64 inn, .int .i64 out, .int .i64 start, .int .i64 fin, .slice TT qn cT] 63)
                have HWX := Lib.hid al
                clear c0 c1 c2 c3 c4 c5 abl al HJ
                generalize wr.alloc (.cells #[.int .i64 cap, .int .i64 inn, .int .i64 out, .int .i64 start, .int .i64 fin, .slice TT qn cT] 63) = wx at HK HC HWX ⊢
                obtain ⟨gc, hgc⟩ : ∃ gc, gc = wr.heap.size := ⟨_, rfl⟩
                rw [← hgc] at HC ⊢
                clear hgc
                have e0 := HC.out.cell 0 rfl
                have e1 := HC.out.cell 1 rfl
                have e2 := HC.out.cell 2 rfl
                have e3 := HC.out.cell 3 rfl
                have e4 := HC.out.cell 4 rfl
                have e5 := HC.out.cell 5 rfl
                have el := HC.out.lt
                go_wp2_with fail
                refine (HTC.out wx HWX.out).mono ?_
                rintro e w4 ⟨rfl, hb⟩
                have HK4 := Lib.hid (HK.out.below hb)
                have HC4 := Lib.hid (HC.out.below hb HC.out.lt)
                clear hb HTC HK HC e0 e1 e2 e3 e4 e5 el HWX
                cases aw
                · simp only [Bool.false_eq_true, if_false] at HXD
                  have f0 := HC4.out.cell 0 rfl
                  have f1 := HC4.out.cell 1 rfl
                  have fl := HC4.out.lt
                  have l0 := HK4.out.l.cell i (by first | (rw [lvC, mapR_len]; exact hlt2) | (rw [List.length_set, lvC, mapR_len]; exact hlt2))
                  have lz := HK4.out.l.free i
                  have ll := HK4.out.l.lt
                  rw [HLG.out] at l0
                  have cle : IntKind.i64.wrap (cap - l) = cap - l := IntWalk.i64_in _ (by omega)
                  have hm1 := fun ts t W => min3_run inn (cap - l) lf ts t W
                  obtain ⟨mn, hmn⟩ : ∃ mn, mn = min (min inn (cap - l)) lf := ⟨_, rfl⟩
                  rw [← hmn] at HXD
                  simp only [← hmn] at hm1
                  have hm2 := fun ts t W => maxTwo 0 mn ts t W
                  simp only [← HXD.out] at hm2
                  clear hmn
                  go_upto_region 21 with fail
                  refine wp_region_past (by kernel_rfl) (by kernel_rfl) ?_
                  repeat (go_big_quiet_step (fail))
                  refine wpQuiet_nil ?_
                  intro xx
                  have HK5 := Lib.hid (HK4.out.below xx.far)
                  generalize xx.w = w5 at HK5 ⊢
                  clear f0 f1 fl l0 lz ll cle hm1 hm2 HK4 HC4
                  have t0 := HK5.out.t.b.cell 0 rfl
                  have tl := HK5.out.t.b.lt
                  have g0 := HK5.out.t.i.cell i hlt2
                  have gz := HK5.out.t.i.lt
                  have r0 := (HK5.out.t.i.f i hlt2).1.cell k (by rw [(HK5.out.t.i.f i hlt2).2]; exact hlt)
                  have rz := (HK5.out.t.i.f i hlt2).1.free k
                  have rl := (HK5.out.t.i.f i hlt2).1.lt
                  have HK6 := Lib.hid (HK5.out.setI i hlt2 k x)
                  go_upto_region 23 with fail
                  clear t0 tl g0 gz r0 rz rl HK5
                  generalize w5.setCell ⟨gI i, k, none⟩ (.int .i64 x) = w6 at HK6 ⊢
                  have HK7 : Hid (EgJ w n m gt g1 g2 m m gl gr gI gO [.slice A n cA, .slice B nB cB, .slice C nC cC, .slice D nD cD] (rwC S cs n k (i + 1)) (lvC S cs m k i) w6) := Lib.hid (HK6.out.rows (fun y _ => (HRS.out y).symm))
                  clear HK6
                  have lfe : IntKind.i64.wrap (lf - x) = lf - x := IntWalk.i64_in _ (by omega)
                  have lxe : IntKind.i64.wrap (l + x) = l + x := IntWalk.i64_in _ (by omega)
                  have l0 := HK7.out.l.cell i (by first | (rw [lvC, mapR_len]; exact hlt2) | (rw [List.length_set, lvC, mapR_len]; exact hlt2))
                  have lz := HK7.out.l.free i
                  have ll := HK7.out.l.lt
                  rw [HLG.out] at l0
                  have HK8 := Lib.hid (HK7.out.setL i (l + x))
                  go_upto_region 25 with fail
                  clear l0 lz ll HK7 lxe
                  generalize w6.setCell ⟨gl, i, none⟩ (.int .i64 (l + x)) = w8 at HK8 ⊢
                  have l0 := HK8.out.l.cell i (by first | (rw [lvC, mapR_len]; exact hlt2) | (rw [List.length_set, lvC, mapR_len]; exact hlt2))
                  have lz := HK8.out.l.free i
                  have ll := HK8.out.l.lt
                  rw [show ((lvC S cs m k i).set i (l + x)).getD i 0 = l + x from by rw [List.getD_eq_getElem?_getD, List.getElem?_set_self (by rw [lvC, mapR_len]; exact hlt2)]; rfl] at l0
                  have lue : IntKind.i64.wrap ((l + x) - u) = (l + x) - u := IntWalk.i64_in _ (by omega)
                  have HKf := Lib.hid (HK8.out.setL i ((l + x) - u))
                  go_upto_region 26 with fail
                  clear l0 lz ll lue HK8
                  generalize w8.setCell ⟨gl, i, none⟩ (.int .i64 ((l + x) - u)) = wf at HKf ⊢
                  rw [(HLS.out (l + x) ((l + x) - u) (by rw [HLN.out])).1] at HKf
                  go_wp2_with fail
                  exact ⟨⟨i + 1, by omega, by go_num, by rw [HVN.out], HKf⟩, by simp [intOf]; omega⟩
                · simp only [if_true] at HXD
                  have hx0 : x = 0 := HXD.out
                  subst hx0
                  clear HC4
                  have l0 := HK4.out.l.cell i (by first | (rw [lvC, mapR_len]; exact hlt2) | (rw [List.length_set, lvC, mapR_len]; exact hlt2))
                  have lz := HK4.out.l.free i
                  have ll := HK4.out.l.lt
                  rw [HLG.out] at l0
                  have lue : IntKind.i64.wrap (l - u) = l - u := IntWalk.i64_in _ (by omega)
                  have HKf := Lib.hid (HK4.out.setL i (l - u))
                  go_upto_region 26 with fail
                  clear l0 lz ll lue HK4
                  generalize w4.setCell ⟨gl, i, none⟩ (.int .i64 (l - u)) = wf at HKf ⊢
                  rw [(HLS.out l (l - u) (by rw [HLN.out]; omega)).2] at HKf
                  have HKg : Hid (EgJ w n m gt g1 g2 m m gl gr gI gO [.slice A n cA, .slice B nB cB, .slice C nC cC, .slice D nD cD] (rwC S cs n k (i + 1)) (lvC S cs m k (i + 1)) wf) := Lib.hid (HKf.out.rows (fun y _ => (HRK.out (by first | rfl | trivial) y).symm))
                  clear HKf
                  have HVE : Hid (egV S cs k (i + 1) = lf) := Lib.hid (by rw [HVN.out]; omega)
                  go_wp2_with fail
                  exact ⟨⟨i + 1, by omega, by go_num, by rw [HVE.out], HKg⟩, by simp [intOf]; omega⟩
              · obtain rfl : m = i := by omega
                have HE : Hid (EgJ w n m gt g1 g2 m m gl gr gI gO [.slice A n cA, .slice B nB cB, .slice C nC cC, .slice D nD cD] (fun x => rowK (egX S cs x) n (k + 1)) (mapR m (egL S cs (k + 1))) wr) := Lib.hid (by
                  have h := HJ.out
                  rw [lvC_all] at h
                  exact h.rows (fun x hx => (rwC_all S cs hx).symm))
                clear HJ
                go_wp2_with fail
                go_roundw
                case measure => simp [intOf]; omega
                case rel => exact ⟨k + 1, by omega, by go_num, HE⟩
          · obtain rfl : n = k := by omega
            have HTB : Hid (∀ V, EgJ w n m gt g1 g2 m m gl gr gI gO [.slice A n cA, .slice B nB cB, .slice C nC cC, .slice D nD cD] (fun x => rowK (egX S cs x) n n) (mapR m (egL S cs n)) V → TabAt V (some ⟨g1, 0, none⟩) (some ⟨g2, 0, none⟩) (egT S cs)) := Lib.hid (fun V h => by
              have := h.t.tab (by omega)
              unfold egT
              rw [← HN.out, ← HM.out]
              exact this)
            obtain ⟨v2, hv2⟩ : ∃ v2, v2 = plE S cs (egT S cs) := ⟨_, rfl⟩
            have HF := Lib.hid (F32.out wr g1 g2 HJ.out.t.bel (HTB.out wr HJ.out))
            rw [← hv2] at HF HP1 HP3
            clear hv2 F32
            have s0 := HJ.out.s.cell 0 rfl
            have s1 := HJ.out.s.cell 1 rfl
            have s2 := HJ.out.s.cell 2 rfl
            have s3 := HJ.out.s.cell 3 rfl
            have sl := HJ.out.s.lt
            have t0 := HJ.out.t.b.cell 0 rfl
            have t1 := HJ.out.t.b.cell 1 rfl
            have tl := HJ.out.t.b.lt
            go_wp2_with fail
            refine HF.out.mono ?_
            rintro e w5 ⟨rfl, hb⟩
            have HJ5 := Lib.hid (HJ.out.below hb)
            clear hb HF s0 s1 s2 s3 sl t0 t1 tl HJ
            have HB5 := Lib.hid HJ5.out.t.bel
            have XR5 := Lib.hid HJ5.out.r
            by_cases h2 : v2 = 0
            rotate_left
            · have hb2 : (v2 == 0) = false := by simpa using h2
              have EE := Lib.hid (HP3.out (by first | rfl | trivial) h2)
              have r0 := XR5.out.cell 0 rfl
              have r1 := XR5.out.cell 1 rfl
              have rz := XR5.out.free 0
              have rz1 := XR5.out.free 1
              have rl := XR5.out.lt
              have HF := Lib.hid (And.intro ((XR5.out.setCell 0 (.slice none 0 0)).setCell 1 (.slice none 0 0)) (((HB5.out.setCell (p := ⟨gr, 0, none⟩) HGR.out (.slice none 0 0)).setCell (p := ⟨gr, 1, none⟩) HGR.out (.slice none 0 0))))
              go_wp2_with fail
              have q0 := HF.out.1.cell 0 rfl
              have q1 := HF.out.1.cell 1 rfl
              exact bodyPost_ret (v := .tuple #[.agg #[.slice none 0 0, .slice none 0 0], .int .i64 18]) (by simp [results, Try.results43, go_sem, q0, q1]) rfl (EE.out _ HF.out.2)
            · subst h2
              have EE := Lib.hid (HP1.out (by first | rfl | trivial) (by first | rfl | trivial))
              have t0 := HJ5.out.t.b.cell 0 rfl
              have t1 := HJ5.out.t.b.cell 1 rfl
              have tl := HJ5.out.t.b.lt
              have r0 := XR5.out.cell 0 rfl
              have r1 := XR5.out.cell 1 rfl
              have rz := XR5.out.free 0
              have rz1 := XR5.out.free 1
              have rl := XR5.out.lt
              have rg := HJ5.out.rg.1
              have HF2 := Lib.hid (And.intro ((XR5.out.setCell 0 (.slice (some ⟨g1, 0, none⟩) m m)).setCell 1 (.slice (some ⟨g2, 0, none⟩) m m)) (And.intro ((HB5.out.setCell (p := ⟨gr, 0, none⟩) HGR.out (.slice (some ⟨g1, 0, none⟩) m m)).setCell (p := ⟨gr, 1, none⟩) HGR.out (.slice (some ⟨g2, 0, none⟩) m m)) (show TabAt ((w5.setCell ⟨gr, 0, none⟩ (.slice (some ⟨g1, 0, none⟩) m m)).setCell ⟨gr, 1, none⟩ (.slice (some ⟨g2, 0, none⟩) m m)) (some ⟨g1, 0, none⟩) (some ⟨g2, 0, none⟩) (egT S cs) from by
                have h := HJ5.out
                obtain ⟨ci, x1, x2⟩ := h.t.i.b
                obtain ⟨co, y1, y2⟩ := h.t.o.b
                have e1 := (h.t.i.other (p := ⟨gr, 0, none⟩) (fun e => blk_type_ne h.r x1 (by decide) e) (fun x hx e => blk_type_ne h.r (h.t.i.f x hx).1 (by decide) e) (.slice (some ⟨g1, 0, none⟩) m m)).other (p := ⟨gr, 1, none⟩) (fun e => blk_type_ne h.r x1 (by decide) e) (fun x hx e => blk_type_ne h.r (h.t.i.f x hx).1 (by decide) e) (.slice (some ⟨g2, 0, none⟩) m m)
                have e2 := (h.t.o.other (p := ⟨gr, 0, none⟩) (fun e => blk_type_ne h.r y1 (by decide) e) (fun x hx e => blk_type_ne h.r (h.t.o.f x hx).1 (by decide) e) (.slice (some ⟨g1, 0, none⟩) m m)).other (p := ⟨gr, 1, none⟩) (fun e => blk_type_ne h.r y1 (by decide) e) (fun x hx e => blk_type_ne h.r (h.t.o.f x hx).1 (by decide) e) (.slice (some ⟨g2, 0, none⟩) m m)
                unfold egT
                rw [← HN.out, ← HM.out]
                exact ⟨e1.rows (by omega), e2.rows (by omega)⟩)))
              clear HJ5 XR5 HB5
              go_wp2_with fail
              have q0 := HF2.out.1.cell 0 rfl
              have q1 := HF2.out.1.cell 1 rfl
              exact bodyPost_ret (v := .tuple #[.agg #[.slice (some ⟨g1, 0, none⟩) m m, .slice (some ⟨g2, 0, none⟩) m m], .int .i64 0]) (by simp [results, Try.results43, go_sem, q0, q1]) rfl (EE.out g1 g2 _ HF2.out.2.2 HF2.out.2.1)
end Go.Proofs.Ytmebpglkeedaoaa
namespace Go.Proofs.Ytmebpglkeedaoaa
open Go.RowKit Dp
set_option maxHeartbeats 4000000 in
set_option maxRecDepth 100000 in
theorem empty_c (m n : Nat) (w : World) (h8 : m ≤ 8) (h48 : n ≤ 48) :
    Calls Try.prog 88 #[.int .i64 m, .int .i64 n] w fun e w' => ∃ A1 A2 c1 c2 gI gO, e = .returned (.agg #[.slice A1 m c1, .slice A2 m c2]) ∧ EhJ w n m A1 c1 gI w' ∧ EhJ w n m A2 c2 gO w' ∧ (∀ k, OwnB A1 k → ¬ OwnB A2 k) ∧ (∀ p q, p < m → q < m → gI p ≠ gO q) ∧ Below w.heap.size w w' := by
  have hmk22 := make_64 n (by omega)
  obtain ⟨i22, h22i, h22z, h22s, h22b⟩ := info_parts info22
  have HJ0 : Hid (EmJ w n m 0 0 (w.heap.size + 1) w.heap.size none none 0 0 (fun _ => 0) (fun _ => 0) ((w.alloc (.cells #[.slice none 0 0, .slice none 0 0] 55)).alloc (.cells #[.slice none 0 0, .slice none 0 0] 55))) := Lib.hid ⟨by simpa using Blk.new' (w.alloc (.cells #[.slice none 0 0, .slice none 0 0] 55)) #[.slice none 0 0, .slice none 0 0] 55, (Blk.new' w #[.slice none 0 0, .slice none 0 0] 55).alloc _, EhJ.nil _ _ _ _, EhJ.nil _ _ _ _, (fun k h => by obtain ⟨_, e, _⟩ := h; cases e), fun p q hp => absurd hp (Nat.not_lt_zero _), by omega, ((Below.refl w.heap.size w).alloc (Nat.le_refl _) _).alloc (by simp) _, ⟨by omega, Nat.le_refl _⟩⟩
  go_enter Try.func88, Try.ntmps88
  go_upto_region 2 with fail
  (try simp only [World.size_alloc])
  generalize (w.alloc (.cells #[.slice none 0 0, .slice none 0 0] 55)).alloc (.cells #[.slice none 0 0, .slice none 0 0] 55) = w1 at HJ0 ⊢
  obtain ⟨gt, hgt⟩ : ∃ gt, gt = w.heap.size + 1 := ⟨_, rfl⟩
  obtain ⟨gr, hgr⟩ : ∃ gr, gr = w.heap.size := ⟨_, rfl⟩
  rw [← hgt, ← hgr] at HJ0
  have HGT := Lib.hid (And.intro hgt hgr)
  rw [← hgt, ← hgr]
  clear hgt hgr
  go_wp2_with fail
  go_loopw [6] (fun iv wr => ∃ i : Nat, i ≤ m ∧ iv = .int .i64 i ∧ Hid (∃ A1 A2 c1 c2 gI gO, EmJ w n m i i gt gr A1 A2 c1 c2 gI gO wr)) (fun iv _ => m - (intOf iv).toNat)
  case atStart => exact ⟨0, Nat.zero_le _, rfl, Lib.hid ⟨_, _, _, _, _, _, HJ0.out⟩⟩
  case round =>
    clear HJ0
    obtain ⟨i, hi, rfl, HJ⟩ := hrel
    obtain ⟨A1, A2, c1, c2, gI, gO, hj⟩ := HJ.out
    have HK := Lib.hid hj
    clear hj HJ
    by_cases hlt : i < m
    · have hii : (i : Int) < (m : Int) := by omega
      go_upto_region 5 with fail
      refine wp_region_spine 3 [true, true, false] [] ?af5 (fun V => EmJ w n m (i) (i) gt gr A1 A2 c1 c2 gI gO V) (by kernel_rfl) (by kernel_rfl) (HK.out.below (Below.refl _ _).drew) ?walk5 ?spine5
      case walk5 =>
        intro V hV
        have b0 := hV.b.cell 0 rfl
        have bl := hV.b.lt
        clear hV
        simp only [List.take_succ_cons, List.take_zero]
        repeat (go_big_quiet_step (fail))
        refine wpQuiet_nil ?_
        rfl
      case spine5 =>
        intro V hV
        have HV := Lib.hid hV
        clear hV HK
        refine spineV_cons ?_
        refine stepV_new (.cells (Array.replicate n (.int .i64 0)) 2) (fun b => .slice (some ⟨b, 0, none⟩) n n) (fun W => by unfold execOp; simp [hmk22, go_sem]) ?_
        have al := (Below.refl V.heap.size V).alloc (Nat.le_refl _) (.cells (Array.replicate n (.int .i64 0)) 2)
        have HF := Lib.hid (HV.out.fresh (Nat.le_refl _))
        have HV2 := Lib.hid (HV.out.below al)
        have HR := Lib.hid (fl_new 2 n V)
        refine ⟨fun _ => HV2.out, ?_⟩
        generalize V.alloc (.cells (Array.replicate n (.int .i64 0)) 2) = V2 at HV2 HR ⊢
        generalize V.heap.size = a at *
        clear al HV
        (try simp only [Act.put, List.setIfInBounds_toArray, List.set_cons_zero, List.set_cons_succ])
        refine spineV_cons ?_
        refine stepV_new (.cells #[.slice (some ⟨a, 0, none⟩) n n] 22) (fun b => .slice (some ⟨b, 0, none⟩) 1 1) (fun _ => by kernel_rfl) ?_
        have al := (Below.refl V2.heap.size V2).alloc (Nat.le_refl _) (.cells #[.slice (some ⟨a, 0, none⟩) n n] 22)
        have HV3 := Lib.hid (HV2.out.below al)
        have HR3 := Lib.hid (Fl.below HR.out al)
        have X3 := Lib.hid (Blk.new' V2 #[.slice (some ⟨a, 0, none⟩) n n] 22)
        refine ⟨fun _ => HV3.out, ?_⟩
        generalize V2.alloc (.cells #[.slice (some ⟨a, 0, none⟩) n n] 22) = V3 at HV3 HR3 X3 ⊢
        generalize V2.heap.size = g2 at *
        clear al HV2 HR
        (try simp only [Act.put, List.setIfInBounds_toArray, List.set_cons_zero, List.set_cons_succ])
        refine spineV_cons ?_
        refine stepV_append (.tmp 13) (.tmp 16) 53 rfl w.heap.size 22 i22 (.slice none 0 0) 1 24 Try.underlying53 h22i h22z h22s h22b rfl (by decide) A1 i c1 (slR n i gI) (by rfl) HV3.out.x.o (some ⟨g2, 0, none⟩) 1 1 [.slice (some ⟨a, 0, none⟩) n n] (by rfl) (by rfl) (.inr ⟨_, rfl, fun k u hk => by rcases k with _ | k <;> simp at hk; subst hk; exact X3.out.cell 0 rfl⟩) (by simp [Value.oneCell']) (by unfold maxLen; omega) (by omega) HV3.out.bel.size ?_
        intro A3 c3 V4 hown hgrow hat
        refine ⟨fun h => (by cases h), ?_⟩
        have BM := HV3.out.b.grown hgrow (blk_own_ne HV3.out.b HV3.out.x.o (by decide))
        have b0 := BM.cell 0 rfl
        have bz := BM.free 0
        have bl := BM.lt
        have HK5 := Lib.hid (HV3.out.addI hgrow hown hat HR3.out HF.out)
        clear hown hgrow hat HV3 HR3 X3 HF BM
        refine spineV_nil ?_
        go_upto_region 6 with fail
        clear b0 bz bl
        generalize V4.setCell ⟨gt, 0, none⟩ (.slice A3 (i + 1) c3) = w5 at HK5 ⊢
        refine wp_region_spine 3 [true, true, false] [] ?af6 (fun V => EmJ w n m (i + 1) (i) gt gr A3 A2 c3 c2 (upd gI i a) gO V) (by kernel_rfl) (by kernel_rfl) (HK5.out.below (Below.refl _ _).drew) ?walk6 ?spine6
        case walk6 =>
          intro V hV
          have b0 := hV.b.cell 1 rfl
          have bl := hV.b.lt
          clear hV
          simp only [List.take_succ_cons, List.take_zero]
          repeat (go_big_quiet_step (fail))
          refine wpQuiet_nil ?_
          rfl
        case spine6 =>
          intro V hV
          have HV := Lib.hid hV
          clear hV HK5
          refine spineV_cons ?_
          refine stepV_new (.cells (Array.replicate n (.int .i64 0)) 2) (fun b => .slice (some ⟨b, 0, none⟩) n n) (fun W => by unfold execOp; simp [hmk22, go_sem]) ?_
          have al := (Below.refl V.heap.size V).alloc (Nat.le_refl _) (.cells (Array.replicate n (.int .i64 0)) 2)
          have HF := Lib.hid (HV.out.fresh (Nat.le_refl _))
          have HV2 := Lib.hid (HV.out.below al)
          have HR := Lib.hid (fl_new 2 n V)
          refine ⟨fun _ => HV2.out, ?_⟩
          generalize V.alloc (.cells (Array.replicate n (.int .i64 0)) 2) = V2 at HV2 HR ⊢
          generalize V.heap.size = a at *
          clear al HV
          (try simp only [Act.put, List.setIfInBounds_toArray, List.set_cons_zero, List.set_cons_succ])
          refine spineV_cons ?_
          refine stepV_new (.cells #[.slice (some ⟨a, 0, none⟩) n n] 22) (fun b => .slice (some ⟨b, 0, none⟩) 1 1) (fun _ => by kernel_rfl) ?_
          have al := (Below.refl V2.heap.size V2).alloc (Nat.le_refl _) (.cells #[.slice (some ⟨a, 0, none⟩) n n] 22)
          have HV3 := Lib.hid (HV2.out.below al)
          have HR3 := Lib.hid (Fl.below HR.out al)
          have X3 := Lib.hid (Blk.new' V2 #[.slice (some ⟨a, 0, none⟩) n n] 22)
          refine ⟨fun _ => HV3.out, ?_⟩
          generalize V2.alloc (.cells #[.slice (some ⟨a, 0, none⟩) n n] 22) = V3 at HV3 HR3 X3 ⊢
          generalize V2.heap.size = g2 at *
          clear al HV2 HR
          (try simp only [Act.put, List.setIfInBounds_toArray, List.set_cons_zero, List.set_cons_succ])
          refine spineV_cons ?_
          refine stepV_append (.tmp 20) (.tmp 23) 53 rfl w.heap.size 22 i22 (.slice none 0 0) 1 24 Try.underlying53 h22i h22z h22s h22b rfl (by decide) A2 i c2 (slR n i gO) (by rfl) HV3.out.y.o (some ⟨g2, 0, none⟩) 1 1 [.slice (some ⟨a, 0, none⟩) n n] (by rfl) (by rfl) (.inr ⟨_, rfl, fun k u hk => by rcases k with _ | k <;> simp at hk; subst hk; exact X3.out.cell 0 rfl⟩) (by simp [Value.oneCell']) (by unfold maxLen; omega) (by omega) HV3.out.bel.size ?_
          intro A4 c4 V4 hown hgrow hat
          refine ⟨fun h => (by cases h), ?_⟩
          have BM := HV3.out.b.grown hgrow (blk_own_ne HV3.out.b HV3.out.y.o (by decide))
          have b0 := BM.cell 1 rfl
          have bz := BM.free 1
          have bl := BM.lt
          have HK6 := Lib.hid (HV3.out.addO hgrow hown hat HR3.out HF.out)
          clear hown hgrow hat HV3 HR3 X3 HF BM
          refine spineV_nil ?_
          go_upto_region 4 with fail
          clear b0 bz bl
          generalize V4.setCell ⟨gt, 1, none⟩ (.slice A4 (i + 1) c4) = w6 at HK6 ⊢
          go_wp2_with fail
          exact ⟨⟨i + 1, by omega, by go_num, Lib.hid ⟨_, _, _, _, _, _, HK6.out⟩⟩, by simp [intOf]; omega⟩
    · obtain rfl : m = i := by omega
      have b0 := HK.out.b.cell 0 rfl
      have b1 := HK.out.b.cell 1 rfl
      have bl := HK.out.b.lt
      have r0 := HK.out.r.cell 0 rfl
      have r1 := HK.out.r.cell 1 rfl
      have rz := HK.out.r.free 0
      have rz1 := HK.out.r.free 1
      have rl := HK.out.r.lt
      have rne := HK.out.ne
      have R1 := HK.out.r.setCell 0 (.slice A1 m c1)
      have HF := Lib.hid (And.intro (R1.setCell 1 (.slice A2 m c2)) (And.intro ((HK.out.x.set (p := ⟨gr, 0, none⟩) HK.out.r (by decide) (by decide) (.slice A1 m c1)).set (p := ⟨gr, 1, none⟩) R1 (by decide) (by decide) (.slice A2 m c2)) (And.intro ((HK.out.y.set (p := ⟨gr, 0, none⟩) HK.out.r (by decide) (by decide) (.slice A1 m c1)).set (p := ⟨gr, 1, none⟩) R1 (by decide) (by decide) (.slice A2 m c2)) ((HK.out.bel.setCell (p := ⟨gr, 0, none⟩) HK.out.ge.2 (.slice A1 m c1)).setCell (p := ⟨gr, 1, none⟩) HK.out.ge.2 (.slice A2 m c2)))))
      have HD := Lib.hid (And.intro HK.out.d HK.out.dis)
      clear R1 HK
      go_wp2_with fail
      have q0 := HF.out.1.cell 0 rfl
      have q1 := HF.out.1.cell 1 rfl
      exact bodyPost_ret (v := .agg #[.slice A1 m c1, .slice A2 m c2]) (by simp [results, Try.results88, go_sem, q0, q1]) rfl ⟨A1, A2, c1, c2, gI, gO, rfl, HF.out.2.1, HF.out.2.2.1, HD.out.1, HD.out.2, HF.out.2.2.2⟩
end Go.Proofs.Ytmebpglkeedaoaa
namespace Go.Proofs.Ytmebpglkeedaoaa
open Go.RowKit Dp
theorem zeroRow_bd (n : Nat) : RowBd n (List.replicate n 0) := ⟨by simp, fun k hk => by simp [List.getD_eq_getElem?_getD, hk]⟩
theorem egRow_bd {S : Site} {cs : List Car} (h : stE S cs = 0) {i : Nat} (hi : i < cs.length) (n K : Nat) : RowBd n (rowK (egX S cs i) n K) := ⟨rowK_len _ _ _, fun k hk => by
  rw [rowK_get hk]
  have := egX_bd h hi k
  split <;> omega⟩
set_option maxHeartbeats 16000000 in
set_option maxRecDepth 100000 in
theorem EagerR_c (A B C D E : Option Addr) (S : Site) (cs : List Car) (n nB nC nD m cA cB cC cD cE : Nat) (w : World) (hn : n = S.lim.length) (hnB : nB = S.exp.length) (hnC : nC = S.buy.length) (hnD : nD = S.sell.length) (hm : m = cs.length)
    (hA : n ≤ cA ∧ cA ≤ 9223372036854775807) (hB : nB ≤ cB ∧ cB ≤ 9223372036854775807) (hC : nC ≤ cC ∧ cC ≤ 9223372036854775807) (hD : nD ≤ cD ∧ cD ≤ 9223372036854775807) (hE : m ≤ cE ∧ cE ≤ 9223372036854775807)
    (hS : SiteAt w A B C D S) (hcs : CarsAt w E cs) :
    Calls Try.prog 44 #[.agg #[.slice A n cA, .slice B nB cB, .slice C nC cC, .slice D nD cD], .slice E m cE] w (EgP S cs w) := by
  have HN := Lib.hid hn
  have HM := Lib.hid hm
  have HS := Lib.hid hS
  have HCS := Lib.hid hcs
  have F36 : Hid (∀ V, Below w.heap.size w V → Calls Try.prog 31 #[.agg #[.slice A n cA, .slice B nB cB, .slice C nC cC, .slice D nD cD], .slice E m cE] V fun e w' => e = .returned (.int .i64 (stE S cs)) ∧ Below V.heap.size V w') := Lib.hid (fun V hV => CheckSiteR_c A B C D E S cs n nB nC nD m cA cB cC cD cE V hn hnB hnC hnD hm hA hB hC hD hE (hS.below hV (Nat.le_refl _)) (hcs.below hV (Nat.le_refl _)))
  have F32 : Hid (∀ V A1 A2 c1 c2, (m ≤ c1 ∧ c1 ≤ 9223372036854775807) → (m ≤ c2 ∧ c2 ≤ 9223372036854775807) → Below w.heap.size w V → TabAt V A1 A2 (egT S cs) → Calls Try.prog 41 #[.agg #[.slice A n cA, .slice B nB cB, .slice C nC cC, .slice D nD cD], .slice E m cE, .agg #[.slice A1 m c1, .slice A2 m c2]] V fun e w' => e = .returned (.int .i64 (plE S cs (egT S cs))) ∧ Below V.heap.size V w') := Lib.hid (fun V A1 A2 c1 c2 k1 k2 hV hT => CheckPlanR_c A B C D E A1 A2 S cs (egT S cs) n nB nC nD m m m cA cB cC cD cE c1 c2 V hn hnB hnC hnD hm (by rw [hm]; simp [egT]) (by rw [hm]; simp [egT]) hA hB hC hD hE k1 k2 (hS.below hV (Nat.le_refl _)) (hcs.below hV (Nat.le_refl _)) hT)
  have HP1 : Hid (stE S cs = 0 → plE S cs (egT S cs) = 0 → ∀ A1 A2 c1 c2 w', (m ≤ c1 ∧ c1 ≤ 9223372036854775807) → (m ≤ c2 ∧ c2 ≤ 9223372036854775807) → TabAt w' A1 A2 (egT S cs) → Below w.heap.size w w' → EgP S cs w (.returned (.tuple #[.agg #[.slice A1 m c1, .slice A2 m c2], .int .i64 0])) w') := Lib.hid (fun h h2 A1 A2 c1 c2 w' k1 k2 ht hb => .inl ⟨by unfold egE; rw [if_pos h, if_pos h2], A1, A2, c1, c2, by rw [hm], ht, by omega, by omega, hb⟩)
  have HP2 : Hid (stE S cs ≠ 0 → ∀ w', Below w.heap.size w w' → EgP S cs w (.returned (.tuple #[.agg #[.slice none 0 0, .slice none 0 0], .int .i64 (stE S cs)])) w') := Lib.hid (fun h w' hb => .inr ⟨by unfold egE; rw [if_neg h]; exact h, by unfold egE; rw [if_neg h], hb⟩)
  have HP3 : Hid (stE S cs = 0 → plE S cs (egT S cs) ≠ 0 → ∀ w', Below w.heap.size w w' → EgP S cs w (.returned (.tuple #[.agg #[.slice none 0 0, .slice none 0 0], .int .i64 18])) w') := Lib.hid (fun h h2 w' hb => .inr ⟨by unfold egE; rw [if_pos h, if_neg h2]; decide, by unfold egE; rw [if_pos h, if_neg h2], hb⟩)
  obtain ⟨v, hv⟩ : ∃ v, v = stE S cs := ⟨_, rfl⟩
  rw [← hv] at F36 HP1 HP2 HP3
  have HV := Lib.hid hv
  clear hv hn hnB hnC hnD hm hS hcs
  generalize EgP S cs w = POST at *
  have HB := Lib.hid (((Below.refl w.heap.size w).alloc (Nat.le_refl _) (.cells #[.slice A n cA, .slice B nB cB, .slice C nC cC, .slice D nD cD] 51)).alloc (by simp) (.cells #[.slice none 0 0, .slice none 0 0] 55))
  have XS := Lib.hid ((Blk.new' w #[.slice A n cA, .slice B nB cB, .slice C nC cC, .slice D nD cD] 51).alloc (.cells #[.slice none 0 0, .slice none 0 0] 55))
  have XR := Lib.hid (show Blk ((w.alloc (.cells #[.slice A n cA, .slice B nB cB, .slice C nC cC, .slice D nD cD] 51)).alloc (.cells #[.slice none 0 0, .slice none 0 0] 55)) (w.heap.size + 1) 55 [.slice none 0 0, .slice none 0 0] from by simpa using Blk.new' (w.alloc (.cells #[.slice A n cA, .slice B nB cB, .slice C nC cC, .slice D nD cD] 51)) #[.slice none 0 0, .slice none 0 0] 55)
  go_enter Try.func44, Try.ntmps44
  go_upto_region 1 with fail
  (try simp only [World.size_alloc])
  generalize (w.alloc (.cells #[.slice A n cA, .slice B nB cB, .slice C nC cC, .slice D nD cD] 51)).alloc (.cells #[.slice none 0 0, .slice none 0 0] 55) = w1 at HB XS XR ⊢
  have s0 := XS.out.cell 0 rfl
  have s1 := XS.out.cell 1 rfl
  have s2 := XS.out.cell 2 rfl
  have s3 := XS.out.cell 3 rfl
  have sl := XS.out.lt
  go_wp2_with fail
  refine (F36.out w1 HB.out).mono ?_
  rintro e w2 ⟨rfl, hb⟩
  clear s0 s1 s2 s3 sl
  have HB2 := Lib.hid (HB.out.trans (hb.mono HB.out.size))
  have XS2 := Lib.hid (XS.out.below hb XS.out.lt)
  have XR2 := Lib.hid (XR.out.below hb XR.out.lt)
  clear hb HB XS XR
  have HGR : Hid (w.heap.size ≤ w.heap.size + 1) := Lib.hid (by omega)
  generalize w.heap.size + 1 = gr at *
  by_cases h0 : v = 0
  rotate_left
  · have hb0 : (v == 0) = false := by simpa using h0
    have EE := Lib.hid (HP2.out h0)
    have s0 := XS2.out.cell 0 rfl
    have s1 := XS2.out.cell 1 rfl
    have s2 := XS2.out.cell 2 rfl
    have s3 := XS2.out.cell 3 rfl
    have sl := XS2.out.lt
    go_wp2_with fail
    refine (F36.out w2 HB2.out).mono ?_
    rintro e w3 ⟨rfl, hb⟩
    clear s0 s1 s2 s3 sl
    have HB3 := Lib.hid (HB2.out.trans (hb.mono HB2.out.size))
    have XR3 := Lib.hid (XR2.out.below hb XR2.out.lt)
    clear hb
    have r0 := XR3.out.cell 0 rfl
    have r1 := XR3.out.cell 1 rfl
    have rz := XR3.out.free 0
    have rz1 := XR3.out.free 1
    have rl := XR3.out.lt
    have HF := Lib.hid (And.intro ((XR3.out.setCell 0 (.slice none 0 0)).setCell 1 (.slice none 0 0)) (((HB3.out.setCell (p := ⟨gr, 0, none⟩) HGR.out (.slice none 0 0)).setCell (p := ⟨gr, 1, none⟩) HGR.out (.slice none 0 0))))
    go_wp2_with fail
    have q0 := HF.out.1.cell 0 rfl
    have q1 := HF.out.1.cell 1 rfl
    exact bodyPost_ret (v := .tuple #[.agg #[.slice none 0 0, .slice none 0 0], .int .i64 v]) (by simp [results, Try.results44, go_sem, q0, q1]) rfl (EE.out _ HF.out.2)
  subst h0
  have HZ : Hid (stE S cs = 0) := Lib.hid HV.out.symm
  clear HV HP2 F36
  have h48 : n ≤ 48 := by have h3 := (siteHead_iff.1 (stE_0 HZ.out).2.1).1; have := HN.out; omega
  have h8 : m ≤ 8 := by have := (stE_0 HZ.out).1; have := HM.out; omega
  have s0 := XS2.out.cell 0 rfl
  have s1 := XS2.out.cell 1 rfl
  have s2 := XS2.out.cell 2 rfl
  have s3 := XS2.out.cell 3 rfl
  have sl := XS2.out.lt
  go_wp2_with fail
  refine (empty_c m n w2 h8 h48).mono ?_
  rintro e w3 ⟨A1, A2, c1, c2, gI, gO, rfl, hx, hy, hd, hdis, hb⟩
  clear s0 s1 s2 s3 sl
  have al := (Below.refl w3.heap.size w3).alloc (Nat.le_refl _) (.cells #[.slice A1 m c1, .slice A2 m c2] 55)
  have HJ0 : Hid (RfJ w n m w3.heap.size gr A1 A2 c1 c2 [.slice A n cA, .slice B nB cB, .slice C nC cC, .slice D nD cD] (fun _ => List.replicate n 0) (w3.alloc (.cells #[.slice A1 m c1, .slice A2 m c2] 55))) := Lib.hid (RfJ.start (Blk.new' w3 #[.slice A1 m c1, .slice A2 m c2] 55) ((XR2.out.below hb XR2.out.lt).alloc _) ((XS2.out.below hb XS2.out.lt).alloc _) (by have := XR2.out.lt; have := hb.size; omega) ⟨by have := HB2.out.size; have := hb.size; omega, HGR.out⟩ ((HB2.out.trans (hb.mono HB2.out.size)).trans (al.mono (HB2.out.trans (hb.mono HB2.out.size)).size)) HB2.out.size (hx.below al) (hy.below al) hd hdis)
  clear hx hy hd hdis hb al
  go_upto_region 5 with fail
  generalize w3.alloc (.cells #[.slice A1 m c1, .slice A2 m c2] 55) = w4 at HJ0 ⊢
  generalize w3.heap.size = gt at *
  have HJ0 : Hid (RfJ w n m gt gr A1 A2 c1 c2 [.slice A n cA, .slice B nB cB, .slice C nC cC, .slice D nD cD] (fun x => rowK (egX S cs x) n 0) w4) := Lib.hid (HJ0.out.rows (fun x _ => rowK_zero _ _))
  go_wp2_with fail
  go_loopw [8] (fun iv wr => ∃ k : Nat, k ≤ n ∧ iv = .int .i64 k ∧ Hid (RfJ w n m gt gr A1 A2 c1 c2 [.slice A n cA, .slice B nB cB, .slice C nC cC, .slice D nD cD] (fun x => rowK (egX S cs x) n k) wr)) (fun iv _ => n - (intOf iv).toNat)
  case atStart => exact ⟨0, Nat.zero_le _, rfl, HJ0⟩
  case round =>
    clear HJ0
    obtain ⟨k, hk, rfl, HJ⟩ := hrel
    by_cases hlt : k < n
    · have hki : (k : Int) < (n : Int) := by omega
      have kS : k < S.lim.length := by rw [← HN.out]; exact hlt
      have s0 := HJ.out.s.cell 0 rfl
      have sl := HJ.out.s.lt
      obtain ⟨la, hla, lal, lx⟩ := (HS.out.below HJ.out.bel (Nat.le_refl _)).1 k kS
      rw [hla] at s0
      have la2 : (la.add k).block < wr.heap.size := by rw [block_add]; exact lal
      rw [show S.lim.getD k 0 = egV S cs k 0 from rfl] at lx
      have HJ0 : Hid (RfJ w n m gt gr A1 A2 c1 c2 [.slice A n cA, .slice B nB cB, .slice C nC cC, .slice D nD cD] (rwC S cs n k 0) wr) := Lib.hid (HJ.out.rows (fun x _ => rwC_zero S cs n k x))
      clear HJ
      generalize hv0 : egV S cs k 0 = lf0 at lx
      have HV0 := Lib.hid hv0
      clear hv0 hla
      go_wp2_with fail
      clear s0 sl lx la2 lal
      go_loopw [9, 10] (fun lv iv wr => ∃ i : Nat, i ≤ m ∧ iv = .int .i64 i ∧ lv = .int .i64 (egV S cs k i) ∧ Hid (RfJ w n m gt gr A1 A2 c1 c2 [.slice A n cA, .slice B nB cB, .slice C nC cC, .slice D nD cD] (rwC S cs n k i) wr)) (fun _ iv _ => m - (intOf iv).toNat)
      case atStart => exact ⟨0, Nat.zero_le _, rfl, by rw [HV0.out], HJ0⟩
      case round =>
        clear HJ0
        obtain ⟨i, hi, rfl, rfl, HJ⟩ := hrel
        by_cases hlt2 : i < m
        · have hii : (i : Int) < (m : Int) := by omega
          have il : i < cs.length := by rw [← HM.out]; exact hlt2
          obtain ⟨ad, hE2, abl, c0, c1b, c2b, c3, c4, TT, cT, c5, hcT, HTT⟩ := (HCS.out.below HJ.out.bel (Nat.le_refl _)) i il
          subst hE2
          have HTR := Lib.hid HTT
          clear HTT
          have b1 := egL_bd HZ.out il k
          have b2 := egV_bd HZ.out kS i (by omega)
          have b3 := egX_bd HZ.out il k
          have b5 := (carOk_iff.1 (carok_of HZ.out il)).1
          have HOK := Lib.hid (carok_of HZ.out il)
          rw [← HN.out] at HOK
          have HXD := Lib.hid (show egX S cs i k = if awayC (cs.getD i default) k = true then 0 else max 0 (min (min (cs.getD i default).inn ((cs.getD i default).cap - egL S cs k i)) (egV S cs k i)) from rfl)
          have HVN := Lib.hid (egV_succ S cs k i)
          have HRS := Lib.hid (rwC_set S cs (n := n) (k := k) (i := i) hlt)
          have HRK := Lib.hid (rwC_skip S cs (n := n) (k := k) (i := i) hlt)
          have HRB : Hid (RowBd n (rwC S cs n k i i)) := Lib.hid (by unfold rwC; exact egRow_bd HZ.out il n _)
          have HLL : Hid (lev (cs.getD i default) (rwC S cs n k i i) (List.replicate n 0) k = egL S cs k i) := Lib.hid (by unfold rwC; rw [if_neg (by omega)]; exact egL_lev hk k (Nat.le_refl _))
          generalize hcc : cs.getD i default = c at *
          clear hcc
          obtain ⟨cap, inn, out, start, fin, trips⟩ := c
          simp only at c0 c1b c2b c3 c4 c5 hcT HTR b5 HXD
          obtain ⟨qn, hqn⟩ : ∃ qn, qn = trips.length := ⟨_, rfl⟩
          rw [← hqn] at c5 hcT
          have HQN := Lib.hid hqn
          clear hqn
          obtain ⟨aw, haw⟩ : ∃ aw, aw = awayC ⟨cap, inn, out, start, fin, trips⟩ k := ⟨_, rfl⟩
          have HAC : Hid (∀ V, Below wr.heap.size wr V → Calls Try.prog 84 #[.agg #[.int .i64 cap, .int .i64 inn, .int .i64 out, .int .i64 start, .int .i64 fin, .slice TT qn cT], .int .i64 ((k : Nat) : Int)] V fun e w' => e = .returned (.bool aw) ∧ Below V.heap.size V w') := Lib.hid (fun V hV => by
            have := away_c (.int .i64 cap) (.int .i64 inn) (.int .i64 out) (.int .i64 start) (.int .i64 fin) k TT trips qn cT V HQN.out hcT (HTR.out.below hV (Nat.le_refl _))
            rw [haw, show awayC ⟨cap, inn, out, start, fin, trips⟩ k = awayP trips k qn from by rw [HQN.out]; rfl]
            exact this)
          rw [← haw] at HXD
          clear haw
          obtain ⟨g1, g2, gI, gO, eA1, eA2, htb⟩ := HJ.out.rw (by omega)
          have HTB := Lib.hid htb
          have HE12 := Lib.hid (And.intro eA1 eA2)
          clear htb eA1 eA2
          have HLC : Hid (∀ V, Below wr.heap.size wr V → Calls Try.prog 83 #[.agg #[.int .i64 cap, .int .i64 inn, .int .i64 out, .int .i64 start, .int .i64 fin, .slice TT qn cT], .slice (some ⟨gI i, 0, none⟩) n n, .slice (some ⟨gO i, 0, none⟩) n n] V fun e w' => ∃ g c, e = .returned (.slice (some ⟨g, 0, none⟩) (n + 1) c) ∧ OwnI V.heap.size w' g c (lvN ⟨cap, inn, out, start, fin, trips⟩ (rwC S cs n k i i) (List.replicate n 0) (n + 1)) ∧ Below V.heap.size V w') := Lib.hid (fun V hV => levelsR_c cap inn out start fin trips (rwC S cs n k i i) (List.replicate n 0) TT _ _ qn n cT n n V HQN.out hcT (HTR.out.below hV (Nat.le_refl _)) HOK.out h48 ⟨Nat.le_refl _, by omega⟩ ⟨Nat.le_refl _, by omega⟩ ((HTB.out.i.f i hlt2).1.below hV).ints ((HTB.out.o.f i hlt2).1.below hV).ints HRB.out (zeroRow_bd n))
          generalize egX S cs i k = x at *
          generalize hll : lev ⟨cap, inn, out, start, fin, trips⟩ (rwC S cs n k i i) (List.replicate n 0) k = ll at HLL
          have HLQ := Lib.hid hll
          clear hll
          generalize egL S cs k i = l at *
          generalize egV S cs k i = lf at *
          go_upto_region 13 with fail
          have al := (Below.refl wr.heap.size wr).alloc (Nat.le_refl _) (.cells #[.int .i64 cap, .int .i64 inn, .int .i64 out, .int .i64 start, .int .i64 fin, .slice TT qn cT] 63)
          have HK := Lib.hid (HJ.out.below al)
          have HB1 := Lib.hid (HTB.out.below al)
          have HC := Lib.hid (Blk.new' wr #[.int .i64 cap, .int .i64 inn, .int .i64 out, .int .i64 start, .int .i64 fin, .slice TT qn cT] 63)
          have HWX := Lib.hid al
          clear c0 c1b c2b c3 c4 c5 abl al HJ HTB
          generalize wr.alloc (.cells #[.int .i64 cap, .int .i64 inn, .int .i64 out, .int .i64 start, .int .i64 fin, .slice TT qn cT] 63) = wx at HK HB1 HC HWX ⊢
          obtain ⟨gc, hgc⟩ : ∃ gc, gc = wr.heap.size := ⟨_, rfl⟩
          rw [← hgc] at HC ⊢
          clear hgc
          have e0 := HC.out.cell 0 rfl
          have e1 := HC.out.cell 1 rfl
          have e2 := HC.out.cell 2 rfl
          have e3 := HC.out.cell 3 rfl
          have e4 := HC.out.cell 4 rfl
          have e5 := HC.out.cell 5 rfl
          have el := HC.out.lt
          go_wp2_with fail
          refine (HAC.out wx HWX.out).mono ?_
          rintro e w4 ⟨rfl, hb⟩
          have HK4 := Lib.hid (HK.out.below hb)
          have HB4 := Lib.hid (HB1.out.below hb)
          have HC4 := Lib.hid (HC.out.below hb HC.out.lt)
          have HW4 := Lib.hid (HWX.out.trans (hb.mono HWX.out.size))
          clear hb HAC HK HC HB1 e0 e1 e2 e3 e4 e5 el HWX
          cases aw
          rotate_left
          · simp only [if_true] at HXD
            have hx0 : x = 0 := HXD.out
            have HKg : Hid (RfJ w n m gt gr A1 A2 c1 c2 [.slice A n cA, .slice B nB cB, .slice C nC cC, .slice D nD cD] (rwC S cs n k (i + 1)) w4) := Lib.hid (HK4.out.rows (fun y _ => (HRK.out hx0 y).symm))
            have HVE : Hid (egV S cs k (i + 1) = lf) := Lib.hid (by rw [HVN.out]; omega)
            clear HC4 hx0
            go_wp2_with fail
            go_roundw
            case measure => simp [intOf]; omega
            case rel => exact ⟨i + 1, by omega, by go_num, by rw [HVE.out], HKg⟩
          · simp only [Bool.false_eq_true, if_false] at HXD
            have cle : IntKind.i64.wrap (cap - l) = cap - l := IntWalk.i64_in _ (by omega)
            have hm1 := fun ts t W => min3_run inn (cap - l) lf ts t W
            obtain ⟨mn, hmn⟩ : ∃ mn, mn = min (min inn (cap - l)) lf := ⟨_, rfl⟩
            rw [← hmn] at HXD
            simp only [← hmn] at hm1
            have hm2 := fun ts t W => maxTwo 0 mn ts t W
            simp only [← HXD.out] at hm2
            clear hmn
            have RD : Hid (∀ W, Below w4.heap.size w4 W → (W.cell? ⟨gt, 0, none⟩ = some (.slice (some ⟨g1, 0, none⟩) m c1) ∧ W.cell? ⟨gt, 1, none⟩ = some (.slice (some ⟨g2, 0, none⟩) m c2) ∧ W.cell? ⟨g1, i, none⟩ = some (.slice (some ⟨gI i, 0, none⟩) n n) ∧ W.cell? ⟨g2, i, none⟩ = some (.slice (some ⟨gO i, 0, none⟩) n n) ∧ W.cell? ⟨gc, 0, none⟩ = some (.int .i64 cap) ∧ W.cell? ⟨gc, 1, none⟩ = some (.int .i64 inn) ∧ W.cell? ⟨gc, 2, none⟩ = some (.int .i64 out) ∧ W.cell? ⟨gc, 3, none⟩ = some (.int .i64 start) ∧ W.cell? ⟨gc, 4, none⟩ = some (.int .i64 fin) ∧ W.cell? ⟨gc, 5, none⟩ = some (.slice TT qn cT))) := Lib.hid (fun W h => by
              have t := HB4.out.below h
              have c := HC4.out.below h HC4.out.lt
              exact ⟨t.b.cell 0 rfl, t.b.cell 1 rfl, t.i.cell i hlt2, t.o.cell i hlt2, c.cell 0 rfl, c.cell 1 rfl, c.cell 2 rfl, c.cell 3 rfl, c.cell 4 rfl, c.cell 5 rfl⟩)
            have hkn1 : (k : Int) < (n : Int) + 1 := by omega
            go_upto_region 14 with fail
            have HT := Lib.hid (Below.refl w4.heap.size w4).drew
            refine lBegin (S := fun _ W => ((W.cell? ⟨gt, 0, none⟩ = some (.slice (some ⟨g1, 0, none⟩) m c1) ∧ W.cell? ⟨gt, 1, none⟩ = some (.slice (some ⟨g2, 0, none⟩) m c2) ∧ W.cell? ⟨g1, i, none⟩ = some (.slice (some ⟨gI i, 0, none⟩) n n) ∧ W.cell? ⟨g2, i, none⟩ = some (.slice (some ⟨gO i, 0, none⟩) n n) ∧ W.cell? ⟨gc, 0, none⟩ = some (.int .i64 cap) ∧ W.cell? ⟨gc, 1, none⟩ = some (.int .i64 inn) ∧ W.cell? ⟨gc, 2, none⟩ = some (.int .i64 out) ∧ W.cell? ⟨gc, 3, none⟩ = some (.int .i64 start) ∧ W.cell? ⟨gc, 4, none⟩ = some (.int .i64 fin) ∧ W.cell? ⟨gc, 5, none⟩ = some (.slice TT qn cT)))) (by kernel_rfl) ?_ (fun hHeld => ?_)
            · (try dsimp only); (with_reducible exact RD.out _ HT.out)
            refine lTake (i := 0) (v := ?_) rfl (by kernel_rfl) (by kernel_rfl) (by kernel_rfl) (fun _ _ _ h => h) (by rfl) (fun _ _ h => h) (fun _ _ h => h) ?_ (by assumption) (fun hHeld2 => ?_)
            rotate_left 1
            · (intro _ _ _ _ _; first | (go_simp; done) | (go_simp; with_reducible rfl))
            clear hHeld; have hHeld := hHeld2; clear hHeld2
            (try simp only [Act.put, List.setIfInBounds_toArray, List.set_cons_zero, List.set_cons_succ])
            refine lTake (i := 1) (v := ?_) rfl (by kernel_rfl) (by kernel_rfl) (by kernel_rfl) (fun _ _ _ h => h) (by rfl) (fun _ _ h => h) (fun _ _ h => h) ?_ (by assumption) (fun hHeld2 => ?_)
            rotate_left 1
            · (intro L W _ _ hSw; (try dsimp only at hSw); first | (go_simp; done) | (go_simp; with_reducible rfl))
            clear hHeld; have hHeld := hHeld2; clear hHeld2
            (try simp only [Act.put, List.setIfInBounds_toArray, List.set_cons_zero, List.set_cons_succ])
            refine lTake (i := 2) (v := ?_) rfl (by kernel_rfl) (by kernel_rfl) (by kernel_rfl) (fun _ _ _ h => h) (by rfl) (fun _ _ h => h) (fun _ _ h => h) ?_ (by assumption) (fun hHeld2 => ?_)
            rotate_left 1
            · (intro _ _ _ _ _; first | (go_simp; done) | (go_simp; with_reducible rfl))
            clear hHeld; have hHeld := hHeld2; clear hHeld2
            (try simp only [Act.put, List.setIfInBounds_toArray, List.set_cons_zero, List.set_cons_succ])
            refine lTake (i := 3) (v := ?_) rfl (by kernel_rfl) (by kernel_rfl) (by kernel_rfl) (fun _ _ _ h => h) (by rfl) (fun _ _ h => h) (fun _ _ h => h) ?_ (by assumption) (fun hHeld2 => ?_)
            rotate_left 1
            · (intro L W _ _ hSw; (try dsimp only at hSw); first | (go_simp; done) | (go_simp; with_reducible rfl))
            clear hHeld; have hHeld := hHeld2; clear hHeld2
            (try simp only [Act.put, List.setIfInBounds_toArray, List.set_cons_zero, List.set_cons_succ])
            refine lTake (i := 4) (v := ?_) rfl (by kernel_rfl) (by kernel_rfl) (by kernel_rfl) (fun _ _ _ h => h) (by rfl) (fun _ _ h => h) (fun _ _ h => h) ?_ (by assumption) (fun hHeld2 => ?_)
            rotate_left 1
            · (intro L W _ _ hSw; (try dsimp only at hSw); first | (go_simp; done) | (go_simp; with_reducible rfl))
            clear hHeld; have hHeld := hHeld2; clear hHeld2
            (try simp only [Act.put, List.setIfInBounds_toArray, List.set_cons_zero, List.set_cons_succ])
            refine lTake (i := 5) (v := ?_) rfl (by kernel_rfl) (by kernel_rfl) (by kernel_rfl) (fun _ _ _ h => h) (by rfl) (fun _ _ h => h) (fun _ _ h => h) ?_ (by assumption) (fun hHeld2 => ?_)
            rotate_left 1
            · (intro _ _ _ _ _; first | (go_simp; done) | (go_simp; with_reducible rfl))
            clear hHeld; have hHeld := hHeld2; clear hHeld2
            (try simp only [Act.put, List.setIfInBounds_toArray, List.set_cons_zero, List.set_cons_succ])
            refine lTake (i := 6) (v := ?_) rfl (by kernel_rfl) (by kernel_rfl) (by kernel_rfl) (fun _ _ _ h => h) (by rfl) (fun _ _ h => h) (fun _ _ h => h) ?_ (by assumption) (fun hHeld2 => ?_)
            rotate_left 1
            · (intro L W _ _ hSw; (try dsimp only at hSw); first | (go_simp; done) | (go_simp; with_reducible rfl))
            clear hHeld; have hHeld := hHeld2; clear hHeld2
            (try simp only [Act.put, List.setIfInBounds_toArray, List.set_cons_zero, List.set_cons_succ])
            refine lTake (i := 7) (v := ?_) rfl (by kernel_rfl) (by kernel_rfl) (by kernel_rfl) (fun _ _ _ h => h) (by rfl) (fun _ _ h => h) (fun _ _ h => h) ?_ (by assumption) (fun hHeld2 => ?_)
            rotate_left 1
            · (intro _ _ _ _ _; first | (go_simp; done) | (go_simp; with_reducible rfl))
            clear hHeld; have hHeld := hHeld2; clear hHeld2
            (try simp only [Act.put, List.setIfInBounds_toArray, List.set_cons_zero, List.set_cons_succ])
            refine lTake (i := 8) (v := ?_) rfl (by kernel_rfl) (by kernel_rfl) (by kernel_rfl) (fun _ _ _ h => h) (by rfl) (fun _ _ h => h) (fun _ _ h => h) ?_ (by assumption) (fun hHeld2 => ?_)
            rotate_left 1
            · (intro _ _ _ _ _; first | (go_simp; done) | (go_simp; with_reducible rfl))
            clear hHeld; have hHeld := hHeld2; clear hHeld2
            (try simp only [Act.put, List.setIfInBounds_toArray, List.set_cons_zero, List.set_cons_succ])
            refine lTake (i := 9) (v := ?_) rfl (by kernel_rfl) (by kernel_rfl) (by kernel_rfl) (fun _ _ _ h => h) (by rfl) (fun _ _ h => h) (fun _ _ h => h) ?_ (by assumption) (fun hHeld2 => ?_)
            rotate_left 1
            · (intro L W _ _ hSw; (try dsimp only at hSw); first | (go_simp; done) | (go_simp; with_reducible rfl))
            clear hHeld; have hHeld := hHeld2; clear hHeld2
            (try simp only [Act.put, List.setIfInBounds_toArray, List.set_cons_zero, List.set_cons_succ])
            refine lTake (i := 10) (v := ?_) rfl (by kernel_rfl) (by kernel_rfl) (by kernel_rfl) (fun _ _ _ h => h) (by rfl) (fun _ _ h => h) (fun _ _ h => h) ?_ (by assumption) (fun hHeld2 => ?_)
            rotate_left 1
            · (intro _ _ _ _ _; first | (go_simp; done) | (go_simp; with_reducible rfl))
            clear hHeld; have hHeld := hHeld2; clear hHeld2
            (try simp only [Act.put, List.setIfInBounds_toArray, List.set_cons_zero, List.set_cons_succ])
            refine lTake (i := 11) (v := ?_) rfl (by kernel_rfl) (by kernel_rfl) (by kernel_rfl) (fun _ _ _ h => h) (by rfl) (fun _ _ h => h) (fun _ _ h => h) ?_ (by assumption) (fun hHeld2 => ?_)
            rotate_left 1
            · (intro L W _ _ hSw; (try dsimp only at hSw); first | (go_simp; done) | (go_simp; with_reducible rfl))
            clear hHeld; have hHeld := hHeld2; clear hHeld2
            (try simp only [Act.put, List.setIfInBounds_toArray, List.set_cons_zero, List.set_cons_succ])
            refine lTake (i := 12) (v := ?_) rfl (by kernel_rfl) (by kernel_rfl) (by kernel_rfl) (fun _ _ _ h => h) (by rfl) (fun _ _ h => h) (fun _ _ h => h) ?_ (by assumption) (fun hHeld2 => ?_)
            rotate_left 1
            · (intro _ _ _ _ _; first | (go_simp; done) | (go_simp; with_reducible rfl))
            clear hHeld; have hHeld := hHeld2; clear hHeld2
            (try simp only [Act.put, List.setIfInBounds_toArray, List.set_cons_zero, List.set_cons_succ])
            refine lTake (i := 13) (v := ?_) rfl (by kernel_rfl) (by kernel_rfl) (by kernel_rfl) (fun _ _ _ h => h) (by rfl) (fun _ _ h => h) (fun _ _ h => h) ?_ (by assumption) (fun hHeld2 => ?_)
            rotate_left 1
            · (intro _ _ _ _ _; first | (go_simp; done) | (go_simp; with_reducible rfl))
            clear hHeld; have hHeld := hHeld2; clear hHeld2
            (try simp only [Act.put, List.setIfInBounds_toArray, List.set_cons_zero, List.set_cons_succ])
            refine lTake (i := 14) (v := ?_) rfl (by kernel_rfl) (by kernel_rfl) (by kernel_rfl) (fun _ _ _ h => h) (by rfl) (fun _ _ h => h) (fun _ _ h => h) ?_ (by assumption) (fun hHeld2 => ?_)
            rotate_left 1
            · (intro L W _ _ hSw; (try dsimp only at hSw); first | (go_simp; done) | (go_simp; with_reducible rfl))
            clear hHeld; have hHeld := hHeld2; clear hHeld2
            (try simp only [Act.put, List.setIfInBounds_toArray, List.set_cons_zero, List.set_cons_succ])
            refine lTake (i := 16) (v := ?_) rfl (by kernel_rfl) (by kernel_rfl) (by kernel_rfl) (fun _ _ _ h => h) (by rfl) (fun _ _ h => h) (fun _ _ h => h) ?_ (by assumption) (fun hHeld2 => ?_)
            rotate_left 1
            · (intro _ _ _ _ _; first | (go_simp; done) | (go_simp; with_reducible rfl))
            clear hHeld; have hHeld := hHeld2; clear hHeld2
            (try simp only [Act.put, List.setIfInBounds_toArray, List.set_cons_zero, List.set_cons_succ])
            refine lTake (i := 20) (v := ?_) rfl (by kernel_rfl) (by kernel_rfl) (by kernel_rfl) (fun _ _ _ h => h) (by rfl) (fun _ _ h => h) (fun _ _ h => h) ?_ (by assumption) (fun hHeld2 => ?_)
            rotate_left 1
            · (intro _ _ _ _ _; first | (go_simp; done) | (go_simp; with_reducible rfl))
            clear hHeld; have hHeld := hHeld2; clear hHeld2
            (try simp only [Act.put, List.setIfInBounds_toArray, List.set_cons_zero, List.set_cons_succ])
            refine lReady (rs := [15]) (by kernel_rfl) (by simp) ?_
            refine AllL.cons (i := 15) rfl (fun K hK => ?_) ?_
            · go_simp; (refine (HLC.out _ (HW4.out.trans (HT.out.mono HW4.out.size))).mono ?_; rintro e w5 ⟨gv, cg, rfl, ho, hb⟩; have HT := Lib.hid (HT.out.trans (hb.mono HT.out.size)); have ox := ho.cell k (by rw [lvN_len]; omega); rw [lvN_get (by omega), HLQ.out, HLL.out] at ox; have oz := ho.lt.2; clear ho hb)
              (try go_wp2_with fail)
              refine hK.out _ _ ?_ (fun hHeld2 => ?_)
              · (try dsimp only); (with_reducible exact RD.out _ HT.out)
              clear hK K
              clear hHeld; have hHeld := hHeld2; clear hHeld2
              (try simp only [Act.put, List.setIfInBounds_toArray, List.set_cons_zero, List.set_cons_succ])
              refine lTake (i := 17) (v := ?_) rfl (by kernel_rfl) (by kernel_rfl) (by kernel_rfl) (fun _ _ _ h => h) (by rfl) (fun _ _ h => h) (fun _ _ h => h) ?_ (by assumption) (fun hHeld2 => ?_)
              rotate_left 1
              · (intro _ _ _ _ _; first | (go_simp; done) | (go_simp; with_reducible rfl))
              clear hHeld; have hHeld := hHeld2; clear hHeld2
              (try simp only [Act.put, List.setIfInBounds_toArray, List.set_cons_zero, List.set_cons_succ])
              refine lReady (rs := [18]) (by kernel_rfl) (by simp) ?_
              refine AllL.cons (i := 18) rfl (fun K hK => ?_) ?_
              · go_simp
                (try go_wp2_with fail)
                refine hK.out _ _ ?_ (fun hHeld2 => ?_)
                · (try dsimp only); (with_reducible exact RD.out _ HT.out)
                clear hK K
                clear hHeld; have hHeld := hHeld2; clear hHeld2
                (try simp only [Act.put, List.setIfInBounds_toArray, List.set_cons_zero, List.set_cons_succ])
                refine lTake (i := 19) (v := ?_) rfl (by kernel_rfl) (by kernel_rfl) (by kernel_rfl) (fun _ _ _ h => h) (by rfl) (fun _ _ h => h) (fun _ _ h => h) ?_ (by assumption) (fun hHeld2 => ?_)
                rotate_left 1
                · (intro _ _ _ _ _; first | (go_simp; done) | (go_simp; with_reducible rfl))
                clear hHeld; have hHeld := hHeld2; clear hHeld2
                (try simp only [Act.put, List.setIfInBounds_toArray, List.set_cons_zero, List.set_cons_succ])
                refine lReady (rs := [21]) (by kernel_rfl) (by simp) ?_
                refine AllL.cons (i := 21) rfl (fun K hK => ?_) ?_
                · go_simp
                  (try go_wp2_with fail)
                  refine hK.out _ _ ?_ (fun hHeld2 => ?_)
                  · (try dsimp only); (with_reducible exact RD.out _ HT.out)
                  clear hK K
                  clear hHeld; have hHeld := hHeld2; clear hHeld2
                  (try simp only [Act.put, List.setIfInBounds_toArray, List.set_cons_zero, List.set_cons_succ])
                  refine lReady (rs := [22]) (by kernel_rfl) (by simp) ?_
                  refine AllL.cons (i := 22) rfl (fun K hK => ?_) ?_
                  · go_simp
                    (try go_wp2_with fail)
                    refine hK.out _ _ ?_ (fun hHeld2 => ?_)
                    · (try dsimp only); (with_reducible exact RD.out _ HT.out)
                    clear hK K
                    clear hHeld; have hHeld := hHeld2; clear hHeld2
                    (try simp only [Act.put, List.setIfInBounds_toArray, List.set_cons_zero, List.set_cons_succ])
                    refine lTake (i := 23) (v := ?_) rfl (by kernel_rfl) (by kernel_rfl) (by kernel_rfl) (fun _ _ _ h => h) (by rfl) (fun _ _ h => h) (fun _ _ h => h) ?_ (by assumption) (fun hHeld2 => ?_)
                    rotate_left 1
                    · (intro _ _ _ _ _; first | (go_simp; done) | (go_simp; with_reducible rfl))
                    clear hHeld; have hHeld := hHeld2; clear hHeld2
                    (try simp only [Act.put, List.setIfInBounds_toArray, List.set_cons_zero, List.set_cons_succ])
                    refine lDone (by kernel_rfl) ?_ _
                    have HK5 := Lib.hid (HK4.out.below HT.out)
                    have HB5 := Lib.hid (HB4.out.below HT.out)
                    clear HK4 HB4 HC4 RD HT hHeld hm1 hm2 cle
                    have t0 := HB5.out.b.cell 0 rfl
                    have tl := HB5.out.b.lt
                    have g0 := HB5.out.i.cell i hlt2
                    have gz := HB5.out.i.lt
                    have r0 := (HB5.out.i.f i hlt2).1.cell k (by rw [(HB5.out.i.f i hlt2).2]; exact hlt)
                    have rz := (HB5.out.i.f i hlt2).1.free k
                    have rl := (HB5.out.i.f i hlt2).1.lt
                    have HK6 := Lib.hid (HK5.out.set HE12.out.1 HE12.out.2 HB5.out i hlt2 k x)
                    have lfe : IntKind.i64.wrap (lf - x) = lf - x := IntWalk.i64_in _ (by omega)
                    go_upto_region 16 with fail
                    clear t0 tl g0 gz r0 rz rl HK5 HB5
                    have HK7 := Lib.hid (HK6.out.rows (fun y _ => (HRS.out y).symm))
                    clear HK6
                    go_wp2_with fail
                    go_roundw
                    case measure => simp [intOf]; omega
                    case rel => exact ⟨i + 1, by omega, by go_num, by rw [HVN.out], HK7⟩
                  exact AllL.nil
                exact AllL.nil
              exact AllL.nil
            exact AllL.nil
        · obtain rfl : m = i := by omega
          have HE : Hid (RfJ w n m gt gr A1 A2 c1 c2 [.slice A n cA, .slice B nB cB, .slice C nC cC, .slice D nD cD] (fun x => rowK (egX S cs x) n (k + 1)) wr) := Lib.hid (HJ.out.rows (fun x hx => (rwC_all S cs hx).symm))
          clear HJ
          go_wp2_with fail
          go_roundw
          case measure => simp [intOf]; omega
          case rel => exact ⟨k + 1, by omega, by go_num, HE⟩
    · obtain rfl : n = k := by omega
      have HTB : Hid (TabAt wr A1 A2 (egT S cs)) := Lib.hid (by
        have := HJ.out.tab (by omega)
        unfold egT
        rw [← HN.out, ← HM.out]
        exact this)
      have HTS : Hid (∀ W u v, RfJ w n m gt gr A1 A2 c1 c2 [.slice A n cA, .slice B nB cB, .slice C nC cC, .slice D nD cD] (fun x => rowK (egX S cs x) n n) W → TabAt ((W.setCell ⟨gr, 0, none⟩ u).setCell ⟨gr, 1, none⟩ v) A1 A2 (egT S cs)) := Lib.hid (fun W u v h => by
        have := h.tabset (by omega) u v
        unfold egT
        rw [← HN.out, ← HM.out]
        exact this)
      obtain ⟨v2, hv2⟩ : ∃ v2, v2 = plE S cs (egT S cs) := ⟨_, rfl⟩
      have HF := Lib.hid (F32.out wr A1 A2 c1 c2 HJ.out.cc.1 HJ.out.cc.2 HJ.out.bel HTB.out)
      rw [← hv2] at HF HP1 HP3
      clear hv2 F32 HTB
      have s0 := HJ.out.s.cell 0 rfl
      have s1 := HJ.out.s.cell 1 rfl
      have s2 := HJ.out.s.cell 2 rfl
      have s3 := HJ.out.s.cell 3 rfl
      have sl := HJ.out.s.lt
      have t0 := HJ.out.b.cell 0 rfl
      have t1 := HJ.out.b.cell 1 rfl
      have tl := HJ.out.b.lt
      go_wp2_with fail
      refine HF.out.mono ?_
      rintro e w5 ⟨rfl, hb⟩
      have HJ5 := Lib.hid (HJ.out.below hb)
      clear hb HF s0 s1 s2 s3 sl t0 t1 tl HJ
      have HB5 := Lib.hid HJ5.out.bel
      have XR5 := Lib.hid HJ5.out.r
      by_cases h2 : v2 = 0
      rotate_left
      · have hb2 : (v2 == 0) = false := by simpa using h2
        have EE := Lib.hid (HP3.out (by first | rfl | trivial) h2)
        have r0 := XR5.out.cell 0 rfl
        have r1 := XR5.out.cell 1 rfl
        have rz := XR5.out.free 0
        have rz1 := XR5.out.free 1
        have rl := XR5.out.lt
        have HF := Lib.hid (And.intro ((XR5.out.setCell 0 (.slice none 0 0)).setCell 1 (.slice none 0 0)) (((HB5.out.setCell (p := ⟨gr, 0, none⟩) HGR.out (.slice none 0 0)).setCell (p := ⟨gr, 1, none⟩) HGR.out (.slice none 0 0))))
        go_wp2_with fail
        have q0 := HF.out.1.cell 0 rfl
        have q1 := HF.out.1.cell 1 rfl
        exact bodyPost_ret (v := .tuple #[.agg #[.slice none 0 0, .slice none 0 0], .int .i64 18]) (by simp [results, Try.results44, go_sem, q0, q1]) rfl (EE.out _ HF.out.2)
      · subst h2
        have EE := Lib.hid (HP1.out (by first | rfl | trivial) (by first | rfl | trivial))
        have t0 := HJ5.out.b.cell 0 rfl
        have t1 := HJ5.out.b.cell 1 rfl
        have tl := HJ5.out.b.lt
        have r0 := XR5.out.cell 0 rfl
        have r1 := XR5.out.cell 1 rfl
        have rz := XR5.out.free 0
        have rz1 := XR5.out.free 1
        have rl := XR5.out.lt
        have rg := HJ5.out.ne
        have HCC := Lib.hid HJ5.out.cc
        have HF2 := Lib.hid (And.intro ((XR5.out.setCell 0 (.slice A1 m c1)).setCell 1 (.slice A2 m c2)) (And.intro ((HB5.out.setCell (p := ⟨gr, 0, none⟩) HGR.out (.slice A1 m c1)).setCell (p := ⟨gr, 1, none⟩) HGR.out (.slice A2 m c2)) (HTS.out w5 (.slice A1 m c1) (.slice A2 m c2) HJ5.out)))
        clear HJ5 XR5 HB5
        go_wp2_with fail
        have q0 := HF2.out.1.cell 0 rfl
        have q1 := HF2.out.1.cell 1 rfl
        exact bodyPost_ret (v := .tuple #[.agg #[.slice A1 m c1, .slice A2 m c2], .int .i64 0]) (by simp [results, Try.results44, go_sem, q0, q1]) rfl (EE.out A1 A2 c1 c2 _ HCC.out.1 HCC.out.2 HF2.out.2.2 HF2.out.2.1)
end Go.Proofs.Ytmebpglkeedaoaa
