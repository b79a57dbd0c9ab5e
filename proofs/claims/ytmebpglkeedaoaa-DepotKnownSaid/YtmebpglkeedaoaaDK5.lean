/- Contracts that the claim leans on, part 5: T7c T7d T7 N6 T8c T8 T9 T10 N7 N8 N9 T11 N12 N13 T14 T15 T16 M24 -/
import Derived.Test.YtmebpglkeedaoaaDK4
import Derived.Deep.Cut
import Derived.Laws.StructEq
set_option linter.unusedVariables false
set_option linter.unusedSimpArgs false
set_option linter.unnecessarySimpa false
namespace Go.Proofs.Ytmebpglkeedaoaa
open Go.RowKit Dp
noncomputable def loop76 : Code := ((Try.f76.body.bind (blockOf 4)).getD .skip)
noncomputable def end76 : Code := ((Try.f76.body.bind (behind 4)).getD .skip)
def BuiJ (S : Site) (cs : List Car) (w : World) (gs gb M i : Nat) (W : World) : Prop := ∃ A cap AI AO ci co vi vo, BdJ w gs gb A cap AI AO ci co i vi vo (supC S cs M i) (carsA S cs i) W ∧ RowsF W S.lim.length W.heap.size vi (inR S cs) i ∧ RowsF W S.lim.length W.heap.size vo (outR S cs) i
theorem BuiJ.of {S : Site} {cs : List Car} {w W : World} {n G i gs gb gi go cap ci0 co0 ci co M : Nat} {A AI0 AO0 AI AO : Option Addr} {vi vo : List Value} (hn : n = S.lim.length)
    (h : BxJ w n G i gs gb gi go A cap (supC S cs M (i + 1)) (carsA S cs (i + 1)) (inR S cs) (outR S cs) AI0 AO0 ci0 co0 AI ci (i + 1) (vi ++ [.slice (some ⟨gi, 0, none⟩) n n]) AO co (i + 1) (vo ++ [.slice (some ⟨go, 0, none⟩) n n]) W) (hR : (inR S cs i).length = n ∧ (outR S cs i).length = n) (hG : G ≤ W.heap.size) :
    BuiJ S cs w gs gb M (i + 1) ((W.setCell ⟨gb, 2, none⟩ (.slice AI (i + 1) ci)).setCell ⟨gb, 3, none⟩ (.slice AO (i + 1) co)) := by
  obtain ⟨h1, h2, h3⟩ := h.done hR hG
  subst hn
  have hz : ((W.setCell ⟨gb, 2, none⟩ (.slice AI (i + 1) ci)).setCell ⟨gb, 3, none⟩ (.slice AO (i + 1) co)).heap.size = W.heap.size := by simp
  exact ⟨A, cap, AI, AO, ci, co, _, _, h1, by rw [hz]; exact h2, by rw [hz]; exact h3⟩
set_option maxRecDepth 100000 in
def CoK (K : Act → World → Prop) (gb : Nat) (P : World → Prop) : Prop := ∀ (y0 y1 y2 y3 y4 y5 y7 y8 y9 y10 y11 y12 y13 y14 y15 y16 y17 y18 y19 y20 y21 y22 y23 y24 y25 y26 y27 y28 y29 y30 y31 y32 y33 y34 y35 y36 y37 y38 y39 y40 y41 y42 y43 y44 y45 y46 y47 y48 y49 y50 y51 y52 y53 y54 y55 y56 y57 y58 y59 y60 y61 y62 y63 y64 y65 y66 y67 y68 y69 y70 y71 y72 y73 y74 y75 y76 y77 y78 y79 y80 y81 y82 y83 y84 y85 y86 y87 y88 y89 y90 y91 y92 y93 y94 y95 y96 y97 y98 y99 y100 y101 y102 y103 y104 y105 y106 y107 y108 y109 y110 y111 y112 y113 y114 y115 y116 y117 y118 y119 y120 y121 y122 y123 y124 y125 y126 y127 y128 y129 y130 y131 y132 y133 y134 y135 y136 y137 y138 y139 y140 y141 y142 y143 y144 y145 y146 y147 y148 y149 y150 y151 y152 y153 y154 y155 y156 y157 y158 y159 y160 y161 y162 y163 y164 y165 y166 y167 y168 y169 y170 y171 y172 y173 y174 y175 y176 y177 y178 y179 y180 y181 y182 y183 y184 y185 y186 y187 y188 y189 y190 y191 y192 y193 y194 y195 y196 y197 y198 y199 y200 y201 y202 y203 y204 y205 y206 y207 y208 y209 y210 y211 y212 y213 y214 y215 y216 y217 y218 y219 y220 y221 y222 y223 y224 y225 y226 y227 y228 y229 y230 y231 y232 y233 y234 y235 y236 y237 y238 y239 y240 y241 y242 y243 y244 y245 y246 y247 y248 y249 y250 y251 y252 : Value) w', P w' → K { tmps := List.toArray (y0 :: y1 :: y2 :: y3 :: y4 :: y5 :: (.pointer (some ⟨gb, 0, none⟩) : Value) :: y7 :: y8 :: y9 :: y10 :: y11 :: y12 :: y13 :: y14 :: y15 :: y16 :: y17 :: y18 :: y19 :: y20 :: y21 :: y22 :: y23 :: y24 :: y25 :: y26 :: y27 :: y28 :: y29 :: y30 :: y31 :: y32 :: y33 :: y34 :: y35 :: y36 :: y37 :: y38 :: y39 :: y40 :: y41 :: y42 :: y43 :: y44 :: y45 :: y46 :: y47 :: y48 :: y49 :: y50 :: y51 :: y52 :: y53 :: y54 :: y55 :: y56 :: y57 :: y58 :: y59 :: y60 :: y61 :: y62 :: y63 :: y64 :: y65 :: y66 :: y67 :: y68 :: y69 :: y70 :: y71 :: y72 :: y73 :: y74 :: y75 :: y76 :: y77 :: y78 :: y79 :: y80 :: y81 :: y82 :: y83 :: y84 :: y85 :: y86 :: y87 :: y88 :: y89 :: y90 :: y91 :: y92 :: y93 :: y94 :: y95 :: y96 :: y97 :: y98 :: y99 :: y100 :: y101 :: y102 :: y103 :: y104 :: y105 :: y106 :: y107 :: y108 :: y109 :: y110 :: y111 :: y112 :: y113 :: y114 :: y115 :: y116 :: y117 :: y118 :: y119 :: y120 :: y121 :: y122 :: y123 :: y124 :: y125 :: y126 :: y127 :: y128 :: y129 :: y130 :: y131 :: y132 :: y133 :: y134 :: y135 :: y136 :: y137 :: y138 :: y139 :: y140 :: y141 :: y142 :: y143 :: y144 :: y145 :: y146 :: y147 :: y148 :: y149 :: y150 :: y151 :: y152 :: y153 :: y154 :: y155 :: y156 :: y157 :: y158 :: y159 :: y160 :: y161 :: y162 :: y163 :: y164 :: y165 :: y166 :: y167 :: y168 :: y169 :: y170 :: y171 :: y172 :: y173 :: y174 :: y175 :: y176 :: y177 :: y178 :: y179 :: y180 :: y181 :: y182 :: y183 :: y184 :: y185 :: y186 :: y187 :: y188 :: y189 :: y190 :: y191 :: y192 :: y193 :: y194 :: y195 :: y196 :: y197 :: y198 :: y199 :: y200 :: y201 :: y202 :: y203 :: y204 :: y205 :: y206 :: y207 :: y208 :: y209 :: y210 :: y211 :: y212 :: y213 :: y214 :: y215 :: y216 :: y217 :: y218 :: y219 :: y220 :: y221 :: y222 :: y223 :: y224 :: y225 :: y226 :: y227 :: y228 :: y229 :: y230 :: y231 :: y232 :: y233 :: y234 :: y235 :: y236 :: y237 :: y238 :: y239 :: y240 :: y241 :: y242 :: y243 :: y244 :: y245 :: y246 :: y247 :: y248 :: y249 :: y250 :: y251 :: y252 :: []), defers := [] } w'
theorem awayC_mk (cap inn out start fin : Int) (trips : List Trip) (k : Nat) : awayC ⟨cap, inn, out, start, fin, trips⟩ k = awayP trips k trips.length := rfl
theorem useC_mk (cap inn out start fin : Int) (trips : List Trip) (k : Nat) : useC ⟨cap, inn, out, start, fin, trips⟩ k = useP trips k trips.length := rfl
set_option maxHeartbeats 16000000 in
set_option maxRecDepth 100000 in
theorem bld4 (S : Site) (cs : List Car) (E : Option Addr) (n m cE gs gb M : Nat) (w W0 : World) (h0 : stE S cs = 0) (hn : n = S.lim.length) (hm : m = cs.length) (hM : M = nodesN S cs) (hE : m ≤ cE ∧ cE ≤ 9223372036854775807) (hcs : CarsAt w E cs) (hJ : BuiJ S cs w gs gb M 0 W0)
    {K : Act → World → Prop} {R : Ending → World → Prop} (hR : CoK K gb (BuiJ S cs w gs gb M m)) {x0 x2 x3 x4 x7 x8 x10 x11 x12 x13 x14 x15 x16 x17 x18 x19 x20 x21 x22 x23 x24 x25 x26 x27 x28 x29 x30 x31 x32 x33 x34 x35 x36 x37 x38 x39 x40 x41 x42 x43 x44 x45 x46 x47 x48 x49 x50 x51 x52 x53 x54 x55 x56 x57 x58 x59 x60 x61 x62 x63 x64 x65 x66 x67 x68 x69 x70 x71 x72 x73 x74 x75 x76 x77 x78 x79 x83 x84 x85 x86 x87 x88 x89 x90 x91 x92 x93 x94 x95 x96 x97 x98 x99 x100 x101 x102 x103 x104 x105 x106 x107 x108 x109 x110 x111 x112 x113 x114 x115 x116 x117 x118 x119 x120 x121 x122 x123 x124 x125 x126 x127 x128 x129 x130 x131 x132 x133 x134 x135 x136 x137 x138 x139 x140 x141 x142 x143 x144 x145 x146 x147 x148 x149 x150 x151 x152 x153 x154 x155 x156 x157 x158 x159 x160 x161 x162 x163 x164 x165 x166 x167 x168 x169 x170 x171 x172 x173 x174 x175 x176 x177 x178 x179 x180 x181 x182 x183 x184 x185 x186 x187 x188 x189 x190 x191 x192 x193 x194 x195 x196 x197 x198 x199 x200 x201 x202 x203 x204 x205 x206 x207 x208 x209 x210 x211 x212 x213 x214 x215 x216 x217 x218 x219 x220 x221 x222 x223 x224 x225 x226 x227 x228 x229 x230 x231 x232 x233 x234 x235 x236 x237 x238 x239 x240 x241 x242 x243 x244 x245 x246 x247 x248 x249 x250 x251 x252 : Value} :
    Code.wp Try.prog loop76 (Exit.inBlock 4 (Exit.then K (bodyPost Try.prog Try.f76 R))) { tmps := List.toArray (x0 :: (.slice E m cE : Value) :: x2 :: x3 :: x4 :: (.int .i64 n : Value) :: (.pointer (some ⟨gb, 0, none⟩) : Value) :: x7 :: x8 :: (.int .i64 ((nodeF n 0 0 : Nat) : Int) : Value) :: x10 :: x11 :: x12 :: x13 :: x14 :: x15 :: x16 :: x17 :: x18 :: x19 :: x20 :: x21 :: x22 :: x23 :: x24 :: x25 :: x26 :: x27 :: x28 :: x29 :: x30 :: x31 :: x32 :: x33 :: x34 :: x35 :: x36 :: x37 :: x38 :: x39 :: x40 :: x41 :: x42 :: x43 :: x44 :: x45 :: x46 :: x47 :: x48 :: x49 :: x50 :: x51 :: x52 :: x53 :: x54 :: x55 :: x56 :: x57 :: x58 :: x59 :: x60 :: x61 :: x62 :: x63 :: x64 :: x65 :: x66 :: x67 :: x68 :: x69 :: x70 :: x71 :: x72 :: x73 :: x74 :: x75 :: x76 :: x77 :: x78 :: x79 :: (.slice E m cE : Value) :: (.int .i64 m : Value) :: (.int .i64 0 : Value) :: x83 :: x84 :: x85 :: x86 :: x87 :: x88 :: x89 :: x90 :: x91 :: x92 :: x93 :: x94 :: x95 :: x96 :: x97 :: x98 :: x99 :: x100 :: x101 :: x102 :: x103 :: x104 :: x105 :: x106 :: x107 :: x108 :: x109 :: x110 :: x111 :: x112 :: x113 :: x114 :: x115 :: x116 :: x117 :: x118 :: x119 :: x120 :: x121 :: x122 :: x123 :: x124 :: x125 :: x126 :: x127 :: x128 :: x129 :: x130 :: x131 :: x132 :: x133 :: x134 :: x135 :: x136 :: x137 :: x138 :: x139 :: x140 :: x141 :: x142 :: x143 :: x144 :: x145 :: x146 :: x147 :: x148 :: x149 :: x150 :: x151 :: x152 :: x153 :: x154 :: x155 :: x156 :: x157 :: x158 :: x159 :: x160 :: x161 :: x162 :: x163 :: x164 :: x165 :: x166 :: x167 :: x168 :: x169 :: x170 :: x171 :: x172 :: x173 :: x174 :: x175 :: x176 :: x177 :: x178 :: x179 :: x180 :: x181 :: x182 :: x183 :: x184 :: x185 :: x186 :: x187 :: x188 :: x189 :: x190 :: x191 :: x192 :: x193 :: x194 :: x195 :: x196 :: x197 :: x198 :: x199 :: x200 :: x201 :: x202 :: x203 :: x204 :: x205 :: x206 :: x207 :: x208 :: x209 :: x210 :: x211 :: x212 :: x213 :: x214 :: x215 :: x216 :: x217 :: x218 :: x219 :: x220 :: x221 :: x222 :: x223 :: x224 :: x225 :: x226 :: x227 :: x228 :: x229 :: x230 :: x231 :: x232 :: x233 :: x234 :: x235 :: x236 :: x237 :: x238 :: x239 :: x240 :: x241 :: x242 :: x243 :: x244 :: x245 :: x246 :: x247 :: x248 :: x249 :: x250 :: x251 :: x252 :: []), defers := [] } W0 := by
  have H0 := Lib.hid h0
  have HN := Lib.hid hn
  have HM := Lib.hid hm
  have HMM := Lib.hid hM
  have HCS := Lib.hid hcs
  have HJ0 := Lib.hid hJ
  have HR := Lib.hid hR
  have h48 : n ≤ 48 := by have h3 := (siteHead_iff.1 (stE_0 h0).2.1).1; omega
  have h1n : 1 ≤ n := by have h3 := (siteHead_iff.1 (stE_0 h0).2.1).1; omega
  have hM2 : M ≤ 833 := by have := (nodes_bd h0).1; omega
  have hmk := make_int n (by omega)
  clear h0 hn hm hM hcs hJ hR
  conv => arg 2; whnf
  go_loopw [9, 82] (fun av iv wr => ∃ i : Nat, i ≤ m ∧ iv = .int .i64 i ∧ av = .int .i64 ((nodeF n i 0 : Nat) : Int) ∧ Hid (BuiJ S cs w gs gb M i wr)) (fun _ iv _ => m - (intOf iv).toNat)
  case atStart => exact ⟨0, Nat.zero_le _, rfl, rfl, HJ0⟩
  case round =>
    obtain ⟨i, hi, rfl, rfl, HJ⟩ := hrel
    by_cases hlt : i < m
    · have hii : (i : Int) < (m : Int) := by omega
      have il : i < cs.length := by rw [← HM.out]; exact hlt
      obtain ⟨A, cap0, AI, AO, ci, co, vi, vo, hj1, hj2, hj3⟩ := HJ.out
      have HBD := Lib.hid hj1
      rw [← HN.out] at hj2 hj3
      have HRI := Lib.hid hj2
      have HRO := Lib.hid hj3
      clear hj1 hj2 hj3 HJ
      have HOK := Lib.hid (carok_of H0.out il)
      have HBDS := Lib.hid (fun k (hk : k ≤ S.lim.length) => (And.intro (arcsAt_bd H0.out il hk) (node_lt (k := k) il hk)))
      rw [← HN.out] at HBDS HOK
      rw [← HMM.out] at HBDS
      have PS0 := Lib.hid (And.intro (supC_len S cs (M := M) (i := i) (by have := (HBDS.out 0 (by omega)).2; rw [← HN.out]; omega)) (And.intro (supC_get S cs (M := M) (i := i) (by have := (HBDS.out 0 (by omega)).2; rw [← HN.out]; omega)) (supC_start S cs (M := M) (i := i) (by have := (HBDS.out 0 (by omega)).2; rw [← HN.out]; omega))))
      have PSK := Lib.hid (fun k (hk : k ≤ n) => And.intro (supK_len S cs (M := M) (i := i) (k := k) (by have := (HBDS.out k hk).2; rw [← HN.out]; omega)) (And.intro (supK_get S cs (M := M) (i := i) (k := k) (by have := (HBDS.out k hk).2; rw [← HN.out]; omega)) (supK_set S cs (M := M) (i := i) (k := k) (by have := (HBDS.out k hk).2; rw [← HN.out]; omega))))
      have PSL := Lib.hid (supK_last S cs (M := M) (i := i) (by rw [← HN.out]; omega) (by have := (HBDS.out n (Nat.le_refl _)).2; rw [← HN.out]; omega))
      have PA0 := Lib.hid (arcsAt_zero S cs i)
      have PAK := Lib.hid (fun k => arcsAt_succ S cs i k)
      have PAL := Lib.hid (arcsAt_last S cs i)
      have PNX := Lib.hid (And.intro (nodeF_next n i) (fun k => nodeF_k n i k))
      have PIX := Lib.hid (fun k => (And.intro (show inX S cs i k = if awayC (cs.getD i default) k = true then -1 else ((arcsAt S cs i k).length : Int) + 2 from rfl) (show outX S cs i k = if awayC (cs.getD i default) k = true then -1 else ((arcsAt S cs i k).length : Int) + 3 from rfl)))
      have PRI : Hid (inR S cs i = rowK (inX S cs i) n n ∧ outR S cs i = rowK (outX S cs i) n n) := Lib.hid (by rw [HN.out]; exact ⟨rfl, rfl⟩)
      rw [← HN.out] at PS0 PSL PAL
      simp only [← HN.out] at PSK PAK
      have PU := Lib.hid (fun k => useC_bd HOK.out k)
      obtain ⟨ad, hE2, abl, c0, c1, c2, c3, c4, TT, cT, c5, hcT, HTT⟩ := HCS.out i il
      have hbl : (ad.add (i * 6)).block < w.heap.size := by rw [block_add]; exact abl
      replace c0 := (HBD.out.bel.cell hbl).trans c0
      replace c1 := (HBD.out.bel.cell (p := ⟨_, _, none⟩) hbl).trans c1
      replace c2 := (HBD.out.bel.cell (p := ⟨_, _, none⟩) hbl).trans c2
      replace c3 := (HBD.out.bel.cell (p := ⟨_, _, none⟩) hbl).trans c3
      replace c4 := (HBD.out.bel.cell (p := ⟨_, _, none⟩) hbl).trans c4
      replace c5 := (HBD.out.bel.cell (p := ⟨_, _, none⟩) hbl).trans c5
      clear hbl
      subst hE2
      have HTR := Lib.hid HTT
      clear HTT
      have HCO := Lib.hid (carOk_iff.1 HOK.out).1
      generalize hcc : cs.getD i default = c at *
      clear hcc
      obtain ⟨cap, inn, out, start, fin, trips⟩ := c
      simp only at c0 c1 c2 c3 c4 c5 hcT HTR HCO PS0 PSL
      obtain ⟨qn, hqn⟩ : ∃ qn, qn = trips.length := ⟨_, rfl⟩
      rw [← hqn] at c5 hcT
      have HQN := Lib.hid hqn
      clear hqn
      go_upto_region 17 with fail
      have al := (Below.refl wr.heap.size wr).alloc (Nat.le_refl _) (.cells #[.int .i64 cap, .int .i64 inn, .int .i64 out, .int .i64 start, .int .i64 fin, .slice TT qn cT] 63)
      have HBD1 := Lib.hid (HBD.out.below al)
      have HRI1 := Lib.hid (HRI.out.below al)
      have HRO1 := Lib.hid (HRO.out.below al)
      have XC := Lib.hid (Blk.new' wr #[.int .i64 cap, .int .i64 inn, .int .i64 out, .int .i64 start, .int .i64 fin, .slice TT qn cT] 63)
      have HG : Hid (wr.heap.size ≤ (wr.alloc (.cells #[.int .i64 cap, .int .i64 inn, .int .i64 out, .int .i64 start, .int .i64 fin, .slice TT qn cT] 63)).heap.size) := Lib.hid al.size
      have hG0 : w.heap.size ≤ wr.heap.size := HBD.out.bel.size
      clear c0 c1 c2 c3 c4 c5 abl al HBD HRI HRO
      generalize wr.alloc (.cells #[.int .i64 cap, .int .i64 inn, .int .i64 out, .int .i64 start, .int .i64 fin, .slice TT qn cT] 63) = wx at HBD1 HRI1 HRO1 XC HG ⊢
      have HGC : Hid (∃ gc, gc = wr.heap.size) := Lib.hid ⟨_, rfl⟩
      generalize wr.heap.size = G at *
      obtain ⟨gc, hgc⟩ : ∃ gc, gc = G := ⟨_, rfl⟩
      rw [← hgc] at XC ⊢
      clear hgc
      clear HGC
      have HT := Lib.hid (Below.refl wx.heap.size wx).drew
      go_cut [12, 13] from 86 to 89 (fun g1 g2 wc => ∃ gi go : Nat, g1 = .slice (some ⟨gi, 0, none⟩) n n ∧ g2 = .slice (some ⟨go, 0, none⟩) n n ∧ Hid (BkJ w n G i gs gb gi go gc AI AO ci co vi vo (inR S cs) (outR S cs) [.int .i64 cap, .int .i64 inn, .int .i64 out, .int .i64 start, .int .i64 fin, .slice TT qn cT] A cap0 (supC S cs M i) (carsA S cs i) (List.replicate n 0) (List.replicate n 0) wc ∧ Below wx.heap.size wx wc))
      case first =>
        refine lBegin (S := fun _ W => (True)) (by kernel_rfl) ?_ (fun hHeld => ?_)
        · trivial
        refine lTake (i := 0) (v := ?_) rfl (by kernel_rfl) (by kernel_rfl) (by kernel_rfl) (fun _ _ _ h => h) (by rfl) (fun _ _ h => h) (fun _ _ h => h) ?_ (by assumption) (fun hHeld2 => ?_)
        rotate_left 1
        · (intro _ _ _ _ _; first | (go_simp; done) | (go_simp; with_reducible rfl))
        clear hHeld; have hHeld := hHeld2; clear hHeld2
        (try simp only [Act.put, List.setIfInBounds_toArray, List.set_cons_zero, List.set_cons_succ])
        refine lTake (i := 2) (v := ?_) rfl (by kernel_rfl) (by kernel_rfl) (by kernel_rfl) (fun _ _ _ h => h) (by rfl) (fun _ _ h => h) (fun _ _ h => h) ?_ (by assumption) (fun hHeld2 => ?_)
        rotate_left 1
        · (intro _ _ _ _ _; first | (go_simp; done) | (go_simp; with_reducible rfl))
        clear hHeld; have hHeld := hHeld2; clear hHeld2
        (try simp only [Act.put, List.setIfInBounds_toArray, List.set_cons_zero, List.set_cons_succ])
        refine lReady (rs := [1, 3]) (by kernel_rfl) (by simp) ?_
        refine AllL.cons (i := 1) rfl (fun K hK => ?_) ?_
        · refine step_new (.cells (Array.replicate n (.int .i64 0)) 3) (fun g => .slice (some ⟨g, 0, none⟩) n n) rfl (by unfold execOp; simp [hmk, go_sem]) ?_; intro gi w6 z6 hc6 hb6; (try have HNE := Lib.hid (show gi ≠ go from by have := HFgo.out.lt; omega)); (try have HFgo := Lib.hid (Fl.below HFgo.out hb6)); have HFgi := Lib.hid (show Fl 3 w6 gi (List.replicate n 0) from by unfold Fl Blk; rw [hc6]; simp); have HGgi := Lib.hid (show wx.heap.size ≤ gi from Nat.le_trans HT.out.size z6); have HT := Lib.hid (HT.out.trans (hb6.mono HT.out.size)); clear hb6 hc6 z6
          (try go_wp2_with fail)
          refine hK.out _ _ ?_ (fun hHeld2 => ?_)
          · trivial
          clear hK K
          clear hHeld; have hHeld := hHeld2; clear hHeld2
          (try simp only [Act.put, List.setIfInBounds_toArray, List.set_cons_zero, List.set_cons_succ])
          refine lTake (i := 4) (v := ?_) rfl (by kernel_rfl) (by kernel_rfl) (by kernel_rfl) (fun _ _ _ h => h) (by rfl) (fun _ _ h => h) (fun _ _ h => h) ?_ (by assumption) (fun hHeld2 => ?_)
          rotate_left 1
          · (intro _ _ _ _ _; first | (go_simp; done) | (go_simp; with_reducible rfl))
          clear hHeld; have hHeld := hHeld2; clear hHeld2
          (try simp only [Act.put, List.setIfInBounds_toArray, List.set_cons_zero, List.set_cons_succ])
          refine lReady (rs := [3]) (by kernel_rfl) (by simp) ?_
          refine AllL.cons (i := 3) rfl (fun K hK => ?_) ?_
          · refine step_new (.cells (Array.replicate n (.int .i64 0)) 3) (fun g => .slice (some ⟨g, 0, none⟩) n n) rfl (by unfold execOp; simp [hmk, go_sem]) ?_; intro go w7 z6 hc6 hb6; (try have HNE := Lib.hid (show gi ≠ go from by have := HFgi.out.lt; omega)); (try have HFgi := Lib.hid (Fl.below HFgi.out hb6)); have HFgo := Lib.hid (show Fl 3 w7 go (List.replicate n 0) from by unfold Fl Blk; rw [hc6]; simp); have HGgo := Lib.hid (show wx.heap.size ≤ go from Nat.le_trans HT.out.size z6); have HT := Lib.hid (HT.out.trans (hb6.mono HT.out.size)); clear hb6 hc6 z6
            (try go_wp2_with fail)
            refine hK.out _ _ ?_ (fun hHeld2 => ?_)
            · trivial
            clear hK K
            clear hHeld; have hHeld := hHeld2; clear hHeld2
            (try simp only [Act.put, List.setIfInBounds_toArray, List.set_cons_zero, List.set_cons_succ])
            refine lTake (i := 5) (v := ?_) rfl (by kernel_rfl) (by kernel_rfl) (by kernel_rfl) (fun _ _ _ h => h) (by rfl) (fun _ _ h => h) (fun _ _ h => h) ?_ (by assumption) (fun hHeld2 => ?_)
            rotate_left 1
            · (intro _ _ _ _ _; first | (go_simp; done) | (go_simp; with_reducible rfl))
            clear hHeld; have hHeld := hHeld2; clear hHeld2
            (try simp only [Act.put, List.setIfInBounds_toArray, List.set_cons_zero, List.set_cons_succ])
            refine lDone (by kernel_rfl) ?_ _
            go_wp2_with fail
            go_meet
            case rel => exact ⟨gi, go, rfl, rfl, Lib.hid ⟨⟨HBD1.out.below HT.out, HFgi.out, HFgo.out, HNE.out, ⟨⟨by have := HGgi.out; have := HG.out; omega, by have := HGgo.out; have := HG.out; omega⟩, ⟨by have := HGgi.out; have := HG.out; omega, by have := HGgo.out; have := HG.out; omega⟩⟩, HRI1.out.below HT.out, HRO1.out.below HT.out, XC.out.below HT.out XC.out.lt⟩, HT.out⟩⟩
          exact AllL.nil
        refine AllL.cons (i := 3) rfl (fun K hK => ?_) ?_
        · refine step_new (.cells (Array.replicate n (.int .i64 0)) 3) (fun g => .slice (some ⟨g, 0, none⟩) n n) rfl (by unfold execOp; simp [hmk, go_sem]) ?_; intro go w7 z6 hc6 hb6; (try have HNE := Lib.hid (show gi ≠ go from by have := HFgi.out.lt; omega)); (try have HFgi := Lib.hid (Fl.below HFgi.out hb6)); have HFgo := Lib.hid (show Fl 3 w7 go (List.replicate n 0) from by unfold Fl Blk; rw [hc6]; simp); have HGgo := Lib.hid (show wx.heap.size ≤ go from Nat.le_trans HT.out.size z6); have HT := Lib.hid (HT.out.trans (hb6.mono HT.out.size)); clear hb6 hc6 z6
          (try go_wp2_with fail)
          refine hK.out _ _ ?_ (fun hHeld2 => ?_)
          · trivial
          clear hK K
          clear hHeld; have hHeld := hHeld2; clear hHeld2
          (try simp only [Act.put, List.setIfInBounds_toArray, List.set_cons_zero, List.set_cons_succ])
          refine lReady (rs := [1]) (by kernel_rfl) (by simp) ?_
          refine AllL.cons (i := 1) rfl (fun K hK => ?_) ?_
          · refine step_new (.cells (Array.replicate n (.int .i64 0)) 3) (fun g => .slice (some ⟨g, 0, none⟩) n n) rfl (by unfold execOp; simp [hmk, go_sem]) ?_; intro gi w6 z6 hc6 hb6; (try have HNE := Lib.hid (show gi ≠ go from by have := HFgo.out.lt; omega)); (try have HFgo := Lib.hid (Fl.below HFgo.out hb6)); have HFgi := Lib.hid (show Fl 3 w6 gi (List.replicate n 0) from by unfold Fl Blk; rw [hc6]; simp); have HGgi := Lib.hid (show wx.heap.size ≤ gi from Nat.le_trans HT.out.size z6); have HT := Lib.hid (HT.out.trans (hb6.mono HT.out.size)); clear hb6 hc6 z6
            (try go_wp2_with fail)
            refine hK.out _ _ ?_ (fun hHeld2 => ?_)
            · trivial
            clear hK K
            clear hHeld; have hHeld := hHeld2; clear hHeld2
            (try simp only [Act.put, List.setIfInBounds_toArray, List.set_cons_zero, List.set_cons_succ])
            refine lTake (i := 4) (v := ?_) rfl (by kernel_rfl) (by kernel_rfl) (by kernel_rfl) (fun _ _ _ h => h) (by rfl) (fun _ _ h => h) (fun _ _ h => h) ?_ (by assumption) (fun hHeld2 => ?_)
            rotate_left 1
            · (intro _ _ _ _ _; first | (go_simp; done) | (go_simp; with_reducible rfl))
            clear hHeld; have hHeld := hHeld2; clear hHeld2
            (try simp only [Act.put, List.setIfInBounds_toArray, List.set_cons_zero, List.set_cons_succ])
            refine lTake (i := 5) (v := ?_) rfl (by kernel_rfl) (by kernel_rfl) (by kernel_rfl) (fun _ _ _ h => h) (by rfl) (fun _ _ h => h) (fun _ _ h => h) ?_ (by assumption) (fun hHeld2 => ?_)
            rotate_left 1
            · (intro _ _ _ _ _; first | (go_simp; done) | (go_simp; with_reducible rfl))
            clear hHeld; have hHeld := hHeld2; clear hHeld2
            (try simp only [Act.put, List.setIfInBounds_toArray, List.set_cons_zero, List.set_cons_succ])
            refine lDone (by kernel_rfl) ?_ _
            go_wp2_with fail
            go_meet
            case rel => exact ⟨gi, go, rfl, rfl, Lib.hid ⟨⟨HBD1.out.below HT.out, HFgi.out, HFgo.out, HNE.out, ⟨⟨by have := HGgi.out; have := HG.out; omega, by have := HGgo.out; have := HG.out; omega⟩, ⟨by have := HGgi.out; have := HG.out; omega, by have := HGgo.out; have := HG.out; omega⟩⟩, HRI1.out.below HT.out, HRO1.out.below HT.out, XC.out.below HT.out XC.out.lt⟩, HT.out⟩⟩
          exact AllL.nil
        exact AllL.nil
      case rest =>
        clear HT
        obtain ⟨gi, go, rfl, rfl, HJ⟩ := hcut
        have HK := Lib.hid HJ.out.1
        clear HJ HBD1 HRI1 HRO1 HG XC
        have hMl : nodeF n i 0 < M := by have := (HBDS.out 0 (by omega)).2; omega
        have hMi : ((nodeF n i 0 : Nat) : Int) < (M : Int) := by omega
        have hMz : (0 : Int) ≤ ((nodeF n i 0 : Nat) : Int) := by omega
        have b0 := HK.out.d.b.cell 0 rfl
        rw [PS0.out.1] at b0
        have bl := HK.out.d.b.lt
        have s0 := HK.out.d.s.cell (nodeF n i 0) (by rw [PS0.out.1]; exact hMl)
        rw [PS0.out.2.1] at s0
        have sz := HK.out.d.s.free (nodeF n i 0)
        have sl := HK.out.d.s.lt
        have k3 := HK.out.car.cell 3 rfl
        have kl := HK.out.car.lt
        have w0e : IntKind.i64.wrap (0 + start) = start := by rw [Int.zero_add]; exact IntWalk.i64_in _ (by have := HCO.out; omega)
        have w0f : IntKind.i64.wrap start = start := IntWalk.i64_in _ (by have := HCO.out; omega)
        go_upto_region 18 with fail
        refine wp_region_head 11 ?af18 (by kernel_rfl) (by kernel_rfl) ?walk18 ?tail18
        case walk18 =>
          intro V hV
          have b0 := (hV.cell (p := ⟨gb, 0, none⟩) bl).trans b0
          have s0 := (hV.cell (p := ⟨gs, nodeF n i 0, none⟩) sl).trans s0
          have k3 := (hV.cell (p := ⟨gc, 3, none⟩) kl).trans k3
          have bl := Nat.lt_of_lt_of_le bl hV.size
          have sl := Nat.lt_of_lt_of_le sl hV.size
          have kl := Nat.lt_of_lt_of_le kl hV.size
          clear hV
          simp only [List.take_succ_cons, List.take_zero]
          repeat (go_big_quiet_step (fail))
          refine wpQuiet_nil ?_
          rfl
        case tail18 =>
          intro w2 hb2
          have HK2 := Lib.hid (HK.out.below hb2)
          clear hb2 b0 s0 sz k3 bl sl kl HK
          have s0 := HK2.out.d.s.cell (nodeF n i 0) (by rw [PS0.out.1]; exact hMl)
          have sz := HK2.out.d.s.free (nodeF n i 0)
          have sl := HK2.out.d.s.lt
          have HK3 := Lib.hid (HK2.out.set (nodeF n i 0) start)
          rw [PS0.out.2.2] at HK3
          simp only [List.drop_succ_cons, List.drop_zero]
          go_upto_region 19 with fail
          generalize w2.setCell ⟨gs, nodeF n i 0, none⟩ (.int .i64 start) = w3 at HK3 ⊢
          go_wp2_with fail
          have HK0 : Hid (BkJ w n G i gs gb gi go gc AI AO ci co vi vo (inR S cs) (outR S cs) [.int .i64 cap, .int .i64 inn, .int .i64 out, .int .i64 start, .int .i64 fin, .slice TT qn cT] A cap0 (supK S cs M i 0) (arcsAt S cs i 0) (rowK (inX S cs i) n 0) (rowK (outX S cs i) n 0) w3) := Lib.hid (by rw [PA0.out, rowK_zero, rowK_zero]; exact HK3.out)
          clear HK3 s0 sz sl HK2
          go_loopw [9, 103] (fun av kv wr => ∃ k : Nat, k ≤ n ∧ kv = .int .i64 k ∧ av = .int .i64 ((nodeF n i k : Nat) : Int) ∧ Hid (∃ A cp, BkJ w n G i gs gb gi go gc AI AO ci co vi vo (inR S cs) (outR S cs) [.int .i64 cap, .int .i64 inn, .int .i64 out, .int .i64 start, .int .i64 fin, .slice TT qn cT] A cp (supK S cs M i k) (arcsAt S cs i k) (rowK (inX S cs i) n k) (rowK (outX S cs i) n k) wr)) (fun _ kv _ => n - (intOf kv).toNat)
          case atStart => exact ⟨0, Nat.zero_le _, rfl, rfl, Lib.hid ⟨_, _, HK0.out⟩⟩
          case round =>
            clear HK0
            obtain ⟨k, hk, rfl, rfl, HJ⟩ := hrel
            obtain ⟨A1, cap1, hj⟩ := HJ.out
            have HK := Lib.hid hj
            clear hj HJ
            have aM : nodeF n i k + 1 < M := (HBDS.out k hk).2
            have al0 := (HBDS.out k hk).1
            by_cases hlt2 : k < n
            · have hki : (k : Int) < (n : Int) := by omega
              obtain ⟨u, hu⟩ : ∃ u, u = useC ⟨cap, inn, out, start, fin, trips⟩ k := ⟨_, rfl⟩
              obtain ⟨aw, haw⟩ : ∃ aw, aw = awayC ⟨cap, inn, out, start, fin, trips⟩ k := ⟨_, rfl⟩
              have HTC : Hid (∀ V, Below w.heap.size w V → Calls Try.prog 87 #[.agg #[.int .i64 cap, .int .i64 inn, .int .i64 out, .int .i64 start, .int .i64 fin, .slice TT qn cT], .int .i64 ((k : Nat) : Int)] V fun e w' => e = .returned (.tuple #[.int .i64 u, .bool aw]) ∧ Below V.heap.size V w') := Lib.hid (fun V hV => by
                have := trip_c (.int .i64 cap) (.int .i64 inn) (.int .i64 out) (.int .i64 start) (.int .i64 fin) k TT trips qn cT V HQN.out hcT (HTR.out.below hV (Nat.le_refl _))
                rw [hu, haw, useC_mk, awayC_mk, ← HQN.out]
                exact this)
              have ub := PU.out k
              rw [← hu] at ub
              have HSL := Lib.hid (PSK.out k hk).1
              have HSG := Lib.hid (PSK.out k hk).2.1
              have HSS := Lib.hid (PSK.out k hk).2.2
              rw [← hu] at HSS
              have HIX := Lib.hid (PIX.out k)
              have HAK := Lib.hid (PAK.out k)
              have HRX := Lib.hid (And.intro (rowK_set (inX S cs i) n k hlt2) (rowK_set (outX S cs i) n k hlt2))
              have HRL := Lib.hid (And.intro (rowK_len (inX S cs i) n k) (rowK_len (outX S cs i) n k))
              have HAN : Hid (nodeF n i (k + 1) = nodeF n i k + 2) := Lib.hid (by rw [PNX.out.2 (k + 1), PNX.out.2 k]; omega)
              rw [← haw] at HIX
              unfold slA at HAK
              rw [← haw] at HAK
              simp only at HAK
              clear hu haw
              generalize nodeF n i k = a at *
              generalize arcsAt S cs i k = ar at *
              generalize rowK (inX S cs i) n k = ri at *
              generalize rowK (outX S cs i) n k = ro at *
              generalize supK S cs M i k = su at *
              have e0 := HK.out.car.cell 0 rfl
              have e1 := HK.out.car.cell 1 rfl
              have e2 := HK.out.car.cell 2 rfl
              have e3 := HK.out.car.cell 3 rfl
              have e4 := HK.out.car.cell 4 rfl
              have e5 := HK.out.car.cell 5 rfl
              have el := HK.out.car.lt
              have a1e : IntKind.i64.wrap ((a : Int) + 1) = (a : Int) + 1 := IntWalk.i64_in _ (by omega)
              have a2e : IntKind.i64.wrap ((a : Int) + 2) = (a : Int) + 2 := IntWalk.i64_in _ (by omega)
              have k1e : IntKind.i64.wrap (1 + (k : Int)) = 1 + (k : Int) := IntWalk.i64_in _ (by omega)
              go_wp2_with fail
              refine (HTC.out wr HK.out.d.bel).mono ?_
              rintro e w4 ⟨rfl, hb⟩
              have HK4 := Lib.hid (HK.out.below hb)
              clear hb HTC HK e0 e1 e2 e3 e4 e5 el
              have e0 := HK4.out.car.cell 0 rfl
              have el := HK4.out.car.lt
              go_wp2_with fail
              clear e0 el
              have X2 : Hid (Blk (w4.alloc (.cells #[.int .i64 a, .int .i64 ((a : Int) + 1), .int .i64 cap, .int .i64 0, .int .i64 ((a : Int) + 1), .int .i64 ((a : Int) + 2), .int .i64 cap, .int .i64 0] 46)) w4.heap.size 46 (flat arcV [Dp.Arc.mk (a : Int) ((a : Int) + 1) cap 0, Dp.Arc.mk ((a : Int) + 1) ((a : Int) + 2) cap 0])) := Lib.hid (Blk.new' w4 #[.int .i64 a, .int .i64 ((a : Int) + 1), .int .i64 cap, .int .i64 0, .int .i64 ((a : Int) + 1), .int .i64 ((a : Int) + 2), .int .i64 cap, .int .i64 0] 46)
              have HKa := Lib.hid (HK4.out.alloc (.cells #[.int .i64 a, .int .i64 ((a : Int) + 1), .int .i64 cap, .int .i64 0, .int .i64 ((a : Int) + 1), .int .i64 ((a : Int) + 2), .int .i64 cap, .int .i64 0] 46))
              generalize w4.alloc (.cells #[.int .i64 a, .int .i64 ((a : Int) + 1), .int .i64 cap, .int .i64 0, .int .i64 ((a : Int) + 1), .int .i64 ((a : Int) + 2), .int .i64 cap, .int .i64 0] 46) = wa at X2 HKa ⊢
              generalize w4.heap.size = ga at X2 ⊢
              clear HK4
              refine (addG_c wa gb (ar).length cap1 w.heap.size 2 2 A1 (some ⟨ga, 0, none⟩) _ _ _ (ar) [Dp.Arc.mk (a : Int) ((a : Int) + 1) cap 0, Dp.Arc.mk ((a : Int) + 1) ((a : Int) + 2) cap 0] rfl rfl (by omega) HKa.out.d.b HKa.out.d.own (.inr ⟨_, rfl, fun j u hj => by rw [add_row]; exact X2.out.cell j hj⟩) HKa.out.d.bel.size).mono ?_
              rintro e w5 ⟨A2, cap2, Va, rfl, hV, hg, ho⟩
              have HK5 : Hid (BkJ w n G i gs gb gi go gc AI AO ci co vi vo (inR S cs) (outR S cs) [.int .i64 cap, .int .i64 inn, .int .i64 out, .int .i64 start, .int .i64 fin, .slice TT qn cT] A2 cap2 (su) (ar ++ [Dp.Arc.mk (a : Int) ((a : Int) + 1) cap 0, Dp.Arc.mk ((a : Int) + 1) ((a : Int) + 2) cap 0]) (ri) (ro) w5) := Lib.hid (by
                have el : (ar ++ [Dp.Arc.mk (a : Int) ((a : Int) + 1) cap 0, Dp.Arc.mk ((a : Int) + 1) ((a : Int) + 2) cap 0]).length = (ar).length + 2 := by simp
                rw [← el] at hV ho
                have := HKa.out.push hg ho
                rw [← hV] at this
                exact this)
              clear HKa X2 hV hg ho Va
              have i0 := HK5.out.fi.cell k (by rw [HRL.out.1]; exact hlt2)
              have iz := HK5.out.fi.free k
              have il2 := HK5.out.fi.lt
              have o0 := HK5.out.fo.cell k (by rw [HRL.out.2]; exact hlt2)
              have oz := HK5.out.fo.free k
              have ol2 := HK5.out.fo.lt
              have ione := HK5.out.ne
              have HK6 := Lib.hid ((HK5.out.seti k (-1)).seto k (-1))
              clear HK5
              go_upto_region 25 with fail
              clear i0 iz il2 o0 oz ol2 ione
              generalize (w5.setCell ⟨gi, k, none⟩ (.int .i64 (-1))).setCell ⟨go, k, none⟩ (.int .i64 (-1)) = w6 at HK6 ⊢
              cases aw
              · have e1 := HK6.out.car.cell 1 rfl
                have el := HK6.out.car.lt
                go_wp2_with fail
                clear e1 el
                have X2 : Hid (Blk (w6.alloc (.cells #[.int .i64 (1 + (k : Int)), .int .i64 ((a : Int) + 2), .int .i64 inn, .int .i64 0] 46)) w6.heap.size 46 (flat arcV [Dp.Arc.mk (1 + (k : Int)) ((a : Int) + 2) inn 0])) := Lib.hid (Blk.new' w6 #[.int .i64 (1 + (k : Int)), .int .i64 ((a : Int) + 2), .int .i64 inn, .int .i64 0] 46)
                have HKa := Lib.hid (HK6.out.alloc (.cells #[.int .i64 (1 + (k : Int)), .int .i64 ((a : Int) + 2), .int .i64 inn, .int .i64 0] 46))
                generalize w6.alloc (.cells #[.int .i64 (1 + (k : Int)), .int .i64 ((a : Int) + 2), .int .i64 inn, .int .i64 0] 46) = wa at X2 HKa ⊢
                generalize w6.heap.size = ga at X2 ⊢
                clear HK6
                refine (addG_c wa gb (ar ++ [Dp.Arc.mk (a : Int) ((a : Int) + 1) cap 0, Dp.Arc.mk ((a : Int) + 1) ((a : Int) + 2) cap 0]).length cap2 w.heap.size 1 1 A2 (some ⟨ga, 0, none⟩) _ _ _ (ar ++ [Dp.Arc.mk (a : Int) ((a : Int) + 1) cap 0, Dp.Arc.mk ((a : Int) + 1) ((a : Int) + 2) cap 0]) [Dp.Arc.mk (1 + (k : Int)) ((a : Int) + 2) inn 0] rfl rfl (by first | (simp; done) | (simp; omega)) HKa.out.d.b HKa.out.d.own (.inr ⟨_, rfl, fun j u hj => by rw [add_row]; exact X2.out.cell j hj⟩) HKa.out.d.bel.size).mono ?_
                rintro e w7 ⟨A3, cap3, Va, rfl, hV, hg, ho⟩
                have HK7 : Hid (BkJ w n G i gs gb gi go gc AI AO ci co vi vo (inR S cs) (outR S cs) [.int .i64 cap, .int .i64 inn, .int .i64 out, .int .i64 start, .int .i64 fin, .slice TT qn cT] A3 cap3 (su) (ar ++ [Dp.Arc.mk (a : Int) ((a : Int) + 1) cap 0, Dp.Arc.mk ((a : Int) + 1) ((a : Int) + 2) cap 0] ++ [Dp.Arc.mk (1 + (k : Int)) ((a : Int) + 2) inn 0]) (ri.set k (-1)) (ro.set k (-1)) w7) := Lib.hid (by
                  have el : (ar ++ [Dp.Arc.mk (a : Int) ((a : Int) + 1) cap 0, Dp.Arc.mk ((a : Int) + 1) ((a : Int) + 2) cap 0] ++ [Dp.Arc.mk (1 + (k : Int)) ((a : Int) + 2) inn 0]).length = (ar ++ [Dp.Arc.mk (a : Int) ((a : Int) + 1) cap 0, Dp.Arc.mk ((a : Int) + 1) ((a : Int) + 2) cap 0]).length + 1 := by simp
                  rw [← el] at hV ho
                  have := HKa.out.push hg ho
                  rw [← hV] at this
                  exact this)
                clear HKa X2 hV hg ho Va
                have hl2 : (((ar ++ [Dp.Arc.mk (a : Int) ((a : Int) + 1) cap 0, Dp.Arc.mk ((a : Int) + 1) ((a : Int) + 2) cap 0])).length : Int) = (ar.length : Int) + 2 := by simp
                rw [hl2]
                clear hl2
                have i0 := HK7.out.fi.cell k (by simp [HRL.out.1]; exact hlt2)
                have iz := HK7.out.fi.free k
                have il2 := HK7.out.fi.lt
                have HK8 := Lib.hid (HK7.out.seti k ((ar.length : Int) + 2))
                clear HK7
                go_upto_region 27 with fail
                clear i0 iz il2
                generalize w7.setCell ⟨gi, k, none⟩ (.int .i64 ((ar.length : Int) + 2)) = w8 at HK8 ⊢
                have e2 := HK8.out.car.cell 2 rfl
                have el := HK8.out.car.lt
                go_wp2_with fail
                clear e2 el
                have X2 : Hid (Blk (w8.alloc (.cells #[.int .i64 ((a : Int) + 1), .int .i64 (1 + (k : Int)), .int .i64 out, .int .i64 0] 46)) w8.heap.size 46 (flat arcV [Dp.Arc.mk ((a : Int) + 1) (1 + (k : Int)) out 0])) := Lib.hid (Blk.new' w8 #[.int .i64 ((a : Int) + 1), .int .i64 (1 + (k : Int)), .int .i64 out, .int .i64 0] 46)
                have HKa := Lib.hid (HK8.out.alloc (.cells #[.int .i64 ((a : Int) + 1), .int .i64 (1 + (k : Int)), .int .i64 out, .int .i64 0] 46))
                generalize w8.alloc (.cells #[.int .i64 ((a : Int) + 1), .int .i64 (1 + (k : Int)), .int .i64 out, .int .i64 0] 46) = wa at X2 HKa ⊢
                generalize w8.heap.size = ga at X2 ⊢
                clear HK8
                refine (addG_c wa gb ((ar ++ [Dp.Arc.mk (a : Int) ((a : Int) + 1) cap 0, Dp.Arc.mk ((a : Int) + 1) ((a : Int) + 2) cap 0]) ++ [Dp.Arc.mk (1 + (k : Int)) ((a : Int) + 2) inn 0]).length cap3 w.heap.size 1 1 A3 (some ⟨ga, 0, none⟩) _ _ _ ((ar ++ [Dp.Arc.mk (a : Int) ((a : Int) + 1) cap 0, Dp.Arc.mk ((a : Int) + 1) ((a : Int) + 2) cap 0]) ++ [Dp.Arc.mk (1 + (k : Int)) ((a : Int) + 2) inn 0]) [Dp.Arc.mk ((a : Int) + 1) (1 + (k : Int)) out 0] rfl rfl (by first | (simp; done) | (simp; omega)) HKa.out.d.b HKa.out.d.own (.inr ⟨_, rfl, fun j u hj => by rw [add_row]; exact X2.out.cell j hj⟩) HKa.out.d.bel.size).mono ?_
                rintro e w9 ⟨A4, cap4, Va, rfl, hV, hg, ho⟩
                have HK9 : Hid (BkJ w n G i gs gb gi go gc AI AO ci co vi vo (inR S cs) (outR S cs) [.int .i64 cap, .int .i64 inn, .int .i64 out, .int .i64 start, .int .i64 fin, .slice TT qn cT] A4 cap4 (su) ((ar ++ [Dp.Arc.mk (a : Int) ((a : Int) + 1) cap 0, Dp.Arc.mk ((a : Int) + 1) ((a : Int) + 2) cap 0]) ++ [Dp.Arc.mk (1 + (k : Int)) ((a : Int) + 2) inn 0] ++ [Dp.Arc.mk ((a : Int) + 1) (1 + (k : Int)) out 0]) ((ri.set k (-1)).set k ((ar.length : Int) + 2)) (ro.set k (-1)) w9) := Lib.hid (by
                  have el : ((ar ++ [Dp.Arc.mk (a : Int) ((a : Int) + 1) cap 0, Dp.Arc.mk ((a : Int) + 1) ((a : Int) + 2) cap 0]) ++ [Dp.Arc.mk (1 + (k : Int)) ((a : Int) + 2) inn 0] ++ [Dp.Arc.mk ((a : Int) + 1) (1 + (k : Int)) out 0]).length = ((ar ++ [Dp.Arc.mk (a : Int) ((a : Int) + 1) cap 0, Dp.Arc.mk ((a : Int) + 1) ((a : Int) + 2) cap 0]) ++ [Dp.Arc.mk (1 + (k : Int)) ((a : Int) + 2) inn 0]).length + 1 := by simp
                  rw [← el] at hV ho
                  have := HKa.out.push hg ho
                  rw [← hV] at this
                  exact this)
                clear HKa X2 hV hg ho Va
                have hl2 : (((ar ++ [Dp.Arc.mk (a : Int) ((a : Int) + 1) cap 0, Dp.Arc.mk ((a : Int) + 1) ((a : Int) + 2) cap 0]) ++ [Dp.Arc.mk (1 + (k : Int)) ((a : Int) + 2) inn 0]).length : Int) = (ar.length : Int) + 3 := by first | (simp; done) | (simp; omega)
                rw [hl2]
                clear hl2
                have o0 := HK9.out.fo.cell k (by simp [HRL.out.2]; exact hlt2)
                have oz := HK9.out.fo.free k
                have ol2 := HK9.out.fo.lt
                have HK10 := Lib.hid (HK9.out.seto k ((ar.length : Int) + 3))
                clear HK9
                go_upto_region 28 with fail
                clear o0 oz ol2
                generalize w9.setCell ⟨go, k, none⟩ (.int .i64 ((ar.length : Int) + 3)) = w10 at HK10 ⊢
                have b0 := HK10.out.d.b.cell 0 rfl
                rw [HSL.out] at b0
                have bl := HK10.out.d.b.lt
                have s0 := HK10.out.d.s.cell (a + 1) (by rw [HSL.out]; exact aM)
                rw [HSG.out] at s0
                have sz := HK10.out.d.s.free (a + 1)
                have sl := HK10.out.d.s.lt
                have um : IntKind.i64.wrap (0 - u) = -u := by rw [show (0 : Int) - u = -u by omega]; exact IntWalk.i64_in _ (by omega)
                have um2 : IntKind.i64.wrap (-u) = -u := IntWalk.i64_in _ (by omega)
                have aMi : (a : Int) + 1 < (M : Int) := by omega
                have at1 : ((a : Int) + 1).toNat = a + 1 := by omega
                have ap1 : (0 : Int) ≤ (a : Int) + 1 := by omega
                have HKf := Lib.hid (HK10.out.set (a + 1) (-u))
                rw [HSS.out] at HKf
                clear HK10
                go_upto_region 29 with fail
                clear b0 bl s0 sz sl um um2 aMi at1 ap1
                generalize w10.setCell ⟨gs, a + 1, none⟩ (.int .i64 (-u)) = wf at HKf ⊢
                have HKg : Hid (BkJ w n G i gs gb gi go gc AI AO ci co vi vo (inR S cs) (outR S cs) [.int .i64 cap, .int .i64 inn, .int .i64 out, .int .i64 start, .int .i64 fin, .slice TT qn cT] A4 cap4 (supK S cs M i (k + 1)) (arcsAt S cs i (k + 1)) (rowK (inX S cs i) n (k + 1)) (rowK (outX S cs i) n (k + 1)) wf) := Lib.hid (by
                  rw [HAK.out]
                  have := HKf.out
                  (try simp only [List.set_set] at this)
                  rw [← HRX.out.1, ← HRX.out.2, HIX.out.1, HIX.out.2]
                  simpa using this)
                clear HKf
                have han : (a : Int) + 2 = ((nodeF n i (k + 1) : Nat) : Int) := by rw [HAN.out]; omega
                have HANN := Lib.hid han
                clear han
                go_wp2_with fail
                exact ⟨⟨k + 1, by omega, by go_num, by rw [HANN.out], Lib.hid ⟨_, _, HKg.out⟩⟩, by simp [intOf]; omega⟩
              · go_upto_region 28 with fail
                have b0 := HK6.out.d.b.cell 0 rfl
                rw [HSL.out] at b0
                have bl := HK6.out.d.b.lt
                have s0 := HK6.out.d.s.cell (a + 1) (by rw [HSL.out]; exact aM)
                rw [HSG.out] at s0
                have sz := HK6.out.d.s.free (a + 1)
                have sl := HK6.out.d.s.lt
                have um : IntKind.i64.wrap (0 - u) = -u := by rw [show (0 : Int) - u = -u by omega]; exact IntWalk.i64_in _ (by omega)
                have um2 : IntKind.i64.wrap (-u) = -u := IntWalk.i64_in _ (by omega)
                have aMi : (a : Int) + 1 < (M : Int) := by omega
                have at1 : ((a : Int) + 1).toNat = a + 1 := by omega
                have ap1 : (0 : Int) ≤ (a : Int) + 1 := by omega
                have HKf := Lib.hid (HK6.out.set (a + 1) (-u))
                rw [HSS.out] at HKf
                clear HK6
                go_upto_region 29 with fail
                clear b0 bl s0 sz sl um um2 aMi at1 ap1
                generalize w6.setCell ⟨gs, a + 1, none⟩ (.int .i64 (-u)) = wf at HKf ⊢
                have HKg : Hid (BkJ w n G i gs gb gi go gc AI AO ci co vi vo (inR S cs) (outR S cs) [.int .i64 cap, .int .i64 inn, .int .i64 out, .int .i64 start, .int .i64 fin, .slice TT qn cT] A2 cap2 (supK S cs M i (k + 1)) (arcsAt S cs i (k + 1)) (rowK (inX S cs i) n (k + 1)) (rowK (outX S cs i) n (k + 1)) wf) := Lib.hid (by
                  rw [HAK.out]
                  have := HKf.out
                  (try simp only [List.set_set] at this)
                  rw [← HRX.out.1, ← HRX.out.2, HIX.out.1, HIX.out.2]
                  simpa using this)
                clear HKf
                have han : (a : Int) + 2 = ((nodeF n i (k + 1) : Nat) : Int) := by rw [HAN.out]; omega
                have HANN := Lib.hid han
                clear han
                go_wp2_with fail
                exact ⟨⟨k + 1, by omega, by go_num, by rw [HANN.out], Lib.hid ⟨_, _, HKg.out⟩⟩, by simp [intOf]; omega⟩
            · obtain rfl : n = k := by omega
              have hki : ¬ (n : Int) < (n : Int) := by omega
              have HSL := Lib.hid (PSK.out n (Nat.le_refl _)).1
              have HSG := Lib.hid (PSK.out n (Nat.le_refl _)).2.1
              have HAN := Lib.hid PNX.out.1
              have HAL := Lib.hid PAL.out
              have HSS := Lib.hid PSL.out
              have HRR : Hid ((inR S cs i).length = n ∧ (outR S cs i).length = n) := Lib.hid (by rw [PRI.out.1, PRI.out.2]; exact ⟨rowK_len _ _ _, rowK_len _ _ _⟩)
              rw [← PRI.out.1, ← PRI.out.2] at HK
              unfold finA at HAL
              simp only at HAL
              clear hk
              generalize nodeF n i n = a at *
              generalize arcsAt S cs i n = ar at *
              generalize supK S cs M i n = su at *
              have e0 := HK.out.car.cell 0 rfl
              have e4 := HK.out.car.cell 4 rfl
              have el := HK.out.car.lt
              have a1e : IntKind.i64.wrap ((a : Int) + 1) = (a : Int) + 1 := IntWalk.i64_in _ (by omega)
              have a2e : IntKind.i64.wrap ((a : Int) + 2) = (a : Int) + 2 := IntWalk.i64_in _ (by omega)
              have cfe : IntKind.i64.wrap (cap - fin) = cap - fin := IntWalk.i64_in _ (by have := HCO.out; omega)
              go_wp2_with fail
              clear e0 e4 el cfe
              have X2 : Hid (Blk (wr.alloc (.cells #[.int .i64 a, .int .i64 ((a : Int) + 1), .int .i64 cap, .int .i64 0, .int .i64 ((a : Int) + 1), .int .i64 0, .int .i64 (cap - fin), .int .i64 0] 46)) wr.heap.size 46 (flat arcV [Dp.Arc.mk (a : Int) ((a : Int) + 1) cap 0, Dp.Arc.mk ((a : Int) + 1) 0 (cap - fin) 0])) := Lib.hid (Blk.new' wr #[.int .i64 a, .int .i64 ((a : Int) + 1), .int .i64 cap, .int .i64 0, .int .i64 ((a : Int) + 1), .int .i64 0, .int .i64 (cap - fin), .int .i64 0] 46)
              have HKa := Lib.hid (HK.out.alloc (.cells #[.int .i64 a, .int .i64 ((a : Int) + 1), .int .i64 cap, .int .i64 0, .int .i64 ((a : Int) + 1), .int .i64 0, .int .i64 (cap - fin), .int .i64 0] 46))
              generalize wr.alloc (.cells #[.int .i64 a, .int .i64 ((a : Int) + 1), .int .i64 cap, .int .i64 0, .int .i64 ((a : Int) + 1), .int .i64 0, .int .i64 (cap - fin), .int .i64 0] 46) = wa at X2 HKa ⊢
              generalize wr.heap.size = ga at X2 ⊢
              clear HK
              refine (addG_c wa gb (ar).length cap1 w.heap.size 2 2 A1 (some ⟨ga, 0, none⟩) _ _ _ (ar) [Dp.Arc.mk (a : Int) ((a : Int) + 1) cap 0, Dp.Arc.mk ((a : Int) + 1) 0 (cap - fin) 0] rfl rfl (by omega) HKa.out.d.b HKa.out.d.own (.inr ⟨_, rfl, fun j u hj => by rw [add_row]; exact X2.out.cell j hj⟩) HKa.out.d.bel.size).mono ?_
              rintro e w5 ⟨A2, cap2, Va, rfl, hV, hg, ho⟩
              have HK5 : Hid (BkJ w n G i gs gb gi go gc AI AO ci co vi vo (inR S cs) (outR S cs) [.int .i64 cap, .int .i64 inn, .int .i64 out, .int .i64 start, .int .i64 fin, .slice TT qn cT] A2 cap2 (su) (ar ++ [Dp.Arc.mk (a : Int) ((a : Int) + 1) cap 0, Dp.Arc.mk ((a : Int) + 1) 0 (cap - fin) 0]) (inR S cs i) (outR S cs i) w5) := Lib.hid (by
                have el : (ar ++ [Dp.Arc.mk (a : Int) ((a : Int) + 1) cap 0, Dp.Arc.mk ((a : Int) + 1) 0 (cap - fin) 0]).length = (ar).length + 2 := by simp
                rw [← el] at hV ho
                have := HKa.out.push hg ho
                rw [← hV] at this
                exact this)
              clear HKa X2 hV hg ho Va
              go_upto_region 32 with fail
              have b0 := HK5.out.d.b.cell 0 rfl
              rw [HSL.out] at b0
              have bl := HK5.out.d.b.lt
              have s0 := HK5.out.d.s.cell (a + 1) (by rw [HSL.out]; exact aM)
              rw [HSG.out] at s0
              have sl := HK5.out.d.s.lt
              have k4 := HK5.out.car.cell 4 rfl
              have kl := HK5.out.car.lt
              have um : IntKind.i64.wrap (0 - fin) = -fin := by rw [show (0 : Int) - fin = -fin by omega]; exact IntWalk.i64_in _ (by have := HCO.out; omega)
              have um2 : IntKind.i64.wrap (-fin) = -fin := IntWalk.i64_in _ (by have := HCO.out; omega)
              have aMi : (a : Int) + 1 < (M : Int) := by omega
              have at1 : ((a : Int) + 1).toNat = a + 1 := by omega
              have ap1 : (0 : Int) ≤ (a : Int) + 1 := by omega
              refine wp_region_head 12 ?af32 (by kernel_rfl) (by kernel_rfl) ?walk32 ?tail32
              case walk32 =>
                intro V hV
                have b0 := (hV.cell (p := ⟨gb, 0, none⟩) bl).trans b0
                have s0 := (hV.cell (p := ⟨gs, a + 1, none⟩) sl).trans s0
                have k4 := (hV.cell (p := ⟨gc, 4, none⟩) kl).trans k4
                have bl := Nat.lt_of_lt_of_le bl hV.size
                have sl := Nat.lt_of_lt_of_le sl hV.size
                have kl := Nat.lt_of_lt_of_le kl hV.size
                clear hV
                simp only [List.take_succ_cons, List.take_zero]
                repeat (go_big_quiet_step (fail))
                refine wpQuiet_nil ?_
                rfl
              case tail32 =>
                intro w6 hb6
                have HK6 := Lib.hid (HK5.out.below hb6)
                clear hb6 b0 s0 sl k4 bl kl HK5
                have s0 := HK6.out.d.s.cell (a + 1) (by rw [HSL.out]; exact aM)
                have sz := HK6.out.d.s.free (a + 1)
                have sl := HK6.out.d.s.lt
                have HK7 := Lib.hid (HK6.out.set (a + 1) (-fin))
                rw [HSS.out, ← HAL.out] at HK7
                clear HK6
                simp only [List.drop_succ_cons, List.drop_zero]
                go_upto_region 33 with fail
                clear s0 sz sl um um2 aMi at1 ap1
                generalize w6.setCell ⟨gs, a + 1, none⟩ (.int .i64 (-fin)) = w7 at HK7 ⊢
                go_upto_region 34 with fail
                have HX := Lib.hid HK7.out.two
                have HGG := Lib.hid HK7.out.ge
                obtain ⟨i26, h26i, h26z, h26s, h26b⟩ := info_parts info26
                have im8 : i ≤ 8 := by have := (stE_0 H0.out).1; omega
                have han : (a : Int) + 2 = ((nodeF n (i + 1) 0 : Nat) : Int) := by rw [HAN.out]; omega
                have HANN := Lib.hid han
                have GZ := Lib.hid (show G ≤ w7.heap.size from by have := HK7.out.fi.lt; have := HK7.out.ge; omega)
                have HX := Lib.hid (HX.out.below (Below.refl _ _).drew)
                have GZ := Lib.hid (show G ≤ w7.drew.heap.size from GZ.out)
                clear han HK7
                refine lBegin (S := fun L W => (True) ∧ (L.getD 18 false = true ∨ (W.cell? ⟨gb, 2, none⟩ = some (.slice AI i ci))) ∧ (L.getD 21 false = true ∨ (W.cell? ⟨gb, 3, none⟩ = some (.slice AO i co)))) (by kernel_rfl) ?_ (fun hHeld => ?_)
                · (try dsimp only); refine ⟨?_, Or.inr ?_, Or.inr ?_⟩
                  · (first | trivial | with_reducible assumption)
                  · (with_reducible exact HX.out.b.cell 2 rfl)
                  · (first | (with_reducible exact HX.out.b.cell 3 rfl) | (go_simp; done))
                refine lTake (i := 0) (v := ?_) rfl (by kernel_rfl) (by kernel_rfl) (by kernel_rfl) (fun _ _ _ h => h) (by rfl) (fun _ _ h => by simpa only [getD_set_ne false (show 0 ≠ 18 by decide), getD_set_ne false (show 0 ≠ 21 by decide)] using h) (fun _ _ h => by simpa only [getD_set_ne false (show 0 ≠ 18 by decide), getD_set_ne false (show 0 ≠ 21 by decide)] using h) ?_ (by assumption) (fun hHeld2 => ?_)
                rotate_left 1
                · (intro _ _ _ _ _; first | (go_simp; done) | (go_simp; with_reducible rfl))
                clear hHeld; have hHeld := hHeld2; clear hHeld2
                (try simp only [Act.put, List.setIfInBounds_toArray, List.set_cons_zero, List.set_cons_succ])
                refine lTake (i := 1) (v := ?_) rfl (by kernel_rfl) (by kernel_rfl) (by kernel_rfl) (fun _ _ _ h => h) (by rfl) (fun _ _ h => by simpa only [getD_set_ne false (show 1 ≠ 18 by decide), getD_set_ne false (show 1 ≠ 21 by decide)] using h) (fun _ _ h => by simpa only [getD_set_ne false (show 1 ≠ 18 by decide), getD_set_ne false (show 1 ≠ 21 by decide)] using h) ?_ (by assumption) (fun hHeld2 => ?_)
                rotate_left 1
                · (intro _ _ _ _ _; first | (go_simp; done) | (go_simp; with_reducible rfl))
                clear hHeld; have hHeld := hHeld2; clear hHeld2
                (try simp only [Act.put, List.setIfInBounds_toArray, List.set_cons_zero, List.set_cons_succ])
                refine lTake (i := 2) (v := ?_) rfl (by kernel_rfl) (by kernel_rfl) (by kernel_rfl) (fun _ _ _ h => h) (by rfl) (fun _ _ h => by simpa only [getD_set_ne false (show 2 ≠ 18 by decide), getD_set_ne false (show 2 ≠ 21 by decide)] using h) (fun _ _ h => by simpa only [getD_set_ne false (show 2 ≠ 18 by decide), getD_set_ne false (show 2 ≠ 21 by decide)] using h) ?_ (by assumption) (fun hHeld2 => ?_)
                rotate_left 1
                · (intro _ _ _ _ _; first | (go_simp; done) | (go_simp; with_reducible rfl))
                clear hHeld; have hHeld := hHeld2; clear hHeld2
                (try simp only [Act.put, List.setIfInBounds_toArray, List.set_cons_zero, List.set_cons_succ])
                refine lTake (i := 3) (v := ?_) rfl (by kernel_rfl) (by kernel_rfl) (by kernel_rfl) (fun _ _ _ h => h) (by rfl) (fun _ _ h => by simpa only [getD_set_ne false (show 3 ≠ 18 by decide), getD_set_ne false (show 3 ≠ 21 by decide)] using h) (fun _ _ h => by simpa only [getD_set_ne false (show 3 ≠ 18 by decide), getD_set_ne false (show 3 ≠ 21 by decide)] using h) ?_ (by assumption) (fun hHeld2 => ?_)
                rotate_left 1
                · (intro _ _ _ _ _; first | (go_simp; done) | (go_simp; with_reducible rfl))
                clear hHeld; have hHeld := hHeld2; clear hHeld2
                (try simp only [Act.put, List.setIfInBounds_toArray, List.set_cons_zero, List.set_cons_succ])
                refine lTake (i := 4) (v := ?_) rfl (by kernel_rfl) (by kernel_rfl) (by kernel_rfl) (fun _ _ _ h => h) (by rfl) (fun _ _ h => by simpa only [getD_set_ne false (show 4 ≠ 18 by decide), getD_set_ne false (show 4 ≠ 21 by decide)] using h) (fun _ _ h => by simpa only [getD_set_ne false (show 4 ≠ 18 by decide), getD_set_ne false (show 4 ≠ 21 by decide)] using h) ?_ (by assumption) (fun hHeld2 => ?_)
                rotate_left 1
                · (intro _ _ _ _ _; first | (go_simp; done) | (go_simp; with_reducible rfl))
                clear hHeld; have hHeld := hHeld2; clear hHeld2
                (try simp only [Act.put, List.setIfInBounds_toArray, List.set_cons_zero, List.set_cons_succ])
                refine lTake (i := 5) (v := ?_) rfl (by kernel_rfl) (by kernel_rfl) (by kernel_rfl) (fun _ _ _ h => h) (by rfl) (fun _ _ h => by simpa only [getD_set_ne false (show 5 ≠ 18 by decide), getD_set_ne false (show 5 ≠ 21 by decide)] using h) (fun _ _ h => by simpa only [getD_set_ne false (show 5 ≠ 18 by decide), getD_set_ne false (show 5 ≠ 21 by decide)] using h) ?_ (by assumption) (fun hHeld2 => ?_)
                rotate_left 1
                · (intro L W hL hK hSw; (try dsimp only at hSw); obtain ⟨h0, h1, h2⟩ := hSw; replace h1 := still [] hK hL (by kernel_rfl) h1; replace h2 := still [] hK hL (by kernel_rfl) h2; clear hL hK; first | (go_simp; done) | (go_simp; with_reducible rfl))
                clear hHeld; have hHeld := hHeld2; clear hHeld2
                (try simp only [Act.put, List.setIfInBounds_toArray, List.set_cons_zero, List.set_cons_succ])
                refine lTake (i := 6) (v := ?_) rfl (by kernel_rfl) (by kernel_rfl) (by kernel_rfl) (fun _ _ _ h => h) (by rfl) (fun _ _ h => by simpa only [getD_set_ne false (show 6 ≠ 18 by decide), getD_set_ne false (show 6 ≠ 21 by decide)] using h) (fun _ _ h => by simpa only [getD_set_ne false (show 6 ≠ 18 by decide), getD_set_ne false (show 6 ≠ 21 by decide)] using h) ?_ (by assumption) (fun hHeld2 => ?_)
                rotate_left 1
                · (intro _ _ _ _ _; first | (go_simp; done) | (go_simp; with_reducible rfl))
                clear hHeld; have hHeld := hHeld2; clear hHeld2
                (try simp only [Act.put, List.setIfInBounds_toArray, List.set_cons_zero, List.set_cons_succ])
                refine lTake (i := 9) (v := ?_) rfl (by kernel_rfl) (by kernel_rfl) (by kernel_rfl) (fun _ _ _ h => h) (by rfl) (fun _ _ h => by simpa only [getD_set_ne false (show 9 ≠ 18 by decide), getD_set_ne false (show 9 ≠ 21 by decide)] using h) (fun _ _ h => by simpa only [getD_set_ne false (show 9 ≠ 18 by decide), getD_set_ne false (show 9 ≠ 21 by decide)] using h) ?_ (by assumption) (fun hHeld2 => ?_)
                rotate_left 1
                · (intro _ _ _ _ _; first | (go_simp; done) | (go_simp; with_reducible rfl))
                clear hHeld; have hHeld := hHeld2; clear hHeld2
                (try simp only [Act.put, List.setIfInBounds_toArray, List.set_cons_zero, List.set_cons_succ])
                refine lTake (i := 10) (v := ?_) rfl (by kernel_rfl) (by kernel_rfl) (by kernel_rfl) (fun _ _ _ h => h) (by rfl) (fun _ _ h => by simpa only [getD_set_ne false (show 10 ≠ 18 by decide), getD_set_ne false (show 10 ≠ 21 by decide)] using h) (fun _ _ h => by simpa only [getD_set_ne false (show 10 ≠ 18 by decide), getD_set_ne false (show 10 ≠ 21 by decide)] using h) ?_ (by assumption) (fun hHeld2 => ?_)
                rotate_left 1
                · (intro _ _ _ _ _; first | (go_simp; done) | (go_simp; with_reducible rfl))
                clear hHeld; have hHeld := hHeld2; clear hHeld2
                (try simp only [Act.put, List.setIfInBounds_toArray, List.set_cons_zero, List.set_cons_succ])
                refine lTake (i := 11) (v := ?_) rfl (by kernel_rfl) (by kernel_rfl) (by kernel_rfl) (fun _ _ _ h => h) (by rfl) (fun _ _ h => by simpa only [getD_set_ne false (show 11 ≠ 18 by decide), getD_set_ne false (show 11 ≠ 21 by decide)] using h) (fun _ _ h => by simpa only [getD_set_ne false (show 11 ≠ 18 by decide), getD_set_ne false (show 11 ≠ 21 by decide)] using h) ?_ (by assumption) (fun hHeld2 => ?_)
                rotate_left 1
                · (intro _ _ _ _ _; first | (go_simp; done) | (go_simp; with_reducible rfl))
                clear hHeld; have hHeld := hHeld2; clear hHeld2
                (try simp only [Act.put, List.setIfInBounds_toArray, List.set_cons_zero, List.set_cons_succ])
                refine lTake (i := 12) (v := ?_) rfl (by kernel_rfl) (by kernel_rfl) (by kernel_rfl) (fun _ _ _ h => h) (by rfl) (fun _ _ h => by simpa only [getD_set_ne false (show 12 ≠ 18 by decide), getD_set_ne false (show 12 ≠ 21 by decide)] using h) (fun _ _ h => by simpa only [getD_set_ne false (show 12 ≠ 18 by decide), getD_set_ne false (show 12 ≠ 21 by decide)] using h) ?_ (by assumption) (fun hHeld2 => ?_)
                rotate_left 1
                · (intro L W hL hK hSw; (try dsimp only at hSw); obtain ⟨h0, h1, h2⟩ := hSw; replace h1 := still [] hK hL (by kernel_rfl) h1; replace h2 := still [] hK hL (by kernel_rfl) h2; clear hL hK; first | (go_simp; done) | (go_simp; with_reducible rfl))
                clear hHeld; have hHeld := hHeld2; clear hHeld2
                (try simp only [Act.put, List.setIfInBounds_toArray, List.set_cons_zero, List.set_cons_succ])
                refine lTake (i := 13) (v := ?_) rfl (by kernel_rfl) (by kernel_rfl) (by kernel_rfl) (fun _ _ _ h => h) (by rfl) (fun _ _ h => by simpa only [getD_set_ne false (show 13 ≠ 18 by decide), getD_set_ne false (show 13 ≠ 21 by decide)] using h) (fun _ _ h => by simpa only [getD_set_ne false (show 13 ≠ 18 by decide), getD_set_ne false (show 13 ≠ 21 by decide)] using h) ?_ (by assumption) (fun hHeld2 => ?_)
                rotate_left 1
                · (intro _ _ _ _ _; first | (go_simp; done) | (go_simp; with_reducible rfl))
                clear hHeld; have hHeld := hHeld2; clear hHeld2
                (try simp only [Act.put, List.setIfInBounds_toArray, List.set_cons_zero, List.set_cons_succ])
                refine lReady (rs := [7, 14]) (by kernel_rfl) (by simp) ?_
                refine AllL.cons (i := 7) rfl (fun K hK => ?_) ?_
                · refine step_new (.cells #[.slice (some ⟨gi, 0, none⟩) n n] 26) (fun g => .slice (some ⟨g, 0, none⟩) 1 1) rfl (by kernel_rfl) ?_; intro b7 v7 z7 hc7 hb7; (try have H14 := Lib.hid (H14.out.below hb7 H14.out.lt)); have H7 := Lib.hid (show Blk v7 b7 26 [.slice (some ⟨gi, 0, none⟩) n n] from hc7); have HX := Lib.hid (HX.out.below hb7); have GZ := Lib.hid (Nat.le_trans GZ.out hb7.size); clear hc7 hb7 z7
                  (try go_wp2_with fail)
                  refine hK.out _ _ ?_ (fun hHeld2 => ?_)
                  · (try dsimp only); refine ⟨?_, Or.inr ?_, Or.inr ?_⟩
                    · (first | trivial | with_reducible assumption)
                    · (with_reducible exact HX.out.b.cell 2 rfl)
                    · (first | (with_reducible exact HX.out.b.cell 3 rfl) | (go_simp; done))
                  clear hK K
                  clear hHeld; have hHeld := hHeld2; clear hHeld2
                  (try simp only [Act.put, List.setIfInBounds_toArray, List.set_cons_zero, List.set_cons_succ])
                  refine lReady (rs := [8, 14]) (by kernel_rfl) (by simp) ?_
                  refine AllL.cons (i := 8) rfl (fun K hK => ?_) ?_
                  · refine step_append_any (.tmp 214) (.tmp 216) 111 rfl rfl w.heap.size 26 i26 (.slice none 0 0) 1 24 Try.underlying111 h26i h26z h26s h26b rfl (by decide) AI i ci vi (by rfl) HX.out.oi (some ⟨b7, 0, none⟩) 1 1 [.slice (some ⟨gi, 0, none⟩) n n] (by rfl) (by rfl) (.inr ⟨_, rfl, fun k u hk => by rcases k with _ | k <;> simp at hk; subst hk; exact H7.out.cell 0 rfl⟩) (by simp [Value.oneCell']) (by unfold maxLen; omega) (by omega) HX.out.bel.size ?_; intro AI2 ci2 v8 hown hgrow hat; (try have H14 := Lib.hid (H14.out.grown hgrow (fun e => by have := HN14.out b14 (ownB_iff.2 e.symm); omega))); have GZ := Lib.hid (Nat.le_trans GZ.out hgrow.size); have HX := Lib.hid (HX.out.growI (Nat.le_refl _) hgrow hown hat); clear hown hgrow hat
                    (try go_wp2_with fail)
                    refine hK.out _ _ ?_ (fun hHeld2 => ?_)
                    · (try dsimp only); refine ⟨?_, Or.inr ?_, Or.inr ?_⟩
                      · (first | trivial | with_reducible assumption)
                      · (with_reducible exact HX.out.b.cell 2 rfl)
                      · (first | (with_reducible exact HX.out.b.cell 3 rfl) | (go_simp; done))
                    clear hK K
                    clear hHeld; have hHeld := hHeld2; clear hHeld2
                    (try simp only [Act.put, List.setIfInBounds_toArray, List.set_cons_zero, List.set_cons_succ])
                    refine lReady (rs := [14]) (by kernel_rfl) (by simp) ?_
                    refine AllL.cons (i := 14) rfl (fun K hK => ?_) ?_
                    · refine step_new (.cells #[.slice (some ⟨go, 0, none⟩) n n] 26) (fun g => .slice (some ⟨g, 0, none⟩) 1 1) rfl (by kernel_rfl) ?_; intro b14 v14 z14 hc14 hb14; (try have H7 := Lib.hid (H7.out.below hb14 H7.out.lt)); (try have HN14 := Lib.hid (show ∀ k, OwnB AI k → k < b14 from fun k hk => Nat.lt_of_lt_of_le (ownLt HX.out.oi hk).1 z14)); have H14 := Lib.hid (show Blk v14 b14 26 [.slice (some ⟨go, 0, none⟩) n n] from hc14); have HX := Lib.hid (HX.out.below hb14); have GZ := Lib.hid (Nat.le_trans GZ.out hb14.size); clear hc14 hb14 z14
                      (try go_wp2_with fail)
                      refine hK.out _ _ ?_ (fun hHeld2 => ?_)
                      · (try dsimp only); refine ⟨?_, Or.inr ?_, Or.inr ?_⟩
                        · (first | trivial | with_reducible assumption)
                        · (with_reducible exact HX.out.b.cell 2 rfl)
                        · (first | (with_reducible exact HX.out.b.cell 3 rfl) | (go_simp; done))
                      clear hK K
                      clear hHeld; have hHeld := hHeld2; clear hHeld2
                      (try simp only [Act.put, List.setIfInBounds_toArray, List.set_cons_zero, List.set_cons_succ])
                      refine lReady (rs := [15]) (by kernel_rfl) (by simp) ?_
                      refine AllL.cons (i := 15) rfl (fun K hK => ?_) ?_
                      · refine step_append_any (.tmp 221) (.tmp 223) 111 rfl rfl w.heap.size 26 i26 (.slice none 0 0) 1 24 Try.underlying111 h26i h26z h26s h26b rfl (by decide) AO i co vo (by rfl) HX.out.oo (some ⟨b14, 0, none⟩) 1 1 [.slice (some ⟨go, 0, none⟩) n n] (by rfl) (by rfl) (.inr ⟨_, rfl, fun k u hk => by rcases k with _ | k <;> simp at hk; subst hk; exact H14.out.cell 0 rfl⟩) (by simp [Value.oneCell']) (by unfold maxLen; omega) (by omega) HX.out.bel.size ?_; intro AO2 co2 v15 hown hgrow hat; have GZ := Lib.hid (Nat.le_trans GZ.out hgrow.size); have HX := Lib.hid (HX.out.growO (Nat.le_refl _) hgrow hown hat); have q2 := HX.out.b.cell 2 rfl; have q3 := HX.out.b.cell 3 rfl; have z2 := HX.out.b.free 2; have z3 := HX.out.b.free 3; have qlt := HX.out.b.lt; clear hown hgrow hat
                        (try go_wp2_with fail)
                        refine hK.out _ _ ?_ (fun hHeld2 => ?_)
                        · (try dsimp only); refine ⟨?_, Or.inr ?_, Or.inr ?_⟩
                          · (first | trivial | with_reducible assumption)
                          · (with_reducible exact HX.out.b.cell 2 rfl)
                          · (first | (with_reducible exact HX.out.b.cell 3 rfl) | (go_simp; done))
                        clear hK K
                        clear hHeld; have hHeld := hHeld2; clear hHeld2
                        (try simp only [Act.put, List.setIfInBounds_toArray, List.set_cons_zero, List.set_cons_succ])
                        refine lTake (i := 16) (v := ?_) rfl (by kernel_rfl) (by kernel_rfl) (by kernel_rfl) (fun _ _ _ h => h) (by rfl) (fun _ _ h => by simpa only [getD_set_ne false (show 16 ≠ 18 by decide), getD_set_ne false (show 16 ≠ 21 by decide)] using h) (fun _ _ h => by simpa only [getD_set_ne false (show 16 ≠ 18 by decide), getD_set_ne false (show 16 ≠ 21 by decide)] using h) ?_ (by assumption) (fun hHeld2 => ?_)
                        rotate_left 1
                        · (intro _ _ _ _ _; first | (go_simp; done) | (go_simp; with_reducible rfl))
                        clear hHeld; have hHeld := hHeld2; clear hHeld2
                        (try simp only [Act.put, List.setIfInBounds_toArray, List.set_cons_zero, List.set_cons_succ])
                        refine lTake (i := 17) (v := ?_) rfl (by kernel_rfl) (by kernel_rfl) (by kernel_rfl) (fun _ _ _ h => h) (by rfl) (fun _ _ h => by simpa only [getD_set_ne false (show 17 ≠ 18 by decide), getD_set_ne false (show 17 ≠ 21 by decide)] using h) (fun _ _ h => by simpa only [getD_set_ne false (show 17 ≠ 18 by decide), getD_set_ne false (show 17 ≠ 21 by decide)] using h) ?_ (by assumption) (fun hHeld2 => ?_)
                        rotate_left 1
                        · (intro _ _ _ _ _; first | (go_simp; done) | (go_simp; with_reducible rfl))
                        clear hHeld; have hHeld := hHeld2; clear hHeld2
                        (try simp only [Act.put, List.setIfInBounds_toArray, List.set_cons_zero, List.set_cons_succ])
                        refine lReady (rs := [18]) (by kernel_rfl) (by simp) ?_
                        refine AllL.cons (i := 18) rfl (fun K hK => ?_) ?_
                        · go_simp
                          (try go_wp2_with fail)
                          refine hK.out _ _ ?_ (fun hHeld2 => ?_)
                          · (try dsimp only); refine ⟨?_, Or.inl (by rfl), Or.inr ?_⟩
                            · (first | trivial | with_reducible assumption)
                            · (first | (with_reducible exact HX.out.b.cell 3 rfl) | (go_simp; done))
                          clear hK K
                          clear hHeld; have hHeld := hHeld2; clear hHeld2
                          (try simp only [Act.put, List.setIfInBounds_toArray, List.set_cons_zero, List.set_cons_succ])
                          refine lTake (i := 19) (v := ?_) rfl (by kernel_rfl) (by kernel_rfl) (by kernel_rfl) (fun _ _ _ h => h) (by rfl) (fun _ _ h => by simpa only [getD_set_ne false (show 19 ≠ 18 by decide), getD_set_ne false (show 19 ≠ 21 by decide)] using h) (fun _ _ h => by simpa only [getD_set_ne false (show 19 ≠ 18 by decide), getD_set_ne false (show 19 ≠ 21 by decide)] using h) ?_ (by assumption) (fun hHeld2 => ?_)
                          rotate_left 1
                          · (intro _ _ _ _ _; first | (go_simp; done) | (go_simp; with_reducible rfl))
                          clear hHeld; have hHeld := hHeld2; clear hHeld2
                          (try simp only [Act.put, List.setIfInBounds_toArray, List.set_cons_zero, List.set_cons_succ])
                          refine lTake (i := 20) (v := ?_) rfl (by kernel_rfl) (by kernel_rfl) (by kernel_rfl) (fun _ _ _ h => h) (by rfl) (fun _ _ h => by simpa only [getD_set_ne false (show 20 ≠ 18 by decide), getD_set_ne false (show 20 ≠ 21 by decide)] using h) (fun _ _ h => by simpa only [getD_set_ne false (show 20 ≠ 18 by decide), getD_set_ne false (show 20 ≠ 21 by decide)] using h) ?_ (by assumption) (fun hHeld2 => ?_)
                          rotate_left 1
                          · (intro _ _ _ _ _; first | (go_simp; done) | (go_simp; with_reducible rfl))
                          clear hHeld; have hHeld := hHeld2; clear hHeld2
                          (try simp only [Act.put, List.setIfInBounds_toArray, List.set_cons_zero, List.set_cons_succ])
                          refine lReady (rs := [21]) (by kernel_rfl) (by simp) ?_
                          refine AllL.cons (i := 21) rfl (fun K hK => ?_) ?_
                          · go_simp
                            (try go_wp2_with fail)
                            refine hK.out _ _ ?_ (fun hHeld2 => ?_)
                            · (try dsimp only); refine ⟨?_, Or.inl (by rfl), Or.inl (by rfl)⟩
                              · (first | trivial | with_reducible assumption)
                            clear hK K
                            clear hHeld; have hHeld := hHeld2; clear hHeld2
                            (try simp only [Act.put, List.setIfInBounds_toArray, List.set_cons_zero, List.set_cons_succ])
                            refine lDone (by kernel_rfl) ?_ _
                            have HBE := Lib.hid (BuiJ.of HN.out HX.out HRR.out GZ.out)
                            generalize (v15.setCell ⟨gb, 2, none⟩ (.slice AI2 (i + 1) ci2)).setCell ⟨gb, 3, none⟩ (.slice AO2 (i + 1) co2) = wE at HBE ⊢
                            clear q2 q3 z2 z3 qlt HX H7 H14
                            go_wp2_with fail
                            go_roundw
                            case measure => simp [intOf]; omega
                            case rel => exact ⟨i + 1, by omega, by go_num, by rw [HANN.out], HBE⟩
                          exact AllL.nil
                        exact AllL.nil
                      exact AllL.nil
                    exact AllL.nil
                  refine AllL.cons (i := 14) rfl (fun K hK => ?_) ?_
                  · refine step_new (.cells #[.slice (some ⟨go, 0, none⟩) n n] 26) (fun g => .slice (some ⟨g, 0, none⟩) 1 1) rfl (by kernel_rfl) ?_; intro b14 v14 z14 hc14 hb14; (try have H7 := Lib.hid (H7.out.below hb14 H7.out.lt)); (try have HN14 := Lib.hid (show ∀ k, OwnB AI k → k < b14 from fun k hk => Nat.lt_of_lt_of_le (ownLt HX.out.oi hk).1 z14)); have H14 := Lib.hid (show Blk v14 b14 26 [.slice (some ⟨go, 0, none⟩) n n] from hc14); have HX := Lib.hid (HX.out.below hb14); have GZ := Lib.hid (Nat.le_trans GZ.out hb14.size); clear hc14 hb14 z14
                    (try go_wp2_with fail)
                    refine hK.out _ _ ?_ (fun hHeld2 => ?_)
                    · (try dsimp only); refine ⟨?_, Or.inr ?_, Or.inr ?_⟩
                      · (first | trivial | with_reducible assumption)
                      · (with_reducible exact HX.out.b.cell 2 rfl)
                      · (first | (with_reducible exact HX.out.b.cell 3 rfl) | (go_simp; done))
                    clear hK K
                    clear hHeld; have hHeld := hHeld2; clear hHeld2
                    (try simp only [Act.put, List.setIfInBounds_toArray, List.set_cons_zero, List.set_cons_succ])
                    refine lReady (rs := [8]) (by kernel_rfl) (by simp) ?_
                    refine AllL.cons (i := 8) rfl (fun K hK => ?_) ?_
                    · refine step_append_any (.tmp 214) (.tmp 216) 111 rfl rfl w.heap.size 26 i26 (.slice none 0 0) 1 24 Try.underlying111 h26i h26z h26s h26b rfl (by decide) AI i ci vi (by rfl) HX.out.oi (some ⟨b7, 0, none⟩) 1 1 [.slice (some ⟨gi, 0, none⟩) n n] (by rfl) (by rfl) (.inr ⟨_, rfl, fun k u hk => by rcases k with _ | k <;> simp at hk; subst hk; exact H7.out.cell 0 rfl⟩) (by simp [Value.oneCell']) (by unfold maxLen; omega) (by omega) HX.out.bel.size ?_; intro AI2 ci2 v8 hown hgrow hat; (try have H14 := Lib.hid (H14.out.grown hgrow (fun e => by have := HN14.out b14 (ownB_iff.2 e.symm); omega))); have GZ := Lib.hid (Nat.le_trans GZ.out hgrow.size); have HX := Lib.hid (HX.out.growI (Nat.le_refl _) hgrow hown hat); clear hown hgrow hat
                      (try go_wp2_with fail)
                      refine hK.out _ _ ?_ (fun hHeld2 => ?_)
                      · (try dsimp only); refine ⟨?_, Or.inr ?_, Or.inr ?_⟩
                        · (first | trivial | with_reducible assumption)
                        · (with_reducible exact HX.out.b.cell 2 rfl)
                        · (first | (with_reducible exact HX.out.b.cell 3 rfl) | (go_simp; done))
                      clear hK K
                      clear hHeld; have hHeld := hHeld2; clear hHeld2
                      (try simp only [Act.put, List.setIfInBounds_toArray, List.set_cons_zero, List.set_cons_succ])
                      refine lReady (rs := [15]) (by kernel_rfl) (by simp) ?_
                      refine AllL.cons (i := 15) rfl (fun K hK => ?_) ?_
                      · refine step_append_any (.tmp 221) (.tmp 223) 111 rfl rfl w.heap.size 26 i26 (.slice none 0 0) 1 24 Try.underlying111 h26i h26z h26s h26b rfl (by decide) AO i co vo (by rfl) HX.out.oo (some ⟨b14, 0, none⟩) 1 1 [.slice (some ⟨go, 0, none⟩) n n] (by rfl) (by rfl) (.inr ⟨_, rfl, fun k u hk => by rcases k with _ | k <;> simp at hk; subst hk; exact H14.out.cell 0 rfl⟩) (by simp [Value.oneCell']) (by unfold maxLen; omega) (by omega) HX.out.bel.size ?_; intro AO2 co2 v15 hown hgrow hat; have GZ := Lib.hid (Nat.le_trans GZ.out hgrow.size); have HX := Lib.hid (HX.out.growO (Nat.le_refl _) hgrow hown hat); have q2 := HX.out.b.cell 2 rfl; have q3 := HX.out.b.cell 3 rfl; have z2 := HX.out.b.free 2; have z3 := HX.out.b.free 3; have qlt := HX.out.b.lt; clear hown hgrow hat
                        (try go_wp2_with fail)
                        refine hK.out _ _ ?_ (fun hHeld2 => ?_)
                        · (try dsimp only); refine ⟨?_, Or.inr ?_, Or.inr ?_⟩
                          · (first | trivial | with_reducible assumption)
                          · (with_reducible exact HX.out.b.cell 2 rfl)
                          · (first | (with_reducible exact HX.out.b.cell 3 rfl) | (go_simp; done))
                        clear hK K
                        clear hHeld; have hHeld := hHeld2; clear hHeld2
                        (try simp only [Act.put, List.setIfInBounds_toArray, List.set_cons_zero, List.set_cons_succ])
                        refine lTake (i := 16) (v := ?_) rfl (by kernel_rfl) (by kernel_rfl) (by kernel_rfl) (fun _ _ _ h => h) (by rfl) (fun _ _ h => by simpa only [getD_set_ne false (show 16 ≠ 18 by decide), getD_set_ne false (show 16 ≠ 21 by decide)] using h) (fun _ _ h => by simpa only [getD_set_ne false (show 16 ≠ 18 by decide), getD_set_ne false (show 16 ≠ 21 by decide)] using h) ?_ (by assumption) (fun hHeld2 => ?_)
                        rotate_left 1
                        · (intro _ _ _ _ _; first | (go_simp; done) | (go_simp; with_reducible rfl))
                        clear hHeld; have hHeld := hHeld2; clear hHeld2
                        (try simp only [Act.put, List.setIfInBounds_toArray, List.set_cons_zero, List.set_cons_succ])
                        refine lTake (i := 17) (v := ?_) rfl (by kernel_rfl) (by kernel_rfl) (by kernel_rfl) (fun _ _ _ h => h) (by rfl) (fun _ _ h => by simpa only [getD_set_ne false (show 17 ≠ 18 by decide), getD_set_ne false (show 17 ≠ 21 by decide)] using h) (fun _ _ h => by simpa only [getD_set_ne false (show 17 ≠ 18 by decide), getD_set_ne false (show 17 ≠ 21 by decide)] using h) ?_ (by assumption) (fun hHeld2 => ?_)
                        rotate_left 1
                        · (intro _ _ _ _ _; first | (go_simp; done) | (go_simp; with_reducible rfl))
                        clear hHeld; have hHeld := hHeld2; clear hHeld2
                        (try simp only [Act.put, List.setIfInBounds_toArray, List.set_cons_zero, List.set_cons_succ])
                        refine lReady (rs := [18]) (by kernel_rfl) (by simp) ?_
                        refine AllL.cons (i := 18) rfl (fun K hK => ?_) ?_
                        · go_simp
                          (try go_wp2_with fail)
                          refine hK.out _ _ ?_ (fun hHeld2 => ?_)
                          · (try dsimp only); refine ⟨?_, Or.inl (by rfl), Or.inr ?_⟩
                            · (first | trivial | with_reducible assumption)
                            · (first | (with_reducible exact HX.out.b.cell 3 rfl) | (go_simp; done))
                          clear hK K
                          clear hHeld; have hHeld := hHeld2; clear hHeld2
                          (try simp only [Act.put, List.setIfInBounds_toArray, List.set_cons_zero, List.set_cons_succ])
                          refine lTake (i := 19) (v := ?_) rfl (by kernel_rfl) (by kernel_rfl) (by kernel_rfl) (fun _ _ _ h => h) (by rfl) (fun _ _ h => by simpa only [getD_set_ne false (show 19 ≠ 18 by decide), getD_set_ne false (show 19 ≠ 21 by decide)] using h) (fun _ _ h => by simpa only [getD_set_ne false (show 19 ≠ 18 by decide), getD_set_ne false (show 19 ≠ 21 by decide)] using h) ?_ (by assumption) (fun hHeld2 => ?_)
                          rotate_left 1
                          · (intro _ _ _ _ _; first | (go_simp; done) | (go_simp; with_reducible rfl))
                          clear hHeld; have hHeld := hHeld2; clear hHeld2
                          (try simp only [Act.put, List.setIfInBounds_toArray, List.set_cons_zero, List.set_cons_succ])
                          refine lTake (i := 20) (v := ?_) rfl (by kernel_rfl) (by kernel_rfl) (by kernel_rfl) (fun _ _ _ h => h) (by rfl) (fun _ _ h => by simpa only [getD_set_ne false (show 20 ≠ 18 by decide), getD_set_ne false (show 20 ≠ 21 by decide)] using h) (fun _ _ h => by simpa only [getD_set_ne false (show 20 ≠ 18 by decide), getD_set_ne false (show 20 ≠ 21 by decide)] using h) ?_ (by assumption) (fun hHeld2 => ?_)
                          rotate_left 1
                          · (intro _ _ _ _ _; first | (go_simp; done) | (go_simp; with_reducible rfl))
                          clear hHeld; have hHeld := hHeld2; clear hHeld2
                          (try simp only [Act.put, List.setIfInBounds_toArray, List.set_cons_zero, List.set_cons_succ])
                          refine lReady (rs := [21]) (by kernel_rfl) (by simp) ?_
                          refine AllL.cons (i := 21) rfl (fun K hK => ?_) ?_
                          · go_simp
                            (try go_wp2_with fail)
                            refine hK.out _ _ ?_ (fun hHeld2 => ?_)
                            · (try dsimp only); refine ⟨?_, Or.inl (by rfl), Or.inl (by rfl)⟩
                              · (first | trivial | with_reducible assumption)
                            clear hK K
                            clear hHeld; have hHeld := hHeld2; clear hHeld2
                            (try simp only [Act.put, List.setIfInBounds_toArray, List.set_cons_zero, List.set_cons_succ])
                            refine lDone (by kernel_rfl) ?_ _
                            have HBE := Lib.hid (BuiJ.of HN.out HX.out HRR.out GZ.out)
                            generalize (v15.setCell ⟨gb, 2, none⟩ (.slice AI2 (i + 1) ci2)).setCell ⟨gb, 3, none⟩ (.slice AO2 (i + 1) co2) = wE at HBE ⊢
                            clear q2 q3 z2 z3 qlt HX H7 H14
                            go_wp2_with fail
                            go_roundw
                            case measure => simp [intOf]; omega
                            case rel => exact ⟨i + 1, by omega, by go_num, by rw [HANN.out], HBE⟩
                          exact AllL.nil
                        exact AllL.nil
                      exact AllL.nil
                    exact AllL.nil
                  exact AllL.nil
                refine AllL.cons (i := 14) rfl (fun K hK => ?_) ?_
                · refine step_new (.cells #[.slice (some ⟨go, 0, none⟩) n n] 26) (fun g => .slice (some ⟨g, 0, none⟩) 1 1) rfl (by kernel_rfl) ?_; intro b14 v14 z14 hc14 hb14; (try have H7 := Lib.hid (H7.out.below hb14 H7.out.lt)); (try have HN14 := Lib.hid (show ∀ k, OwnB AI k → k < b14 from fun k hk => Nat.lt_of_lt_of_le (ownLt HX.out.oi hk).1 z14)); have H14 := Lib.hid (show Blk v14 b14 26 [.slice (some ⟨go, 0, none⟩) n n] from hc14); have HX := Lib.hid (HX.out.below hb14); have GZ := Lib.hid (Nat.le_trans GZ.out hb14.size); clear hc14 hb14 z14
                  (try go_wp2_with fail)
                  refine hK.out _ _ ?_ (fun hHeld2 => ?_)
                  · (try dsimp only); refine ⟨?_, Or.inr ?_, Or.inr ?_⟩
                    · (first | trivial | with_reducible assumption)
                    · (with_reducible exact HX.out.b.cell 2 rfl)
                    · (first | (with_reducible exact HX.out.b.cell 3 rfl) | (go_simp; done))
                  clear hK K
                  clear hHeld; have hHeld := hHeld2; clear hHeld2
                  (try simp only [Act.put, List.setIfInBounds_toArray, List.set_cons_zero, List.set_cons_succ])
                  refine lReady (rs := [7]) (by kernel_rfl) (by simp) ?_
                  refine AllL.cons (i := 7) rfl (fun K hK => ?_) ?_
                  · refine step_new (.cells #[.slice (some ⟨gi, 0, none⟩) n n] 26) (fun g => .slice (some ⟨g, 0, none⟩) 1 1) rfl (by kernel_rfl) ?_; intro b7 v7 z7 hc7 hb7; (try have H14 := Lib.hid (H14.out.below hb7 H14.out.lt)); have H7 := Lib.hid (show Blk v7 b7 26 [.slice (some ⟨gi, 0, none⟩) n n] from hc7); have HX := Lib.hid (HX.out.below hb7); have GZ := Lib.hid (Nat.le_trans GZ.out hb7.size); clear hc7 hb7 z7
                    (try go_wp2_with fail)
                    refine hK.out _ _ ?_ (fun hHeld2 => ?_)
                    · (try dsimp only); refine ⟨?_, Or.inr ?_, Or.inr ?_⟩
                      · (first | trivial | with_reducible assumption)
                      · (with_reducible exact HX.out.b.cell 2 rfl)
                      · (first | (with_reducible exact HX.out.b.cell 3 rfl) | (go_simp; done))
                    clear hK K
                    clear hHeld; have hHeld := hHeld2; clear hHeld2
                    (try simp only [Act.put, List.setIfInBounds_toArray, List.set_cons_zero, List.set_cons_succ])
                    refine lReady (rs := [8]) (by kernel_rfl) (by simp) ?_
                    refine AllL.cons (i := 8) rfl (fun K hK => ?_) ?_
                    · refine step_append_any (.tmp 214) (.tmp 216) 111 rfl rfl w.heap.size 26 i26 (.slice none 0 0) 1 24 Try.underlying111 h26i h26z h26s h26b rfl (by decide) AI i ci vi (by rfl) HX.out.oi (some ⟨b7, 0, none⟩) 1 1 [.slice (some ⟨gi, 0, none⟩) n n] (by rfl) (by rfl) (.inr ⟨_, rfl, fun k u hk => by rcases k with _ | k <;> simp at hk; subst hk; exact H7.out.cell 0 rfl⟩) (by simp [Value.oneCell']) (by unfold maxLen; omega) (by omega) HX.out.bel.size ?_; intro AI2 ci2 v8 hown hgrow hat; (try have H14 := Lib.hid (H14.out.grown hgrow (fun e => by have := HN14.out b14 (ownB_iff.2 e.symm); omega))); have GZ := Lib.hid (Nat.le_trans GZ.out hgrow.size); have HX := Lib.hid (HX.out.growI (Nat.le_refl _) hgrow hown hat); clear hown hgrow hat
                      (try go_wp2_with fail)
                      refine hK.out _ _ ?_ (fun hHeld2 => ?_)
                      · (try dsimp only); refine ⟨?_, Or.inr ?_, Or.inr ?_⟩
                        · (first | trivial | with_reducible assumption)
                        · (with_reducible exact HX.out.b.cell 2 rfl)
                        · (first | (with_reducible exact HX.out.b.cell 3 rfl) | (go_simp; done))
                      clear hK K
                      clear hHeld; have hHeld := hHeld2; clear hHeld2
                      (try simp only [Act.put, List.setIfInBounds_toArray, List.set_cons_zero, List.set_cons_succ])
                      refine lReady (rs := [15]) (by kernel_rfl) (by simp) ?_
                      refine AllL.cons (i := 15) rfl (fun K hK => ?_) ?_
                      · refine step_append_any (.tmp 221) (.tmp 223) 111 rfl rfl w.heap.size 26 i26 (.slice none 0 0) 1 24 Try.underlying111 h26i h26z h26s h26b rfl (by decide) AO i co vo (by rfl) HX.out.oo (some ⟨b14, 0, none⟩) 1 1 [.slice (some ⟨go, 0, none⟩) n n] (by rfl) (by rfl) (.inr ⟨_, rfl, fun k u hk => by rcases k with _ | k <;> simp at hk; subst hk; exact H14.out.cell 0 rfl⟩) (by simp [Value.oneCell']) (by unfold maxLen; omega) (by omega) HX.out.bel.size ?_; intro AO2 co2 v15 hown hgrow hat; have GZ := Lib.hid (Nat.le_trans GZ.out hgrow.size); have HX := Lib.hid (HX.out.growO (Nat.le_refl _) hgrow hown hat); have q2 := HX.out.b.cell 2 rfl; have q3 := HX.out.b.cell 3 rfl; have z2 := HX.out.b.free 2; have z3 := HX.out.b.free 3; have qlt := HX.out.b.lt; clear hown hgrow hat
                        (try go_wp2_with fail)
                        refine hK.out _ _ ?_ (fun hHeld2 => ?_)
                        · (try dsimp only); refine ⟨?_, Or.inr ?_, Or.inr ?_⟩
                          · (first | trivial | with_reducible assumption)
                          · (with_reducible exact HX.out.b.cell 2 rfl)
                          · (first | (with_reducible exact HX.out.b.cell 3 rfl) | (go_simp; done))
                        clear hK K
                        clear hHeld; have hHeld := hHeld2; clear hHeld2
                        (try simp only [Act.put, List.setIfInBounds_toArray, List.set_cons_zero, List.set_cons_succ])
                        refine lTake (i := 16) (v := ?_) rfl (by kernel_rfl) (by kernel_rfl) (by kernel_rfl) (fun _ _ _ h => h) (by rfl) (fun _ _ h => by simpa only [getD_set_ne false (show 16 ≠ 18 by decide), getD_set_ne false (show 16 ≠ 21 by decide)] using h) (fun _ _ h => by simpa only [getD_set_ne false (show 16 ≠ 18 by decide), getD_set_ne false (show 16 ≠ 21 by decide)] using h) ?_ (by assumption) (fun hHeld2 => ?_)
                        rotate_left 1
                        · (intro _ _ _ _ _; first | (go_simp; done) | (go_simp; with_reducible rfl))
                        clear hHeld; have hHeld := hHeld2; clear hHeld2
                        (try simp only [Act.put, List.setIfInBounds_toArray, List.set_cons_zero, List.set_cons_succ])
                        refine lTake (i := 17) (v := ?_) rfl (by kernel_rfl) (by kernel_rfl) (by kernel_rfl) (fun _ _ _ h => h) (by rfl) (fun _ _ h => by simpa only [getD_set_ne false (show 17 ≠ 18 by decide), getD_set_ne false (show 17 ≠ 21 by decide)] using h) (fun _ _ h => by simpa only [getD_set_ne false (show 17 ≠ 18 by decide), getD_set_ne false (show 17 ≠ 21 by decide)] using h) ?_ (by assumption) (fun hHeld2 => ?_)
                        rotate_left 1
                        · (intro _ _ _ _ _; first | (go_simp; done) | (go_simp; with_reducible rfl))
                        clear hHeld; have hHeld := hHeld2; clear hHeld2
                        (try simp only [Act.put, List.setIfInBounds_toArray, List.set_cons_zero, List.set_cons_succ])
                        refine lReady (rs := [18]) (by kernel_rfl) (by simp) ?_
                        refine AllL.cons (i := 18) rfl (fun K hK => ?_) ?_
                        · go_simp
                          (try go_wp2_with fail)
                          refine hK.out _ _ ?_ (fun hHeld2 => ?_)
                          · (try dsimp only); refine ⟨?_, Or.inl (by rfl), Or.inr ?_⟩
                            · (first | trivial | with_reducible assumption)
                            · (first | (with_reducible exact HX.out.b.cell 3 rfl) | (go_simp; done))
                          clear hK K
                          clear hHeld; have hHeld := hHeld2; clear hHeld2
                          (try simp only [Act.put, List.setIfInBounds_toArray, List.set_cons_zero, List.set_cons_succ])
                          refine lTake (i := 19) (v := ?_) rfl (by kernel_rfl) (by kernel_rfl) (by kernel_rfl) (fun _ _ _ h => h) (by rfl) (fun _ _ h => by simpa only [getD_set_ne false (show 19 ≠ 18 by decide), getD_set_ne false (show 19 ≠ 21 by decide)] using h) (fun _ _ h => by simpa only [getD_set_ne false (show 19 ≠ 18 by decide), getD_set_ne false (show 19 ≠ 21 by decide)] using h) ?_ (by assumption) (fun hHeld2 => ?_)
                          rotate_left 1
                          · (intro _ _ _ _ _; first | (go_simp; done) | (go_simp; with_reducible rfl))
                          clear hHeld; have hHeld := hHeld2; clear hHeld2
                          (try simp only [Act.put, List.setIfInBounds_toArray, List.set_cons_zero, List.set_cons_succ])
                          refine lTake (i := 20) (v := ?_) rfl (by kernel_rfl) (by kernel_rfl) (by kernel_rfl) (fun _ _ _ h => h) (by rfl) (fun _ _ h => by simpa only [getD_set_ne false (show 20 ≠ 18 by decide), getD_set_ne false (show 20 ≠ 21 by decide)] using h) (fun _ _ h => by simpa only [getD_set_ne false (show 20 ≠ 18 by decide), getD_set_ne false (show 20 ≠ 21 by decide)] using h) ?_ (by assumption) (fun hHeld2 => ?_)
                          rotate_left 1
                          · (intro _ _ _ _ _; first | (go_simp; done) | (go_simp; with_reducible rfl))
                          clear hHeld; have hHeld := hHeld2; clear hHeld2
                          (try simp only [Act.put, List.setIfInBounds_toArray, List.set_cons_zero, List.set_cons_succ])
                          refine lReady (rs := [21]) (by kernel_rfl) (by simp) ?_
                          refine AllL.cons (i := 21) rfl (fun K hK => ?_) ?_
                          · go_simp
                            (try go_wp2_with fail)
                            refine hK.out _ _ ?_ (fun hHeld2 => ?_)
                            · (try dsimp only); refine ⟨?_, Or.inl (by rfl), Or.inl (by rfl)⟩
                              · (first | trivial | with_reducible assumption)
                            clear hK K
                            clear hHeld; have hHeld := hHeld2; clear hHeld2
                            (try simp only [Act.put, List.setIfInBounds_toArray, List.set_cons_zero, List.set_cons_succ])
                            refine lDone (by kernel_rfl) ?_ _
                            have HBE := Lib.hid (BuiJ.of HN.out HX.out HRR.out GZ.out)
                            generalize (v15.setCell ⟨gb, 2, none⟩ (.slice AI2 (i + 1) ci2)).setCell ⟨gb, 3, none⟩ (.slice AO2 (i + 1) co2) = wE at HBE ⊢
                            clear q2 q3 z2 z3 qlt HX H7 H14
                            go_wp2_with fail
                            go_roundw
                            case measure => simp [intOf]; omega
                            case rel => exact ⟨i + 1, by omega, by go_num, by rw [HANN.out], HBE⟩
                          exact AllL.nil
                        exact AllL.nil
                      exact AllL.nil
                    exact AllL.nil
                  exact AllL.nil
                exact AllL.nil
    · obtain rfl : m = i := by omega
      go_wp2_with fail
      have hfin := HR.out
      unfold CoK at hfin
      exact hfin _ _ _ _ _ _ _ _ _ _ _ _ _ _ _ _ _ _ _ _ _ _ _ _ _ _ _ _ _ _ _ _ _ _ _ _ _ _ _ _ _ _ _ _ _ _ _ _ _ _ _ _ _ _ _ _ _ _ _ _ _ _ _ _ _ _ _ _ _ _ _ _ _ _ _ _ _ _ _ _ _ _ _ _ _ _ _ _ _ _ _ _ _ _ _ _ _ _ _ _ _ _ _ _ _ _ _ _ _ _ _ _ _ _ _ _ _ _ _ _ _ _ _ _ _ _ _ _ _ _ _ _ _ _ _ _ _ _ _ _ _ _ _ _ _ _ _ _ _ _ _ _ _ _ _ _ _ _ _ _ _ _ _ _ _ _ _ _ _ _ _ _ _ _ _ _ _ _ _ _ _ _ _ _ _ _ _ _ _ _ _ _ _ _ _ _ _ _ _ _ _ _ _ _ _ _ _ _ _ _ _ _ _ _ _ _ _ _ _ _ _ _ _ _ _ _ _ _ _ _ _ _ _ _ _ _ _ _ _ _ _ _ _ _ _ _ _ _ _ _ _ _ _ HJ.out
end Go.Proofs.Ytmebpglkeedaoaa
namespace Go.Proofs.Ytmebpglkeedaoaa
open Go.RowKit Dp
def BldP (S : Site) (cs : List Car) (w : World) (gb : Nat) (W : World) : Prop := ∃ gs A cap AI AO ci co vi vo, BdJ w gs gb A cap AI AO ci co cs.length vi vo (supN S cs) (carsA S cs cs.length) W ∧ RowsF W S.lim.length W.heap.size vi (inR S cs) cs.length ∧ RowsF W S.lim.length W.heap.size vo (outR S cs) cs.length
def R76 (S : Site) (cs : List Car) (w : World) : Ending → World → Prop := fun e w' => ∃ b, e = .returned (.pointer (some ⟨b, 0, none⟩)) ∧ BldP S cs w b w'
set_option maxHeartbeats 8000000 in
set_option maxRecDepth 100000 in
theorem bld8 (S : Site) (cs : List Car) (gs gb M : Nat) (w W0 : World) (h0 : stE S cs = 0) (hM : M = nodesN S cs) (hJ : BuiJ S cs w gs gb M cs.length W0) {y0 y1 y2 y3 y4 y5 y7 y8 y9 y10 y11 y12 y13 y14 y15 y16 y17 y18 y19 y20 y21 y22 y23 y24 y25 y26 y27 y28 y29 y30 y31 y32 y33 y34 y35 y36 y37 y38 y39 y40 y41 y42 y43 y44 y45 y46 y47 y48 y49 y50 y51 y52 y53 y54 y55 y56 y57 y58 y59 y60 y61 y62 y63 y64 y65 y66 y67 y68 y69 y70 y71 y72 y73 y74 y75 y76 y77 y78 y79 y80 y81 y82 y83 y84 y85 y86 y87 y88 y89 y90 y91 y92 y93 y94 y95 y96 y97 y98 y99 y100 y101 y102 y103 y104 y105 y106 y107 y108 y109 y110 y111 y112 y113 y114 y115 y116 y117 y118 y119 y120 y121 y122 y123 y124 y125 y126 y127 y128 y129 y130 y131 y132 y133 y134 y135 y136 y137 y138 y139 y140 y141 y142 y143 y144 y145 y146 y147 y148 y149 y150 y151 y152 y153 y154 y155 y156 y157 y158 y159 y160 y161 y162 y163 y164 y165 y166 y167 y168 y169 y170 y171 y172 y173 y174 y175 y176 y177 y178 y179 y180 y181 y182 y183 y184 y185 y186 y187 y188 y189 y190 y191 y192 y193 y194 y195 y196 y197 y198 y199 y200 y201 y202 y203 y204 y205 y206 y207 y208 y209 y210 y211 y212 y213 y214 y215 y216 y217 y218 y219 y220 y221 y222 y223 y224 y225 y226 y227 y228 y229 y230 y231 y232 y233 y234 y235 y236 y237 y238 y239 y240 y241 y242 y243 y244 y245 y246 y247 y248 y249 y250 y251 y252 : Value} :
    Code.wp Try.prog end76 (bodyPost Try.prog Try.f76 (R76 S cs w)) { tmps := List.toArray (y0 :: y1 :: y2 :: y3 :: y4 :: y5 :: (.pointer (some ⟨gb, 0, none⟩) : Value) :: y7 :: y8 :: y9 :: y10 :: y11 :: y12 :: y13 :: y14 :: y15 :: y16 :: y17 :: y18 :: y19 :: y20 :: y21 :: y22 :: y23 :: y24 :: y25 :: y26 :: y27 :: y28 :: y29 :: y30 :: y31 :: y32 :: y33 :: y34 :: y35 :: y36 :: y37 :: y38 :: y39 :: y40 :: y41 :: y42 :: y43 :: y44 :: y45 :: y46 :: y47 :: y48 :: y49 :: y50 :: y51 :: y52 :: y53 :: y54 :: y55 :: y56 :: y57 :: y58 :: y59 :: y60 :: y61 :: y62 :: y63 :: y64 :: y65 :: y66 :: y67 :: y68 :: y69 :: y70 :: y71 :: y72 :: y73 :: y74 :: y75 :: y76 :: y77 :: y78 :: y79 :: y80 :: y81 :: y82 :: y83 :: y84 :: y85 :: y86 :: y87 :: y88 :: y89 :: y90 :: y91 :: y92 :: y93 :: y94 :: y95 :: y96 :: y97 :: y98 :: y99 :: y100 :: y101 :: y102 :: y103 :: y104 :: y105 :: y106 :: y107 :: y108 :: y109 :: y110 :: y111 :: y112 :: y113 :: y114 :: y115 :: y116 :: y117 :: y118 :: y119 :: y120 :: y121 :: y122 :: y123 :: y124 :: y125 :: y126 :: y127 :: y128 :: y129 :: y130 :: y131 :: y132 :: y133 :: y134 :: y135 :: y136 :: y137 :: y138 :: y139 :: y140 :: y141 :: y142 :: y143 :: y144 :: y145 :: y146 :: y147 :: y148 :: y149 :: y150 :: y151 :: y152 :: y153 :: y154 :: y155 :: y156 :: y157 :: y158 :: y159 :: y160 :: y161 :: y162 :: y163 :: y164 :: y165 :: y166 :: y167 :: y168 :: y169 :: y170 :: y171 :: y172 :: y173 :: y174 :: y175 :: y176 :: y177 :: y178 :: y179 :: y180 :: y181 :: y182 :: y183 :: y184 :: y185 :: y186 :: y187 :: y188 :: y189 :: y190 :: y191 :: y192 :: y193 :: y194 :: y195 :: y196 :: y197 :: y198 :: y199 :: y200 :: y201 :: y202 :: y203 :: y204 :: y205 :: y206 :: y207 :: y208 :: y209 :: y210 :: y211 :: y212 :: y213 :: y214 :: y215 :: y216 :: y217 :: y218 :: y219 :: y220 :: y221 :: y222 :: y223 :: y224 :: y225 :: y226 :: y227 :: y228 :: y229 :: y230 :: y231 :: y232 :: y233 :: y234 :: y235 :: y236 :: y237 :: y238 :: y239 :: y240 :: y241 :: y242 :: y243 :: y244 :: y245 :: y246 :: y247 :: y248 :: y249 :: y250 :: y251 :: y252 :: []), defers := [] } W0 := by
  obtain ⟨A, cap, AI, AO, ci, co, vi, vo, hj1, hj2, hj3⟩ := hJ
  obtain ⟨l, hl⟩ : ∃ l, l = carsS S cs cs.length := ⟨_, rfl⟩
  have hlen : l.length = M := by rw [hl, carsS_len, hM]; rfl
  have hM1 : 2 ≤ M ∧ M ≤ 833 := by have := nodes_bd h0; have := (siteHead_iff.1 (stE_0 h0).2.1).1; omega
  rw [show supC S cs M cs.length = l from by rw [hM, supC_all, hl]] at hj1
  have HBD := Lib.hid (fun j (hj : j ≤ 1024) => sumT_bd (l := l) (by rw [hl]; exact carsS_bd h0 _ (Nat.le_refl _)) j hj)
  have HEB := Lib.hid (fun j (hj : j < M) => (show -1048576 ≤ l.getD j 0 ∧ l.getD j 0 ≤ 1048576 from by
    have : l.getD j 0 ∈ l := by rw [List.getD_eq_getElem?_getD, List.getElem?_eq_getElem (by omega)]; exact List.getElem_mem _
    rw [hl] at this
    exact carsS_bd h0 _ (Nat.le_refl _) _ (by rw [← hl] at this ⊢; exact this)))
  have HSU := Lib.hid (fun j (hj : j + 1 < M) => sumT_succ l j (by omega))
  have h00 : l.getD 0 0 = 0 := by rw [hl]; exact carsS_head _ _ _
  have HALL := Lib.hid (sumT_all l h00 (by omega))
  have HST : Hid (l.set 0 (-(sumT l 0)) = l) := Lib.hid (by
    rw [sumT_zero]
    cases l with
    | nil => rfl
    | cons a t => have : a = 0 := h00; subst this; rfl)
  have HSN : Hid (supN S cs = l.set 0 (-(sum l))) := Lib.hid (by rw [hl]; rfl)
  have HLEN := Lib.hid hlen
  have HGT := Lib.hid (fun (j : Nat) (v : Int) (hj : 0 < j) => (show (l.set 0 v).getD j 0 = l.getD j 0 from by rw [List.getD_eq_getElem?_getD, List.getElem?_set_ne (by omega), ← List.getD_eq_getElem?_getD]))
  have HG0 := Lib.hid (fun (v : Int) => (show (l.set 0 v).getD 0 0 = v from by rw [List.getD_eq_getElem?_getD, List.getElem?_set_self (by omega)]; rfl))
  have HSS := Lib.hid (fun (u v : Int) => (List.set_set (a := u) (b := v) (l := l) (i := 0)))
  have HBJ : Hid (BdJ w gs gb A cap AI AO ci co cs.length vi vo (l.set 0 (-(sumT l 0))) (carsA S cs cs.length) W0) := Lib.hid (by rw [HST.out]; exact hj1)
  have HR1 := Lib.hid hj2
  have HR2 := Lib.hid hj3
  clear hj1 hj2 hj3 h00 hl hlen h0 hM HST
  obtain ⟨p, hp⟩ : ∃ p, M = p + 1 := ⟨M - 1, by omega⟩
  subst hp
  generalize hGW : W0.heap.size = G at *
  have HGW : Hid (G ≤ W0.heap.size) := Lib.hid (by omega)
  clear hGW
  conv => arg 2; whnf
  have b0 := HBJ.out.b.cell 0 rfl
  rw [List.length_set, HLEN.out] at b0
  have bl := HBJ.out.b.lt
  have m1 : (1 : Int) ≤ (p : Int) + 1 := by omega
  go_wp2_with fail
  clear b0 bl
  go_loopw [18, 237] (fun _ iv wr => ∃ j : Nat, j ≤ p ∧ iv = .int .i64 j ∧ Hid (BdJ w gs gb A cap AI AO ci co cs.length vi vo (l.set 0 (-(sumT l j))) (carsA S cs cs.length) wr ∧ RowsF wr S.lim.length G vi (inR S cs) cs.length ∧ RowsF wr S.lim.length G vo (outR S cs) cs.length ∧ G ≤ wr.heap.size)) (fun _ iv _ => p - (intOf iv).toNat)
  case atStart => exact ⟨0, Nat.zero_le _, rfl, Lib.hid ⟨HBJ.out, HR1.out, HR2.out, HGW.out⟩⟩
  case round =>
    clear HBJ HR1 HR2 HGW
    obtain ⟨j, hj, rfl, HJ⟩ := hrel
    have HB := Lib.hid HJ.out.1
    have HR1 := Lib.hid HJ.out.2.1
    have HR2 := Lib.hid HJ.out.2.2.1
    have HGW := Lib.hid HJ.out.2.2.2
    clear HJ
    by_cases hlt : j < p
    · have hji : (j : Int) < (p : Int) := by omega
      have b0 := HB.out.b.cell 0 rfl
      rw [List.length_set, HLEN.out] at b0
      have bl := HB.out.b.lt
      have s0 := HB.out.s.cell 0 (by rw [List.length_set, HLEN.out]; omega)
      rw [HG0.out] at s0
      have sx := HB.out.s.cell (1 + j) (by rw [List.length_set, HLEN.out]; omega)
      rw [HGT.out (1 + j) _ (by omega), Nat.add_comm 1 j] at sx
      have sz := HB.out.s.free 0
      have sl := HB.out.s.lt
      have x1 := HBD.out j (by omega)
      have x2 := HEB.out (j + 1) (by omega)
      have HN := Lib.hid (HSU.out j (by omega))
      have HB2 := Lib.hid (fun v => HB.out.set 0 v)
      have HQ1 := Lib.hid (fun v => HR1.out.set (p := ⟨gs, 0, none⟩) HB.out.s (.inl (by decide)) v)
      have HQ2 := Lib.hid (fun v => HR2.out.set (p := ⟨gs, 0, none⟩) HB.out.s (.inl (by decide)) v)
      generalize l.getD (j + 1) 0 = x at *
      generalize sumT l j = sj at *
      have sx2 : wr.cell? ⟨gs, 1 + j, none⟩ = some (.int .i64 x) := by rw [Nat.add_comm 1 j]; exact sx
      have we : IntKind.i64.wrap (-sj - x) = -sj - x := IntWalk.i64_in _ (by omega)
      have pz : (0 : Int) < (p : Int) + 1 := by omega
      have HE : Hid (BdJ w gs gb A cap AI AO ci co cs.length vi vo (l.set 0 (-(sumT l (j + 1)))) (carsA S cs cs.length) (wr.setCell ⟨gs, 0, none⟩ (.int .i64 (-sj - x))) ∧ RowsF (wr.setCell ⟨gs, 0, none⟩ (.int .i64 (-sj - x))) S.lim.length G vi (inR S cs) cs.length ∧ RowsF (wr.setCell ⟨gs, 0, none⟩ (.int .i64 (-sj - x))) S.lim.length G vo (outR S cs) cs.length ∧ G ≤ (wr.setCell ⟨gs, 0, none⟩ (.int .i64 (-sj - x))).heap.size) := Lib.hid (by
        have h1 := HB2.out (-sj - x)
        rw [HSS.out] at h1
        refine ⟨?_, HQ1.out _, HQ2.out _, by simpa using HGW.out⟩
        rw [HN.out, show -(sj + x) = -sj - x by omega]
        exact h1)
      clear x1 x2 HB2 HQ1 HQ2 HN HB HR1 HR2 HGW
      go_upto_region 40 with fail
      clear b0 bl s0 sx sx2 sz sl
      generalize wr.setCell ⟨gs, 0, none⟩ (.int .i64 (-sj - x)) = w2 at HE ⊢
      go_wp2_with fail
      exact ⟨⟨j + 1, by omega, by go_num, HE⟩, by simp [intOf]; omega⟩
    · obtain rfl : p = j := by omega
      have HE := Lib.hid HB.out
      rw [show sumT l p = sum l from by have := HALL.out; rw [HLEN.out] at this; exact this, ← HSN.out] at HE
      go_wp2_with fail
      conv => arg 2; whnf
      go_wp2_with fail
      exact bodyPost_ret (v := .pointer (some ⟨gb, 0, none⟩)) (by simp [results, Try.results76, go_sem]) rfl ⟨gb, rfl, gs, A, cap, AI, AO, ci, co, vi, vo, HE.out, HR1.out.up HGW.out, HR2.out.up HGW.out⟩
end Go.Proofs.Ytmebpglkeedaoaa
namespace Go.Proofs.Ytmebpglkeedaoaa
open Go.RowKit Dp
def BuA (w : World) (gs gb : Nat) (cv : List Value) (M : Nat) (arcs : List Arc) (W : World) : Prop := ∃ A cap, BdJ w gs gb A cap none none 0 0 0 [] [] (List.replicate M 0) arcs W ∧ Blk W w.heap.size 51 cv
theorem BuA.push {w wa Va w5 : World} {gs gb M cap cap2 m : Nat} {cv : List Value} {A A2 : Option Addr} {arcs news : List Arc} (h : BdJ w gs gb A cap none none 0 0 0 [] [] (List.replicate M 0) arcs wa) (hs : Blk wa w.heap.size 51 cv) (hm : m = news.length) (hV : w5 = Va.setCell ⟨gb, 1, none⟩ (.slice A2 (arcs.length + m) cap2)) (hg : wa.grownBy Va (Value.slice A arcs.length cap).ownBlock) (ho : Va.ownsRow w.heap.size 46 4 (.slice A2 (arcs.length + m) cap2) (arcs.length + m) (flat arcV (arcs ++ news))) : BuA w gs gb cv M (arcs ++ news) w5 := by
  have el : (arcs ++ news).length = arcs.length + m := by simp [hm]
  rw [← el] at hV ho
  subst hV
  have s1 := hs.grown hg (blk_own_ne hs h.own (by decide))
  have b1 := h.b.grown hg (blk_own_ne h.b h.own (by decide))
  exact ⟨A2, cap2, h.push hg ho, s1.setCell_ne (fun e => blk_type_ne s1 b1 (by decide) e.symm) _⟩
set_option maxHeartbeats 8000000 in
set_option maxRecDepth 100000 in
theorem build_c (X1 X2 X3 X4 E : Option Addr) (S : Site) (cs : List Car) (n m cA cB cC cD cE : Nat) (w : World) (h0 : stE S cs = 0) (hn : n = S.lim.length) (hm : m = cs.length)
    (hA : n ≤ cA ∧ cA ≤ 9223372036854775807) (hB : n ≤ cB ∧ cB ≤ 9223372036854775807) (hC : n ≤ cC ∧ cC ≤ 9223372036854775807) (hD : n ≤ cD ∧ cD ≤ 9223372036854775807) (hE : m ≤ cE ∧ cE ≤ 9223372036854775807)
    (hS : SiteAt w X1 X2 X3 X4 S) (hcs : CarsAt w E cs) :
    Calls Try.prog 76 #[.agg #[.slice X1 n cA, .slice X2 n cB, .slice X3 n cC, .slice X4 n cD], .slice E m cE] w (R76 S cs w) := by
  have H0 := Lib.hid h0
  have HN := Lib.hid hn
  have HM := Lib.hid hm
  have HCS := Lib.hid hcs
  have hsh := (siteHead_iff.1 (stE_0 h0).2.1)
  have h48 : n ≤ 48 := by omega
  have h1n : 1 ≤ n := by omega
  have h8 : m ≤ 8 := by have := (stE_0 h0).1; omega
  obtain ⟨M, hM⟩ : ∃ M, M = nodesN S cs := ⟨_, rfl⟩
  have HMM := Lib.hid hM
  have hM2 : M ≤ 833 ∧ n + 1 ≤ M := by have := nodes_bd h0; omega
  have hMv : 1 + (n : Int) + 2 * (m : Int) * ((n : Int) + 1) = (M : Int) := by
    have e : (2 * (m : Int)) * ((n : Int) + 1) = ((2 * (m * (n + 1)) : Nat) : Int) := by
      rw [Int.mul_assoc, show (m : Int) * ((n : Int) + 1) = ((m * (n + 1) : Nat) : Int) from by rw [Int.natCast_mul]; rfl]; rfl
    rw [e, hM]; unfold nodesN nodeF; rw [← hn, ← hm]; omega
  have HSB := Lib.hid (fun t (ht : t < n) => slotOk_iff.1 ((stE_0 h0).2.2.1 t (by omega)))
  have HSV : Hid (∀ t, t < n → ∀ V, Below w.heap.size w V → (∃ a, X1 = some a ∧ V.cell? (a.add t) = some (.int .i64 (S.lim.getD t 0)) ∧ (a.add t).block < V.heap.size) ∧ (∃ a, X2 = some a ∧ V.cell? (a.add t) = some (.int .i64 (S.exp.getD t 0)) ∧ (a.add t).block < V.heap.size) ∧ (∃ a, X3 = some a ∧ V.cell? (a.add t) = some (.int .i64 (S.buy.getD t 0)) ∧ (a.add t).block < V.heap.size) ∧ (∃ a, X4 = some a ∧ V.cell? (a.add t) = some (.int .i64 (S.sell.getD t 0)) ∧ (a.add t).block < V.heap.size)) := Lib.hid (fun t ht V hV => by
    have h := hS.below hV (Nat.le_refl _)
    obtain ⟨a1, e1, l1, c1⟩ := h.1 t (by omega)
    obtain ⟨a2, e2, l2, c2⟩ := h.2.1 t (by omega)
    obtain ⟨a3, e3, l3, c3⟩ := h.2.2.1 t (by omega)
    obtain ⟨a4, e4, l4, c4⟩ := h.2.2.2 t (by omega)
    exact ⟨⟨a1, e1, c1, by rw [block_add]; exact l1⟩, ⟨a2, e2, c2, by rw [block_add]; exact l2⟩, ⟨a3, e3, c3, by rw [block_add]; exact l3⟩, ⟨a4, e4, c4, by rw [block_add]; exact l4⟩⟩)
  have hmk := make_64 M (by omega)
  have HSC : Hid (supC S cs M 0 = List.replicate M 0) := Lib.hid (by rw [hM]; exact supC_none S cs (nodes_bd h0).2)
  have HAR : Hid (limA S n ++ expA S n = carsA S cs 0) := Lib.hid (by rw [hn]; rfl)
  have HNF : Hid (nodeF n 0 0 = 1 + n) := Lib.hid (by unfold nodeF; omega)
  have HLL := Lib.hid (fun t => And.intro (limA_len S t) (expA_len S t))
  clear h0 hn hm hcs hsh hM hS
  have w1e : IntKind.i64.wrap (1 + (n : Int)) = 1 + (n : Int) := IntWalk.i64_in _ (by omega)
  have w2e : IntKind.i64.wrap (2 * (m : Int)) = 2 * (m : Int) := IntWalk.i64_in _ (by omega)
  have w3e : IntKind.i64.wrap ((n : Int) + 1) = (n : Int) + 1 := IntWalk.i64_in _ (by omega)
  obtain ⟨pr, hpr⟩ : ∃ pr, pr = 2 * (m : Int) * ((n : Int) + 1) := ⟨_, rfl⟩
  rw [← hpr] at hMv
  have w4e : IntKind.i64.wrap (2 * (m : Int) * ((n : Int) + 1)) = pr := by rw [← hpr]; exact IntWalk.i64_in _ (by omega)
  have w5e : IntKind.i64.wrap (1 + (n : Int) + pr) = (M : Int) := by rw [hMv]; exact IntWalk.i64_in _ (by omega)
  clear hpr hMv
  have HB := Lib.hid ((((Below.refl w.heap.size w).alloc (Nat.le_refl _) (.cells #[.slice X1 n cA, .slice X2 n cB, .slice X3 n cC, .slice X4 n cD] 51)).alloc (by simp) (.cells (Array.replicate M (.int .i64 0)) 2)).alloc (by simp; omega) (.cells #[.slice (some ⟨w.heap.size + 1, 0, none⟩) M M, .slice none 0 0, .slice none 0 0, .slice none 0 0] 125))
  have XS := Lib.hid (((Blk.new' w #[.slice X1 n cA, .slice X2 n cB, .slice X3 n cC, .slice X4 n cD] 51).alloc (.cells (Array.replicate M (.int .i64 0)) 2)).alloc (.cells #[.slice (some ⟨w.heap.size + 1, 0, none⟩) M M, .slice none 0 0, .slice none 0 0, .slice none 0 0] 125))
  have XF : Hid (Fl 2 (((w.alloc (.cells #[.slice X1 n cA, .slice X2 n cB, .slice X3 n cC, .slice X4 n cD] 51)).alloc (.cells (Array.replicate M (.int .i64 0)) 2)).alloc (.cells #[.slice (some ⟨w.heap.size + 1, 0, none⟩) M M, .slice none 0 0, .slice none 0 0, .slice none 0 0] 125)) (w.heap.size + 1) (List.replicate M 0)) := Lib.hid (by have := (fl_new 2 M (w.alloc (.cells #[.slice X1 n cA, .slice X2 n cB, .slice X3 n cC, .slice X4 n cD] 51))); have := Blk.alloc this (.cells #[.slice (some ⟨w.heap.size + 1, 0, none⟩) M M, .slice none 0 0, .slice none 0 0, .slice none 0 0] 125); unfold Fl; simpa using this)
  have XB : Hid (Blk (((w.alloc (.cells #[.slice X1 n cA, .slice X2 n cB, .slice X3 n cC, .slice X4 n cD] 51)).alloc (.cells (Array.replicate M (.int .i64 0)) 2)).alloc (.cells #[.slice (some ⟨w.heap.size + 1, 0, none⟩) M M, .slice none 0 0, .slice none 0 0, .slice none 0 0] 125)) (w.heap.size + 1 + 1) 125 [.slice (some ⟨w.heap.size + 1, 0, none⟩) M M, .slice none 0 0, .slice none 0 0, .slice none 0 0]) := Lib.hid (by have := Blk.new' ((w.alloc (.cells #[.slice X1 n cA, .slice X2 n cB, .slice X3 n cC, .slice X4 n cD] 51)).alloc (.cells (Array.replicate M (.int .i64 0)) 2)) #[.slice (some ⟨w.heap.size + 1, 0, none⟩) M M, .slice none 0 0, .slice none 0 0, .slice none 0 0] 125; simpa using this)
  go_enter Try.func76, Try.ntmps76
  go_upto_region 3 with fail
  (try simp only [World.size_alloc, Nat.add_assoc, Nat.reduceAdd])
  (try simp only [Nat.add_assoc, Nat.reduceAdd] at HB XS XF XB)
  generalize (((w.alloc (.cells #[.slice X1 n cA, .slice X2 n cB, .slice X3 n cC, .slice X4 n cD] 51)).alloc (.cells (Array.replicate M (.int .i64 0)) 2)).alloc (.cells #[.slice (some ⟨w.heap.size + 1, 0, none⟩) M M, .slice none 0 0, .slice none 0 0, .slice none 0 0] 125)) = w1 at HB XS XF XB ⊢
  have HJ0 : Hid (BuA w (w.heap.size + 1) (w.heap.size + 2) [.slice X1 n cA, .slice X2 n cB, .slice X3 n cC, .slice X4 n cD] M (limA S 0) w1) := Lib.hid ⟨none, 0, ⟨by rw [List.length_replicate]; exact XB.out, XF.out, World.ownsRow_nil _ _ _ _, World.ownsRow_nil _ _ _ _, World.ownsRow_nil _ _ _ _, (fun k h => by obtain ⟨_, e, _⟩ := h; cases e), ⟨by omega, by omega⟩, HB.out⟩, XS.out⟩
  clear HB XS XF XB
  generalize w.heap.size + 2 = gb at *
  generalize w.heap.size + 1 = gs at *
  go_wp2_with fail
  go_loopw [7, 36] (fun _ iv wr => ∃ t : Nat, t ≤ n ∧ iv = .int .i64 t ∧ Hid (BuA w gs gb [.slice X1 n cA, .slice X2 n cB, .slice X3 n cC, .slice X4 n cD] M (limA S t) wr)) (fun _ iv _ => n - (intOf iv).toNat)
  case atStart => exact ⟨0, Nat.zero_le _, rfl, HJ0⟩
  case round =>
    clear HJ0
    obtain ⟨t, ht, rfl, HJ⟩ := hrel
    by_cases hlt : t < n
    · have hti : (t : Int) < (n : Int) := by omega
      obtain ⟨A, cap, hj1, hj2⟩ := HJ.out
      have HBD := Lib.hid hj1
      have XS := Lib.hid hj2
      clear hj1 hj2 HJ
      obtain ⟨⟨a1, e1, l1, q1⟩, ⟨a2, e2, l2, q2⟩, ⟨a3, e3, l3, q3⟩, ⟨a4, e4, l4, q4⟩⟩ := HSV.out t hlt wr HBD.out.bel
      subst e1
      subst e2
      subst e3
      subst e4
      have hb := HSB.out t hlt
      have HLN := Lib.hid (HLL.out t)
      have HLN2 := Lib.hid (HLL.out n)
      have HNX : Hid ((limA S (t + 1)) = (limA S t) ++ [Dp.Arc.mk 0 (1 + (t : Int)) (S.lim.getD t 0) (S.buy.getD t 0)]) := Lib.hid (by rfl)
      generalize S.lim.getD t 0 = lm at *
      generalize S.exp.getD t 0 = ex at *
      generalize S.buy.getD t 0 = bu at *
      generalize S.sell.getD t 0 = se at *
      have t1e : IntKind.i64.wrap (1 + (t : Int)) = 1 + (t : Int) := IntWalk.i64_in _ (by omega)
      have sne : IntKind.i64.wrap (-se) = -se := IntWalk.i64_in _ (by omega)
      have s0 := XS.out.cell 0 rfl
      have s1 := XS.out.cell 1 rfl
      have s2 := XS.out.cell 2 rfl
      have s3 := XS.out.cell 3 rfl
      have sl := XS.out.lt
      go_upto_region 6 with fail
      refine wp_region_priv 15 [.q, .q, .q, .q, .q, .q, .q, .q, .q, .q, .q, .q, .q, .q, .p] (fun _ => (.cells #[.int .i64 0, .int .i64 (1 + (t : Int)), .int .i64 lm, .int .i64 bu] 46, fun b => .slice (some ⟨b, 0, none⟩) 1 1)) ?af6 (by kernel_rfl) (by kernel_rfl) ?walk6 ?tail6
      case walk6 =>
        intro V hV
        have XSV := XS.out.below hV XS.out.lt
        have s0 := XSV.cell 0 rfl
        have s1 := XSV.cell 1 rfl
        have s2 := XSV.cell 2 rfl
        have s3 := XSV.cell 3 rfl
        have sl := XSV.lt
        have l1 := (hV.cell q1).trans l1
        have q1 := Nat.lt_of_lt_of_le q1 hV.size
        have l2 := (hV.cell q2).trans l2
        have q2 := Nat.lt_of_lt_of_le q2 hV.size
        have l3 := (hV.cell q3).trans l3
        have q3 := Nat.lt_of_lt_of_le q3 hV.size
        have l4 := (hV.cell q4).trans l4
        have q4 := Nat.lt_of_lt_of_le q4 hV.size
        clear hV XSV
        simp only [List.take_succ_cons, List.take_zero]
        repeat (with_reducible refine wpP_q ?_; go_big_quiet_step (fail); with_reducible refine wpQuiet_nil ?_)
        refine wpP_p (by kernel_rfl) (fun _ => by kernel_rfl) ?_
        (try simp only [Act.put, List.setIfInBounds_toArray, List.set_cons_zero, List.set_cons_succ])
        with_reducible refine wpP_nil ?_
        rfl
      case tail6 =>
        intro gs1 w3 hb3 hgs _
        have HBD3 := Lib.hid (HBD.out.below hb3)
        have XS3 := Lib.hid (XS.out.below hb3 XS.out.lt)
        obtain ⟨_, hgb⟩ := hgs 14 rfl
        have GB : Hid (Blk w3 (gs1 14) 46 (flat arcV [Dp.Arc.mk 0 (1 + (t : Int)) lm bu])) := Lib.hid hgb
        clear hb3 hgs hgb HBD XS s0 s1 s2 s3 sl l1 l2 l3 l4 q1 q2 q3 q4
        simp only [List.drop_succ_cons, List.drop_zero, List.take_succ_cons, List.take_zero, fillP]
        (try simp only [Act.put, List.setIfInBounds_toArray, List.set_cons_zero, List.set_cons_succ])
        generalize gs1 14 = ga at *
        go_wp2_with fail
        refine (addG_c w3 gb ((limA S t)).length cap w.heap.size 1 1 A (some ⟨ga, 0, none⟩) _ _ _ (limA S t) [Dp.Arc.mk 0 (1 + (t : Int)) lm bu] rfl rfl (by rw [HLN.out.1]; omega) HBD3.out.b HBD3.out.own (.inr ⟨_, rfl, fun j u hj => by rw [add_row]; exact GB.out.cell j hj⟩) HBD3.out.bel.size).mono ?_
        rintro e w5 ⟨A2, cap2, Va, rfl, hV, hg, ho⟩
        have HE := Lib.hid (BuA.push HBD3.out XS3.out rfl hV hg ho)
        rw [← HNX.out] at HE
        clear hV hg ho HBD3 XS3 GB Va
        go_wp2_with fail
        exact ⟨⟨t + 1, by omega, by go_num, HE⟩, by simp [intOf]; omega⟩
    · obtain rfl : n = t := by omega
      have HJ0 : Hid (BuA w gs gb [.slice X1 n cA, .slice X2 n cB, .slice X3 n cC, .slice X4 n cD] M (limA S n ++ expA S 0) wr) := Lib.hid (by simpa [expA] using HJ.out)
      clear HJ
      go_wp2_with fail
      go_loopw [8, 57] (fun _ iv wr => ∃ t : Nat, t ≤ n ∧ iv = .int .i64 t ∧ Hid (BuA w gs gb [.slice X1 n cA, .slice X2 n cB, .slice X3 n cC, .slice X4 n cD] M (limA S n ++ expA S t) wr)) (fun _ iv _ => n - (intOf iv).toNat)
      case atStart => exact ⟨0, Nat.zero_le _, rfl, HJ0⟩
      case round =>
        clear HJ0
        obtain ⟨t, ht, rfl, HJ⟩ := hrel
        by_cases hlt : t < n
        · have hti : (t : Int) < (n : Int) := by omega
          obtain ⟨A, cap, hj1, hj2⟩ := HJ.out
          have HBD := Lib.hid hj1
          have XS := Lib.hid hj2
          clear hj1 hj2 HJ
          obtain ⟨⟨a1, e1, l1, q1⟩, ⟨a2, e2, l2, q2⟩, ⟨a3, e3, l3, q3⟩, ⟨a4, e4, l4, q4⟩⟩ := HSV.out t hlt wr HBD.out.bel
          subst e1
          subst e2
          subst e3
          subst e4
          have hb := HSB.out t hlt
          have HLN := Lib.hid (HLL.out t)
          have HLN2 := Lib.hid (HLL.out n)
          have HNX : Hid ((limA S n ++ expA S (t + 1)) = (limA S n ++ expA S t) ++ [Dp.Arc.mk (1 + (t : Int)) 0 (S.exp.getD t 0) (-(S.sell.getD t 0))]) := Lib.hid (by rw [List.append_assoc]; rfl)
          generalize S.lim.getD t 0 = lm at *
          generalize S.exp.getD t 0 = ex at *
          generalize S.buy.getD t 0 = bu at *
          generalize S.sell.getD t 0 = se at *
          have t1e : IntKind.i64.wrap (1 + (t : Int)) = 1 + (t : Int) := IntWalk.i64_in _ (by omega)
          have sne : IntKind.i64.wrap (-se) = -se := IntWalk.i64_in _ (by omega)
          have s0 := XS.out.cell 0 rfl
          have s1 := XS.out.cell 1 rfl
          have s2 := XS.out.cell 2 rfl
          have s3 := XS.out.cell 3 rfl
          have sl := XS.out.lt
          go_upto_region 11 with fail
          refine wp_region_priv 16 [.q, .q, .q, .q, .q, .q, .q, .q, .q, .q, .q, .q, .q, .q, .q, .p] (fun _ => (.cells #[.int .i64 (1 + (t : Int)), .int .i64 0, .int .i64 ex, .int .i64 (-se)] 46, fun b => .slice (some ⟨b, 0, none⟩) 1 1)) ?af11 (by kernel_rfl) (by kernel_rfl) ?walk11 ?tail11
          case walk11 =>
            intro V hV
            have XSV := XS.out.below hV XS.out.lt
            have s0 := XSV.cell 0 rfl
            have s1 := XSV.cell 1 rfl
            have s2 := XSV.cell 2 rfl
            have s3 := XSV.cell 3 rfl
            have sl := XSV.lt
            have l1 := (hV.cell q1).trans l1
            have q1 := Nat.lt_of_lt_of_le q1 hV.size
            have l2 := (hV.cell q2).trans l2
            have q2 := Nat.lt_of_lt_of_le q2 hV.size
            have l3 := (hV.cell q3).trans l3
            have q3 := Nat.lt_of_lt_of_le q3 hV.size
            have l4 := (hV.cell q4).trans l4
            have q4 := Nat.lt_of_lt_of_le q4 hV.size
            clear hV XSV
            simp only [List.take_succ_cons, List.take_zero]
            repeat (with_reducible refine wpP_q ?_; go_big_quiet_step (fail); with_reducible refine wpQuiet_nil ?_)
            refine wpP_p (by kernel_rfl) (fun _ => by kernel_rfl) ?_
            (try simp only [Act.put, List.setIfInBounds_toArray, List.set_cons_zero, List.set_cons_succ])
            with_reducible refine wpP_nil ?_
            rfl
          case tail11 =>
            intro gs1 w3 hb3 hgs _
            have HBD3 := Lib.hid (HBD.out.below hb3)
            have XS3 := Lib.hid (XS.out.below hb3 XS.out.lt)
            obtain ⟨_, hgb⟩ := hgs 15 rfl
            have GB : Hid (Blk w3 (gs1 15) 46 (flat arcV [Dp.Arc.mk (1 + (t : Int)) 0 ex (-se)])) := Lib.hid hgb
            clear hb3 hgs hgb HBD XS s0 s1 s2 s3 sl l1 l2 l3 l4 q1 q2 q3 q4
            simp only [List.drop_succ_cons, List.drop_zero, List.take_succ_cons, List.take_zero, fillP]
            (try simp only [Act.put, List.setIfInBounds_toArray, List.set_cons_zero, List.set_cons_succ])
            generalize gs1 15 = ga at *
            go_wp2_with fail
            refine (addG_c w3 gb ((limA S n ++ expA S t)).length cap w.heap.size 1 1 A (some ⟨ga, 0, none⟩) _ _ _ (limA S n ++ expA S t) [Dp.Arc.mk (1 + (t : Int)) 0 ex (-se)] rfl rfl (by rw [List.length_append, HLN2.out.1, HLN.out.2]; omega) HBD3.out.b HBD3.out.own (.inr ⟨_, rfl, fun j u hj => by rw [add_row]; exact GB.out.cell j hj⟩) HBD3.out.bel.size).mono ?_
            rintro e w5 ⟨A2, cap2, Va, rfl, hV, hg, ho⟩
            have HE := Lib.hid (BuA.push HBD3.out XS3.out rfl hV hg ho)
            rw [← HNX.out] at HE
            clear hV hg ho HBD3 XS3 GB Va
            go_wp2_with fail
            exact ⟨⟨t + 1, by omega, by go_num, HE⟩, by simp [intOf]; omega⟩
        · obtain rfl : n = t := by omega
          obtain ⟨A, cap, hj1, hj2⟩ := HJ.out
          have HE : Hid (BuiJ S cs w gs gb M 0 wr) := Lib.hid ⟨A, cap, none, none, 0, 0, [], [], by rw [HSC.out, ← HAR.out]; exact hj1, fun x hx => absurd hx (Nat.not_lt_zero _), fun x hx => absurd hx (Nat.not_lt_zero _)⟩
          clear HJ hj1 hj2
          have h1n2 : (1 : Int) + (n : Int) = ((nodeF n 0 0 : Nat) : Int) := by rw [HNF.out]; omega
          have HHN := Lib.hid h1n2
          clear h1n2
          go_wp2_with fail
          rw [HHN.out]
          rename_i KK hKK
          refine wp_codeP (c' := loop76) (by kernel_rfl) ?_
          refine bld4 S cs E n m cE gs gb M w wr H0.out HN.out HM.out HMM.out hE HCS.out HE.out ?_
          intro y0 y1 y2 y3 y4 y5 y7 y8 y9 y10 y11 y12 y13 y14 y15 y16 y17 y18 y19 y20 y21 y22 y23 y24 y25 y26 y27 y28 y29 y30 y31 y32 y33 y34 y35 y36 y37 y38 y39 y40 y41 y42 y43 y44 y45 y46 y47 y48 y49 y50 y51 y52 y53 y54 y55 y56 y57 y58 y59 y60 y61 y62 y63 y64 y65 y66 y67 y68 y69 y70 y71 y72 y73 y74 y75 y76 y77 y78 y79 y80 y81 y82 y83 y84 y85 y86 y87 y88 y89 y90 y91 y92 y93 y94 y95 y96 y97 y98 y99 y100 y101 y102 y103 y104 y105 y106 y107 y108 y109 y110 y111 y112 y113 y114 y115 y116 y117 y118 y119 y120 y121 y122 y123 y124 y125 y126 y127 y128 y129 y130 y131 y132 y133 y134 y135 y136 y137 y138 y139 y140 y141 y142 y143 y144 y145 y146 y147 y148 y149 y150 y151 y152 y153 y154 y155 y156 y157 y158 y159 y160 y161 y162 y163 y164 y165 y166 y167 y168 y169 y170 y171 y172 y173 y174 y175 y176 y177 y178 y179 y180 y181 y182 y183 y184 y185 y186 y187 y188 y189 y190 y191 y192 y193 y194 y195 y196 y197 y198 y199 y200 y201 y202 y203 y204 y205 y206 y207 y208 y209 y210 y211 y212 y213 y214 y215 y216 y217 y218 y219 y220 y221 y222 y223 y224 y225 y226 y227 y228 y229 y230 y231 y232 y233 y234 y235 y236 y237 y238 y239 y240 y241 y242 y243 y244 y245 y246 y247 y248 y249 y250 y251 y252 w' h
          exact hKK _ _ (wp_codeP (by kernel_rfl) (bld8 S cs gs gb M w w' H0.out HMM.out (by rw [← HM.out]; exact h)))
end Go.Proofs.Ytmebpglkeedaoaa
namespace Go.Proofs.Ytmebpglkeedaoaa
open Go.RowKit Dp
structure NtJ (w : World) (gs gx gr : Nat) (cv : List Value) (A : Option Addr) (cap : Nat) (sup : List Int) (arcs : List Arc) (W : World) : Prop where
  b : Blk W gx 25 [.slice (some ⟨gs, 0, none⟩) sup.length sup.length, .slice A arcs.length cap]
  r : Blk W gr 25 [.slice none 0 0, .slice none 0 0]
  s : Fl 2 W gs sup
  own : W.ownsRow w.heap.size 46 4 (.slice A arcs.length cap) arcs.length (flat arcV arcs)
  st : Blk W w.heap.size 51 cv
  ne : gx ≠ gr
  lt : w.heap.size ≤ gs ∧ w.heap.size ≤ gx ∧ w.heap.size ≤ gr
  bel : Below w.heap.size w W
section
variable {w W V : World} {gs gx gr gc cap cap2 n m : Nat} {A A2 : Option Addr} {cv kv : List Value} {sup : List Int} {arcs news : List Arc}
theorem NtJ.below (h : NtJ w gs gx gr cv A cap sup arcs W) (hb : Below W.heap.size W V) : NtJ w gs gx gr cv A cap sup arcs V :=
  ⟨h.b.below hb h.b.lt, h.r.below hb h.r.lt, h.s.below hb, ownBelow h.own hb, h.st.below hb h.st.lt, h.ne, h.lt, h.bel.trans (hb.mono h.bel.size)⟩
theorem NtJ.alloc (h : NtJ w gs gx gr cv A cap sup arcs W) (o : Obj) : NtJ w gs gx gr cv A cap sup arcs (W.alloc o) := h.below ((Below.refl _ _).alloc (Nat.le_refl _) o)
theorem NtJ.set (h : NtJ w gs gx gr cv A cap sup arcs W) (k : Nat) (v : Int) : NtJ w gs gx gr cv A cap (sup.set k v) arcs (W.setCell ⟨gs, k, none⟩ (.int .i64 v)) :=
  ⟨by rw [List.length_set]; exact h.b.setCell_ne (fun e => blk_type_ne h.b h.s (by decide) e.symm) _, h.r.setCell_ne (fun e => blk_type_ne h.r h.s (by decide) e.symm) _, h.s.put k v,
    ownSet h.own (own_blk_no (g := gs) h.s h.own (by decide)) _, h.st.setCell_ne (fun e => blk_type_ne h.st h.s (by decide) e.symm) _, h.ne, h.lt, h.bel.setCell (by simp; exact h.lt.1) _⟩
theorem NtJ.mid (h : NtJ w gs gx gr cv A cap sup arcs W) (hg : W.grownBy V (Value.slice A arcs.length cap).ownBlock) : Blk V gx 25 [.slice (some ⟨gs, 0, none⟩) sup.length sup.length, .slice A arcs.length cap] := h.b.grown hg (blk_own_ne h.b h.own (by decide))
theorem NtJ.push (h : NtJ w gs gx gr cv A cap sup arcs W) (hn : n = arcs.length) (hm : m = news.length) (hg : W.grownBy V (Value.slice A n cap).ownBlock)
    (ho : V.ownsRow w.heap.size 46 4 (.slice A2 (n + m) cap2) (n + m) (flat arcV arcs ++ flat arcV news)) : NtJ w gs gx gr cv A2 cap2 sup (arcs ++ news) (V.setCell ⟨gx, 1, none⟩ (.slice A2 (n + m) cap2)) := by
  subst hn
  rw [← flat_append] at ho
  have el : (arcs ++ news).length = arcs.length + m := by simp [hm]
  rw [← el] at ho ⊢
  have b1 := h.mid hg
  have s1 : Fl 2 V gs sup := Blk.grown h.s hg (blk_own_ne h.s h.own (by decide))
  have r1 := h.r.grown hg (blk_own_ne h.r h.own (by decide))
  have t1 := h.st.grown hg (blk_own_ne h.st h.own (by decide))
  have bel1 : Below w.heap.size w V := h.bel.grown hg h.bel.size (fun k e => (World.ownsRow.lt h.own k e).1)
  exact ⟨b1.setCell 1 _, r1.setCell_ne (fun e => h.ne e.symm) _, s1.set_ne (fun e => blk_type_ne b1 s1 (by decide) e) _, ownSet ho (own_blk_no (g := gx) b1 ho (by decide)) _, t1.setCell_ne (fun e => blk_type_ne b1 t1 (by decide) e) _, h.ne, h.lt, bel1.setCell (by simp; exact h.lt.2.1) _⟩
structure NkJ (w : World) (gs gx gr gc : Nat) (cv kv : List Value) (A : Option Addr) (cap : Nat) (sup : List Int) (arcs : List Arc) (W : World) : Prop where
  d : NtJ w gs gx gr cv A cap sup arcs W
  car : Blk W gc 63 kv
theorem NkJ.below (h : NkJ w gs gx gr gc cv kv A cap sup arcs W) (hb : Below W.heap.size W V) : NkJ w gs gx gr gc cv kv A cap sup arcs V := ⟨h.d.below hb, h.car.below hb h.car.lt⟩
theorem NkJ.alloc (h : NkJ w gs gx gr gc cv kv A cap sup arcs W) (o : Obj) : NkJ w gs gx gr gc cv kv A cap sup arcs (W.alloc o) := h.below ((Below.refl _ _).alloc (Nat.le_refl _) o)
theorem NkJ.set (h : NkJ w gs gx gr gc cv kv A cap sup arcs W) (k : Nat) (v : Int) : NkJ w gs gx gr gc cv kv A cap (sup.set k v) arcs (W.setCell ⟨gs, k, none⟩ (.int .i64 v)) :=
  ⟨h.d.set k v, h.car.setCell_ne (fun e => blk_type_ne h.d.s h.car (by decide) e) _⟩
theorem NkJ.push (h : NkJ w gs gx gr gc cv kv A cap sup arcs W) (hn : n = arcs.length) (hm : m = news.length) (hg : W.grownBy V (Value.slice A n cap).ownBlock)
    (ho : V.ownsRow w.heap.size 46 4 (.slice A2 (n + m) cap2) (n + m) (flat arcV arcs ++ flat arcV news)) : NkJ w gs gx gr gc cv kv A2 cap2 sup (arcs ++ news) (V.setCell ⟨gx, 1, none⟩ (.slice A2 (n + m) cap2)) := by
  have hg' := hg
  rw [hn] at hg'
  have b1 := h.d.mid hg'
  have c1 := h.car.grown hg' (blk_own_ne h.car h.d.own (by decide))
  exact ⟨h.d.push hn hm hg ho, c1.setCell_ne (fun e => blk_type_ne b1 c1 (by decide) e) _⟩
end
end Go.Proofs.Ytmebpglkeedaoaa
namespace Go.Proofs.Ytmebpglkeedaoaa
open Go.RowKit Dp
end Go.Proofs.Ytmebpglkeedaoaa
namespace Go.Proofs.Ytmebpglkeedaoaa
open Go.RowKit Dp
def R77 (S : Site) (cs : List Car) (w : World) : Ending → World → Prop := fun e w' => ∃ gs A cap, e = .returned (.agg #[.slice (some ⟨gs, 0, none⟩) (nodesN S cs) (nodesN S cs), .slice A (carsA S cs cs.length).length cap]) ∧ Fl 2 w' gs (supN S cs) ∧ w'.ownsRow w.heap.size 46 4 (.slice A (carsA S cs cs.length).length cap) (carsA S cs cs.length).length (flat arcV (carsA S cs cs.length)) ∧ w.heap.size ≤ gs ∧ Below w.heap.size w w'
end Go.Proofs.Ytmebpglkeedaoaa
namespace Go.Proofs.Ytmebpglkeedaoaa
open Go.RowKit Dp
def NetIn (S : Site) (cs : List Car) (w : World) (gs : Nat) (A : Option Addr) (cap : Nat) (W : World) : Prop := Fl 2 W gs (supN S cs) ∧ W.ownsRow w.heap.size 46 4 (.slice A (carsA S cs cs.length).length cap) (carsA S cs cs.length).length (flat arcV (carsA S cs cs.length)) ∧ w.heap.size ≤ gs ∧ Below w.heap.size w W
def NetP (S : Site) (cs : List Car) (w : World) : Ending → World → Prop := fun e w' =>
  (stE S cs = 0 ∧ ∃ gs A cap, e = .returned (.tuple #[.agg #[.slice (some ⟨gs, 0, none⟩) (nodesN S cs) (nodesN S cs), .slice A (carsA S cs cs.length).length cap], .int .i64 0]) ∧ NetIn S cs w gs A cap w') ∨
  (stE S cs ≠ 0 ∧ e = .returned (.tuple #[.agg #[.slice none 0 0, .slice none 0 0], .int .i64 (stE S cs)]) ∧ Below w.heap.size w w')
theorem NetIn.of_bld {S : Site} {cs : List Car} {w W w0 : World} {b : Nat} (h : BldP S cs W b w0) (hb : Below w.heap.size w W) : ∃ gs A cap v2 v3, NetIn S cs w gs A cap w0 ∧ Blk w0 b 125 [.slice (some ⟨gs, 0, none⟩) (nodesN S cs) (nodesN S cs), .slice A (carsA S cs cs.length).length cap, v2, v3] ∧ Below W.heap.size W w0 := by
  obtain ⟨gs, A, cap, AI, AO, ci, co, vi, vo, h1, _, _⟩ := h
  have hz := hb.size
  refine ⟨gs, A, cap, .slice AI cs.length ci, .slice AO cs.length co, ⟨h1.s, ownV_mono h1.own hz, Nat.le_trans hz h1.lt.1, hb.trans (h1.bel.mono hz)⟩, ?_, h1.bel⟩
  have := h1.b
  rw [supN_len] at this
  exact this
end Go.Proofs.Ytmebpglkeedaoaa
namespace Go.Proofs.Ytmebpglkeedaoaa
open Go.RowKit Dp
set_option maxHeartbeats 2000000 in
set_option maxRecDepth 100000 in
theorem same_c (A B : Option Addr) (xs : List Int) (n cA cB : Nat) (w : World) (hn : n = xs.length) (hA : n ≤ cA ∧ cA ≤ 9223372036854775807) (hB : n ≤ cB ∧ cB ≤ 9223372036854775807) (h1 : IntsAt w A xs) (h2 : IntsAt w B xs) :
    Calls Try.prog 37 #[.slice A n cA, .slice B n cB] w fun e w' => e = .returned (.bool true) ∧ Below w.heap.size w w' := by
  have HN := Lib.hid hn
  have H1 := Lib.hid h1
  have H2 := Lib.hid h2
  clear hn h1 h2
  go_enter Try.func37, Try.ntmps37
  go_wp2_with fail
  go_loopw [5] (fun iv wr => ∃ j : Nat, j ≤ n ∧ iv = .int .i64 j ∧ Hid (Below w.heap.size w wr)) (fun iv _ => n - (intOf iv).toNat)
  case atStart => exact ⟨0, Nat.zero_le _, rfl, Lib.hid (Below.refl _ _)⟩
  case round =>
    obtain ⟨j, hj, rfl, HW⟩ := hrel
    by_cases hlt : j < n
    · have hji : (j : Int) < (n : Int) := by omega
      obtain ⟨a, rfl, al, ax⟩ := (H1.out.below HW.out (Nat.le_refl _)) j (by rw [← HN.out]; exact hlt)
      obtain ⟨b, rfl, bl, bx⟩ := (H2.out.below HW.out (Nat.le_refl _)) j (by rw [← HN.out]; exact hlt)
      generalize xs.getD j 0 = x at *
      have al2 : (a.add j).block < wr.heap.size := by rw [block_add]; exact al
      have bl2 : (b.add j).block < wr.heap.size := by rw [block_add]; exact bl
      go_upto_region 6 with fail
      refine wp_region_past (by kernel_rfl) (by kernel_rfl) ?_
      repeat (go_big_quiet_step (fail))
      refine wpQuiet_nil ?_
      intro xx
      have HX := Lib.hid (HW.out.trans (xx.far.mono HW.out.size))
      generalize xx.w = w3 at HX ⊢
      clear al2 bl2 ax bx
      go_wp2_with fail
      exact ⟨⟨j + 1, by omega, by go_num, HX⟩, by simp [intOf]; omega⟩
    · obtain rfl : j = n := by omega
      go_wp2_with fail
      exact bodyPost_ret (v := .bool true) (by simp [results, Try.results37, go_sem]) rfl ⟨rfl, HW.out⟩
set_option maxHeartbeats 2000000 in
set_option maxRecDepth 100000 in
theorem sameRows_c (A B : Option Addr) (R : List (List Int)) (n cA cB : Nat) (w : World) (hn : n = R.length) (hA : n ≤ cA ∧ cA ≤ 9223372036854775807) (hB : n ≤ cB ∧ cB ≤ 9223372036854775807) (h1 : RowsAt w A R) (h2 : RowsAt w B R) :
    Calls Try.prog 42 #[.slice A n cA, .slice B n cB] w fun e w' => e = .returned (.bool true) ∧ Below w.heap.size w w' := by
  have HN := Lib.hid hn
  have H1 := Lib.hid h1
  have H2 := Lib.hid h2
  clear hn h1 h2
  go_enter Try.func42, Try.ntmps42
  go_wp2_with fail
  go_loopw [5] (fun iv wr => ∃ j : Nat, j ≤ n ∧ iv = .int .i64 j ∧ Hid (Below w.heap.size w wr)) (fun iv _ => n - (intOf iv).toNat)
  case atStart => exact ⟨0, Nat.zero_le _, rfl, Lib.hid (Below.refl _ _)⟩
  case round =>
    obtain ⟨j, hj, rfl, HW⟩ := hrel
    by_cases hlt : j < n
    · have hji : (j : Int) < (n : Int) := by omega
      obtain ⟨a, rfl, al, P, cP, ax, hP, iP⟩ := (H1.out.below HW.out (Nat.le_refl _)) j (by rw [← HN.out]; exact hlt)
      obtain ⟨b, rfl, bl, Q, cQ, bx, hQ, iQ⟩ := (H2.out.below HW.out (Nat.le_refl _)) j (by rw [← HN.out]; exact hlt)
      have HI := Lib.hid (And.intro iP iQ)
      clear iP iQ
      obtain ⟨row, hrow⟩ : ∃ row, row = R.getD j [] := ⟨_, rfl⟩
      rw [← hrow] at ax bx hP hQ HI
      clear hrow
      obtain ⟨k, hk⟩ : ∃ k, k = row.length := ⟨_, rfl⟩
      rw [← hk] at ax bx hP hQ
      have HK := Lib.hid hk
      clear hk
      have HS := Lib.hid (fun V (hV : Below wr.heap.size wr V) => same_c P Q row k cP cQ V HK.out hP hQ (HI.out.1.below hV (Nat.le_refl _)) (HI.out.2.below hV (Nat.le_refl _)))
      have al2 : (a.add j).block < wr.heap.size := by rw [block_add]; exact al
      have bl2 : (b.add j).block < wr.heap.size := by rw [block_add]; exact bl
      go_upto_region 6 with fail
      refine wp_region_past (by kernel_rfl) (by kernel_rfl) ?_
      repeat (go_big_quiet_step ((go_at_call 37; exact past_below (HS.out _ (Past.far _)))))
      refine wpQuiet_nil ?_
      intro xx
      have HX := Lib.hid (HW.out.trans (xx.far.mono HW.out.size))
      generalize xx.w = w3 at HX ⊢
      clear al2 bl2 ax bx HS
      go_wp2_with fail
      exact ⟨⟨j + 1, by omega, by go_num, HX⟩, by simp [intOf]; omega⟩
    · obtain rfl : j = n := by omega
      go_wp2_with fail
      exact bodyPost_ret (v := .bool true) (by simp [results, Try.results42, go_sem]) rfl ⟨rfl, HW.out⟩
end Go.Proofs.Ytmebpglkeedaoaa
namespace Go.Proofs.Ytmebpglkeedaoaa
open Go.RowKit Dp
structure RwJ (n m g : Nat) (gI : Nat → Nat) (R : Nat → List Int) (W : World) : Prop where
  b : ∃ cs, Blk W g 22 cs ∧ ∀ i, i < m → cs[i]? = some (.slice (some ⟨gI i, 0, none⟩) n n)
  f : ∀ i, i < m → Fl 2 W (gI i) (R i) ∧ (R i).length = n
  inj : ∀ i j, i < m → j < m → gI i = gI j → i = j
section
variable {W V : World} {n m g gl : Nat} {gI gO : Nat → Nat} {R RO : Nat → List Int}
theorem RwJ.below (h : RwJ n m g gI R W) (hb : Below W.heap.size W V) : RwJ n m g gI R V := by
  obtain ⟨cs, h1, h2⟩ := h.b
  exact ⟨⟨cs, h1.below hb h1.lt, h2⟩, fun i hi => ⟨(h.f i hi).1.below hb, (h.f i hi).2⟩, h.inj⟩
theorem RwJ.lt (h : RwJ n m g gI R W) : g < W.heap.size := by
  obtain ⟨cs, h1, _⟩ := h.b
  exact h1.lt
theorem RwJ.cell (h : RwJ n m g gI R W) (i : Nat) (hi : i < m) : W.cell? ⟨g, i, none⟩ = some (.slice (some ⟨gI i, 0, none⟩) n n) := by
  obtain ⟨cs, h1, h2⟩ := h.b
  exact h1.cell i (h2 i hi)
theorem RwJ.other (h : RwJ n m g gI R W) {p : Addr} (h1 : g ≠ p.block) (h2 : ∀ i, i < m → gI i ≠ p.block) (u : Value) : RwJ n m g gI R (W.setCell p u) := by
  obtain ⟨cs, b1, b2⟩ := h.b
  exact ⟨⟨cs, b1.setCell_ne h1 u, b2⟩, fun i hi => ⟨(h.f i hi).1.set_ne (h2 i hi) u, (h.f i hi).2⟩, h.inj⟩
theorem RwJ.set (h : RwJ n m g gI R W) (i : Nat) (hi : i < m) (k : Nat) (v : Int) : RwJ n m g gI (upd R i ((R i).set k v)) (W.setCell ⟨gI i, k, none⟩ (.int .i64 v)) := by
  obtain ⟨cs, b1, b2⟩ := h.b
  refine ⟨⟨cs, b1.setCell_ne (fun e => blk_type_ne b1 (h.f i hi).1 (by decide) e.symm) _, b2⟩, fun j hj => ?_, h.inj⟩
  by_cases e : j = i
  · subst e
    unfold upd
    rw [if_pos rfl]
    exact ⟨(h.f j hj).1.put k v, by rw [List.length_set]; exact (h.f j hj).2⟩
  · unfold upd
    rw [if_neg e]
    exact ⟨(h.f j hj).1.set_ne (fun q => e (h.inj j i hj hi q)) _, (h.f j hj).2⟩
theorem RwJ.of (h : RwJ n m g gI R W) {R' : Nat → List Int} (he : ∀ i, i < m → R' i = R i) : RwJ n m g gI R' W :=
  ⟨h.b, fun i hi => by rw [he i hi]; exact h.f i hi, h.inj⟩
theorem RwJ.rows (h : RwJ n m g gI R W) (hn : n ≤ 9223372036854775807) : RowsAt W (some ⟨g, 0, none⟩) ((List.range m).map R) := fun i hi => by
  have hi' : i < m := by simpa using hi
  have e : ((List.range m).map R).getD i [] = R i := by simp [List.getD_eq_getElem?_getD, hi']
  refine ⟨_, rfl, h.lt, some ⟨gI i, 0, none⟩, n, ?_, ?_, ?_⟩
  · rw [add_row, e, (h.f i hi').2]; exact h.cell i hi'
  · rw [e, (h.f i hi').2]; exact ⟨Nat.le_refl _, hn⟩
  · rw [e]; exact (h.f i hi').1.ints
end
structure TbJ (w : World) (n m gt g1 g2 c1 c2 : Nat) (gI gO : Nat → Nat) (RI RO : Nat → List Int) (W : World) : Prop where
  b : Blk W gt 55 [.slice (some ⟨g1, 0, none⟩) m c1, .slice (some ⟨g2, 0, none⟩) m c2]
  i : RwJ n m g1 gI RI W
  o : RwJ n m g2 gO RO W
  ne : g1 ≠ g2
  dis : ∀ x y, x < m → y < m → gI x ≠ gO y
  bel : Below w.heap.size w W
  ge : ∀ x, x < m → w.heap.size ≤ gI x ∧ w.heap.size ≤ gO x
section
variable {w W V : World} {n m gt g1 g2 c1 c2 gl : Nat} {gI gO : Nat → Nat} {RI RO : Nat → List Int}
theorem TbJ.below (h : TbJ w n m gt g1 g2 c1 c2 gI gO RI RO W) (hb : Below W.heap.size W V) : TbJ w n m gt g1 g2 c1 c2 gI gO RI RO V :=
  ⟨h.b.below hb h.b.lt, h.i.below hb, h.o.below hb, h.ne, h.dis, h.bel.trans (hb.mono h.bel.size), h.ge⟩
theorem TbJ.set (h : TbJ w n m gt g1 g2 c1 c2 gI gO RI RO W) (x : Nat) (hx : x < m) (k : Nat) (v : Int) : TbJ w n m gt g1 g2 c1 c2 gI gO (upd RI x ((RI x).set k v)) RO (W.setCell ⟨gI x, k, none⟩ (.int .i64 v)) := by
  obtain ⟨cs, b1, b2⟩ := h.o.b
  exact ⟨h.b.setCell_ne (fun e => blk_type_ne h.b (h.i.f x hx).1 (by decide) e.symm) _, h.i.set x hx k v, h.o.other (fun e => blk_type_ne b1 (h.i.f x hx).1 (by decide) e.symm) (fun y hy e => h.dis x y hx hy e.symm) _, h.ne, h.dis, h.bel.setCell (by simp; exact (h.ge x hx).1) _, h.ge⟩
theorem TbJ.other (h : TbJ w n m gt g1 g2 c1 c2 gI gO RI RO W) {p : Addr} {xs : List Int} (hf : Fl 2 W p.block xs) (h1 : ∀ x, x < m → gI x ≠ p.block ∧ gO x ≠ p.block) (hp : w.heap.size ≤ p.block) (u : Value) : TbJ w n m gt g1 g2 c1 c2 gI gO RI RO (W.setCell p u) := by
  obtain ⟨cs, b1, b2⟩ := h.o.b
  obtain ⟨cs', b1', b2'⟩ := h.i.b
  exact ⟨h.b.setCell_ne (fun e => blk_type_ne h.b hf (by decide) e.symm) _, h.i.other (fun e => blk_type_ne b1' hf (by decide) e.symm) (fun y hy => (h1 y hy).1) _, h.o.other (fun e => blk_type_ne b1 hf (by decide) e.symm) (fun y hy => (h1 y hy).2) _, h.ne, h.dis, h.bel.setCell hp _, h.ge⟩
theorem TbJ.tab (h : TbJ w n m gt g1 g2 c1 c2 gI gO RI RO W) (hn : n ≤ 9223372036854775807) : TabAt W (some ⟨g1, 0, none⟩) (some ⟨g2, 0, none⟩) ⟨(List.range m).map RI, (List.range m).map RO⟩ := ⟨h.i.rows hn, h.o.rows hn⟩
end
end Go.Proofs.Ytmebpglkeedaoaa
namespace Go.Proofs.Ytmebpglkeedaoaa
open Go.RowKit Dp
theorem RwJ.add {n i g gn : Nat} {gI : Nat → Nat} {R : Nat → List Int} {W : World} (h : RwJ n i g gI R W) {cs : List Value} (hl : Blk W g 22 cs) (hi : i < cs.length) (hf : Fl 2 W gn (R i)) (hR : (R i).length = n) (hne : ∀ x, x < i → gI x ≠ gn) : RwJ n (i + 1) g (upd gI i gn) R (W.setCell ⟨g, i, none⟩ (.slice (some ⟨gn, 0, none⟩) n n)) := by
  obtain ⟨cs', b1, b2⟩ := h.b
  have e : cs' = cs := by
    unfold Blk at b1 hl
    rw [b1] at hl
    simpa using hl
  subst e
  refine ⟨⟨cs'.set i (.slice (some ⟨gn, 0, none⟩) n n), hl.setCell i _, fun x hx => ?_⟩, fun x hx => ?_, fun x y hx hy e => ?_⟩
  · unfold upd
    by_cases e : x = i
    · subst e; rw [if_pos rfl, List.getElem?_set_self hi]
    · rw [if_neg e, List.getElem?_set_ne (fun q => e q.symm)]; exact b2 x (by omega)
  · unfold upd
    by_cases e : x = i
    · subst e; rw [if_pos rfl]; exact ⟨hf.set_ne (p := ⟨g, x, none⟩) (fun q => blk_type_ne hl hf (by decide) q) _, hR⟩
    · rw [if_neg e]; exact ⟨(h.f x (by omega)).1.set_ne (p := ⟨g, i, none⟩) (fun q => blk_type_ne hl (h.f x (by omega)).1 (by decide) q) _, (h.f x (by omega)).2⟩
  · unfold upd at e
    by_cases e1 : x = i <;> by_cases e2 : y = i
    · omega
    · rw [if_pos e1, if_neg e2] at e; exact absurd e.symm (hne y (by omega))
    · rw [if_neg e1, if_pos e2] at e; exact absurd e (hne x (by omega))
    · rw [if_neg e1, if_neg e2] at e; exact h.inj x y (by omega) (by omega) e
structure TaJ (w : World) (n m ni no gt g1 g2 gl : Nat) (gI gO : Nat → Nat) (lv : List Int) (W : World) : Prop where
  b : Blk W gt 55 [.slice (some ⟨g1, 0, none⟩) m m, .slice (some ⟨g2, 0, none⟩) m m]
  li : ∃ cs, Blk W g1 22 cs ∧ cs.length = m
  lo : ∃ cs, Blk W g2 22 cs ∧ cs.length = m
  ri : RwJ n ni g1 gI (fun _ => List.replicate n 0) W
  ro : RwJ n no g2 gO (fun _ => List.replicate n 0) W
  lev : Fl 2 W gl lv
  ne : g1 ≠ g2
  dis : ∀ x y, x < ni → y < no → gI x ≠ gO y
  al : (∀ x, x < ni → gI x ≠ gl ∧ w.heap.size ≤ gI x) ∧ (∀ y, y < no → gO y ≠ gl ∧ w.heap.size ≤ gO y)
  bel : Below w.heap.size w W
  ge : w.heap.size ≤ g1 ∧ w.heap.size ≤ g2 ∧ w.heap.size ≤ gl
section
variable {w W V : World} {n m ni no gt g1 g2 gl a : Nat} {gI gO : Nat → Nat} {lv : List Int}
theorem TaJ.below (h : TaJ w n m ni no gt g1 g2 gl gI gO lv W) (hb : Below W.heap.size W V) : TaJ w n m ni no gt g1 g2 gl gI gO lv V := by
  obtain ⟨c1, x1, x2⟩ := h.li
  obtain ⟨c2, y1, y2⟩ := h.lo
  exact ⟨h.b.below hb h.b.lt, ⟨c1, x1.below hb x1.lt, x2⟩, ⟨c2, y1.below hb y1.lt, y2⟩, h.ri.below hb, h.ro.below hb, h.lev.below hb, h.ne, h.dis, h.al, h.bel.trans (hb.mono h.bel.size), h.ge⟩
theorem TaJ.fresh (h : TaJ w n m ni no gt g1 g2 gl gI gO lv W) (ha : W.heap.size ≤ a) : (∀ x, x < ni → gI x ≠ a) ∧ (∀ y, y < no → gO y ≠ a) ∧ a ≠ gl ∧ w.heap.size ≤ a :=
  ⟨fun x hx e => by have := (h.ri.f x hx).1.lt; omega, fun y hy e => by have := (h.ro.f y hy).1.lt; omega, fun e => by have := h.lev.lt; omega, by have := h.bel.size; omega⟩
theorem TaJ.inn (h : TaJ w n m ni no gt g1 g2 gl gI gO lv W) (hi : ni < m) (hf : Fl 2 W a (List.replicate n 0)) (hx : (∀ x, x < ni → gI x ≠ a) ∧ (∀ y, y < no → gO y ≠ a) ∧ a ≠ gl ∧ w.heap.size ≤ a) :
    TaJ w n m (ni + 1) no gt g1 g2 gl (upd gI ni a) gO lv (W.setCell ⟨g1, ni, none⟩ (.slice (some ⟨a, 0, none⟩) n n)) := by
  obtain ⟨c1, x1, x2⟩ := h.li
  obtain ⟨c2, y1, y2⟩ := h.lo
  refine ⟨h.b.setCell_ne (fun e => blk_type_ne h.b x1 (by decide) e.symm) _, ⟨_, x1.setCell ni _, by simp [x2]⟩, ⟨c2, y1.setCell_ne (fun e => h.ne e.symm) _, y2⟩, h.ri.add x1 (by omega) hf (by simp) hx.1,
    h.ro.other (fun e => h.ne e.symm) (fun y hy e => blk_type_ne x1 (h.ro.f y hy).1 (by decide) e) _, h.lev.set_ne (fun e => blk_type_ne x1 h.lev (by decide) e) _, h.ne, fun x y hx' hy => ?_, ⟨fun x hx' => ?_, h.al.2⟩, h.bel.setCell h.ge.1 _, h.ge⟩
  · unfold upd
    by_cases e : x = ni
    · rw [if_pos e]; exact fun q => hx.2.1 y hy q.symm
    · rw [if_neg e]; exact h.dis x y (by omega) hy
  · unfold upd
    by_cases e : x = ni
    · rw [if_pos e]; exact ⟨hx.2.2.1, hx.2.2.2⟩
    · rw [if_neg e]; exact h.al.1 x (by omega)
theorem TaJ.outt (h : TaJ w n m ni no gt g1 g2 gl gI gO lv W) (hi : no < m) (hf : Fl 2 W a (List.replicate n 0)) (hx : (∀ x, x < ni → gI x ≠ a) ∧ (∀ y, y < no → gO y ≠ a) ∧ a ≠ gl ∧ w.heap.size ≤ a) :
    TaJ w n m ni (no + 1) gt g1 g2 gl gI (upd gO no a) lv (W.setCell ⟨g2, no, none⟩ (.slice (some ⟨a, 0, none⟩) n n)) := by
  obtain ⟨c1, x1, x2⟩ := h.li
  obtain ⟨c2, y1, y2⟩ := h.lo
  refine ⟨h.b.setCell_ne (fun e => blk_type_ne h.b y1 (by decide) e.symm) _, ⟨c1, x1.setCell_ne (fun e => h.ne e) _, x2⟩, ⟨_, y1.setCell no _, by simp [y2]⟩, h.ri.other (fun e => h.ne e) (fun x hx' e => blk_type_ne y1 (h.ri.f x hx').1 (by decide) e) _,
    h.ro.add y1 (by omega) hf (by simp) hx.2.1, h.lev.set_ne (fun e => blk_type_ne y1 h.lev (by decide) e) _, h.ne, fun x y hx' hy => ?_, ⟨h.al.1, fun y hy => ?_⟩, h.bel.setCell h.ge.2.1 _, h.ge⟩
  · unfold upd
    by_cases e : y = no
    · rw [if_pos e]; exact hx.1 x hx'
    · rw [if_neg e]; exact h.dis x y hx' (by omega)
  · unfold upd
    by_cases e : y = no
    · rw [if_pos e]; exact ⟨hx.2.2.1, hx.2.2.2⟩
    · rw [if_neg e]; exact h.al.2 y (by omega)
theorem TaJ.set (h : TaJ w n m ni no gt g1 g2 gl gI gO lv W) (k : Nat) (v : Int) : TaJ w n m ni no gt g1 g2 gl gI gO (lv.set k v) (W.setCell ⟨gl, k, none⟩ (.int .i64 v)) := by
  obtain ⟨c1, x1, x2⟩ := h.li
  obtain ⟨c2, y1, y2⟩ := h.lo
  exact ⟨h.b.setCell_ne (fun e => blk_type_ne h.b h.lev (by decide) e.symm) _, ⟨c1, x1.setCell_ne (fun e => blk_type_ne x1 h.lev (by decide) e.symm) _, x2⟩, ⟨c2, y1.setCell_ne (fun e => blk_type_ne y1 h.lev (by decide) e.symm) _, y2⟩, h.ri.other (fun e => blk_type_ne x1 h.lev (by decide) e.symm) (fun x hx => (h.al.1 x hx).1) _,
    h.ro.other (fun e => blk_type_ne y1 h.lev (by decide) e.symm) (fun y hy => (h.al.2 y hy).1) _, h.lev.put k v, h.ne, h.dis, h.al, h.bel.setCell h.ge.2.2 _, h.ge⟩
theorem TaJ.cellI (h : TaJ w n m ni no gt g1 g2 gl gI gO lv W) (k : Nat) (hk : k < m) : (∃ v, W.cell? ⟨g1, k, none⟩ = some v) ∧ W.frozen? ⟨g1, k, none⟩ = false ∧ g1 < W.heap.size := by
  obtain ⟨c1, x1, x2⟩ := h.li
  exact ⟨⟨_, x1.cell k (List.getElem?_eq_getElem (by omega))⟩, x1.free k, x1.lt⟩
theorem TaJ.cellO (h : TaJ w n m ni no gt g1 g2 gl gI gO lv W) (k : Nat) (hk : k < m) : (∃ v, W.cell? ⟨g2, k, none⟩ = some v) ∧ W.frozen? ⟨g2, k, none⟩ = false ∧ g2 < W.heap.size := by
  obtain ⟨c1, x1, x2⟩ := h.lo
  exact ⟨⟨_, x1.cell k (List.getElem?_eq_getElem (by omega))⟩, x1.free k, x1.lt⟩
theorem TaJ.full (h : TaJ w n m m m gt g1 g2 gl gI gO lv W) : TbJ w n m gt g1 g2 m m gI gO (fun _ => List.replicate n 0) (fun _ => List.replicate n 0) W :=
  ⟨h.b, h.ri, h.ro, h.ne, h.dis, h.bel, fun x hx => ⟨(h.al.1 x hx).2, (h.al.2 x hx).2⟩⟩
end
end Go.Proofs.Ytmebpglkeedaoaa
namespace Go.Proofs.Ytmebpglkeedaoaa
open Go.RowKit Dp
namespace Dp
def mapR (m : Nat) (f : Nat → Int) : List Int := (List.range m).map f
theorem mapR_len (m : Nat) (f : Nat → Int) : (mapR m f).length = m := by simp [mapR]
theorem mapR_get {m i : Nat} {f : Nat → Int} (h : i < m) : (mapR m f).getD i 0 = f i := by simp [mapR, List.getD_eq_getElem?_getD, h]
theorem mapR_congr {m : Nat} {f g : Nat → Int} (h : ∀ x, x < m → f x = g x) : mapR m f = mapR m g := by
  unfold mapR
  exact List.map_congr_left fun x hx => h x (by simpa using hx)
theorem mapR_set {m i : Nat} {f : Nat → Int} (v : Int) : (mapR m f).set i v = mapR m (fun x => if x = i then v else f x) := by
  apply List.ext_getElem
  · simp [mapR]
  · intro j h1 h2
    simp only [mapR, List.getElem_set, List.getElem_map, List.getElem_range]
    by_cases e : i = j
    · subst e; simp
    · rw [if_neg e, if_neg (fun q => e q.symm)]
def lvC (S : Site) (cs : List Car) (m k i : Nat) : List Int := mapR m (fun x => if x < i then egL S cs (k + 1) x else egL S cs k x)
def rwC (S : Site) (cs : List Car) (n k i : Nat) (x : Nat) : List Int := rowK (egX S cs x) n (if x < i then k + 1 else k)
theorem lvC_zero (S : Site) (cs : List Car) (m k : Nat) : lvC S cs m k 0 = mapR m (egL S cs k) := mapR_congr fun x _ => by rw [if_neg (by omega)]
theorem lvC_all (S : Site) (cs : List Car) (m k : Nat) : lvC S cs m k m = mapR m (egL S cs (k + 1)) := mapR_congr fun x hx => by rw [if_pos hx]
theorem rwC_zero (S : Site) (cs : List Car) (n k x : Nat) : rwC S cs n k 0 x = rowK (egX S cs x) n k := by unfold rwC; rw [if_neg (by omega)]
theorem rwC_all (S : Site) (cs : List Car) {n k m x : Nat} (h : x < m) : rwC S cs n k m x = rowK (egX S cs x) n (k + 1) := by unfold rwC; rw [if_pos h]
theorem lvC_get (S : Site) (cs : List Car) {m k i : Nat} (h : i < m) : (lvC S cs m k i).getD i 0 = egL S cs k i := by unfold lvC; rw [mapR_get h, if_neg (by omega)]
theorem lvC_set (S : Site) (cs : List Car) {m k i : Nat} (h : i < m) (u v : Int) (hv : v = egL S cs (k + 1) i) : ((lvC S cs m k i).set i u).set i v = lvC S cs m k (i + 1) ∧ (lvC S cs m k i).set i v = lvC S cs m k (i + 1) := by
  rw [List.set_set]
  unfold lvC
  rw [mapR_set]
  have : mapR m (fun x => if x = i then v else if x < i then egL S cs (k + 1) x else egL S cs k x) = mapR m (fun x => if x < i + 1 then egL S cs (k + 1) x else egL S cs k x) := mapR_congr fun x hx => by
    by_cases e : x = i
    · subst e; rw [if_pos rfl, if_pos (by omega), hv]
    · rw [if_neg e]
      by_cases h2 : x < i
      · rw [if_pos h2, if_pos (by omega)]
      · rw [if_neg h2, if_neg (by omega)]
  exact ⟨this, this⟩
theorem rwC_set (S : Site) (cs : List Car) {n k i : Nat} (hk : k < n) (x : Nat) : (if x = i then (rwC S cs n k i i).set k (egX S cs i k) else rwC S cs n k i x) = rwC S cs n k (i + 1) x := by
  by_cases e : x = i
  · subst e
    rw [if_pos rfl]
    unfold rwC
    rw [if_neg (by omega), if_pos (by omega), rowK_set _ _ _ hk]
  · rw [if_neg e]
    unfold rwC
    by_cases h2 : x < i
    · rw [if_pos h2, if_pos (by omega)]
    · rw [if_neg h2, if_neg (by omega)]
theorem rwC_skip (S : Site) (cs : List Car) {n k i : Nat} (hk : k < n) (h0 : egX S cs i k = 0) (x : Nat) : rwC S cs n k i x = rwC S cs n k (i + 1) x := by
  unfold rwC
  by_cases e : x = i
  · subst e
    rw [if_neg (by omega), if_pos (by omega), rowK_none _ _ _ h0 hk]
  · by_cases h2 : x < i
    · rw [if_pos h2, if_pos (by omega)]
    · rw [if_neg h2, if_neg (by omega)]
end Dp
theorem make_53 (n : Nat) (hn : n ≤ 4096) (W : World) : (Instr.makeSlice 53 (.int .i64 n) (.int .i64 n)).run Try.prog W = .ok (.slice (some ⟨W.heap.size, 0, none⟩) n n) (W.alloc (.cells (Array.replicate n (.slice none 0 0)) 22)) := by
  obtain ⟨i, hi, hz0, hz1, hz2⟩ := info_parts info22
  have hr := run_make (P := Try.prog) W 53 22 i _ Try.underlying53 hi hz0 .i64 .i64 n n (by omega) (by omega) (by rw [hz2]; omega) (by omega)
  simp only [Int.toNat_natCast, hz1, Nat.mul_one] at hr
  rw [hr]
  have e1 : madeCells (Value.slice none 0 0).cells n = Array.replicate n (.slice none 0 0) := by
    unfold madeCells
    apply Array.ext
    · simp
    · intro j h1 h2
      simp [Value.cells, Nat.mod_one]
  rw [e1]
theorem min3_run (x y z : Int) (ts : Array TypeId) (t : TypeId) (w : World) : (Builtin.min_ ts t #[.int .i64 x, .int .i64 y, .int .i64 z]).run Try.prog w = .ok (.int .i64 (min (min x y) z)) w := by
  have h : (Builtin.min_ ts t #[.int .i64 x, .int .i64 y, .int .i64 z]).run Try.prog w = .ok (.int .i64 (if z < (if y < x then y else x) then z else (if y < x then y else x))) w := by
    have e : ∀ a b w, Sem.run Try.prog (Builtin.min2 (.int .i64 a) (.int .i64 b)) w = .ok (.int .i64 (if b < a then b else a)) w := fun a b w => rfl
    simp [Builtin.min_, e]
  rw [h, gmin_eq, gmin_eq]
structure EgJ (w : World) (n m gt g1 g2 c1 c2 gl gr : Nat) (gI gO : Nat → Nat) (cv : List Value) (RI : Nat → List Int) (lv : List Int) (W : World) : Prop where
  t : TbJ w n m gt g1 g2 c1 c2 gI gO RI (fun _ => List.replicate n 0) W
  l : Fl 2 W gl lv
  ap : ∀ x, x < m → gI x ≠ gl ∧ gO x ≠ gl
  lg : w.heap.size ≤ gl
  s : Blk W w.heap.size 51 cv
  r : Blk W gr 55 [.slice none 0 0, .slice none 0 0]
  rg : gr ≠ gt ∧ w.heap.size ≤ gr
section
variable {w W V : World} {n m gt g1 g2 c1 c2 gl gr : Nat} {gI gO : Nat → Nat} {cv : List Value} {RI : Nat → List Int} {lv : List Int}
theorem EgJ.below (h : EgJ w n m gt g1 g2 c1 c2 gl gr gI gO cv RI lv W) (hb : Below W.heap.size W V) : EgJ w n m gt g1 g2 c1 c2 gl gr gI gO cv RI lv V :=
  ⟨h.t.below hb, h.l.below hb, h.ap, h.lg, h.s.below hb h.s.lt, h.r.below hb h.r.lt, h.rg⟩
theorem EgJ.setI (h : EgJ w n m gt g1 g2 c1 c2 gl gr gI gO cv RI lv W) (x : Nat) (hx : x < m) (k : Nat) (v : Int) : EgJ w n m gt g1 g2 c1 c2 gl gr gI gO cv (fun y => if y = x then (RI x).set k v else RI y) lv (W.setCell ⟨gI x, k, none⟩ (.int .i64 v)) :=
  ⟨h.t.set x hx k v, h.l.set_ne (p := ⟨gI x, k, none⟩) (fun e => (h.ap x hx).1 e.symm) _, h.ap, h.lg, h.s.setCell_ne (fun e => blk_type_ne h.s (h.t.i.f x hx).1 (by decide) e.symm) _, h.r.setCell_ne (fun e => blk_type_ne h.r (h.t.i.f x hx).1 (by decide) e.symm) _, h.rg⟩
theorem EgJ.setL (h : EgJ w n m gt g1 g2 c1 c2 gl gr gI gO cv RI lv W) (k : Nat) (v : Int) : EgJ w n m gt g1 g2 c1 c2 gl gr gI gO cv RI (lv.set k v) (W.setCell ⟨gl, k, none⟩ (.int .i64 v)) :=
  ⟨h.t.other (p := ⟨gl, k, none⟩) h.l (fun x hx => h.ap x hx) h.lg _, h.l.put k v, h.ap, h.lg, h.s.setCell_ne (fun e => blk_type_ne h.s h.l (by decide) e.symm) _, h.r.setCell_ne (fun e => blk_type_ne h.r h.l (by decide) e.symm) _, h.rg⟩
theorem EgJ.rows (h : EgJ w n m gt g1 g2 c1 c2 gl gr gI gO cv RI lv W) {R' : Nat → List Int} (he : ∀ i, i < m → R' i = RI i) : EgJ w n m gt g1 g2 c1 c2 gl gr gI gO cv R' lv W :=
  ⟨⟨h.t.b, h.t.i.of he, h.t.o, h.t.ne, h.t.dis, h.t.bel, h.t.ge⟩, h.l, h.ap, h.lg, h.s, h.r, h.rg⟩
end
end Go.Proofs.Ytmebpglkeedaoaa
namespace Go.Proofs.Ytmebpglkeedaoaa
open Go.RowKit Dp
def EgP (S : Site) (cs : List Car) (w : World) : Ending → World → Prop := fun e w' =>
  (egE S cs = 0 ∧ ∃ A1 A2 c1 c2, e = .returned (.tuple #[.agg #[.slice A1 cs.length c1, .slice A2 cs.length c2], .int .i64 0]) ∧ TabAt w' A1 A2 (egT S cs) ∧ (cs.length ≤ c1 ∧ c1 ≤ 9223372036854775807) ∧ (cs.length ≤ c2 ∧ c2 ≤ 9223372036854775807) ∧ Below w.heap.size w w') ∨
  (egE S cs ≠ 0 ∧ e = .returned (.tuple #[.agg #[.slice none 0 0, .slice none 0 0], .int .i64 (egE S cs)]) ∧ Below w.heap.size w w')
theorem lvA_aux {f : Nat → Int} {m : Nat} : rowK f m m = mapR m f := by
  unfold rowK mapR
  exact List.map_congr_left fun x hx => by rw [if_pos (by simpa using hx)]
def lvA (cs : List Car) (m i : Nat) : List Int := rowK (fun x => (cs.getD x default).start) m i
set_option maxHeartbeats 16000000 in
set_option maxRecDepth 100000 in
theorem Eager_c (A B C D E : Option Addr) (S : Site) (cs : List Car) (n nB nC nD m cA cB cC cD cE : Nat) (w : World) (hn : n = S.lim.length) (hnB : nB = S.exp.length) (hnC : nC = S.buy.length) (hnD : nD = S.sell.length) (hm : m = cs.length)
    (hA : n ≤ cA ∧ cA ≤ 9223372036854775807) (hB : nB ≤ cB ∧ cB ≤ 9223372036854775807) (hC : nC ≤ cC ∧ cC ≤ 9223372036854775807) (hD : nD ≤ cD ∧ cD ≤ 9223372036854775807) (hE : m ≤ cE ∧ cE ≤ 9223372036854775807)
    (hS : SiteAt w A B C D S) (hcs : CarsAt w E cs) :
    Calls Try.prog 43 #[.agg #[.slice A n cA, .slice B nB cB, .slice C nC cC, .slice D nD cD], .slice E m cE] w (EgP S cs w) := by
  have HN := Lib.hid hn
  have HM := Lib.hid hm
  have HS := Lib.hid hS
  have HCS := Lib.hid hcs
  have F36 : Hid (∀ V, Below w.heap.size w V → Calls Try.prog 36 #[.agg #[.slice A n cA, .slice B nB cB, .slice C nC cC, .slice D nD cD], .slice E m cE] V fun e w' => e = .returned (.int .i64 (stE S cs)) ∧ Below V.heap.size V w') := Lib.hid (fun V hV => CheckSite_c A B C D E S cs n nB nC nD m cA cB cC cD cE V hn hnB hnC hnD hm hA hB hC hD hE (hS.below hV (Nat.le_refl _)) (hcs.below hV (Nat.le_refl _)))
  have F32 : Hid (∀ V g1 g2, Below w.heap.size w V → TabAt V (some ⟨g1, 0, none⟩) (some ⟨g2, 0, none⟩) (egT S cs) → Calls Try.prog 32 #[.agg #[.slice A n cA, .slice B nB cB, .slice C nC cC, .slice D nD cD], .slice E m cE, .agg #[.slice (some ⟨g1, 0, none⟩) m m, .slice (some ⟨g2, 0, none⟩) m m]] V fun e w' => e = .returned (.int .i64 (plE S cs (egT S cs))) ∧ Below V.heap.size V w') := Lib.hid (fun V g1 g2 hV hT => CheckPlan_c A B C D E _ _ S cs (egT S cs) n nB nC nD m m m cA cB cC cD cE m m V hn hnB hnC hnD hm (by rw [hm]; simp [egT]) (by rw [hm]; simp [egT]) hA hB hC hD hE ⟨Nat.le_refl _, by omega⟩ ⟨Nat.le_refl _, by omega⟩ (hS.below hV (Nat.le_refl _)) (hcs.below hV (Nat.le_refl _)) hT)
  have HP1 : Hid (stE S cs = 0 → plE S cs (egT S cs) = 0 → ∀ g1 g2 w', TabAt w' (some ⟨g1, 0, none⟩) (some ⟨g2, 0, none⟩) (egT S cs) → Below w.heap.size w w' → EgP S cs w (.returned (.tuple #[.agg #[.slice (some ⟨g1, 0, none⟩) m m, .slice (some ⟨g2, 0, none⟩) m m], .int .i64 0])) w') := Lib.hid (fun h h2 g1 g2 w' ht hb => .inl ⟨by unfold egE; rw [if_pos h, if_pos h2], _, _, m, m, by rw [hm], ht, by omega, by omega, hb⟩)
  have HP2 : Hid (stE S cs ≠ 0 → ∀ w', Below w.heap.size w w' → EgP S cs w (.returned (.tuple #[.agg #[.slice none 0 0, .slice none 0 0], .int .i64 (stE S cs)])) w') := Lib.hid (fun h w' hb => .inr ⟨by unfold egE; rw [if_neg h]; exact h, by unfold egE; rw [if_neg h], hb⟩)
  have HP3 : Hid (stE S cs = 0 → plE S cs (egT S cs) ≠ 0 → ∀ w', Below w.heap.size w w' → EgP S cs w (.returned (.tuple #[.agg #[.slice none 0 0, .slice none 0 0], .int .i64 18])) w') := Lib.hid (fun h h2 w' hb => .inr ⟨by unfold egE; rw [if_pos h, if_neg h2]; decide, by unfold egE; rw [if_pos h, if_neg h2], hb⟩)
  obtain ⟨v, hv⟩ : ∃ v, v = stE S cs := ⟨_, rfl⟩
  rw [← hv] at F36 HP1 HP2 HP3
  have HV := Lib.hid hv
  clear hv hn hnB hnC hnD hm hS hcs
  generalize EgP S cs w = POST at *
  have HB := Lib.hid (((Below.refl w.heap.size w).alloc (Nat.le_refl _) (.cells #[.slice A n cA, .slice B nB cB, .slice C nC cC, .slice D nD cD] 51)).alloc (by simp) (.cells #[.slice none 0 0, .slice none 0 0] 55))
  have XS := Lib.hid ((Blk.new' w #[.slice A n cA, .slice B nB cB, .slice C nC cC, .slice D nD cD] 51).alloc (.cells #[.slice none 0 0, .slice none 0 0] 55))
  have XR := Lib.hid (show Blk ((w.alloc (.cells #[.slice A n cA, .slice B nB cB, .slice C nC cC, .slice D nD cD] 51)).alloc (.cells #[.slice none 0 0, .slice none 0 0] 55)) (w.heap.size + 1) 55 [.slice none 0 0, .slice none 0 0] from by simpa using Blk.new' (w.alloc (.cells #[.slice A n cA, .slice B nB cB, .slice C nC cC, .slice D nD cD] 51)) #[.slice none 0 0, .slice none 0 0] 55)
  go_enter Try.func43, Try.ntmps43
  go_upto_region 1 with fail
  (try simp only [World.size_alloc])
  generalize (w.alloc (.cells #[.slice A n cA, .slice B nB cB, .slice C nC cC, .slice D nD cD] 51)).alloc (.cells #[.slice none 0 0, .slice none 0 0] 55) = w1 at HB XS XR ⊢
  have s0 := XS.out.cell 0 rfl
  have s1 := XS.out.cell 1 rfl
  have s2 := XS.out.cell 2 rfl
  have s3 := XS.out.cell 3 rfl
  have sl := XS.out.lt
  go_wp2_with fail
  refine (F36.out w1 HB.out).mono ?_
  rintro e w2 ⟨rfl, hb⟩
  clear s0 s1 s2 s3 sl
  have HB2 := Lib.hid (HB.out.trans (hb.mono HB.out.size))
  have XS2 := Lib.hid (XS.out.below hb XS.out.lt)
  have XR2 := Lib.hid (XR.out.below hb XR.out.lt)
  clear hb HB XS XR F36
  have HGR : Hid (w.heap.size ≤ w.heap.size + 1) := Lib.hid (by omega)
  generalize w.heap.size + 1 = gr at *
  by_cases h0 : v = 0
  rotate_left
  · have hb0 : (v == 0) = false := by simpa using h0
    have EE := Lib.hid (HP2.out h0)
    have r0 := XR2.out.cell 0 rfl
    have r1 := XR2.out.cell 1 rfl
    have rz := XR2.out.free 0
    have rz1 := XR2.out.free 1
    have rl := XR2.out.lt
    have HF := Lib.hid (And.intro ((XR2.out.setCell 0 (.slice none 0 0)).setCell 1 (.slice none 0 0)) (((HB2.out.setCell (p := ⟨gr, 0, none⟩) HGR.out (.slice none 0 0)).setCell (p := ⟨gr, 1, none⟩) HGR.out (.slice none 0 0))))
    go_wp2_with fail
    have q0 := HF.out.1.cell 0 rfl
    have q1 := HF.out.1.cell 1 rfl
    exact bodyPost_ret (v := .tuple #[.agg #[.slice none 0 0, .slice none 0 0], .int .i64 v]) (by simp [results, Try.results43, go_sem, q0, q1]) rfl (EE.out _ HF.out.2)
  subst h0
  have HZ : Hid (stE S cs = 0) := Lib.hid HV.out.symm
  clear HV HP2
  have h48 : n ≤ 48 := by have h3 := (siteHead_iff.1 (stE_0 HZ.out).2.1).1; have := HN.out; omega
  have h8 : m ≤ 8 := by have := (stE_0 HZ.out).1; have := HM.out; omega
  have hmk53 := make_53 m (by omega)
  have hmk22 := make_64 n (by omega)
  have hmk2m := make_64 m (by omega)
  have s0 := XS2.out.cell 0 rfl
  have s1 := XS2.out.cell 1 rfl
  have s2 := XS2.out.cell 2 rfl
  have s3 := XS2.out.cell 3 rfl
  have sl := XS2.out.lt
  go_upto_region 5 with fail
  clear s0 s1 s2 s3 sl
  have HT := Lib.hid (Below.refl w2.heap.size w2).drew
  go_cut [8] from 29 to 35 (fun tv wc => ∃ gt g1 g2 : Nat, tv = .pointer (some ⟨gt, 0, none⟩) ∧ Hid ((Blk wc gt 55 [.slice (some ⟨g1, 0, none⟩) m m, .slice (some ⟨g2, 0, none⟩) m m] ∧ Blk wc g1 22 (List.replicate m (.slice none 0 0)) ∧ Blk wc g2 22 (List.replicate m (.slice none 0 0)) ∧ g1 ≠ g2) ∧ (w2.heap.size ≤ gt ∧ w2.heap.size ≤ g1 ∧ w2.heap.size ≤ g2) ∧ Below w2.heap.size w2 wc))
  case first =>
    refine lBegin (S := fun _ W => (True)) (by kernel_rfl) ?_ (fun hHeld => ?_)
    · trivial
    refine lTake (i := 0) (v := ?_) rfl (by kernel_rfl) (by kernel_rfl) (by kernel_rfl) (fun _ _ _ h => h) (by rfl) (fun _ _ h => h) (fun _ _ h => h) ?_ (by assumption) (fun hHeld2 => ?_)
    rotate_left 1
    · (intro _ _ _ _ _; first | (go_simp; done) | (go_simp; with_reducible rfl))
    clear hHeld; have hHeld := hHeld2; clear hHeld2
    (try simp only [Act.put, List.setIfInBounds_toArray, List.set_cons_zero, List.set_cons_succ])
    refine lTake (i := 1) (v := ?_) rfl (by kernel_rfl) (by kernel_rfl) (by kernel_rfl) (fun _ _ _ h => h) (by rfl) (fun _ _ h => h) (fun _ _ h => h) ?_ (by assumption) (fun hHeld2 => ?_)
    rotate_left 1
    · (intro _ _ _ _ _; first | (go_simp; done) | (go_simp; with_reducible rfl))
    clear hHeld; have hHeld := hHeld2; clear hHeld2
    (try simp only [Act.put, List.setIfInBounds_toArray, List.set_cons_zero, List.set_cons_succ])
    refine lTake (i := 3) (v := ?_) rfl (by kernel_rfl) (by kernel_rfl) (by kernel_rfl) (fun _ _ _ h => h) (by rfl) (fun _ _ h => h) (fun _ _ h => h) ?_ (by assumption) (fun hHeld2 => ?_)
    rotate_left 1
    · (intro _ _ _ _ _; first | (go_simp; done) | (go_simp; with_reducible rfl))
    clear hHeld; have hHeld := hHeld2; clear hHeld2
    (try simp only [Act.put, List.setIfInBounds_toArray, List.set_cons_zero, List.set_cons_succ])
    refine lTake (i := 4) (v := ?_) rfl (by kernel_rfl) (by kernel_rfl) (by kernel_rfl) (fun _ _ _ h => h) (by rfl) (fun _ _ h => h) (fun _ _ h => h) ?_ (by assumption) (fun hHeld2 => ?_)
    rotate_left 1
    · (intro _ _ _ _ _; first | (go_simp; done) | (go_simp; with_reducible rfl))
    clear hHeld; have hHeld := hHeld2; clear hHeld2
    (try simp only [Act.put, List.setIfInBounds_toArray, List.set_cons_zero, List.set_cons_succ])
    refine lReady (rs := [2, 5, 7]) (by kernel_rfl) (by simp) ?_
    refine AllL.cons (i := 2) rfl (fun K hK => ?_) ?_
    · refine step_new (.cells (Array.replicate m (.slice none 0 0)) 22) (fun g => .slice (some ⟨g, 0, none⟩) m m) rfl (by unfold execOp; simp [hmk53, go_sem]) ?_; intro g1 wv z6 hc6 hb6; (try have HNE := Lib.hid (show g1 ≠ g2 from by have := HFg2.out.lt; omega)); (try have HFg2 := Lib.hid (HFg2.out.below hb6 HFg2.out.lt)); (try have HF7 := Lib.hid (HF7.out.below hb6 HF7.out.lt)); have HFg1 := Lib.hid (show Blk wv g1 22 (List.replicate m (.slice none 0 0)) from by unfold Blk; rw [hc6]; simp); have HZg1 := Lib.hid (show w2.heap.size ≤ g1 from Nat.le_trans HT.out.size z6); have HT := Lib.hid (HT.out.trans (hb6.mono HT.out.size)); clear hb6 hc6 z6
      (try go_wp2_with fail)
      refine hK.out _ _ ?_ (fun hHeld2 => ?_)
      · trivial
      clear hK K
      clear hHeld; have hHeld := hHeld2; clear hHeld2
      (try simp only [Act.put, List.setIfInBounds_toArray, List.set_cons_zero, List.set_cons_succ])
      refine lReady (rs := [5, 7]) (by kernel_rfl) (by simp) ?_
      refine AllL.cons (i := 5) rfl (fun K hK => ?_) ?_
      · refine step_new (.cells (Array.replicate m (.slice none 0 0)) 22) (fun g => .slice (some ⟨g, 0, none⟩) m m) rfl (by unfold execOp; simp [hmk53, go_sem]) ?_; intro g2 wv z6 hc6 hb6; (try have HNE := Lib.hid (show g1 ≠ g2 from by have := HFg1.out.lt; omega)); (try have HFg1 := Lib.hid (HFg1.out.below hb6 HFg1.out.lt)); (try have HF7 := Lib.hid (HF7.out.below hb6 HF7.out.lt)); have HFg2 := Lib.hid (show Blk wv g2 22 (List.replicate m (.slice none 0 0)) from by unfold Blk; rw [hc6]; simp); have HZg2 := Lib.hid (show w2.heap.size ≤ g2 from Nat.le_trans HT.out.size z6); have HT := Lib.hid (HT.out.trans (hb6.mono HT.out.size)); clear hb6 hc6 z6
        (try go_wp2_with fail)
        refine hK.out _ _ ?_ (fun hHeld2 => ?_)
        · trivial
        clear hK K
        clear hHeld; have hHeld := hHeld2; clear hHeld2
        (try simp only [Act.put, List.setIfInBounds_toArray, List.set_cons_zero, List.set_cons_succ])
        refine lTake (i := 6) (v := ?_) rfl (by kernel_rfl) (by kernel_rfl) (by kernel_rfl) (fun _ _ _ h => h) (by rfl) (fun _ _ h => h) (fun _ _ h => h) ?_ (by assumption) (fun hHeld2 => ?_)
        rotate_left 1
        · (intro _ _ _ _ _; first | (go_simp; done) | (go_simp; with_reducible rfl))
        clear hHeld; have hHeld := hHeld2; clear hHeld2
        (try simp only [Act.put, List.setIfInBounds_toArray, List.set_cons_zero, List.set_cons_succ])
        refine lReady (rs := [7]) (by kernel_rfl) (by simp) ?_
        refine AllL.cons (i := 7) rfl (fun K hK => ?_) ?_
        · refine step_new (.cells #[.slice none 0 0, .slice none 0 0] 55) (fun g => .pointer (some ⟨g, 0, none⟩)) rfl (by kernel_rfl) ?_; intro gt wv z6 hc6 hb6; (try have HFg1 := Lib.hid (HFg1.out.below hb6 HFg1.out.lt)); (try have HFg2 := Lib.hid (HFg2.out.below hb6 HFg2.out.lt)); have HF7 := Lib.hid (show Blk wv gt 55 [.slice none 0 0, .slice none 0 0] from hc6); have HZ7 := Lib.hid (show w2.heap.size ≤ gt from Nat.le_trans HT.out.size z6); have HT := Lib.hid (HT.out.trans (hb6.mono HT.out.size)); clear hb6 hc6 z6
          (try go_wp2_with fail)
          refine hK.out _ _ ?_ (fun hHeld2 => ?_)
          · trivial
          clear hK K
          clear hHeld; have hHeld := hHeld2; clear hHeld2
          (try simp only [Act.put, List.setIfInBounds_toArray, List.set_cons_zero, List.set_cons_succ])
          refine lReady (rs := [8]) (by kernel_rfl) (by simp) ?_
          refine AllL.cons (i := 8) rfl (fun K hK => ?_) ?_
          · have q0 := HF7.out.cell 0 rfl; have q1 := HF7.out.cell 1 rfl; have z0 := HF7.out.free 0; have z1 := HF7.out.free 1; have ql := HF7.out.lt; have HFIN := Lib.hid (And.intro (And.intro ((HF7.out.setCell 0 (.slice (some ⟨g1, 0, none⟩) m m)).setCell 1 (.slice (some ⟨g2, 0, none⟩) m m)) (And.intro ((HFg1.out.setCell_ne (p := ⟨gt, 0, none⟩) (fun e => blk_type_ne HF7.out HFg1.out (by decide) e) (.slice (some ⟨g1, 0, none⟩) m m)).setCell_ne (p := ⟨gt, 1, none⟩) (fun e => blk_type_ne HF7.out HFg1.out (by decide) e) (.slice (some ⟨g2, 0, none⟩) m m)) (And.intro ((HFg2.out.setCell_ne (p := ⟨gt, 0, none⟩) (fun e => blk_type_ne HF7.out HFg2.out (by decide) e) (.slice (some ⟨g1, 0, none⟩) m m)).setCell_ne (p := ⟨gt, 1, none⟩) (fun e => blk_type_ne HF7.out HFg2.out (by decide) e) (.slice (some ⟨g2, 0, none⟩) m m)) HNE.out))) (And.intro (And.intro HZ7.out (And.intro HZg1.out HZg2.out)) ((HT.out.setCell (p := ⟨gt, 0, none⟩) HZ7.out (.slice (some ⟨g1, 0, none⟩) m m)).setCell (p := ⟨gt, 1, none⟩) HZ7.out (.slice (some ⟨g2, 0, none⟩) m m)))); go_simp
            (try go_wp2_with fail)
            refine hK.out _ _ ?_ (fun hHeld2 => ?_)
            · trivial
            clear hK K
            clear hHeld; have hHeld := hHeld2; clear hHeld2
            (try simp only [Act.put, List.setIfInBounds_toArray, List.set_cons_zero, List.set_cons_succ])
            refine lDone (by kernel_rfl) ?_ _
            go_wp2_with fail
            go_meet
            case rel => exact ⟨gt, g1, g2, rfl, HFIN⟩
          exact AllL.nil
        exact AllL.nil
      refine AllL.cons (i := 7) rfl (fun K hK => ?_) ?_
      · refine step_new (.cells #[.slice none 0 0, .slice none 0 0] 55) (fun g => .pointer (some ⟨g, 0, none⟩)) rfl (by kernel_rfl) ?_; intro gt wv z6 hc6 hb6; (try have HFg1 := Lib.hid (HFg1.out.below hb6 HFg1.out.lt)); (try have HFg2 := Lib.hid (HFg2.out.below hb6 HFg2.out.lt)); have HF7 := Lib.hid (show Blk wv gt 55 [.slice none 0 0, .slice none 0 0] from hc6); have HZ7 := Lib.hid (show w2.heap.size ≤ gt from Nat.le_trans HT.out.size z6); have HT := Lib.hid (HT.out.trans (hb6.mono HT.out.size)); clear hb6 hc6 z6
        (try go_wp2_with fail)
        refine hK.out _ _ ?_ (fun hHeld2 => ?_)
        · trivial
        clear hK K
        clear hHeld; have hHeld := hHeld2; clear hHeld2
        (try simp only [Act.put, List.setIfInBounds_toArray, List.set_cons_zero, List.set_cons_succ])
        refine lReady (rs := [5]) (by kernel_rfl) (by simp) ?_
        refine AllL.cons (i := 5) rfl (fun K hK => ?_) ?_
        · refine step_new (.cells (Array.replicate m (.slice none 0 0)) 22) (fun g => .slice (some ⟨g, 0, none⟩) m m) rfl (by unfold execOp; simp [hmk53, go_sem]) ?_; intro g2 wv z6 hc6 hb6; (try have HNE := Lib.hid (show g1 ≠ g2 from by have := HFg1.out.lt; omega)); (try have HFg1 := Lib.hid (HFg1.out.below hb6 HFg1.out.lt)); (try have HF7 := Lib.hid (HF7.out.below hb6 HF7.out.lt)); have HFg2 := Lib.hid (show Blk wv g2 22 (List.replicate m (.slice none 0 0)) from by unfold Blk; rw [hc6]; simp); have HZg2 := Lib.hid (show w2.heap.size ≤ g2 from Nat.le_trans HT.out.size z6); have HT := Lib.hid (HT.out.trans (hb6.mono HT.out.size)); clear hb6 hc6 z6
          (try go_wp2_with fail)
          refine hK.out _ _ ?_ (fun hHeld2 => ?_)
          · trivial
          clear hK K
          clear hHeld; have hHeld := hHeld2; clear hHeld2
          (try simp only [Act.put, List.setIfInBounds_toArray, List.set_cons_zero, List.set_cons_succ])
          refine lTake (i := 6) (v := ?_) rfl (by kernel_rfl) (by kernel_rfl) (by kernel_rfl) (fun _ _ _ h => h) (by rfl) (fun _ _ h => h) (fun _ _ h => h) ?_ (by assumption) (fun hHeld2 => ?_)
          rotate_left 1
          · (intro _ _ _ _ _; first | (go_simp; done) | (go_simp; with_reducible rfl))
          clear hHeld; have hHeld := hHeld2; clear hHeld2
          (try simp only [Act.put, List.setIfInBounds_toArray, List.set_cons_zero, List.set_cons_succ])
          refine lReady (rs := [8]) (by kernel_rfl) (by simp) ?_
          refine AllL.cons (i := 8) rfl (fun K hK => ?_) ?_
          · have q0 := HF7.out.cell 0 rfl; have q1 := HF7.out.cell 1 rfl; have z0 := HF7.out.free 0; have z1 := HF7.out.free 1; have ql := HF7.out.lt; have HFIN := Lib.hid (And.intro (And.intro ((HF7.out.setCell 0 (.slice (some ⟨g1, 0, none⟩) m m)).setCell 1 (.slice (some ⟨g2, 0, none⟩) m m)) (And.intro ((HFg1.out.setCell_ne (p := ⟨gt, 0, none⟩) (fun e => blk_type_ne HF7.out HFg1.out (by decide) e) (.slice (some ⟨g1, 0, none⟩) m m)).setCell_ne (p := ⟨gt, 1, none⟩) (fun e => blk_type_ne HF7.out HFg1.out (by decide) e) (.slice (some ⟨g2, 0, none⟩) m m)) (And.intro ((HFg2.out.setCell_ne (p := ⟨gt, 0, none⟩) (fun e => blk_type_ne HF7.out HFg2.out (by decide) e) (.slice (some ⟨g1, 0, none⟩) m m)).setCell_ne (p := ⟨gt, 1, none⟩) (fun e => blk_type_ne HF7.out HFg2.out (by decide) e) (.slice (some ⟨g2, 0, none⟩) m m)) HNE.out))) (And.intro (And.intro HZ7.out (And.intro HZg1.out HZg2.out)) ((HT.out.setCell (p := ⟨gt, 0, none⟩) HZ7.out (.slice (some ⟨g1, 0, none⟩) m m)).setCell (p := ⟨gt, 1, none⟩) HZ7.out (.slice (some ⟨g2, 0, none⟩) m m)))); go_simp
            (try go_wp2_with fail)
            refine hK.out _ _ ?_ (fun hHeld2 => ?_)
            · trivial
            clear hK K
            clear hHeld; have hHeld := hHeld2; clear hHeld2
            (try simp only [Act.put, List.setIfInBounds_toArray, List.set_cons_zero, List.set_cons_succ])
            refine lDone (by kernel_rfl) ?_ _
            go_wp2_with fail
            go_meet
            case rel => exact ⟨gt, g1, g2, rfl, HFIN⟩
          exact AllL.nil
        exact AllL.nil
      exact AllL.nil
    refine AllL.cons (i := 5) rfl (fun K hK => ?_) ?_
    · refine step_new (.cells (Array.replicate m (.slice none 0 0)) 22) (fun g => .slice (some ⟨g, 0, none⟩) m m) rfl (by unfold execOp; simp [hmk53, go_sem]) ?_; intro g2 wv z6 hc6 hb6; (try have HNE := Lib.hid (show g1 ≠ g2 from by have := HFg1.out.lt; omega)); (try have HFg1 := Lib.hid (HFg1.out.below hb6 HFg1.out.lt)); (try have HF7 := Lib.hid (HF7.out.below hb6 HF7.out.lt)); have HFg2 := Lib.hid (show Blk wv g2 22 (List.replicate m (.slice none 0 0)) from by unfold Blk; rw [hc6]; simp); have HZg2 := Lib.hid (show w2.heap.size ≤ g2 from Nat.le_trans HT.out.size z6); have HT := Lib.hid (HT.out.trans (hb6.mono HT.out.size)); clear hb6 hc6 z6
      (try go_wp2_with fail)
      refine hK.out _ _ ?_ (fun hHeld2 => ?_)
      · trivial
      clear hK K
      clear hHeld; have hHeld := hHeld2; clear hHeld2
      (try simp only [Act.put, List.setIfInBounds_toArray, List.set_cons_zero, List.set_cons_succ])
      refine lReady (rs := [2, 7]) (by kernel_rfl) (by simp) ?_
      refine AllL.cons (i := 2) rfl (fun K hK => ?_) ?_
      · refine step_new (.cells (Array.replicate m (.slice none 0 0)) 22) (fun g => .slice (some ⟨g, 0, none⟩) m m) rfl (by unfold execOp; simp [hmk53, go_sem]) ?_; intro g1 wv z6 hc6 hb6; (try have HNE := Lib.hid (show g1 ≠ g2 from by have := HFg2.out.lt; omega)); (try have HFg2 := Lib.hid (HFg2.out.below hb6 HFg2.out.lt)); (try have HF7 := Lib.hid (HF7.out.below hb6 HF7.out.lt)); have HFg1 := Lib.hid (show Blk wv g1 22 (List.replicate m (.slice none 0 0)) from by unfold Blk; rw [hc6]; simp); have HZg1 := Lib.hid (show w2.heap.size ≤ g1 from Nat.le_trans HT.out.size z6); have HT := Lib.hid (HT.out.trans (hb6.mono HT.out.size)); clear hb6 hc6 z6
        (try go_wp2_with fail)
        refine hK.out _ _ ?_ (fun hHeld2 => ?_)
        · trivial
        clear hK K
        clear hHeld; have hHeld := hHeld2; clear hHeld2
        (try simp only [Act.put, List.setIfInBounds_toArray, List.set_cons_zero, List.set_cons_succ])
        refine lTake (i := 6) (v := ?_) rfl (by kernel_rfl) (by kernel_rfl) (by kernel_rfl) (fun _ _ _ h => h) (by rfl) (fun _ _ h => h) (fun _ _ h => h) ?_ (by assumption) (fun hHeld2 => ?_)
        rotate_left 1
        · (intro _ _ _ _ _; first | (go_simp; done) | (go_simp; with_reducible rfl))
        clear hHeld; have hHeld := hHeld2; clear hHeld2
        (try simp only [Act.put, List.setIfInBounds_toArray, List.set_cons_zero, List.set_cons_succ])
        refine lReady (rs := [7]) (by kernel_rfl) (by simp) ?_
        refine AllL.cons (i := 7) rfl (fun K hK => ?_) ?_
        · refine step_new (.cells #[.slice none 0 0, .slice none 0 0] 55) (fun g => .pointer (some ⟨g, 0, none⟩)) rfl (by kernel_rfl) ?_; intro gt wv z6 hc6 hb6; (try have HFg1 := Lib.hid (HFg1.out.below hb6 HFg1.out.lt)); (try have HFg2 := Lib.hid (HFg2.out.below hb6 HFg2.out.lt)); have HF7 := Lib.hid (show Blk wv gt 55 [.slice none 0 0, .slice none 0 0] from hc6); have HZ7 := Lib.hid (show w2.heap.size ≤ gt from Nat.le_trans HT.out.size z6); have HT := Lib.hid (HT.out.trans (hb6.mono HT.out.size)); clear hb6 hc6 z6
          (try go_wp2_with fail)
          refine hK.out _ _ ?_ (fun hHeld2 => ?_)
          · trivial
          clear hK K
          clear hHeld; have hHeld := hHeld2; clear hHeld2
          (try simp only [Act.put, List.setIfInBounds_toArray, List.set_cons_zero, List.set_cons_succ])
          refine lReady (rs := [8]) (by kernel_rfl) (by simp) ?_
          refine AllL.cons (i := 8) rfl (fun K hK => ?_) ?_
          · have q0 := HF7.out.cell 0 rfl; have q1 := HF7.out.cell 1 rfl; have z0 := HF7.out.free 0; have z1 := HF7.out.free 1; have ql := HF7.out.lt; have HFIN := Lib.hid (And.intro (And.intro ((HF7.out.setCell 0 (.slice (some ⟨g1, 0, none⟩) m m)).setCell 1 (.slice (some ⟨g2, 0, none⟩) m m)) (And.intro ((HFg1.out.setCell_ne (p := ⟨gt, 0, none⟩) (fun e => blk_type_ne HF7.out HFg1.out (by decide) e) (.slice (some ⟨g1, 0, none⟩) m m)).setCell_ne (p := ⟨gt, 1, none⟩) (fun e => blk_type_ne HF7.out HFg1.out (by decide) e) (.slice (some ⟨g2, 0, none⟩) m m)) (And.intro ((HFg2.out.setCell_ne (p := ⟨gt, 0, none⟩) (fun e => blk_type_ne HF7.out HFg2.out (by decide) e) (.slice (some ⟨g1, 0, none⟩) m m)).setCell_ne (p := ⟨gt, 1, none⟩) (fun e => blk_type_ne HF7.out HFg2.out (by decide) e) (.slice (some ⟨g2, 0, none⟩) m m)) HNE.out))) (And.intro (And.intro HZ7.out (And.intro HZg1.out HZg2.out)) ((HT.out.setCell (p := ⟨gt, 0, none⟩) HZ7.out (.slice (some ⟨g1, 0, none⟩) m m)).setCell (p := ⟨gt, 1, none⟩) HZ7.out (.slice (some ⟨g2, 0, none⟩) m m)))); go_simp
            (try go_wp2_with fail)
            refine hK.out _ _ ?_ (fun hHeld2 => ?_)
            · trivial
            clear hK K
            clear hHeld; have hHeld := hHeld2; clear hHeld2
            (try simp only [Act.put, List.setIfInBounds_toArray, List.set_cons_zero, List.set_cons_succ])
            refine lDone (by kernel_rfl) ?_ _
            go_wp2_with fail
            go_meet
            case rel => exact ⟨gt, g1, g2, rfl, HFIN⟩
          exact AllL.nil
        exact AllL.nil
      refine AllL.cons (i := 7) rfl (fun K hK => ?_) ?_
      · refine step_new (.cells #[.slice none 0 0, .slice none 0 0] 55) (fun g => .pointer (some ⟨g, 0, none⟩)) rfl (by kernel_rfl) ?_; intro gt wv z6 hc6 hb6; (try have HFg1 := Lib.hid (HFg1.out.below hb6 HFg1.out.lt)); (try have HFg2 := Lib.hid (HFg2.out.below hb6 HFg2.out.lt)); have HF7 := Lib.hid (show Blk wv gt 55 [.slice none 0 0, .slice none 0 0] from hc6); have HZ7 := Lib.hid (show w2.heap.size ≤ gt from Nat.le_trans HT.out.size z6); have HT := Lib.hid (HT.out.trans (hb6.mono HT.out.size)); clear hb6 hc6 z6
        (try go_wp2_with fail)
        refine hK.out _ _ ?_ (fun hHeld2 => ?_)
        · trivial
        clear hK K
        clear hHeld; have hHeld := hHeld2; clear hHeld2
        (try simp only [Act.put, List.setIfInBounds_toArray, List.set_cons_zero, List.set_cons_succ])
        refine lReady (rs := [2]) (by kernel_rfl) (by simp) ?_
        refine AllL.cons (i := 2) rfl (fun K hK => ?_) ?_
        · refine step_new (.cells (Array.replicate m (.slice none 0 0)) 22) (fun g => .slice (some ⟨g, 0, none⟩) m m) rfl (by unfold execOp; simp [hmk53, go_sem]) ?_; intro g1 wv z6 hc6 hb6; (try have HNE := Lib.hid (show g1 ≠ g2 from by have := HFg2.out.lt; omega)); (try have HFg2 := Lib.hid (HFg2.out.below hb6 HFg2.out.lt)); (try have HF7 := Lib.hid (HF7.out.below hb6 HF7.out.lt)); have HFg1 := Lib.hid (show Blk wv g1 22 (List.replicate m (.slice none 0 0)) from by unfold Blk; rw [hc6]; simp); have HZg1 := Lib.hid (show w2.heap.size ≤ g1 from Nat.le_trans HT.out.size z6); have HT := Lib.hid (HT.out.trans (hb6.mono HT.out.size)); clear hb6 hc6 z6
          (try go_wp2_with fail)
          refine hK.out _ _ ?_ (fun hHeld2 => ?_)
          · trivial
          clear hK K
          clear hHeld; have hHeld := hHeld2; clear hHeld2
          (try simp only [Act.put, List.setIfInBounds_toArray, List.set_cons_zero, List.set_cons_succ])
          refine lTake (i := 6) (v := ?_) rfl (by kernel_rfl) (by kernel_rfl) (by kernel_rfl) (fun _ _ _ h => h) (by rfl) (fun _ _ h => h) (fun _ _ h => h) ?_ (by assumption) (fun hHeld2 => ?_)
          rotate_left 1
          · (intro _ _ _ _ _; first | (go_simp; done) | (go_simp; with_reducible rfl))
          clear hHeld; have hHeld := hHeld2; clear hHeld2
          (try simp only [Act.put, List.setIfInBounds_toArray, List.set_cons_zero, List.set_cons_succ])
          refine lReady (rs := [8]) (by kernel_rfl) (by simp) ?_
          refine AllL.cons (i := 8) rfl (fun K hK => ?_) ?_
          · have q0 := HF7.out.cell 0 rfl; have q1 := HF7.out.cell 1 rfl; have z0 := HF7.out.free 0; have z1 := HF7.out.free 1; have ql := HF7.out.lt; have HFIN := Lib.hid (And.intro (And.intro ((HF7.out.setCell 0 (.slice (some ⟨g1, 0, none⟩) m m)).setCell 1 (.slice (some ⟨g2, 0, none⟩) m m)) (And.intro ((HFg1.out.setCell_ne (p := ⟨gt, 0, none⟩) (fun e => blk_type_ne HF7.out HFg1.out (by decide) e) (.slice (some ⟨g1, 0, none⟩) m m)).setCell_ne (p := ⟨gt, 1, none⟩) (fun e => blk_type_ne HF7.out HFg1.out (by decide) e) (.slice (some ⟨g2, 0, none⟩) m m)) (And.intro ((HFg2.out.setCell_ne (p := ⟨gt, 0, none⟩) (fun e => blk_type_ne HF7.out HFg2.out (by decide) e) (.slice (some ⟨g1, 0, none⟩) m m)).setCell_ne (p := ⟨gt, 1, none⟩) (fun e => blk_type_ne HF7.out HFg2.out (by decide) e) (.slice (some ⟨g2, 0, none⟩) m m)) HNE.out))) (And.intro (And.intro HZ7.out (And.intro HZg1.out HZg2.out)) ((HT.out.setCell (p := ⟨gt, 0, none⟩) HZ7.out (.slice (some ⟨g1, 0, none⟩) m m)).setCell (p := ⟨gt, 1, none⟩) HZ7.out (.slice (some ⟨g2, 0, none⟩) m m)))); go_simp
            (try go_wp2_with fail)
            refine hK.out _ _ ?_ (fun hHeld2 => ?_)
            · trivial
            clear hK K
            clear hHeld; have hHeld := hHeld2; clear hHeld2
            (try simp only [Act.put, List.setIfInBounds_toArray, List.set_cons_zero, List.set_cons_succ])
            refine lDone (by kernel_rfl) ?_ _
            go_wp2_with fail
            go_meet
            case rel => exact ⟨gt, g1, g2, rfl, HFIN⟩
          exact AllL.nil
        exact AllL.nil
      exact AllL.nil
    refine AllL.cons (i := 7) rfl (fun K hK => ?_) ?_
    · refine step_new (.cells #[.slice none 0 0, .slice none 0 0] 55) (fun g => .pointer (some ⟨g, 0, none⟩)) rfl (by kernel_rfl) ?_; intro gt wv z6 hc6 hb6; (try have HFg1 := Lib.hid (HFg1.out.below hb6 HFg1.out.lt)); (try have HFg2 := Lib.hid (HFg2.out.below hb6 HFg2.out.lt)); have HF7 := Lib.hid (show Blk wv gt 55 [.slice none 0 0, .slice none 0 0] from hc6); have HZ7 := Lib.hid (show w2.heap.size ≤ gt from Nat.le_trans HT.out.size z6); have HT := Lib.hid (HT.out.trans (hb6.mono HT.out.size)); clear hb6 hc6 z6
      (try go_wp2_with fail)
      refine hK.out _ _ ?_ (fun hHeld2 => ?_)
      · trivial
      clear hK K
      clear hHeld; have hHeld := hHeld2; clear hHeld2
      (try simp only [Act.put, List.setIfInBounds_toArray, List.set_cons_zero, List.set_cons_succ])
      refine lReady (rs := [2, 5]) (by kernel_rfl) (by simp) ?_
      refine AllL.cons (i := 2) rfl (fun K hK => ?_) ?_
      · refine step_new (.cells (Array.replicate m (.slice none 0 0)) 22) (fun g => .slice (some ⟨g, 0, none⟩) m m) rfl (by unfold execOp; simp [hmk53, go_sem]) ?_; intro g1 wv z6 hc6 hb6; (try have HNE := Lib.hid (show g1 ≠ g2 from by have := HFg2.out.lt; omega)); (try have HFg2 := Lib.hid (HFg2.out.below hb6 HFg2.out.lt)); (try have HF7 := Lib.hid (HF7.out.below hb6 HF7.out.lt)); have HFg1 := Lib.hid (show Blk wv g1 22 (List.replicate m (.slice none 0 0)) from by unfold Blk; rw [hc6]; simp); have HZg1 := Lib.hid (show w2.heap.size ≤ g1 from Nat.le_trans HT.out.size z6); have HT := Lib.hid (HT.out.trans (hb6.mono HT.out.size)); clear hb6 hc6 z6
        (try go_wp2_with fail)
        refine hK.out _ _ ?_ (fun hHeld2 => ?_)
        · trivial
        clear hK K
        clear hHeld; have hHeld := hHeld2; clear hHeld2
        (try simp only [Act.put, List.setIfInBounds_toArray, List.set_cons_zero, List.set_cons_succ])
        refine lReady (rs := [5]) (by kernel_rfl) (by simp) ?_
        refine AllL.cons (i := 5) rfl (fun K hK => ?_) ?_
        · refine step_new (.cells (Array.replicate m (.slice none 0 0)) 22) (fun g => .slice (some ⟨g, 0, none⟩) m m) rfl (by unfold execOp; simp [hmk53, go_sem]) ?_; intro g2 wv z6 hc6 hb6; (try have HNE := Lib.hid (show g1 ≠ g2 from by have := HFg1.out.lt; omega)); (try have HFg1 := Lib.hid (HFg1.out.below hb6 HFg1.out.lt)); (try have HF7 := Lib.hid (HF7.out.below hb6 HF7.out.lt)); have HFg2 := Lib.hid (show Blk wv g2 22 (List.replicate m (.slice none 0 0)) from by unfold Blk; rw [hc6]; simp); have HZg2 := Lib.hid (show w2.heap.size ≤ g2 from Nat.le_trans HT.out.size z6); have HT := Lib.hid (HT.out.trans (hb6.mono HT.out.size)); clear hb6 hc6 z6
          (try go_wp2_with fail)
          refine hK.out _ _ ?_ (fun hHeld2 => ?_)
          · trivial
          clear hK K
          clear hHeld; have hHeld := hHeld2; clear hHeld2
          (try simp only [Act.put, List.setIfInBounds_toArray, List.set_cons_zero, List.set_cons_succ])
          refine lTake (i := 6) (v := ?_) rfl (by kernel_rfl) (by kernel_rfl) (by kernel_rfl) (fun _ _ _ h => h) (by rfl) (fun _ _ h => h) (fun _ _ h => h) ?_ (by assumption) (fun hHeld2 => ?_)
          rotate_left 1
          · (intro _ _ _ _ _; first | (go_simp; done) | (go_simp; with_reducible rfl))
          clear hHeld; have hHeld := hHeld2; clear hHeld2
          (try simp only [Act.put, List.setIfInBounds_toArray, List.set_cons_zero, List.set_cons_succ])
          refine lReady (rs := [8]) (by kernel_rfl) (by simp) ?_
          refine AllL.cons (i := 8) rfl (fun K hK => ?_) ?_
          · have q0 := HF7.out.cell 0 rfl; have q1 := HF7.out.cell 1 rfl; have z0 := HF7.out.free 0; have z1 := HF7.out.free 1; have ql := HF7.out.lt; have HFIN := Lib.hid (And.intro (And.intro ((HF7.out.setCell 0 (.slice (some ⟨g1, 0, none⟩) m m)).setCell 1 (.slice (some ⟨g2, 0, none⟩) m m)) (And.intro ((HFg1.out.setCell_ne (p := ⟨gt, 0, none⟩) (fun e => blk_type_ne HF7.out HFg1.out (by decide) e) (.slice (some ⟨g1, 0, none⟩) m m)).setCell_ne (p := ⟨gt, 1, none⟩) (fun e => blk_type_ne HF7.out HFg1.out (by decide) e) (.slice (some ⟨g2, 0, none⟩) m m)) (And.intro ((HFg2.out.setCell_ne (p := ⟨gt, 0, none⟩) (fun e => blk_type_ne HF7.out HFg2.out (by decide) e) (.slice (some ⟨g1, 0, none⟩) m m)).setCell_ne (p := ⟨gt, 1, none⟩) (fun e => blk_type_ne HF7.out HFg2.out (by decide) e) (.slice (some ⟨g2, 0, none⟩) m m)) HNE.out))) (And.intro (And.intro HZ7.out (And.intro HZg1.out HZg2.out)) ((HT.out.setCell (p := ⟨gt, 0, none⟩) HZ7.out (.slice (some ⟨g1, 0, none⟩) m m)).setCell (p := ⟨gt, 1, none⟩) HZ7.out (.slice (some ⟨g2, 0, none⟩) m m)))); go_simp
            (try go_wp2_with fail)
            refine hK.out _ _ ?_ (fun hHeld2 => ?_)
            · trivial
            clear hK K
            clear hHeld; have hHeld := hHeld2; clear hHeld2
            (try simp only [Act.put, List.setIfInBounds_toArray, List.set_cons_zero, List.set_cons_succ])
            refine lDone (by kernel_rfl) ?_ _
            go_wp2_with fail
            go_meet
            case rel => exact ⟨gt, g1, g2, rfl, HFIN⟩
          exact AllL.nil
        exact AllL.nil
      refine AllL.cons (i := 5) rfl (fun K hK => ?_) ?_
      · refine step_new (.cells (Array.replicate m (.slice none 0 0)) 22) (fun g => .slice (some ⟨g, 0, none⟩) m m) rfl (by unfold execOp; simp [hmk53, go_sem]) ?_; intro g2 wv z6 hc6 hb6; (try have HNE := Lib.hid (show g1 ≠ g2 from by have := HFg1.out.lt; omega)); (try have HFg1 := Lib.hid (HFg1.out.below hb6 HFg1.out.lt)); (try have HF7 := Lib.hid (HF7.out.below hb6 HF7.out.lt)); have HFg2 := Lib.hid (show Blk wv g2 22 (List.replicate m (.slice none 0 0)) from by unfold Blk; rw [hc6]; simp); have HZg2 := Lib.hid (show w2.heap.size ≤ g2 from Nat.le_trans HT.out.size z6); have HT := Lib.hid (HT.out.trans (hb6.mono HT.out.size)); clear hb6 hc6 z6
        (try go_wp2_with fail)
        refine hK.out _ _ ?_ (fun hHeld2 => ?_)
        · trivial
        clear hK K
        clear hHeld; have hHeld := hHeld2; clear hHeld2
        (try simp only [Act.put, List.setIfInBounds_toArray, List.set_cons_zero, List.set_cons_succ])
        refine lReady (rs := [2]) (by kernel_rfl) (by simp) ?_
        refine AllL.cons (i := 2) rfl (fun K hK => ?_) ?_
        · refine step_new (.cells (Array.replicate m (.slice none 0 0)) 22) (fun g => .slice (some ⟨g, 0, none⟩) m m) rfl (by unfold execOp; simp [hmk53, go_sem]) ?_; intro g1 wv z6 hc6 hb6; (try have HNE := Lib.hid (show g1 ≠ g2 from by have := HFg2.out.lt; omega)); (try have HFg2 := Lib.hid (HFg2.out.below hb6 HFg2.out.lt)); (try have HF7 := Lib.hid (HF7.out.below hb6 HF7.out.lt)); have HFg1 := Lib.hid (show Blk wv g1 22 (List.replicate m (.slice none 0 0)) from by unfold Blk; rw [hc6]; simp); have HZg1 := Lib.hid (show w2.heap.size ≤ g1 from Nat.le_trans HT.out.size z6); have HT := Lib.hid (HT.out.trans (hb6.mono HT.out.size)); clear hb6 hc6 z6
          (try go_wp2_with fail)
          refine hK.out _ _ ?_ (fun hHeld2 => ?_)
          · trivial
          clear hK K
          clear hHeld; have hHeld := hHeld2; clear hHeld2
          (try simp only [Act.put, List.setIfInBounds_toArray, List.set_cons_zero, List.set_cons_succ])
          refine lTake (i := 6) (v := ?_) rfl (by kernel_rfl) (by kernel_rfl) (by kernel_rfl) (fun _ _ _ h => h) (by rfl) (fun _ _ h => h) (fun _ _ h => h) ?_ (by assumption) (fun hHeld2 => ?_)
          rotate_left 1
          · (intro _ _ _ _ _; first | (go_simp; done) | (go_simp; with_reducible rfl))
          clear hHeld; have hHeld := hHeld2; clear hHeld2
          (try simp only [Act.put, List.setIfInBounds_toArray, List.set_cons_zero, List.set_cons_succ])
          refine lReady (rs := [8]) (by kernel_rfl) (by simp) ?_
          refine AllL.cons (i := 8) rfl (fun K hK => ?_) ?_
          · have q0 := HF7.out.cell 0 rfl; have q1 := HF7.out.cell 1 rfl; have z0 := HF7.out.free 0; have z1 := HF7.out.free 1; have ql := HF7.out.lt; have HFIN := Lib.hid (And.intro (And.intro ((HF7.out.setCell 0 (.slice (some ⟨g1, 0, none⟩) m m)).setCell 1 (.slice (some ⟨g2, 0, none⟩) m m)) (And.intro ((HFg1.out.setCell_ne (p := ⟨gt, 0, none⟩) (fun e => blk_type_ne HF7.out HFg1.out (by decide) e) (.slice (some ⟨g1, 0, none⟩) m m)).setCell_ne (p := ⟨gt, 1, none⟩) (fun e => blk_type_ne HF7.out HFg1.out (by decide) e) (.slice (some ⟨g2, 0, none⟩) m m)) (And.intro ((HFg2.out.setCell_ne (p := ⟨gt, 0, none⟩) (fun e => blk_type_ne HF7.out HFg2.out (by decide) e) (.slice (some ⟨g1, 0, none⟩) m m)).setCell_ne (p := ⟨gt, 1, none⟩) (fun e => blk_type_ne HF7.out HFg2.out (by decide) e) (.slice (some ⟨g2, 0, none⟩) m m)) HNE.out))) (And.intro (And.intro HZ7.out (And.intro HZg1.out HZg2.out)) ((HT.out.setCell (p := ⟨gt, 0, none⟩) HZ7.out (.slice (some ⟨g1, 0, none⟩) m m)).setCell (p := ⟨gt, 1, none⟩) HZ7.out (.slice (some ⟨g2, 0, none⟩) m m)))); go_simp
            (try go_wp2_with fail)
            refine hK.out _ _ ?_ (fun hHeld2 => ?_)
            · trivial
            clear hK K
            clear hHeld; have hHeld := hHeld2; clear hHeld2
            (try simp only [Act.put, List.setIfInBounds_toArray, List.set_cons_zero, List.set_cons_succ])
            refine lDone (by kernel_rfl) ?_ _
            go_wp2_with fail
            go_meet
            case rel => exact ⟨gt, g1, g2, rfl, HFIN⟩
          exact AllL.nil
        exact AllL.nil
      exact AllL.nil
    exact AllL.nil
  case rest =>
    clear HT
    obtain ⟨gt, g1, g2, rfl, HJ⟩ := hcut
    go_upto_region 7 with fail
    have al := (Below.refl wc.heap.size wc).alloc (Nat.le_refl _) (.cells (Array.replicate m (.int .i64 0)) 2)
    have HGG : Hid ((gr ≠ gt ∧ w.heap.size ≤ wc.heap.size) ∧ Below w.heap.size w wc) := Lib.hid ⟨⟨by have := XR2.out.lt; have := HJ.out.2.1.1; omega, by have := HB2.out.size; have := HJ.out.2.2.size; omega⟩, HB2.out.trans (HJ.out.2.2.mono HB2.out.size)⟩
    have HT0 : Hid (TaJ w n m 0 0 gt g1 g2 wc.heap.size (fun _ => 0) (fun _ => 0) (lvA cs m 0) (wc.alloc (.cells (Array.replicate m (.int .i64 0)) 2))) := Lib.hid (by
      obtain ⟨⟨h1, h2, h3, h4⟩, ⟨h5, h6, h7⟩, h8⟩ := HJ.out
      have hz := HB2.out.size
      refine ⟨h1.alloc _, ⟨_, h2.alloc _, by simp⟩, ⟨_, h3.alloc _, by simp⟩, ⟨⟨_, h2.alloc _, fun x hx => absurd hx (Nat.not_lt_zero _)⟩, fun x hx => absurd hx (Nat.not_lt_zero _), fun x y hx => absurd hx (Nat.not_lt_zero _)⟩, ⟨⟨_, h3.alloc _, fun x hx => absurd hx (Nat.not_lt_zero _)⟩, fun x hx => absurd hx (Nat.not_lt_zero _), fun x y hx => absurd hx (Nat.not_lt_zero _)⟩, by unfold lvA; rw [rowK_zero]; exact fl_new 2 m wc, h4, fun x y hx => absurd hx (Nat.not_lt_zero _), ⟨fun x hx => absurd hx (Nat.not_lt_zero _), fun x hx => absurd hx (Nat.not_lt_zero _)⟩, HGG.out.2.trans (al.mono HGG.out.1.2), ⟨by omega, by omega, HGG.out.1.2⟩⟩)
    have XS3 := Lib.hid (XS2.out.below (HJ.out.2.2.trans (al.mono HJ.out.2.2.size)) XS2.out.lt)
    have XR3 := Lib.hid (XR2.out.below (HJ.out.2.2.trans (al.mono HJ.out.2.2.size)) XR2.out.lt)
    have HG1 := Lib.hid HGG.out.1
    clear al HJ HGG XS2 XR2 HB2
    generalize wc.alloc (.cells (Array.replicate m (.int .i64 0)) 2) = w3 at HT0 XS3 XR3 ⊢
    obtain ⟨gl, hgl⟩ : ∃ gl, gl = wc.heap.size := ⟨_, rfl⟩
    rw [← hgl] at HT0 ⊢
    clear hgl
    go_wp2_with fail
    go_loopw [10, 11, 41] (fun _ _ iv wr => ∃ i : Nat, i ≤ m ∧ iv = .int .i64 i ∧ Hid (∃ gI gO, TaJ w n m i i gt g1 g2 gl gI gO (lvA cs m i) wr ∧ Blk wr w.heap.size 51 [.slice A n cA, .slice B nB cB, .slice C nC cC, .slice D nD cD] ∧ Blk wr gr 55 [.slice none 0 0, .slice none 0 0])) (fun _ _ iv _ => m - (intOf iv).toNat)
    case atStart => exact ⟨0, Nat.zero_le _, rfl, Lib.hid ⟨_, _, HT0.out, XS3.out, XR3.out⟩⟩
    case round =>
      clear HT0 XS3 XR3
      obtain ⟨i, hi, rfl, HJ⟩ := hrel
      obtain ⟨gI, gO, hj1, hj2, hj3⟩ := HJ.out
      have HT := Lib.hid hj1
      have XS := Lib.hid hj2
      have XR := Lib.hid hj3
      clear hj1 hj2 hj3 HJ
      by_cases hlt : i < m
      · have hii : (i : Int) < (m : Int) := by omega
        have il : i < cs.length := by rw [← HM.out]; exact hlt
        obtain ⟨ad, hE2, abl, c0, c1, c2, c3, c4, TT, cT, c5, hcT, HTT⟩ := (HCS.out.below HT.out.bel (Nat.le_refl _)) i il
        subst hE2
        clear HTT
        have HLV : Hid ((rowK (fun x => (cs.getD x default).start) m i).set i (cs.getD i default).start = rowK (fun x => (cs.getD x default).start) m (i + 1)) := Lib.hid (rowK_set _ m i hlt)
        generalize hcc : cs.getD i default = c at *
        clear hcc
        obtain ⟨cap, inn, out, start, fin, trips⟩ := c
        simp only at c0 c1 c2 c3 c4 c5 hcT HLV
        obtain ⟨qn, hqn⟩ : ∃ qn, qn = trips.length := ⟨_, rfl⟩
        rw [← hqn] at c5 hcT
        clear hqn
        go_upto_region 10 with fail
        have al := (Below.refl wr.heap.size wr).alloc (Nat.le_refl _) (.cells #[.int .i64 cap, .int .i64 inn, .int .i64 out, .int .i64 start, .int .i64 fin, .slice TT qn cT] 63)
        have HT := Lib.hid (HT.out.below al)
        have XS := Lib.hid (XS.out.below al XS.out.lt)
        have XR := Lib.hid (XR.out.below al XR.out.lt)
        have HC := Lib.hid (Blk.new' wr #[.int .i64 cap, .int .i64 inn, .int .i64 out, .int .i64 start, .int .i64 fin, .slice TT qn cT] 63)
        clear c0 c1 c2 c3 c4 c5 abl al
        generalize wr.alloc (.cells #[.int .i64 cap, .int .i64 inn, .int .i64 out, .int .i64 start, .int .i64 fin, .slice TT qn cT] 63) = wx at HT XS XR HC ⊢
        obtain ⟨gc, hgc⟩ : ∃ gc, gc = wr.heap.size := ⟨_, rfl⟩
        rw [← hgc] at HC ⊢
        clear hgc
        have HT := Lib.hid (HT.out.below (Below.refl _ _).drew)
        have XS := Lib.hid XS.out.drew
        have XR := Lib.hid XR.out.drew
        have HC := Lib.hid HC.out.drew
        refine lBegin (S := fun _ W => ((W.cell? ⟨gt, 0, none⟩ = some (.slice (some ⟨g1, 0, none⟩) m m) ∧ W.cell? ⟨gt, 1, none⟩ = some (.slice (some ⟨g2, 0, none⟩) m m) ∧ W.cell? ⟨gc, 3, none⟩ = some (.int .i64 start)))) (by kernel_rfl) ?_ (fun hHeld => ?_)
        · (try dsimp only); (with_reducible exact ⟨HT.out.b.cell 0 rfl, HT.out.b.cell 1 rfl, HC.out.cell 3 rfl⟩)
        refine lTake (i := 0) (v := ?_) rfl (by kernel_rfl) (by kernel_rfl) (by kernel_rfl) (fun _ _ _ h => h) (by rfl) (fun _ _ h => h) (fun _ _ h => h) ?_ (by assumption) (fun hHeld2 => ?_)
        rotate_left 1
        · (intro _ _ _ _ _; first | (go_simp; done) | (go_simp; with_reducible rfl))
        clear hHeld; have hHeld := hHeld2; clear hHeld2
        (try simp only [Act.put, List.setIfInBounds_toArray, List.set_cons_zero, List.set_cons_succ])
        refine lTake (i := 1) (v := ?_) rfl (by kernel_rfl) (by kernel_rfl) (by kernel_rfl) (fun _ _ _ h => h) (by rfl) (fun _ _ h => h) (fun _ _ h => h) ?_ (by assumption) (fun hHeld2 => ?_)
        rotate_left 1
        · (intro L W _ _ hSw; (try dsimp only at hSw); first | (go_simp; done) | (go_simp; with_reducible rfl))
        clear hHeld; have hHeld := hHeld2; clear hHeld2
        (try simp only [Act.put, List.setIfInBounds_toArray, List.set_cons_zero, List.set_cons_succ])
        refine lTake (i := 2) (v := ?_) rfl (by kernel_rfl) (by kernel_rfl) (by kernel_rfl) (fun _ _ _ h => h) (by rfl) (fun _ _ h => h) (fun _ _ h => h) ?_ (by assumption) (fun hHeld2 => ?_)
        rotate_left 1
        · (intro _ _ _ _ _; first | (go_simp; done) | (go_simp; with_reducible rfl))
        clear hHeld; have hHeld := hHeld2; clear hHeld2
        (try simp only [Act.put, List.setIfInBounds_toArray, List.set_cons_zero, List.set_cons_succ])
        refine lTake (i := 3) (v := ?_) rfl (by kernel_rfl) (by kernel_rfl) (by kernel_rfl) (fun _ _ _ h => h) (by rfl) (fun _ _ h => h) (fun _ _ h => h) ?_ (by assumption) (fun hHeld2 => ?_)
        rotate_left 1
        · (intro _ _ _ _ _; first | (go_simp; done) | (go_simp; with_reducible rfl))
        clear hHeld; have hHeld := hHeld2; clear hHeld2
        (try simp only [Act.put, List.setIfInBounds_toArray, List.set_cons_zero, List.set_cons_succ])
        refine lTake (i := 4) (v := ?_) rfl (by kernel_rfl) (by kernel_rfl) (by kernel_rfl) (fun _ _ _ h => h) (by rfl) (fun _ _ h => h) (fun _ _ h => h) ?_ (by assumption) (fun hHeld2 => ?_)
        rotate_left 1
        · (intro L W _ _ hSw; (try dsimp only at hSw); first | (go_simp; done) | (go_simp; with_reducible rfl))
        clear hHeld; have hHeld := hHeld2; clear hHeld2
        (try simp only [Act.put, List.setIfInBounds_toArray, List.set_cons_zero, List.set_cons_succ])
        refine lTake (i := 5) (v := ?_) rfl (by kernel_rfl) (by kernel_rfl) (by kernel_rfl) (fun _ _ _ h => h) (by rfl) (fun _ _ h => h) (fun _ _ h => h) ?_ (by assumption) (fun hHeld2 => ?_)
        rotate_left 1
        · (intro _ _ _ _ _; first | (go_simp; done) | (go_simp; with_reducible rfl))
        clear hHeld; have hHeld := hHeld2; clear hHeld2
        (try simp only [Act.put, List.setIfInBounds_toArray, List.set_cons_zero, List.set_cons_succ])
        refine lTake (i := 6) (v := ?_) rfl (by kernel_rfl) (by kernel_rfl) (by kernel_rfl) (fun _ _ _ h => h) (by rfl) (fun _ _ h => h) (fun _ _ h => h) ?_ (by assumption) (fun hHeld2 => ?_)
        rotate_left 1
        · (intro _ _ _ _ _; first | (go_simp; done) | (go_simp; with_reducible rfl))
        clear hHeld; have hHeld := hHeld2; clear hHeld2
        (try simp only [Act.put, List.setIfInBounds_toArray, List.set_cons_zero, List.set_cons_succ])
        refine lTake (i := 7) (v := ?_) rfl (by kernel_rfl) (by kernel_rfl) (by kernel_rfl) (fun _ _ _ h => h) (by rfl) (fun _ _ h => h) (fun _ _ h => h) ?_ (by assumption) (fun hHeld2 => ?_)
        rotate_left 1
        · (intro _ _ _ _ _; first | (go_simp; done) | (go_simp; with_reducible rfl))
        clear hHeld; have hHeld := hHeld2; clear hHeld2
        (try simp only [Act.put, List.setIfInBounds_toArray, List.set_cons_zero, List.set_cons_succ])
        refine lTake (i := 8) (v := ?_) rfl (by kernel_rfl) (by kernel_rfl) (by kernel_rfl) (fun _ _ _ h => h) (by rfl) (fun _ _ h => h) (fun _ _ h => h) ?_ (by assumption) (fun hHeld2 => ?_)
        rotate_left 1
        · (intro _ _ _ _ _; first | (go_simp; done) | (go_simp; with_reducible rfl))
        clear hHeld; have hHeld := hHeld2; clear hHeld2
        (try simp only [Act.put, List.setIfInBounds_toArray, List.set_cons_zero, List.set_cons_succ])
        refine lTake (i := 10) (v := ?_) rfl (by kernel_rfl) (by kernel_rfl) (by kernel_rfl) (fun _ _ _ h => h) (by rfl) (fun _ _ h => h) (fun _ _ h => h) ?_ (by assumption) (fun hHeld2 => ?_)
        rotate_left 1
        · (intro _ _ _ _ _; first | (go_simp; done) | (go_simp; with_reducible rfl))
        clear hHeld; have hHeld := hHeld2; clear hHeld2
        (try simp only [Act.put, List.setIfInBounds_toArray, List.set_cons_zero, List.set_cons_succ])
        refine lTake (i := 12) (v := ?_) rfl (by kernel_rfl) (by kernel_rfl) (by kernel_rfl) (fun _ _ _ h => h) (by rfl) (fun _ _ h => h) (fun _ _ h => h) ?_ (by assumption) (fun hHeld2 => ?_)
        rotate_left 1
        · (intro _ _ _ _ _; first | (go_simp; done) | (go_simp; with_reducible rfl))
        clear hHeld; have hHeld := hHeld2; clear hHeld2
        (try simp only [Act.put, List.setIfInBounds_toArray, List.set_cons_zero, List.set_cons_succ])
        refine lTake (i := 13) (v := ?_) rfl (by kernel_rfl) (by kernel_rfl) (by kernel_rfl) (fun _ _ _ h => h) (by rfl) (fun _ _ h => h) (fun _ _ h => h) ?_ (by assumption) (fun hHeld2 => ?_)
        rotate_left 1
        · (intro L W _ _ hSw; (try dsimp only at hSw); first | (go_simp; done) | (go_simp; with_reducible rfl))
        clear hHeld; have hHeld := hHeld2; clear hHeld2
        (try simp only [Act.put, List.setIfInBounds_toArray, List.set_cons_zero, List.set_cons_succ])
        refine lReady (rs := [9, 11]) (by kernel_rfl) (by simp) ?_
        refine AllL.cons (i := 9) rfl (fun K hK => ?_) ?_
        · refine step_new (.cells (Array.replicate n (.int .i64 0)) 2) (fun g => .slice (some ⟨g, 0, none⟩) n n) rfl (by unfold execOp; simp [hmk22, go_sem]) ?_; intro ga wv z6 hc6 hb6; (try have HAB := Lib.hid (show ga ≠ gb from by have := HB.out.lt; omega)); (try have HB := Lib.hid (Fl.below HB.out hb6)); have HAF := Lib.hid (HT.out.fresh z6); have HA := Lib.hid (show Fl 2 wv ga (List.replicate n 0) from by unfold Fl Blk; rw [hc6]; simp); have HT := Lib.hid (HT.out.below hb6); have XS := Lib.hid (XS.out.below hb6 XS.out.lt); have XR := Lib.hid (XR.out.below hb6 XR.out.lt); have HC := Lib.hid (HC.out.below hb6 HC.out.lt); clear hb6 hc6 z6
          (try go_wp2_with fail)
          refine hK.out _ _ ?_ (fun hHeld2 => ?_)
          · (try dsimp only); (with_reducible exact ⟨HT.out.b.cell 0 rfl, HT.out.b.cell 1 rfl, HC.out.cell 3 rfl⟩)
          clear hK K
          clear hHeld; have hHeld := hHeld2; clear hHeld2
          (try simp only [Act.put, List.setIfInBounds_toArray, List.set_cons_zero, List.set_cons_succ])
          refine lTake (i := 14) (v := ?_) rfl (by kernel_rfl) (by kernel_rfl) (by kernel_rfl) (fun _ _ _ h => h) (by rfl) (fun _ _ h => h) (fun _ _ h => h) ?_ (by assumption) (fun hHeld2 => ?_)
          rotate_left 1
          · (intro _ _ _ _ _; first | (go_simp; done) | (go_simp; with_reducible rfl))
          clear hHeld; have hHeld := hHeld2; clear hHeld2
          (try simp only [Act.put, List.setIfInBounds_toArray, List.set_cons_zero, List.set_cons_succ])
          refine lReady (rs := [11, 15]) (by kernel_rfl) (by simp) ?_
          refine AllL.cons (i := 11) rfl (fun K hK => ?_) ?_
          · refine step_new (.cells (Array.replicate n (.int .i64 0)) 2) (fun g => .slice (some ⟨g, 0, none⟩) n n) rfl (by unfold execOp; simp [hmk22, go_sem]) ?_; intro gb wv z6 hc6 hb6; (try have HAB := Lib.hid (show ga ≠ gb from by have := HA.out.lt; omega)); (try have HA := Lib.hid (Fl.below HA.out hb6)); have HBF := Lib.hid (HT.out.fresh z6); have HB := Lib.hid (show Fl 2 wv gb (List.replicate n 0) from by unfold Fl Blk; rw [hc6]; simp); have HT := Lib.hid (HT.out.below hb6); have XS := Lib.hid (XS.out.below hb6 XS.out.lt); have XR := Lib.hid (XR.out.below hb6 XR.out.lt); have HC := Lib.hid (HC.out.below hb6 HC.out.lt); clear hb6 hc6 z6
            (try go_wp2_with fail)
            refine hK.out _ _ ?_ (fun hHeld2 => ?_)
            · (try dsimp only); (with_reducible exact ⟨HT.out.b.cell 0 rfl, HT.out.b.cell 1 rfl, HC.out.cell 3 rfl⟩)
            clear hK K
            clear hHeld; have hHeld := hHeld2; clear hHeld2
            (try simp only [Act.put, List.setIfInBounds_toArray, List.set_cons_zero, List.set_cons_succ])
            refine lReady (rs := [15]) (by kernel_rfl) (by simp) ?_
            refine AllL.cons (i := 15) rfl (fun K hK => ?_) ?_
            · obtain ⟨⟨v1, q1⟩, q2, q3⟩ := HT.out.cellI i hlt; go_simp; obtain ⟨cq, bq⟩ := HT.out.li; (try have HB := Lib.hid (HB.out.set_ne (p := ⟨g1, i, none⟩) (fun e => blk_type_ne bq.1 HB.out (by decide) e) (.slice (some ⟨ga, 0, none⟩) n n))); have XS := Lib.hid (XS.out.setCell_ne (p := ⟨g1, i, none⟩) (fun e => blk_type_ne XS.out bq.1 (by decide) e.symm) (.slice (some ⟨ga, 0, none⟩) n n)); have XR := Lib.hid (XR.out.setCell_ne (p := ⟨g1, i, none⟩) (fun e => blk_type_ne XR.out bq.1 (by decide) e.symm) (.slice (some ⟨ga, 0, none⟩) n n)); have HC := Lib.hid (HC.out.setCell_ne (p := ⟨g1, i, none⟩) (fun e => blk_type_ne HC.out bq.1 (by decide) e.symm) (.slice (some ⟨ga, 0, none⟩) n n)); have HT := Lib.hid (HT.out.inn hlt HA.out HAF.out); clear bq q1 q2 q3
              (try go_wp2_with fail)
              refine hK.out _ _ ?_ (fun hHeld2 => ?_)
              · (try dsimp only); (with_reducible exact ⟨HT.out.b.cell 0 rfl, HT.out.b.cell 1 rfl, HC.out.cell 3 rfl⟩)
              clear hK K
              clear hHeld; have hHeld := hHeld2; clear hHeld2
              (try simp only [Act.put, List.setIfInBounds_toArray, List.set_cons_zero, List.set_cons_succ])
              refine lTake (i := 16) (v := ?_) rfl (by kernel_rfl) (by kernel_rfl) (by kernel_rfl) (fun _ _ _ h => h) (by rfl) (fun _ _ h => h) (fun _ _ h => h) ?_ (by assumption) (fun hHeld2 => ?_)
              rotate_left 1
              · (intro _ _ _ _ _; first | (go_simp; done) | (go_simp; with_reducible rfl))
              clear hHeld; have hHeld := hHeld2; clear hHeld2
              (try simp only [Act.put, List.setIfInBounds_toArray, List.set_cons_zero, List.set_cons_succ])
              refine lReady (rs := [17]) (by kernel_rfl) (by simp) ?_
              refine AllL.cons (i := 17) rfl (fun K hK => ?_) ?_
              · obtain ⟨⟨v1, q1⟩, q2, q3⟩ := HT.out.cellO i hlt; go_simp; obtain ⟨cq, bq⟩ := HT.out.lo; have XS := Lib.hid (XS.out.setCell_ne (p := ⟨g2, i, none⟩) (fun e => blk_type_ne XS.out bq.1 (by decide) e.symm) (.slice (some ⟨gb, 0, none⟩) n n)); have XR := Lib.hid (XR.out.setCell_ne (p := ⟨g2, i, none⟩) (fun e => blk_type_ne XR.out bq.1 (by decide) e.symm) (.slice (some ⟨gb, 0, none⟩) n n)); have HC := Lib.hid (HC.out.setCell_ne (p := ⟨g2, i, none⟩) (fun e => blk_type_ne HC.out bq.1 (by decide) e.symm) (.slice (some ⟨gb, 0, none⟩) n n)); have HT := Lib.hid (HT.out.outt hlt HB.out ⟨(by first | exact HBF.out.1 | (intro x hx; unfold upd; split; exact HAB.out; exact HBF.out.1 x (by omega))), HBF.out.2⟩); clear bq q1 q2 q3
                (try go_wp2_with fail)
                refine hK.out _ _ ?_ (fun hHeld2 => ?_)
                · (try dsimp only); (with_reducible exact ⟨HT.out.b.cell 0 rfl, HT.out.b.cell 1 rfl, HC.out.cell 3 rfl⟩)
                clear hK K
                clear hHeld; have hHeld := hHeld2; clear hHeld2
                (try simp only [Act.put, List.setIfInBounds_toArray, List.set_cons_zero, List.set_cons_succ])
                refine lTake (i := 18) (v := ?_) rfl (by kernel_rfl) (by kernel_rfl) (by kernel_rfl) (fun _ _ _ h => h) (by rfl) (fun _ _ h => h) (fun _ _ h => h) ?_ (by assumption) (fun hHeld2 => ?_)
                rotate_left 1
                · (intro _ _ _ _ _; first | (go_simp; done) | (go_simp; with_reducible rfl))
                clear hHeld; have hHeld := hHeld2; clear hHeld2
                (try simp only [Act.put, List.setIfInBounds_toArray, List.set_cons_zero, List.set_cons_succ])
                refine lReady (rs := [19]) (by kernel_rfl) (by simp) ?_
                refine AllL.cons (i := 19) rfl (fun K hK => ?_) ?_
                · have q1 := HT.out.lev.cell i (by unfold lvA; rw [rowK_len]; exact hlt); have q2 := HT.out.lev.free i; have q3 := HT.out.lev.lt; go_simp; have bq := And.intro (show Blk _ gl 2 _ from HT.out.lev) True.intro; have XS := Lib.hid (XS.out.setCell_ne (p := ⟨gl, i, none⟩) (fun e => blk_type_ne XS.out bq.1 (by decide) e.symm) (.int .i64 start)); have XR := Lib.hid (XR.out.setCell_ne (p := ⟨gl, i, none⟩) (fun e => blk_type_ne XR.out bq.1 (by decide) e.symm) (.int .i64 start)); have HC := Lib.hid (HC.out.setCell_ne (p := ⟨gl, i, none⟩) (fun e => blk_type_ne HC.out bq.1 (by decide) e.symm) (.int .i64 start)); have HT := Lib.hid (HT.out.set i start); clear bq q1 q2 q3
                  (try go_wp2_with fail)
                  refine hK.out _ _ ?_ (fun hHeld2 => ?_)
                  · (try dsimp only); (with_reducible exact ⟨HT.out.b.cell 0 rfl, HT.out.b.cell 1 rfl, HC.out.cell 3 rfl⟩)
                  clear hK K
                  clear hHeld; have hHeld := hHeld2; clear hHeld2
                  (try simp only [Act.put, List.setIfInBounds_toArray, List.set_cons_zero, List.set_cons_succ])
                  refine lDone (by kernel_rfl) ?_ _
                  unfold lvA at HT
                  rw [HLV.out] at HT
                  go_wp2_with fail
                  exact ⟨⟨i + 1, by omega, by go_num, Lib.hid ⟨_, _, HT.out, XS.out, XR.out⟩⟩, by simp [intOf]; omega⟩
                exact AllL.nil
              exact AllL.nil
            exact AllL.nil
          refine AllL.cons (i := 15) rfl (fun K hK => ?_) ?_
          · obtain ⟨⟨v1, q1⟩, q2, q3⟩ := HT.out.cellI i hlt; go_simp; obtain ⟨cq, bq⟩ := HT.out.li; (try have HB := Lib.hid (HB.out.set_ne (p := ⟨g1, i, none⟩) (fun e => blk_type_ne bq.1 HB.out (by decide) e) (.slice (some ⟨ga, 0, none⟩) n n))); have XS := Lib.hid (XS.out.setCell_ne (p := ⟨g1, i, none⟩) (fun e => blk_type_ne XS.out bq.1 (by decide) e.symm) (.slice (some ⟨ga, 0, none⟩) n n)); have XR := Lib.hid (XR.out.setCell_ne (p := ⟨g1, i, none⟩) (fun e => blk_type_ne XR.out bq.1 (by decide) e.symm) (.slice (some ⟨ga, 0, none⟩) n n)); have HC := Lib.hid (HC.out.setCell_ne (p := ⟨g1, i, none⟩) (fun e => blk_type_ne HC.out bq.1 (by decide) e.symm) (.slice (some ⟨ga, 0, none⟩) n n)); have HT := Lib.hid (HT.out.inn hlt HA.out HAF.out); clear bq q1 q2 q3
            (try go_wp2_with fail)
            refine hK.out _ _ ?_ (fun hHeld2 => ?_)
            · (try dsimp only); (with_reducible exact ⟨HT.out.b.cell 0 rfl, HT.out.b.cell 1 rfl, HC.out.cell 3 rfl⟩)
            clear hK K
            clear hHeld; have hHeld := hHeld2; clear hHeld2
            (try simp only [Act.put, List.setIfInBounds_toArray, List.set_cons_zero, List.set_cons_succ])
            refine lReady (rs := [11]) (by kernel_rfl) (by simp) ?_
            refine AllL.cons (i := 11) rfl (fun K hK => ?_) ?_
            · refine step_new (.cells (Array.replicate n (.int .i64 0)) 2) (fun g => .slice (some ⟨g, 0, none⟩) n n) rfl (by unfold execOp; simp [hmk22, go_sem]) ?_; intro gb wv z6 hc6 hb6; (try have HAB := Lib.hid (show ga ≠ gb from by have := HA.out.lt; omega)); (try have HA := Lib.hid (Fl.below HA.out hb6)); have HBF := Lib.hid (HT.out.fresh z6); have HB := Lib.hid (show Fl 2 wv gb (List.replicate n 0) from by unfold Fl Blk; rw [hc6]; simp); have HT := Lib.hid (HT.out.below hb6); have XS := Lib.hid (XS.out.below hb6 XS.out.lt); have XR := Lib.hid (XR.out.below hb6 XR.out.lt); have HC := Lib.hid (HC.out.below hb6 HC.out.lt); clear hb6 hc6 z6
              (try go_wp2_with fail)
              refine hK.out _ _ ?_ (fun hHeld2 => ?_)
              · (try dsimp only); (with_reducible exact ⟨HT.out.b.cell 0 rfl, HT.out.b.cell 1 rfl, HC.out.cell 3 rfl⟩)
              clear hK K
              clear hHeld; have hHeld := hHeld2; clear hHeld2
              (try simp only [Act.put, List.setIfInBounds_toArray, List.set_cons_zero, List.set_cons_succ])
              refine lTake (i := 16) (v := ?_) rfl (by kernel_rfl) (by kernel_rfl) (by kernel_rfl) (fun _ _ _ h => h) (by rfl) (fun _ _ h => h) (fun _ _ h => h) ?_ (by assumption) (fun hHeld2 => ?_)
              rotate_left 1
              · (intro _ _ _ _ _; first | (go_simp; done) | (go_simp; with_reducible rfl))
              clear hHeld; have hHeld := hHeld2; clear hHeld2
              (try simp only [Act.put, List.setIfInBounds_toArray, List.set_cons_zero, List.set_cons_succ])
              refine lReady (rs := [17]) (by kernel_rfl) (by simp) ?_
              refine AllL.cons (i := 17) rfl (fun K hK => ?_) ?_
              · obtain ⟨⟨v1, q1⟩, q2, q3⟩ := HT.out.cellO i hlt; go_simp; obtain ⟨cq, bq⟩ := HT.out.lo; have XS := Lib.hid (XS.out.setCell_ne (p := ⟨g2, i, none⟩) (fun e => blk_type_ne XS.out bq.1 (by decide) e.symm) (.slice (some ⟨gb, 0, none⟩) n n)); have XR := Lib.hid (XR.out.setCell_ne (p := ⟨g2, i, none⟩) (fun e => blk_type_ne XR.out bq.1 (by decide) e.symm) (.slice (some ⟨gb, 0, none⟩) n n)); have HC := Lib.hid (HC.out.setCell_ne (p := ⟨g2, i, none⟩) (fun e => blk_type_ne HC.out bq.1 (by decide) e.symm) (.slice (some ⟨gb, 0, none⟩) n n)); have HT := Lib.hid (HT.out.outt hlt HB.out ⟨(by first | exact HBF.out.1 | (intro x hx; unfold upd; split; exact HAB.out; exact HBF.out.1 x (by omega))), HBF.out.2⟩); clear bq q1 q2 q3
                (try go_wp2_with fail)
                refine hK.out _ _ ?_ (fun hHeld2 => ?_)
                · (try dsimp only); (with_reducible exact ⟨HT.out.b.cell 0 rfl, HT.out.b.cell 1 rfl, HC.out.cell 3 rfl⟩)
                clear hK K
                clear hHeld; have hHeld := hHeld2; clear hHeld2
                (try simp only [Act.put, List.setIfInBounds_toArray, List.set_cons_zero, List.set_cons_succ])
                refine lTake (i := 18) (v := ?_) rfl (by kernel_rfl) (by kernel_rfl) (by kernel_rfl) (fun _ _ _ h => h) (by rfl) (fun _ _ h => h) (fun _ _ h => h) ?_ (by assumption) (fun hHeld2 => ?_)
                rotate_left 1
                · (intro _ _ _ _ _; first | (go_simp; done) | (go_simp; with_reducible rfl))
                clear hHeld; have hHeld := hHeld2; clear hHeld2
                (try simp only [Act.put, List.setIfInBounds_toArray, List.set_cons_zero, List.set_cons_succ])
                refine lReady (rs := [19]) (by kernel_rfl) (by simp) ?_
                refine AllL.cons (i := 19) rfl (fun K hK => ?_) ?_
                · have q1 := HT.out.lev.cell i (by unfold lvA; rw [rowK_len]; exact hlt); have q2 := HT.out.lev.free i; have q3 := HT.out.lev.lt; go_simp; have bq := And.intro (show Blk _ gl 2 _ from HT.out.lev) True.intro; have XS := Lib.hid (XS.out.setCell_ne (p := ⟨gl, i, none⟩) (fun e => blk_type_ne XS.out bq.1 (by decide) e.symm) (.int .i64 start)); have XR := Lib.hid (XR.out.setCell_ne (p := ⟨gl, i, none⟩) (fun e => blk_type_ne XR.out bq.1 (by decide) e.symm) (.int .i64 start)); have HC := Lib.hid (HC.out.setCell_ne (p := ⟨gl, i, none⟩) (fun e => blk_type_ne HC.out bq.1 (by decide) e.symm) (.int .i64 start)); have HT := Lib.hid (HT.out.set i start); clear bq q1 q2 q3
                  (try go_wp2_with fail)
                  refine hK.out _ _ ?_ (fun hHeld2 => ?_)
                  · (try dsimp only); (with_reducible exact ⟨HT.out.b.cell 0 rfl, HT.out.b.cell 1 rfl, HC.out.cell 3 rfl⟩)
                  clear hK K
                  clear hHeld; have hHeld := hHeld2; clear hHeld2
                  (try simp only [Act.put, List.setIfInBounds_toArray, List.set_cons_zero, List.set_cons_succ])
                  refine lDone (by kernel_rfl) ?_ _
                  unfold lvA at HT
                  rw [HLV.out] at HT
                  go_wp2_with fail
                  exact ⟨⟨i + 1, by omega, by go_num, Lib.hid ⟨_, _, HT.out, XS.out, XR.out⟩⟩, by simp [intOf]; omega⟩
                exact AllL.nil
              exact AllL.nil
            exact AllL.nil
          exact AllL.nil
        refine AllL.cons (i := 11) rfl (fun K hK => ?_) ?_
        · refine step_new (.cells (Array.replicate n (.int .i64 0)) 2) (fun g => .slice (some ⟨g, 0, none⟩) n n) rfl (by unfold execOp; simp [hmk22, go_sem]) ?_; intro gb wv z6 hc6 hb6; (try have HAB := Lib.hid (show ga ≠ gb from by have := HA.out.lt; omega)); (try have HA := Lib.hid (Fl.below HA.out hb6)); have HBF := Lib.hid (HT.out.fresh z6); have HB := Lib.hid (show Fl 2 wv gb (List.replicate n 0) from by unfold Fl Blk; rw [hc6]; simp); have HT := Lib.hid (HT.out.below hb6); have XS := Lib.hid (XS.out.below hb6 XS.out.lt); have XR := Lib.hid (XR.out.below hb6 XR.out.lt); have HC := Lib.hid (HC.out.below hb6 HC.out.lt); clear hb6 hc6 z6
          (try go_wp2_with fail)
          refine hK.out _ _ ?_ (fun hHeld2 => ?_)
          · (try dsimp only); (with_reducible exact ⟨HT.out.b.cell 0 rfl, HT.out.b.cell 1 rfl, HC.out.cell 3 rfl⟩)
          clear hK K
          clear hHeld; have hHeld := hHeld2; clear hHeld2
          (try simp only [Act.put, List.setIfInBounds_toArray, List.set_cons_zero, List.set_cons_succ])
          refine lReady (rs := [9]) (by kernel_rfl) (by simp) ?_
          refine AllL.cons (i := 9) rfl (fun K hK => ?_) ?_
          · refine step_new (.cells (Array.replicate n (.int .i64 0)) 2) (fun g => .slice (some ⟨g, 0, none⟩) n n) rfl (by unfold execOp; simp [hmk22, go_sem]) ?_; intro ga wv z6 hc6 hb6; (try have HAB := Lib.hid (show ga ≠ gb from by have := HB.out.lt; omega)); (try have HB := Lib.hid (Fl.below HB.out hb6)); have HAF := Lib.hid (HT.out.fresh z6); have HA := Lib.hid (show Fl 2 wv ga (List.replicate n 0) from by unfold Fl Blk; rw [hc6]; simp); have HT := Lib.hid (HT.out.below hb6); have XS := Lib.hid (XS.out.below hb6 XS.out.lt); have XR := Lib.hid (XR.out.below hb6 XR.out.lt); have HC := Lib.hid (HC.out.below hb6 HC.out.lt); clear hb6 hc6 z6
            (try go_wp2_with fail)
            refine hK.out _ _ ?_ (fun hHeld2 => ?_)
            · (try dsimp only); (with_reducible exact ⟨HT.out.b.cell 0 rfl, HT.out.b.cell 1 rfl, HC.out.cell 3 rfl⟩)
            clear hK K
            clear hHeld; have hHeld := hHeld2; clear hHeld2
            (try simp only [Act.put, List.setIfInBounds_toArray, List.set_cons_zero, List.set_cons_succ])
            refine lTake (i := 14) (v := ?_) rfl (by kernel_rfl) (by kernel_rfl) (by kernel_rfl) (fun _ _ _ h => h) (by rfl) (fun _ _ h => h) (fun _ _ h => h) ?_ (by assumption) (fun hHeld2 => ?_)
            rotate_left 1
            · (intro _ _ _ _ _; first | (go_simp; done) | (go_simp; with_reducible rfl))
            clear hHeld; have hHeld := hHeld2; clear hHeld2
            (try simp only [Act.put, List.setIfInBounds_toArray, List.set_cons_zero, List.set_cons_succ])
            refine lReady (rs := [15]) (by kernel_rfl) (by simp) ?_
            refine AllL.cons (i := 15) rfl (fun K hK => ?_) ?_
            · obtain ⟨⟨v1, q1⟩, q2, q3⟩ := HT.out.cellI i hlt; go_simp; obtain ⟨cq, bq⟩ := HT.out.li; (try have HB := Lib.hid (HB.out.set_ne (p := ⟨g1, i, none⟩) (fun e => blk_type_ne bq.1 HB.out (by decide) e) (.slice (some ⟨ga, 0, none⟩) n n))); have XS := Lib.hid (XS.out.setCell_ne (p := ⟨g1, i, none⟩) (fun e => blk_type_ne XS.out bq.1 (by decide) e.symm) (.slice (some ⟨ga, 0, none⟩) n n)); have XR := Lib.hid (XR.out.setCell_ne (p := ⟨g1, i, none⟩) (fun e => blk_type_ne XR.out bq.1 (by decide) e.symm) (.slice (some ⟨ga, 0, none⟩) n n)); have HC := Lib.hid (HC.out.setCell_ne (p := ⟨g1, i, none⟩) (fun e => blk_type_ne HC.out bq.1 (by decide) e.symm) (.slice (some ⟨ga, 0, none⟩) n n)); have HT := Lib.hid (HT.out.inn hlt HA.out HAF.out); clear bq q1 q2 q3
              (try go_wp2_with fail)
              refine hK.out _ _ ?_ (fun hHeld2 => ?_)
              · (try dsimp only); (with_reducible exact ⟨HT.out.b.cell 0 rfl, HT.out.b.cell 1 rfl, HC.out.cell 3 rfl⟩)
              clear hK K
              clear hHeld; have hHeld := hHeld2; clear hHeld2
              (try simp only [Act.put, List.setIfInBounds_toArray, List.set_cons_zero, List.set_cons_succ])
              refine lTake (i := 16) (v := ?_) rfl (by kernel_rfl) (by kernel_rfl) (by kernel_rfl) (fun _ _ _ h => h) (by rfl) (fun _ _ h => h) (fun _ _ h => h) ?_ (by assumption) (fun hHeld2 => ?_)
              rotate_left 1
              · (intro _ _ _ _ _; first | (go_simp; done) | (go_simp; with_reducible rfl))
              clear hHeld; have hHeld := hHeld2; clear hHeld2
              (try simp only [Act.put, List.setIfInBounds_toArray, List.set_cons_zero, List.set_cons_succ])
              refine lReady (rs := [17]) (by kernel_rfl) (by simp) ?_
              refine AllL.cons (i := 17) rfl (fun K hK => ?_) ?_
              · obtain ⟨⟨v1, q1⟩, q2, q3⟩ := HT.out.cellO i hlt; go_simp; obtain ⟨cq, bq⟩ := HT.out.lo; have XS := Lib.hid (XS.out.setCell_ne (p := ⟨g2, i, none⟩) (fun e => blk_type_ne XS.out bq.1 (by decide) e.symm) (.slice (some ⟨gb, 0, none⟩) n n)); have XR := Lib.hid (XR.out.setCell_ne (p := ⟨g2, i, none⟩) (fun e => blk_type_ne XR.out bq.1 (by decide) e.symm) (.slice (some ⟨gb, 0, none⟩) n n)); have HC := Lib.hid (HC.out.setCell_ne (p := ⟨g2, i, none⟩) (fun e => blk_type_ne HC.out bq.1 (by decide) e.symm) (.slice (some ⟨gb, 0, none⟩) n n)); have HT := Lib.hid (HT.out.outt hlt HB.out ⟨(by first | exact HBF.out.1 | (intro x hx; unfold upd; split; exact HAB.out; exact HBF.out.1 x (by omega))), HBF.out.2⟩); clear bq q1 q2 q3
                (try go_wp2_with fail)
                refine hK.out _ _ ?_ (fun hHeld2 => ?_)
                · (try dsimp only); (with_reducible exact ⟨HT.out.b.cell 0 rfl, HT.out.b.cell 1 rfl, HC.out.cell 3 rfl⟩)
                clear hK K
                clear hHeld; have hHeld := hHeld2; clear hHeld2
                (try simp only [Act.put, List.setIfInBounds_toArray, List.set_cons_zero, List.set_cons_succ])
                refine lTake (i := 18) (v := ?_) rfl (by kernel_rfl) (by kernel_rfl) (by kernel_rfl) (fun _ _ _ h => h) (by rfl) (fun _ _ h => h) (fun _ _ h => h) ?_ (by assumption) (fun hHeld2 => ?_)
                rotate_left 1
                · (intro _ _ _ _ _; first | (go_simp; done) | (go_simp; with_reducible rfl))
                clear hHeld; have hHeld := hHeld2; clear hHeld2
                (try simp only [Act.put, List.setIfInBounds_toArray, List.set_cons_zero, List.set_cons_succ])
                refine lReady (rs := [19]) (by kernel_rfl) (by simp) ?_
                refine AllL.cons (i := 19) rfl (fun K hK => ?_) ?_
                · have q1 := HT.out.lev.cell i (by unfold lvA; rw [rowK_len]; exact hlt); have q2 := HT.out.lev.free i; have q3 := HT.out.lev.lt; go_simp; have bq := And.intro (show Blk _ gl 2 _ from HT.out.lev) True.intro; have XS := Lib.hid (XS.out.setCell_ne (p := ⟨gl, i, none⟩) (fun e => blk_type_ne XS.out bq.1 (by decide) e.symm) (.int .i64 start)); have XR := Lib.hid (XR.out.setCell_ne (p := ⟨gl, i, none⟩) (fun e => blk_type_ne XR.out bq.1 (by decide) e.symm) (.int .i64 start)); have HC := Lib.hid (HC.out.setCell_ne (p := ⟨gl, i, none⟩) (fun e => blk_type_ne HC.out bq.1 (by decide) e.symm) (.int .i64 start)); have HT := Lib.hid (HT.out.set i start); clear bq q1 q2 q3
                  (try go_wp2_with fail)
                  refine hK.out _ _ ?_ (fun hHeld2 => ?_)
                  · (try dsimp only); (with_reducible exact ⟨HT.out.b.cell 0 rfl, HT.out.b.cell 1 rfl, HC.out.cell 3 rfl⟩)
                  clear hK K
                  clear hHeld; have hHeld := hHeld2; clear hHeld2
                  (try simp only [Act.put, List.setIfInBounds_toArray, List.set_cons_zero, List.set_cons_succ])
                  refine lDone (by kernel_rfl) ?_ _
                  unfold lvA at HT
                  rw [HLV.out] at HT
                  go_wp2_with fail
                  exact ⟨⟨i + 1, by omega, by go_num, Lib.hid ⟨_, _, HT.out, XS.out, XR.out⟩⟩, by simp [intOf]; omega⟩
                exact AllL.nil
              exact AllL.nil
            exact AllL.nil
          exact AllL.nil
        exact AllL.nil
      · obtain rfl : m = i := by omega
        have HJ : Hid (EgJ w n m gt g1 g2 m m gl gr gI gO [.slice A n cA, .slice B nB cB, .slice C nC cC, .slice D nD cD] (fun x => rowK (egX S cs x) n 0) (mapR m (egL S cs 0)) wr) := Lib.hid ((EgJ.mk HT.out.full (by have := HT.out.lev; unfold lvA at this; rw [lvA_aux] at this; exact this) (fun x hx => ⟨(HT.out.al.1 x hx).1, (HT.out.al.2 x hx).1⟩) HT.out.ge.2.2 XS.out XR.out ⟨HG1.out.1, HGR.out⟩).rows (fun x _ => rowK_zero _ _))
        clear HT XS XR
        go_wp2_with fail
        go_loopw [65] (fun iv wr => ∃ k : Nat, k ≤ n ∧ iv = .int .i64 k ∧ Hid (EgJ w n m gt g1 g2 m m gl gr gI gO [.slice A n cA, .slice B nB cB, .slice C nC cC, .slice D nD cD] (fun x => rowK (egX S cs x) n k) (mapR m (egL S cs k)) wr)) (fun iv _ => n - (intOf iv).toNat)
        case atStart => exact ⟨0, Nat.zero_le _, rfl, HJ⟩
        case round =>
          clear HJ
          obtain ⟨k, hk, rfl, HJ⟩ := hrel
          by_cases hlt : k < n
          · have hki : (k : Int) < (n : Int) := by omega
            have kS : k < S.lim.length := by rw [← HN.out]; exact hlt
            have s0 := HJ.out.s.cell 0 rfl
            have sl := HJ.out.s.lt
            obtain ⟨la, hla, lal, lx⟩ := (HS.out.below HJ.out.t.bel (Nat.le_refl _)).1 k kS
            rw [hla] at s0
            have la2 : (la.add k).block < wr.heap.size := by rw [block_add]; exact lal
            rw [show S.lim.getD k 0 = egV S cs k 0 from rfl] at lx
            have HJ0 : Hid (EgJ w n m gt g1 g2 m m gl gr gI gO [.slice A n cA, .slice B nB cB, .slice C nC cC, .slice D nD cD] (rwC S cs n k 0) (lvC S cs m k 0) wr) := Lib.hid (by rw [lvC_zero]; exact HJ.out.rows (fun x _ => rwC_zero S cs n k x))
            clear HJ
            generalize hv0 : egV S cs k 0 = lf0 at lx
            have HV0 := Lib.hid hv0
            clear hv0 hla
            go_wp2_with fail
            clear s0 sl lx la2 lal
            go_loopw [13, 75] (fun lv iv wr => ∃ i : Nat, i ≤ m ∧ iv = .int .i64 i ∧ lv = .int .i64 (egV S cs k i) ∧ Hid (EgJ w n m gt g1 g2 m m gl gr gI gO [.slice A n cA, .slice B nB cB, .slice C nC cC, .slice D nD cD] (rwC S cs n k i) (lvC S cs m k i) wr)) (fun _ iv _ => m - (intOf iv).toNat)
            case atStart => exact ⟨0, Nat.zero_le _, rfl, by rw [HV0.out], HJ0⟩
            case round =>
              clear HJ0
              obtain ⟨i, hi, rfl, rfl, HJ⟩ := hrel
              by_cases hlt2 : i < m
              · have hii : (i : Int) < (m : Int) := by omega
                have il : i < cs.length := by rw [← HM.out]; exact hlt2
                obtain ⟨ad, hE2, abl, c0, c1, c2, c3, c4, TT, cT, c5, hcT, HTT⟩ := (HCS.out.below HJ.out.t.bel (Nat.le_refl _)) i il
                subst hE2
                have HTR := Lib.hid HTT
                clear HTT
                have b1 := egL_bd HZ.out il k
                have b2 := egV_bd HZ.out kS i (by omega)
                have b3 := egX_bd HZ.out il k
                have b4 := useC_bd (carok_of HZ.out il) k
                have b5 := (carOk_iff.1 (carok_of HZ.out il)).1
                have HXD := Lib.hid (show egX S cs i k = if awayC (cs.getD i default) k = true then 0 else max 0 (min (min (cs.getD i default).inn ((cs.getD i default).cap - egL S cs k i)) (egV S cs k i)) from rfl)
                have HLN := Lib.hid (egL_succ S cs k i)
                have HVN := Lib.hid (egV_succ S cs k i)
                have HLG := Lib.hid (lvC_get S cs (k := k) hlt2)
                have HLS := Lib.hid (fun u v hv => lvC_set S cs (k := k) hlt2 u v hv)
                have HRS := Lib.hid (rwC_set S cs (n := n) (k := k) (i := i) hlt)
                have HRK := Lib.hid (rwC_skip S cs (n := n) (k := k) (i := i) hlt)
                generalize hcc : cs.getD i default = c at *
                clear hcc
                obtain ⟨cap, inn, out, start, fin, trips⟩ := c
                simp only at c0 c1 c2 c3 c4 c5 hcT HTR b5 HXD
                obtain ⟨qn, hqn⟩ : ∃ qn, qn = trips.length := ⟨_, rfl⟩
                rw [← hqn] at c5 hcT
                have HQN := Lib.hid hqn
                clear hqn
                obtain ⟨u, hu⟩ : ∃ u, u = useC ⟨cap, inn, out, start, fin, trips⟩ k := ⟨_, rfl⟩
                obtain ⟨aw, haw⟩ : ∃ aw, aw = awayC ⟨cap, inn, out, start, fin, trips⟩ k := ⟨_, rfl⟩
                have HTC : Hid (∀ V, Below wr.heap.size wr V → Calls Try.prog 87 #[.agg #[.int .i64 cap, .int .i64 inn, .int .i64 out, .int .i64 start, .int .i64 fin, .slice TT qn cT], .int .i64 ((k : Nat) : Int)] V fun e w' => e = .returned (.tuple #[.int .i64 u, .bool aw]) ∧ Below V.heap.size V w') := Lib.hid (fun V hV => by
                  have := trip_c (.int .i64 cap) (.int .i64 inn) (.int .i64 out) (.int .i64 start) (.int .i64 fin) k TT trips qn cT V HQN.out hcT (HTR.out.below hV (Nat.le_refl _))
                  rw [hu, haw, show useC ⟨cap, inn, out, start, fin, trips⟩ k = useP trips k qn from by rw [HQN.out]; rfl, show awayC ⟨cap, inn, out, start, fin, trips⟩ k = awayP trips k qn from by rw [HQN.out]; rfl]
                  exact this)
                rw [← hu] at b4 HLN
                rw [← haw] at HXD
                clear hu haw
                generalize egL S cs (k + 1) i = l2 at *
                generalize egL S cs k i = l at *
                generalize egX S cs i k = x at *
                generalize egV S cs k i = lf at *
                go_upto_region 19 with fail
                have al := (Below.refl wr.heap.size wr).alloc (Nat.le_refl _) (.cells #[.int .i64 cap, .int .i64 inn, .int .i64 out, .int .i64 start, .int .i64 fin, .slice TT qn cT] 63)
                have HK := Lib.hid (HJ.out.below al)
                have HC := Lib.hid (Blk.new' wr #[.int .i64 cap, .int .i64 inn, .int .i64 out, .int .i64 start, .int .i64 fin, .slice TT qn cT] 63)
                have HWX := Lib.hid al
                clear c0 c1 c2 c3 c4 c5 abl al HJ
                generalize wr.alloc (.cells #[.int .i64 cap, .int .i64 inn, .int .i64 out, .int .i64 start, .int .i64 fin, .slice TT qn cT] 63) = wx at HK HC HWX ⊢
                obtain ⟨gc, hgc⟩ : ∃ gc, gc = wr.heap.size := ⟨_, rfl⟩
                rw [← hgc] at HC ⊢
                clear hgc
                have e0 := HC.out.cell 0 rfl
                have e1 := HC.out.cell 1 rfl
                have e2 := HC.out.cell 2 rfl
                have e3 := HC.out.cell 3 rfl
                have e4 := HC.out.cell 4 rfl
                have e5 := HC.out.cell 5 rfl
                have el := HC.out.lt
                go_wp2_with fail
                refine (HTC.out wx HWX.out).mono ?_
                rintro e w4 ⟨rfl, hb⟩
                have HK4 := Lib.hid (HK.out.below hb)
                have HC4 := Lib.hid (HC.out.below hb HC.out.lt)
                clear hb HTC HK HC e0 e1 e2 e3 e4 e5 el HWX
                cases aw
                · simp only [Bool.false_eq_true, if_false] at HXD
                  have f0 := HC4.out.cell 0 rfl
                  have f1 := HC4.out.cell 1 rfl
                  have fl := HC4.out.lt
                  have l0 := HK4.out.l.cell i (by first | (rw [lvC, mapR_len]; exact hlt2) | (rw [List.length_set, lvC, mapR_len]; exact hlt2))
                  have lz := HK4.out.l.free i
                  have ll := HK4.out.l.lt
                  rw [HLG.out] at l0
                  have cle : IntKind.i64.wrap (cap - l) = cap - l := IntWalk.i64_in _ (by omega)
                  have hm1 := fun ts t W => min3_run inn (cap - l) lf ts t W
                  obtain ⟨mn, hmn⟩ : ∃ mn, mn = min (min inn (cap - l)) lf := ⟨_, rfl⟩
                  rw [← hmn] at HXD
                  simp only [← hmn] at hm1
                  have hm2 := fun ts t W => maxTwo 0 mn ts t W
                  simp only [← HXD.out] at hm2
                  clear hmn
                  go_upto_region 21 with fail
                  refine wp_region_past (by kernel_rfl) (by kernel_rfl) ?_
                  repeat (go_big_quiet_step (fail))
                  refine wpQuiet_nil ?_
                  intro xx
                  have HK5 := Lib.hid (HK4.out.below xx.far)
                  generalize xx.w = w5 at HK5 ⊢
                  clear f0 f1 fl l0 lz ll cle hm1 hm2 HK4 HC4
                  have t0 := HK5.out.t.b.cell 0 rfl
                  have tl := HK5.out.t.b.lt
                  have g0 := HK5.out.t.i.cell i hlt2
                  have gz := HK5.out.t.i.lt
                  have r0 := (HK5.out.t.i.f i hlt2).1.cell k (by rw [(HK5.out.t.i.f i hlt2).2]; exact hlt)
                  have rz := (HK5.out.t.i.f i hlt2).1.free k
                  have rl := (HK5.out.t.i.f i hlt2).1.lt
                  have HK6 := Lib.hid (HK5.out.setI i hlt2 k x)
                  go_upto_region 23 with fail
                  clear t0 tl g0 gz r0 rz rl HK5
                  generalize w5.setCell ⟨gI i, k, none⟩ (.int .i64 x) = w6 at HK6 ⊢
                  have HK7 : Hid (EgJ w n m gt g1 g2 m m gl gr gI gO [.slice A n cA, .slice B nB cB, .slice C nC cC, .slice D nD cD] (rwC S cs n k (i + 1)) (lvC S cs m k i) w6) := Lib.hid (HK6.out.rows (fun y _ => (HRS.out y).symm))
                  clear HK6
                  have lfe : IntKind.i64.wrap (lf - x) = lf - x := IntWalk.i64_in _ (by omega)
                  have lxe : IntKind.i64.wrap (l + x) = l + x := IntWalk.i64_in _ (by omega)
                  have l0 := HK7.out.l.cell i (by first | (rw [lvC, mapR_len]; exact hlt2) | (rw [List.length_set, lvC, mapR_len]; exact hlt2))
                  have lz := HK7.out.l.free i
                  have ll := HK7.out.l.lt
                  rw [HLG.out] at l0
                  have HK8 := Lib.hid (HK7.out.setL i (l + x))
                  go_upto_region 25 with fail
                  clear l0 lz ll HK7 lxe
                  generalize w6.setCell ⟨gl, i, none⟩ (.int .i64 (l + x)) = w8 at HK8 ⊢
                  have l0 := HK8.out.l.cell i (by first | (rw [lvC, mapR_len]; exact hlt2) | (rw [List.length_set, lvC, mapR_len]; exact hlt2))
                  have lz := HK8.out.l.free i
                  have ll := HK8.out.l.lt
                  rw [show ((lvC S cs m k i).set i (l + x)).getD i 0 = l + x from by rw [List.getD_eq_getElem?_getD, List.getElem?_set_self (by rw [lvC, mapR_len]; exact hlt2)]; rfl] at l0
                  have lue : IntKind.i64.wrap ((l + x) - u) = (l + x) - u := IntWalk.i64_in _ (by omega)
                  have HKf := Lib.hid (HK8.out.setL i ((l + x) - u))
                  go_upto_region 26 with fail
                  clear l0 lz ll lue HK8
                  generalize w8.setCell ⟨gl, i, none⟩ (.int .i64 ((l + x) - u)) = wf at HKf ⊢
                  rw [(HLS.out (l + x) ((l + x) - u) (by rw [HLN.out])).1] at HKf
                  go_wp2_with fail
                  exact ⟨⟨i + 1, by omega, by go_num, by rw [HVN.out], HKf⟩, by simp [intOf]; omega⟩
                · simp only [if_true] at HXD
                  have hx0 : x = 0 := HXD.out
                  subst hx0
                  clear HC4
                  have l0 := HK4.out.l.cell i (by first | (rw [lvC, mapR_len]; exact hlt2) | (rw [List.length_set, lvC, mapR_len]; exact hlt2))
                  have lz := HK4.out.l.free i
                  have ll := HK4.out.l.lt
                  rw [HLG.out] at l0
                  have lue : IntKind.i64.wrap (l - u) = l - u := IntWalk.i64_in _ (by omega)
                  have HKf := Lib.hid (HK4.out.setL i (l - u))
                  go_upto_region 26 with fail
                  clear l0 lz ll lue HK4
                  generalize w4.setCell ⟨gl, i, none⟩ (.int .i64 (l - u)) = wf at HKf ⊢
                  rw [(HLS.out l (l - u) (by rw [HLN.out]; omega)).2] at HKf
                  have HKg : Hid (EgJ w n m gt g1 g2 m m gl gr gI gO [.slice A n cA, .slice B nB cB, .slice C nC cC, .slice D nD cD] (rwC S cs n k (i + 1)) (lvC S cs m k (i + 1)) wf) := Lib.hid (HKf.out.rows (fun y _ => (HRK.out (by first | rfl | trivial) y).symm))
                  clear HKf
                  have HVE : Hid (egV S cs k (i + 1) = lf) := Lib.hid (by rw [HVN.out]; omega)
                  go_wp2_with fail
                  exact ⟨⟨i + 1, by omega, by go_num, by rw [HVE.out], HKg⟩, by simp [intOf]; omega⟩
              · obtain rfl : m = i := by omega
                have HE : Hid (EgJ w n m gt g1 g2 m m gl gr gI gO [.slice A n cA, .slice B nB cB, .slice C nC cC, .slice D nD cD] (fun x => rowK (egX S cs x) n (k + 1)) (mapR m (egL S cs (k + 1))) wr) := Lib.hid (by
                  have h := HJ.out
                  rw [lvC_all] at h
                  exact h.rows (fun x hx => (rwC_all S cs hx).symm))
                clear HJ
                go_wp2_with fail
                go_roundw
                case measure => simp [intOf]; omega
                case rel => exact ⟨k + 1, by omega, by go_num, HE⟩
          · obtain rfl : n = k := by omega
            have HTB : Hid (∀ V, EgJ w n m gt g1 g2 m m gl gr gI gO [.slice A n cA, .slice B nB cB, .slice C nC cC, .slice D nD cD] (fun x => rowK (egX S cs x) n n) (mapR m (egL S cs n)) V → TabAt V (some ⟨g1, 0, none⟩) (some ⟨g2, 0, none⟩) (egT S cs)) := Lib.hid (fun V h => by
              have := h.t.tab (by omega)
              unfold egT
              rw [← HN.out, ← HM.out]
              exact this)
            obtain ⟨v2, hv2⟩ : ∃ v2, v2 = plE S cs (egT S cs) := ⟨_, rfl⟩
            have HF := Lib.hid (F32.out wr g1 g2 HJ.out.t.bel (HTB.out wr HJ.out))
            rw [← hv2] at HF HP1 HP3
            clear hv2 F32
            have s0 := HJ.out.s.cell 0 rfl
            have s1 := HJ.out.s.cell 1 rfl
            have s2 := HJ.out.s.cell 2 rfl
            have s3 := HJ.out.s.cell 3 rfl
            have sl := HJ.out.s.lt
            have t0 := HJ.out.t.b.cell 0 rfl
            have t1 := HJ.out.t.b.cell 1 rfl
            have tl := HJ.out.t.b.lt
            go_wp2_with fail
            refine HF.out.mono ?_
            rintro e w5 ⟨rfl, hb⟩
            have HJ5 := Lib.hid (HJ.out.below hb)
            clear hb HF s0 s1 s2 s3 sl t0 t1 tl HJ
            have HB5 := Lib.hid HJ5.out.t.bel
            have XR5 := Lib.hid HJ5.out.r
            by_cases h2 : v2 = 0
            rotate_left
            · have hb2 : (v2 == 0) = false := by simpa using h2
              have EE := Lib.hid (HP3.out (by first | rfl | trivial) h2)
              have r0 := XR5.out.cell 0 rfl
              have r1 := XR5.out.cell 1 rfl
              have rz := XR5.out.free 0
              have rz1 := XR5.out.free 1
              have rl := XR5.out.lt
              have HF := Lib.hid (And.intro ((XR5.out.setCell 0 (.slice none 0 0)).setCell 1 (.slice none 0 0)) (((HB5.out.setCell (p := ⟨gr, 0, none⟩) HGR.out (.slice none 0 0)).setCell (p := ⟨gr, 1, none⟩) HGR.out (.slice none 0 0))))
              go_wp2_with fail
              have q0 := HF.out.1.cell 0 rfl
              have q1 := HF.out.1.cell 1 rfl
              exact bodyPost_ret (v := .tuple #[.agg #[.slice none 0 0, .slice none 0 0], .int .i64 18]) (by simp [results, Try.results43, go_sem, q0, q1]) rfl (EE.out _ HF.out.2)
            · subst h2
              have EE := Lib.hid (HP1.out (by first | rfl | trivial) (by first | rfl | trivial))
              have t0 := HJ5.out.t.b.cell 0 rfl
              have t1 := HJ5.out.t.b.cell 1 rfl
              have tl := HJ5.out.t.b.lt
              have r0 := XR5.out.cell 0 rfl
              have r1 := XR5.out.cell 1 rfl
              have rz := XR5.out.free 0
              have rz1 := XR5.out.free 1
              have rl := XR5.out.lt
              have rg := HJ5.out.rg.1
              have HF2 := Lib.hid (And.intro ((XR5.out.setCell 0 (.slice (some ⟨g1, 0, none⟩) m m)).setCell 1 (.slice (some ⟨g2, 0, none⟩) m m)) (And.intro ((HB5.out.setCell (p := ⟨gr, 0, none⟩) HGR.out (.slice (some ⟨g1, 0, none⟩) m m)).setCell (p := ⟨gr, 1, none⟩) HGR.out (.slice (some ⟨g2, 0, none⟩) m m)) (show TabAt ((w5.setCell ⟨gr, 0, none⟩ (.slice (some ⟨g1, 0, none⟩) m m)).setCell ⟨gr, 1, none⟩ (.slice (some ⟨g2, 0, none⟩) m m)) (some ⟨g1, 0, none⟩) (some ⟨g2, 0, none⟩) (egT S cs) from by
                have h := HJ5.out
                obtain ⟨ci, x1, x2⟩ := h.t.i.b
                obtain ⟨co, y1, y2⟩ := h.t.o.b
                have e1 := (h.t.i.other (p := ⟨gr, 0, none⟩) (fun e => blk_type_ne h.r x1 (by decide) e) (fun x hx e => blk_type_ne h.r (h.t.i.f x hx).1 (by decide) e) (.slice (some ⟨g1, 0, none⟩) m m)).other (p := ⟨gr, 1, none⟩) (fun e => blk_type_ne h.r x1 (by decide) e) (fun x hx e => blk_type_ne h.r (h.t.i.f x hx).1 (by decide) e) (.slice (some ⟨g2, 0, none⟩) m m)
                have e2 := (h.t.o.other (p := ⟨gr, 0, none⟩) (fun e => blk_type_ne h.r y1 (by decide) e) (fun x hx e => blk_type_ne h.r (h.t.o.f x hx).1 (by decide) e) (.slice (some ⟨g1, 0, none⟩) m m)).other (p := ⟨gr, 1, none⟩) (fun e => blk_type_ne h.r y1 (by decide) e) (fun x hx e => blk_type_ne h.r (h.t.o.f x hx).1 (by decide) e) (.slice (some ⟨g2, 0, none⟩) m m)
                unfold egT
                rw [← HN.out, ← HM.out]
                exact ⟨e1.rows (by omega), e2.rows (by omega)⟩)))
              clear HJ5 XR5 HB5
              go_wp2_with fail
              have q0 := HF2.out.1.cell 0 rfl
              have q1 := HF2.out.1.cell 1 rfl
              exact bodyPost_ret (v := .tuple #[.agg #[.slice (some ⟨g1, 0, none⟩) m m, .slice (some ⟨g2, 0, none⟩) m m], .int .i64 0]) (by simp [results, Try.results43, go_sem, q0, q1]) rfl (EE.out g1 g2 _ HF2.out.2.2 HF2.out.2.1)
end Go.Proofs.Ytmebpglkeedaoaa
namespace Go.Proofs.Ytmebpglkeedaoaa
open Go.RowKit Dp
theorem own_arcs {W : World} {D n cap : Nat} {A : Option Addr} {l : List Arc} (hA : W.ownsRow D 46 4 (.slice A n cap) n (flat arcV l)) (hn : n = l.length) : ArcsAt W A l ∧ n ≤ cap ∧ cap ≤ 9223372036854775807 := by
  refine ⟨fun i hi => ?_, ?_⟩
  · obtain ⟨g, c, hv, hb, hlt⟩ := hA.form (by omega)
    cases hv
    have hc : ∀ j, j < 4 → W.cell? ⟨g, i * 4 + j, none⟩ = (arcV (l.getD i default))[j]? := fun j hj => by
      rw [World.ownsRow.cellAt hA (i * 4 + j) (by omega)]
      exact flat_get (f := arcV) (s := 4) (fun _ => rfl) _ _ _ _ (getElem_D _ _ _ hi) hj
    have had : (⟨g, 0, none⟩ : Addr).add (i * 4) = ⟨g, i * 4, none⟩ := by unfold Addr.add; split <;> simp_all
    exact ⟨⟨g, 0, none⟩, rfl, hlt, by rw [had]; exact hc 0 (by omega), by rw [had]; exact hc 1 (by omega), by rw [had]; exact hc 2 (by omega), by rw [had]; exact hc 3 (by omega)⟩
  · rcases hA.2 with ⟨h0, h1⟩ | ⟨g', c', cur, hv, _, _, hc1, hc2, _⟩
    · cases h0
      simp
    · cases hv
      unfold maxLen at hc2
      omega
def nuN (S : Site) (cs : List Car) : Net := if stE S cs = 0 then ⟨supN S cs, carsA S cs cs.length⟩ else ⟨[], []⟩
def NetU (S : Site) (cs : List Car) (w : World) : Ending → World → Prop := fun e w' => ∃ (G A : Option Addr) (cG cA : Nat), e = .returned (.tuple #[.agg #[.slice G (nuN S cs).sup.length cG, .slice A (nuN S cs).arcs.length cA], .int .i64 (stE S cs)]) ∧ ((nuN S cs).sup.length ≤ cG ∧ cG ≤ 9223372036854775807) ∧ ((nuN S cs).arcs.length ≤ cA ∧ cA ≤ 9223372036854775807) ∧ NetAt w' G A (nuN S cs) ∧ Below w.heap.size w w'
theorem NetP.u {S : Site} {cs : List Car} {w w' : World} {e : Ending} (h : NetP S cs w e w') : NetU S cs w e w' := by
  rcases h with ⟨h0, gs, A, cap, rfl, h1, h2, _, h3⟩ | ⟨h0, rfl, h3⟩
  · have hb := nodes_bd h0
    obtain ⟨ha, hc1, hc2⟩ := own_arcs h2 rfl
    have hN : nuN S cs = ⟨supN S cs, carsA S cs cs.length⟩ := by unfold nuN; rw [if_pos h0]
    unfold NetU
    rw [hN, h0]
    simp only [supN_len]
    exact ⟨_, A, _, cap, rfl, ⟨Nat.le_refl _, by omega⟩, ⟨hc1, hc2⟩, ⟨h1.ints, ha⟩, h3⟩
  · have hN : nuN S cs = ⟨[], []⟩ := by unfold nuN; rw [if_neg h0]
    unfold NetU
    rw [hN]
    exact ⟨none, none, 0, 0, rfl, by simp, by simp, ⟨fun i hi => by simp at hi, fun i hi => by simp at hi⟩, h3⟩
def lvU (S : Site) (cs : List Car) (T : Tab) : List (List Int) := if plE S cs T = 0 then lvR cs T S.lim.length cs.length else []
def LevU (S : Site) (cs : List Car) (T : Tab) (w : World) : Ending → World → Prop := fun e w' => ∃ (A : Option Addr) (c : Nat), e = .returned (.tuple #[.slice A (lvU S cs T).length c, .int .i64 (plE S cs T)]) ∧ ((lvU S cs T).length ≤ c ∧ c ≤ 9223372036854775807) ∧ RowsAt w' A (lvU S cs T) ∧ Below w.heap.size w w'
theorem LevP.u {S : Site} {cs : List Car} {T : Tab} {w w' : World} {e : Ending} (h : LevP S cs T S.lim.length cs.length w e w') : LevU S cs T w e w' := by
  rcases h with ⟨hb, ⟨h0, v, vs, rfl, h1, h2⟩ | ⟨h0, rfl⟩⟩
  · obtain ⟨A, c, rfl, c1, c2, hr⟩ := rows_at h1 h2
    have hN : lvU S cs T = lvR cs T S.lim.length cs.length := by unfold lvU; rw [if_pos h0]
    unfold LevU
    rw [hN, h0, lvR_len]
    exact ⟨A, c, rfl, ⟨c1, c2⟩, hr, hb⟩
  · have hN : lvU S cs T = [] := by unfold lvU; rw [if_neg h0]
    unfold LevU
    rw [hN]
    exact ⟨none, 0, rfl, by simp, fun i hi => by simp at hi, hb⟩
def egU (S : Site) (cs : List Car) : Tab := if egE S cs = 0 then egT S cs else ⟨[], []⟩
def EgU (S : Site) (cs : List Car) (w : World) : Ending → World → Prop := fun e w' => ∃ (A B : Option Addr) (c d : Nat), e = .returned (.tuple #[.agg #[.slice A (egU S cs).inn.length c, .slice B (egU S cs).out.length d], .int .i64 (egE S cs)]) ∧ ((egU S cs).inn.length ≤ c ∧ c ≤ 9223372036854775807) ∧ ((egU S cs).out.length ≤ d ∧ d ≤ 9223372036854775807) ∧ TabAt w' A B (egU S cs) ∧ Below w.heap.size w w'
theorem EgP.u {S : Site} {cs : List Car} {w w' : World} {e : Ending} (h : EgP S cs w e w') : EgU S cs w e w' := by
  rcases h with ⟨h0, A, B, c, d, rfl, h1, h2, h3, h4⟩ | ⟨h0, rfl, h3⟩
  · have hN : egU S cs = egT S cs := by unfold egU; rw [if_pos h0]
    have l1 : (egT S cs).inn.length = cs.length := by simp [egT]
    have l2 : (egT S cs).out.length = cs.length := by simp [egT]
    unfold EgU
    rw [hN, h0, l1, l2]
    exact ⟨A, B, c, d, rfl, h2, h3, h1, h4⟩
  · have hN : egU S cs = ⟨[], []⟩ := by unfold egU; rw [if_neg h0]
    unfold EgU
    rw [hN]
    exact ⟨none, none, 0, 0, rfl, by simp, by simp, ⟨fun i hi => by simp at hi, fun i hi => by simp at hi⟩, h3⟩
end Go.Proofs.Ytmebpglkeedaoaa
namespace Go.Proofs.Ytmebpglkeedaoaa
open Go.RowKit Dp
def NetV (N : Net) (k l : Nat) (v : Int) (w : World) : Ending → World → Prop := fun e w' => ∃ (G A : Option Addr) (cG cA : Nat), e = .returned (.tuple #[.agg #[.slice G k cG, .slice A l cA], .int .i64 v]) ∧ (k ≤ cG ∧ cG ≤ 9223372036854775807) ∧ (l ≤ cA ∧ cA ≤ 9223372036854775807) ∧ NetAt w' G A N ∧ Below w.heap.size w w'
theorem NetP.v {S : Site} {cs : List Car} {w w' : World} {e : Ending} {N : Net} {k l : Nat} {v : Int} (hN : N = nuN S cs) (hk : k = N.sup.length) (hl : l = N.arcs.length) (hv : v = stE S cs) (h : NetP S cs w e w') : NetV N k l v w e w' := by
  subst hk hl hN hv
  exact NetP.u h
def LevV (R : List (List Int)) (k : Nat) (v : Int) (w : World) : Ending → World → Prop := fun e w' => ∃ (A : Option Addr) (c : Nat), e = .returned (.tuple #[.slice A k c, .int .i64 v]) ∧ (k ≤ c ∧ c ≤ 9223372036854775807) ∧ RowsAt w' A R ∧ Below w.heap.size w w'
theorem LevP.v {S : Site} {cs : List Car} {T : Tab} {n m : Nat} {w w' : World} {e : Ending} {R : List (List Int)} {k : Nat} {v : Int} (hn : n = S.lim.length) (hm : m = cs.length) (hR : R = lvU S cs T) (hk : k = R.length) (hv : v = plE S cs T) (h : LevP S cs T n m w e w') : LevV R k v w e w' := by
  subst hn hm hk hR hv
  exact LevP.u h
def EgV (T : Tab) (k l : Nat) (v : Int) (w : World) : Ending → World → Prop := fun e w' => ∃ (A B : Option Addr) (c d : Nat), e = .returned (.tuple #[.agg #[.slice A k c, .slice B l d], .int .i64 v]) ∧ (k ≤ c ∧ c ≤ 9223372036854775807) ∧ (l ≤ d ∧ d ≤ 9223372036854775807) ∧ TabAt w' A B T ∧ Below w.heap.size w w'
theorem EgP.v {S : Site} {cs : List Car} {w w' : World} {e : Ending} {T : Tab} {k l : Nat} {v : Int} (hT : T = egU S cs) (hk : k = T.inn.length) (hl : l = T.out.length) (hv : v = egE S cs) (h : EgP S cs w e w') : EgV T k l v w e w' := by
  subst hk hl hT hv
  exact EgP.u h
end Go.Proofs.Ytmebpglkeedaoaa
namespace Go.Proofs.Ytmebpglkeedaoaa
open Go.RowKit Dp
def BltV (N : Net) (k l : Nat) (w : World) : Ending → World → Prop := fun e w' => ∃ (b gs : Nat) (A : Option Addr) (c : Nat) (v2 v3 : Value), e = .returned (.pointer (some ⟨b, 0, none⟩)) ∧ Blk w' b 125 [.slice (some ⟨gs, 0, none⟩) k k, .slice A l c, v2, v3] ∧ NetAt w' (some ⟨gs, 0, none⟩) A N ∧ (l ≤ c ∧ c ≤ 9223372036854775807) ∧ Below w.heap.size w w'
theorem R76.v {S : Site} {cs : List Car} {w w' : World} {e : Ending} {N : Net} {k l : Nat} (hN : N = netN S cs) (hk : k = N.sup.length) (hl : l = N.arcs.length) (h : R76 S cs w e w') : BltV N k l w e w' := by
  subst hk hl hN
  obtain ⟨b, rfl, hb⟩ := h
  obtain ⟨gs, A, c, v2, v3, h1, h2, h3⟩ := NetIn.of_bld hb (Below.refl _ _)
  obtain ⟨ha, hc⟩ := own_arcs h1.2.1 rfl
  unfold BltV netN
  simp only [supN_len]
  exact ⟨b, gs, A, c, v2, v3, rfl, h2, ⟨h1.1.ints, ha⟩, hc, h3⟩
end Go.Proofs.Ytmebpglkeedaoaa
namespace Go.Proofs.Ytmebpglkeedaoaa
open Go.RowKit Dp
def NtV (N : Net) (k l : Nat) (w : World) : Ending → World → Prop := fun e w' => ∃ (gs : Nat) (A : Option Addr) (c : Nat), e = .returned (.agg #[.slice (some ⟨gs, 0, none⟩) k k, .slice A l c]) ∧ NetAt w' (some ⟨gs, 0, none⟩) A N ∧ (l ≤ c ∧ c ≤ 9223372036854775807) ∧ Below w.heap.size w w'
theorem R77.v {S : Site} {cs : List Car} {w w' : World} {e : Ending} {N : Net} {k l : Nat} (hN : N = netN S cs) (hk : k = N.sup.length) (hl : l = N.arcs.length) (h : R77 S cs w e w') : NtV N k l w e w' := by
  subst hk hl hN
  obtain ⟨gs, A, c, rfl, h1, h2, _, h3⟩ := h
  obtain ⟨ha, hc⟩ := own_arcs h2 rfl
  unfold NtV netN
  simp only [supN_len]
  exact ⟨gs, A, c, rfl, ⟨h1.ints, ha⟩, hc, h3⟩
end Go.Proofs.Ytmebpglkeedaoaa
namespace Go.Proofs.Ytmebpglkeedaoaa
open Go.RowKit Dp
def cpL (S : Site) (most : Int) (k : Nat) : List Int := (List.range k).map fun i => min (S.lim.getD i 0) most
theorem cpL_len (S : Site) (most : Int) (k : Nat) : (cpL S most k).length = k := by simp [cpL]
def cpS (S : Site) (most : Int) : Site := { S with lim := cpL S most S.lim.length }
end Go.Proofs.Ytmebpglkeedaoaa
namespace Go.Proofs.Ytmebpglkeedaoaa
open Go.RowKit Dp
theorem cpS_len (S : Site) (most : Int) : (cpS S most).lim.length = S.lim.length := by simp [cpS, cpL_len]
theorem cpL_get {S : Site} {most : Int} {k i : Nat} (hi : i < k) : (cpL S most k).getD i 0 = min (S.lim.getD i 0) most := by
  simp [cpL, List.getD_eq_getElem?_getD, hi]
theorem cpS_ok {S : Site} {cs : List Car} {most : Int} (h : stE S cs = 0) (h0 : 0 ≤ most) : stE (cpS S most) cs = 0 := by
  obtain ⟨a, b, c, d⟩ := stE_0 h
  have hl := cpS_len S most
  refine stE_ok (by omega) (siteHead_iff.2 ?_) ?_ ?_
  · have := siteHead_iff.1 b
    rw [hl]
    exact this
  · intro t ht
    rw [hl] at ht
    have h1 := slotOk_iff.1 (c t ht)
    refine slotOk_iff.2 ?_
    show (0 ≤ (cpL S most S.lim.length).getD t 0 ∧ (cpL S most S.lim.length).getD t 0 ≤ 1048576) ∧ _
    rw [cpL_get ht]
    exact ⟨by omega, h1.2⟩
  · intro i hi
    rw [hl]
    exact d i hi
theorem SiteAt.capped {w : World} {A B C D G : Option Addr} {S : Site} {most : Int} {n c lo : Nat} (h : SiteAt w A B C D S) (hn : n = S.lim.length) (hO : w.ownsRow lo 2 1 (.slice G n c) n ((cpL S most n).map (.int .i64))) : SiteAt w G B C D (cpS S most) := by
  refine ⟨fun i hi => ?_, h.2.1, h.2.2.1, h.2.2.2⟩
  have hl : i < n := by have : (cpL S most S.lim.length).length = S.lim.length := cpL_len _ _ _; have h2 : i < (cpL S most S.lim.length).length := hi; omega
  obtain ⟨g, cap, hv, hb, hlt⟩ := hO.form (by omega)
  cases hv
  refine ⟨⟨g, 0, none⟩, rfl, hlt, ?_⟩
  rw [show (⟨g, 0, none⟩ : Addr).add i = ⟨g, i, none⟩ from (by unfold Addr.add; split <;> simp_all), World.ownsRow.cellAt hO i (by omega)]
  subst hn
  have h2 : i < (cpL S most S.lim.length).length := hi
  show ((cpL S most S.lim.length).map (Value.int .i64))[i]? = some (.int .i64 ((cpL S most S.lim.length).getD i 0))
  rw [List.getElem?_map, List.getElem?_eq_getElem h2, List.getD_eq_getElem?_getD, List.getElem?_eq_getElem h2]
  rfl
end Go.Proofs.Ytmebpglkeedaoaa
