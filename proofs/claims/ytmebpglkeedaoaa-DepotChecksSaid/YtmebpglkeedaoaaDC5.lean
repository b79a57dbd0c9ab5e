/- Contracts that the claim leans on, part 5: T7c T7d T7 N6 T8c T8 T9 T10 N7 N8 N9 T11 N12 N13 C6 C7 C8 C9 C10 T14 -/
import Derived.Test.YtmebpglkeedaoaaDC4
import Derived.Deep.Cut
import Derived.Laws.StructEq
set_option linter.unusedVariables false
set_option linter.unusedSimpArgs false
set_option linter.unnecessarySimpa false
namespace Go.Proofs.Ytmebpglkeedaoaa
open Go.RowKit Dp
noncomputable def loop76 : Code := ((Try.f76.body.bind (blockOf 4)).getD .skip)
noncomputable def end76 : Code := ((Try.f76.body.bind (behind 4)).getD .skip)
def BuiJ (S : Site) (cs : List Car) (w : World) (gs gb M i : Nat) (W : World) : Prop := ∃ A cap AI AO ci co vi vo, BdJ w gs gb A cap AI AO ci co i vi vo (supC S cs M i) (carsA S cs i) W ∧ RowsF W S.lim.length W.heap.size vi (inR S cs) i ∧ RowsF W S.lim.length W.heap.size vo (outR S cs) i
theorem BuiJ.of {S : Site} {cs : List Car} {w W : World} {n G i gs gb gi go cap ci0 co0 ci co M : Nat} {A AI0 AO0 AI AO : Option Addr} {vi vo : List Value} (hn : n = S.lim.length)
    (h : BxJ w n G i gs gb gi go A cap (supC S cs M (i + 1)) (carsA S cs (i + 1)) (inR S cs) (outR S cs) AI0 AO0 ci0 co0 AI ci (i + 1) (vi ++ [.slice (some ⟨gi, 0, none⟩) n n]) AO co (i + 1) (vo ++ [.slice (some ⟨go, 0, none⟩) n n]) W) (hR : (inR S cs i).length = n ∧ (outR S cs i).length = n) (hG : G ≤ W.heap.size) :
    BuiJ S cs w gs gb M (i + 1) ((W.setCell ⟨gb, 2, none⟩ (.slice AI (i + 1) ci)).setCell ⟨gb, 3, none⟩ (.slice AO (i + 1) co)) := by
  obtain ⟨h1, h2, h3⟩ := h.done hR hG
  subst hn
  have hz : ((W.setCell ⟨gb, 2, none⟩ (.slice AI (i + 1) ci)).setCell ⟨gb, 3, none⟩ (.slice AO (i + 1) co)).heap.size = W.heap.size := by simp
  exact ⟨A, cap, AI, AO, ci, co, _, _, h1, by rw [hz]; exact h2, by rw [hz]; exact h3⟩
set_option maxRecDepth 100000 in
def CoK (K : Act → World → Prop) (gb : Nat) (P : World → Prop) : Prop := ∀ (y0 y1 y2 y3 y4 y5 y7 y8 y9 y10 y11 y12 y13 y14 y15 y16 y17 y18 y19 y20 y21 y22 y23 y24 y25 y26 y27 y28 y29 y30 y31 y32 y33 y34 y35 y36 y37 y38 y39 y40 y41 y42 y43 y44 y45 y46 y47 y48 y49 y50 y51 y52 y53 y54 y55 y56 y57 y58 y59 y60 y61 y62 y63 y64 y65 y66 y67 y68 y69 y70 y71 y72 y73 y74 y75 y76 y77 y78 y79 y80 y81 y82 y83 y84 y85 y86 y87 y88 y89 y90 y91 y92 y93 y94 y95 y96 y97 y98 y99 y100 y101 y102 y103 y104 y105 y106 y107 y108 y109 y110 y111 y112 y113 y114 y115 y116 y117 y118 y119 y120 y121 y122 y123 y124 y125 y126 y127 y128 y129 y130 y131 y132 y133 y134 y135 y136 y137 y138 y139 y140 y141 y142 y143 y144 y145 y146 y147 y148 y149 y150 y151 y152 y153 y154 y155 y156 y157 y158 y159 y160 y161 y162 y163 y164 y165 y166 y167 y168 y169 y170 y171 y172 y173 y174 y175 y176 y177 y178 y179 y180 y181 y182 y183 y184 y185 y186 y187 y188 y189 y190 y191 y192 y193 y194 y195 y196 y197 y198 y199 y200 y201 y202 y203 y204 y205 y206 y207 y208 y209 y210 y211 y212 y213 y214 y215 y216 y217 y218 y219 y220 y221 y222 y223 y224 y225 y226 y227 y228 y229 y230 y231 y232 y233 y234 y235 y236 y237 y238 y239 y240 y241 y242 y243 y244 y245 y246 y247 y248 y249 y250 y251 y252 : Value) w', P w' → K { tmps := List.toArray (y0 :: y1 :: y2 :: y3 :: y4 :: y5 :: (.pointer (some ⟨gb, 0, none⟩) : Value) :: y7 :: y8 :: y9 :: y10 :: y11 :: y12 :: y13 :: y14 :: y15 :: y16 :: y17 :: y18 :: y19 :: y20 :: y21 :: y22 :: y23 :: y24 :: y25 :: y26 :: y27 :: y28 :: y29 :: y30 :: y31 :: y32 :: y33 :: y34 :: y35 :: y36 :: y37 :: y38 :: y39 :: y40 :: y41 :: y42 :: y43 :: y44 :: y45 :: y46 :: y47 :: y48 :: y49 :: y50 :: y51 :: y52 :: y53 :: y54 :: y55 :: y56 :: y57 :: y58 :: y59 :: y60 :: y61 :: y62 :: y63 :: y64 :: y65 :: y66 :: y67 :: y68 :: y69 :: y70 :: y71 :: y72 :: y73 :: y74 :: y75 :: y76 :: y77 :: y78 :: y79 :: y80 :: y81 :: y82 :: y83 :: y84 :: y85 :: y86 :: y87 :: y88 :: y89 :: y90 :: y91 :: y92 :: y93 :: y94 :: y95 :: y96 :: y97 :: y98 :: y99 :: y100 :: y101 :: y102 :: y103 :: y104 :: y105 :: y106 :: y107 :: y108 :: y109 :: y110 :: y111 :: y112 :: y113 :: y114 :: y115 :: y116 :: y117 :: y118 :: y119 :: y120 :: y121 :: y122 :: y123 :: y124 :: y125 :: y126 :: y127 :: y128 :: y129 :: y130 :: y131 :: y132 :: y133 :: y134 :: y135 :: y136 :: y137 :: y138 :: y139 :: y140 :: y141 :: y142 :: y143 :: y144 :: y145 :: y146 :: y147 :: y148 :: y149 :: y150 :: y151 :: y152 :: y153 :: y154 :: y155 :: y156 :: y157 :: y158 :: y159 :: y160 :: y161 :: y162 :: y163 :: y164 :: y165 :: y166 :: y167 :: y168 :: y169 :: y170 :: y171 :: y172 :: y173 :: y174 :: y175 :: y176 :: y177 :: y178 :: y179 :: y180 :: y181 :: y182 :: y183 :: y184 :: y185 :: y186 :: y187 :: y188 :: y189 :: y190 :: y191 :: y192 :: y193 :: y194 :: y195 :: y196 :: y197 :: y198 :: y199 :: y200 :: y201 :: y202 :: y203 :: y204 :: y205 :: y206 :: y207 :: y208 :: y209 :: y210 :: y211 :: y212 :: y213 :: y214 :: y215 :: y216 :: y217 :: y218 :: y219 :: y220 :: y221 :: y222 :: y223 :: y224 :: y225 :: y226 :: y227 :: y228 :: y229 :: y230 :: y231 :: y232 :: y233 :: y234 :: y235 :: y236 :: y237 :: y238 :: y239 :: y240 :: y241 :: y242 :: y243 :: y244 :: y245 :: y246 :: y247 :: y248 :: y249 :: y250 :: y251 :: y252 :: []), defers := [] } w'
theorem awayC_mk (cap inn out start fin : Int) (trips : List Trip) (k : Nat) : awayC ⟨cap, inn, out, start, fin, trips⟩ k = awayP trips k trips.length := rfl
theorem useC_mk (cap inn out start fin : Int) (trips : List Trip) (k : Nat) : useC ⟨cap, inn, out, start, fin, trips⟩ k = useP trips k trips.length := rfl
set_option maxHeartbeats 16000000 in
set_option maxRecDepth 100000 in
theorem bld4 (S : Site) (cs : List Car) (E : Option Addr) (n m cE gs gb M : Nat) (w W0 : World) (h0 : stE S cs = 0) (hn : n = S.lim.length) (hm : m = cs.length) (hM : M = nodesN S cs) (hE : m ≤ cE ∧ cE ≤ 9223372036854775807) (hcs : CarsAt w E cs) (hJ : BuiJ S cs w gs gb M 0 W0)
    {K : Act → World → Prop} {R : Ending → World → Prop} (hR : CoK K gb (BuiJ S cs w gs gb M m)) {x0 x2 x3 x4 x7 x8 x10 x11 x12 x13 x14 x15 x16 x17 x18 x19 x20 x21 x22 x23 x24 x25 x26 x27 x28 x29 x30 x31 x32 x33 x34 x35 x36 x37 x38 x39 x40 x41 x42 x43 x44 x45 x46 x47 x48 x49 x50 x51 x52 x53 x54 x55 x56 x57 x58 x59 x60 x61 x62 x63 x64 x65 x66 x67 x68 x69 x70 x71 x72 x73 x74 x75 x76 x77 x78 x79 x83 x84 x85 x86 x87 x88 x89 x90 x91 x92 x93 x94 x95 x96 x97 x98 x99 x100 x101 x102 x103 x104 x105 x106 x107 x108 x109 x110 x111 x112 x113 x114 x115 x116 x117 x118 x119 x120 x121 x122 x123 x124 x125 x126 x127 x128 x129 x130 x131 x132 x133 x134 x135 x136 x137 x138 x139 x140 x141 x142 x143 x144 x145 x146 x147 x148 x149 x150 x151 x152 x153 x154 x155 x156 x157 x158 x159 x160 x161 x162 x163 x164 x165 x166 x167 x168 x169 x170 x171 x172 x173 x174 x175 x176 x177 x178 x179 x180 x181 x182 x183 x184 x185 x186 x187 x188 x189 x190 x191 x192 x193 x194 x195 x196 x197 x198 x199 x200 x201 x202 x203 x204 x205 x206 x207 x208 x209 x210 x211 x212 x213 x214 x215 x216 x217 x218 x219 x220 x221 x222 x223 x224 x225 x226 x227 x228 x229 x230 x231 x232 x233 x234 x235 x236 x237 x238 x239 x240 x241 x242 x243 x244 x245 x246 x247 x248 x249 x250 x251 x252 : Value} :
    Code.wp Try.prog loop76 (Exit.inBlock 4 (Exit.then K (bodyPost Try.prog Try.f76 R))) { tmps := List.toArray (x0 :: (.slice E m cE : Value) :: x2 :: x3 :: x4 :: (.int .i64 n : Value) :: (.pointer (some ⟨gb, 0, none⟩) : Value) :: x7 :: x8 :: (.int .i64 ((nodeF n 0 0 : Nat) : Int) : Value) :: x10 :: x11 :: x12 :: x13 :: x14 :: x15 :: x16 :: x17 :: x18 :: x19 :: x20 :: x21 :: x22 :: x23 :: x24 :: x25 :: x26 :: x27 :: x28 :: x29 :: x30 :: x31 :: x32 :: x33 :: x34 :: x35 :: x36 :: x37 :: x38 :: x39 :: x40 :: x41 :: x42 :: x43 :: x44 :: x45 :: x46 :: x47 :: x48 :: x49 :: x50 :: x51 :: x52 :: x53 :: x54 :: x55 :: x56 :: x57 :: x58 :: x59 :: x60 :: x61 :: x62 :: x63 :: x64 :: x65 :: x66 :: x67 :: x68 :: x69 :: x70 :: x71 :: x72 :: x73 :: x74 :: x75 :: x76 :: x77 :: x78 :: x79 :: (.slice E m cE : Value) :: (.int .i64 m : Value) :: (.int .i64 0 : Value) :: x83 :: x84 :: x85 :: x86 :: x87 :: x88 :: x89 :: x90 :: x91 :: x92 :: x93 :: x94 :: x95 :: x96 :: x97 :: x98 :: x99 :: x100 :: x101 :: x102 :: x103 :: x104 :: x105 :: x106 :: x107 :: x108 :: x109 :: x110 :: x111 :: x112 :: x113 :: x114 :: x115 :: x116 :: x117 :: x118 :: x119 :: x120 :: x121 :: x122 :: x123 :: x124 :: x125 :: x126 :: x127 :: x128 :: x129 :: x130 :: x131 :: x132 :: x133 :: x134 :: x135 :: x136 :: x137 :: x138 :: x139 :: x140 :: x141 :: x142 :: x143 :: x144 :: x145 :: x146 :: x147 :: x148 :: x149 :: x150 :: x151 :: x152 :: x153 :: x154 :: x155 :: x156 :: x157 :: x158 :: x159 :: x160 :: x161 :: x162 :: x163 :: x164 :: x165 :: x166 :: x167 :: x168 :: x169 :: x170 :: x171 :: x172 :: x173 :: x174 :: x175 :: x176 :: x177 :: x178 :: x179 :: x180 :: x181 :: x182 :: x183 :: x184 :: x185 :: x186 :: x187 :: x188 :: x189 :: x190 :: x191 :: x192 :: x193 :: x194 :: x195 :: x196 :: x197 :: x198 :: x199 :: x200 :: x201 :: x202 :: x203 :: x204 :: x205 :: x206 :: x207 :: x208 :: x209 :: x210 :: x211 :: x212 :: x213 :: x214 :: x215 :: x216 :: x217 :: x218 :: x219 :: x220 :: x221 :: x222 :: x223 :: x224 :: x225 :: x226 :: x227 :: x228 :: x229 :: x230 :: x231 :: x232 :: x233 :: x234 :: x235 :: x236 :: x237 :: x238 :: x239 :: x240 :: x241 :: x242 :: x243 :: x244 :: x245 :: x246 :: x247 :: x248 :: x249 :: x250 :: x251 :: x252 :: []), defers := [] } W0 := by
  have H0 := Lib.hid h0
  have HN := Lib.hid hn
  have HM := Lib.hid hm
  have HMM := Lib.hid hM
  have HCS := Lib.hid hcs
  have HJ0 := Lib.hid hJ
  have HR := Lib.hid hR
  have h48 : n ≤ 48 := by have h3 := (siteHead_iff.1 (stE_0 h0).2.1).1; omega
  have h1n : 1 ≤ n := by have h3 := (siteHead_iff.1 (stE_0 h0).2.1).1; omega
  have hM2 : M ≤ 833 := by have := (nodes_bd h0).1; omega
  have hmk := make_int n (by omega)
  clear h0 hn hm hM hcs hJ hR
  conv => arg 2; whnf
  go_loopw [9, 82] (fun av iv wr => ∃ i : Nat, i ≤ m ∧ iv = .int .i64 i ∧ av = .int .i64 ((nodeF n i 0 : Nat) : Int) ∧ Hid (BuiJ S cs w gs gb M i wr)) (fun _ iv _ => m - (intOf iv).toNat)
  case atStart => exact ⟨0, Nat.zero_le _, rfl, rfl, HJ0⟩
  case round =>
    obtain ⟨i, hi, rfl, rfl, HJ⟩ := hrel
    by_cases hlt : i < m
    · have hii : (i : Int) < (m : Int) := by omega
      have il : i < cs.length := by rw [← HM.out]; exact hlt
      obtain ⟨A, cap0, AI, AO, ci, co, vi, vo, hj1, hj2, hj3⟩ := HJ.out
      have HBD := Lib.hid hj1
      rw [← HN.out] at hj2 hj3
      have HRI := Lib.hid hj2
      have HRO := Lib.hid hj3
      clear hj1 hj2 hj3 HJ
      have HOK := Lib.hid (carok_of H0.out il)
      have HBDS := Lib.hid (fun k (hk : k ≤ S.lim.length) => (And.intro (arcsAt_bd H0.out il hk) (node_lt (k := k) il hk)))
      rw [← HN.out] at HBDS HOK
      rw [← HMM.out] at HBDS
      have PS0 := Lib.hid (And.intro (supC_len S cs (M := M) (i := i) (by have := (HBDS.out 0 (by omega)).2; rw [← HN.out]; omega)) (And.intro (supC_get S cs (M := M) (i := i) (by have := (HBDS.out 0 (by omega)).2; rw [← HN.out]; omega)) (supC_start S cs (M := M) (i := i) (by have := (HBDS.out 0 (by omega)).2; rw [← HN.out]; omega))))
      have PSK := Lib.hid (fun k (hk : k ≤ n) => And.intro (supK_len S cs (M := M) (i := i) (k := k) (by have := (HBDS.out k hk).2; rw [← HN.out]; omega)) (And.intro (supK_get S cs (M := M) (i := i) (k := k) (by have := (HBDS.out k hk).2; rw [← HN.out]; omega)) (supK_set S cs (M := M) (i := i) (k := k) (by have := (HBDS.out k hk).2; rw [← HN.out]; omega))))
      have PSL := Lib.hid (supK_last S cs (M := M) (i := i) (by rw [← HN.out]; omega) (by have := (HBDS.out n (Nat.le_refl _)).2; rw [← HN.out]; omega))
      have PA0 := Lib.hid (arcsAt_zero S cs i)
      have PAK := Lib.hid (fun k => arcsAt_succ S cs i k)
      have PAL := Lib.hid (arcsAt_last S cs i)
      have PNX := Lib.hid (And.intro (nodeF_next n i) (fun k => nodeF_k n i k))
      have PIX := Lib.hid (fun k => (And.intro (show inX S cs i k = if awayC (cs.getD i default) k = true then -1 else ((arcsAt S cs i k).length : Int) + 2 from rfl) (show outX S cs i k = if awayC (cs.getD i default) k = true then -1 else ((arcsAt S cs i k).length : Int) + 3 from rfl)))
      have PRI : Hid (inR S cs i = rowK (inX S cs i) n n ∧ outR S cs i = rowK (outX S cs i) n n) := Lib.hid (by rw [HN.out]; exact ⟨rfl, rfl⟩)
      rw [← HN.out] at PS0 PSL PAL
      simp only [← HN.out] at PSK PAK
      have PU := Lib.hid (fun k => useC_bd HOK.out k)
      obtain ⟨ad, hE2, abl, c0, c1, c2, c3, c4, TT, cT, c5, hcT, HTT⟩ := HCS.out i il
      have hbl : (ad.add (i * 6)).block < w.heap.size := by rw [block_add]; exact abl
      replace c0 := (HBD.out.bel.cell hbl).trans c0
      replace c1 := (HBD.out.bel.cell (p := ⟨_, _, none⟩) hbl).trans c1
      replace c2 := (HBD.out.bel.cell (p := ⟨_, _, none⟩) hbl).trans c2
      replace c3 := (HBD.out.bel.cell (p := ⟨_, _, none⟩) hbl).trans c3
      replace c4 := (HBD.out.bel.cell (p := ⟨_, _, none⟩) hbl).trans c4
      replace c5 := (HBD.out.bel.cell (p := ⟨_, _, none⟩) hbl).trans c5
      clear hbl
      subst hE2
      have HTR := Lib.hid HTT
      clear HTT
      have HCO := Lib.hid (carOk_iff.1 HOK.out).1
      generalize hcc : cs.getD i default = c at *
      clear hcc
      obtain ⟨cap, inn, out, start, fin, trips⟩ := c
      simp only at c0 c1 c2 c3 c4 c5 hcT HTR HCO PS0 PSL
      obtain ⟨qn, hqn⟩ : ∃ qn, qn = trips.length := ⟨_, rfl⟩
      rw [← hqn] at c5 hcT
      have HQN := Lib.hid hqn
      clear hqn
      go_upto_region 17 with fail
      have al := (Below.refl wr.heap.size wr).alloc (Nat.le_refl _) (.cells #[.int .i64 cap, .int .i64 inn, .int .i64 out, .int .i64 start, .int .i64 fin, .slice TT qn cT] 63)
      have HBD1 := Lib.hid (HBD.out.below al)
      have HRI1 := Lib.hid (HRI.out.below al)
      have HRO1 := Lib.hid (HRO.out.below al)
      have XC := Lib.hid (Blk.new' wr #[.int .i64 cap, .int .i64 inn, .int .i64 out, .int .i64 start, .int .i64 fin, .slice TT qn cT] 63)
      have HG : Hid (wr.heap.size ≤ (wr.alloc (.cells #[.int .i64 cap, .int .i64 inn, .int .i64 out, .int .i64 start, .int .i64 fin, .slice TT qn cT] 63)).heap.size) := Lib.hid al.size
      have hG0 : w.heap.size ≤ wr.heap.size := HBD.out.bel.size
      clear c0 c1 c2 c3 c4 c5 abl al HBD HRI HRO
      generalize wr.alloc (.cells #[.int .i64 cap, .int .i64 inn, .int .i64 out, .int .i64 start, .int .i64 fin, .slice TT qn cT] 63) = wx at HBD1 HRI1 HRO1 XC HG ⊢
      have HGC : Hid (∃ gc, gc = wr.heap.size) := Lib.hid ⟨_, rfl⟩
      generalize wr.heap.size = G at *
      obtain ⟨gc, hgc⟩ : ∃ gc, gc = G := ⟨_, rfl⟩
      rw [← hgc] at XC ⊢
      clear hgc
      clear HGC
      have HT := Lib.hid (Below.refl wx.heap.size wx).drew
      go_cut [12, 13] from 86 to 89 (fun g1 g2 wc => ∃ gi go : Nat, g1 = .slice (some ⟨gi, 0, none⟩) n n ∧ g2 = .slice (some ⟨go, 0, none⟩) n n ∧ Hid (BkJ w n G i gs gb gi go gc AI AO ci co vi vo (inR S cs) (outR S cs) [.int .i64 cap, .int .i64 inn, .int .i64 out, .int .i64 start, .int .i64 fin, .slice TT qn cT] A cap0 (supC S cs M i) (carsA S cs i) (List.replicate n 0) (List.replicate n 0) wc ∧ Below wx.heap.size wx wc))
      case first =>
        refine lBegin (S := fun _ W => (True)) (by kernel_rfl) ?_ (fun hHeld => ?_)
        · trivial
        refine lTake (i := 0) (v := ?_) rfl (by kernel_rfl) (by kernel_rfl) (by kernel_rfl) (fun _ _ _ h => h) (by rfl) (fun _ _ h => h) (fun _ _ h => h) ?_ (by assumption) (fun hHeld2 => ?_)
        rotate_left 1
        · (intro _ _ _ _ _; first | (go_simp; done) | (go_simp; with_reducible rfl))
        clear hHeld; have hHeld := hHeld2; clear hHeld2
        (try simp only [Act.put, List.setIfInBounds_toArray, List.set_cons_zero, List.set_cons_succ])
        refine lTake (i := 2) (v := ?_) rfl (by kernel_rfl) (by kernel_rfl) (by kernel_rfl) (fun _ _ _ h => h) (by rfl) (fun _ _ h => h) (fun _ _ h => h) ?_ (by assumption) (fun hHeld2 => ?_)
        rotate_left 1
        · (intro _ _ _ _ _; first | (go_simp; done) | (go_simp; with_reducible rfl))
        clear hHeld; have hHeld := hHeld2; clear hHeld2
        (try simp only [Act.put, List.setIfInBounds_toArray, List.set_cons_zero, List.set_cons_succ])
        refine lReady (rs := [1, 3]) (by kernel_rfl) (by simp) ?_
        refine AllL.cons (i := 1) rfl (fun K hK => ?_) ?_
        · refine step_new (.cells (Array.replicate n (.int .i64 0)) 3) (fun g => .slice (some ⟨g, 0, none⟩) n n) rfl (by unfold execOp; simp [hmk, go_sem]) ?_; intro gi w6 z6 hc6 hb6; (try have HNE := Lib.hid (show gi ≠ go from by have := HFgo.out.lt; omega)); (try have HFgo := Lib.hid (Fl.below HFgo.out hb6)); have HFgi := Lib.hid (show Fl 3 w6 gi (List.replicate n 0) from by unfold Fl Blk; rw [hc6]; simp); have HGgi := Lib.hid (show wx.heap.size ≤ gi from Nat.le_trans HT.out.size z6); have HT := Lib.hid (HT.out.trans (hb6.mono HT.out.size)); clear hb6 hc6 z6
          (try go_wp2_with fail)
          refine hK.out _ _ ?_ (fun hHeld2 => ?_)
          · trivial
          clear hK K
          clear hHeld; have hHeld := hHeld2; clear hHeld2
          (try simp only [Act.put, List.setIfInBounds_toArray, List.set_cons_zero, List.set_cons_succ])
          refine lTake (i := 4) (v := ?_) rfl (by kernel_rfl) (by kernel_rfl) (by kernel_rfl) (fun _ _ _ h => h) (by rfl) (fun _ _ h => h) (fun _ _ h => h) ?_ (by assumption) (fun hHeld2 => ?_)
          rotate_left 1
          · (intro _ _ _ _ _; first | (go_simp; done) | (go_simp; with_reducible rfl))
          clear hHeld; have hHeld := hHeld2; clear hHeld2
          (try simp only [Act.put, List.setIfInBounds_toArray, List.set_cons_zero, List.set_cons_succ])
          refine lReady (rs := [3]) (by kernel_rfl) (by simp) ?_
          refine AllL.cons (i := 3) rfl (fun K hK => ?_) ?_
          · refine step_new (.cells (Array.replicate n (.int .i64 0)) 3) (fun g => .slice (some ⟨g, 0, none⟩) n n) rfl (by unfold execOp; simp [hmk, go_sem]) ?_; intro go w7 z6 hc6 hb6; (try have HNE := Lib.hid (show gi ≠ go from by have := HFgi.out.lt; omega)); (try have HFgi := Lib.hid (Fl.below HFgi.out hb6)); have HFgo := Lib.hid (show Fl 3 w7 go (List.replicate n 0) from by unfold Fl Blk; rw [hc6]; simp); have HGgo := Lib.hid (show wx.heap.size ≤ go from Nat.le_trans HT.out.size z6); have HT := Lib.hid (HT.out.trans (hb6.mono HT.out.size)); clear hb6 hc6 z6
            (try go_wp2_with fail)
            refine hK.out _ _ ?_ (fun hHeld2 => ?_)
            · trivial
            clear hK K
            clear hHeld; have hHeld := hHeld2; clear hHeld2
            (try simp only [Act.put, List.setIfInBounds_toArray, List.set_cons_zero, List.set_cons_succ])
            refine lTake (i := 5) (v := ?_) rfl (by kernel_rfl) (by kernel_rfl) (by kernel_rfl) (fun _ _ _ h => h) (by rfl) (fun _ _ h => h) (fun _ _ h => h) ?_ (by assumption) (fun hHeld2 => ?_)
            rotate_left 1
            · (intro _ _ _ _ _; first | (go_simp; done) | (go_simp; with_reducible rfl))
            clear hHeld; have hHeld := hHeld2; clear hHeld2
            (try simp only [Act.put, List.setIfInBounds_toArray, List.set_cons_zero, List.set_cons_succ])
            refine lDone (by kernel_rfl) ?_ _
            go_wp2_with fail
            go_meet
            case rel => exact ⟨gi, go, rfl, rfl, Lib.hid ⟨⟨HBD1.out.below HT.out, HFgi.out, HFgo.out, HNE.out, ⟨⟨by have := HGgi.out; have := HG.out; omega, by have := HGgo.out; have := HG.out; omega⟩, ⟨by have := HGgi.out; have := HG.out; omega, by have := HGgo.out; have := HG.out; omega⟩⟩, HRI1.out.below HT.out, HRO1.out.below HT.out, XC.out.below HT.out XC.out.lt⟩, HT.out⟩⟩
          exact AllL.nil
        refine AllL.cons (i := 3) rfl (fun K hK => ?_) ?_
        · refine step_new (.cells (Array.replicate n (.int .i64 0)) 3) (fun g => .slice (some ⟨g, 0, none⟩) n n) rfl (by unfold execOp; simp [hmk, go_sem]) ?_; intro go w7 z6 hc6 hb6; (try have HNE := Lib.hid (show gi ≠ go from by have := HFgi.out.lt; omega)); (try have HFgi := Lib.hid (Fl.below HFgi.out hb6)); have HFgo := Lib.hid (show Fl 3 w7 go (List.replicate n 0) from by unfold Fl Blk; rw [hc6]; simp); have HGgo := Lib.hid (show wx.heap.size ≤ go from Nat.le_trans HT.out.size z6); have HT := Lib.hid (HT.out.trans (hb6.mono HT.out.size)); clear hb6 hc6 z6
          (try go_wp2_with fail)
          refine hK.out _ _ ?_ (fun hHeld2 => ?_)
          · trivial
          clear hK K
          clear hHeld; have hHeld := hHeld2; clear hHeld2
          (try simp only [Act.put, List.setIfInBounds_toArray, List.set_cons_zero, List.set_cons_succ])
          refine lReady (rs := [1]) (by kernel_rfl) (by simp) ?_
          refine AllL.cons (i := 1) rfl (fun K hK => ?_) ?_
          · refine step_new (.cells (Array.replicate n (.int .i64 0)) 3) (fun g => .slice (some ⟨g, 0, none⟩) n n) rfl (by unfold execOp; simp [hmk, go_sem]) ?_; intro gi w6 z6 hc6 hb6; (try have HNE := Lib.hid (show gi ≠ go from by have := HFgo.out.lt; omega)); (try have HFgo := Lib.hid (Fl.below HFgo.out hb6)); have HFgi := Lib.hid (show Fl 3 w6 gi (List.replicate n 0) from by unfold Fl Blk; rw [hc6]; simp); have HGgi := Lib.hid (show wx.heap.size ≤ gi from Nat.le_trans HT.out.size z6); have HT := Lib.hid (HT.out.trans (hb6.mono HT.out.size)); clear hb6 hc6 z6
            (try go_wp2_with fail)
            refine hK.out _ _ ?_ (fun hHeld2 => ?_)
            · trivial
            clear hK K
            clear hHeld; have hHeld := hHeld2; clear hHeld2
            (try simp only [Act.put, List.setIfInBounds_toArray, List.set_cons_zero, List.set_cons_succ])
            refine lTake (i := 4) (v := ?_) rfl (by kernel_rfl) (by kernel_rfl) (by kernel_rfl) (fun _ _ _ h => h) (by rfl) (fun _ _ h => h) (fun _ _ h => h) ?_ (by assumption) (fun hHeld2 => ?_)
            rotate_left 1
            · (intro _ _ _ _ _; first | (go_simp; done) | (go_simp; with_reducible rfl))
            clear hHeld; have hHeld := hHeld2; clear hHeld2
            (try simp only [Act.put, List.setIfInBounds_toArray, List.set_cons_zero, List.set_cons_succ])
            refine lTake (i := 5) (v := ?_) rfl (by kernel_rfl) (by kernel_rfl) (by kernel_rfl) (fun _ _ _ h => h) (by rfl) (fun _ _ h => h) (fun _ _ h => h) ?_ (by assumption) (fun hHeld2 => ?_)
            rotate_left 1
            · (intro _ _ _ _ _; first | (go_simp; done) | (go_simp; with_reducible rfl))
            clear hHeld; have hHeld := hHeld2; clear hHeld2
            (try simp only [Act.put, List.setIfInBounds_toArray, List.set_cons_zero, List.set_cons_succ])
            refine lDone (by kernel_rfl) ?_ _
            go_wp2_with fail
            go_meet
            case rel => exact ⟨gi, go, rfl, rfl, Lib.hid ⟨⟨HBD1.out.below HT.out, HFgi.out, HFgo.out, HNE.out, ⟨⟨by have := HGgi.out; have := HG.out; omega, by have := HGgo.out; have := HG.out; omega⟩, ⟨by have := HGgi.out; have := HG.out; omega, by have := HGgo.out; have := HG.out; omega⟩⟩, HRI1.out.below HT.out, HRO1.out.below HT.out, XC.out.below HT.out XC.out.lt⟩, HT.out⟩⟩
          exact AllL.nil
        exact AllL.nil
      case rest =>
        clear HT
        obtain ⟨gi, go, rfl, rfl, HJ⟩ := hcut
        have HK := Lib.hid HJ.out.1
        clear HJ HBD1 HRI1 HRO1 HG XC
        have hMl : nodeF n i 0 < M := by have := (HBDS.out 0 (by omega)).2; omega
        have hMi : ((nodeF n i 0 : Nat) : Int) < (M : Int) := by omega
        have hMz : (0 : Int) ≤ ((nodeF n i 0 : Nat) : Int) := by omega
        have b0 := HK.out.d.b.cell 0 rfl
        rw [PS0.out.1] at b0
        have bl := HK.out.d.b.lt
        have s0 := HK.out.d.s.cell (nodeF n i 0) (by rw [PS0.out.1]; exact hMl)
        rw [PS0.out.2.1] at s0
        have sz := HK.out.d.s.free (nodeF n i 0)
        have sl := HK.out.d.s.lt
        have k3 := HK.out.car.cell 3 rfl
        have kl := HK.out.car.lt
        have w0e : IntKind.i64.wrap (0 + start) = start := by rw [Int.zero_add]; exact IntWalk.i64_in _ (by have := HCO.out; omega)
        have w0f : IntKind.i64.wrap start = start := IntWalk.i64_in _ (by have := HCO.out; omega)
        go_upto_region 18 with fail
        refine wp_region_head 11 ?af18 (by kernel_rfl) (by kernel_rfl) ?walk18 ?tail18
        case walk18 =>
          intro V hV
          have b0 := (hV.cell (p := ⟨gb, 0, none⟩) bl).trans b0
          have s0 := (hV.cell (p := ⟨gs, nodeF n i 0, none⟩) sl).trans s0
          have k3 := (hV.cell (p := ⟨gc, 3, none⟩) kl).trans k3
          have bl := Nat.lt_of_lt_of_le bl hV.size
          have sl := Nat.lt_of_lt_of_le sl hV.size
          have kl := Nat.lt_of_lt_of_le kl hV.size
          clear hV
          simp only [List.take_succ_cons, List.take_zero]
          repeat (go_big_quiet_step (fail))
          refine wpQuiet_nil ?_
          rfl
        case tail18 =>
          intro w2 hb2
          have HK2 := Lib.hid (HK.out.below hb2)
          clear hb2 b0 s0 sz k3 bl sl kl HK
          have s0 := HK2.out.d.s.cell (nodeF n i 0) (by rw [PS0.out.1]; exact hMl)
          have sz := HK2.out.d.s.free (nodeF n i 0)
          have sl := HK2.out.d.s.lt
          have HK3 := Lib.hid (HK2.out.set (nodeF n i 0) start)
          rw [PS0.out.2.2] at HK3
          simp only [List.drop_succ_cons, List.drop_zero]
          go_upto_region 19 with fail
          generalize w2.setCell ⟨gs, nodeF n i 0, none⟩ (.int .i64 start) = w3 at HK3 ⊢
          go_wp2_with fail
          have HK0 : Hid (BkJ w n G i gs gb gi go gc AI AO ci co vi vo (inR S cs) (outR S cs) [.int .i64 cap, .int .i64 inn, .int .i64 out, .int .i64 start, .int .i64 fin, .slice TT qn cT] A cap0 (supK S cs M i 0) (arcsAt S cs i 0) (rowK (inX S cs i) n 0) (rowK (outX S cs i) n 0) w3) := Lib.hid (by rw [PA0.out, rowK_zero, rowK_zero]; exact HK3.out)
          clear HK3 s0 sz sl HK2
          go_loopw [9, 103] (fun av kv wr => ∃ k : Nat, k ≤ n ∧ kv = .int .i64 k ∧ av = .int .i64 ((nodeF n i k : Nat) : Int) ∧ Hid (∃ A cp, BkJ w n G i gs gb gi go gc AI AO ci co vi vo (inR S cs) (outR S cs) [.int .i64 cap, .int .i64 inn, .int .i64 out, .int .i64 start, .int .i64 fin, .slice TT qn cT] A cp (supK S cs M i k) (arcsAt S cs i k) (rowK (inX S cs i) n k) (rowK (outX S cs i) n k) wr)) (fun _ kv _ => n - (intOf kv).toNat)
          case atStart => exact ⟨0, Nat.zero_le _, rfl, rfl, Lib.hid ⟨_, _, HK0.out⟩⟩
          case round =>
            clear HK0
            obtain ⟨k, hk, rfl, rfl, HJ⟩ := hrel
            obtain ⟨A1, cap1, hj⟩ := HJ.out
            have HK := Lib.hid hj
            clear hj HJ
            have aM : nodeF n i k + 1 < M := (HBDS.out k hk).2
            have al0 := (HBDS.out k hk).1
            by_cases hlt2 : k < n
            · have hki : (k : Int) < (n : Int) := by omega
              obtain ⟨u, hu⟩ : ∃ u, u = useC ⟨cap, inn, out, start, fin, trips⟩ k := ⟨_, rfl⟩
              obtain ⟨aw, haw⟩ : ∃ aw, aw = awayC ⟨cap, inn, out, start, fin, trips⟩ k := ⟨_, rfl⟩
              have HTC : Hid (∀ V, Below w.heap.size w V → Calls Try.prog 87 #[.agg #[.int .i64 cap, .int .i64 inn, .int .i64 out, .int .i64 start, .int .i64 fin, .slice TT qn cT], .int .i64 ((k : Nat) : Int)] V fun e w' => e = .returned (.tuple #[.int .i64 u, .bool aw]) ∧ Below V.heap.size V w') := Lib.hid (fun V hV => by
                have := trip_c (.int .i64 cap) (.int .i64 inn) (.int .i64 out) (.int .i64 start) (.int .i64 fin) k TT trips qn cT V HQN.out hcT (HTR.out.below hV (Nat.le_refl _))
                rw [hu, haw, useC_mk, awayC_mk, ← HQN.out]
                exact this)
              have ub := PU.out k
              rw [← hu] at ub
              have HSL := Lib.hid (PSK.out k hk).1
              have HSG := Lib.hid (PSK.out k hk).2.1
              have HSS := Lib.hid (PSK.out k hk).2.2
              rw [← hu] at HSS
              have HIX := Lib.hid (PIX.out k)
              have HAK := Lib.hid (PAK.out k)
              have HRX := Lib.hid (And.intro (rowK_set (inX S cs i) n k hlt2) (rowK_set (outX S cs i) n k hlt2))
              have HRL := Lib.hid (And.intro (rowK_len (inX S cs i) n k) (rowK_len (outX S cs i) n k))
              have HAN : Hid (nodeF n i (k + 1) = nodeF n i k + 2) := Lib.hid (by rw [PNX.out.2 (k + 1), PNX.out.2 k]; omega)
              rw [← haw] at HIX
              unfold slA at HAK
              rw [← haw] at HAK
              simp only at HAK
              clear hu haw
              generalize nodeF n i k = a at *
              generalize arcsAt S cs i k = ar at *
              generalize rowK (inX S cs i) n k = ri at *
              generalize rowK (outX S cs i) n k = ro at *
              generalize supK S cs M i k = su at *
              have e0 := HK.out.car.cell 0 rfl
              have e1 := HK.out.car.cell 1 rfl
              have e2 := HK.out.car.cell 2 rfl
              have e3 := HK.out.car.cell 3 rfl
              have e4 := HK.out.car.cell 4 rfl
              have e5 := HK.out.car.cell 5 rfl
              have el := HK.out.car.lt
              have a1e : IntKind.i64.wrap ((a : Int) + 1) = (a : Int) + 1 := IntWalk.i64_in _ (by omega)
              have a2e : IntKind.i64.wrap ((a : Int) + 2) = (a : Int) + 2 := IntWalk.i64_in _ (by omega)
              have k1e : IntKind.i64.wrap (1 + (k : Int)) = 1 + (k : Int) := IntWalk.i64_in _ (by omega)
              go_wp2_with fail
              refine (HTC.out wr HK.out.d.bel).mono ?_
              rintro e w4 ⟨rfl, hb⟩
              have HK4 := Lib.hid (HK.out.below hb)
              clear hb HTC HK e0 e1 e2 e3 e4 e5 el
              have e0 := HK4.out.car.cell 0 rfl
              have el := HK4.out.car.lt
              go_wp2_with fail
              clear e0 el
              have X2 : Hid (Blk (w4.alloc (.cells #[.int .i64 a, .int .i64 ((a : Int) + 1), .int .i64 cap, .int .i64 0, .int .i64 ((a : Int) + 1), .int .i64 ((a : Int) + 2), .int .i64 cap, .int .i64 0] 46)) w4.heap.size 46 (flat arcV [Dp.Arc.mk (a : Int) ((a : Int) + 1) cap 0, Dp.Arc.mk ((a : Int) + 1) ((a : Int) + 2) cap 0])) := Lib.hid (Blk.new' w4 #[.int .i64 a, .int .i64 ((a : Int) + 1), .int .i64 cap, .int .i64 0, .int .i64 ((a : Int) + 1), .int .i64 ((a : Int) + 2), .int .i64 cap, .int .i64 0] 46)
              have HKa := Lib.hid (HK4.out.alloc (.cells #[.int .i64 a, .int .i64 ((a : Int) + 1), .int .i64 cap, .int .i64 0, .int .i64 ((a : Int) + 1), .int .i64 ((a : Int) + 2), .int .i64 cap, .int .i64 0] 46))
              generalize w4.alloc (.cells #[.int .i64 a, .int .i64 ((a : Int) + 1), .int .i64 cap, .int .i64 0, .int .i64 ((a : Int) + 1), .int .i64 ((a : Int) + 2), .int .i64 cap, .int .i64 0] 46) = wa at X2 HKa ⊢
              generalize w4.heap.size = ga at X2 ⊢
              clear HK4
              refine (addG_c wa gb (ar).length cap1 w.heap.size 2 2 A1 (some ⟨ga, 0, none⟩) _ _ _ (ar) [Dp.Arc.mk (a : Int) ((a : Int) + 1) cap 0, Dp.Arc.mk ((a : Int) + 1) ((a : Int) + 2) cap 0] rfl rfl (by omega) HKa.out.d.b HKa.out.d.own (.inr ⟨_, rfl, fun j u hj => by rw [add_row]; exact X2.out.cell j hj⟩) HKa.out.d.bel.size).mono ?_
              rintro e w5 ⟨A2, cap2, Va, rfl, hV, hg, ho⟩
              have HK5 : Hid (BkJ w n G i gs gb gi go gc AI AO ci co vi vo (inR S cs) (outR S cs) [.int .i64 cap, .int .i64 inn, .int .i64 out, .int .i64 start, .int .i64 fin, .slice TT qn cT] A2 cap2 (su) (ar ++ [Dp.Arc.mk (a : Int) ((a : Int) + 1) cap 0, Dp.Arc.mk ((a : Int) + 1) ((a : Int) + 2) cap 0]) (ri) (ro) w5) := Lib.hid (by
                have el : (ar ++ [Dp.Arc.mk (a : Int) ((a : Int) + 1) cap 0, Dp.Arc.mk ((a : Int) + 1) ((a : Int) + 2) cap 0]).length = (ar).length + 2 := by simp
                rw [← el] at hV ho
                have := HKa.out.push hg ho
                rw [← hV] at this
                exact this)
              clear HKa X2 hV hg ho Va
              have i0 := HK5.out.fi.cell k (by rw [HRL.out.1]; exact hlt2)
              have iz := HK5.out.fi.free k
              have il2 := HK5.out.fi.lt
              have o0 := HK5.out.fo.cell k (by rw [HRL.out.2]; exact hlt2)
              have oz := HK5.out.fo.free k
              have ol2 := HK5.out.fo.lt
              have ione := HK5.out.ne
              have HK6 := Lib.hid ((HK5.out.seti k (-1)).seto k (-1))
              clear HK5
              go_upto_region 25 with fail
              clear i0 iz il2 o0 oz ol2 ione
              generalize (w5.setCell ⟨gi, k, none⟩ (.int .i64 (-1))).setCell ⟨go, k, none⟩ (.int .i64 (-1)) = w6 at HK6 ⊢
              cases aw
              · have e1 := HK6.out.car.cell 1 rfl
                have el := HK6.out.car.lt
                go_wp2_with fail
                clear e1 el
                have X2 : Hid (Blk (w6.alloc (.cells #[.int .i64 (1 + (k : Int)), .int .i64 ((a : Int) + 2), .int .i64 inn, .int .i64 0] 46)) w6.heap.size 46 (flat arcV [Dp.Arc.mk (1 + (k : Int)) ((a : Int) + 2) inn 0])) := Lib.hid (Blk.new' w6 #[.int .i64 (1 + (k : Int)), .int .i64 ((a : Int) + 2), .int .i64 inn, .int .i64 0] 46)
                have HKa := Lib.hid (HK6.out.alloc (.cells #[.int .i64 (1 + (k : Int)), .int .i64 ((a : Int) + 2), .int .i64 inn, .int .i64 0] 46))
                generalize w6.alloc (.cells #[.int .i64 (1 + (k : Int)), .int .i64 ((a : Int) + 2), .int .i64 inn, .int .i64 0] 46) = wa at X2 HKa ⊢
                generalize w6.heap.size = ga at X2 ⊢
                clear HK6
                refine (addG_c wa gb (ar ++ [Dp.Arc.mk (a : Int) ((a : Int) + 1) cap 0, Dp.Arc.mk ((a : Int) + 1) ((a : Int) + 2) cap 0]).length cap2 w.heap.size 1 1 A2 (some ⟨ga, 0, none⟩) _ _ _ (ar ++ [Dp.Arc.mk (a : Int) ((a : Int) + 1) cap 0, Dp.Arc.mk ((a : Int) + 1) ((a : Int) + 2) cap 0]) [Dp.Arc.mk (1 + (k : Int)) ((a : Int) + 2) inn 0] rfl rfl (by first | (simp; done) | (simp; omega)) HKa.out.d.b HKa.out.d.own (.inr ⟨_, rfl, fun j u hj => by rw [add_row]; exact X2.out.cell j hj⟩) HKa.out.d.bel.size).mono ?_
                rintro e w7 ⟨A3, cap3, Va, rfl, hV, hg, ho⟩
                have HK7 : Hid (BkJ w n G i gs gb gi go gc AI AO ci co vi vo (inR S cs) (outR S cs) [.int .i64 cap, .int .i64 inn, .int .i64 out, .int .i64 start, .int .i64 fin, .slice TT qn cT] A3 cap3 (su) (ar ++ [Dp.Arc.mk (a : Int) ((a : Int) + 1) cap 0, Dp.Arc.mk ((a : Int) + 1) ((a : Int) + 2) cap 0] ++ [Dp.Arc.mk (1 + (k : Int)) ((a : Int) + 2) inn 0]) (ri.set k (-1)) (ro.set k (-1)) w7) := Lib.hid (by
                  have el : (ar ++ [Dp.Arc.mk (a : Int) ((a : Int) + 1) cap 0, Dp.Arc.mk ((a : Int) + 1) ((a : Int) + 2) cap 0] ++ [Dp.Arc.mk (1 + (k : Int)) ((a : Int) + 2) inn 0]).length = (ar ++ [Dp.Arc.mk (a : Int) ((a : Int) + 1) cap 0, Dp.Arc.mk ((a : Int) + 1) ((a : Int) + 2) cap 0]).length + 1 := by simp
                  rw [← el] at hV ho
                  have := HKa.out.push hg ho
                  rw [← hV] at this
                  exact this)
                clear HKa X2 hV hg ho Va
                have hl2 : (((ar ++ [Dp.Arc.mk (a : Int) ((a : Int) + 1) cap 0, Dp.Arc.mk ((a : Int) + 1) ((a : Int) + 2) cap 0])).length : Int) = (ar.length : Int) + 2 := by simp
                rw [hl2]
                clear hl2
                have i0 := HK7.out.fi.cell k (by simp [HRL.out.1]; exact hlt2)
                have iz := HK7.out.fi.free k
                have il2 := HK7.out.fi.lt
                have HK8 := Lib.hid (HK7.out.seti k ((ar.length : Int) + 2))
                clear HK7
                go_upto_region 27 with fail
                clear i0 iz il2
                generalize w7.setCell ⟨gi, k, none⟩ (.int .i64 ((ar.length : Int) + 2)) = w8 at HK8 ⊢
                have e2 := HK8.out.car.cell 2 rfl
                have el := HK8.out.car.lt
                go_wp2_with fail
                clear e2 el
                have X2 : Hid (Blk (w8.alloc (.cells #[.int .i64 ((a : Int) + 1), .int .i64 (1 + (k : Int)), .int .i64 out, .int .i64 0] 46)) w8.heap.size 46 (flat arcV [Dp.Arc.mk ((a : Int) + 1) (1 + (k : Int)) out 0])) := Lib.hid (Blk.new' w8 #[.int .i64 ((a : Int) + 1), .int .i64 (1 + (k : Int)), .int .i64 out, .int .i64 0] 46)
                have HKa := Lib.hid (HK8.out.alloc (.cells #[.int .i64 ((a : Int) + 1), .int .i64 (1 + (k : Int)), .int .i64 out, .int .i64 0] 46))
                generalize w8.alloc (.cells #[.int .i64 ((a : Int) + 1), .int .i64 (1 + (k : Int)), .int .i64 out, .int .i64 0] 46) = wa at X2 HKa ⊢
                generalize w8.heap.size = ga at X2 ⊢
                clear HK8
                refine (addG_c wa gb ((ar ++ [Dp.Arc.mk (a : Int) ((a : Int) + 1) cap 0, Dp.Arc.mk ((a : Int) + 1) ((a : Int) + 2) cap 0]) ++ [Dp.Arc.mk (1 + (k : Int)) ((a : Int) + 2) inn 0]).length cap3 w.heap.size 1 1 A3 (some ⟨ga, 0, none⟩) _ _ _ ((ar ++ [Dp.Arc.mk (a : Int) ((a : Int) + 1) cap 0, Dp.Arc.mk ((a : Int) + 1) ((a : Int) + 2) cap 0]) ++ [Dp.Arc.mk (1 + (k : Int)) ((a : Int) + 2) inn 0]) [Dp.Arc.mk ((a : Int) + 1) (1 + (k : Int)) out 0] rfl rfl (by first | (simp; done) | (simp; omega)) HKa.out.d.b HKa.out.d.own (.inr ⟨_, rfl, fun j u hj => by rw [add_row]; exact X2.out.cell j hj⟩) HKa.out.d.bel.size).mono ?_
                rintro e w9 ⟨A4, cap4, Va, rfl, hV, hg, ho⟩
                have HK9 : Hid (BkJ w n G i gs gb gi go gc AI AO ci co vi vo (inR S cs) (outR S cs) [.int .i64 cap, .int .i64 inn, .int .i64 out, .int .i64 start, .int .i64 fin, .slice TT qn cT] A4 cap4 (su) ((ar ++ [Dp.Arc.mk (a : Int) ((a : Int) + 1) cap 0, Dp.Arc.mk ((a : Int) + 1) ((a : Int) + 2) cap 0]) ++ [Dp.Arc.mk (1 + (k : Int)) ((a : Int) + 2) inn 0] ++ [Dp.Arc.mk ((a : Int) + 1) (1 + (k : Int)) out 0]) ((ri.set k (-1)).set k ((ar.length : Int) + 2)) (ro.set k (-1)) w9) := Lib.hid (by
                  have el : ((ar ++ [Dp.Arc.mk (a : Int) ((a : Int) + 1) cap 0, Dp.Arc.mk ((a : Int) + 1) ((a : Int) + 2) cap 0]) ++ [Dp.Arc.mk (1 + (k : Int)) ((a : Int) + 2) inn 0] ++ [Dp.Arc.mk ((a : Int) + 1) (1 + (k : Int)) out 0]).length = ((ar ++ [Dp.Arc.mk (a : Int) ((a : Int) + 1) cap 0, Dp.Arc.mk ((a : Int) + 1) ((a : Int) + 2) cap 0]) ++ [Dp.Arc.mk (1 + (k : Int)) ((a : Int) + 2) inn 0]).length + 1 := by simp
                  rw [← el] at hV ho
                  have := HKa.out.push hg ho
                  rw [← hV] at this
                  exact this)
                clear HKa X2 hV hg ho Va
                have hl2 : (((ar ++ [Dp.Arc.mk (a : Int) ((a : Int) + 1) cap 0, Dp.Arc.mk ((a : Int) + 1) ((a : Int) + 2) cap 0]) ++ [Dp.Arc.mk (1 + (k : Int)) ((a : Int) + 2) inn 0]).length : Int) = (ar.length : Int) + 3 := by first | (simp; done) | (simp; omega)
                rw [hl2]
                clear hl2
                have o0 := HK9.out.fo.cell k (by simp [HRL.out.2]; exact hlt2)
                have oz := HK9.out.fo.free k
                have ol2 := HK9.out.fo.lt
                have HK10 := Lib.hid (HK9.out.seto k ((ar.length : Int) + 3))
                clear HK9
                go_upto_region 28 with fail
                clear o0 oz ol2
                generalize w9.setCell ⟨go, k, none⟩ (.int .i64 ((ar.length : Int) + 3)) = w10 at HK10 ⊢
                have b0 := HK10.out.d.b.cell 0 rfl
                rw [HSL.out] at b0
                have bl := HK10.out.d.b.lt
                have s0 := HK10.out.d.s.cell (a + 1) (by rw [HSL.out]; exact aM)
                rw [HSG.out] at s0
                have sz := HK10.out.d.s.free (a + 1)
                have sl := HK10.out.d.s.lt
                have um : IntKind.i64.wrap (0 - u) = -u := by rw [show (0 : Int) - u = -u by omega]; exact IntWalk.i64_in _ (by omega)
                have um2 : IntKind.i64.wrap (-u) = -u := IntWalk.i64_in _ (by omega)
                have aMi : (a : Int) + 1 < (M : Int) := by omega
                have at1 : ((a : Int) + 1).toNat = a + 1 := by omega
                have ap1 : (0 : Int) ≤ (a : Int) + 1 := by omega
                have HKf := Lib.hid (HK10.out.set (a + 1) (-u))
                rw [HSS.out] at HKf
                clear HK10
                go_upto_region 29 with fail
                clear b0 bl s0 sz sl um um2 aMi at1 ap1
                generalize w10.setCell ⟨gs, a + 1, none⟩ (.int .i64 (-u)) = wf at HKf ⊢
                have HKg : Hid (BkJ w n G i gs gb gi go gc AI AO ci co vi vo (inR S cs) (outR S cs) [.int .i64 cap, .int .i64 inn, .int .i64 out, .int .i64 start, .int .i64 fin, .slice TT qn cT] A4 cap4 (supK S cs M i (k + 1)) (arcsAt S cs i (k + 1)) (rowK (inX S cs i) n (k + 1)) (rowK (outX S cs i) n (k + 1)) wf) := Lib.hid (by
                  rw [HAK.out]
                  have := HKf.out
                  (try simp only [List.set_set] at this)
                  rw [← HRX.out.1, ← HRX.out.2, HIX.out.1, HIX.out.2]
                  simpa using this)
                clear HKf
                have han : (a : Int) + 2 = ((nodeF n i (k + 1) : Nat) : Int) := by rw [HAN.out]; omega
                have HANN := Lib.hid han
                clear han
                go_wp2_with fail
                exact ⟨⟨k + 1, by omega, by go_num, by rw [HANN.out], Lib.hid ⟨_, _, HKg.out⟩⟩, by simp [intOf]; omega⟩
              · go_upto_region 28 with fail
                have b0 := HK6.out.d.b.cell 0 rfl
                rw [HSL.out] at b0
                have bl := HK6.out.d.b.lt
                have s0 := HK6.out.d.s.cell (a + 1) (by rw [HSL.out]; exact aM)
                rw [HSG.out] at s0
                have sz := HK6.out.d.s.free (a + 1)
                have sl := HK6.out.d.s.lt
                have um : IntKind.i64.wrap (0 - u) = -u := by rw [show (0 : Int) - u = -u by omega]; exact IntWalk.i64_in _ (by omega)
                have um2 : IntKind.i64.wrap (-u) = -u := IntWalk.i64_in _ (by omega)
                have aMi : (a : Int) + 1 < (M : Int) := by omega
                have at1 : ((a : Int) + 1).toNat = a + 1 := by omega
                have ap1 : (0 : Int) ≤ (a : Int) + 1 := by omega
                have HKf := Lib.hid (HK6.out.set (a + 1) (-u))
                rw [HSS.out] at HKf
                clear HK6
                go_upto_region 29 with fail
                clear b0 bl s0 sz sl um um2 aMi at1 ap1
                generalize w6.setCell ⟨gs, a + 1, none⟩ (.int .i64 (-u)) = wf at HKf ⊢
                have HKg : Hid (BkJ w n G i gs gb gi go gc AI AO ci co vi vo (inR S cs) (outR S cs) [.int .i64 cap, .int .i64 inn, .int .i64 out, .int .i64 start, .int .i64 fin, .slice TT qn cT] A2 cap2 (supK S cs M i (k + 1)) (arcsAt S cs i (k + 1)) (rowK (inX S cs i) n (k + 1)) (rowK (outX S cs i) n (k + 1)) wf) := Lib.hid (by
                  rw [HAK.out]
                  have := HKf.out
                  (try simp only [List.set_set] at this)
                  rw [← HRX.out.1, ← HRX.out.2, HIX.out.1, HIX.out.2]
                  simpa using this)
                clear HKf
                have han : (a : Int) + 2 = ((nodeF n i (k + 1) : Nat) : Int) := by rw [HAN.out]; omega
                have HANN := Lib.hid han
                clear han
                go_wp2_with fail
                exact ⟨⟨k + 1, by omega, by go_num, by rw [HANN.out], Lib.hid ⟨_, _, HKg.out⟩⟩, by simp [intOf]; omega⟩
            · obtain rfl : n = k := by omega
              have hki : ¬ (n : Int) < (n : Int) := by omega
              have HSL := Lib.hid (PSK.out n (Nat.le_refl _)).1
              have HSG := Lib.hid (PSK.out n (Nat.le_refl _)).2.1
              have HAN := Lib.hid PNX.out.1
              have HAL := Lib.hid PAL.out
              have HSS := Lib.hid PSL.out
              have HRR : Hid ((inR S cs i).length = n ∧ (outR S cs i).length = n) := Lib.hid (by rw [PRI.out.1, PRI.out.2]; exact ⟨rowK_len _ _ _, rowK_len _ _ _⟩)
              rw [← PRI.out.1, ← PRI.out.2] at HK
              unfold finA at HAL
              simp only at HAL
              clear hk
              generalize nodeF n i n = a at *
              generalize arcsAt S cs i n = ar at *
              generalize supK S cs M i n = su at *
              have e0 := HK.out.car.cell 0 rfl
              have e4 := HK.out.car.cell 4 rfl
              have el := HK.out.car.lt
              have a1e : IntKind.i64.wrap ((a : Int) + 1) = (a : Int) + 1 := IntWalk.i64_in _ (by omega)
              have a2e : IntKind.i64.wrap ((a : Int) + 2) = (a : Int) + 2 := IntWalk.i64_in _ (by omega)
              have cfe : IntKind.i64.wrap (cap - fin) = cap - fin := IntWalk.i64_in _ (by have := HCO.out; omega)
              go_wp2_with fail
              clear e0 e4 el cfe
              have X2 : Hid (Blk (wr.alloc (.cells #[.int .i64 a, .int .i64 ((a : Int) + 1), .int .i64 cap, .int .i64 0, .int .i64 ((a : Int) + 1), .int .i64 0, .int .i64 (cap - fin), .int .i64 0] 46)) wr.heap.size 46 (flat arcV [Dp.Arc.mk (a : Int) ((a : Int) + 1) cap 0, Dp.Arc.mk ((a : Int) + 1) 0 (cap - fin) 0])) := Lib.hid (Blk.new' wr #[.int .i64 a, .int .i64 ((a : Int) + 1), .int .i64 cap, .int .i64 0, .int .i64 ((a : Int) + 1), .int .i64 0, .int .i64 (cap - fin), .int .i64 0] 46)
              have HKa := Lib.hid (HK.out.alloc (.cells #[.int .i64 a, .int .i64 ((a : Int) + 1), .int .i64 cap, .int .i64 0, .int .i64 ((a : Int) + 1), .int .i64 0, .int .i64 (cap - fin), .int .i64 0] 46))
              generalize wr.alloc (.cells #[.int .i64 a, .int .i64 ((a : Int) + 1), .int .i64 cap, .int .i64 0, .int .i64 ((a : Int) + 1), .int .i64 0, .int .i64 (cap - fin), .int .i64 0] 46) = wa at X2 HKa ⊢
              generalize wr.heap.size = ga at X2 ⊢
              clear HK
              refine (addG_c wa gb (ar).length cap1 w.heap.size 2 2 A1 (some ⟨ga, 0, none⟩) _ _ _ (ar) [Dp.Arc.mk (a : Int) ((a : Int) + 1) cap 0, Dp.Arc.mk ((a : Int) + 1) 0 (cap - fin) 0] rfl rfl (by omega) HKa.out.d.b HKa.out.d.own (.inr ⟨_, rfl, fun j u hj => by rw [add_row]; exact X2.out.cell j hj⟩) HKa.out.d.bel.size).mono ?_
              rintro e w5 ⟨A2, cap2, Va, rfl, hV, hg, ho⟩
              have HK5 : Hid (BkJ w n G i gs gb gi go gc AI AO ci co vi vo (inR S cs) (outR S cs) [.int .i64 cap, .int .i64 inn, .int .i64 out, .int .i64 start, .int .i64 fin, .slice TT qn cT] A2 cap2 (su) (ar ++ [Dp.Arc.mk (a : Int) ((a : Int) + 1) cap 0, Dp.Arc.mk ((a : Int) + 1) 0 (cap - fin) 0]) (inR S cs i) (outR S cs i) w5) := Lib.hid (by
                have el : (ar ++ [Dp.Arc.mk (a : Int) ((a : Int) + 1) cap 0, Dp.Arc.mk ((a : Int) + 1) 0 (cap - fin) 0]).length = (ar).length + 2 := by simp
                rw [← el] at hV ho
                have := HKa.out.push hg ho
                rw [← hV] at this
                exact this)
              clear HKa X2 hV hg ho Va
              go_upto_region 32 with fail
              have b0 := HK5.out.d.b.cell 0 rfl
              rw [HSL.out] at b0
              have bl := HK5.out.d.b.lt
              have s0 := HK5.out.d.s.cell (a + 1) (by rw [HSL.out]; exact aM)
              rw [HSG.out] at s0
              have sl := HK5.out.d.s.lt
              have k4 := HK5.out.car.cell 4 rfl
              have kl := HK5.out.car.lt
              have um : IntKind.i64.wrap (0 - fin) = -fin := by rw [show (0 : Int) - fin = -fin by omega]; exact IntWalk.i64_in _ (by have := HCO.out; omega)
              have um2 : IntKind.i64.wrap (-fin) = -fin := IntWalk.i64_in _ (by have := HCO.out; omega)
              have aMi : (a : Int) + 1 < (M : Int) := by omega
              have at1 : ((a : Int) + 1).toNat = a + 1 := by omega
              have ap1 : (0 : Int) ≤ (a : Int) + 1 := by omega
              refine wp_region_head 12 ?af32 (by kernel_rfl) (by kernel_rfl) ?walk32 ?tail32
              case walk32 =>
                intro V hV
                have b0 := (hV.cell (p := ⟨gb, 0, none⟩) bl).trans b0
                have s0 := (hV.cell (p := ⟨gs, a + 1, none⟩) sl).trans s0
                have k4 := (hV.cell (p := ⟨gc, 4, none⟩) kl).trans k4
                have bl := Nat.lt_of_lt_of_le bl hV.size
                have sl := Nat.lt_of_lt_of_le sl hV.size
                have kl := Nat.lt_of_lt_of_le kl hV.size
                clear hV
                simp only [List.take_succ_cons, List.take_zero]
                repeat (go_big_quiet_step (fail))
                refine wpQuiet_nil ?_
                rfl
              case tail32 =>
                intro w6 hb6
                have HK6 := Lib.hid (HK5.out.below hb6)
                clear hb6 b0 s0 sl k4 bl kl HK5
                have s0 := HK6.out.d.s.cell (a + 1) (by rw [HSL.out]; exact aM)
                have sz := HK6.out.d.s.free (a + 1)
                have sl := HK6.out.d.s.lt
                have HK7 := Lib.hid (HK6.out.set (a + 1) (-fin))
                rw [HSS.out, ← HAL.out] at HK7
                clear HK6
                simp only [List.drop_succ_cons, List.drop_zero]
                go_upto_region 33 with fail
                clear s0 sz sl um um2 aMi at1 ap1
                generalize w6.setCell ⟨gs, a + 1, none⟩ (.int .i64 (-fin)) = w7 at HK7 ⊢
                go_upto_region 34 with fail
                have HX := Lib.hid HK7.out.two
                have HGG := Lib.hid HK7.out.ge
                obtain ⟨i26, h26i, h26z, h26s, h26b⟩ := info_parts info26
                have im8 : i ≤ 8 := by have := (stE_0 H0.out).1; omega
                have han : (a : Int) + 2 = ((nodeF n (i + 1) 0 : Nat) : Int) := by rw [HAN.out]; omega
                have HANN := Lib.hid han
                have GZ := Lib.hid (show G ≤ w7.heap.size from by have := HK7.out.fi.lt; have := HK7.out.ge; omega)
                have HX := Lib.hid (HX.out.below (Below.refl _ _).drew)
                have GZ := Lib.hid (show G ≤ w7.drew.heap.size from GZ.out)
                clear han HK7
                refine lBegin (S := fun L W => (True) ∧ (L.getD 18 false = true ∨ (W.cell? ⟨gb, 2, none⟩ = some (.slice AI i ci))) ∧ (L.getD 21 false = true ∨ (W.cell? ⟨gb, 3, none⟩ = some (.slice AO i co)))) (by kernel_rfl) ?_ (fun hHeld => ?_)
                · (try dsimp only); refine ⟨?_, Or.inr ?_, Or.inr ?_⟩
                  · (first | trivial | with_reducible assumption)
                  · (with_reducible exact HX.out.b.cell 2 rfl)
                  · (first | (with_reducible exact HX.out.b.cell 3 rfl) | (go_simp; done))
                refine lTake (i := 0) (v := ?_) rfl (by kernel_rfl) (by kernel_rfl) (by kernel_rfl) (fun _ _ _ h => h) (by rfl) (fun _ _ h => by simpa only [getD_set_ne false (show 0 ≠ 18 by decide), getD_set_ne false (show 0 ≠ 21 by decide)] using h) (fun _ _ h => by simpa only [getD_set_ne false (show 0 ≠ 18 by decide), getD_set_ne false (show 0 ≠ 21 by decide)] using h) ?_ (by assumption) (fun hHeld2 => ?_)
                rotate_left 1
                · (intro _ _ _ _ _; first | (go_simp; done) | (go_simp; with_reducible rfl))
                clear hHeld; have hHeld := hHeld2; clear hHeld2
                (try simp only [Act.put, List.setIfInBounds_toArray, List.set_cons_zero, List.set_cons_succ])
                refine lTake (i := 1) (v := ?_) rfl (by kernel_rfl) (by kernel_rfl) (by kernel_rfl) (fun _ _ _ h => h) (by rfl) (fun _ _ h => by simpa only [getD_set_ne false (show 1 ≠ 18 by decide), getD_set_ne false (show 1 ≠ 21 by decide)] using h) (fun _ _ h => by simpa only [getD_set_ne false (show 1 ≠ 18 by decide), getD_set_ne false (show 1 ≠ 21 by decide)] using h) ?_ (by assumption) (fun hHeld2 => ?_)
                rotate_left 1
                · (intro _ _ _ _ _; first | (go_simp; done) | (go_simp; with_reducible rfl))
                clear hHeld; have hHeld := hHeld2; clear hHeld2
                (try simp only [Act.put, List.setIfInBounds_toArray, List.set_cons_zero, List.set_cons_succ])
                refine lTake (i := 2) (v := ?_) rfl (by kernel_rfl) (by kernel_rfl) (by kernel_rfl) (fun _ _ _ h => h) (by rfl) (fun _ _ h => by simpa only [getD_set_ne false (show 2 ≠ 18 by decide), getD_set_ne false (show 2 ≠ 21 by decide)] using h) (fun _ _ h => by simpa only [getD_set_ne false (show 2 ≠ 18 by decide), getD_set_ne false (show 2 ≠ 21 by decide)] using h) ?_ (by assumption) (fun hHeld2 => ?_)
                rotate_left 1
                · (intro _ _ _ _ _; first | (go_simp; done) | (go_simp; with_reducible rfl))
                clear hHeld; have hHeld := hHeld2; clear hHeld2
                (try simp only [Act.put, List.setIfInBounds_toArray, List.set_cons_zero, List.set_cons_succ])
                refine lTake (i := 3) (v := ?_) rfl (by kernel_rfl) (by kernel_rfl) (by kernel_rfl) (fun _ _ _ h => h) (by rfl) (fun _ _ h => by simpa only [getD_set_ne false (show 3 ≠ 18 by decide), getD_set_ne false (show 3 ≠ 21 by decide)] using h) (fun _ _ h => by simpa only [getD_set_ne false (show 3 ≠ 18 by decide), getD_set_ne false (show 3 ≠ 21 by decide)] using h) ?_ (by assumption) (fun hHeld2 => ?_)
                rotate_left 1
                · (intro _ _ _ _ _; first | (go_simp; done) | (go_simp; with_reducible rfl))
                clear hHeld; have hHeld := hHeld2; clear hHeld2
                (try simp only [Act.put, List.setIfInBounds_toArray, List.set_cons_zero, List.set_cons_succ])
                refine lTake (i := 4) (v := ?_) rfl (by kernel_rfl) (by kernel_rfl) (by kernel_rfl) (fun _ _ _ h => h) (by rfl) (fun _ _ h => by simpa only [getD_set_ne false (show 4 ≠ 18 by decide), getD_set_ne false (show 4 ≠ 21 by decide)] using h) (fun _ _ h => by simpa only [getD_set_ne false (show 4 ≠ 18 by decide), getD_set_ne false (show 4 ≠ 21 by decide)] using h) ?_ (by assumption) (fun hHeld2 => ?_)
                rotate_left 1
                · (intro _ _ _ _ _; first | (go_simp; done) | (go_simp; with_reducible rfl))
                clear hHeld; have hHeld := hHeld2; clear hHeld2
                (try simp only [Act.put, List.setIfInBounds_toArray, List.set_cons_zero, List.set_cons_succ])
                refine lTake (i := 5) (v := ?_) rfl (by kernel_rfl) (by kernel_rfl) (by kernel_rfl) (fun _ _ _ h => h) (by rfl) (fun _ _ h => by simpa only [getD_set_ne false (show 5 ≠ 18 by decide), getD_set_ne false (show 5 ≠ 21 by decide)] using h) (fun _ _ h => by simpa only [getD_set_ne false (show 5 ≠ 18 by decide), getD_set_ne false (show 5 ≠ 21 by decide)] using h) ?_ (by assumption) (fun hHeld2 => ?_)
                rotate_left 1
                · (intro L W hL hK hSw; (try dsimp only at hSw); obtain ⟨h0, h1, h2⟩ := hSw; replace h1 := still [] hK hL (by kernel_rfl) h1; replace h2 := still [] hK hL (by kernel_rfl) h2; clear hL hK; first | (go_simp; done) | (go_simp; with_reducible rfl))
                clear hHeld; have hHeld := hHeld2; clear hHeld2
                (try simp only [Act.put, List.setIfInBounds_toArray, List.set_cons_zero, List.set_cons_succ])
                refine lTake (i := 6) (v := ?_) rfl (by kernel_rfl) (by kernel_rfl) (by kernel_rfl) (fun _ _ _ h => h) (by rfl) (fun _ _ h => by simpa only [getD_set_ne false (show 6 ≠ 18 by decide), getD_set_ne false (show 6 ≠ 21 by decide)] using h) (fun _ _ h => by simpa only [getD_set_ne false (show 6 ≠ 18 by decide), getD_set_ne false (show 6 ≠ 21 by decide)] using h) ?_ (by assumption) (fun hHeld2 => ?_)
                rotate_left 1
                · (intro _ _ _ _ _; first | (go_simp; done) | (go_simp; with_reducible rfl))
                clear hHeld; have hHeld := hHeld2; clear hHeld2
                (try simp only [Act.put, List.setIfInBounds_toArray, List.set_cons_zero, List.set_cons_succ])
                refine lTake (i := 9) (v := ?_) rfl (by kernel_rfl) (by kernel_rfl) (by kernel_rfl) (fun _ _ _ h => h) (by rfl) (fun _ _ h => by simpa only [getD_set_ne false (show 9 ≠ 18 by decide), getD_set_ne false (show 9 ≠ 21 by decide)] using h) (fun _ _ h => by simpa only [getD_set_ne false (show 9 ≠ 18 by decide), getD_set_ne false (show 9 ≠ 21 by decide)] using h) ?_ (by assumption) (fun hHeld2 => ?_)
                rotate_left 1
                · (intro _ _ _ _ _; first | (go_simp; done) | (go_simp; with_reducible rfl))
                clear hHeld; have hHeld := hHeld2; clear hHeld2
                (try simp only [Act.put, List.setIfInBounds_toArray, List.set_cons_zero, List.set_cons_succ])
                refine lTake (i := 10) (v := ?_) rfl (by kernel_rfl) (by kernel_rfl) (by kernel_rfl) (fun _ _ _ h => h) (by rfl) (fun _ _ h => by simpa only [getD_set_ne false (show 10 ≠ 18 by decide), getD_set_ne false (show 10 ≠ 21 by decide)] using h) (fun _ _ h => by simpa only [getD_set_ne false (show 10 ≠ 18 by decide), getD_set_ne false (show 10 ≠ 21 by decide)] using h) ?_ (by assumption) (fun hHeld2 => ?_)
                rotate_left 1
                · (intro _ _ _ _ _; first | (go_simp; done) | (go_simp; with_reducible rfl))
                clear hHeld; have hHeld := hHeld2; clear hHeld2
                (try simp only [Act.put, List.setIfInBounds_toArray, List.set_cons_zero, List.set_cons_succ])
                refine lTake (i := 11) (v := ?_) rfl (by kernel_rfl) (by kernel_rfl) (by kernel_rfl) (fun _ _ _ h => h) (by rfl) (fun _ _ h => by simpa only [getD_set_ne false (show 11 ≠ 18 by decide), getD_set_ne false (show 11 ≠ 21 by decide)] using h) (fun _ _ h => by simpa only [getD_set_ne false (show 11 ≠ 18 by decide), getD_set_ne false (show 11 ≠ 21 by decide)] using h) ?_ (by assumption) (fun hHeld2 => ?_)
                rotate_left 1
                · (intro _ _ _ _ _; first | (go_simp; done) | (go_simp; with_reducible rfl))
                clear hHeld; have hHeld := hHeld2; clear hHeld2
                (try simp only [Act.put, List.setIfInBounds_toArray, List.set_cons_zero, List.set_cons_succ])
                refine lTake (i := 12) (v := ?_) rfl (by kernel_rfl) (by kernel_rfl) (by kernel_rfl) (fun _ _ _ h => h) (by rfl) (fun _ _ h => by simpa only [getD_set_ne false (show 12 ≠ 18 by decide), getD_set_ne false (show 12 ≠ 21 by decide)] using h) (fun _ _ h => by simpa only [getD_set_ne false (show 12 ≠ 18 by decide), getD_set_ne false (show 12 ≠ 21 by decide)] using h) ?_ (by assumption) (fun hHeld2 => ?_)
                rotate_left 1
                · (intro L W hL hK hSw; (try dsimp only at hSw); obtain ⟨h0, h1, h2⟩ := hSw; replace h1 := still [] hK hL (by kernel_rfl) h1; replace h2 := still [] hK hL (by kernel_rfl) h2; clear hL hK; first | (go_simp; done) | (go_simp; with_reducible rfl))
                clear hHeld; have hHeld := hHeld2; clear hHeld2
                (try simp only [Act.put, List.setIfInBounds_toArray, List.set_cons_zero, List.set_cons_succ])
                refine lTake (i := 13) (v := ?_) rfl (by kernel_rfl) (by kernel_rfl) (by kernel_rfl) (fun _ _ _ h => h) (by rfl) (fun _ _ h => by simpa only [getD_set_ne false (show 13 ≠ 18 by decide), getD_set_ne false (show 13 ≠ 21 by decide)] using h) (fun _ _ h => by simpa only [getD_set_ne false (show 13 ≠ 18 by decide), getD_set_ne false (show 13 ≠ 21 by decide)] using h) ?_ (by assumption) (fun hHeld2 => ?_)
                rotate_left 1
                · (intro _ _ _ _ _; first | (go_simp; done) | (go_simp; with_reducible rfl))
                clear hHeld; have hHeld := hHeld2; clear hHeld2
                (try simp only [Act.put, List.setIfInBounds_toArray, List.set_cons_zero, List.set_cons_succ])
                refine lReady (rs := [7, 14]) (by kernel_rfl) (by simp) ?_
                refine AllL.cons (i := 7) rfl (fun K hK => ?_) ?_
                · refine step_new (.cells #[.slice (some ⟨gi, 0, none⟩) n n] 26) (fun g => .slice (some ⟨g, 0, none⟩) 1 1) rfl (by kernel_rfl) ?_; intro b7 v7 z7 hc7 hb7; (try have H14 := Lib.hid (H14.out.below hb7 H14.out.lt)); have H7 := Lib.hid (show Blk v7 b7 26 [.slice (some ⟨gi, 0, none⟩) n n] from hc7); have HX := Lib.hid (HX.out.below hb7); have GZ := Lib.hid (Nat.le_trans GZ.out hb7.size); clear hc7 hb7 z7
                  (try go_wp2_with fail)
                  refine hK.out _ _ ?_ (fun hHeld2 => ?_)
                  · (try dsimp only); refine ⟨?_, Or.inr ?_, Or.inr ?_⟩
                    · (first | trivial | with_reducible assumption)
                    · (with_reducible exact HX.out.b.cell 2 rfl)
                    · (first | (with_reducible exact HX.out.b.cell 3 rfl) | (go_simp; done))
                  clear hK K
                  clear hHeld; have hHeld := hHeld2; clear hHeld2
                  (try simp only [Act.put, List.setIfInBounds_toArray, List.set_cons_zero, List.set_cons_succ])
                  refine lReady (rs := [8, 14]) (by kernel_rfl) (by simp) ?_
                  refine AllL.cons (i := 8) rfl (fun K hK => ?_) ?_
                  · refine step_append_any (.tmp 214) (.tmp 216) 111 rfl rfl w.heap.size 26 i26 (.slice none 0 0) 1 24 Try.underlying111 h26i h26z h26s h26b rfl (by decide) AI i ci vi (by rfl) HX.out.oi (some ⟨b7, 0, none⟩) 1 1 [.slice (some ⟨gi, 0, none⟩) n n] (by rfl) (by rfl) (.inr ⟨_, rfl, fun k u hk => by rcases k with _ | k <;> simp at hk; subst hk; exact H7.out.cell 0 rfl⟩) (by simp [Value.oneCell']) (by unfold maxLen; omega) (by omega) HX.out.bel.size ?_; intro AI2 ci2 v8 hown hgrow hat; (try have H14 := Lib.hid (H14.out.grown hgrow (fun e => by have := HN14.out b14 (ownB_iff.2 e.symm); omega))); have GZ := Lib.hid (Nat.le_trans GZ.out hgrow.size); have HX := Lib.hid (HX.out.growI (Nat.le_refl _) hgrow hown hat); clear hown hgrow hat
                    (try go_wp2_with fail)
                    refine hK.out _ _ ?_ (fun hHeld2 => ?_)
                    · (try dsimp only); refine ⟨?_, Or.inr ?_, Or.inr ?_⟩
                      · (first | trivial | with_reducible assumption)
                      · (with_reducible exact HX.out.b.cell 2 rfl)
                      · (first | (with_reducible exact HX.out.b.cell 3 rfl) | (go_simp; done))
                    clear hK K
                    clear hHeld; have hHeld := hHeld2; clear hHeld2
                    (try simp only [Act.put, List.setIfInBounds_toArray, List.set_cons_zero, List.set_cons_succ])
                    refine lReady (rs := [14]) (by kernel_rfl) (by simp) ?_
                    refine AllL.cons (i := 14) rfl (fun K hK => ?_) ?_
                    · refine step_new (.cells #[.slice (some ⟨go, 0, none⟩) n n] 26) (fun g => .slice (some ⟨g, 0, none⟩) 1 1) rfl (by kernel_rfl) ?_; intro b14 v14 z14 hc14 hb14; (try have H7 := Lib.hid (H7.out.below hb14 H7.out.lt)); (try have HN14 := Lib.hid (show ∀ k, OwnB AI k → k < b14 from fun k hk => Nat.lt_of_lt_of_le (ownLt HX.out.oi hk).1 z14)); have H14 := Lib.hid (show Blk v14 b14 26 [.slice (some ⟨go, 0, none⟩) n n] from hc14); have HX := Lib.hid (HX.out.below hb14); have GZ := Lib.hid (Nat.le_trans GZ.out hb14.size); clear hc14 hb14 z14
                      (try go_wp2_with fail)
                      refine hK.out _ _ ?_ (fun hHeld2 => ?_)
                      · (try dsimp only); refine ⟨?_, Or.inr ?_, Or.inr ?_⟩
                        · (first | trivial | with_reducible assumption)
                        · (with_reducible exact HX.out.b.cell 2 rfl)
                        · (first | (with_reducible exact HX.out.b.cell 3 rfl) | (go_simp; done))
                      clear hK K
                      clear hHeld; have hHeld := hHeld2; clear hHeld2
                      (try simp only [Act.put, List.setIfInBounds_toArray, List.set_cons_zero, List.set_cons_succ])
                      refine lReady (rs := [15]) (by kernel_rfl) (by simp) ?_
                      refine AllL.cons (i := 15) rfl (fun K hK => ?_) ?_
                      · refine step_append_any (.tmp 221) (.tmp 223) 111 rfl rfl w.heap.size 26 i26 (.slice none 0 0) 1 24 Try.underlying111 h26i h26z h26s h26b rfl (by decide) AO i co vo (by rfl) HX.out.oo (some ⟨b14, 0, none⟩) 1 1 [.slice (some ⟨go, 0, none⟩) n n] (by rfl) (by rfl) (.inr ⟨_, rfl, fun k u hk => by rcases k with _ | k <;> simp at hk; subst hk; exact H14.out.cell 0 rfl⟩) (by simp [Value.oneCell']) (by unfold maxLen; omega) (by omega) HX.out.bel.size ?_; intro AO2 co2 v15 hown hgrow hat; have GZ := Lib.hid (Nat.le_trans GZ.out hgrow.size); have HX := Lib.hid (HX.out.growO (Nat.le_refl _) hgrow hown hat); have q2 := HX.out.b.cell 2 rfl; have q3 := HX.out.b.cell 3 rfl; have z2 := HX.out.b.free 2; have z3 := HX.out.b.free 3; have qlt := HX.out.b.lt; clear hown hgrow hat
                        (try go_wp2_with fail)
                        refine hK.out _ _ ?_ (fun hHeld2 => ?_)
                        · (try dsimp only); refine ⟨?_, Or.inr ?_, Or.inr ?_⟩
                          · (first | trivial | with_reducible assumption)
                          · (with_reducible exact HX.out.b.cell 2 rfl)
                          · (first | (with_reducible exact HX.out.b.cell 3 rfl) | (go_simp; done))
                        clear hK K
                        clear hHeld; have hHeld := hHeld2; clear hHeld2
                        (try simp only [Act.put, List.setIfInBounds_toArray, List.set_cons_zero, List.set_cons_succ])
                        refine lTake (i := 16) (v := ?_) rfl (by kernel_rfl) (by kernel_rfl) (by kernel_rfl) (fun _ _ _ h => h) (by rfl) (fun _ _ h => by simpa only [getD_set_ne false (show 16 ≠ 18 by decide), getD_set_ne false (show 16 ≠ 21 by decide)] using h) (fun _ _ h => by simpa only [getD_set_ne false (show 16 ≠ 18 by decide), getD_set_ne false (show 16 ≠ 21 by decide)] using h) ?_ (by assumption) (fun hHeld2 => ?_)
                        rotate_left 1
                        · (intro _ _ _ _ _; first | (go_simp; done) | (go_simp; with_reducible rfl))
                        clear hHeld; have hHeld := hHeld2; clear hHeld2
                        (try simp only [Act.put, List.setIfInBounds_toArray, List.set_cons_zero, List.set_cons_succ])
                        refine lTake (i := 17) (v := ?_) rfl (by kernel_rfl) (by kernel_rfl) (by kernel_rfl) (fun _ _ _ h => h) (by rfl) (fun _ _ h => by simpa only [getD_set_ne false (show 17 ≠ 18 by decide), getD_set_ne false (show 17 ≠ 21 by decide)] using h) (fun _ _ h => by simpa only [getD_set_ne false (show 17 ≠ 18 by decide), getD_set_ne false (show 17 ≠ 21 by decide)] using h) ?_ (by assumption) (fun hHeld2 => ?_)
                        rotate_left 1
                        · (intro _ _ _ _ _; first | (go_simp; done) | (go_simp; with_reducible rfl))
                        clear hHeld; have hHeld := hHeld2; clear hHeld2
                        (try simp only [Act.put, List.setIfInBounds_toArray, List.set_cons_zero, List.set_cons_succ])
                        refine lReady (rs := [18]) (by kernel_rfl) (by simp) ?_
                        refine AllL.cons (i := 18) rfl (fun K hK => ?_) ?_
                        · go_simp
                          (try go_wp2_with fail)
                          refine hK.out _ _ ?_ (fun hHeld2 => ?_)
                          · (try dsimp only); refine ⟨?_, Or.inl (by rfl), Or.inr ?_⟩
                            · (first | trivial | with_reducible assumption)
                            · (first | (with_reducible exact HX.out.b.cell 3 rfl) | (go_simp; done))
                          clear hK K
                          clear hHeld; have hHeld := hHeld2; clear hHeld2
                          (try simp only [Act.put, List.setIfInBounds_toArray, List.set_cons_zero, List.set_cons_succ])
                          refine lTake (i := 19) (v := ?_) rfl (by kernel_rfl) (by kernel_rfl) (by kernel_rfl) (fun _ _ _ h => h) (by rfl) (fun _ _ h => by simpa only [getD_set_ne false (show 19 ≠ 18 by decide), getD_set_ne false (show 19 ≠ 21 by decide)] using h) (fun _ _ h => by simpa only [getD_set_ne false (show 19 ≠ 18 by decide), getD_set_ne false (show 19 ≠ 21 by decide)] using h) ?_ (by assumption) (fun hHeld2 => ?_)
                          rotate_left 1
                          · (intro _ _ _ _ _; first | (go_simp; done) | (go_simp; with_reducible rfl))
                          clear hHeld; have hHeld := hHeld2; clear hHeld2
                          (try simp only [Act.put, List.setIfInBounds_toArray, List.set_cons_zero, List.set_cons_succ])
                          refine lTake (i := 20) (v := ?_) rfl (by kernel_rfl) (by kernel_rfl) (by kernel_rfl) (fun _ _ _ h => h) (by rfl) (fun _ _ h => by simpa only [getD_set_ne false (show 20 ≠ 18 by decide), getD_set_ne false (show 20 ≠ 21 by decide)] using h) (fun _ _ h => by simpa only [getD_set_ne false (show 20 ≠ 18 by decide), getD_set_ne false (show 20 ≠ 21 by decide)] using h) ?_ (by assumption) (fun hHeld2 => ?_)
                          rotate_left 1
                          · (intro _ _ _ _ _; first | (go_simp; done) | (go_simp; with_reducible rfl))
                          clear hHeld; have hHeld := hHeld2; clear hHeld2
                          (try simp only [Act.put, List.setIfInBounds_toArray, List.set_cons_zero, List.set_cons_succ])
                          refine lReady (rs := [21]) (by kernel_rfl) (by simp) ?_
                          refine AllL.cons (i := 21) rfl (fun K hK => ?_) ?_
                          · go_simp
                            (try go_wp2_with fail)
                            refine hK.out _ _ ?_ (fun hHeld2 => ?_)
                            · (try dsimp only); refine ⟨?_, Or.inl (by rfl), Or.inl (by rfl)⟩
                              · (first | trivial | with_reducible assumption)
                            clear hK K
                            clear hHeld; have hHeld := hHeld2; clear hHeld2
                            (try simp only [Act.put, List.setIfInBounds_toArray, List.set_cons_zero, List.set_cons_succ])
                            refine lDone (by kernel_rfl) ?_ _
                            have HBE := Lib.hid (BuiJ.of HN.out HX.out HRR.out GZ.out)
                            generalize (v15.setCell ⟨gb, 2, none⟩ (.slice AI2 (i + 1) ci2)).setCell ⟨gb, 3, none⟩ (.slice AO2 (i + 1) co2) = wE at HBE ⊢
                            clear q2 q3 z2 z3 qlt HX H7 H14
                            go_wp2_with fail
                            go_roundw
                            case measure => simp [intOf]; omega
                            case rel => exact ⟨i + 1, by omega, by go_num, by rw [HANN.out], HBE⟩
                          exact AllL.nil
                        exact AllL.nil
                      exact AllL.nil
                    exact AllL.nil
                  refine AllL.cons (i := 14) rfl (fun K hK => ?_) ?_
                  · refine step_new (.cells #[.slice (some ⟨go, 0, none⟩) n n] 26) (fun g => .slice (some ⟨g, 0, none⟩) 1 1) rfl (by kernel_rfl) ?_; intro b14 v14 z14 hc14 hb14; (try have H7 := Lib.hid (H7.out.below hb14 H7.out.lt)); (try have HN14 := Lib.hid (show ∀ k, OwnB AI k → k < b14 from fun k hk => Nat.lt_of_lt_of_le (ownLt HX.out.oi hk).1 z14)); have H14 := Lib.hid (show Blk v14 b14 26 [.slice (some ⟨go, 0, none⟩) n n] from hc14); have HX := Lib.hid (HX.out.below hb14); have GZ := Lib.hid (Nat.le_trans GZ.out hb14.size); clear hc14 hb14 z14
                    (try go_wp2_with fail)
                    refine hK.out _ _ ?_ (fun hHeld2 => ?_)
                    · (try dsimp only); refine ⟨?_, Or.inr ?_, Or.inr ?_⟩
                      · (first | trivial | with_reducible assumption)
                      · (with_reducible exact HX.out.b.cell 2 rfl)
                      · (first | (with_reducible exact HX.out.b.cell 3 rfl) | (go_simp; done))
                    clear hK K
                    clear hHeld; have hHeld := hHeld2; clear hHeld2
                    (try simp only [Act.put, List.setIfInBounds_toArray, List.set_cons_zero, List.set_cons_succ])
                    refine lReady (rs := [8]) (by kernel_rfl) (by simp) ?_
                    refine AllL.cons (i := 8) rfl (fun K hK => ?_) ?_
                    · refine step_append_any (.tmp 214) (.tmp 216) 111 rfl rfl w.heap.size 26 i26 (.slice none 0 0) 1 24 Try.underlying111 h26i h26z h26s h26b rfl (by decide) AI i ci vi (by rfl) HX.out.oi (some ⟨b7, 0, none⟩) 1 1 [.slice (some ⟨gi, 0, none⟩) n n] (by rfl) (by rfl) (.inr ⟨_, rfl, fun k u hk => by rcases k with _ | k <;> simp at hk; subst hk; exact H7.out.cell 0 rfl⟩) (by simp [Value.oneCell']) (by unfold maxLen; omega) (by omega) HX.out.bel.size ?_; intro AI2 ci2 v8 hown hgrow hat; (try have H14 := Lib.hid (H14.out.grown hgrow (fun e => by have := HN14.out b14 (ownB_iff.2 e.symm); omega))); have GZ := Lib.hid (Nat.le_trans GZ.out hgrow.size); have HX := Lib.hid (HX.out.growI (Nat.le_refl _) hgrow hown hat); clear hown hgrow hat
                      (try go_wp2_with fail)
                      refine hK.out _ _ ?_ (fun hHeld2 => ?_)
                      · (try dsimp only); refine ⟨?_, Or.inr ?_, Or.inr ?_⟩
                        · (first | trivial | with_reducible assumption)
                        · (with_reducible exact HX.out.b.cell 2 rfl)
                        · (first | (with_reducible exact HX.out.b.cell 3 rfl) | (go_simp; done))
                      clear hK K
                      clear hHeld; have hHeld := hHeld2; clear hHeld2
                      (try simp only [Act.put, List.setIfInBounds_toArray, List.set_cons_zero, List.set_cons_succ])
                      refine lReady (rs := [15]) (by kernel_rfl) (by simp) ?_
                      refine AllL.cons (i := 15) rfl (fun K hK => ?_) ?_
                      · refine step_append_any (.tmp 221) (.tmp 223) 111 rfl rfl w.heap.size 26 i26 (.slice none 0 0) 1 24 Try.underlying111 h26i h26z h26s h26b rfl (by decide) AO i co vo (by rfl) HX.out.oo (some ⟨b14, 0, none⟩) 1 1 [.slice (some ⟨go, 0, none⟩) n n] (by rfl) (by rfl) (.inr ⟨_, rfl, fun k u hk => by rcases k with _ | k <;> simp at hk; subst hk; exact H14.out.cell 0 rfl⟩) (by simp [Value.oneCell']) (by unfold maxLen; omega) (by omega) HX.out.bel.size ?_; intro AO2 co2 v15 hown hgrow hat; have GZ := Lib.hid (Nat.le_trans GZ.out hgrow.size); have HX := Lib.hid (HX.out.growO (Nat.le_refl _) hgrow hown hat); have q2 := HX.out.b.cell 2 rfl; have q3 := HX.out.b.cell 3 rfl; have z2 := HX.out.b.free 2; have z3 := HX.out.b.free 3; have qlt := HX.out.b.lt; clear hown hgrow hat
                        (try go_wp2_with fail)
                        refine hK.out _ _ ?_ (fun hHeld2 => ?_)
                        · (try dsimp only); refine ⟨?_, Or.inr ?_, Or.inr ?_⟩
                          · (first | trivial | with_reducible assumption)
                          · (with_reducible exact HX.out.b.cell 2 rfl)
                          · (first | (with_reducible exact HX.out.b.cell 3 rfl) | (go_simp; done))
                        clear hK K
                        clear hHeld; have hHeld := hHeld2; clear hHeld2
                        (try simp only [Act.put, List.setIfInBounds_toArray, List.set_cons_zero, List.set_cons_succ])
                        refine lTake (i := 16) (v := ?_) rfl (by kernel_rfl) (by kernel_rfl) (by kernel_rfl) (fun _ _ _ h => h) (by rfl) (fun _ _ h => by simpa only [getD_set_ne false (show 16 ≠ 18 by decide), getD_set_ne false (show 16 ≠ 21 by decide)] using h) (fun _ _ h => by simpa only [getD_set_ne false (show 16 ≠ 18 by decide), getD_set_ne false (show 16 ≠ 21 by decide)] using h) ?_ (by assumption) (fun hHeld2 => ?_)
                        rotate_left 1
                        · (intro _ _ _ _ _; first | (go_simp; done) | (go_simp; with_reducible rfl))
                        clear hHeld; have hHeld := hHeld2; clear hHeld2
                        (try simp only [Act.put, List.setIfInBounds_toArray, List.set_cons_zero, List.set_cons_succ])
                        refine lTake (i := 17) (v := ?_) rfl (by kernel_rfl) (by kernel_rfl) (by kernel_rfl) (fun _ _ _ h => h) (by rfl) (fun _ _ h => by simpa only [getD_set_ne false (show 17 ≠ 18 by decide), getD_set_ne false (show 17 ≠ 21 by decide)] using h) (fun _ _ h => by simpa only [getD_set_ne false (show 17 ≠ 18 by decide), getD_set_ne false (show 17 ≠ 21 by decide)] using h) ?_ (by assumption) (fun hHeld2 => ?_)
                        rotate_left 1
                        · (intro _ _ _ _ _; first | (go_simp; done) | (go_simp; with_reducible rfl))
                        clear hHeld; have hHeld := hHeld2; clear hHeld2
                        (try simp only [Act.put, List.setIfInBounds_toArray, List.set_cons_zero, List.set_cons_succ])
                        refine lReady (rs := [18]) (by kernel_rfl) (by simp) ?_
                        refine AllL.cons (i := 18) rfl (fun K hK => ?_) ?_
                        · go_simp
                          (try go_wp2_with fail)
                          refine hK.out _ _ ?_ (fun hHeld2 => ?_)
                          · (try dsimp only); refine ⟨?_, Or.inl (by rfl), Or.inr ?_⟩
                            · (first | trivial | with_reducible assumption)
                            · (first | (with_reducible exact HX.out.b.cell 3 rfl) | (go_simp; done))
                          clear hK K
                          clear hHeld; have hHeld := hHeld2; clear hHeld2
                          (try simp only [Act.put, List.setIfInBounds_toArray, List.set_cons_zero, List.set_cons_succ])
                          refine lTake (i := 19) (v := ?_) rfl (by kernel_rfl) (by kernel_rfl) (by kernel_rfl) (fun _ _ _ h => h) (by rfl) (fun _ _ h => by simpa only [getD_set_ne false (show 19 ≠ 18 by decide), getD_set_ne false (show 19 ≠ 21 by decide)] using h) (fun _ _ h => by simpa only [getD_set_ne false (show 19 ≠ 18 by decide), getD_set_ne false (show 19 ≠ 21 by decide)] using h) ?_ (by assumption) (fun hHeld2 => ?_)
                          rotate_left 1
                          · (intro _ _ _ _ _; first | (go_simp; done) | (go_simp; with_reducible rfl))
                          clear hHeld; have hHeld := hHeld2; clear hHeld2
                          (try simp only [Act.put, List.setIfInBounds_toArray, List.set_cons_zero, List.set_cons_succ])
                          refine lTake (i := 20) (v := ?_) rfl (by kernel_rfl) (by kernel_rfl) (by kernel_rfl) (fun _ _ _ h => h) (by rfl) (fun _ _ h => by simpa only [getD_set_ne false (show 20 ≠ 18 by decide), getD_set_ne false (show 20 ≠ 21 by decide)] using h) (fun _ _ h => by simpa only [getD_set_ne false (show 20 ≠ 18 by decide), getD_set_ne false (show 20 ≠ 21 by decide)] using h) ?_ (by assumption) (fun hHeld2 => ?_)
                          rotate_left 1
                          · (intro _ _ _ _ _; first | (go_simp; done) | (go_simp; with_reducible rfl))
                          clear hHeld; have hHeld := hHeld2; clear hHeld2
                          (try simp only [Act.put, List.setIfInBounds_toArray, List.set_cons_zero, List.set_cons_succ])
                          refine lReady (rs := [21]) (by kernel_rfl) (by simp) ?_
                          refine AllL.cons (i := 21) rfl (fun K hK => ?_) ?_
                          · go_simp
                            (try go_wp2_with fail)
                            refine hK.out _ _ ?_ (fun hHeld2 => ?_)
                            · (try dsimp only); refine ⟨?_, Or.inl (by rfl), Or.inl (by rfl)⟩
                              · (first | trivial | with_reducible assumption)
                            clear hK K
                            clear hHeld; have hHeld := hHeld2; clear hHeld2
                            (try simp only [Act.put, List.setIfInBounds_toArray, List.set_cons_zero, List.set_cons_succ])
                            refine lDone (by kernel_rfl) ?_ _
                            have HBE := Lib.hid (BuiJ.of HN.out HX.out HRR.out GZ.out)
                            generalize (v15.setCell ⟨gb, 2, none⟩ (.slice AI2 (i + 1) ci2)).setCell ⟨gb, 3, none⟩ (.slice AO2 (i + 1) co2) = wE at HBE ⊢
                            clear q2 q3 z2 z3 qlt HX H7 H14
                            go_wp2_with fail
                            go_roundw
                            case measure => simp [intOf]; omega
                            case rel => exact ⟨i + 1, by omega, by go_num, by rw [HANN.out], HBE⟩
                          exact AllL.nil
                        exact AllL.nil
                      exact AllL.nil
                    exact AllL.nil
                  exact AllL.nil
                refine AllL.cons (i := 14) rfl (fun K hK => ?_) ?_
                · refine step_new (.cells #[.slice (some ⟨go, 0, none⟩) n n] 26) (fun g => .slice (some ⟨g, 0, none⟩) 1 1) rfl (by kernel_rfl) ?_; intro b14 v14 z14 hc14 hb14; (try have H7 := Lib.hid (H7.out.below hb14 H7.out.lt)); (try have HN14 := Lib.hid (show ∀ k, OwnB AI k → k < b14 from fun k hk => Nat.lt_of_lt_of_le (ownLt HX.out.oi hk).1 z14)); have H14 := Lib.hid (show Blk v14 b14 26 [.slice (some ⟨go, 0, none⟩) n n] from hc14); have HX := Lib.hid (HX.out.below hb14); have GZ := Lib.hid (Nat.le_trans GZ.out hb14.size); clear hc14 hb14 z14
                  (try go_wp2_with fail)
                  refine hK.out _ _ ?_ (fun hHeld2 => ?_)
                  · (try dsimp only); refine ⟨?_, Or.inr ?_, Or.inr ?_⟩
                    · (first | trivial | with_reducible assumption)
                    · (with_reducible exact HX.out.b.cell 2 rfl)
                    · (first | (with_reducible exact HX.out.b.cell 3 rfl) | (go_simp; done))
                  clear hK K
                  clear hHeld; have hHeld := hHeld2; clear hHeld2
                  (try simp only [Act.put, List.setIfInBounds_toArray, List.set_cons_zero, List.set_cons_succ])
                  refine lReady (rs := [7]) (by kernel_rfl) (by simp) ?_
                  refine AllL.cons (i := 7) rfl (fun K hK => ?_) ?_
                  · refine step_new (.cells #[.slice (some ⟨gi, 0, none⟩) n n] 26) (fun g => .slice (some ⟨g, 0, none⟩) 1 1) rfl (by kernel_rfl) ?_; intro b7 v7 z7 hc7 hb7; (try have H14 := Lib.hid (H14.out.below hb7 H14.out.lt)); have H7 := Lib.hid (show Blk v7 b7 26 [.slice (some ⟨gi, 0, none⟩) n n] from hc7); have HX := Lib.hid (HX.out.below hb7); have GZ := Lib.hid (Nat.le_trans GZ.out hb7.size); clear hc7 hb7 z7
                    (try go_wp2_with fail)
                    refine hK.out _ _ ?_ (fun hHeld2 => ?_)
                    · (try dsimp only); refine ⟨?_, Or.inr ?_, Or.inr ?_⟩
                      · (first | trivial | with_reducible assumption)
                      · (with_reducible exact HX.out.b.cell 2 rfl)
                      · (first | (with_reducible exact HX.out.b.cell 3 rfl) | (go_simp; done))
                    clear hK K
                    clear hHeld; have hHeld := hHeld2; clear hHeld2
                    (try simp only [Act.put, List.setIfInBounds_toArray, List.set_cons_zero, List.set_cons_succ])
                    refine lReady (rs := [8]) (by kernel_rfl) (by simp) ?_
                    refine AllL.cons (i := 8) rfl (fun K hK => ?_) ?_
                    · refine step_append_any (.tmp 214) (.tmp 216) 111 rfl rfl w.heap.size 26 i26 (.slice none 0 0) 1 24 Try.underlying111 h26i h26z h26s h26b rfl (by decide) AI i ci vi (by rfl) HX.out.oi (some ⟨b7, 0, none⟩) 1 1 [.slice (some ⟨gi, 0, none⟩) n n] (by rfl) (by rfl) (.inr ⟨_, rfl, fun k u hk => by rcases k with _ | k <;> simp at hk; subst hk; exact H7.out.cell 0 rfl⟩) (by simp [Value.oneCell']) (by unfold maxLen; omega) (by omega) HX.out.bel.size ?_; intro AI2 ci2 v8 hown hgrow hat; (try have H14 := Lib.hid (H14.out.grown hgrow (fun e => by have := HN14.out b14 (ownB_iff.2 e.symm); omega))); have GZ := Lib.hid (Nat.le_trans GZ.out hgrow.size); have HX := Lib.hid (HX.out.growI (Nat.le_refl _) hgrow hown hat); clear hown hgrow hat
                      (try go_wp2_with fail)
                      refine hK.out _ _ ?_ (fun hHeld2 => ?_)
                      · (try dsimp only); refine ⟨?_, Or.inr ?_, Or.inr ?_⟩
                        · (first | trivial | with_reducible assumption)
                        · (with_reducible exact HX.out.b.cell 2 rfl)
                        · (first | (with_reducible exact HX.out.b.cell 3 rfl) | (go_simp; done))
                      clear hK K
                      clear hHeld; have hHeld := hHeld2; clear hHeld2
                      (try simp only [Act.put, List.setIfInBounds_toArray, List.set_cons_zero, List.set_cons_succ])
                      refine lReady (rs := [15]) (by kernel_rfl) (by simp) ?_
                      refine AllL.cons (i := 15) rfl (fun K hK => ?_) ?_
                      · refine step_append_any (.tmp 221) (.tmp 223) 111 rfl rfl w.heap.size 26 i26 (.slice none 0 0) 1 24 Try.underlying111 h26i h26z h26s h26b rfl (by decide) AO i co vo (by rfl) HX.out.oo (some ⟨b14, 0, none⟩) 1 1 [.slice (some ⟨go, 0, none⟩) n n] (by rfl) (by rfl) (.inr ⟨_, rfl, fun k u hk => by rcases k with _ | k <;> simp at hk; subst hk; exact H14.out.cell 0 rfl⟩) (by simp [Value.oneCell']) (by unfold maxLen; omega) (by omega) HX.out.bel.size ?_; intro AO2 co2 v15 hown hgrow hat; have GZ := Lib.hid (Nat.le_trans GZ.out hgrow.size); have HX := Lib.hid (HX.out.growO (Nat.le_refl _) hgrow hown hat); have q2 := HX.out.b.cell 2 rfl; have q3 := HX.out.b.cell 3 rfl; have z2 := HX.out.b.free 2; have z3 := HX.out.b.free 3; have qlt := HX.out.b.lt; clear hown hgrow hat
                        (try go_wp2_with fail)
                        refine hK.out _ _ ?_ (fun hHeld2 => ?_)
                        · (try dsimp only); refine ⟨?_, Or.inr ?_, Or.inr ?_⟩
                          · (first | trivial | with_reducible assumption)
                          · (with_reducible exact HX.out.b.cell 2 rfl)
                          · (first | (with_reducible exact HX.out.b.cell 3 rfl) | (go_simp; done))
                        clear hK K
                        clear hHeld; have hHeld := hHeld2; clear hHeld2
                        (try simp only [Act.put, List.setIfInBounds_toArray, List.set_cons_zero, List.set_cons_succ])
                        refine lTake (i := 16) (v := ?_) rfl (by kernel_rfl) (by kernel_rfl) (by kernel_rfl) (fun _ _ _ h => h) (by rfl) (fun _ _ h => by simpa only [getD_set_ne false (show 16 ≠ 18 by decide), getD_set_ne false (show 16 ≠ 21 by decide)] using h) (fun _ _ h => by simpa only [getD_set_ne false (show 16 ≠ 18 by decide), getD_set_ne false (show 16 ≠ 21 by decide)] using h) ?_ (by assumption) (fun hHeld2 => ?_)
                        rotate_left 1
                        · (intro _ _ _ _ _; first | (go_simp; done) | (go_simp; with_reducible rfl))
                        clear hHeld; have hHeld := hHeld2; clear hHeld2
                        (try simp only [Act.put, List.setIfInBounds_toArray, List.set_cons_zero, List.set_cons_succ])
                        refine lTake (i := 17) (v := ?_) rfl (by kernel_rfl) (by kernel_rfl) (by kernel_rfl) (fun _ _ _ h => h) (by rfl) (fun _ _ h => by simpa only [getD_set_ne false (show 17 ≠ 18 by decide), getD_set_ne false (show 17 ≠ 21 by decide)] using h) (fun _ _ h => by simpa only [getD_set_ne false (show 17 ≠ 18 by decide), getD_set_ne false (show 17 ≠ 21 by decide)] using h) ?_ (by assumption) (fun hHeld2 => ?_)
                        rotate_left 1
                        · (intro _ _ _ _ _; first | (go_simp; done) | (go_simp; with_reducible rfl))
                        clear hHeld; have hHeld := hHeld2; clear hHeld2
                        (try simp only [Act.put, List.setIfInBounds_toArray, List.set_cons_zero, List.set_cons_succ])
                        refine lReady (rs := [18]) (by kernel_rfl) (by simp) ?_
                        refine AllL.cons (i := 18) rfl (fun K hK => ?_) ?_
                        · go_simp
                          (try go_wp2_with fail)
                          refine hK.out _ _ ?_ (fun hHeld2 => ?_)
                          · (try dsimp only); refine ⟨?_, Or.inl (by rfl), Or.inr ?_⟩
                            · (first | trivial | with_reducible assumption)
                            · (first | (with_reducible exact HX.out.b.cell 3 rfl) | (go_simp; done))
                          clear hK K
                          clear hHeld; have hHeld := hHeld2; clear hHeld2
                          (try simp only [Act.put, List.setIfInBounds_toArray, List.set_cons_zero, List.set_cons_succ])
                          refine lTake (i := 19) (v := ?_) rfl (by kernel_rfl) (by kernel_rfl) (by kernel_rfl) (fun _ _ _ h => h) (by rfl) (fun _ _ h => by simpa only [getD_set_ne false (show 19 ≠ 18 by decide), getD_set_ne false (show 19 ≠ 21 by decide)] using h) (fun _ _ h => by simpa only [getD_set_ne false (show 19 ≠ 18 by decide), getD_set_ne false (show 19 ≠ 21 by decide)] using h) ?_ (by assumption) (fun hHeld2 => ?_)
                          rotate_left 1
                          · (intro _ _ _ _ _; first | (go_simp; done) | (go_simp; with_reducible rfl))
                          clear hHeld; have hHeld := hHeld2; clear hHeld2
                          (try simp only [Act.put, List.setIfInBounds_toArray, List.set_cons_zero, List.set_cons_succ])
                          refine lTake (i := 20) (v := ?_) rfl (by kernel_rfl) (by kernel_rfl) (by kernel_rfl) (fun _ _ _ h => h) (by rfl) (fun _ _ h => by simpa only [getD_set_ne false (show 20 ≠ 18 by decide), getD_set_ne false (show 20 ≠ 21 by decide)] using h) (fun _ _ h => by simpa only [getD_set_ne false (show 20 ≠ 18 by decide), getD_set_ne false (show 20 ≠ 21 by decide)] using h) ?_ (by assumption) (fun hHeld2 => ?_)
                          rotate_left 1
                          · (intro _ _ _ _ _; first | (go_simp; done) | (go_simp; with_reducible rfl))
                          clear hHeld; have hHeld := hHeld2; clear hHeld2
                          (try simp only [Act.put, List.setIfInBounds_toArray, List.set_cons_zero, List.set_cons_succ])
                          refine lReady (rs := [21]) (by kernel_rfl) (by simp) ?_
                          refine AllL.cons (i := 21) rfl (fun K hK => ?_) ?_
                          · go_simp
                            (try go_wp2_with fail)
                            refine hK.out _ _ ?_ (fun hHeld2 => ?_)
                            · (try dsimp only); refine ⟨?_, Or.inl (by rfl), Or.inl (by rfl)⟩
                              · (first | trivial | with_reducible assumption)
                            clear hK K
                            clear hHeld; have hHeld := hHeld2; clear hHeld2
                            (try simp only [Act.put, List.setIfInBounds_toArray, List.set_cons_zero, List.set_cons_succ])
                            refine lDone (by kernel_rfl) ?_ _
                            have HBE := Lib.hid (BuiJ.of HN.out HX.out HRR.out GZ.out)
                            generalize (v15.setCell ⟨gb, 2, none⟩ (.slice AI2 (i + 1) ci2)).setCell ⟨gb, 3, none⟩ (.slice AO2 (i + 1) co2) = wE at HBE ⊢
                            clear q2 q3 z2 z3 qlt HX H7 H14
                            go_wp2_with fail
                            go_roundw
                            case measure => simp [intOf]; omega
                            case rel => exact ⟨i + 1, by omega, by go_num, by rw [HANN.out], HBE⟩
                          exact AllL.nil
                        exact AllL.nil
                      exact AllL.nil
                    exact AllL.nil
                  exact AllL.nil
                exact AllL.nil
    · obtain rfl : m = i := by omega
      go_wp2_with fail
      have hfin := HR.out
      unfold CoK at hfin
      exact hfin _ _ _ _ _ _ _ _ _ _ _ _ _ _ _ _ _ _ _ _ _ _ _ _ _ _ _ _ _ _ _ _ _ _ _ _ _ _ _ _ _ _ _ _ _ _ _ _ _ _ _ _ _ _ _ _ _ _ _ _ _ _ _ _ _ _ _ _ _ _ _ _ _ _ _ _ _ _ _ _ _ _ _ _ _ _ _ _ _ _ _ _ _ _ _ _ _ _ _ _ _ _ _ _ _ _ _ _ _ _ _ _ _ _ _ _ _ _ _ _ _ _ _ _ _ _ _ _ _ _ _ _ _ _ _ _ _ _ _ _ _ _ _ _ _ _ _ _ _ _ _ _ _ _ _ _ _ _ _ _ _ _ _ _ _ _ _ _ _ _ _ _ _ _ _ _ _ _ _ _ _ _ _ _ _ _ _ _ _ _ _ _ _ _ _ _ _ _ _ _ _ _ _ _ _ _ _ _ _ _ _ _ _ _ _ _ _ _ _ _ _ _ _ _ _ _ _ _ _ _ _ _ _ _ _ _ _ _ _ _ _ _ _ _ _ _ _ _ _ _ _ _ _ HJ.out
end Go.Proofs.Ytmebpglkeedaoaa
namespace Go.Proofs.Ytmebpglkeedaoaa
open Go.RowKit Dp
def BldP (S : Site) (cs : List Car) (w : World) (gb : Nat) (W : World) : Prop := ∃ gs A cap AI AO ci co vi vo, BdJ w gs gb A cap AI AO ci co cs.length vi vo (supN S cs) (carsA S cs cs.length) W ∧ RowsF W S.lim.length W.heap.size vi (inR S cs) cs.length ∧ RowsF W S.lim.length W.heap.size vo (outR S cs) cs.length
def R76 (S : Site) (cs : List Car) (w : World) : Ending → World → Prop := fun e w' => ∃ b, e = .returned (.pointer (some ⟨b, 0, none⟩)) ∧ BldP S cs w b w'
set_option maxHeartbeats 8000000 in
set_option maxRecDepth 100000 in
theorem bld8 (S : Site) (cs : List Car) (gs gb M : Nat) (w W0 : World) (h0 : stE S cs = 0) (hM : M = nodesN S cs) (hJ : BuiJ S cs w gs gb M cs.length W0) {y0 y1 y2 y3 y4 y5 y7 y8 y9 y10 y11 y12 y13 y14 y15 y16 y17 y18 y19 y20 y21 y22 y23 y24 y25 y26 y27 y28 y29 y30 y31 y32 y33 y34 y35 y36 y37 y38 y39 y40 y41 y42 y43 y44 y45 y46 y47 y48 y49 y50 y51 y52 y53 y54 y55 y56 y57 y58 y59 y60 y61 y62 y63 y64 y65 y66 y67 y68 y69 y70 y71 y72 y73 y74 y75 y76 y77 y78 y79 y80 y81 y82 y83 y84 y85 y86 y87 y88 y89 y90 y91 y92 y93 y94 y95 y96 y97 y98 y99 y100 y101 y102 y103 y104 y105 y106 y107 y108 y109 y110 y111 y112 y113 y114 y115 y116 y117 y118 y119 y120 y121 y122 y123 y124 y125 y126 y127 y128 y129 y130 y131 y132 y133 y134 y135 y136 y137 y138 y139 y140 y141 y142 y143 y144 y145 y146 y147 y148 y149 y150 y151 y152 y153 y154 y155 y156 y157 y158 y159 y160 y161 y162 y163 y164 y165 y166 y167 y168 y169 y170 y171 y172 y173 y174 y175 y176 y177 y178 y179 y180 y181 y182 y183 y184 y185 y186 y187 y188 y189 y190 y191 y192 y193 y194 y195 y196 y197 y198 y199 y200 y201 y202 y203 y204 y205 y206 y207 y208 y209 y210 y211 y212 y213 y214 y215 y216 y217 y218 y219 y220 y221 y222 y223 y224 y225 y226 y227 y228 y229 y230 y231 y232 y233 y234 y235 y236 y237 y238 y239 y240 y241 y242 y243 y244 y245 y246 y247 y248 y249 y250 y251 y252 : Value} :
    Code.wp Try.prog end76 (bodyPost Try.prog Try.f76 (R76 S cs w)) { tmps := List.toArray (y0 :: y1 :: y2 :: y3 :: y4 :: y5 :: (.pointer (some ⟨gb, 0, none⟩) : Value) :: y7 :: y8 :: y9 :: y10 :: y11 :: y12 :: y13 :: y14 :: y15 :: y16 :: y17 :: y18 :: y19 :: y20 :: y21 :: y22 :: y23 :: y24 :: y25 :: y26 :: y27 :: y28 :: y29 :: y30 :: y31 :: y32 :: y33 :: y34 :: y35 :: y36 :: y37 :: y38 :: y39 :: y40 :: y41 :: y42 :: y43 :: y44 :: y45 :: y46 :: y47 :: y48 :: y49 :: y50 :: y51 :: y52 :: y53 :: y54 :: y55 :: y56 :: y57 :: y58 :: y59 :: y60 :: y61 :: y62 :: y63 :: y64 :: y65 :: y66 :: y67 :: y68 :: y69 :: y70 :: y71 :: y72 :: y73 :: y74 :: y75 :: y76 :: y77 :: y78 :: y79 :: y80 :: y81 :: y82 :: y83 :: y84 :: y85 :: y86 :: y87 :: y88 :: y89 :: y90 :: y91 :: y92 :: y93 :: y94 :: y95 :: y96 :: y97 :: y98 :: y99 :: y100 :: y101 :: y102 :: y103 :: y104 :: y105 :: y106 :: y107 :: y108 :: y109 :: y110 :: y111 :: y112 :: y113 :: y114 :: y115 :: y116 :: y117 :: y118 :: y119 :: y120 :: y121 :: y122 :: y123 :: y124 :: y125 :: y126 :: y127 :: y128 :: y129 :: y130 :: y131 :: y132 :: y133 :: y134 :: y135 :: y136 :: y137 :: y138 :: y139 :: y140 :: y141 :: y142 :: y143 :: y144 :: y145 :: y146 :: y147 :: y148 :: y149 :: y150 :: y151 :: y152 :: y153 :: y154 :: y155 :: y156 :: y157 :: y158 :: y159 :: y160 :: y161 :: y162 :: y163 :: y164 :: y165 :: y166 :: y167 :: y168 :: y169 :: y170 :: y171 :: y172 :: y173 :: y174 :: y175 :: y176 :: y177 :: y178 :: y179 :: y180 :: y181 :: y182 :: y183 :: y184 :: y185 :: y186 :: y187 :: y188 :: y189 :: y190 :: y191 :: y192 :: y193 :: y194 :: y195 :: y196 :: y197 :: y198 :: y199 :: y200 :: y201 :: y202 :: y203 :: y204 :: y205 :: y206 :: y207 :: y208 :: y209 :: y210 :: y211 :: y212 :: y213 :: y214 :: y215 :: y216 :: y217 :: y218 :: y219 :: y220 :: y221 :: y222 :: y223 :: y224 :: y225 :: y226 :: y227 :: y228 :: y229 :: y230 :: y231 :: y232 :: y233 :: y234 :: y235 :: y236 :: y237 :: y238 :: y239 :: y240 :: y241 :: y242 :: y243 :: y244 :: y245 :: y246 :: y247 :: y248 :: y249 :: y250 :: y251 :: y252 :: []), defers := [] } W0 := by
  obtain ⟨A, cap, AI, AO, ci, co, vi, vo, hj1, hj2, hj3⟩ := hJ
  obtain ⟨l, hl⟩ : ∃ l, l = carsS S cs cs.length := ⟨_, rfl⟩
  have hlen : l.length = M := by rw [hl, carsS_len, hM]; rfl
  have hM1 : 2 ≤ M ∧ M ≤ 833 := by have := nodes_bd h0; have := (siteHead_iff.1 (stE_0 h0).2.1).1; omega
  rw [show supC S cs M cs.length = l from by rw [hM, supC_all, hl]] at hj1
  have HBD := Lib.hid (fun j (hj : j ≤ 1024) => sumT_bd (l := l) (by rw [hl]; exact carsS_bd h0 _ (Nat.le_refl _)) j hj)
  have HEB := Lib.hid (fun j (hj : j < M) => (show -1048576 ≤ l.getD j 0 ∧ l.getD j 0 ≤ 1048576 from by
    have : l.getD j 0 ∈ l := by rw [List.getD_eq_getElem?_getD, List.getElem?_eq_getElem (by omega)]; exact List.getElem_mem _
    rw [hl] at this
    exact carsS_bd h0 _ (Nat.le_refl _) _ (by rw [← hl] at this ⊢; exact this)))
  have HSU := Lib.hid (fun j (hj : j + 1 < M) => sumT_succ l j (by omega))
  have h00 : l.getD 0 0 = 0 := by rw [hl]; exact carsS_head _ _ _
  have HALL := Lib.hid (sumT_all l h00 (by omega))
  have HST : Hid (l.set 0 (-(sumT l 0)) = l) := Lib.hid (by
    rw [sumT_zero]
    cases l with
    | nil => rfl
    | cons a t => have : a = 0 := h00; subst this; rfl)
  have HSN : Hid (supN S cs = l.set 0 (-(sum l))) := Lib.hid (by rw [hl]; rfl)
  have HLEN := Lib.hid hlen
  have HGT := Lib.hid (fun (j : Nat) (v : Int) (hj : 0 < j) => (show (l.set 0 v).getD j 0 = l.getD j 0 from by rw [List.getD_eq_getElem?_getD, List.getElem?_set_ne (by omega), ← List.getD_eq_getElem?_getD]))
  have HG0 := Lib.hid (fun (v : Int) => (show (l.set 0 v).getD 0 0 = v from by rw [List.getD_eq_getElem?_getD, List.getElem?_set_self (by omega)]; rfl))
  have HSS := Lib.hid (fun (u v : Int) => (List.set_set (a := u) (b := v) (l := l) (i := 0)))
  have HBJ : Hid (BdJ w gs gb A cap AI AO ci co cs.length vi vo (l.set 0 (-(sumT l 0))) (carsA S cs cs.length) W0) := Lib.hid (by rw [HST.out]; exact hj1)
  have HR1 := Lib.hid hj2
  have HR2 := Lib.hid hj3
  clear hj1 hj2 hj3 h00 hl hlen h0 hM HST
  obtain ⟨p, hp⟩ : ∃ p, M = p + 1 := ⟨M - 1, by omega⟩
  subst hp
  generalize hGW : W0.heap.size = G at *
  have HGW : Hid (G ≤ W0.heap.size) := Lib.hid (by omega)
  clear hGW
  conv => arg 2; whnf
  have b0 := HBJ.out.b.cell 0 rfl
  rw [List.length_set, HLEN.out] at b0
  have bl := HBJ.out.b.lt
  have m1 : (1 : Int) ≤ (p : Int) + 1 := by omega
  go_wp2_with fail
  clear b0 bl
  go_loopw [18, 237] (fun _ iv wr => ∃ j : Nat, j ≤ p ∧ iv = .int .i64 j ∧ Hid (BdJ w gs gb A cap AI AO ci co cs.length vi vo (l.set 0 (-(sumT l j))) (carsA S cs cs.length) wr ∧ RowsF wr S.lim.length G vi (inR S cs) cs.length ∧ RowsF wr S.lim.length G vo (outR S cs) cs.length ∧ G ≤ wr.heap.size)) (fun _ iv _ => p - (intOf iv).toNat)
  case atStart => exact ⟨0, Nat.zero_le _, rfl, Lib.hid ⟨HBJ.out, HR1.out, HR2.out, HGW.out⟩⟩
  case round =>
    clear HBJ HR1 HR2 HGW
    obtain ⟨j, hj, rfl, HJ⟩ := hrel
    have HB := Lib.hid HJ.out.1
    have HR1 := Lib.hid HJ.out.2.1
    have HR2 := Lib.hid HJ.out.2.2.1
    have HGW := Lib.hid HJ.out.2.2.2
    clear HJ
    by_cases hlt : j < p
    · have hji : (j : Int) < (p : Int) := by omega
      have b0 := HB.out.b.cell 0 rfl
      rw [List.length_set, HLEN.out] at b0
      have bl := HB.out.b.lt
      have s0 := HB.out.s.cell 0 (by rw [List.length_set, HLEN.out]; omega)
      rw [HG0.out] at s0
      have sx := HB.out.s.cell (1 + j) (by rw [List.length_set, HLEN.out]; omega)
      rw [HGT.out (1 + j) _ (by omega), Nat.add_comm 1 j] at sx
      have sz := HB.out.s.free 0
      have sl := HB.out.s.lt
      have x1 := HBD.out j (by omega)
      have x2 := HEB.out (j + 1) (by omega)
      have HN := Lib.hid (HSU.out j (by omega))
      have HB2 := Lib.hid (fun v => HB.out.set 0 v)
      have HQ1 := Lib.hid (fun v => HR1.out.set (p := ⟨gs, 0, none⟩) HB.out.s (.inl (by decide)) v)
      have HQ2 := Lib.hid (fun v => HR2.out.set (p := ⟨gs, 0, none⟩) HB.out.s (.inl (by decide)) v)
      generalize l.getD (j + 1) 0 = x at *
      generalize sumT l j = sj at *
      have sx2 : wr.cell? ⟨gs, 1 + j, none⟩ = some (.int .i64 x) := by rw [Nat.add_comm 1 j]; exact sx
      have we : IntKind.i64.wrap (-sj - x) = -sj - x := IntWalk.i64_in _ (by omega)
      have pz : (0 : Int) < (p : Int) + 1 := by omega
      have HE : Hid (BdJ w gs gb A cap AI AO ci co cs.length vi vo (l.set 0 (-(sumT l (j + 1)))) (carsA S cs cs.length) (wr.setCell ⟨gs, 0, none⟩ (.int .i64 (-sj - x))) ∧ RowsF (wr.setCell ⟨gs, 0, none⟩ (.int .i64 (-sj - x))) S.lim.length G vi (inR S cs) cs.length ∧ RowsF (wr.setCell ⟨gs, 0, none⟩ (.int .i64 (-sj - x))) S.lim.length G vo (outR S cs) cs.length ∧ G ≤ (wr.setCell ⟨gs, 0, none⟩ (.int .i64 (-sj - x))).heap.size) := Lib.hid (by
        have h1 := HB2.out (-sj - x)
        rw [HSS.out] at h1
        refine ⟨?_, HQ1.out _, HQ2.out _, by simpa using HGW.out⟩
        rw [HN.out, show -(sj + x) = -sj - x by omega]
        exact h1)
      clear x1 x2 HB2 HQ1 HQ2 HN HB HR1 HR2 HGW
      go_upto_region 40 with fail
      clear b0 bl s0 sx sx2 sz sl
      generalize wr.setCell ⟨gs, 0, none⟩ (.int .i64 (-sj - x)) = w2 at HE ⊢
      go_wp2_with fail
      exact ⟨⟨j + 1, by omega, by go_num, HE⟩, by simp [intOf]; omega⟩
    · obtain rfl : p = j := by omega
      have HE := Lib.hid HB.out
      rw [show sumT l p = sum l from by have := HALL.out; rw [HLEN.out] at this; exact this, ← HSN.out] at HE
      go_wp2_with fail
      conv => arg 2; whnf
      go_wp2_with fail
      exact bodyPost_ret (v := .pointer (some ⟨gb, 0, none⟩)) (by simp [results, Try.results76, go_sem]) rfl ⟨gb, rfl, gs, A, cap, AI, AO, ci, co, vi, vo, HE.out, HR1.out.up HGW.out, HR2.out.up HGW.out⟩
end Go.Proofs.Ytmebpglkeedaoaa
namespace Go.Proofs.Ytmebpglkeedaoaa
open Go.RowKit Dp
def BuA (w : World) (gs gb : Nat) (cv : List Value) (M : Nat) (arcs : List Arc) (W : World) : Prop := ∃ A cap, BdJ w gs gb A cap none none 0 0 0 [] [] (List.replicate M 0) arcs W ∧ Blk W w.heap.size 51 cv
theorem BuA.push {w wa Va w5 : World} {gs gb M cap cap2 m : Nat} {cv : List Value} {A A2 : Option Addr} {arcs news : List Arc} (h : BdJ w gs gb A cap none none 0 0 0 [] [] (List.replicate M 0) arcs wa) (hs : Blk wa w.heap.size 51 cv) (hm : m = news.length) (hV : w5 = Va.setCell ⟨gb, 1, none⟩ (.slice A2 (arcs.length + m) cap2)) (hg : wa.grownBy Va (Value.slice A arcs.length cap).ownBlock) (ho : Va.ownsRow w.heap.size 46 4 (.slice A2 (arcs.length + m) cap2) (arcs.length + m) (flat arcV (arcs ++ news))) : BuA w gs gb cv M (arcs ++ news) w5 := by
  have el : (arcs ++ news).length = arcs.length + m := by simp [hm]
  rw [← el] at hV ho
  subst hV
  have s1 := hs.grown hg (blk_own_ne hs h.own (by decide))
  have b1 := h.b.grown hg (blk_own_ne h.b h.own (by decide))
  exact ⟨A2, cap2, h.push hg ho, s1.setCell_ne (fun e => blk_type_ne s1 b1 (by decide) e.symm) _⟩
set_option maxHeartbeats 8000000 in
set_option maxRecDepth 100000 in
theorem build_c (X1 X2 X3 X4 E : Option Addr) (S : Site) (cs : List Car) (n m cA cB cC cD cE : Nat) (w : World) (h0 : stE S cs = 0) (hn : n = S.lim.length) (hm : m = cs.length)
    (hA : n ≤ cA ∧ cA ≤ 9223372036854775807) (hB : n ≤ cB ∧ cB ≤ 9223372036854775807) (hC : n ≤ cC ∧ cC ≤ 9223372036854775807) (hD : n ≤ cD ∧ cD ≤ 9223372036854775807) (hE : m ≤ cE ∧ cE ≤ 9223372036854775807)
    (hS : SiteAt w X1 X2 X3 X4 S) (hcs : CarsAt w E cs) :
    Calls Try.prog 76 #[.agg #[.slice X1 n cA, .slice X2 n cB, .slice X3 n cC, .slice X4 n cD], .slice E m cE] w (R76 S cs w) := by
  have H0 := Lib.hid h0
  have HN := Lib.hid hn
  have HM := Lib.hid hm
  have HCS := Lib.hid hcs
  have hsh := (siteHead_iff.1 (stE_0 h0).2.1)
  have h48 : n ≤ 48 := by omega
  have h1n : 1 ≤ n := by omega
  have h8 : m ≤ 8 := by have := (stE_0 h0).1; omega
  obtain ⟨M, hM⟩ : ∃ M, M = nodesN S cs := ⟨_, rfl⟩
  have HMM := Lib.hid hM
  have hM2 : M ≤ 833 ∧ n + 1 ≤ M := by have := nodes_bd h0; omega
  have hMv : 1 + (n : Int) + 2 * (m : Int) * ((n : Int) + 1) = (M : Int) := by
    have e : (2 * (m : Int)) * ((n : Int) + 1) = ((2 * (m * (n + 1)) : Nat) : Int) := by
      rw [Int.mul_assoc, show (m : Int) * ((n : Int) + 1) = ((m * (n + 1) : Nat) : Int) from by rw [Int.natCast_mul]; rfl]; rfl
    rw [e, hM]; unfold nodesN nodeF; rw [← hn, ← hm]; omega
  have HSB := Lib.hid (fun t (ht : t < n) => slotOk_iff.1 ((stE_0 h0).2.2.1 t (by omega)))
  have HSV : Hid (∀ t, t < n → ∀ V, Below w.heap.size w V → (∃ a, X1 = some a ∧ V.cell? (a.add t) = some (.int .i64 (S.lim.getD t 0)) ∧ (a.add t).block < V.heap.size) ∧ (∃ a, X2 = some a ∧ V.cell? (a.add t) = some (.int .i64 (S.exp.getD t 0)) ∧ (a.add t).block < V.heap.size) ∧ (∃ a, X3 = some a ∧ V.cell? (a.add t) = some (.int .i64 (S.buy.getD t 0)) ∧ (a.add t).block < V.heap.size) ∧ (∃ a, X4 = some a ∧ V.cell? (a.add t) = some (.int .i64 (S.sell.getD t 0)) ∧ (a.add t).block < V.heap.size)) := Lib.hid (fun t ht V hV => by
    have h := hS.below hV (Nat.le_refl _)
    obtain ⟨a1, e1, l1, c1⟩ := h.1 t (by omega)
    obtain ⟨a2, e2, l2, c2⟩ := h.2.1 t (by omega)
    obtain ⟨a3, e3, l3, c3⟩ := h.2.2.1 t (by omega)
    obtain ⟨a4, e4, l4, c4⟩ := h.2.2.2 t (by omega)
    exact ⟨⟨a1, e1, c1, by rw [block_add]; exact l1⟩, ⟨a2, e2, c2, by rw [block_add]; exact l2⟩, ⟨a3, e3, c3, by rw [block_add]; exact l3⟩, ⟨a4, e4, c4, by rw [block_add]; exact l4⟩⟩)
  have hmk := make_64 M (by omega)
  have HSC : Hid (supC S cs M 0 = List.replicate M 0) := Lib.hid (by rw [hM]; exact supC_none S cs (nodes_bd h0).2)
  have HAR : Hid (limA S n ++ expA S n = carsA S cs 0) := Lib.hid (by rw [hn]; rfl)
  have HNF : Hid (nodeF n 0 0 = 1 + n) := Lib.hid (by unfold nodeF; omega)
  have HLL := Lib.hid (fun t => And.intro (limA_len S t) (expA_len S t))
  clear h0 hn hm hcs hsh hM hS
  have w1e : IntKind.i64.wrap (1 + (n : Int)) = 1 + (n : Int) := IntWalk.i64_in _ (by omega)
  have w2e : IntKind.i64.wrap (2 * (m : Int)) = 2 * (m : Int) := IntWalk.i64_in _ (by omega)
  have w3e : IntKind.i64.wrap ((n : Int) + 1) = (n : Int) + 1 := IntWalk.i64_in _ (by omega)
  obtain ⟨pr, hpr⟩ : ∃ pr, pr = 2 * (m : Int) * ((n : Int) + 1) := ⟨_, rfl⟩
  rw [← hpr] at hMv
  have w4e : IntKind.i64.wrap (2 * (m : Int) * ((n : Int) + 1)) = pr := by rw [← hpr]; exact IntWalk.i64_in _ (by omega)
  have w5e : IntKind.i64.wrap (1 + (n : Int) + pr) = (M : Int) := by rw [hMv]; exact IntWalk.i64_in _ (by omega)
  clear hpr hMv
  have HB := Lib.hid ((((Below.refl w.heap.size w).alloc (Nat.le_refl _) (.cells #[.slice X1 n cA, .slice X2 n cB, .slice X3 n cC, .slice X4 n cD] 51)).alloc (by simp) (.cells (Array.replicate M (.int .i64 0)) 2)).alloc (by simp; omega) (.cells #[.slice (some ⟨w.heap.size + 1, 0, none⟩) M M, .slice none 0 0, .slice none 0 0, .slice none 0 0] 125))
  have XS := Lib.hid (((Blk.new' w #[.slice X1 n cA, .slice X2 n cB, .slice X3 n cC, .slice X4 n cD] 51).alloc (.cells (Array.replicate M (.int .i64 0)) 2)).alloc (.cells #[.slice (some ⟨w.heap.size + 1, 0, none⟩) M M, .slice none 0 0, .slice none 0 0, .slice none 0 0] 125))
  have XF : Hid (Fl 2 (((w.alloc (.cells #[.slice X1 n cA, .slice X2 n cB, .slice X3 n cC, .slice X4 n cD] 51)).alloc (.cells (Array.replicate M (.int .i64 0)) 2)).alloc (.cells #[.slice (some ⟨w.heap.size + 1, 0, none⟩) M M, .slice none 0 0, .slice none 0 0, .slice none 0 0] 125)) (w.heap.size + 1) (List.replicate M 0)) := Lib.hid (by have := (fl_new 2 M (w.alloc (.cells #[.slice X1 n cA, .slice X2 n cB, .slice X3 n cC, .slice X4 n cD] 51))); have := Blk.alloc this (.cells #[.slice (some ⟨w.heap.size + 1, 0, none⟩) M M, .slice none 0 0, .slice none 0 0, .slice none 0 0] 125); unfold Fl; simpa using this)
  have XB : Hid (Blk (((w.alloc (.cells #[.slice X1 n cA, .slice X2 n cB, .slice X3 n cC, .slice X4 n cD] 51)).alloc (.cells (Array.replicate M (.int .i64 0)) 2)).alloc (.cells #[.slice (some ⟨w.heap.size + 1, 0, none⟩) M M, .slice none 0 0, .slice none 0 0, .slice none 0 0] 125)) (w.heap.size + 1 + 1) 125 [.slice (some ⟨w.heap.size + 1, 0, none⟩) M M, .slice none 0 0, .slice none 0 0, .slice none 0 0]) := Lib.hid (by have := Blk.new' ((w.alloc (.cells #[.slice X1 n cA, .slice X2 n cB, .slice X3 n cC, .slice X4 n cD] 51)).alloc (.cells (Array.replicate M (.int .i64 0)) 2)) #[.slice (some ⟨w.heap.size + 1, 0, none⟩) M M, .slice none 0 0, .slice none 0 0, .slice none 0 0] 125; simpa using this)
  go_enter Try.func76, Try.ntmps76
  go_upto_region 3 with fail
  (try simp only [World.size_alloc, Nat.add_assoc, Nat.reduceAdd])
  (try simp only [Nat.add_assoc, Nat.reduceAdd] at HB XS XF XB)
  generalize (((w.alloc (.cells #[.slice X1 n cA, .slice X2 n cB, .slice X3 n cC, .slice X4 n cD] 51)).alloc (.cells (Array.replicate M (.int .i64 0)) 2)).alloc (.cells #[.slice (some ⟨w.heap.size + 1, 0, none⟩) M M, .slice none 0 0, .slice none 0 0, .slice none 0 0] 125)) = w1 at HB XS XF XB ⊢
  have HJ0 : Hid (BuA w (w.heap.size + 1) (w.heap.size + 2) [.slice X1 n cA, .slice X2 n cB, .slice X3 n cC, .slice X4 n cD] M (limA S 0) w1) := Lib.hid ⟨none, 0, ⟨by rw [List.length_replicate]; exact XB.out, XF.out, World.ownsRow_nil _ _ _ _, World.ownsRow_nil _ _ _ _, World.ownsRow_nil _ _ _ _, (fun k h => by obtain ⟨_, e, _⟩ := h; cases e), ⟨by omega, by omega⟩, HB.out⟩, XS.out⟩
  clear HB XS XF XB
  generalize w.heap.size + 2 = gb at *
  generalize w.heap.size + 1 = gs at *
  go_wp2_with fail
  go_loopw [7, 36] (fun _ iv wr => ∃ t : Nat, t ≤ n ∧ iv = .int .i64 t ∧ Hid (BuA w gs gb [.slice X1 n cA, .slice X2 n cB, .slice X3 n cC, .slice X4 n cD] M (limA S t) wr)) (fun _ iv _ => n - (intOf iv).toNat)
  case atStart => exact ⟨0, Nat.zero_le _, rfl, HJ0⟩
  case round =>
    clear HJ0
    obtain ⟨t, ht, rfl, HJ⟩ := hrel
    by_cases hlt : t < n
    · have hti : (t : Int) < (n : Int) := by omega
      obtain ⟨A, cap, hj1, hj2⟩ := HJ.out
      have HBD := Lib.hid hj1
      have XS := Lib.hid hj2
      clear hj1 hj2 HJ
      obtain ⟨⟨a1, e1, l1, q1⟩, ⟨a2, e2, l2, q2⟩, ⟨a3, e3, l3, q3⟩, ⟨a4, e4, l4, q4⟩⟩ := HSV.out t hlt wr HBD.out.bel
      subst e1
      subst e2
      subst e3
      subst e4
      have hb := HSB.out t hlt
      have HLN := Lib.hid (HLL.out t)
      have HLN2 := Lib.hid (HLL.out n)
      have HNX : Hid ((limA S (t + 1)) = (limA S t) ++ [Dp.Arc.mk 0 (1 + (t : Int)) (S.lim.getD t 0) (S.buy.getD t 0)]) := Lib.hid (by rfl)
      generalize S.lim.getD t 0 = lm at *
      generalize S.exp.getD t 0 = ex at *
      generalize S.buy.getD t 0 = bu at *
      generalize S.sell.getD t 0 = se at *
      have t1e : IntKind.i64.wrap (1 + (t : Int)) = 1 + (t : Int) := IntWalk.i64_in _ (by omega)
      have sne : IntKind.i64.wrap (-se) = -se := IntWalk.i64_in _ (by omega)
      have s0 := XS.out.cell 0 rfl
      have s1 := XS.out.cell 1 rfl
      have s2 := XS.out.cell 2 rfl
      have s3 := XS.out.cell 3 rfl
      have sl := XS.out.lt
      go_upto_region 6 with fail
      refine wp_region_priv 15 [.q, .q, .q, .q, .q, .q, .q, .q, .q, .q, .q, .q, .q, .q, .p] (fun _ => (.cells #[.int .i64 0, .int .i64 (1 + (t : Int)), .int .i64 lm, .int .i64 bu] 46, fun b => .slice (some ⟨b, 0, none⟩) 1 1)) ?af6 (by kernel_rfl) (by kernel_rfl) ?walk6 ?tail6
      case walk6 =>
        intro V hV
        have XSV := XS.out.below hV XS.out.lt
        have s0 := XSV.cell 0 rfl
        have s1 := XSV.cell 1 rfl
        have s2 := XSV.cell 2 rfl
        have s3 := XSV.cell 3 rfl
        have sl := XSV.lt
        have l1 := (hV.cell q1).trans l1
        have q1 := Nat.lt_of_lt_of_le q1 hV.size
        have l2 := (hV.cell q2).trans l2
        have q2 := Nat.lt_of_lt_of_le q2 hV.size
        have l3 := (hV.cell q3).trans l3
        have q3 := Nat.lt_of_lt_of_le q3 hV.size
        have l4 := (hV.cell q4).trans l4
        have q4 := Nat.lt_of_lt_of_le q4 hV.size
        clear hV XSV
        simp only [List.take_succ_cons, List.take_zero]
        repeat (with_reducible refine wpP_q ?_; go_big_quiet_step (fail); with_reducible refine wpQuiet_nil ?_)
        refine wpP_p (by kernel_rfl) (fun _ => by kernel_rfl) ?_
        (try simp only [Act.put, List.setIfInBounds_toArray, List.set_cons_zero, List.set_cons_succ])
        with_reducible refine wpP_nil ?_
        rfl
      case tail6 =>
        intro gs1 w3 hb3 hgs _
        have HBD3 := Lib.hid (HBD.out.below hb3)
        have XS3 := Lib.hid (XS.out.below hb3 XS.out.lt)
        obtain ⟨_, hgb⟩ := hgs 14 rfl
        have GB : Hid (Blk w3 (gs1 14) 46 (flat arcV [Dp.Arc.mk 0 (1 + (t : Int)) lm bu])) := Lib.hid hgb
        clear hb3 hgs hgb HBD XS s0 s1 s2 s3 sl l1 l2 l3 l4 q1 q2 q3 q4
        simp only [List.drop_succ_cons, List.drop_zero, List.take_succ_cons, List.take_zero, fillP]
        (try simp only [Act.put, List.setIfInBounds_toArray, List.set_cons_zero, List.set_cons_succ])
        generalize gs1 14 = ga at *
        go_wp2_with fail
        refine (addG_c w3 gb ((limA S t)).length cap w.heap.size 1 1 A (some ⟨ga, 0, none⟩) _ _ _ (limA S t) [Dp.Arc.mk 0 (1 + (t : Int)) lm bu] rfl rfl (by rw [HLN.out.1]; omega) HBD3.out.b HBD3.out.own (.inr ⟨_, rfl, fun j u hj => by rw [add_row]; exact GB.out.cell j hj⟩) HBD3.out.bel.size).mono ?_
        rintro e w5 ⟨A2, cap2, Va, rfl, hV, hg, ho⟩
        have HE := Lib.hid (BuA.push HBD3.out XS3.out rfl hV hg ho)
        rw [← HNX.out] at HE
        clear hV hg ho HBD3 XS3 GB Va
        go_wp2_with fail
        exact ⟨⟨t + 1, by omega, by go_num, HE⟩, by simp [intOf]; omega⟩
    · obtain rfl : n = t := by omega
      have HJ0 : Hid (BuA w gs gb [.slice X1 n cA, .slice X2 n cB, .slice X3 n cC, .slice X4 n cD] M (limA S n ++ expA S 0) wr) := Lib.hid (by simpa [expA] using HJ.out)
      clear HJ
      go_wp2_with fail
      go_loopw [8, 57] (fun _ iv wr => ∃ t : Nat, t ≤ n ∧ iv = .int .i64 t ∧ Hid (BuA w gs gb [.slice X1 n cA, .slice X2 n cB, .slice X3 n cC, .slice X4 n cD] M (limA S n ++ expA S t) wr)) (fun _ iv _ => n - (intOf iv).toNat)
      case atStart => exact ⟨0, Nat.zero_le _, rfl, HJ0⟩
      case round =>
        clear HJ0
        obtain ⟨t, ht, rfl, HJ⟩ := hrel
        by_cases hlt : t < n
        · have hti : (t : Int) < (n : Int) := by omega
          obtain ⟨A, cap, hj1, hj2⟩ := HJ.out
          have HBD := Lib.hid hj1
          have XS := Lib.hid hj2
          clear hj1 hj2 HJ
          obtain ⟨⟨a1, e1, l1, q1⟩, ⟨a2, e2, l2, q2⟩, ⟨a3, e3, l3, q3⟩, ⟨a4, e4, l4, q4⟩⟩ := HSV.out t hlt wr HBD.out.bel
          subst e1
          subst e2
          subst e3
          subst e4
          have hb := HSB.out t hlt
          have HLN := Lib.hid (HLL.out t)
          have HLN2 := Lib.hid (HLL.out n)
          have HNX : Hid ((limA S n ++ expA S (t + 1)) = (limA S n ++ expA S t) ++ [Dp.Arc.mk (1 + (t : Int)) 0 (S.exp.getD t 0) (-(S.sell.getD t 0))]) := Lib.hid (by rw [List.append_assoc]; rfl)
          generalize S.lim.getD t 0 = lm at *
          generalize S.exp.getD t 0 = ex at *
          generalize S.buy.getD t 0 = bu at *
          generalize S.sell.getD t 0 = se at *
          have t1e : IntKind.i64.wrap (1 + (t : Int)) = 1 + (t : Int) := IntWalk.i64_in _ (by omega)
          have sne : IntKind.i64.wrap (-se) = -se := IntWalk.i64_in _ (by omega)
          have s0 := XS.out.cell 0 rfl
          have s1 := XS.out.cell 1 rfl
          have s2 := XS.out.cell 2 rfl
          have s3 := XS.out.cell 3 rfl
          have sl := XS.out.lt
          go_upto_region 11 with fail
          refine wp_region_priv 16 [.q, .q, .q, .q, .q, .q, .q, .q, .q, .q, .q, .q, .q, .q, .q, .p] (fun _ => (.cells #[.int .i64 (1 + (t : Int)), .int .i64 0, .int .i64 ex, .int .i64 (-se)] 46, fun b => .slice (some ⟨b, 0, none⟩) 1 1)) ?af11 (by kernel_rfl) (by kernel_rfl) ?walk11 ?tail11
          case walk11 =>
            intro V hV
            have XSV := XS.out.below hV XS.out.lt
            have s0 := XSV.cell 0 rfl
            have s1 := XSV.cell 1 rfl
            have s2 := XSV.cell 2 rfl
            have s3 := XSV.cell 3 rfl
            have sl := XSV.lt
            have l1 := (hV.cell q1).trans l1
            have q1 := Nat.lt_of_lt_of_le q1 hV.size
            have l2 := (hV.cell q2).trans l2
            have q2 := Nat.lt_of_lt_of_le q2 hV.size
            have l3 := (hV.cell q3).trans l3
            have q3 := Nat.lt_of_lt_of_le q3 hV.size
            have l4 := (hV.cell q4).trans l4
            have q4 := Nat.lt_of_lt_of_le q4 hV.size
            clear hV XSV
            simp only [List.take_succ_cons, List.take_zero]
            repeat (with_reducible refine wpP_q ?_; go_big_quiet_step (fail); with_reducible refine wpQuiet_nil ?_)
            refine wpP_p (by kernel_rfl) (fun _ => by kernel_rfl) ?_
            (try simp only [Act.put, List.setIfInBounds_toArray, List.set_cons_zero, List.set_cons_succ])
            with_reducible refine wpP_nil ?_
            rfl
          case tail11 =>
            intro gs1 w3 hb3 hgs _
            have HBD3 := Lib.hid (HBD.out.below hb3)
            have XS3 := Lib.hid (XS.out.below hb3 XS.out.lt)
            obtain ⟨_, hgb⟩ := hgs 15 rfl
            have GB : Hid (Blk w3 (gs1 15) 46 (flat arcV [Dp.Arc.mk (1 + (t : Int)) 0 ex (-se)])) := Lib.hid hgb
            clear hb3 hgs hgb HBD XS s0 s1 s2 s3 sl l1 l2 l3 l4 q1 q2 q3 q4
            simp only [List.drop_succ_cons, List.drop_zero, List.take_succ_cons, List.take_zero, fillP]
            (try simp only [Act.put, List.setIfInBounds_toArray, List.set_cons_zero, List.set_cons_succ])
            generalize gs1 15 = ga at *
            go_wp2_with fail
            refine (addG_c w3 gb ((limA S n ++ expA S t)).length cap w.heap.size 1 1 A (some ⟨ga, 0, none⟩) _ _ _ (limA S n ++ expA S t) [Dp.Arc.mk (1 + (t : Int)) 0 ex (-se)] rfl rfl (by rw [List.length_append, HLN2.out.1, HLN.out.2]; omega) HBD3.out.b HBD3.out.own (.inr ⟨_, rfl, fun j u hj => by rw [add_row]; exact GB.out.cell j hj⟩) HBD3.out.bel.size).mono ?_
            rintro e w5 ⟨A2, cap2, Va, rfl, hV, hg, ho⟩
            have HE := Lib.hid (BuA.push HBD3.out XS3.out rfl hV hg ho)
            rw [← HNX.out] at HE
            clear hV hg ho HBD3 XS3 GB Va
            go_wp2_with fail
            exact ⟨⟨t + 1, by omega, by go_num, HE⟩, by simp [intOf]; omega⟩
        · obtain rfl : n = t := by omega
          obtain ⟨A, cap, hj1, hj2⟩ := HJ.out
          have HE : Hid (BuiJ S cs w gs gb M 0 wr) := Lib.hid ⟨A, cap, none, none, 0, 0, [], [], by rw [HSC.out, ← HAR.out]; exact hj1, fun x hx => absurd hx (Nat.not_lt_zero _), fun x hx => absurd hx (Nat.not_lt_zero _)⟩
          clear HJ hj1 hj2
          have h1n2 : (1 : Int) + (n : Int) = ((nodeF n 0 0 : Nat) : Int) := by rw [HNF.out]; omega
          have HHN := Lib.hid h1n2
          clear h1n2
          go_wp2_with fail
          rw [HHN.out]
          rename_i KK hKK
          refine wp_codeP (c' := loop76) (by kernel_rfl) ?_
          refine bld4 S cs E n m cE gs gb M w wr H0.out HN.out HM.out HMM.out hE HCS.out HE.out ?_
          intro y0 y1 y2 y3 y4 y5 y7 y8 y9 y10 y11 y12 y13 y14 y15 y16 y17 y18 y19 y20 y21 y22 y23 y24 y25 y26 y27 y28 y29 y30 y31 y32 y33 y34 y35 y36 y37 y38 y39 y40 y41 y42 y43 y44 y45 y46 y47 y48 y49 y50 y51 y52 y53 y54 y55 y56 y57 y58 y59 y60 y61 y62 y63 y64 y65 y66 y67 y68 y69 y70 y71 y72 y73 y74 y75 y76 y77 y78 y79 y80 y81 y82 y83 y84 y85 y86 y87 y88 y89 y90 y91 y92 y93 y94 y95 y96 y97 y98 y99 y100 y101 y102 y103 y104 y105 y106 y107 y108 y109 y110 y111 y112 y113 y114 y115 y116 y117 y118 y119 y120 y121 y122 y123 y124 y125 y126 y127 y128 y129 y130 y131 y132 y133 y134 y135 y136 y137 y138 y139 y140 y141 y142 y143 y144 y145 y146 y147 y148 y149 y150 y151 y152 y153 y154 y155 y156 y157 y158 y159 y160 y161 y162 y163 y164 y165 y166 y167 y168 y169 y170 y171 y172 y173 y174 y175 y176 y177 y178 y179 y180 y181 y182 y183 y184 y185 y186 y187 y188 y189 y190 y191 y192 y193 y194 y195 y196 y197 y198 y199 y200 y201 y202 y203 y204 y205 y206 y207 y208 y209 y210 y211 y212 y213 y214 y215 y216 y217 y218 y219 y220 y221 y222 y223 y224 y225 y226 y227 y228 y229 y230 y231 y232 y233 y234 y235 y236 y237 y238 y239 y240 y241 y242 y243 y244 y245 y246 y247 y248 y249 y250 y251 y252 w' h
          exact hKK _ _ (wp_codeP (by kernel_rfl) (bld8 S cs gs gb M w w' H0.out HMM.out (by rw [← HM.out]; exact h)))
end Go.Proofs.Ytmebpglkeedaoaa
namespace Go.Proofs.Ytmebpglkeedaoaa
open Go.RowKit Dp
structure NtJ (w : World) (gs gx gr : Nat) (cv : List Value) (A : Option Addr) (cap : Nat) (sup : List Int) (arcs : List Arc) (W : World) : Prop where
  b : Blk W gx 25 [.slice (some ⟨gs, 0, none⟩) sup.length sup.length, .slice A arcs.length cap]
  r : Blk W gr 25 [.slice none 0 0, .slice none 0 0]
  s : Fl 2 W gs sup
  own : W.ownsRow w.heap.size 46 4 (.slice A arcs.length cap) arcs.length (flat arcV arcs)
  st : Blk W w.heap.size 51 cv
  ne : gx ≠ gr
  lt : w.heap.size ≤ gs ∧ w.heap.size ≤ gx ∧ w.heap.size ≤ gr
  bel : Below w.heap.size w W
section
variable {w W V : World} {gs gx gr gc cap cap2 n m : Nat} {A A2 : Option Addr} {cv kv : List Value} {sup : List Int} {arcs news : List Arc}
theorem NtJ.below (h : NtJ w gs gx gr cv A cap sup arcs W) (hb : Below W.heap.size W V) : NtJ w gs gx gr cv A cap sup arcs V :=
  ⟨h.b.below hb h.b.lt, h.r.below hb h.r.lt, h.s.below hb, ownBelow h.own hb, h.st.below hb h.st.lt, h.ne, h.lt, h.bel.trans (hb.mono h.bel.size)⟩
theorem NtJ.alloc (h : NtJ w gs gx gr cv A cap sup arcs W) (o : Obj) : NtJ w gs gx gr cv A cap sup arcs (W.alloc o) := h.below ((Below.refl _ _).alloc (Nat.le_refl _) o)
theorem NtJ.set (h : NtJ w gs gx gr cv A cap sup arcs W) (k : Nat) (v : Int) : NtJ w gs gx gr cv A cap (sup.set k v) arcs (W.setCell ⟨gs, k, none⟩ (.int .i64 v)) :=
  ⟨by rw [List.length_set]; exact h.b.setCell_ne (fun e => blk_type_ne h.b h.s (by decide) e.symm) _, h.r.setCell_ne (fun e => blk_type_ne h.r h.s (by decide) e.symm) _, h.s.put k v,
    ownSet h.own (own_blk_no (g := gs) h.s h.own (by decide)) _, h.st.setCell_ne (fun e => blk_type_ne h.st h.s (by decide) e.symm) _, h.ne, h.lt, h.bel.setCell (by simp; exact h.lt.1) _⟩
theorem NtJ.mid (h : NtJ w gs gx gr cv A cap sup arcs W) (hg : W.grownBy V (Value.slice A arcs.length cap).ownBlock) : Blk V gx 25 [.slice (some ⟨gs, 0, none⟩) sup.length sup.length, .slice A arcs.length cap] := h.b.grown hg (blk_own_ne h.b h.own (by decide))
theorem NtJ.push (h : NtJ w gs gx gr cv A cap sup arcs W) (hn : n = arcs.length) (hm : m = news.length) (hg : W.grownBy V (Value.slice A n cap).ownBlock)
    (ho : V.ownsRow w.heap.size 46 4 (.slice A2 (n + m) cap2) (n + m) (flat arcV arcs ++ flat arcV news)) : NtJ w gs gx gr cv A2 cap2 sup (arcs ++ news) (V.setCell ⟨gx, 1, none⟩ (.slice A2 (n + m) cap2)) := by
  subst hn
  rw [← flat_append] at ho
  have el : (arcs ++ news).length = arcs.length + m := by simp [hm]
  rw [← el] at ho ⊢
  have b1 := h.mid hg
  have s1 : Fl 2 V gs sup := Blk.grown h.s hg (blk_own_ne h.s h.own (by decide))
  have r1 := h.r.grown hg (blk_own_ne h.r h.own (by decide))
  have t1 := h.st.grown hg (blk_own_ne h.st h.own (by decide))
  have bel1 : Below w.heap.size w V := h.bel.grown hg h.bel.size (fun k e => (World.ownsRow.lt h.own k e).1)
  exact ⟨b1.setCell 1 _, r1.setCell_ne (fun e => h.ne e.symm) _, s1.set_ne (fun e => blk_type_ne b1 s1 (by decide) e) _, ownSet ho (own_blk_no (g := gx) b1 ho (by decide)) _, t1.setCell_ne (fun e => blk_type_ne b1 t1 (by decide) e) _, h.ne, h.lt, bel1.setCell (by simp; exact h.lt.2.1) _⟩
structure NkJ (w : World) (gs gx gr gc : Nat) (cv kv : List Value) (A : Option Addr) (cap : Nat) (sup : List Int) (arcs : List Arc) (W : World) : Prop where
  d : NtJ w gs gx gr cv A cap sup arcs W
  car : Blk W gc 63 kv
theorem NkJ.below (h : NkJ w gs gx gr gc cv kv A cap sup arcs W) (hb : Below W.heap.size W V) : NkJ w gs gx gr gc cv kv A cap sup arcs V := ⟨h.d.below hb, h.car.below hb h.car.lt⟩
theorem NkJ.alloc (h : NkJ w gs gx gr gc cv kv A cap sup arcs W) (o : Obj) : NkJ w gs gx gr gc cv kv A cap sup arcs (W.alloc o) := h.below ((Below.refl _ _).alloc (Nat.le_refl _) o)
theorem NkJ.set (h : NkJ w gs gx gr gc cv kv A cap sup arcs W) (k : Nat) (v : Int) : NkJ w gs gx gr gc cv kv A cap (sup.set k v) arcs (W.setCell ⟨gs, k, none⟩ (.int .i64 v)) :=
  ⟨h.d.set k v, h.car.setCell_ne (fun e => blk_type_ne h.d.s h.car (by decide) e) _⟩
theorem NkJ.push (h : NkJ w gs gx gr gc cv kv A cap sup arcs W) (hn : n = arcs.length) (hm : m = news.length) (hg : W.grownBy V (Value.slice A n cap).ownBlock)
    (ho : V.ownsRow w.heap.size 46 4 (.slice A2 (n + m) cap2) (n + m) (flat arcV arcs ++ flat arcV news)) : NkJ w gs gx gr gc cv kv A2 cap2 sup (arcs ++ news) (V.setCell ⟨gx, 1, none⟩ (.slice A2 (n + m) cap2)) := by
  have hg' := hg
  rw [hn] at hg'
  have b1 := h.d.mid hg'
  have c1 := h.car.grown hg' (blk_own_ne h.car h.d.own (by decide))
  exact ⟨h.d.push hn hm hg ho, c1.setCell_ne (fun e => blk_type_ne b1 c1 (by decide) e) _⟩
end
end Go.Proofs.Ytmebpglkeedaoaa
namespace Go.Proofs.Ytmebpglkeedaoaa
open Go.RowKit Dp
noncomputable def loop77 : Code := ((Try.f77.body.bind (blockOf 4)).getD .skip)
noncomputable def end77 : Code := ((Try.f77.body.bind (behind 4)).getD .skip)
def NuJ (S : Site) (cs : List Car) (w : World) (gs gx gr : Nat) (cv : List Value) (M i : Nat) (W : World) : Prop := ∃ A cap, NtJ w gs gx gr cv A cap (supC S cs M i) (carsA S cs i) W
set_option maxRecDepth 100000 in
def CoN (K : Act → World → Prop) (gx gr : Nat) (P : World → Prop) : Prop := ∀ (y0 y1 y2 y3 y5 y7 y8 y9 y10 y11 y12 y13 y14 y15 y16 y17 y18 y19 y20 y21 y22 y23 y24 y25 y26 y27 y28 y29 y30 y31 y32 y33 y34 y35 y36 y37 y38 y39 y40 y41 y42 y43 y44 y45 y46 y47 y48 y49 y50 y51 y52 y53 y54 y55 y56 y57 y58 y59 y60 y61 y62 y63 y64 y65 y66 y67 y68 y69 y70 y71 y72 y73 y74 y75 y76 y77 y78 y79 y80 y81 y82 y83 y84 y85 y86 y87 y88 y89 y90 y91 y92 y93 y94 y95 y96 y97 y98 y99 y100 y101 y102 y103 y104 y105 y106 y107 y108 y109 y110 y111 y112 y113 y114 y115 y116 y117 y118 y119 y120 y121 y122 y123 y124 y125 y126 y127 y128 y129 y130 y131 y132 y133 y134 y135 y136 y137 y138 y139 y140 y141 y142 y143 y144 y145 y146 y147 y148 y149 y150 y151 y152 y153 y154 y155 y156 y157 y158 y159 y160 y161 y162 y163 y164 y165 y166 y167 y168 y169 y170 y171 y172 y173 y174 y175 y176 y177 y178 y179 y180 y181 y182 y183 y184 y185 y186 y187 y188 y189 y190 y191 y192 y193 y194 y195 y196 y197 y198 y199 y200 y201 y202 y203 y204 y205 y206 y207 y208 y209 : Value) w', P w' → K { tmps := List.toArray (y0 :: y1 :: y2 :: y3 :: (.pointer (some ⟨gr, 0, none⟩) : Value) :: y5 :: (.pointer (some ⟨gx, 0, none⟩) : Value) :: y7 :: y8 :: y9 :: y10 :: y11 :: y12 :: y13 :: y14 :: y15 :: y16 :: y17 :: y18 :: y19 :: y20 :: y21 :: y22 :: y23 :: y24 :: y25 :: y26 :: y27 :: y28 :: y29 :: y30 :: y31 :: y32 :: y33 :: y34 :: y35 :: y36 :: y37 :: y38 :: y39 :: y40 :: y41 :: y42 :: y43 :: y44 :: y45 :: y46 :: y47 :: y48 :: y49 :: y50 :: y51 :: y52 :: y53 :: y54 :: y55 :: y56 :: y57 :: y58 :: y59 :: y60 :: y61 :: y62 :: y63 :: y64 :: y65 :: y66 :: y67 :: y68 :: y69 :: y70 :: y71 :: y72 :: y73 :: y74 :: y75 :: y76 :: y77 :: y78 :: y79 :: y80 :: y81 :: y82 :: y83 :: y84 :: y85 :: y86 :: y87 :: y88 :: y89 :: y90 :: y91 :: y92 :: y93 :: y94 :: y95 :: y96 :: y97 :: y98 :: y99 :: y100 :: y101 :: y102 :: y103 :: y104 :: y105 :: y106 :: y107 :: y108 :: y109 :: y110 :: y111 :: y112 :: y113 :: y114 :: y115 :: y116 :: y117 :: y118 :: y119 :: y120 :: y121 :: y122 :: y123 :: y124 :: y125 :: y126 :: y127 :: y128 :: y129 :: y130 :: y131 :: y132 :: y133 :: y134 :: y135 :: y136 :: y137 :: y138 :: y139 :: y140 :: y141 :: y142 :: y143 :: y144 :: y145 :: y146 :: y147 :: y148 :: y149 :: y150 :: y151 :: y152 :: y153 :: y154 :: y155 :: y156 :: y157 :: y158 :: y159 :: y160 :: y161 :: y162 :: y163 :: y164 :: y165 :: y166 :: y167 :: y168 :: y169 :: y170 :: y171 :: y172 :: y173 :: y174 :: y175 :: y176 :: y177 :: y178 :: y179 :: y180 :: y181 :: y182 :: y183 :: y184 :: y185 :: y186 :: y187 :: y188 :: y189 :: y190 :: y191 :: y192 :: y193 :: y194 :: y195 :: y196 :: y197 :: y198 :: y199 :: y200 :: y201 :: y202 :: y203 :: y204 :: y205 :: y206 :: y207 :: y208 :: y209 :: []), defers := [] } w'
theorem awayC_mkR (cap inn out start fin : Int) (trips : List Trip) (k : Nat) : awayC ⟨cap, inn, out, start, fin, trips⟩ k = awayP trips k trips.length := rfl
theorem useC_mkR (cap inn out start fin : Int) (trips : List Trip) (k : Nat) : useC ⟨cap, inn, out, start, fin, trips⟩ k = useP trips k trips.length := rfl
set_option maxHeartbeats 16000000 in
set_option maxRecDepth 100000 in
theorem nt4 (S : Site) (cs : List Car) (E : Option Addr) (n m cE gs gx gr M : Nat) (cv : List Value) (w W0 : World) (h0 : stE S cs = 0) (hn : n = S.lim.length) (hm : m = cs.length) (hM : M = nodesN S cs) (hE : m ≤ cE ∧ cE ≤ 9223372036854775807) (hcs : CarsAt w E cs) (hJ : NuJ S cs w gs gx gr cv M 0 W0)
    {K : Act → World → Prop} {R : Ending → World → Prop} (hR : CoN K gx gr (NuJ S cs w gs gx gr cv M m)) {x0 x2 x3 x7 x8 x10 x11 x12 x13 x14 x15 x16 x17 x18 x19 x20 x21 x22 x23 x24 x25 x26 x27 x28 x29 x30 x31 x32 x33 x34 x35 x36 x37 x38 x39 x40 x41 x42 x43 x44 x45 x46 x47 x48 x49 x50 x51 x52 x53 x54 x55 x56 x57 x58 x59 x60 x61 x62 x63 x64 x65 x66 x67 x68 x69 x70 x71 x72 x73 x74 x75 x76 x77 x78 x79 x80 x81 x82 x83 x84 x85 x86 x87 x88 x89 x90 x91 x92 x93 x94 x95 x96 x97 x98 x99 x100 x101 x102 x103 x104 x105 x106 x107 x108 x109 x110 x111 x112 x113 x114 x115 x116 x117 x118 x119 x120 x121 x122 x123 x124 x125 x126 x127 x128 x129 x130 x131 x132 x133 x134 x135 x136 x137 x138 x139 x140 x141 x142 x143 x144 x145 x146 x147 x148 x149 x150 x151 x152 x153 x154 x155 x156 x157 x158 x159 x160 x161 x162 x163 x164 x165 x166 x167 x168 x169 x170 x171 x172 x173 x174 x175 x176 x177 x178 x179 x180 x181 x182 x183 x184 x185 x186 x187 x188 x189 x190 x191 x192 x193 x194 x195 x196 x197 x198 x199 x200 x201 x202 x203 x204 x205 x206 x207 x208 x209 : Value} :
    Code.wp Try.prog loop77 (Exit.inBlock 4 (Exit.then K (bodyPost Try.prog Try.f77 R))) { tmps := List.toArray (x0 :: (.slice E m cE : Value) :: x2 :: x3 :: (.pointer (some ⟨gr, 0, none⟩) : Value) :: (.int .i64 n : Value) :: (.pointer (some ⟨gx, 0, none⟩) : Value) :: x7 :: x8 :: (.int .i64 0 : Value) :: x10 :: x11 :: x12 :: x13 :: x14 :: x15 :: x16 :: x17 :: x18 :: x19 :: x20 :: x21 :: x22 :: x23 :: x24 :: x25 :: x26 :: x27 :: x28 :: x29 :: x30 :: x31 :: x32 :: x33 :: x34 :: x35 :: x36 :: x37 :: x38 :: x39 :: x40 :: x41 :: x42 :: x43 :: x44 :: x45 :: x46 :: x47 :: x48 :: x49 :: x50 :: x51 :: x52 :: x53 :: x54 :: x55 :: x56 :: x57 :: x58 :: x59 :: x60 :: x61 :: x62 :: x63 :: x64 :: x65 :: x66 :: x67 :: x68 :: x69 :: x70 :: x71 :: x72 :: x73 :: x74 :: x75 :: x76 :: x77 :: x78 :: x79 :: x80 :: x81 :: x82 :: x83 :: x84 :: x85 :: x86 :: x87 :: x88 :: x89 :: x90 :: x91 :: x92 :: x93 :: x94 :: x95 :: x96 :: x97 :: x98 :: x99 :: x100 :: x101 :: x102 :: x103 :: x104 :: x105 :: x106 :: x107 :: x108 :: x109 :: x110 :: x111 :: x112 :: x113 :: x114 :: x115 :: x116 :: x117 :: x118 :: x119 :: x120 :: x121 :: x122 :: x123 :: x124 :: x125 :: x126 :: x127 :: x128 :: x129 :: x130 :: x131 :: x132 :: x133 :: x134 :: x135 :: x136 :: x137 :: x138 :: x139 :: x140 :: x141 :: x142 :: x143 :: x144 :: x145 :: x146 :: x147 :: x148 :: x149 :: x150 :: x151 :: x152 :: x153 :: x154 :: x155 :: x156 :: x157 :: x158 :: x159 :: x160 :: x161 :: x162 :: x163 :: x164 :: x165 :: x166 :: x167 :: x168 :: x169 :: x170 :: x171 :: x172 :: x173 :: x174 :: x175 :: x176 :: x177 :: x178 :: x179 :: x180 :: x181 :: x182 :: x183 :: x184 :: x185 :: x186 :: x187 :: x188 :: x189 :: x190 :: x191 :: x192 :: x193 :: x194 :: x195 :: x196 :: x197 :: x198 :: x199 :: x200 :: x201 :: x202 :: x203 :: x204 :: x205 :: x206 :: x207 :: x208 :: x209 :: []), defers := [] } W0 := by
  have H0 := Lib.hid h0
  have HN := Lib.hid hn
  have HM := Lib.hid hm
  have HMM := Lib.hid hM
  have HCS := Lib.hid hcs
  have HJ0 := Lib.hid hJ
  have HR := Lib.hid hR
  have h48 : n ≤ 48 := by have h3 := (siteHead_iff.1 (stE_0 h0).2.1).1; omega
  have h1n : 1 ≤ n := by have h3 := (siteHead_iff.1 (stE_0 h0).2.1).1; omega
  have h8 : m ≤ 8 := by have := (stE_0 h0).1; omega
  have hM2 : M ≤ 833 := by have := (nodes_bd h0).1; omega
  have HND : Hid (∀ i k V, i ≤ 8 → k ≤ 48 → Calls Try.prog 109 #[.int .i64 n, .int .i64 ((i : Nat) : Int), .int .i64 ((k : Nat) : Int)] V fun e w' => e = .returned (.int .i64 ((nodeF n i k : Nat) : Int)) ∧ V = w') := Lib.hid (fun i k V hi hk => node_ref n i k h48 hi hk V)
  have HND0 : Hid (∀ i V, i ≤ 8 → Calls Try.prog 109 #[.int .i64 n, .int .i64 ((i : Nat) : Int), .int .i64 0] V fun e w' => e = .returned (.int .i64 ((nodeF n i 0 : Nat) : Int)) ∧ V = w') := Lib.hid (fun i V hi => node_ref n i 0 h48 hi (by omega) V)
  clear h0 hn hm hM hcs hJ hR
  obtain ⟨i3, h3i, h3z, h3s, h3b⟩ := info_parts info46
  conv => arg 2; whnf
  go_loopw [9] (fun iv wr => ∃ i : Nat, i ≤ m ∧ iv = .int .i64 i ∧ Hid (NuJ S cs w gs gx gr cv M i wr)) (fun iv _ => m - (intOf iv).toNat)
  case atStart => exact ⟨0, Nat.zero_le _, rfl, HJ0⟩
  case round =>
    clear HJ0
    obtain ⟨i, hi, rfl, HJ⟩ := hrel
    by_cases hlt : i < m
    · have hii : (i : Int) < (m : Int) := by omega
      have il : i < cs.length := by rw [← HM.out]; exact hlt
      have i8 : i ≤ 8 := by omega
      obtain ⟨A, cap0, hj1⟩ := HJ.out
      have HBD := Lib.hid hj1
      clear hj1 HJ
      have HOK := Lib.hid (carok_of H0.out il)
      have HBDS := Lib.hid (fun k (hk : k ≤ S.lim.length) => (And.intro (arcsAt_bd H0.out il hk) (node_lt (k := k) il hk)))
      rw [← HN.out] at HBDS HOK
      rw [← HMM.out] at HBDS
      have PS0 := Lib.hid (supR_zero S cs M i)
      have PSK := Lib.hid (fun k (hk : k ≤ n) => And.intro (supR_len S cs (M := M) (i := i) (k := k) (by have := (HBDS.out k hk).2; rw [← HN.out]; omega)) (And.intro (supR_get S cs (M := M) (i := i) (k := k) (by have := (HBDS.out k hk).2; rw [← HN.out]; omega)) (supR_set S cs (M := M) (i := i) (k := k) (by have := (HBDS.out k hk).2; rw [← HN.out]; omega))))
      have PST := Lib.hid (supR_start S cs (M := M) (i := i) (by rw [← HN.out]; omega))
      have PSL := Lib.hid (supR_last S cs (M := M) (i := i) (by have := (HBDS.out n (Nat.le_refl _)).2; rw [← HN.out]; omega))
      have PA0 := Lib.hid (arcsAt_zero S cs i)
      have PAK := Lib.hid (fun k => arcsAt_succ S cs i k)
      have PAL := Lib.hid (arcsAt_last S cs i)
      have PNX := Lib.hid (And.intro (nodeF_next n i) (fun k => nodeF_k n i k))
      rw [← HN.out] at PSL PAL PST
      simp only [← HN.out] at PSK PAK
      have PU := Lib.hid (fun k => useC_bd HOK.out k)
      obtain ⟨ad, hE2, abl, c0, c1, c2, c3, c4, TT, cT, c5, hcT, HTT⟩ := HCS.out i il
      have hbl : (ad.add (i * 6)).block < w.heap.size := by rw [block_add]; exact abl
      replace c0 := (HBD.out.bel.cell hbl).trans c0
      replace c1 := (HBD.out.bel.cell (p := ⟨_, _, none⟩) hbl).trans c1
      replace c2 := (HBD.out.bel.cell (p := ⟨_, _, none⟩) hbl).trans c2
      replace c3 := (HBD.out.bel.cell (p := ⟨_, _, none⟩) hbl).trans c3
      replace c4 := (HBD.out.bel.cell (p := ⟨_, _, none⟩) hbl).trans c4
      replace c5 := (HBD.out.bel.cell (p := ⟨_, _, none⟩) hbl).trans c5
      clear hbl
      subst hE2
      have HTR := Lib.hid HTT
      clear HTT
      have HCO := Lib.hid (carOk_iff.1 HOK.out).1
      generalize hcc : cs.getD i default = c at *
      clear hcc
      obtain ⟨cap, inn, out, start, fin, trips⟩ := c
      simp only at c0 c1 c2 c3 c4 c5 hcT HTR HCO PST PSL
      obtain ⟨qn, hqn⟩ : ∃ qn, qn = trips.length := ⟨_, rfl⟩
      rw [← hqn] at c5 hcT
      have HQN := Lib.hid hqn
      clear hqn
      go_upto_region 15 with fail
      have HBD1 := Lib.hid (HBD.out.alloc (.cells #[.int .i64 cap, .int .i64 inn, .int .i64 out, .int .i64 start, .int .i64 fin, .slice TT qn cT] 63))
      have XC := Lib.hid (Blk.new' wr #[.int .i64 cap, .int .i64 inn, .int .i64 out, .int .i64 start, .int .i64 fin, .slice TT qn cT] 63)
      clear c0 c1 c2 c3 c4 c5 abl HBD
      generalize wr.alloc (.cells #[.int .i64 cap, .int .i64 inn, .int .i64 out, .int .i64 start, .int .i64 fin, .slice TT qn cT] 63) = wx at HBD1 XC ⊢
      obtain ⟨gc, hgc⟩ : ∃ gc, gc = wr.heap.size := ⟨_, rfl⟩
      rw [← hgc] at XC ⊢
      clear hgc
      have HK0 : Hid (NkJ w gs gx gr gc cv [.int .i64 cap, .int .i64 inn, .int .i64 out, .int .i64 start, .int .i64 fin, .slice TT qn cT] A cap0 (supR S cs M i 0) (arcsAt S cs i 0) wx) := Lib.hid ⟨by rw [PS0.out, PA0.out]; exact HBD1.out, XC.out⟩
      clear HBD1 XC
      go_wp2_with fail
      go_loopw [11] (fun kv wr => ∃ k : Nat, k ≤ n + 1 ∧ kv = .int .i64 k ∧ Hid (∃ A cp, (k ≤ n ∧ NkJ w gs gx gr gc cv [.int .i64 cap, .int .i64 inn, .int .i64 out, .int .i64 start, .int .i64 fin, .slice TT qn cT] A cp (supR S cs M i k) (arcsAt S cs i k) wr) ∨ (k = n + 1 ∧ NkJ w gs gx gr gc cv [.int .i64 cap, .int .i64 inn, .int .i64 out, .int .i64 start, .int .i64 fin, .slice TT qn cT] A cp (supR S cs M i n) (arcsAt S cs i n ++ [Dp.Arc.mk ((nodeF n i n : Nat) : Int) (((nodeF n i n : Nat) : Int) + 1) cap 0]) wr))) (fun kv _ => n + 1 - (intOf kv).toNat)
      case atStart => exact ⟨0, Nat.zero_le _, rfl, Lib.hid ⟨_, _, .inl ⟨Nat.zero_le _, HK0.out⟩⟩⟩
      case round =>
        clear HK0
        obtain ⟨k, hk, rfl, HJ⟩ := hrel
        obtain ⟨A1, cap1, hj⟩ := HJ.out
        have HJJ := Lib.hid hj
        clear hj HJ
        by_cases hkn : k ≤ n
        · have hki : (k : Int) ≤ (n : Int) := by omega
          have HK : Hid (NkJ w gs gx gr gc cv [.int .i64 cap, .int .i64 inn, .int .i64 out, .int .i64 start, .int .i64 fin, .slice TT qn cT] A1 cap1 (supR S cs M i k) (arcsAt S cs i k) wr) := Lib.hid (HJJ.out.resolve_right (fun h => by omega)).2
          clear HJJ
          have aM : nodeF n i k + 1 < M := (HBDS.out k hkn).2
          have al0 := (HBDS.out k hkn).1
          have k48 : k ≤ 48 := by omega
          have HSL := Lib.hid (PSK.out k hkn).1
          have HSG := Lib.hid (PSK.out k hkn).2.1
          obtain ⟨u, hu⟩ : ∃ u, u = useC ⟨cap, inn, out, start, fin, trips⟩ k := ⟨_, rfl⟩
          obtain ⟨aw, haw⟩ : ∃ aw, aw = awayC ⟨cap, inn, out, start, fin, trips⟩ k := ⟨_, rfl⟩
          have HUC : Hid (∀ V, Below w.heap.size w V → Calls Try.prog 86 #[.agg #[.int .i64 cap, .int .i64 inn, .int .i64 out, .int .i64 start, .int .i64 fin, .slice TT qn cT], .int .i64 ((k : Nat) : Int)] V fun e w' => e = .returned (.int .i64 u) ∧ Below V.heap.size V w') := Lib.hid (fun V hV => by
            have := use_c (.int .i64 cap) (.int .i64 inn) (.int .i64 out) (.int .i64 start) (.int .i64 fin) k _ n TT trips qn cT V HQN.out hcT (HTR.out.below hV (Nat.le_refl _)) (carOk_iff.1 HOK.out).2
            rw [hu, useC_mkR, ← HQN.out]
            exact this)
          have HAC : Hid (∀ V, Below w.heap.size w V → Calls Try.prog 84 #[.agg #[.int .i64 cap, .int .i64 inn, .int .i64 out, .int .i64 start, .int .i64 fin, .slice TT qn cT], .int .i64 ((k : Nat) : Int)] V fun e w' => e = .returned (.bool aw) ∧ Below V.heap.size V w') := Lib.hid (fun V hV => by
            have := away_c (.int .i64 cap) (.int .i64 inn) (.int .i64 out) (.int .i64 start) (.int .i64 fin) k TT trips qn cT V HQN.out hcT (HTR.out.below hV (Nat.le_refl _))
            rw [haw, awayC_mkR, ← HQN.out]
            exact this)
          have ub := PU.out k
          rw [← hu] at ub
          have HSS := Lib.hid (PSK.out k hkn).2.2
          rw [← hu] at HSS
          have HAK := Lib.hid (PAK.out k)
          unfold slA at HAK
          rw [← haw] at HAK
          simp only at HAK
          have HEQ : Hid (k = n → nodeF n i n = nodeF n i k ∧ arcsAt S cs i n = arcsAt S cs i k ∧ supR S cs M i n = supR S cs M i k) := Lib.hid (fun e => by subst e; exact ⟨rfl, rfl, rfl⟩)
          have HNC := Lib.hid (fun V => HND.out i k V i8 k48)
          clear hu haw
          generalize nodeF n i k = a at *
          generalize arcsAt S cs i k = ar at *
          generalize supR S cs M i k = su at *
          have a1e : IntKind.i64.wrap ((a : Int) + 1) = (a : Int) + 1 := IntWalk.i64_in _ (by omega)
          have a2e : IntKind.i64.wrap ((a : Int) + 2) = (a : Int) + 2 := IntWalk.i64_in _ (by omega)
          have k1e : IntKind.i64.wrap (1 + (k : Int)) = 1 + (k : Int) := IntWalk.i64_in _ (by omega)
          go_upto_region 19 with (go_at_call 109; refine (HNC.out _).mono ?_; rintro e wq ⟨rfl, rfl⟩)
          have e0 := HK.out.car.cell 0 rfl
          have el := HK.out.car.lt
          have b1 := HK.out.d.b.cell 1 rfl
          have bl := HK.out.d.b.lt
          have JA := Lib.hid (HK.out.alloc (.cells #[.int .i64 a, .int .i64 ((a : Int) + 1), .int .i64 cap, .int .i64 0] 46))
          have XA : Hid (Blk (wr.alloc (.cells #[.int .i64 a, .int .i64 ((a : Int) + 1), .int .i64 cap, .int .i64 0] 46)) wr.heap.size 46 (flat arcV [Dp.Arc.mk (a : Int) ((a : Int) + 1) cap 0])) := Lib.hid (Blk.new' wr #[.int .i64 a, .int .i64 ((a : Int) + 1), .int .i64 cap, .int .i64 0] 46)
          have HLE : Hid ((ar).length + 1 ≤ 4096) := Lib.hid (by omega)
          obtain ⟨ln, hln⟩ : ∃ ln, ln = (ar).length := ⟨_, rfl⟩
          have HLN := Lib.hid hln
          rw [← hln] at b1
          clear hln
          go_upto_region 20 with (at_builtin; refine wpList_append_any (.tmp 91) (.tmp 98) 23 rfl rfl w.heap.size 46 i3 (.agg #[.int .i64 0, .int .i64 0, .int .i64 0, .int .i64 0]) 4 32 Try.underlying23 h3i h3z h3s h3b rfl (by decide) A1 ln cap1 (flat arcV (ar)) (by rfl) (by rw [HLN.out]; exact JA.out.d.own) (some ⟨wr.heap.size, 0, none⟩) 1 1 (flat arcV [Dp.Arc.mk (a : Int) ((a : Int) + 1) cap 0]) (by rfl) (by rfl) (.inr ⟨_, rfl, fun j u hj => by rw [add_row]; exact XA.out.cell j hj⟩) (by simp [flat, arcV, Value.oneCell']) (by have := HLE.out; have := HLN.out; unfold maxLen; omega) (by have := HLE.out; have := HLN.out; omega) JA.out.d.bel.size ?_; intro A2 cap2 va hown hgrow hat; have JM := JA.out.d.mid (by rw [← HLN.out]; exact hgrow); clear b1 bl; have b1 := JM.cell 1 rfl; have bz := JM.free 1; have bl := JM.lt; have HK5 : Hid (NkJ w gs gx gr gc cv [.int .i64 cap, .int .i64 inn, .int .i64 out, .int .i64 start, .int .i64 fin, .slice TT qn cT] A2 cap2 (su) (ar ++ [Dp.Arc.mk (a : Int) ((a : Int) + 1) cap 0]) (va.setCell ⟨gx, 1, none⟩ (.slice A2 (ln + 1) cap2))) := Lib.hid (JA.out.push (m := 1) (news := [Dp.Arc.mk (a : Int) ((a : Int) + 1) cap 0]) HLN.out rfl hgrow hown); clear JM hown hgrow hat JA XA)
          clear b1 bz bl el e0 HK HLN HLE
          generalize va.setCell ⟨gx, 1, none⟩ (.slice A2 (ln + 1) cap2) = w5 at HK5 ⊢
          by_cases hke : k = n
          · have hkb : ((k : Int) == (n : Int)) = true := by rw [hke]; exact beq_self_eq_true _
            have HE : Hid (k + 1 = n + 1 ∧ NkJ w gs gx gr gc cv [.int .i64 cap, .int .i64 inn, .int .i64 out, .int .i64 start, .int .i64 fin, .slice TT qn cT] A2 cap2 (supR S cs M i n) (arcsAt S cs i n ++ [Dp.Arc.mk ((nodeF n i n : Nat) : Int) (((nodeF n i n : Nat) : Int) + 1) cap 0]) w5) := Lib.hid ⟨by omega, by rw [(HEQ.out hke).1, (HEQ.out hke).2.1, (HEQ.out hke).2.2]; exact HK5.out⟩
            clear hke
            go_wp2_with fail
            exact ⟨⟨k + 1, by omega, by go_num, Lib.hid ⟨_, _, .inr HE.out⟩⟩, by simp [intOf]; omega⟩
          · have hkb : ((k : Int) == (n : Int)) = false := by simp; omega
            have hklt : k + 1 ≤ n := by omega
            go_upto_region 21 with fail
            have e0 := HK5.out.car.cell 0 rfl
            have el := HK5.out.car.lt
            have b1 := HK5.out.d.b.cell 1 rfl
            have bl := HK5.out.d.b.lt
            have JA := Lib.hid (HK5.out.alloc (.cells #[.int .i64 ((a : Int) + 1), .int .i64 ((a : Int) + 2), .int .i64 cap, .int .i64 0] 46))
            have XA : Hid (Blk (w5.alloc (.cells #[.int .i64 ((a : Int) + 1), .int .i64 ((a : Int) + 2), .int .i64 cap, .int .i64 0] 46)) w5.heap.size 46 (flat arcV [Dp.Arc.mk ((a : Int) + 1) ((a : Int) + 2) cap 0])) := Lib.hid (Blk.new' w5 #[.int .i64 ((a : Int) + 1), .int .i64 ((a : Int) + 2), .int .i64 cap, .int .i64 0] 46)
            have HLE : Hid ((ar ++ [Dp.Arc.mk (a : Int) ((a : Int) + 1) cap 0]).length + 1 ≤ 4096) := Lib.hid (by first | (simp; done) | (simp; omega))
            obtain ⟨ln, hln⟩ : ∃ ln, ln = (ar ++ [Dp.Arc.mk (a : Int) ((a : Int) + 1) cap 0]).length := ⟨_, rfl⟩
            have HLN := Lib.hid hln
            rw [← hln] at b1
            clear hln
            go_upto_region 22 with (at_builtin; refine wpList_append_any (.tmp 105) (.tmp 113) 23 rfl rfl w.heap.size 46 i3 (.agg #[.int .i64 0, .int .i64 0, .int .i64 0, .int .i64 0]) 4 32 Try.underlying23 h3i h3z h3s h3b rfl (by decide) A2 ln cap2 (flat arcV (ar ++ [Dp.Arc.mk (a : Int) ((a : Int) + 1) cap 0])) (by rfl) (by rw [HLN.out]; exact JA.out.d.own) (some ⟨w5.heap.size, 0, none⟩) 1 1 (flat arcV [Dp.Arc.mk ((a : Int) + 1) ((a : Int) + 2) cap 0]) (by rfl) (by rfl) (.inr ⟨_, rfl, fun j u hj => by rw [add_row]; exact XA.out.cell j hj⟩) (by simp [flat, arcV, Value.oneCell']) (by have := HLE.out; have := HLN.out; unfold maxLen; omega) (by have := HLE.out; have := HLN.out; omega) JA.out.d.bel.size ?_; intro A3 cap3 va hown hgrow hat; have JM := JA.out.d.mid (by rw [← HLN.out]; exact hgrow); clear b1 bl; have b1 := JM.cell 1 rfl; have bz := JM.free 1; have bl := JM.lt; have HK6 : Hid (NkJ w gs gx gr gc cv [.int .i64 cap, .int .i64 inn, .int .i64 out, .int .i64 start, .int .i64 fin, .slice TT qn cT] A3 cap3 (su) (ar ++ [Dp.Arc.mk (a : Int) ((a : Int) + 1) cap 0] ++ [Dp.Arc.mk ((a : Int) + 1) ((a : Int) + 2) cap 0]) (va.setCell ⟨gx, 1, none⟩ (.slice A3 (ln + 1) cap3))) := Lib.hid (JA.out.push (m := 1) (news := [Dp.Arc.mk ((a : Int) + 1) ((a : Int) + 2) cap 0]) HLN.out rfl hgrow hown); clear JM hown hgrow hat JA XA)
            clear b1 bz bl el e0 HK5 HLN HLE
            generalize va.setCell ⟨gx, 1, none⟩ (.slice A3 (ln + 1) cap3) = w6 at HK6 ⊢
            have e0 := HK6.out.car.cell 0 rfl
            have e1 := HK6.out.car.cell 1 rfl
            have e2 := HK6.out.car.cell 2 rfl
            have e3 := HK6.out.car.cell 3 rfl
            have e4 := HK6.out.car.cell 4 rfl
            have e5 := HK6.out.car.cell 5 rfl
            have el := HK6.out.car.lt
            go_wp2_with fail
            refine (HAC.out w6 HK6.out.d.bel).mono ?_
            rintro e w7 ⟨rfl, hb⟩
            have HK7 := Lib.hid (HK6.out.below hb)
            clear hb HK6 e0 e1 e2 e3 e4 e5 el
            cases aw
            · go_upto_region 23 with fail
              have e1 := HK7.out.car.cell 1 rfl
              have e2 := HK7.out.car.cell 2 rfl
              have el := HK7.out.car.lt
              have b1 := HK7.out.d.b.cell 1 rfl
              have bl := HK7.out.d.b.lt
              have JA := Lib.hid (HK7.out.alloc (.cells #[.int .i64 (1 + (k : Int)), .int .i64 ((a : Int) + 2), .int .i64 inn, .int .i64 0, .int .i64 ((a : Int) + 1), .int .i64 (1 + (k : Int)), .int .i64 out, .int .i64 0] 46))
              have XA : Hid (Blk (w7.alloc (.cells #[.int .i64 (1 + (k : Int)), .int .i64 ((a : Int) + 2), .int .i64 inn, .int .i64 0, .int .i64 ((a : Int) + 1), .int .i64 (1 + (k : Int)), .int .i64 out, .int .i64 0] 46)) w7.heap.size 46 (flat arcV [Dp.Arc.mk (1 + (k : Int)) ((a : Int) + 2) inn 0, Dp.Arc.mk ((a : Int) + 1) (1 + (k : Int)) out 0])) := Lib.hid (Blk.new' w7 #[.int .i64 (1 + (k : Int)), .int .i64 ((a : Int) + 2), .int .i64 inn, .int .i64 0, .int .i64 ((a : Int) + 1), .int .i64 (1 + (k : Int)), .int .i64 out, .int .i64 0] 46)
              have HLE : Hid ((ar ++ [Dp.Arc.mk (a : Int) ((a : Int) + 1) cap 0] ++ [Dp.Arc.mk ((a : Int) + 1) ((a : Int) + 2) cap 0]).length + 2 ≤ 4096) := Lib.hid (by first | (simp; done) | (simp; omega))
              obtain ⟨ln, hln⟩ : ∃ ln, ln = (ar ++ [Dp.Arc.mk (a : Int) ((a : Int) + 1) cap 0] ++ [Dp.Arc.mk ((a : Int) + 1) ((a : Int) + 2) cap 0]).length := ⟨_, rfl⟩
              have HLN := Lib.hid hln
              rw [← hln] at b1
              clear hln
              go_upto_region 24 with (at_builtin; refine wpList_append_any (.tmp 121) (.tmp 136) 23 rfl rfl w.heap.size 46 i3 (.agg #[.int .i64 0, .int .i64 0, .int .i64 0, .int .i64 0]) 4 32 Try.underlying23 h3i h3z h3s h3b rfl (by decide) A3 ln cap3 (flat arcV (ar ++ [Dp.Arc.mk (a : Int) ((a : Int) + 1) cap 0] ++ [Dp.Arc.mk ((a : Int) + 1) ((a : Int) + 2) cap 0])) (by rfl) (by rw [HLN.out]; exact JA.out.d.own) (some ⟨w7.heap.size, 0, none⟩) 2 2 (flat arcV [Dp.Arc.mk (1 + (k : Int)) ((a : Int) + 2) inn 0, Dp.Arc.mk ((a : Int) + 1) (1 + (k : Int)) out 0]) (by rfl) (by rfl) (.inr ⟨_, rfl, fun j u hj => by rw [add_row]; exact XA.out.cell j hj⟩) (by simp [flat, arcV, Value.oneCell']) (by have := HLE.out; have := HLN.out; unfold maxLen; omega) (by have := HLE.out; have := HLN.out; omega) JA.out.d.bel.size ?_; intro A4 cap4 va hown hgrow hat; have JM := JA.out.d.mid (by rw [← HLN.out]; exact hgrow); clear b1 bl; have b1 := JM.cell 1 rfl; have bz := JM.free 1; have bl := JM.lt; have HK8 : Hid (NkJ w gs gx gr gc cv [.int .i64 cap, .int .i64 inn, .int .i64 out, .int .i64 start, .int .i64 fin, .slice TT qn cT] A4 cap4 (su) (ar ++ [Dp.Arc.mk (a : Int) ((a : Int) + 1) cap 0] ++ [Dp.Arc.mk ((a : Int) + 1) ((a : Int) + 2) cap 0] ++ [Dp.Arc.mk (1 + (k : Int)) ((a : Int) + 2) inn 0, Dp.Arc.mk ((a : Int) + 1) (1 + (k : Int)) out 0]) (va.setCell ⟨gx, 1, none⟩ (.slice A4 (ln + 2) cap4))) := Lib.hid (JA.out.push (m := 2) (news := [Dp.Arc.mk (1 + (k : Int)) ((a : Int) + 2) inn 0, Dp.Arc.mk ((a : Int) + 1) (1 + (k : Int)) out 0]) HLN.out rfl hgrow hown); clear JM hown hgrow hat JA XA)
              clear b1 bz bl el e1 e2 HK7 HLN HLE
              generalize va.setCell ⟨gx, 1, none⟩ (.slice A4 (ln + 2) cap4) = w8 at HK8 ⊢
              have b0 := HK8.out.d.b.cell 0 rfl
              rw [HSL.out] at b0
              have bl := HK8.out.d.b.lt
              have s0 := HK8.out.d.s.cell (a + 1) (by rw [HSL.out]; exact aM)
              rw [HSG.out] at s0
              have sl := HK8.out.d.s.lt
              have e0 := HK8.out.car.cell 0 rfl
              have e1 := HK8.out.car.cell 1 rfl
              have e2 := HK8.out.car.cell 2 rfl
              have e3 := HK8.out.car.cell 3 rfl
              have e4 := HK8.out.car.cell 4 rfl
              have e5 := HK8.out.car.cell 5 rfl
              have el := HK8.out.car.lt
              have um : IntKind.i64.wrap (0 - u) = -u := by rw [show (0 : Int) - u = -u by omega]; exact IntWalk.i64_in _ (by omega)
              have um2 : IntKind.i64.wrap (-u) = -u := IntWalk.i64_in _ (by omega)
              have aMi : (a : Int) + 1 < (M : Int) := by omega
              have at1 : ((a : Int) + 1).toNat = a + 1 := by omega
              have ap1 : (0 : Int) ≤ (a : Int) + 1 := by omega
              refine wp_region_head 10 ?af24a (by kernel_rfl) (by kernel_rfl) ?walk24a ?tail24a
              case walk24a =>
                intro V hV
                have b0 := (hV.cell (p := ⟨gx, 0, none⟩) bl).trans b0
                have s0 := (hV.cell (p := ⟨gs, a + 1, none⟩) sl).trans s0
                have e0 := (hV.cell (p := ⟨gc, 0, none⟩) el).trans e0
                have e1 := (hV.cell (p := ⟨gc, 1, none⟩) el).trans e1
                have e2 := (hV.cell (p := ⟨gc, 2, none⟩) el).trans e2
                have e3 := (hV.cell (p := ⟨gc, 3, none⟩) el).trans e3
                have e4 := (hV.cell (p := ⟨gc, 4, none⟩) el).trans e4
                have e5 := (hV.cell (p := ⟨gc, 5, none⟩) el).trans e5
                have bl := Nat.lt_of_lt_of_le bl hV.size
                have sl := Nat.lt_of_lt_of_le sl hV.size
                have el := Nat.lt_of_lt_of_le el hV.size
                have HVW := Lib.hid (HK8.out.d.bel.trans (hV.mono HK8.out.d.bel.size))
                clear hV
                simp only [List.take_succ_cons, List.take_zero]
                repeat (go_big_quiet_step ((go_at_call 86; exact past_below (HUC.out _ (HVW.out.trans ((Past.far _).mono HVW.out.size))))))
                refine wpQuiet_nil ?_
                rfl
              case tail24a =>
                intro wv hb8
                have HKv := Lib.hid (HK8.out.below hb8)
                clear hb8 b0 s0 sl e0 e1 e2 e3 e4 e5 el bl HK8
                have s0 := HKv.out.d.s.cell (a + 1) (by rw [HSL.out]; exact aM)
                have sz := HKv.out.d.s.free (a + 1)
                have sl := HKv.out.d.s.lt
                have HK9 := Lib.hid (HKv.out.set (a + 1) (-u))
                rw [HSS.out] at HK9
                clear HKv
                simp only [List.drop_succ_cons, List.drop_zero]
                go_upto_region 17 with fail
                clear s0 sz sl um um2 aMi at1 ap1
                generalize wv.setCell ⟨gs, a + 1, none⟩ (.int .i64 (-u)) = w9 at HK9 ⊢
                have HE : Hid (k + 1 ≤ n ∧ NkJ w gs gx gr gc cv [.int .i64 cap, .int .i64 inn, .int .i64 out, .int .i64 start, .int .i64 fin, .slice TT qn cT] A4 cap4 (supR S cs M i (k + 1)) (arcsAt S cs i (k + 1)) w9) := Lib.hid ⟨hklt, by rw [HAK.out]; simpa using HK9.out⟩
                clear HK9
                go_wp2_with fail
                exact ⟨⟨k + 1, by omega, by go_num, Lib.hid ⟨_, _, .inl HE.out⟩⟩, by simp [intOf]; omega⟩
            · go_upto_region 24 with fail
              have b0 := HK7.out.d.b.cell 0 rfl
              rw [HSL.out] at b0
              have bl := HK7.out.d.b.lt
              have s0 := HK7.out.d.s.cell (a + 1) (by rw [HSL.out]; exact aM)
              rw [HSG.out] at s0
              have sl := HK7.out.d.s.lt
              have e0 := HK7.out.car.cell 0 rfl
              have e1 := HK7.out.car.cell 1 rfl
              have e2 := HK7.out.car.cell 2 rfl
              have e3 := HK7.out.car.cell 3 rfl
              have e4 := HK7.out.car.cell 4 rfl
              have e5 := HK7.out.car.cell 5 rfl
              have el := HK7.out.car.lt
              have um : IntKind.i64.wrap (0 - u) = -u := by rw [show (0 : Int) - u = -u by omega]; exact IntWalk.i64_in _ (by omega)
              have um2 : IntKind.i64.wrap (-u) = -u := IntWalk.i64_in _ (by omega)
              have aMi : (a : Int) + 1 < (M : Int) := by omega
              have at1 : ((a : Int) + 1).toNat = a + 1 := by omega
              have ap1 : (0 : Int) ≤ (a : Int) + 1 := by omega
              refine wp_region_head 10 ?af24b (by kernel_rfl) (by kernel_rfl) ?walk24b ?tail24b
              case walk24b =>
                intro V hV
                have b0 := (hV.cell (p := ⟨gx, 0, none⟩) bl).trans b0
                have s0 := (hV.cell (p := ⟨gs, a + 1, none⟩) sl).trans s0
                have e0 := (hV.cell (p := ⟨gc, 0, none⟩) el).trans e0
                have e1 := (hV.cell (p := ⟨gc, 1, none⟩) el).trans e1
                have e2 := (hV.cell (p := ⟨gc, 2, none⟩) el).trans e2
                have e3 := (hV.cell (p := ⟨gc, 3, none⟩) el).trans e3
                have e4 := (hV.cell (p := ⟨gc, 4, none⟩) el).trans e4
                have e5 := (hV.cell (p := ⟨gc, 5, none⟩) el).trans e5
                have bl := Nat.lt_of_lt_of_le bl hV.size
                have sl := Nat.lt_of_lt_of_le sl hV.size
                have el := Nat.lt_of_lt_of_le el hV.size
                have HVW := Lib.hid (HK7.out.d.bel.trans (hV.mono HK7.out.d.bel.size))
                clear hV
                simp only [List.take_succ_cons, List.take_zero]
                repeat (go_big_quiet_step ((go_at_call 86; exact past_below (HUC.out _ (HVW.out.trans ((Past.far _).mono HVW.out.size))))))
                refine wpQuiet_nil ?_
                rfl
              case tail24b =>
                intro wv hb8
                have HKv := Lib.hid (HK7.out.below hb8)
                clear hb8 b0 s0 sl e0 e1 e2 e3 e4 e5 el bl HK7
                have s0 := HKv.out.d.s.cell (a + 1) (by rw [HSL.out]; exact aM)
                have sz := HKv.out.d.s.free (a + 1)
                have sl := HKv.out.d.s.lt
                have HK9 := Lib.hid (HKv.out.set (a + 1) (-u))
                rw [HSS.out] at HK9
                clear HKv
                simp only [List.drop_succ_cons, List.drop_zero]
                go_upto_region 17 with fail
                clear s0 sz sl um um2 aMi at1 ap1
                generalize wv.setCell ⟨gs, a + 1, none⟩ (.int .i64 (-u)) = w9 at HK9 ⊢
                have HE : Hid (k + 1 ≤ n ∧ NkJ w gs gx gr gc cv [.int .i64 cap, .int .i64 inn, .int .i64 out, .int .i64 start, .int .i64 fin, .slice TT qn cT] A3 cap3 (supR S cs M i (k + 1)) (arcsAt S cs i (k + 1)) w9) := Lib.hid ⟨hklt, by rw [HAK.out]; simpa using HK9.out⟩
                clear HK9
                go_wp2_with fail
                exact ⟨⟨k + 1, by omega, by go_num, Lib.hid ⟨_, _, .inl HE.out⟩⟩, by simp [intOf]; omega⟩
        · obtain rfl : k = n + 1 := by omega
          have hki : ¬ ((n + 1 : Nat) : Int) ≤ (n : Int) := by omega
          have HK : Hid (NkJ w gs gx gr gc cv [.int .i64 cap, .int .i64 inn, .int .i64 out, .int .i64 start, .int .i64 fin, .slice TT qn cT] A1 cap1 (supR S cs M i n) (arcsAt S cs i n ++ [Dp.Arc.mk ((nodeF n i n : Nat) : Int) (((nodeF n i n : Nat) : Int) + 1) cap 0]) wr) := Lib.hid (HJJ.out.resolve_left (fun h => by omega)).2
          clear HJJ
          have aM : nodeF n i n + 1 < M := (HBDS.out n (Nat.le_refl _)).2
          have zM : nodeF n i 0 < M := by have := (HBDS.out 0 (by omega)).2; omega
          have al0 := (HBDS.out n (Nat.le_refl _)).1
          have HNC := Lib.hid (fun V => HND.out i n V i8 h48)
          have HNZ := Lib.hid (fun V => HND0.out i V i8)
          have HSL := Lib.hid (PSK.out n (Nat.le_refl _)).1
          have HAL := Lib.hid PAL.out
          unfold finA at HAL
          simp only at HAL
          have HT1 := Lib.hid PST.out.1
          have HT2 := Lib.hid PST.out.2
          have HU1 := Lib.hid PSL.out.1
          have HU2 := Lib.hid PSL.out.2
          rw [← HT2.out] at HU1 HU2
          generalize nodeF n i n = a at *
          generalize nodeF n i 0 = z at *
          generalize arcsAt S cs i n = ar at *
          generalize supR S cs M i n = su at *
          have a1e : IntKind.i64.wrap ((a : Int) + 1) = (a : Int) + 1 := IntWalk.i64_in _ (by omega)
          have cfe : IntKind.i64.wrap (cap - fin) = cap - fin := IntWalk.i64_in _ (by have := HCO.out; omega)
          have ste : IntKind.i64.wrap (0 + start) = start := by rw [Int.zero_add]; exact IntWalk.i64_in _ (by have := HCO.out; omega)
          have ste2 : IntKind.i64.wrap start = start := IntWalk.i64_in _ (by have := HCO.out; omega)
          have um : IntKind.i64.wrap (0 - fin) = -fin := by rw [show (0 : Int) - fin = -fin by omega]; exact IntWalk.i64_in _ (by have := HCO.out; omega)
          have um2 : IntKind.i64.wrap (-fin) = -fin := IntWalk.i64_in _ (by have := HCO.out; omega)
          have aMi : (a : Int) + 1 < (M : Int) := by omega
          have at1 : ((a : Int) + 1).toNat = a + 1 := by omega
          have ap1 : (0 : Int) ≤ (a : Int) + 1 := by omega
          have zMi : (z : Int) < (M : Int) := by omega
          go_upto_region 25 with fail
          have e0 := HK.out.car.cell 0 rfl
          have e4 := HK.out.car.cell 4 rfl
          have el := HK.out.car.lt
          have b1 := HK.out.d.b.cell 1 rfl
          have bl := HK.out.d.b.lt
          obtain ⟨ln, hln⟩ : ∃ ln, ln = (ar ++ [Dp.Arc.mk (a : Int) ((a : Int) + 1) cap 0]).length := ⟨_, rfl⟩
          have HLE : Hid (ln + 1 ≤ 4096) := Lib.hid (by rw [hln]; first | (simp; done) | (simp; omega))
          have HLN := Lib.hid hln
          rw [← hln] at b1
          clear hln
          refine wp_region_priv 14 [.q, .q, .q, .q, .q, .q, .q, .q, .q, .q, .q, .q, .q, .p] (fun _ => (.cells #[.int .i64 ((a : Int) + 1), .int .i64 0, .int .i64 (cap - fin), .int .i64 0] 46, fun b => .slice (some ⟨b, 0, none⟩) 1 1)) ?af25 (by kernel_rfl) (by kernel_rfl) ?walk25 ?tail25
          case walk25 =>
            intro V hV
            have b1 := (hV.cell (p := ⟨gx, 1, none⟩) bl).trans b1
            have e0 := (hV.cell (p := ⟨gc, 0, none⟩) el).trans e0
            have e4 := (hV.cell (p := ⟨gc, 4, none⟩) el).trans e4
            have bl := Nat.lt_of_lt_of_le bl hV.size
            have el := Nat.lt_of_lt_of_le el hV.size
            clear hV
            simp only [List.take_succ_cons, List.take_zero]
            repeat (with_reducible refine wpP_q ?_; go_big_quiet_step ((go_at_call 109; exact past_same (HNC.out _))); with_reducible refine wpQuiet_nil ?_)
            refine wpP_p (by kernel_rfl) (fun _ => by kernel_rfl) ?_
            (try simp only [Act.put, List.setIfInBounds_toArray, List.set_cons_zero, List.set_cons_succ])
            with_reducible refine wpP_nil ?_
            rfl
          case tail25 =>
            intro gs1 w3 hb3 hgs _
            have HK3 := Lib.hid (HK.out.below hb3)
            obtain ⟨_, hgb⟩ := hgs 13 rfl
            have GB : Hid (Blk w3 (gs1 13) 46 (flat arcV [Dp.Arc.mk ((a : Int) + 1) 0 (cap - fin) 0])) := Lib.hid hgb
            clear hb3 hgs hgb HK e0 e4 el b1 bl
            simp only [List.drop_succ_cons, List.drop_zero, List.take_succ_cons, List.take_zero, fillP]
            (try simp only [Act.put, List.setIfInBounds_toArray, List.set_cons_zero, List.set_cons_succ])
            generalize gs1 13 = ga at *
            go_upto_region 26 with (at_builtin; refine wpList_append_any (.tmp 151) (.tmp 163) 23 rfl rfl w.heap.size 46 i3 (.agg #[.int .i64 0, .int .i64 0, .int .i64 0, .int .i64 0]) 4 32 Try.underlying23 h3i h3z h3s h3b rfl (by decide) A1 ln cap1 (flat arcV (ar ++ [Dp.Arc.mk (a : Int) ((a : Int) + 1) cap 0])) (by rfl) (by rw [HLN.out]; exact HK3.out.d.own) (some ⟨ga, 0, none⟩) 1 1 (flat arcV [Dp.Arc.mk ((a : Int) + 1) 0 (cap - fin) 0]) (by rfl) (by rfl) (.inr ⟨_, rfl, fun j u hj => by rw [add_row]; exact GB.out.cell j hj⟩) (by simp [flat, arcV, Value.oneCell']) (by have := HLE.out; unfold maxLen; omega) (by have := HLE.out; omega) HK3.out.d.bel.size ?_; intro A2 cap2 va hown hgrow hat; have JM := HK3.out.d.mid (by rw [← HLN.out]; exact hgrow); have b1 := JM.cell 1 rfl; have bz := JM.free 1; have bl := JM.lt; have HK4 : Hid (NkJ w gs gx gr gc cv [.int .i64 cap, .int .i64 inn, .int .i64 out, .int .i64 start, .int .i64 fin, .slice TT qn cT] A2 cap2 (su) (ar ++ [Dp.Arc.mk (a : Int) ((a : Int) + 1) cap 0] ++ [Dp.Arc.mk ((a : Int) + 1) 0 (cap - fin) 0]) (va.setCell ⟨gx, 1, none⟩ (.slice A2 (ln + 1) cap2))) := Lib.hid (HK3.out.push (m := 1) (news := [Dp.Arc.mk ((a : Int) + 1) 0 (cap - fin) 0]) HLN.out rfl hgrow hown); clear JM hown hgrow hat)
            clear b1 bz bl HLN HLE HK3 GB
            generalize va.setCell ⟨gx, 1, none⟩ (.slice A2 (ln + 1) cap2) = w4 at HK4 ⊢
            rw [List.append_assoc, show [Dp.Arc.mk (a : Int) ((a : Int) + 1) cap 0] ++ [Dp.Arc.mk ((a : Int) + 1) 0 (cap - fin) 0] = [Dp.Arc.mk (a : Int) ((a : Int) + 1) cap 0, Dp.Arc.mk ((a : Int) + 1) 0 (cap - fin) 0] from rfl, ← HAL.out] at HK4
            have b0 := HK4.out.d.b.cell 0 rfl
            rw [HSL.out] at b0
            have bl := HK4.out.d.b.lt
            have s0 := HK4.out.d.s.cell (z) (by rw [HSL.out]; omega)
            rw [HT1.out] at s0
            have sl := HK4.out.d.s.lt
            have e3 := HK4.out.car.cell 3 rfl
            have el := HK4.out.car.lt
            refine wp_region_head 10 ?af26 (by kernel_rfl) (by kernel_rfl) ?walk26 ?tail26
            case walk26 =>
              intro V hV
              have b0 := (hV.cell (p := ⟨gx, 0, none⟩) bl).trans b0
              have s0 := (hV.cell (p := ⟨gs, z, none⟩) sl).trans s0
              have e3 := (hV.cell (p := ⟨gc, 3, none⟩) el).trans e3
              have bl := Nat.lt_of_lt_of_le bl hV.size
              have sl := Nat.lt_of_lt_of_le sl hV.size
              have el := Nat.lt_of_lt_of_le el hV.size
              clear hV
              simp only [List.take_succ_cons, List.take_zero]
              repeat (go_big_quiet_step ((go_at_call 109; exact past_same (HNZ.out _))))
              refine wpQuiet_nil ?_
              rfl
            case tail26 =>
              intro w5 hb8
              have HKq := Lib.hid (HK4.out.below hb8)
              clear hb8 b0 s0 sl e3 el bl HK4
              have s0 := HKq.out.d.s.cell (z) (by rw [HSL.out]; omega)
              have sz := HKq.out.d.s.free (z)
              have sl := HKq.out.d.s.lt
              have HK5 := Lib.hid (HKq.out.set (z) (start))
              clear HKq
              simp only [List.drop_succ_cons, List.drop_zero]
              go_upto_region 27 with fail
              clear s0 sz sl
              generalize w5.setCell ⟨gs, z, none⟩ (.int .i64 (start)) = w6 at HK5 ⊢
              have b0 := HK5.out.d.b.cell 0 rfl
              rw [List.length_set, HSL.out] at b0
              have bl := HK5.out.d.b.lt
              have s0 := HK5.out.d.s.cell (a + 1) (by rw [List.length_set, HSL.out]; omega)
              rw [HU1.out] at s0
              have sl := HK5.out.d.s.lt
              have e4 := HK5.out.car.cell 4 rfl
              have el := HK5.out.car.lt
              refine wp_region_head 12 ?af27 (by kernel_rfl) (by kernel_rfl) ?walk27 ?tail27
              case walk27 =>
                intro V hV
                have b0 := (hV.cell (p := ⟨gx, 0, none⟩) bl).trans b0
                have s0 := (hV.cell (p := ⟨gs, a + 1, none⟩) sl).trans s0
                have e4 := (hV.cell (p := ⟨gc, 4, none⟩) el).trans e4
                have bl := Nat.lt_of_lt_of_le bl hV.size
                have sl := Nat.lt_of_lt_of_le sl hV.size
                have el := Nat.lt_of_lt_of_le el hV.size
                clear hV
                simp only [List.take_succ_cons, List.take_zero]
                repeat (go_big_quiet_step ((go_at_call 109; exact past_same (HNC.out _))))
                refine wpQuiet_nil ?_
                rfl
              case tail27 =>
                intro w7 hb8
                have HKq := Lib.hid (HK5.out.below hb8)
                clear hb8 b0 s0 sl e4 el bl HK5
                have s0 := HKq.out.d.s.cell (a + 1) (by rw [List.length_set, HSL.out]; omega)
                have sz := HKq.out.d.s.free (a + 1)
                have sl := HKq.out.d.s.lt
                have HK6 := Lib.hid (HKq.out.set (a + 1) (-fin))
                rw [HU2.out] at HK6
                clear HKq
                simp only [List.drop_succ_cons, List.drop_zero]
                go_upto_region 13 with fail
                clear s0 sz sl
                generalize w7.setCell ⟨gs, a + 1, none⟩ (.int .i64 (-fin)) = w8 at HK6 ⊢
                have HE : Hid (NuJ S cs w gs gx gr cv M (i + 1) w8) := Lib.hid ⟨_, _, HK6.out.d⟩
                clear HK6
                go_wp2_with fail
                go_roundw
                case measure => simp [intOf]; omega
                case rel => exact ⟨i + 1, by omega, by go_num, HE⟩
    · obtain rfl : m = i := by omega
      go_wp2_with fail
      have hfin := HR.out
      unfold CoN at hfin
      exact hfin _ _ _ _ _ _ _ _ _ _ _ _ _ _ _ _ _ _ _ _ _ _ _ _ _ _ _ _ _ _ _ _ _ _ _ _ _ _ _ _ _ _ _ _ _ _ _ _ _ _ _ _ _ _ _ _ _ _ _ _ _ _ _ _ _ _ _ _ _ _ _ _ _ _ _ _ _ _ _ _ _ _ _ _ _ _ _ _ _ _ _ _ _ _ _ _ _ _ _ _ _ _ _ _ _ _ _ _ _ _ _ _ _ _ _ _ _ _ _ _ _ _ _ _ _ _ _ _ _ _ _ _ _ _ _ _ _ _ _ _ _ _ _ _ _ _ _ _ _ _ _ _ _ _ _ _ _ _ _ _ _ _ _ _ _ _ _ _ _ _ _ _ _ _ _ _ _ _ _ _ _ _ _ _ _ _ _ _ _ _ _ _ _ _ _ _ _ _ _ _ _ _ _ _ _ _ _ _ _ HJ.out
end Go.Proofs.Ytmebpglkeedaoaa
namespace Go.Proofs.Ytmebpglkeedaoaa
open Go.RowKit Dp
def R77 (S : Site) (cs : List Car) (w : World) : Ending → World → Prop := fun e w' => ∃ gs A cap, e = .returned (.agg #[.slice (some ⟨gs, 0, none⟩) (nodesN S cs) (nodesN S cs), .slice A (carsA S cs cs.length).length cap]) ∧ Fl 2 w' gs (supN S cs) ∧ w'.ownsRow w.heap.size 46 4 (.slice A (carsA S cs cs.length).length cap) (carsA S cs cs.length).length (flat arcV (carsA S cs cs.length)) ∧ w.heap.size ≤ gs ∧ Below w.heap.size w w'
set_option maxHeartbeats 8000000 in
set_option maxRecDepth 100000 in
theorem nt8 (S : Site) (cs : List Car) (gs gx gr M : Nat) (cv : List Value) (w W0 : World) (h0 : stE S cs = 0) (hM : M = nodesN S cs) (hJ : NuJ S cs w gs gx gr cv M cs.length W0) {y0 y1 y2 y3 y5 y7 y8 y9 y10 y11 y12 y13 y14 y15 y16 y17 y18 y19 y20 y21 y22 y23 y24 y25 y26 y27 y28 y29 y30 y31 y32 y33 y34 y35 y36 y37 y38 y39 y40 y41 y42 y43 y44 y45 y46 y47 y48 y49 y50 y51 y52 y53 y54 y55 y56 y57 y58 y59 y60 y61 y62 y63 y64 y65 y66 y67 y68 y69 y70 y71 y72 y73 y74 y75 y76 y77 y78 y79 y80 y81 y82 y83 y84 y85 y86 y87 y88 y89 y90 y91 y92 y93 y94 y95 y96 y97 y98 y99 y100 y101 y102 y103 y104 y105 y106 y107 y108 y109 y110 y111 y112 y113 y114 y115 y116 y117 y118 y119 y120 y121 y122 y123 y124 y125 y126 y127 y128 y129 y130 y131 y132 y133 y134 y135 y136 y137 y138 y139 y140 y141 y142 y143 y144 y145 y146 y147 y148 y149 y150 y151 y152 y153 y154 y155 y156 y157 y158 y159 y160 y161 y162 y163 y164 y165 y166 y167 y168 y169 y170 y171 y172 y173 y174 y175 y176 y177 y178 y179 y180 y181 y182 y183 y184 y185 y186 y187 y188 y189 y190 y191 y192 y193 y194 y195 y196 y197 y198 y199 y200 y201 y202 y203 y204 y205 y206 y207 y208 y209 : Value} :
    Code.wp Try.prog end77 (bodyPost Try.prog Try.f77 (R77 S cs w)) { tmps := List.toArray (y0 :: y1 :: y2 :: y3 :: (.pointer (some ⟨gr, 0, none⟩) : Value) :: y5 :: (.pointer (some ⟨gx, 0, none⟩) : Value) :: y7 :: y8 :: y9 :: y10 :: y11 :: y12 :: y13 :: y14 :: y15 :: y16 :: y17 :: y18 :: y19 :: y20 :: y21 :: y22 :: y23 :: y24 :: y25 :: y26 :: y27 :: y28 :: y29 :: y30 :: y31 :: y32 :: y33 :: y34 :: y35 :: y36 :: y37 :: y38 :: y39 :: y40 :: y41 :: y42 :: y43 :: y44 :: y45 :: y46 :: y47 :: y48 :: y49 :: y50 :: y51 :: y52 :: y53 :: y54 :: y55 :: y56 :: y57 :: y58 :: y59 :: y60 :: y61 :: y62 :: y63 :: y64 :: y65 :: y66 :: y67 :: y68 :: y69 :: y70 :: y71 :: y72 :: y73 :: y74 :: y75 :: y76 :: y77 :: y78 :: y79 :: y80 :: y81 :: y82 :: y83 :: y84 :: y85 :: y86 :: y87 :: y88 :: y89 :: y90 :: y91 :: y92 :: y93 :: y94 :: y95 :: y96 :: y97 :: y98 :: y99 :: y100 :: y101 :: y102 :: y103 :: y104 :: y105 :: y106 :: y107 :: y108 :: y109 :: y110 :: y111 :: y112 :: y113 :: y114 :: y115 :: y116 :: y117 :: y118 :: y119 :: y120 :: y121 :: y122 :: y123 :: y124 :: y125 :: y126 :: y127 :: y128 :: y129 :: y130 :: y131 :: y132 :: y133 :: y134 :: y135 :: y136 :: y137 :: y138 :: y139 :: y140 :: y141 :: y142 :: y143 :: y144 :: y145 :: y146 :: y147 :: y148 :: y149 :: y150 :: y151 :: y152 :: y153 :: y154 :: y155 :: y156 :: y157 :: y158 :: y159 :: y160 :: y161 :: y162 :: y163 :: y164 :: y165 :: y166 :: y167 :: y168 :: y169 :: y170 :: y171 :: y172 :: y173 :: y174 :: y175 :: y176 :: y177 :: y178 :: y179 :: y180 :: y181 :: y182 :: y183 :: y184 :: y185 :: y186 :: y187 :: y188 :: y189 :: y190 :: y191 :: y192 :: y193 :: y194 :: y195 :: y196 :: y197 :: y198 :: y199 :: y200 :: y201 :: y202 :: y203 :: y204 :: y205 :: y206 :: y207 :: y208 :: y209 :: []), defers := [] } W0 := by
  obtain ⟨A, cap, hj⟩ := hJ
  obtain ⟨l, hl⟩ : ∃ l, l = carsS S cs cs.length := ⟨_, rfl⟩
  have hlen : l.length = M := by rw [hl, carsS_len, hM]; rfl
  have hM1 : 2 ≤ M ∧ M ≤ 833 := by have := nodes_bd h0; have := (siteHead_iff.1 (stE_0 h0).2.1).1; omega
  rw [show supC S cs M cs.length = l from by rw [hM, supC_all, hl]] at hj
  have HJ := Lib.hid hj
  have HBD := Lib.hid (fun j (hj : j ≤ 1024) => sumT_bd (l := l) (by rw [hl]; exact carsS_bd h0 _ (Nat.le_refl _)) j hj)
  have HEB := Lib.hid (fun j (hj : j < M) => (show -1048576 ≤ l.getD j 0 ∧ l.getD j 0 ≤ 1048576 from by
    have : l.getD j 0 ∈ l := by rw [List.getD_eq_getElem?_getD, List.getElem?_eq_getElem (by omega)]; exact List.getElem_mem _
    rw [hl] at this
    exact carsS_bd h0 _ (Nat.le_refl _) _ (by rw [← hl] at this ⊢; exact this)))
  have HSU := Lib.hid (fun j (hj : j + 1 < M) => sumT_succ l j (by omega))
  have h00 : l.getD 0 0 = 0 := by rw [hl]; exact carsS_head _ _ _
  have HALL := Lib.hid (sumT_all l h00 (by omega))
  have HSN : Hid (l.set 0 (-(sum l)) = supN S cs) := Lib.hid (by rw [hl]; rfl)
  have HLEN := Lib.hid hlen
  have H00 := Lib.hid h00
  have HMN := Lib.hid hM
  have HS0 := Lib.hid (sumT_zero l)
  clear hj h00 hl hlen h0 hM
  obtain ⟨p, hp⟩ : ∃ p, M = p + 1 := ⟨M - 1, by omega⟩
  subst hp
  have pz : (0 : Int) < (p : Int) + 1 := by omega
  conv => arg 2; whnf
  have b0 := HJ.out.b.cell 0 rfl
  rw [HLEN.out] at b0
  have bl := HJ.out.b.lt
  go_wp2_with fail
  go_loop [13, 14] (fun sv iv => ∃ j : Nat, j ≤ p ∧ iv = .int .i64 ((j : Int) + 1) ∧ sv = .int .i64 (sumT l j)) (fun _ iv => p + 1 - (intOf iv).toNat)
  case atStart => exact ⟨0, Nat.zero_le _, rfl, by rw [HS0.out]⟩
  case round =>
    obtain ⟨j, hj, rfl, rfl⟩ := hrel
    by_cases hlt : j < p
    · have hji : (j : Int) + 1 < (p : Int) + 1 := by omega
      have jt : ((j : Int) + 1).toNat = j + 1 := by omega
      have jz : (0 : Int) ≤ (j : Int) + 1 := by omega
      have sx := HJ.out.s.cell (j + 1) (by rw [HLEN.out]; omega)
      have sl := HJ.out.s.lt
      have x1 := HBD.out j (by omega)
      have x2 := HEB.out (j + 1) (by omega)
      have HN := Lib.hid (HSU.out j (by omega))
      generalize l.getD (j + 1) 0 = x at *
      generalize sumT l j = sj at *
      have we : IntKind.i64.wrap (sj + x) = sj + x := IntWalk.i64_in _ (by omega)
      have we2 : IntKind.i64.wrap ((j : Int) + 1 + 1) = (j : Int) + 1 + 1 := IntWalk.i64_in _ (by omega)
      go_wp2_with fail
      exact ⟨⟨j + 1, by omega, by simp, by rw [HN.out]⟩, by simp [intOf]; omega⟩
    · obtain rfl : p = j := by omega
      have hji : ¬ (p : Int) + 1 < (p : Int) + 1 := by omega
      have HE := Lib.hid (show sumT l p = sum l from by have := HALL.out; rw [HLEN.out] at this; exact this)
      have x1 := HBD.out p (by omega)
      rw [HE.out] at x1 ⊢
      have we : IntKind.i64.wrap (-(sum l)) = -(sum l) := IntWalk.i64_in _ (by omega)
      have s0 := HJ.out.s.cell 0 (by rw [HLEN.out]; omega)
      have sz := HJ.out.s.free 0
      have sl := HJ.out.s.lt
      have HJ2 := Lib.hid (HJ.out.set 0 (-(sum l)))
      rw [HSN.out] at HJ2
      go_upto_region 34 with fail
      clear b0 bl s0 sz sl HJ
      generalize W0.setCell ⟨gs, 0, none⟩ (.int .i64 (-(sum l))) = w1 at HJ2 ⊢
      have b0 := HJ2.out.b.cell 0 rfl
      have b1 := HJ2.out.b.cell 1 rfl
      rw [supN_len, ← HMN.out] at b0
      have bl := HJ2.out.b.lt
      have r0 := HJ2.out.r.cell 0 rfl
      have r1 := HJ2.out.r.cell 1 rfl
      have rz := HJ2.out.r.free 0
      have rz1 := HJ2.out.r.free 1
      have rl := HJ2.out.r.lt
      have rne := HJ2.out.ne
      obtain ⟨na, hna⟩ : ∃ na, na = (carsA S cs cs.length).length := ⟨_, rfl⟩
      have HNA := Lib.hid hna
      rw [← hna] at b1
      clear hna
      have HF : Hid (Fl 2 ((w1.setCell ⟨gr, 0, none⟩ (.slice (some ⟨gs, 0, none⟩) (p + 1) (p + 1))).setCell ⟨gr, 1, none⟩ (.slice A na cap)) gs (supN S cs) ∧ ((w1.setCell ⟨gr, 0, none⟩ (.slice (some ⟨gs, 0, none⟩) (p + 1) (p + 1))).setCell ⟨gr, 1, none⟩ (.slice A na cap)).ownsRow w.heap.size 46 4 (.slice A na cap) na (flat arcV (carsA S cs cs.length)) ∧ w.heap.size ≤ gs ∧ Below w.heap.size w ((w1.setCell ⟨gr, 0, none⟩ (.slice (some ⟨gs, 0, none⟩) (p + 1) (p + 1))).setCell ⟨gr, 1, none⟩ (.slice A na cap)) ∧ Blk ((w1.setCell ⟨gr, 0, none⟩ (.slice (some ⟨gs, 0, none⟩) (p + 1) (p + 1))).setCell ⟨gr, 1, none⟩ (.slice A na cap)) gr 25 [.slice (some ⟨gs, 0, none⟩) (p + 1) (p + 1), .slice A na cap]) := Lib.hid (by
        have h := HJ2.out
        have t1 : gs ≠ gr := fun e => blk_type_ne h.r h.s (by decide) (by rw [e])
        have o1 := h.own
        rw [← HNA.out] at o1
        refine ⟨(h.s.set_ne (p := ⟨gr, 0, none⟩) t1 _).set_ne (p := ⟨gr, 1, none⟩) t1 _, ownSet (ownSet o1 (own_blk_no (g := gr) h.r o1 (by decide)) _) (own_blk_no (g := gr) h.r o1 (by decide)) _, h.lt.1, (h.bel.setCell (by simp; exact h.lt.2.2) _).setCell (by simp; exact h.lt.2.2) _, (h.r.setCell 0 _).setCell 1 _⟩)
      clear HJ2
      go_wp2_with fail
      generalize (w1.setCell ⟨gr, 0, none⟩ (.slice (some ⟨gs, 0, none⟩) (p + 1) (p + 1))).setCell ⟨gr, 1, none⟩ (.slice A na cap) = w2 at HF ⊢
      have c0 := HF.out.2.2.2.2.cell 0 rfl
      have c1 := HF.out.2.2.2.2.cell 1 rfl
      exact bodyPost_ret (v := .agg #[.slice (some ⟨gs, 0, none⟩) (p + 1) (p + 1), .slice A na cap]) (by simp [results, Try.results77, go_sem, c0, c1]) rfl ⟨gs, A, cap, by rw [← HMN.out, ← HNA.out], HF.out.1, by rw [← HNA.out]; exact HF.out.2.1, HF.out.2.2.1, HF.out.2.2.2.1⟩
set_option maxHeartbeats 8000000 in
set_option maxRecDepth 100000 in
theorem net_c (X1 X2 X3 X4 E : Option Addr) (S : Site) (cs : List Car) (n m cA cB cC cD cE : Nat) (w : World) (h0 : stE S cs = 0) (hn : n = S.lim.length) (hm : m = cs.length)
    (hA : n ≤ cA ∧ cA ≤ 9223372036854775807) (hB : n ≤ cB ∧ cB ≤ 9223372036854775807) (hC : n ≤ cC ∧ cC ≤ 9223372036854775807) (hD : n ≤ cD ∧ cD ≤ 9223372036854775807) (hE : m ≤ cE ∧ cE ≤ 9223372036854775807)
    (hS : SiteAt w X1 X2 X3 X4 S) (hcs : CarsAt w E cs) :
    Calls Try.prog 77 #[.agg #[.slice X1 n cA, .slice X2 n cB, .slice X3 n cC, .slice X4 n cD], .slice E m cE] w (R77 S cs w) := by
  have H0 := Lib.hid h0
  have HN := Lib.hid hn
  have HM := Lib.hid hm
  have HCS := Lib.hid hcs
  have hsh := (siteHead_iff.1 (stE_0 h0).2.1)
  have h48 : n ≤ 48 := by omega
  have h1n : 1 ≤ n := by omega
  have h8 : m ≤ 8 := by have := (stE_0 h0).1; omega
  obtain ⟨M, hM⟩ : ∃ M, M = nodesN S cs := ⟨_, rfl⟩
  have HMM := Lib.hid hM
  have hM2 : M ≤ 833 ∧ n + 1 ≤ M := by have := nodes_bd h0; omega
  have HSB := Lib.hid (fun t (ht : t < n) => slotOk_iff.1 ((stE_0 h0).2.2.1 t (by omega)))
  have HSV : Hid (∀ t, t < n → ∀ V, Below w.heap.size w V → (∃ a, X1 = some a ∧ V.cell? (a.add t) = some (.int .i64 (S.lim.getD t 0)) ∧ (a.add t).block < V.heap.size) ∧ (∃ a, X2 = some a ∧ V.cell? (a.add t) = some (.int .i64 (S.exp.getD t 0)) ∧ (a.add t).block < V.heap.size) ∧ (∃ a, X3 = some a ∧ V.cell? (a.add t) = some (.int .i64 (S.buy.getD t 0)) ∧ (a.add t).block < V.heap.size) ∧ (∃ a, X4 = some a ∧ V.cell? (a.add t) = some (.int .i64 (S.sell.getD t 0)) ∧ (a.add t).block < V.heap.size)) := Lib.hid (fun t ht V hV => by
    have h := hS.below hV (Nat.le_refl _)
    obtain ⟨a1, e1, l1, c1⟩ := h.1 t (by omega)
    obtain ⟨a2, e2, l2, c2⟩ := h.2.1 t (by omega)
    obtain ⟨a3, e3, l3, c3⟩ := h.2.2.1 t (by omega)
    obtain ⟨a4, e4, l4, c4⟩ := h.2.2.2 t (by omega)
    exact ⟨⟨a1, e1, c1, by rw [block_add]; exact l1⟩, ⟨a2, e2, c2, by rw [block_add]; exact l2⟩, ⟨a3, e3, c3, by rw [block_add]; exact l3⟩, ⟨a4, e4, c4, by rw [block_add]; exact l4⟩⟩)
  have hmk := make_64 M (by omega)
  have HSC : Hid (supC S cs M 0 = List.replicate M 0) := Lib.hid (by rw [hM]; exact supC_none S cs (nodes_bd h0).2)
  have HMV : Hid (nodeF n m 0 = M) := Lib.hid (by rw [hM, hn, hm]; rfl)
  have HNC := Lib.hid (fun V => node_ref n m 0 h48 h8 (by omega) V)
  rw [HMV.out] at HNC
  have HAR : Hid (limA S n ++ expA S n = carsA S cs 0) := Lib.hid (by rw [hn]; rfl)
  have HNF : Hid (nodeF n 0 0 = 1 + n) := Lib.hid (by unfold nodeF; omega)
  have HLL := Lib.hid (fun t => And.intro (limA_len S t) (expA_len S t))
  clear h0 hn hm hcs hsh hM hS
  obtain ⟨i3, h3i, h3z, h3s, h3b⟩ := info_parts info46
  have HJ0 : Hid (∃ A cap, NtJ w (w.heap.size + 2) (w.heap.size + 3) (w.heap.size + 1) [.slice X1 n cA, .slice X2 n cB, .slice X3 n cC, .slice X4 n cD] A cap (List.replicate M 0) (limA S 0) ((((w.alloc (.cells #[.slice X1 n cA, .slice X2 n cB, .slice X3 n cC, .slice X4 n cD] 51)).alloc (.cells #[.slice none 0 0, .slice none 0 0] 25)).alloc (.cells (Array.replicate M (.int .i64 0)) 2)).alloc (.cells #[.slice (some ⟨w.heap.size + 2, 0, none⟩) M M, .slice none 0 0] 25))) := Lib.hid ⟨none, 0, ⟨by
    have := Blk.new' (((w.alloc (.cells #[.slice X1 n cA, .slice X2 n cB, .slice X3 n cC, .slice X4 n cD] 51)).alloc (.cells #[.slice none 0 0, .slice none 0 0] 25)).alloc (.cells (Array.replicate M (.int .i64 0)) 2)) #[.slice (some ⟨w.heap.size + 2, 0, none⟩) M M, .slice none 0 0] 25
    rw [List.length_replicate]; simpa [Nat.add_assoc, limA] using this, by
    have := ((Blk.new' (w.alloc (.cells #[.slice X1 n cA, .slice X2 n cB, .slice X3 n cC, .slice X4 n cD] 51)) #[.slice none 0 0, .slice none 0 0] 25).alloc (.cells (Array.replicate M (.int .i64 0)) 2)).alloc (.cells #[.slice (some ⟨w.heap.size + 2, 0, none⟩) M M, .slice none 0 0] 25)
    simpa using this, by
    have := Blk.alloc (fl_new 2 M ((w.alloc (.cells #[.slice X1 n cA, .slice X2 n cB, .slice X3 n cC, .slice X4 n cD] 51)).alloc (.cells #[.slice none 0 0, .slice none 0 0] 25))) (.cells #[.slice (some ⟨w.heap.size + 2, 0, none⟩) M M, .slice none 0 0] 25)
    unfold Fl; simpa [Nat.add_assoc] using this, World.ownsRow_nil _ _ _ _, by
    have := (((Blk.new' w #[.slice X1 n cA, .slice X2 n cB, .slice X3 n cC, .slice X4 n cD] 51).alloc (.cells #[.slice none 0 0, .slice none 0 0] 25)).alloc (.cells (Array.replicate M (.int .i64 0)) 2)).alloc (.cells #[.slice (some ⟨w.heap.size + 2, 0, none⟩) M M, .slice none 0 0] 25)
    simpa using this, by omega, ⟨by omega, by omega, by omega⟩, ((((Below.refl w.heap.size w).alloc (Nat.le_refl _) _).alloc (by simp) _).alloc (by simp; omega) _).alloc (by simp; omega) _⟩⟩
  go_enter Try.func77, Try.ntmps77
  go_upto_region 3 with (go_at_call 109; refine (HNC.out _).mono ?_; rintro e wq ⟨rfl, rfl⟩)
  (try simp only [World.size_alloc, Nat.add_assoc, Nat.reduceAdd])
  generalize ((((w.alloc (.cells #[.slice X1 n cA, .slice X2 n cB, .slice X3 n cC, .slice X4 n cD] 51)).alloc (.cells #[.slice none 0 0, .slice none 0 0] 25)).alloc (.cells (Array.replicate M (.int .i64 0)) 2)).alloc (.cells #[.slice (some ⟨w.heap.size + 2, 0, none⟩) M M, .slice none 0 0] 25)) = w1 at HJ0 ⊢
  generalize w.heap.size + 3 = gx at *
  generalize w.heap.size + 2 = gs at *
  generalize w.heap.size + 1 = gr at *
  go_wp2_with fail
  go_loopw [7] (fun iv wr => ∃ t : Nat, t ≤ n ∧ iv = .int .i64 t ∧ Hid (∃ A cap, NtJ w gs gx gr [.slice X1 n cA, .slice X2 n cB, .slice X3 n cC, .slice X4 n cD] A cap (List.replicate M 0) (limA S t) wr)) (fun iv _ => n - (intOf iv).toNat)
  case atStart => exact ⟨0, Nat.zero_le _, rfl, HJ0⟩
  case round =>
    clear HJ0
    obtain ⟨t, ht, rfl, HJ⟩ := hrel
    by_cases hlt : t < n
    · have hti : (t : Int) < (n : Int) := by omega
      obtain ⟨A, cap, hj⟩ := HJ.out
      have HBD := Lib.hid hj
      clear hj HJ
      obtain ⟨⟨a1, e1, l1, q1⟩, ⟨a2, e2, l2, q2⟩, ⟨a3, e3, l3, q3⟩, ⟨a4, e4, l4, q4⟩⟩ := HSV.out t hlt wr HBD.out.bel
      have hb := HSB.out t hlt
      have HLN2 := Lib.hid (HLL.out t)
      have HLN3 := Lib.hid (HLL.out n)
      have HNX : Hid ((limA S (t + 1)) = (limA S t) ++ [Dp.Arc.mk 0 (1 + (t : Int)) (S.lim.getD t 0) (S.buy.getD t 0)]) := Lib.hid (by rfl)
      generalize S.lim.getD t 0 = lm at *
      generalize S.exp.getD t 0 = ex at *
      generalize S.buy.getD t 0 = bu at *
      generalize S.sell.getD t 0 = se at *
      obtain ⟨ln, hln⟩ : ∃ ln, ln = ((limA S t)).length := ⟨_, rfl⟩
      have hlb : ln ≤ 96 := by rw [hln, HLN2.out.1]; omega
      have HLN := Lib.hid hln
      have t1e : IntKind.i64.wrap (1 + (t : Int)) = 1 + (t : Int) := IntWalk.i64_in _ (by omega)
      have sne : IntKind.i64.wrap (-se) = -se := IntWalk.i64_in _ (by omega)
      have s0 := HBD.out.st.cell 0 rfl
      rw [e1] at s0
      have s1 := HBD.out.st.cell 1 rfl
      rw [e2] at s1
      have s2 := HBD.out.st.cell 2 rfl
      rw [e3] at s2
      have s3 := HBD.out.st.cell 3 rfl
      rw [e4] at s3
      clear e1 e2 e3 e4
      have sl := HBD.out.st.lt
      have b1 := HBD.out.b.cell 1 rfl
      have bl := HBD.out.b.lt
      rw [← hln] at b1
      clear hln
      go_upto_region 6 with fail
      refine wp_region_priv 16 [.q, .q, .q, .q, .q, .q, .q, .q, .q, .q, .q, .q, .q, .q, .q, .p] (fun _ => (.cells #[.int .i64 0, .int .i64 (1 + (t : Int)), .int .i64 lm, .int .i64 bu] 46, fun b => .slice (some ⟨b, 0, none⟩) 1 1)) ?af6 (by kernel_rfl) (by kernel_rfl) ?walk6 ?tail6
      case walk6 =>
        intro V hV
        have s0 := (hV.cell (p := ⟨w.heap.size, 0, none⟩) sl).trans s0
        have s1 := (hV.cell (p := ⟨w.heap.size, 1, none⟩) sl).trans s1
        have s2 := (hV.cell (p := ⟨w.heap.size, 2, none⟩) sl).trans s2
        have s3 := (hV.cell (p := ⟨w.heap.size, 3, none⟩) sl).trans s3
        have b1 := (hV.cell (p := ⟨gx, 1, none⟩) bl).trans b1
        have sl := Nat.lt_of_lt_of_le sl hV.size
        have bl := Nat.lt_of_lt_of_le bl hV.size
        have l1 := (hV.cell q1).trans l1
        have q1 := Nat.lt_of_lt_of_le q1 hV.size
        have l2 := (hV.cell q2).trans l2
        have q2 := Nat.lt_of_lt_of_le q2 hV.size
        have l3 := (hV.cell q3).trans l3
        have q3 := Nat.lt_of_lt_of_le q3 hV.size
        have l4 := (hV.cell q4).trans l4
        have q4 := Nat.lt_of_lt_of_le q4 hV.size
        clear hV
        simp only [List.take_succ_cons, List.take_zero]
        repeat (with_reducible refine wpP_q ?_; go_big_quiet_step (fail); with_reducible refine wpQuiet_nil ?_)
        refine wpP_p (by kernel_rfl) (fun _ => by kernel_rfl) ?_
        (try simp only [Act.put, List.setIfInBounds_toArray, List.set_cons_zero, List.set_cons_succ])
        with_reducible refine wpP_nil ?_
        rfl
      case tail6 =>
        intro gs1 w3 hb3 hgs _
        have HBD3 := Lib.hid (HBD.out.below hb3)
        obtain ⟨_, hgb⟩ := hgs 15 rfl
        have GB : Hid (Blk w3 (gs1 15) 46 (flat arcV [Dp.Arc.mk 0 (1 + (t : Int)) lm bu])) := Lib.hid hgb
        clear hb3 hgs hgb HBD s0 s1 s2 s3 sl l1 l2 l3 l4 q1 q2 q3 q4 b1 bl
        simp only [List.drop_succ_cons, List.drop_zero, List.take_succ_cons, List.take_zero, fillP]
        (try simp only [Act.put, List.setIfInBounds_toArray, List.set_cons_zero, List.set_cons_succ])
        generalize gs1 15 = ga at *
        go_upto_region 5 with (at_builtin; refine wpList_append_any (.tmp 30) (.tmp 44) 23 rfl rfl w.heap.size 46 i3 (.agg #[.int .i64 0, .int .i64 0, .int .i64 0, .int .i64 0]) 4 32 Try.underlying23 h3i h3z h3s h3b rfl (by decide) A ln cap (flat arcV (limA S t)) (by rfl) (by rw [HLN.out]; exact HBD3.out.own) (some ⟨ga, 0, none⟩) 1 1 (flat arcV [Dp.Arc.mk 0 (1 + (t : Int)) lm bu]) (by rfl) (by rfl) (.inr ⟨_, rfl, fun j u hj => by rw [add_row]; exact GB.out.cell j hj⟩) (by simp [flat, arcV, Value.oneCell']) (by unfold maxLen; omega) (by omega) HBD3.out.bel.size ?_; intro A2 cap2 va hown hgrow hat; have JM := HBD3.out.mid (by rw [← HLN.out]; exact hgrow); have b1 := JM.cell 1 rfl; have bz := JM.free 1; have bl := JM.lt; have HK4 : Hid (NtJ w gs gx gr [.slice X1 n cA, .slice X2 n cB, .slice X3 n cC, .slice X4 n cD] A2 cap2 (List.replicate M 0) ((limA S t) ++ [Dp.Arc.mk 0 (1 + (t : Int)) lm bu]) (va.setCell ⟨gx, 1, none⟩ (.slice A2 (ln + 1) cap2))) := Lib.hid (HBD3.out.push (m := 1) (news := [Dp.Arc.mk 0 (1 + (t : Int)) lm bu]) HLN.out rfl hgrow hown); clear JM hown hgrow hat)
        clear b1 bz bl HLN HBD3 GB
        generalize va.setCell ⟨gx, 1, none⟩ (.slice A2 (ln + 1) cap2) = w4 at HK4 ⊢
        rw [← HNX.out] at HK4
        go_wp2_with fail
        exact ⟨⟨t + 1, by omega, by go_num, Lib.hid ⟨_, _, HK4.out⟩⟩, by simp [intOf]; omega⟩
    · obtain rfl : n = t := by omega
      have HJ0 : Hid (∃ A cap, NtJ w gs gx gr [.slice X1 n cA, .slice X2 n cB, .slice X3 n cC, .slice X4 n cD] A cap (List.replicate M 0) (limA S n ++ expA S 0) wr) := Lib.hid (by simpa [expA] using HJ.out)
      clear HJ
      go_wp2_with fail
      go_loopw [8] (fun iv wr => ∃ t : Nat, t ≤ n ∧ iv = .int .i64 t ∧ Hid (∃ A cap, NtJ w gs gx gr [.slice X1 n cA, .slice X2 n cB, .slice X3 n cC, .slice X4 n cD] A cap (List.replicate M 0) (limA S n ++ expA S t) wr)) (fun iv _ => n - (intOf iv).toNat)
      case atStart => exact ⟨0, Nat.zero_le _, rfl, HJ0⟩
      case round =>
        clear HJ0
        obtain ⟨t, ht, rfl, HJ⟩ := hrel
        by_cases hlt : t < n
        · have hti : (t : Int) < (n : Int) := by omega
          obtain ⟨A, cap, hj⟩ := HJ.out
          have HBD := Lib.hid hj
          clear hj HJ
          obtain ⟨⟨a1, e1, l1, q1⟩, ⟨a2, e2, l2, q2⟩, ⟨a3, e3, l3, q3⟩, ⟨a4, e4, l4, q4⟩⟩ := HSV.out t hlt wr HBD.out.bel
          have hb := HSB.out t hlt
          have HLN2 := Lib.hid (HLL.out t)
          have HLN3 := Lib.hid (HLL.out n)
          have HNX : Hid ((limA S n ++ expA S (t + 1)) = (limA S n ++ expA S t) ++ [Dp.Arc.mk (1 + (t : Int)) 0 (S.exp.getD t 0) (-(S.sell.getD t 0))]) := Lib.hid (by rw [List.append_assoc]; rfl)
          generalize S.lim.getD t 0 = lm at *
          generalize S.exp.getD t 0 = ex at *
          generalize S.buy.getD t 0 = bu at *
          generalize S.sell.getD t 0 = se at *
          obtain ⟨ln, hln⟩ : ∃ ln, ln = ((limA S n ++ expA S t)).length := ⟨_, rfl⟩
          have hlb : ln ≤ 96 := by rw [hln, List.length_append, HLN3.out.1, HLN2.out.2]; omega
          have HLN := Lib.hid hln
          have t1e : IntKind.i64.wrap (1 + (t : Int)) = 1 + (t : Int) := IntWalk.i64_in _ (by omega)
          have sne : IntKind.i64.wrap (-se) = -se := IntWalk.i64_in _ (by omega)
          have s0 := HBD.out.st.cell 0 rfl
          rw [e1] at s0
          have s1 := HBD.out.st.cell 1 rfl
          rw [e2] at s1
          have s2 := HBD.out.st.cell 2 rfl
          rw [e3] at s2
          have s3 := HBD.out.st.cell 3 rfl
          rw [e4] at s3
          clear e1 e2 e3 e4
          have sl := HBD.out.st.lt
          have b1 := HBD.out.b.cell 1 rfl
          have bl := HBD.out.b.lt
          rw [← hln] at b1
          clear hln
          go_upto_region 10 with fail
          refine wp_region_priv 17 [.q, .q, .q, .q, .q, .q, .q, .q, .q, .q, .q, .q, .q, .q, .q, .q, .p] (fun _ => (.cells #[.int .i64 (1 + (t : Int)), .int .i64 0, .int .i64 ex, .int .i64 (-se)] 46, fun b => .slice (some ⟨b, 0, none⟩) 1 1)) ?af10 (by kernel_rfl) (by kernel_rfl) ?walk10 ?tail10
          case walk10 =>
            intro V hV
            have s0 := (hV.cell (p := ⟨w.heap.size, 0, none⟩) sl).trans s0
            have s1 := (hV.cell (p := ⟨w.heap.size, 1, none⟩) sl).trans s1
            have s2 := (hV.cell (p := ⟨w.heap.size, 2, none⟩) sl).trans s2
            have s3 := (hV.cell (p := ⟨w.heap.size, 3, none⟩) sl).trans s3
            have b1 := (hV.cell (p := ⟨gx, 1, none⟩) bl).trans b1
            have sl := Nat.lt_of_lt_of_le sl hV.size
            have bl := Nat.lt_of_lt_of_le bl hV.size
            have l1 := (hV.cell q1).trans l1
            have q1 := Nat.lt_of_lt_of_le q1 hV.size
            have l2 := (hV.cell q2).trans l2
            have q2 := Nat.lt_of_lt_of_le q2 hV.size
            have l3 := (hV.cell q3).trans l3
            have q3 := Nat.lt_of_lt_of_le q3 hV.size
            have l4 := (hV.cell q4).trans l4
            have q4 := Nat.lt_of_lt_of_le q4 hV.size
            clear hV
            simp only [List.take_succ_cons, List.take_zero]
            repeat (with_reducible refine wpP_q ?_; go_big_quiet_step (fail); with_reducible refine wpQuiet_nil ?_)
            refine wpP_p (by kernel_rfl) (fun _ => by kernel_rfl) ?_
            (try simp only [Act.put, List.setIfInBounds_toArray, List.set_cons_zero, List.set_cons_succ])
            with_reducible refine wpP_nil ?_
            rfl
          case tail10 =>
            intro gs1 w3 hb3 hgs _
            have HBD3 := Lib.hid (HBD.out.below hb3)
            obtain ⟨_, hgb⟩ := hgs 16 rfl
            have GB : Hid (Blk w3 (gs1 16) 46 (flat arcV [Dp.Arc.mk (1 + (t : Int)) 0 ex (-se)])) := Lib.hid hgb
            clear hb3 hgs hgb HBD s0 s1 s2 s3 sl l1 l2 l3 l4 q1 q2 q3 q4 b1 bl
            simp only [List.drop_succ_cons, List.drop_zero, List.take_succ_cons, List.take_zero, fillP]
            (try simp only [Act.put, List.setIfInBounds_toArray, List.set_cons_zero, List.set_cons_succ])
            generalize gs1 16 = ga at *
            go_upto_region 9 with (at_builtin; refine wpList_append_any (.tmp 53) (.tmp 68) 23 rfl rfl w.heap.size 46 i3 (.agg #[.int .i64 0, .int .i64 0, .int .i64 0, .int .i64 0]) 4 32 Try.underlying23 h3i h3z h3s h3b rfl (by decide) A ln cap (flat arcV (limA S n ++ expA S t)) (by rfl) (by rw [HLN.out]; exact HBD3.out.own) (some ⟨ga, 0, none⟩) 1 1 (flat arcV [Dp.Arc.mk (1 + (t : Int)) 0 ex (-se)]) (by rfl) (by rfl) (.inr ⟨_, rfl, fun j u hj => by rw [add_row]; exact GB.out.cell j hj⟩) (by simp [flat, arcV, Value.oneCell']) (by unfold maxLen; omega) (by omega) HBD3.out.bel.size ?_; intro A2 cap2 va hown hgrow hat; have JM := HBD3.out.mid (by rw [← HLN.out]; exact hgrow); have b1 := JM.cell 1 rfl; have bz := JM.free 1; have bl := JM.lt; have HK4 : Hid (NtJ w gs gx gr [.slice X1 n cA, .slice X2 n cB, .slice X3 n cC, .slice X4 n cD] A2 cap2 (List.replicate M 0) ((limA S n ++ expA S t) ++ [Dp.Arc.mk (1 + (t : Int)) 0 ex (-se)]) (va.setCell ⟨gx, 1, none⟩ (.slice A2 (ln + 1) cap2))) := Lib.hid (HBD3.out.push (m := 1) (news := [Dp.Arc.mk (1 + (t : Int)) 0 ex (-se)]) HLN.out rfl hgrow hown); clear JM hown hgrow hat)
            clear b1 bz bl HLN HBD3 GB
            generalize va.setCell ⟨gx, 1, none⟩ (.slice A2 (ln + 1) cap2) = w4 at HK4 ⊢
            rw [← HNX.out] at HK4
            go_wp2_with fail
            exact ⟨⟨t + 1, by omega, by go_num, Lib.hid ⟨_, _, HK4.out⟩⟩, by simp [intOf]; omega⟩
        · obtain rfl : n = t := by omega
          obtain ⟨A, cap, hj⟩ := HJ.out
          have HE : Hid (NuJ S cs w gs gx gr [.slice X1 n cA, .slice X2 n cB, .slice X3 n cC, .slice X4 n cD] M 0 wr) := Lib.hid ⟨A, cap, by rw [HSC.out, ← HAR.out]; exact hj⟩
          clear HJ hj
          go_wp2_with fail
          rename_i KK hKK
          refine wp_codeP (c' := loop77) (by kernel_rfl) ?_
          refine nt4 S cs E n m cE gs gx gr M [.slice X1 n cA, .slice X2 n cB, .slice X3 n cC, .slice X4 n cD] w wr H0.out HN.out HM.out HMM.out hE HCS.out HE.out ?_
          intro y0 y1 y2 y3 y5 y7 y8 y9 y10 y11 y12 y13 y14 y15 y16 y17 y18 y19 y20 y21 y22 y23 y24 y25 y26 y27 y28 y29 y30 y31 y32 y33 y34 y35 y36 y37 y38 y39 y40 y41 y42 y43 y44 y45 y46 y47 y48 y49 y50 y51 y52 y53 y54 y55 y56 y57 y58 y59 y60 y61 y62 y63 y64 y65 y66 y67 y68 y69 y70 y71 y72 y73 y74 y75 y76 y77 y78 y79 y80 y81 y82 y83 y84 y85 y86 y87 y88 y89 y90 y91 y92 y93 y94 y95 y96 y97 y98 y99 y100 y101 y102 y103 y104 y105 y106 y107 y108 y109 y110 y111 y112 y113 y114 y115 y116 y117 y118 y119 y120 y121 y122 y123 y124 y125 y126 y127 y128 y129 y130 y131 y132 y133 y134 y135 y136 y137 y138 y139 y140 y141 y142 y143 y144 y145 y146 y147 y148 y149 y150 y151 y152 y153 y154 y155 y156 y157 y158 y159 y160 y161 y162 y163 y164 y165 y166 y167 y168 y169 y170 y171 y172 y173 y174 y175 y176 y177 y178 y179 y180 y181 y182 y183 y184 y185 y186 y187 y188 y189 y190 y191 y192 y193 y194 y195 y196 y197 y198 y199 y200 y201 y202 y203 y204 y205 y206 y207 y208 y209 w' h
          exact hKK _ _ (wp_codeP (by kernel_rfl) (nt8 S cs gs gx gr M [.slice X1 n cA, .slice X2 n cB, .slice X3 n cC, .slice X4 n cD] w w' H0.out HMM.out (by rw [← HM.out]; exact h)))
end Go.Proofs.Ytmebpglkeedaoaa
namespace Go.Proofs.Ytmebpglkeedaoaa
open Go.RowKit Dp
def NetIn (S : Site) (cs : List Car) (w : World) (gs : Nat) (A : Option Addr) (cap : Nat) (W : World) : Prop := Fl 2 W gs (supN S cs) ∧ W.ownsRow w.heap.size 46 4 (.slice A (carsA S cs cs.length).length cap) (carsA S cs cs.length).length (flat arcV (carsA S cs cs.length)) ∧ w.heap.size ≤ gs ∧ Below w.heap.size w W
def NetP (S : Site) (cs : List Car) (w : World) : Ending → World → Prop := fun e w' =>
  (stE S cs = 0 ∧ ∃ gs A cap, e = .returned (.tuple #[.agg #[.slice (some ⟨gs, 0, none⟩) (nodesN S cs) (nodesN S cs), .slice A (carsA S cs cs.length).length cap], .int .i64 0]) ∧ NetIn S cs w gs A cap w') ∨
  (stE S cs ≠ 0 ∧ e = .returned (.tuple #[.agg #[.slice none 0 0, .slice none 0 0], .int .i64 (stE S cs)]) ∧ Below w.heap.size w w')
theorem NetIn.of_bld {S : Site} {cs : List Car} {w W w0 : World} {b : Nat} (h : BldP S cs W b w0) (hb : Below w.heap.size w W) : ∃ gs A cap v2 v3, NetIn S cs w gs A cap w0 ∧ Blk w0 b 125 [.slice (some ⟨gs, 0, none⟩) (nodesN S cs) (nodesN S cs), .slice A (carsA S cs cs.length).length cap, v2, v3] ∧ Below W.heap.size W w0 := by
  obtain ⟨gs, A, cap, AI, AO, ci, co, vi, vo, h1, _, _⟩ := h
  have hz := hb.size
  refine ⟨gs, A, cap, .slice AI cs.length ci, .slice AO cs.length co, ⟨h1.s, ownV_mono h1.own hz, Nat.le_trans hz h1.lt.1, hb.trans (h1.bel.mono hz)⟩, ?_, h1.bel⟩
  have := h1.b
  rw [supN_len] at this
  exact this
end Go.Proofs.Ytmebpglkeedaoaa
namespace Go.Proofs.Ytmebpglkeedaoaa
open Go.RowKit Dp
end Go.Proofs.Ytmebpglkeedaoaa
namespace Go.Proofs.Ytmebpglkeedaoaa
open Go.RowKit Dp
structure RwJ (n m g : Nat) (gI : Nat → Nat) (R : Nat → List Int) (W : World) : Prop where
  b : ∃ cs, Blk W g 22 cs ∧ ∀ i, i < m → cs[i]? = some (.slice (some ⟨gI i, 0, none⟩) n n)
  f : ∀ i, i < m → Fl 2 W (gI i) (R i) ∧ (R i).length = n
  inj : ∀ i j, i < m → j < m → gI i = gI j → i = j
section
variable {W V : World} {n m g gl : Nat} {gI gO : Nat → Nat} {R RO : Nat → List Int}
theorem RwJ.below (h : RwJ n m g gI R W) (hb : Below W.heap.size W V) : RwJ n m g gI R V := by
  obtain ⟨cs, h1, h2⟩ := h.b
  exact ⟨⟨cs, h1.below hb h1.lt, h2⟩, fun i hi => ⟨(h.f i hi).1.below hb, (h.f i hi).2⟩, h.inj⟩
theorem RwJ.lt (h : RwJ n m g gI R W) : g < W.heap.size := by
  obtain ⟨cs, h1, _⟩ := h.b
  exact h1.lt
theorem RwJ.cell (h : RwJ n m g gI R W) (i : Nat) (hi : i < m) : W.cell? ⟨g, i, none⟩ = some (.slice (some ⟨gI i, 0, none⟩) n n) := by
  obtain ⟨cs, h1, h2⟩ := h.b
  exact h1.cell i (h2 i hi)
theorem RwJ.other (h : RwJ n m g gI R W) {p : Addr} (h1 : g ≠ p.block) (h2 : ∀ i, i < m → gI i ≠ p.block) (u : Value) : RwJ n m g gI R (W.setCell p u) := by
  obtain ⟨cs, b1, b2⟩ := h.b
  exact ⟨⟨cs, b1.setCell_ne h1 u, b2⟩, fun i hi => ⟨(h.f i hi).1.set_ne (h2 i hi) u, (h.f i hi).2⟩, h.inj⟩
theorem RwJ.set (h : RwJ n m g gI R W) (i : Nat) (hi : i < m) (k : Nat) (v : Int) : RwJ n m g gI (upd R i ((R i).set k v)) (W.setCell ⟨gI i, k, none⟩ (.int .i64 v)) := by
  obtain ⟨cs, b1, b2⟩ := h.b
  refine ⟨⟨cs, b1.setCell_ne (fun e => blk_type_ne b1 (h.f i hi).1 (by decide) e.symm) _, b2⟩, fun j hj => ?_, h.inj⟩
  by_cases e : j = i
  · subst e
    unfold upd
    rw [if_pos rfl]
    exact ⟨(h.f j hj).1.put k v, by rw [List.length_set]; exact (h.f j hj).2⟩
  · unfold upd
    rw [if_neg e]
    exact ⟨(h.f j hj).1.set_ne (fun q => e (h.inj j i hj hi q)) _, (h.f j hj).2⟩
theorem RwJ.of (h : RwJ n m g gI R W) {R' : Nat → List Int} (he : ∀ i, i < m → R' i = R i) : RwJ n m g gI R' W :=
  ⟨h.b, fun i hi => by rw [he i hi]; exact h.f i hi, h.inj⟩
theorem RwJ.rows (h : RwJ n m g gI R W) (hn : n ≤ 9223372036854775807) : RowsAt W (some ⟨g, 0, none⟩) ((List.range m).map R) := fun i hi => by
  have hi' : i < m := by simpa using hi
  have e : ((List.range m).map R).getD i [] = R i := by simp [List.getD_eq_getElem?_getD, hi']
  refine ⟨_, rfl, h.lt, some ⟨gI i, 0, none⟩, n, ?_, ?_, ?_⟩
  · rw [add_row, e, (h.f i hi').2]; exact h.cell i hi'
  · rw [e, (h.f i hi').2]; exact ⟨Nat.le_refl _, hn⟩
  · rw [e]; exact (h.f i hi').1.ints
end
structure TbJ (w : World) (n m gt g1 g2 c1 c2 : Nat) (gI gO : Nat → Nat) (RI RO : Nat → List Int) (W : World) : Prop where
  b : Blk W gt 55 [.slice (some ⟨g1, 0, none⟩) m c1, .slice (some ⟨g2, 0, none⟩) m c2]
  i : RwJ n m g1 gI RI W
  o : RwJ n m g2 gO RO W
  ne : g1 ≠ g2
  dis : ∀ x y, x < m → y < m → gI x ≠ gO y
  bel : Below w.heap.size w W
  ge : ∀ x, x < m → w.heap.size ≤ gI x ∧ w.heap.size ≤ gO x
section
variable {w W V : World} {n m gt g1 g2 c1 c2 gl : Nat} {gI gO : Nat → Nat} {RI RO : Nat → List Int}
theorem TbJ.below (h : TbJ w n m gt g1 g2 c1 c2 gI gO RI RO W) (hb : Below W.heap.size W V) : TbJ w n m gt g1 g2 c1 c2 gI gO RI RO V :=
  ⟨h.b.below hb h.b.lt, h.i.below hb, h.o.below hb, h.ne, h.dis, h.bel.trans (hb.mono h.bel.size), h.ge⟩
theorem TbJ.set (h : TbJ w n m gt g1 g2 c1 c2 gI gO RI RO W) (x : Nat) (hx : x < m) (k : Nat) (v : Int) : TbJ w n m gt g1 g2 c1 c2 gI gO (upd RI x ((RI x).set k v)) RO (W.setCell ⟨gI x, k, none⟩ (.int .i64 v)) := by
  obtain ⟨cs, b1, b2⟩ := h.o.b
  exact ⟨h.b.setCell_ne (fun e => blk_type_ne h.b (h.i.f x hx).1 (by decide) e.symm) _, h.i.set x hx k v, h.o.other (fun e => blk_type_ne b1 (h.i.f x hx).1 (by decide) e.symm) (fun y hy e => h.dis x y hx hy e.symm) _, h.ne, h.dis, h.bel.setCell (by simp; exact (h.ge x hx).1) _, h.ge⟩
theorem TbJ.other (h : TbJ w n m gt g1 g2 c1 c2 gI gO RI RO W) {p : Addr} {xs : List Int} (hf : Fl 2 W p.block xs) (h1 : ∀ x, x < m → gI x ≠ p.block ∧ gO x ≠ p.block) (hp : w.heap.size ≤ p.block) (u : Value) : TbJ w n m gt g1 g2 c1 c2 gI gO RI RO (W.setCell p u) := by
  obtain ⟨cs, b1, b2⟩ := h.o.b
  obtain ⟨cs', b1', b2'⟩ := h.i.b
  exact ⟨h.b.setCell_ne (fun e => blk_type_ne h.b hf (by decide) e.symm) _, h.i.other (fun e => blk_type_ne b1' hf (by decide) e.symm) (fun y hy => (h1 y hy).1) _, h.o.other (fun e => blk_type_ne b1 hf (by decide) e.symm) (fun y hy => (h1 y hy).2) _, h.ne, h.dis, h.bel.setCell hp _, h.ge⟩
end
end Go.Proofs.Ytmebpglkeedaoaa
namespace Go.Proofs.Ytmebpglkeedaoaa
open Go.RowKit Dp
theorem RwJ.add {n i g gn : Nat} {gI : Nat → Nat} {R : Nat → List Int} {W : World} (h : RwJ n i g gI R W) {cs : List Value} (hl : Blk W g 22 cs) (hi : i < cs.length) (hf : Fl 2 W gn (R i)) (hR : (R i).length = n) (hne : ∀ x, x < i → gI x ≠ gn) : RwJ n (i + 1) g (upd gI i gn) R (W.setCell ⟨g, i, none⟩ (.slice (some ⟨gn, 0, none⟩) n n)) := by
  obtain ⟨cs', b1, b2⟩ := h.b
  have e : cs' = cs := by
    unfold Blk at b1 hl
    rw [b1] at hl
    simpa using hl
  subst e
  refine ⟨⟨cs'.set i (.slice (some ⟨gn, 0, none⟩) n n), hl.setCell i _, fun x hx => ?_⟩, fun x hx => ?_, fun x y hx hy e => ?_⟩
  · unfold upd
    by_cases e : x = i
    · subst e; rw [if_pos rfl, List.getElem?_set_self hi]
    · rw [if_neg e, List.getElem?_set_ne (fun q => e q.symm)]; exact b2 x (by omega)
  · unfold upd
    by_cases e : x = i
    · subst e; rw [if_pos rfl]; exact ⟨hf.set_ne (p := ⟨g, x, none⟩) (fun q => blk_type_ne hl hf (by decide) q) _, hR⟩
    · rw [if_neg e]; exact ⟨(h.f x (by omega)).1.set_ne (p := ⟨g, i, none⟩) (fun q => blk_type_ne hl (h.f x (by omega)).1 (by decide) q) _, (h.f x (by omega)).2⟩
  · unfold upd at e
    by_cases e1 : x = i <;> by_cases e2 : y = i
    · omega
    · rw [if_pos e1, if_neg e2] at e; exact absurd e.symm (hne y (by omega))
    · rw [if_neg e1, if_pos e2] at e; exact absurd e (hne x (by omega))
    · rw [if_neg e1, if_neg e2] at e; exact h.inj x y (by omega) (by omega) e
structure TaJ (w : World) (n m ni no gt g1 g2 gl : Nat) (gI gO : Nat → Nat) (lv : List Int) (W : World) : Prop where
  b : Blk W gt 55 [.slice (some ⟨g1, 0, none⟩) m m, .slice (some ⟨g2, 0, none⟩) m m]
  li : ∃ cs, Blk W g1 22 cs ∧ cs.length = m
  lo : ∃ cs, Blk W g2 22 cs ∧ cs.length = m
  ri : RwJ n ni g1 gI (fun _ => List.replicate n 0) W
  ro : RwJ n no g2 gO (fun _ => List.replicate n 0) W
  lev : Fl 2 W gl lv
  ne : g1 ≠ g2
  dis : ∀ x y, x < ni → y < no → gI x ≠ gO y
  al : (∀ x, x < ni → gI x ≠ gl ∧ w.heap.size ≤ gI x) ∧ (∀ y, y < no → gO y ≠ gl ∧ w.heap.size ≤ gO y)
  bel : Below w.heap.size w W
  ge : w.heap.size ≤ g1 ∧ w.heap.size ≤ g2 ∧ w.heap.size ≤ gl
section
variable {w W V : World} {n m ni no gt g1 g2 gl a : Nat} {gI gO : Nat → Nat} {lv : List Int}
theorem TaJ.below (h : TaJ w n m ni no gt g1 g2 gl gI gO lv W) (hb : Below W.heap.size W V) : TaJ w n m ni no gt g1 g2 gl gI gO lv V := by
  obtain ⟨c1, x1, x2⟩ := h.li
  obtain ⟨c2, y1, y2⟩ := h.lo
  exact ⟨h.b.below hb h.b.lt, ⟨c1, x1.below hb x1.lt, x2⟩, ⟨c2, y1.below hb y1.lt, y2⟩, h.ri.below hb, h.ro.below hb, h.lev.below hb, h.ne, h.dis, h.al, h.bel.trans (hb.mono h.bel.size), h.ge⟩
theorem TaJ.fresh (h : TaJ w n m ni no gt g1 g2 gl gI gO lv W) (ha : W.heap.size ≤ a) : (∀ x, x < ni → gI x ≠ a) ∧ (∀ y, y < no → gO y ≠ a) ∧ a ≠ gl ∧ w.heap.size ≤ a :=
  ⟨fun x hx e => by have := (h.ri.f x hx).1.lt; omega, fun y hy e => by have := (h.ro.f y hy).1.lt; omega, fun e => by have := h.lev.lt; omega, by have := h.bel.size; omega⟩
theorem TaJ.inn (h : TaJ w n m ni no gt g1 g2 gl gI gO lv W) (hi : ni < m) (hf : Fl 2 W a (List.replicate n 0)) (hx : (∀ x, x < ni → gI x ≠ a) ∧ (∀ y, y < no → gO y ≠ a) ∧ a ≠ gl ∧ w.heap.size ≤ a) :
    TaJ w n m (ni + 1) no gt g1 g2 gl (upd gI ni a) gO lv (W.setCell ⟨g1, ni, none⟩ (.slice (some ⟨a, 0, none⟩) n n)) := by
  obtain ⟨c1, x1, x2⟩ := h.li
  obtain ⟨c2, y1, y2⟩ := h.lo
  refine ⟨h.b.setCell_ne (fun e => blk_type_ne h.b x1 (by decide) e.symm) _, ⟨_, x1.setCell ni _, by simp [x2]⟩, ⟨c2, y1.setCell_ne (fun e => h.ne e.symm) _, y2⟩, h.ri.add x1 (by omega) hf (by simp) hx.1,
    h.ro.other (fun e => h.ne e.symm) (fun y hy e => blk_type_ne x1 (h.ro.f y hy).1 (by decide) e) _, h.lev.set_ne (fun e => blk_type_ne x1 h.lev (by decide) e) _, h.ne, fun x y hx' hy => ?_, ⟨fun x hx' => ?_, h.al.2⟩, h.bel.setCell h.ge.1 _, h.ge⟩
  · unfold upd
    by_cases e : x = ni
    · rw [if_pos e]; exact fun q => hx.2.1 y hy q.symm
    · rw [if_neg e]; exact h.dis x y (by omega) hy
  · unfold upd
    by_cases e : x = ni
    · rw [if_pos e]; exact ⟨hx.2.2.1, hx.2.2.2⟩
    · rw [if_neg e]; exact h.al.1 x (by omega)
theorem TaJ.set (h : TaJ w n m ni no gt g1 g2 gl gI gO lv W) (k : Nat) (v : Int) : TaJ w n m ni no gt g1 g2 gl gI gO (lv.set k v) (W.setCell ⟨gl, k, none⟩ (.int .i64 v)) := by
  obtain ⟨c1, x1, x2⟩ := h.li
  obtain ⟨c2, y1, y2⟩ := h.lo
  exact ⟨h.b.setCell_ne (fun e => blk_type_ne h.b h.lev (by decide) e.symm) _, ⟨c1, x1.setCell_ne (fun e => blk_type_ne x1 h.lev (by decide) e.symm) _, x2⟩, ⟨c2, y1.setCell_ne (fun e => blk_type_ne y1 h.lev (by decide) e.symm) _, y2⟩, h.ri.other (fun e => blk_type_ne x1 h.lev (by decide) e.symm) (fun x hx => (h.al.1 x hx).1) _,
    h.ro.other (fun e => blk_type_ne y1 h.lev (by decide) e.symm) (fun y hy => (h.al.2 y hy).1) _, h.lev.put k v, h.ne, h.dis, h.al, h.bel.setCell h.ge.2.2 _, h.ge⟩
end
end Go.Proofs.Ytmebpglkeedaoaa
namespace Go.Proofs.Ytmebpglkeedaoaa
open Go.RowKit Dp
namespace Dp
end Dp
structure EgJ (w : World) (n m gt g1 g2 c1 c2 gl gr : Nat) (gI gO : Nat → Nat) (cv : List Value) (RI : Nat → List Int) (lv : List Int) (W : World) : Prop where
  t : TbJ w n m gt g1 g2 c1 c2 gI gO RI (fun _ => List.replicate n 0) W
  l : Fl 2 W gl lv
  ap : ∀ x, x < m → gI x ≠ gl ∧ gO x ≠ gl
  lg : w.heap.size ≤ gl
  s : Blk W w.heap.size 51 cv
  r : Blk W gr 55 [.slice none 0 0, .slice none 0 0]
  rg : gr ≠ gt ∧ w.heap.size ≤ gr
section
variable {w W V : World} {n m gt g1 g2 c1 c2 gl gr : Nat} {gI gO : Nat → Nat} {cv : List Value} {RI : Nat → List Int} {lv : List Int}
theorem EgJ.below (h : EgJ w n m gt g1 g2 c1 c2 gl gr gI gO cv RI lv W) (hb : Below W.heap.size W V) : EgJ w n m gt g1 g2 c1 c2 gl gr gI gO cv RI lv V :=
  ⟨h.t.below hb, h.l.below hb, h.ap, h.lg, h.s.below hb h.s.lt, h.r.below hb h.r.lt, h.rg⟩
theorem EgJ.rows (h : EgJ w n m gt g1 g2 c1 c2 gl gr gI gO cv RI lv W) {R' : Nat → List Int} (he : ∀ i, i < m → R' i = RI i) : EgJ w n m gt g1 g2 c1 c2 gl gr gI gO cv R' lv W :=
  ⟨⟨h.t.b, h.t.i.of he, h.t.o, h.t.ne, h.t.dis, h.t.bel, h.t.ge⟩, h.l, h.ap, h.lg, h.s, h.r, h.rg⟩
end
end Go.Proofs.Ytmebpglkeedaoaa
namespace Go.Proofs.Ytmebpglkeedaoaa
open Go.RowKit Dp
def EgP (S : Site) (cs : List Car) (w : World) : Ending → World → Prop := fun e w' =>
  (egE S cs = 0 ∧ ∃ A1 A2 c1 c2, e = .returned (.tuple #[.agg #[.slice A1 cs.length c1, .slice A2 cs.length c2], .int .i64 0]) ∧ TabAt w' A1 A2 (egT S cs) ∧ (cs.length ≤ c1 ∧ c1 ≤ 9223372036854775807) ∧ (cs.length ≤ c2 ∧ c2 ≤ 9223372036854775807) ∧ Below w.heap.size w w') ∨
  (egE S cs ≠ 0 ∧ e = .returned (.tuple #[.agg #[.slice none 0 0, .slice none 0 0], .int .i64 (egE S cs)]) ∧ Below w.heap.size w w')
end Go.Proofs.Ytmebpglkeedaoaa
namespace Go.Proofs.Ytmebpglkeedaoaa
open Go.RowKit Dp
theorem own_arcs {W : World} {D n cap : Nat} {A : Option Addr} {l : List Arc} (hA : W.ownsRow D 46 4 (.slice A n cap) n (flat arcV l)) (hn : n = l.length) : ArcsAt W A l ∧ n ≤ cap ∧ cap ≤ 9223372036854775807 := by
  refine ⟨fun i hi => ?_, ?_⟩
  · obtain ⟨g, c, hv, hb, hlt⟩ := hA.form (by omega)
    cases hv
    have hc : ∀ j, j < 4 → W.cell? ⟨g, i * 4 + j, none⟩ = (arcV (l.getD i default))[j]? := fun j hj => by
      rw [World.ownsRow.cellAt hA (i * 4 + j) (by omega)]
      exact flat_get (f := arcV) (s := 4) (fun _ => rfl) _ _ _ _ (getElem_D _ _ _ hi) hj
    have had : (⟨g, 0, none⟩ : Addr).add (i * 4) = ⟨g, i * 4, none⟩ := by unfold Addr.add; split <;> simp_all
    exact ⟨⟨g, 0, none⟩, rfl, hlt, by rw [had]; exact hc 0 (by omega), by rw [had]; exact hc 1 (by omega), by rw [had]; exact hc 2 (by omega), by rw [had]; exact hc 3 (by omega)⟩
  · rcases hA.2 with ⟨h0, h1⟩ | ⟨g', c', cur, hv, _, _, hc1, hc2, _⟩
    · cases h0
      simp
    · cases hv
      unfold maxLen at hc2
      omega
def nuN (S : Site) (cs : List Car) : Net := if stE S cs = 0 then ⟨supN S cs, carsA S cs cs.length⟩ else ⟨[], []⟩
def NetU (S : Site) (cs : List Car) (w : World) : Ending → World → Prop := fun e w' => ∃ (G A : Option Addr) (cG cA : Nat), e = .returned (.tuple #[.agg #[.slice G (nuN S cs).sup.length cG, .slice A (nuN S cs).arcs.length cA], .int .i64 (stE S cs)]) ∧ ((nuN S cs).sup.length ≤ cG ∧ cG ≤ 9223372036854775807) ∧ ((nuN S cs).arcs.length ≤ cA ∧ cA ≤ 9223372036854775807) ∧ NetAt w' G A (nuN S cs) ∧ Below w.heap.size w w'
theorem NetP.u {S : Site} {cs : List Car} {w w' : World} {e : Ending} (h : NetP S cs w e w') : NetU S cs w e w' := by
  rcases h with ⟨h0, gs, A, cap, rfl, h1, h2, _, h3⟩ | ⟨h0, rfl, h3⟩
  · have hb := nodes_bd h0
    obtain ⟨ha, hc1, hc2⟩ := own_arcs h2 rfl
    have hN : nuN S cs = ⟨supN S cs, carsA S cs cs.length⟩ := by unfold nuN; rw [if_pos h0]
    unfold NetU
    rw [hN, h0]
    simp only [supN_len]
    exact ⟨_, A, _, cap, rfl, ⟨Nat.le_refl _, by omega⟩, ⟨hc1, hc2⟩, ⟨h1.ints, ha⟩, h3⟩
  · have hN : nuN S cs = ⟨[], []⟩ := by unfold nuN; rw [if_neg h0]
    unfold NetU
    rw [hN]
    exact ⟨none, none, 0, 0, rfl, by simp, by simp, ⟨fun i hi => by simp at hi, fun i hi => by simp at hi⟩, h3⟩
def lvU (S : Site) (cs : List Car) (T : Tab) : List (List Int) := if plE S cs T = 0 then lvR cs T S.lim.length cs.length else []
def LevU (S : Site) (cs : List Car) (T : Tab) (w : World) : Ending → World → Prop := fun e w' => ∃ (A : Option Addr) (c : Nat), e = .returned (.tuple #[.slice A (lvU S cs T).length c, .int .i64 (plE S cs T)]) ∧ ((lvU S cs T).length ≤ c ∧ c ≤ 9223372036854775807) ∧ RowsAt w' A (lvU S cs T) ∧ Below w.heap.size w w'
theorem LevP.u {S : Site} {cs : List Car} {T : Tab} {w w' : World} {e : Ending} (h : LevP S cs T S.lim.length cs.length w e w') : LevU S cs T w e w' := by
  rcases h with ⟨hb, ⟨h0, v, vs, rfl, h1, h2⟩ | ⟨h0, rfl⟩⟩
  · obtain ⟨A, c, rfl, c1, c2, hr⟩ := rows_at h1 h2
    have hN : lvU S cs T = lvR cs T S.lim.length cs.length := by unfold lvU; rw [if_pos h0]
    unfold LevU
    rw [hN, h0, lvR_len]
    exact ⟨A, c, rfl, ⟨c1, c2⟩, hr, hb⟩
  · have hN : lvU S cs T = [] := by unfold lvU; rw [if_neg h0]
    unfold LevU
    rw [hN]
    exact ⟨none, 0, rfl, by simp, fun i hi => by simp at hi, hb⟩
def egU (S : Site) (cs : List Car) : Tab := if egE S cs = 0 then egT S cs else ⟨[], []⟩
def EgU (S : Site) (cs : List Car) (w : World) : Ending → World → Prop := fun e w' => ∃ (A B : Option Addr) (c d : Nat), e = .returned (.tuple #[.agg #[.slice A (egU S cs).inn.length c, .slice B (egU S cs).out.length d], .int .i64 (egE S cs)]) ∧ ((egU S cs).inn.length ≤ c ∧ c ≤ 9223372036854775807) ∧ ((egU S cs).out.length ≤ d ∧ d ≤ 9223372036854775807) ∧ TabAt w' A B (egU S cs) ∧ Below w.heap.size w w'
theorem EgP.u {S : Site} {cs : List Car} {w w' : World} {e : Ending} (h : EgP S cs w e w') : EgU S cs w e w' := by
  rcases h with ⟨h0, A, B, c, d, rfl, h1, h2, h3, h4⟩ | ⟨h0, rfl, h3⟩
  · have hN : egU S cs = egT S cs := by unfold egU; rw [if_pos h0]
    have l1 : (egT S cs).inn.length = cs.length := by simp [egT]
    have l2 : (egT S cs).out.length = cs.length := by simp [egT]
    unfold EgU
    rw [hN, h0, l1, l2]
    exact ⟨A, B, c, d, rfl, h2, h3, h1, h4⟩
  · have hN : egU S cs = ⟨[], []⟩ := by unfold egU; rw [if_neg h0]
    unfold EgU
    rw [hN]
    exact ⟨none, none, 0, 0, rfl, by simp, by simp, ⟨fun i hi => by simp at hi, fun i hi => by simp at hi⟩, h3⟩
end Go.Proofs.Ytmebpglkeedaoaa
namespace Go.Proofs.Ytmebpglkeedaoaa
open Go.RowKit Dp
theorem el3 (d : Nat) (w : World) (a b : Int) : (Op.equalIn (d + 1) 3 (.int .i64 a) (.int .i64 b)).run Try.prog w = .ok (a == b) w := run_equalIn_int w d 3 .i64 .i64 a b Try.underlying3
def NetV (N : Net) (k l : Nat) (v : Int) (w : World) : Ending → World → Prop := fun e w' => ∃ (G A : Option Addr) (cG cA : Nat), e = .returned (.tuple #[.agg #[.slice G k cG, .slice A l cA], .int .i64 v]) ∧ (k ≤ cG ∧ cG ≤ 9223372036854775807) ∧ (l ≤ cA ∧ cA ≤ 9223372036854775807) ∧ NetAt w' G A N ∧ Below w.heap.size w w'
theorem NetP.v {S : Site} {cs : List Car} {w w' : World} {e : Ending} {N : Net} {k l : Nat} {v : Int} (hN : N = nuN S cs) (hk : k = N.sup.length) (hl : l = N.arcs.length) (hv : v = stE S cs) (h : NetP S cs w e w') : NetV N k l v w e w' := by
  subst hk hl hN hv
  exact NetP.u h
def LevV (R : List (List Int)) (k : Nat) (v : Int) (w : World) : Ending → World → Prop := fun e w' => ∃ (A : Option Addr) (c : Nat), e = .returned (.tuple #[.slice A k c, .int .i64 v]) ∧ (k ≤ c ∧ c ≤ 9223372036854775807) ∧ RowsAt w' A R ∧ Below w.heap.size w w'
theorem LevP.v {S : Site} {cs : List Car} {T : Tab} {n m : Nat} {w w' : World} {e : Ending} {R : List (List Int)} {k : Nat} {v : Int} (hn : n = S.lim.length) (hm : m = cs.length) (hR : R = lvU S cs T) (hk : k = R.length) (hv : v = plE S cs T) (h : LevP S cs T n m w e w') : LevV R k v w e w' := by
  subst hn hm hk hR hv
  exact LevP.u h
def EgV (T : Tab) (k l : Nat) (v : Int) (w : World) : Ending → World → Prop := fun e w' => ∃ (A B : Option Addr) (c d : Nat), e = .returned (.tuple #[.agg #[.slice A k c, .slice B l d], .int .i64 v]) ∧ (k ≤ c ∧ c ≤ 9223372036854775807) ∧ (l ≤ d ∧ d ≤ 9223372036854775807) ∧ TabAt w' A B T ∧ Below w.heap.size w w'
theorem EgP.v {S : Site} {cs : List Car} {w w' : World} {e : Ending} {T : Tab} {k l : Nat} {v : Int} (hT : T = egU S cs) (hk : k = T.inn.length) (hl : l = T.out.length) (hv : v = egE S cs) (h : EgP S cs w e w') : EgV T k l v w e w' := by
  subst hk hl hT hv
  exact EgP.u h
end Go.Proofs.Ytmebpglkeedaoaa
namespace Go.Proofs.Ytmebpglkeedaoaa
open Go.RowKit Dp
theorem mv_nat (l : List Int) (a : Nat) (d v : Int) (h : v = l.getD a 0 + d) : mv l (a : Int) d = l.set a v := by subst h; simp [mv]
theorem ret2 {a b c d : Int} (h1 : a = b) (h2 : c = d) : Ending.returned (.tuple #[.int .i64 a, .int .i64 c]) = .returned (.tuple #[.int .i64 b, .int .i64 d]) := by rw [h1, h2]
def CoJ (w : World) (A B : Option Addr) (n cA m cB g c : Nat) (l : List Int) (W : World) : Prop := Below w.heap.size w W ∧ Blk W w.heap.size 25 [.slice A n cA, .slice B m cB] ∧ OwnI w.heap.size W g c l
theorem CoJ.put {w : World} {A B : Option Addr} {n cA m cB g c : Nat} {l : List Int} {W : World} (h : CoJ w A B n cA m cB g c l W) (hg : w.heap.size < g) (j : Nat) (v : Int) : CoJ w A B n cA m cB g c (l.set j v) (W.setCell ⟨g, j, none⟩ (.int .i64 v)) :=
  ⟨h.1.setCell (by simp; omega) _, h.2.1.setCell_ne (by simp; omega) _, h.2.2.put j v⟩
theorem CoJ.alloc {w : World} {A B : Option Addr} {n cA m cB g c : Nat} {l : List Int} {W : World} (h : CoJ w A B n cA m cB g c l W) (o : Obj) : CoJ w A B n cA m cB g c l (W.alloc o) :=
  ⟨h.1.alloc h.1.size _, h.2.1.alloc _, h.2.2.below ((Below.refl _ _).alloc (Nat.le_refl _) _)⟩
set_option maxHeartbeats 2000000 in
set_option maxRecDepth 100000 in
theorem Cost_c (A B C : Option Addr) (N : Net) (fl : List Int) (n m p cA cB cC : Nat) (w : World) (hn : n = N.sup.length) (hm : m = N.arcs.length) (hp : p = fl.length) (hA : n ≤ cA ∧ cA ≤ 9223372036854775807) (hB : m ≤ cB ∧ cB ≤ 9223372036854775807) (hC : p ≤ cC ∧ cC ≤ 9223372036854775807) (hN : NetAt w A B N) (hF : IntsAt w C fl) :
    Calls Try.prog 14 #[.agg #[.slice A n cA, .slice B m cB], .slice C p cC] w fun e w' => e = .returned (.tuple #[.int .i64 (coV N fl), .int .i64 (coE N fl)]) ∧ Below w.heap.size w w' := by
  have HN := Lib.hid hn
  have HM := Lib.hid hm
  have HP := Lib.hid hp
  have HNA := Lib.hid hN
  have HFA := Lib.hid hF
  clear hn hm hp hN hF
  have B1 := Lib.hid (Blk.new' w #[.slice A n cA, .slice B m cB] 25)
  have HB1 := Lib.hid ((Below.refl w.heap.size w).alloc (Nat.le_refl _) (.cells #[.slice A n cA, .slice B m cB] 25))
  go_enter Try.func14, Try.ntmps14
  go_wp2_with fail
  generalize w.alloc (.cells #[.slice A n cA, .slice B m cB] 25) = w1 at B1 HB1 ⊢
  refine (Check_c A B N n m cA cB w1 HN.out HM.out hA hB (HNA.out.below HB1.out (Nat.le_refl _))).mono ?_
  rintro e w2 ⟨rfl, hb2⟩
  have B2 := Lib.hid (B1.out.below hb2 B1.out.lt)
  have HB2 := Lib.hid (HB1.out.trans (hb2.mono HB1.out.size))
  clear hb2 B1 HB1
  have cA0 := B2.out.cell 0 rfl
  have cB0 := B2.out.cell 1 rfl
  by_cases hch : chE N = 0
  · have hce := net_len hch
    rw [hch]
    by_cases hpm : p = m
    · have hmm : (p : Int) = (m : Int) := by omega
      have n1 : 1 ≤ n := by rw [HN.out]; exact hce.1
      have n2 : n ≤ 1024 := by rw [HN.out]; exact hce.2.1
      have m2 : m ≤ 2048 := by rw [HM.out]; exact hce.2.2
      have HCH := Lib.hid hch
      clear hch hce
      go_wp2_with fail
      trace "clone"
      refine (clone_c A N.sup n cA w2 HN.out n1 (by omega) (HNA.out.1.below HB2.out (Nat.le_refl _))).mono ?_
      rintro e w3 ⟨g, c, rfl, hb3, z1, z2, ho3⟩
      have B3 := Lib.hid (B2.out.below hb3 B2.out.lt)
      have HB3 := Lib.hid (HB2.out.trans (hb3.mono HB2.out.size))
      have zg : w.heap.size < g := Nat.lt_of_lt_of_le B2.out.lt z1
      have HO3 : Hid (OwnI w.heap.size w3 g c N.sup) := Lib.hid (ho3.mono HB2.out.size)
      clear hb3 ho3 B2 HB2 cA0 cB0 z1
      have cA0 := B3.out.cell 0 rfl
      have cB0 := B3.out.cell 1 rfl
      go_wp2_with fail
      have J3 := Lib.hid (show CoJ w A B n cA m cB g c N.sup w3 from ⟨HB3.out, B3.out, HO3.out⟩)
      clear B3 HB3 HO3 cA0 cB0
      go_loopw [8, 31] (fun v i wr => ∃ k : Nat, k ≤ m ∧ i = .int .i64 k ∧ v = .int .i64 (costK N fl k) ∧ Hid (CoJ w A B n cA m cB g c (leftK N fl k) wr ∧ ∀ x, x < k → 0 ≤ fl.getD x 0 ∧ fl.getD x 0 ≤ (N.arcs.getD x default).cap)) (fun _ i _ => m - (intOf i).toNat)
      case atStart => exact ⟨0, Nat.zero_le _, rfl, rfl, Lib.hid ⟨J3.out, fun x hx => absurd hx (Nat.not_lt_zero _)⟩⟩
      case round =>
        obtain ⟨k, hk, rfl, rfl, HJ⟩ := hrel
        have bc := costK_bd HCH.out k (by rw [← HM.out]; exact hk) HJ.out.2
        have BL := Lib.hid (leftK_bd HCH.out k (by rw [← HM.out]; exact hk) HJ.out.2)
        have cA0 := HJ.out.1.2.1.cell 0 rfl
        have cB0 := HJ.out.1.2.1.cell 1 rfl
        by_cases hlt : k < m
        · obtain ⟨ad, rfl, hbl, d0, d1, d2, d3⟩ := (HNA.out.2.below HJ.out.1.1 (Nat.le_refl _)) k (by rw [← HM.out]; exact hlt)
          obtain ⟨af, rfl, hbf, hf0⟩ := HFA.out k (by rw [← HP.out, hpm]; exact hlt)
          have HFC := Lib.hid (fun (W : World) (h : Below w.heap.size w W) => (h.cell (p := af.add k) (by rw [block_add]; exact hbf)).trans hf0)
          clear hf0 hbf
          obtain ⟨a1, a2, a3, a4, a5⟩ := net_arc HCH.out k (by rw [← HM.out]; exact hlt)
          rw [← HN.out] at a1 a2
          have HL1 := Lib.hid (show leftK N fl (k + 1) = mv (mv (leftK N fl k) (N.arcs.getD k default).fr (-(fl.getD k 0))) (N.arcs.getD k default).to (fl.getD k 0) from rfl)
          have HK1 := Lib.hid (show costK N fl (k + 1) = costK N fl k + fl.getD k 0 * (N.arcs.getD k default).cost from rfl)
          have HCAP := Lib.hid (fun h => isFlow_cap (N := N) (fl := fl) k (by rw [← HM.out]; exact hlt) h)
          have HLL := Lib.hid (leftK_length N fl k)
          generalize har : N.arcs.getD k default = ar at *
          obtain ⟨fr, «to», ca, co⟩ := ar
          have HAR := Lib.hid (show (N.arcs.getD k default).cap = ca from by rw [har])
          clear har
          simp only at d0 d1 d2 d3 a1 a2 a3 a4 a5 HCAP HL1 HK1
          obtain ⟨a, rfl⟩ : ∃ a : Nat, fr = a := ⟨fr.toNat, by omega⟩
          obtain ⟨b, rfl⟩ : ∃ b : Nat, «to» = b := ⟨«to».toNat, by omega⟩
          generalize hfk : fl.getD k 0 = f at *
          have HFK := Lib.hid hfk
          clear hfk
          have HJ2 := Lib.hid HJ.out.2
          have J0 := Lib.hid HJ.out.1
          clear HJ
          generalize leftK N fl k = l at *
          generalize hS : costK N fl k = S at *
          clear hS
          have gne : wr.heap.size ≠ g := by have := J0.out.2.2.lt; omega
          go_upto_region 10 with fail
          have J4 := Lib.hid (J0.out.alloc (.cells #[.int .i64 a, .int .i64 b, .int .i64 ca, .int .i64 co] 46))
          have BX := Lib.hid (Blk.new' wr #[.int .i64 a, .int .i64 b, .int .i64 ca, .int .i64 co] 46)
          generalize wr.alloc (.cells #[.int .i64 a, .int .i64 b, .int .i64 ca, .int .i64 co] 46) = wx at J4 BX ⊢
          generalize wr.heap.size = ga at *
          have e0 := BX.out.cell 0 rfl
          have e1 := BX.out.cell 1 rfl
          have e2 := BX.out.cell 2 rfl
          have e3 := BX.out.cell 3 rfl
          have fc := HFC.out _ J4.out.1
          clear d0 d1 d2 d3 cA0 cB0
          have hlen : fl.length = N.arcs.length := by rw [← HP.out, ← HM.out]; exact hpm
          have HLEN := Lib.hid hlen
          clear hlen
          by_cases f1 : f < 0
          · have E := Lib.hid (co_no HCH.out HLEN.out (HCAP.out (by omega)))
            go_wp2
            go_ret2
            exact ⟨ret2 E.out.2.symm E.out.1.symm, J4.out.1⟩
          by_cases f2 : ca < f
          · have E := Lib.hid (co_no HCH.out HLEN.out (HCAP.out (by omega)))
            go_wp2
            go_ret2
            exact ⟨ret2 E.out.2.symm E.out.1.symm, J4.out.1⟩
          have la0 := J4.out.2.2.cell a (by rw [HLL.out, ← HN.out]; omega)
          have fr0 := J4.out.2.2.free a
          have lb0 := BL.out a (by rw [← HN.out]; omega)
          have M1 := Lib.hid (mv_nat l a (-f) (l.getD a 0 - f) (by omega))
          have M1B := Lib.hid (mv_bd (l := l) (i := (a : Int)) (d := -f) (B := 268435456 + 2097152 * k) (D := 1048576) (by omega) (by rw [HLL.out, ← HN.out]; omega) (fun j hj => BL.out j (by rw [← HLL.out]; exact hj)))
          have M1L := Lib.hid (mv_length l (a : Int) (-f))
          generalize l.getD a 0 = la at *
          go_upto_region 14 with fail
          refine gen_world (fun W => CoJ w A (some ad) n cA m cB g c (mv l a (-f)) W ∧ Blk W ga 46 [.int .i64 a, .int .i64 b, .int .i64 ca, .int .i64 co]) ⟨by rw [M1.out]; exact J4.out.put zg a _, BX.out.setCell_ne gne _⟩ ?_
          rintro w5 ⟨j5, bx5⟩
          have J5 := Lib.hid j5
          have BX5 := Lib.hid bx5
          clear j5 bx5 e0 e1 e2 e3 fc la0 fr0 lb0 J4 BX
          generalize mv l (a : Int) (-f) = l5 at *
          have e0 := BX5.out.cell 0 rfl
          have e1 := BX5.out.cell 1 rfl
          have e2 := BX5.out.cell 2 rfl
          have e3 := BX5.out.cell 3 rfl
          have la0 := J5.out.2.2.cell b (by rw [M1L.out, HLL.out, ← HN.out]; omega)
          have fr0 := J5.out.2.2.free b
          have lb0 := M1B.out b (by rw [M1L.out, HLL.out, ← HN.out]; omega)
          have M2 := Lib.hid (mv_nat l5 b f (l5.getD b 0 + f) (by omega))
          generalize l5.getD b 0 = lb at *
          go_upto_region 15 with fail
          refine gen_world (fun W => CoJ w A (some ad) n cA m cB g c (mv l5 b f) W ∧ Blk W ga 46 [.int .i64 a, .int .i64 b, .int .i64 ca, .int .i64 co]) ⟨by rw [M2.out]; exact J5.out.put zg b _, BX5.out.setCell_ne gne _⟩ ?_
          rintro w6 ⟨j6, bx6⟩
          have J6 := Lib.hid j6
          have BX6 := Lib.hid bx6
          clear j6 bx6 e0 e1 e2 e3 la0 fr0 lb0 J5 BX5
          have e0 := BX6.out.cell 0 rfl
          have e3 := BX6.out.cell 3 rfl
          have p1 : f * co ≤ 1099511627776 ∧ -1099511627776 ≤ f * co := by
            have q1 := Int.mul_le_mul_of_nonneg_left a5.2 (show (0:Int) ≤ f by omega)
            have q2 := Int.mul_le_mul_of_nonneg_left a5.1 (show (0:Int) ≤ f by omega)
            omega
          go_wp2
          go_roundw
          case rel =>
            refine ⟨k + 1, by omega, by go_num, by rw [HK1.out], Lib.hid ⟨?_, fun x hx => ?_⟩⟩
            · rw [HL1.out]; exact J6.out
            · by_cases hjk : x < k
              · exact HJ2.out x hjk
              · obtain rfl : x = k := by omega
                rw [HFK.out, HAR.out]; omega
          case measure => simp [intOf]; omega
        · obtain rfl : k = m := by omega
          have hlen : fl.length = N.arcs.length := by rw [← HP.out, ← HM.out]; exact hpm
          have HLEN := Lib.hid hlen
          clear hlen
          have J7 := Lib.hid HJ.out.1
          have HLL := Lib.hid (leftK_length N fl k)
          have EL := Lib.hid (fun j hj h => co_no HCH.out HLEN.out (isFlow_left (N := N) (fl := fl) j hj (by rw [← HM.out]; exact h)))
          have EY := Lib.hid (fun h2 => co_yes HCH.out HLEN.out (isFlow_yes HLEN.out (fun x hx => HJ.out.2 x (by rw [HM.out]; exact hx)) (by rw [← HM.out]; exact h2)))
          have EC := Lib.hid (show costK N fl k = costK N fl N.arcs.length from by rw [HM.out])
          clear HJ
          generalize leftK N fl k = l at *
          generalize costK N fl k = S at *
          go_wp2_with fail
          go_loop [73] (fun i => ∃ j : Nat, j ≤ n ∧ i = .int .i64 j ∧ Hid (∀ x, x < j → l.getD x 0 = 0)) (fun i => n - (intOf i).toNat)
          case atStart => exact ⟨0, Nat.zero_le _, rfl, Lib.hid (fun x hx => absurd hx (Nat.not_lt_zero _))⟩
          case round =>
            obtain ⟨j, hj, rfl, HZ⟩ := hrel
            by_cases hlt2 : j < n
            · have hc0 := J7.out.2.2.cell j (by rw [HLL.out, ← HN.out]; exact hlt2)
              have EJ := Lib.hid (EL.out j (by rw [← HN.out]; exact hlt2))
              generalize hx : l.getD j 0 = x at *
              have HX := Lib.hid hx
              clear hx
              by_cases x0 : x = 0
              · subst x0
                go_wp2
                go_round
                case rel =>
                  refine ⟨j + 1, by omega, by go_num, Lib.hid (fun y hy => ?_)⟩
                  by_cases hjk : y < j
                  · exact HZ.out y hjk
                  · obtain rfl : y = j := by omega
                    exact HX.out
                case measure => simp [intOf]; omega
              · have E := Lib.hid (EJ.out x0)
                have hx0 : (x == 0) = false := by simpa using x0
                clear x0
                go_wp2
                go_ret2
                exact ⟨ret2 E.out.2.symm E.out.1.symm, J7.out.1⟩
            · have E := Lib.hid (EY.out (fun x hx => HZ.out x (by rw [← HN.out] at hx; omega)))
              go_wp2
              go_ret2
              exact ⟨ret2 (by rw [E.out.2, EC.out]) E.out.1.symm, J7.out.1⟩
    · have E := Lib.hid (co_len (fl := fl) hch (by rw [← HP.out, ← HM.out]; exact hpm))
      have hmm : ¬ (p : Int) = (m : Int) := by omega
      have hmm' : ((p : Int) == (m : Int)) = false := by simpa using hmm
      go_wp2
      go_ret2
      exact ⟨ret2 E.out.2.symm E.out.1.symm, HB2.out⟩
  · have E := Lib.hid (co_ch (fl := fl) hch)
    have hne : (chE N == 0) = false := by simpa using hch
    generalize chE N = q at *
    go_wp2
    go_ret2
    exact ⟨ret2 E.out.2.symm E.out.1.symm, HB2.out⟩
end Go.Proofs.Ytmebpglkeedaoaa
namespace Go.Proofs.Ytmebpglkeedaoaa
open Go.RowKit Dp
end Go.Proofs.Ytmebpglkeedaoaa
namespace Go.Proofs.Ytmebpglkeedaoaa
open Go.RowKit Dp
theorem CoJ.below {w : World} {A B : Option Addr} {n cA m cB g c : Nat} {l : List Int} {W W' : World} (h : CoJ w A B n cA m cB g c l W) (hb : Below W.heap.size W W') : CoJ w A B n cA m cB g c l W' :=
  ⟨h.1.trans (hb.mono h.1.size), h.2.1.below hb h.2.1.lt, h.2.2.below hb⟩
end Go.Proofs.Ytmebpglkeedaoaa
namespace Go.Proofs.Ytmebpglkeedaoaa
open Go.RowKit Dp
end Go.Proofs.Ytmebpglkeedaoaa
namespace Go.Proofs.Ytmebpglkeedaoaa
open Go.RowKit Dp
set_option maxHeartbeats 2000000 in
set_option maxRecDepth 100000 in
theorem Proves_c (A B C : Option Addr) (N : Net) (ps : List Int) (n m p cA cB cC : Nat) (w : World) (hn : n = N.sup.length) (hm : m = N.arcs.length) (hp : p = ps.length) (hA : n ≤ cA ∧ cA ≤ 9223372036854775807) (hB : m ≤ cB ∧ cB ≤ 9223372036854775807) (hC : p ≤ cC ∧ cC ≤ 9223372036854775807) (hN : NetAt w A B N) (hF : IntsAt w C ps) :
    Calls Try.prog 16 #[.agg #[.slice A n cA, .slice B m cB], .slice C p cC] w fun e w' => e = .returned (.tuple #[.int .i64 (prV N ps), .int .i64 (prE N ps)]) ∧ Below w.heap.size w w' := by
  have HN := Lib.hid hn
  have HM := Lib.hid hm
  have HP := Lib.hid hp
  have HNA := Lib.hid hN
  have HFA := Lib.hid hF
  clear hn hm hp hN hF
  have B1 := Lib.hid (Blk.new' w #[.slice A n cA, .slice B m cB] 25)
  have HB1 := Lib.hid ((Below.refl w.heap.size w).alloc (Nat.le_refl _) (.cells #[.slice A n cA, .slice B m cB] 25))
  go_enter Try.func16, Try.ntmps16
  go_wp2_with fail
  generalize w.alloc (.cells #[.slice A n cA, .slice B m cB] 25) = w1 at B1 HB1 ⊢
  refine (Check_c A B N n m cA cB w1 HN.out HM.out hA hB (HNA.out.below HB1.out (Nat.le_refl _))).mono ?_
  rintro e w2 ⟨rfl, hb2⟩
  have B2 := Lib.hid (B1.out.below hb2 B1.out.lt)
  have HB2 := Lib.hid (HB1.out.trans (hb2.mono HB1.out.size))
  clear hb2 B1 HB1
  have cA0 := B2.out.cell 0 rfl
  have cB0 := B2.out.cell 1 rfl
  by_cases hch : chE N = 0
  · have hce := net_len hch
    rw [hch]
    by_cases hpn : p = n
    · have HLEN := Lib.hid (show ps.length = N.sup.length from by rw [← HP.out, ← HN.out]; exact hpn)
      subst hpn
      have n1 : 1 ≤ p := by rw [HN.out]; exact hce.1
      have n2 : p ≤ 1024 := by rw [HN.out]; exact hce.2.1
      have m2 : m ≤ 2048 := by rw [HM.out]; exact hce.2.2
      have HCH := Lib.hid hch
      clear hch hce
      obtain ⟨aS, rfl, hbS, _⟩ := HNA.out.1 0 (by rw [← HN.out]; omega)
      obtain ⟨aP, rfl, hbP, _⟩ := HFA.out 0 (by rw [← HP.out]; omega)
      have SC : Hid (∀ W, Below w.heap.size w W → ∀ k, k < p → W.cell? (aS.add k) = some (.int .i64 (N.sup.getD k 0))) := Lib.hid (fun W h k hk => by
        obtain ⟨a', e, hb, hc⟩ := HNA.out.1 k (by rw [← HN.out]; exact hk)
        cases e
        exact (h.cell (by rw [block_add]; exact hb)).trans hc)
      have PC : Hid (∀ W, Below w.heap.size w W → ∀ k, k < p → W.cell? (aP.add k) = some (.int .i64 (ps.getD k 0)) ∧ (aP.add k).block < W.heap.size) := Lib.hid (fun W h k hk => by
        obtain ⟨a', e, hb, hc⟩ := HFA.out k (by rw [← HP.out]; exact hk)
        cases e
        exact ⟨(h.cell (by rw [block_add]; exact hb)).trans hc, by rw [block_add]; have := h.size; omega⟩)
      go_wp2_with fail
      go_loop [7, 25] (fun v i => ∃ k : Nat, k ≤ p ∧ i = .int .i64 k ∧ v = .int .i64 (prS N ps k) ∧ Hid (∀ x, x < k → potOk (ps.getD x 0) = true)) (fun _ i => p - (intOf i).toNat)
      case atStart => exact ⟨0, Nat.zero_le _, rfl, rfl, Lib.hid (fun x hx => absurd hx (Nat.not_lt_zero _))⟩
      case round =>
        obtain ⟨k, hk, rfl, rfl, HK⟩ := hrel
        have bs := prS_bd2 HCH.out k (by rw [← HN.out]; exact hk) HK.out
        by_cases hlt : k < p
        · have sc := SC.out _ HB2.out k hlt
          have pc := (PC.out _ HB2.out k hlt).1
          have hsu := net_sup HCH.out k (by rw [← HN.out]; exact hlt)
          have ENO := Lib.hid (fun h => pr_no HCH.out HLEN.out k (by rw [← HP.out]; exact hlt) h)
          have HS1 := Lib.hid (show prS N ps (k + 1) = prS N ps k - ps.getD k 0 * N.sup.getD k 0 from rfl)
          generalize N.sup.getD k 0 = s at *
          generalize hx : ps.getD k 0 = x at *
          have HX := Lib.hid hx
          clear hx
          generalize prS N ps k = S at *
          by_cases h1 : x < -1073741824
          · have E := Lib.hid (ENO.out (by simp [potOk]; omega))
            go_wp2
            go_ret2
            exact ⟨ret2 E.out.2.symm E.out.1.symm, HB2.out⟩
          by_cases h2 : 1073741824 < x
          · have E := Lib.hid (ENO.out (by simp [potOk]; omega))
            go_wp2
            go_ret2
            exact ⟨ret2 E.out.2.symm E.out.1.symm, HB2.out⟩
          have p1 : x * s ≤ 288230376151711744 ∧ -288230376151711744 ≤ x * s := by
            have := mul_abs (p := x) (s := s) (P := 1073741824) (by omega)
            have : abs s ≤ 268435456 := by unfold abs; omega
            omega
          go_wp2
          go_round
          case rel =>
            refine ⟨k + 1, by omega, by go_num, by rw [HS1.out], Lib.hid (fun y hy => ?_)⟩
            by_cases hjk : y < k
            · exact HK.out y hjk
            · obtain rfl : y = k := by omega
              rw [HX.out]; simp [potOk]; omega
          case measure => simp [intOf]; omega
        · obtain rfl : k = p := by omega
          have HPO : Hid (∀ x, x < ps.length → potOk (ps.getD x 0) = true) := Lib.hid (fun x hx => HK.out x (by rw [HP.out]; exact hx))
          have E := Lib.hid (pr_yes HCH.out HLEN.out HPO.out)
          have E0 := Lib.hid (show prS N ps k = prA N ps 0 from by rw [HN.out]; rfl)
          rw [E0.out]
          rw [E0.out] at bs
          clear HK
          go_wp2_with fail
          trace "loop 2"
          go_loopw [7, 49] (fun v i wr => ∃ j : Nat, j ≤ m ∧ i = .int .i64 j ∧ v = .int .i64 (prA N ps j) ∧ Hid (Below w2.heap.size w2 wr)) (fun _ i _ => m - (intOf i).toNat)
          case atStart => exact ⟨0, Nat.zero_le _, rfl, rfl, Lib.hid (Below.refl _ _)⟩
          case round =>
            obtain ⟨j, hj, rfl, rfl, HB⟩ := hrel
            have ba := prA_bd HCH.out HLEN.out HPO.out j (by rw [← HM.out]; exact hj)
            have HBR := Lib.hid (HB2.out.trans (HB.out.mono HB2.out.size))
            by_cases hlt2 : j < m
            · obtain ⟨ad, rfl, hbl, d0, d1, d2, d3⟩ := (HNA.out.2.below HBR.out (Nat.le_refl _)) j (by rw [← HM.out]; exact hlt2)
              obtain ⟨a1, a2, a3, a4, a5⟩ := net_arc HCH.out j (by rw [← HM.out]; exact hlt2)
              rw [← HN.out] at a1 a2
              have HA1 := Lib.hid (show prA N ps (j + 1) = prA N ps j + prW (N.arcs.getD j default) ps from rfl)
              generalize N.arcs.getD j default = ar at *
              obtain ⟨fr, «to», ca, co⟩ := ar
              simp only at d0 d1 d2 d3 a1 a2 a3 a4 a5
              obtain ⟨a, rfl⟩ : ∃ a : Nat, fr = a := ⟨fr.toNat, by omega⟩
              obtain ⟨b, rfl⟩ : ∃ b : Nat, «to» = b := ⟨«to».toNat, by omega⟩
              have pa := potOk_iff.1 (HPO.out a (by rw [← HP.out]; omega))
              have pb := potOk_iff.1 (HPO.out b (by rw [← HP.out]; omega))
              have HW := Lib.hid (show prW ⟨a, b, ca, co⟩ ps = ca * min 0 (co + ps.getD a 0 - ps.getD b 0) from rfl)
              have PA := Lib.hid (fun W h => PC.out W h a (by omega))
              have PB := Lib.hid (fun W h => PC.out W h b (by omega))
              generalize ps.getD a 0 = x at *
              generalize ps.getD b 0 = y at *
              generalize prA N ps j = S at *
              have hx1 := fun ts t W => minTwo 0 (co + x - y) ts t W
              generalize hz : min 0 (co + x - y) = z at *
              have hzb : -2148532224 ≤ z ∧ z ≤ 0 := by omega
              clear hz
              have p1 : ca * z ≤ 0 ∧ -2252899325313024 ≤ ca * z := by
                have q1 := Int.mul_le_mul_of_nonneg_left hzb.1 a4.1
                have q2 := Int.mul_le_mul_of_nonneg_left hzb.2 a4.1
                omega
              go_upto_region 17 with fail
              have HBX := Lib.hid (HBR.out.alloc HBR.out.size (.cells #[.int .i64 a, .int .i64 b, .int .i64 ca, .int .i64 co] 46))
              have HBJ := Lib.hid (HB.out.alloc HB.out.size (.cells #[.int .i64 a, .int .i64 b, .int .i64 ca, .int .i64 co] 46))
              have BX := Lib.hid (Blk.new' wr #[.int .i64 a, .int .i64 b, .int .i64 ca, .int .i64 co] 46)
              generalize wr.alloc (.cells #[.int .i64 a, .int .i64 b, .int .i64 ca, .int .i64 co] 46) = wx at HBX HBJ BX ⊢
              generalize wr.heap.size = ga at *
              have e0 := BX.out.cell 0 rfl
              have e1 := BX.out.cell 1 rfl
              have e2 := BX.out.cell 2 rfl
              have e3 := BX.out.cell 3 rfl
              have zga := BX.out.lt
              obtain ⟨fa, fab⟩ := PA.out _ HBX.out
              obtain ⟨fb, fbb⟩ := PB.out _ HBX.out
              clear d0 d1 d2 d3
              refine wp_region_past (by kernel_rfl) (by kernel_rfl) ?_
              repeat (go_big_quiet_step (fail))
              refine wpQuiet_nil ?_
              intro xx
              have HXX := Lib.hid xx.far
              generalize xx.w = w4 at HXX ⊢
              go_wp2
              go_roundw
              case rel => exact ⟨j + 1, by omega, by go_num, by rw [HA1.out, HW.out], Lib.hid (HBJ.out.trans (HXX.out.mono HBJ.out.size))⟩
              case measure => simp [intOf]; omega
            · obtain rfl : j = m := by omega
              go_wp2
              go_ret2
              exact ⟨ret2 (by rw [E.out.2, HM.out]) E.out.1.symm, HBR.out⟩
    · have E := Lib.hid (pr_len (ps := ps) hch (by rw [← HP.out, ← HN.out]; exact hpn))
      have hmm : ¬ (p : Int) = (n : Int) := by omega
      have hmm' : ((p : Int) == (n : Int)) = false := by simpa using hmm
      go_wp2
      go_ret2
      exact ⟨ret2 E.out.2.symm E.out.1.symm, HB2.out⟩
  · have E := Lib.hid (pr_ch (ps := ps) hch)
    have hne : (chE N == 0) = false := by simpa using hch
    generalize chE N = q at *
    go_wp2
    go_ret2
    exact ⟨ret2 E.out.2.symm E.out.1.symm, HB2.out⟩
end Go.Proofs.Ytmebpglkeedaoaa
namespace Go.Proofs.Ytmebpglkeedaoaa
open Go.RowKit Dp
def cbE (S : Site) (cs : List Car) (T : Tab) (ps : List Int) : Int := if plE S cs T = 0 then (if prE (netN S cs) ps = 0 then (if prcV S cs T = prV (netN S cs) ps then 0 else 19) else prE (netN S cs) ps) else plE S cs T
def BltV (N : Net) (k l : Nat) (w : World) : Ending → World → Prop := fun e w' => ∃ (b gs : Nat) (A : Option Addr) (c : Nat) (v2 v3 : Value), e = .returned (.pointer (some ⟨b, 0, none⟩)) ∧ Blk w' b 125 [.slice (some ⟨gs, 0, none⟩) k k, .slice A l c, v2, v3] ∧ NetAt w' (some ⟨gs, 0, none⟩) A N ∧ (l ≤ c ∧ c ≤ 9223372036854775807) ∧ Below w.heap.size w w'
theorem R76.v {S : Site} {cs : List Car} {w w' : World} {e : Ending} {N : Net} {k l : Nat} (hN : N = netN S cs) (hk : k = N.sup.length) (hl : l = N.arcs.length) (h : R76 S cs w e w') : BltV N k l w e w' := by
  subst hk hl hN
  obtain ⟨b, rfl, hb⟩ := h
  obtain ⟨gs, A, c, v2, v3, h1, h2, h3⟩ := NetIn.of_bld hb (Below.refl _ _)
  obtain ⟨ha, hc⟩ := own_arcs h1.2.1 rfl
  unfold BltV netN
  simp only [supN_len]
  exact ⟨b, gs, A, c, v2, v3, rfl, h2, ⟨h1.1.ints, ha⟩, hc, h3⟩
set_option maxHeartbeats 8000000 in
set_option maxRecDepth 100000 in
theorem CheckBest_c (A B C D E P Q Y : Option Addr) (S : Site) (cs : List Car) (T : Tab) (ps : List Int) (n nB nC nD m p q y cA cB cC cD cE cP cQ cY : Nat) (w : World) (hn : n = S.lim.length) (hnB : nB = S.exp.length) (hnC : nC = S.buy.length) (hnD : nD = S.sell.length) (hm : m = cs.length) (hp : p = T.inn.length) (hq : q = T.out.length) (hy : y = ps.length)
    (hA : n ≤ cA ∧ cA ≤ 9223372036854775807) (hB : nB ≤ cB ∧ cB ≤ 9223372036854775807) (hC : nC ≤ cC ∧ cC ≤ 9223372036854775807) (hD : nD ≤ cD ∧ cD ≤ 9223372036854775807) (hE : m ≤ cE ∧ cE ≤ 9223372036854775807) (hP : p ≤ cP ∧ cP ≤ 9223372036854775807) (hQ : q ≤ cQ ∧ cQ ≤ 9223372036854775807) (hY : y ≤ cY ∧ cY ≤ 9223372036854775807)
    (hS : SiteAt w A B C D S) (hcs : CarsAt w E cs) (hT : TabAt w P Q T) (hI : IntsAt w Y ps) :
    Calls Try.prog 45 #[.agg #[.slice A n cA, .slice B nB cB, .slice C nC cC, .slice D nD cD], .slice E m cE, .agg #[.slice P p cP, .slice Q q cQ], .slice Y y cY] w fun e w' => e = .returned (.int .i64 (cbE S cs T ps)) ∧ Below w.heap.size w w' := by
  obtain ⟨z, hz⟩ : ∃ z, z = cbE S cs T ps := ⟨_, rfl⟩
  obtain ⟨N, hN⟩ : ∃ N, N = netN S cs := ⟨_, rfl⟩
  obtain ⟨k, hk⟩ : ∃ k, k = N.sup.length := ⟨_, rfl⟩
  obtain ⟨l, hl⟩ : ∃ l, l = N.arcs.length := ⟨_, rfl⟩
  obtain ⟨x, hx⟩ : ∃ x, x = prcV S cs T := ⟨_, rfl⟩
  obtain ⟨u, hu⟩ : ∃ u, u = plE S cs T := ⟨_, rfl⟩
  obtain ⟨pe, hpe⟩ : ∃ pe, pe = prE N ps := ⟨_, rfl⟩
  obtain ⟨pv, hpv⟩ : ∃ pv, pv = prV N ps := ⟨_, rfl⟩
  have HKB : u = 0 → k ≤ 833 ∧ stE S cs = 0 ∧ nB = n ∧ nC = n ∧ nD = n := fun h => by
    have h0 := (plE_0 (hu.symm.trans h)).ok
    have h1 := nodes_bd h0
    have h2 := siteHead_iff.1 (stE_0 h0).2.1
    refine ⟨?_, h0, ?_⟩
    · rw [hk, hN]; show (supN S cs).length ≤ 833; rw [supN_len]; exact h1.1
    · omega
  have HZ : Hid (z = if u = 0 then (if pe = 0 then (if x = pv then 0 else 19) else pe) else u) := Lib.hid (by rw [hz, hu, hpe, hpv, hx, hN]; rfl)
  have F38 : Hid (∀ V, Below w.heap.size w V → Calls Try.prog 38 #[.agg #[.slice A n cA, .slice B nB cB, .slice C nC cC, .slice D nD cD], .slice E m cE, .agg #[.slice P p cP, .slice Q q cQ]] V (fun e w' => e = .returned (.tuple #[.int .i64 x, .int .i64 u]) ∧ Below V.heap.size V w')) := Lib.hid (fun V hV => by rw [hx, hu]; exact Price_c A B C D E P Q S cs T n nB nC nD m p q cA cB cC cD cE cP cQ V hn hnB hnC hnD hm hp hq hA hB hC hD hE hP hQ (hS.below hV (Nat.le_refl _)) (hcs.below hV (Nat.le_refl _)) (hT.below hV (Nat.le_refl _)))
  have F76 : Hid (u = 0 → ∀ V, Below w.heap.size w V → Calls Try.prog 76 #[.agg #[.slice A n cA, .slice B nB cB, .slice C nC cC, .slice D nD cD], .slice E m cE] V (BltV N k l V)) := Lib.hid (fun h V hV => by
    obtain ⟨_, h0, rfl, rfl, rfl⟩ := HKB h
    exact (build_c A B C D E S cs _ m cA cB cC cD cE V h0 hn hm hA hB hC hD hE (hS.below hV (Nat.le_refl _)) (hcs.below hV (Nat.le_refl _))).mono (fun _ _ h => R76.v hN hk hl h))
  have F16 : Hid (∀ (G M : Option Addr) (c d : Nat) (V : World), Below w.heap.size w V → NetAt V G M N → (k ≤ c ∧ c ≤ 9223372036854775807) → (l ≤ d ∧ d ≤ 9223372036854775807) → Calls Try.prog 16 #[.agg #[.slice G k c, .slice M l d], .slice Y y cY] V (fun e w' => e = .returned (.tuple #[.int .i64 pv, .int .i64 pe]) ∧ Below V.heap.size V w')) := Lib.hid (fun G M c d V hV hN hc hd => by rw [hpe, hpv]; exact Proves_c G M Y N ps k l y c d cY V hk hl hy hc hd hY hN (hI.below hV (Nat.le_refl _)))
  have HKK := Lib.hid (fun h => (HKB h).1)
  rw [← hz]
  clear HKB hz hn hnB hnC hnD hm hp hq hS hcs hT hI hN hx hu hpe hpv hk hl hy
  have HB := Lib.hid (((Below.refl w.heap.size w).alloc (Nat.le_refl _) (.cells #[.slice A n cA, .slice B nB cB, .slice C nC cC, .slice D nD cD] 51)).alloc (by simp) (.cells #[.slice P p cP, .slice Q q cQ] 55))
  have XS := Lib.hid ((Blk.new' w #[.slice A n cA, .slice B nB cB, .slice C nC cC, .slice D nD cD] 51).alloc (.cells #[.slice P p cP, .slice Q q cQ] 55))
  have XT := Lib.hid (show Blk ((w.alloc (.cells #[.slice A n cA, .slice B nB cB, .slice C nC cC, .slice D nD cD] 51)).alloc (.cells #[.slice P p cP, .slice Q q cQ] 55)) (w.heap.size + 1) 55 [.slice P p cP, .slice Q q cQ] from by simpa using Blk.new' (w.alloc (.cells #[.slice A n cA, .slice B nB cB, .slice C nC cC, .slice D nD cD] 51)) #[.slice P p cP, .slice Q q cQ] 55)
  go_enter Try.func45, Try.ntmps45
  go_upto_region 1 with fail
  generalize (w.alloc (.cells #[.slice A n cA, .slice B nB cB, .slice C nC cC, .slice D nD cD] 51)).alloc (.cells #[.slice P p cP, .slice Q q cQ] 55) = w1 at HB XS XT ⊢
  have s0 := XS.out.cell 0 rfl
  have s1 := XS.out.cell 1 rfl
  have s2 := XS.out.cell 2 rfl
  have s3 := XS.out.cell 3 rfl
  have sl := XS.out.lt
  have t0 := XT.out.cell 0 rfl
  have t1 := XT.out.cell 1 rfl
  have tl := XT.out.lt
  go_wp2_with fail
  refine (F38.out w1 HB.out).mono ?_
  rintro e w2 ⟨rfl, hb⟩
  clear s0 s1 s2 s3 sl t0 t1 tl
  have XS := Lib.hid (XS.out.below hb XS.out.lt)
  have HB := Lib.hid (HB.out.trans (hb.mono HB.out.size))
  clear hb XT
  by_cases h0 : u = 0
  rotate_left
  · have hb0 : (u == 0) = false := by simpa using h0
    have EE : z = u := by rw [HZ.out, if_neg h0]
    clear h0
    go_wp2_with fail
    go_ret
    exact ⟨ret_int EE.symm, HB.out⟩
  have F76b := Lib.hid (F76.out h0)
  have HKB := Lib.hid (HKK.out h0)
  have HZ1 := Lib.hid (HZ.out.trans (if_pos h0))
  clear HZ
  subst h0
  clear F76 HKK
  have s0 := XS.out.cell 0 rfl
  have s1 := XS.out.cell 1 rfl
  have s2 := XS.out.cell 2 rfl
  have s3 := XS.out.cell 3 rfl
  have sl := XS.out.lt
  go_wp2_with fail
  refine (F76b.out w2 HB.out).mono ?_
  rintro e w3 ⟨b, gs, M, c, v2, v3, rfl, hX, hNA, hc, hb⟩
  clear s0 s1 s2 s3 sl
  have HB := Lib.hid (HB.out.trans (hb.mono HB.out.size))
  have HC := Lib.hid hc
  have XB := Lib.hid hX
  have HNA := Lib.hid hNA
  clear hb hX hNA hc
  have b0 := XB.out.cell 0 rfl
  have b1 := XB.out.cell 1 rfl
  have bl := XB.out.lt
  go_wp2_with fail
  refine (F16.out _ _ _ _ w3 HB.out HNA.out ⟨Nat.le_refl _, by have := HKB.out; omega⟩ HC.out).mono ?_
  rintro e w4 ⟨rfl, hb⟩
  have HB := Lib.hid (HB.out.trans (hb.mono HB.out.size))
  clear b0 b1 bl hb XB HNA
  by_cases h1 : pe = 0
  rotate_left
  · have hb1 : (pe == 0) = false := by simpa using h1
    have EE : z = pe := by rw [HZ1.out, if_neg h1]
    clear h1
    go_wp2_with fail
    go_ret
    exact ⟨ret_int EE.symm, HB.out⟩
  have HZ2 := Lib.hid (HZ1.out.trans (if_pos h1))
  clear HZ1
  subst h1
  by_cases h2 : x = pv
  · have EE : z = 0 := by rw [HZ2.out, if_pos h2]
    subst h2
    go_wp2_with fail
    go_ret
    exact ⟨ret_int EE.symm, HB.out⟩
  have hb2 : (x == pv) = false := by simpa using h2
  have EE : z = 19 := by rw [HZ2.out, if_neg h2]
  clear h2
  go_wp2_with fail
  go_ret
  exact ⟨ret_int EE.symm, HB.out⟩
end Go.Proofs.Ytmebpglkeedaoaa
