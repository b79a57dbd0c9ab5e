/- Contracts that the claim leans on, part 4: S9 S8 S10 S11 S12 S14 M23 T3 N4 T4c T2 T4b S5 T4 T5 T6 N5 -/
import Derived.Test.YtmebpglkeedaoaaDC3
import Derived.Sort.CutIn
import Derived.Deep.Cut
set_option linter.unusedVariables false
set_option linter.unusedSimpArgs false
set_option linter.unnecessarySimpa false
namespace Go.Proofs.Ytmebpglkeedaoaa
open Go.RowKit Go.Shelf Dp
attribute [local go_sem] Oper.semAt_some
noncomputable def loop104 : Code := ((Try.f104.body.bind (blockOf 6)).getD .skip)
def St8 (J : World → Prop) (b4 b5 l n D0 : Nat) (V : World) : Prop := J V ∧ Blk V b4 161 [.func (.yield l) #[] #[]] ∧ Blk V b5 3 [.int .i64 n] ∧ D0 ≤ V.heap.size
def R104 (S : Site) (cs : List Car) (T : Tab) (J : World → Prop) (Jx : Int → World → Prop) : Ending → World → Prop := fun e W' => (∃ v, e = .returned v) ∧ ((plE S cs T = 0 ∧ J W') ∨ (plE S cs T ≠ 0 ∧ Jx (plE S cs T) W'))
def Rel4 (S : Site) (cs : List Car) (T : Tab) (J : World → Prop) (b4 b5 l n m D0 : Nat) (v : Value) (ds : List Deferred) (w : World) : Prop :=
  ∃ i : Nat, v = .int .i64 i ∧ i ≤ m ∧ Marks D0 ds w ∧ St8 J b4 b5 l n D0 w ∧ ∀ x, x < i → ∀ k, k ≤ n → levG (cs.getD x default) (T.inn.getD x []) (T.out.getD x []) n k = true
theorem blk_kept {W W' : World} {row : Option Nat} {g D : Nat} {t : TypeId} {vs : List Value} (h : Blk W g t vs) (hg : W.grownBy W' row) (hr : ∀ r, row = some r → D ≤ r ∧ ∃ o : Obj, W.heap[r]? = some o ∧ o.isCells = false) : Blk W' g t vs :=
  h.of_eq (hg.block g h.lt (fun e => by
    obtain ⟨o, ho, hc⟩ := (hr g e.symm).2
    have h' : W.heap[g]? = some (.cells vs.toArray t (0, 0)) := h
    rw [h'] at ho
    cases ho
    cases hc))
set_option maxHeartbeats 8000000 in
set_option maxRecDepth 100000 in
theorem faults4_c (bs bt bc b4 b5 : Nat) (S : Site) (cs : List Car) (T : Tab) (A B C D E P Q : Option Addr) (n m p q cA cB cC cD cE cP cQ l D0 : Nat) (hH : FtH S cs T n m p q cA cB cC cD cE cP cQ) (hpm : p = m) (hqm : q = m)
    (hL : (lenG cs.length S.lim.length T.inn && lenG cs.length S.lim.length T.out) = true) (hSl : ∀ j, j < n → slotE S cs T j = 0)
    (J : World → Prop) (Jx : Int → World → Prop) (hJ : ∀ W, J W → FtM bs bt bc S cs T A B C D E P Q n m p q cA cB cC cD cE cP cQ W) (hJo : OwnFrom D0 (fun (_ : Unit) W => J W)) (hJxo : ∀ e, OwnFrom D0 (fun (_ : Unit) W => Jx e W))
    (hY : ∀ e W1, J W1 → YieldAt Fence.wide 1 Try.prog l #[.int .i64 e] W1 fun e' W' => KeepsFrom D0 W1 W' ∧ e' = .returned (.bool false) ∧ Jx e W')
    (W0 : World) (h0 : St8 J b4 b5 l n D0 W0) {x6 x7 x8 x9 x10 x11 x12 x13 x14 x15 x16 x17 x18 x19 x20 x21 x22 x23 x24 x25 x26 x27 x28 x29 x30 x31 x32 x33 x34 x35 x36 x37 x38 x39 x40 x41 x42 x43 x44 x45 x46 x47 x48 x49 x50 x51 x52 x53 x54 x55 x56 x57 x58 x59 x60 x61 x62 x63 x64 x65 x66 x67 x68 x69 x70 x71 x72 x73 x74 x75 x76 x77 x78 x79 x80 x81 x82 x83 x84 x85 x86 x87 x88 x89 x90 x91 x92 x93 x94 x95 x96 x97 x98 x99 x100 x101 x102 x103 x104 x105 x106 x107 x108 x109 x110 x111 x112 x113 x114 x115 x116 x117 x118 x119 x120 x121 x122 x123 x124 x125 x126 x127 x128 x129 x130 x131 x132 x136 x137 x138 x139 x140 x141 x142 x143 x144 x145 x146 x147 x148 x149 x150 x151 x152 x153 x154 x155 x156 x157 x158 x159 x160 x161 x162 x163 x164 x165 x166 x167 x168 x169 x170 x171 x172 x173 x174 x175 x176 x177 x178 x179 x180 x181 x182 x183 x184 x185 x186 x187 x188 x189 : Value} :
    Code.wpIn Fence.wide 2 Try.prog loop104 (Exit.inBlock 6 (bodyPostM Fence.wide 2 Try.prog Try.f104 (R104 S cs T J Jx))) { tmps := List.toArray ((.func (.yield l) #[] #[] : Value) :: (.pointer (some ⟨bs, 0, none⟩) : Value) :: (.pointer (some ⟨bt, 0, none⟩) : Value) :: (.pointer (some ⟨bc, 0, none⟩) : Value) :: (.pointer (some ⟨b4, 0, none⟩) : Value) :: (.pointer (some ⟨b5, 0, none⟩) : Value) :: x6 :: x7 :: x8 :: x9 :: x10 :: x11 :: x12 :: x13 :: x14 :: x15 :: x16 :: x17 :: x18 :: x19 :: x20 :: x21 :: x22 :: x23 :: x24 :: x25 :: x26 :: x27 :: x28 :: x29 :: x30 :: x31 :: x32 :: x33 :: x34 :: x35 :: x36 :: x37 :: x38 :: x39 :: x40 :: x41 :: x42 :: x43 :: x44 :: x45 :: x46 :: x47 :: x48 :: x49 :: x50 :: x51 :: x52 :: x53 :: x54 :: x55 :: x56 :: x57 :: x58 :: x59 :: x60 :: x61 :: x62 :: x63 :: x64 :: x65 :: x66 :: x67 :: x68 :: x69 :: x70 :: x71 :: x72 :: x73 :: x74 :: x75 :: x76 :: x77 :: x78 :: x79 :: x80 :: x81 :: x82 :: x83 :: x84 :: x85 :: x86 :: x87 :: x88 :: x89 :: x90 :: x91 :: x92 :: x93 :: x94 :: x95 :: x96 :: x97 :: x98 :: x99 :: x100 :: x101 :: x102 :: x103 :: x104 :: x105 :: x106 :: x107 :: x108 :: x109 :: x110 :: x111 :: x112 :: x113 :: x114 :: x115 :: x116 :: x117 :: x118 :: x119 :: x120 :: x121 :: x122 :: x123 :: x124 :: x125 :: x126 :: x127 :: x128 :: x129 :: x130 :: x131 :: x132 :: (.slice E m cE : Value) :: (.int .i64 m : Value) :: (.int .i64 0 : Value) :: x136 :: x137 :: x138 :: x139 :: x140 :: x141 :: x142 :: x143 :: x144 :: x145 :: x146 :: x147 :: x148 :: x149 :: x150 :: x151 :: x152 :: x153 :: x154 :: x155 :: x156 :: x157 :: x158 :: x159 :: x160 :: x161 :: x162 :: x163 :: x164 :: x165 :: x166 :: x167 :: x168 :: x169 :: x170 :: x171 :: x172 :: x173 :: x174 :: x175 :: x176 :: x177 :: x178 :: x179 :: x180 :: x181 :: x182 :: x183 :: x184 :: x185 :: x186 :: x187 :: x188 :: x189 :: []), defers := [] } W0 := by
  have HH := Lib.hid hH
  have HV1 := Lib.hid hpm
  have HV2 := Lib.hid hqm
  have HL := Lib.hid hL
  have HSL := Lib.hid hSl
  have HJ := Lib.hid hJ
  have HJO := Lib.hid hJo
  have HJXO := Lib.hid hJxo
  have HJB : Hid (∀ W W', J W → Below W.heap.size W W' → J W') := Lib.hid (fun W W' h hb => hJo () W W' none h (grown_below hb) (fun r e => by cases e))
  have HY := Lib.hid hY
  have H0 := Lib.hid h0
  have HS8 : Hid (∀ V V', St8 J b4 b5 l n D0 V → Below V.heap.size V V' → St8 J b4 b5 l n D0 V') := Lib.hid (fun V V' h hb => ⟨HJB.out _ _ h.1 hb, h.2.1.below hb h.2.1.lt, h.2.2.1.below hb h.2.2.1.lt, Nat.le_trans h.2.2.2 hb.size⟩)
  have ee := hH.he
  have ep := hH.hx
  have eq := hH.hy
  clear hH hpm hqm hL hSl hJ hJo hJxo hY h0
  conv => arg 4; whnf
  refine wpIn_loop (fun a w => ∃ u16 u17 u18 u19 u20 u135 u136 u137 u138 u139 u140 u141 u142 u143 u144 u145 u146 u147 u148 u149 u150 u151 u152 u153 u154 u155 u156 u157 u158 u159 u160 u161 u162 u163 u164 u165 u166 u167 u168 u169 u170 u171 u172 u173 u174 u175 u176 u177 u178 u179 u180 u181 u182 u183 u184 u185 u186 u187 u188 u189 ds, (Rel4 S cs T J b4 b5 l n m D0 u135 ds w) ∧ a = { tmps := List.toArray ((.func (.yield l) #[] #[] : Value) :: (.pointer (some ⟨bs, 0, none⟩) : Value) :: (.pointer (some ⟨bt, 0, none⟩) : Value) :: (.pointer (some ⟨bc, 0, none⟩) : Value) :: (.pointer (some ⟨b4, 0, none⟩) : Value) :: (.pointer (some ⟨b5, 0, none⟩) : Value) :: x6 :: x7 :: x8 :: x9 :: x10 :: x11 :: x12 :: x13 :: x14 :: x15 :: u16 :: u17 :: u18 :: u19 :: u20 :: x21 :: x22 :: x23 :: x24 :: x25 :: x26 :: x27 :: x28 :: x29 :: x30 :: x31 :: x32 :: x33 :: x34 :: x35 :: x36 :: x37 :: x38 :: x39 :: x40 :: x41 :: x42 :: x43 :: x44 :: x45 :: x46 :: x47 :: x48 :: x49 :: x50 :: x51 :: x52 :: x53 :: x54 :: x55 :: x56 :: x57 :: x58 :: x59 :: x60 :: x61 :: x62 :: x63 :: x64 :: x65 :: x66 :: x67 :: x68 :: x69 :: x70 :: x71 :: x72 :: x73 :: x74 :: x75 :: x76 :: x77 :: x78 :: x79 :: x80 :: x81 :: x82 :: x83 :: x84 :: x85 :: x86 :: x87 :: x88 :: x89 :: x90 :: x91 :: x92 :: x93 :: x94 :: x95 :: x96 :: x97 :: x98 :: x99 :: x100 :: x101 :: x102 :: x103 :: x104 :: x105 :: x106 :: x107 :: x108 :: x109 :: x110 :: x111 :: x112 :: x113 :: x114 :: x115 :: x116 :: x117 :: x118 :: x119 :: x120 :: x121 :: x122 :: x123 :: x124 :: x125 :: x126 :: x127 :: x128 :: x129 :: x130 :: x131 :: x132 :: (.slice E m cE : Value) :: (.int .i64 m : Value) :: u135 :: u136 :: u137 :: u138 :: u139 :: u140 :: u141 :: u142 :: u143 :: u144 :: u145 :: u146 :: u147 :: u148 :: u149 :: u150 :: u151 :: u152 :: u153 :: u154 :: u155 :: u156 :: u157 :: u158 :: u159 :: u160 :: u161 :: u162 :: u163 :: u164 :: u165 :: u166 :: u167 :: u168 :: u169 :: u170 :: u171 :: u172 :: u173 :: u174 :: u175 :: u176 :: u177 :: u178 :: u179 :: u180 :: u181 :: u182 :: u183 :: u184 :: u185 :: u186 :: u187 :: u188 :: u189 :: []), defers := ds }) (fun a w => m - (intOf (a.tmps.getD 135 undef)).toNat) ?start ?round
  case start =>
    (repeat apply Exists.intro)
    refine ⟨⟨0, rfl, Nat.zero_le _, Marks.nil _ _, H0.out, fun x hx => by omega⟩, rfl⟩
  intro a w hinv
  obtain ⟨u16, hinv⟩ := hinv
  obtain ⟨u17, hinv⟩ := hinv
  obtain ⟨u18, hinv⟩ := hinv
  obtain ⟨u19, hinv⟩ := hinv
  obtain ⟨u20, hinv⟩ := hinv
  obtain ⟨u135, hinv⟩ := hinv
  obtain ⟨u136, hinv⟩ := hinv
  obtain ⟨u137, hinv⟩ := hinv
  obtain ⟨u138, hinv⟩ := hinv
  obtain ⟨u139, hinv⟩ := hinv
  obtain ⟨u140, hinv⟩ := hinv
  obtain ⟨u141, hinv⟩ := hinv
  obtain ⟨u142, hinv⟩ := hinv
  obtain ⟨u143, hinv⟩ := hinv
  obtain ⟨u144, hinv⟩ := hinv
  obtain ⟨u145, hinv⟩ := hinv
  obtain ⟨u146, hinv⟩ := hinv
  obtain ⟨u147, hinv⟩ := hinv
  obtain ⟨u148, hinv⟩ := hinv
  obtain ⟨u149, hinv⟩ := hinv
  obtain ⟨u150, hinv⟩ := hinv
  obtain ⟨u151, hinv⟩ := hinv
  obtain ⟨u152, hinv⟩ := hinv
  obtain ⟨u153, hinv⟩ := hinv
  obtain ⟨u154, hinv⟩ := hinv
  obtain ⟨u155, hinv⟩ := hinv
  obtain ⟨u156, hinv⟩ := hinv
  obtain ⟨u157, hinv⟩ := hinv
  obtain ⟨u158, hinv⟩ := hinv
  obtain ⟨u159, hinv⟩ := hinv
  obtain ⟨u160, hinv⟩ := hinv
  obtain ⟨u161, hinv⟩ := hinv
  obtain ⟨u162, hinv⟩ := hinv
  obtain ⟨u163, hinv⟩ := hinv
  obtain ⟨u164, hinv⟩ := hinv
  obtain ⟨u165, hinv⟩ := hinv
  obtain ⟨u166, hinv⟩ := hinv
  obtain ⟨u167, hinv⟩ := hinv
  obtain ⟨u168, hinv⟩ := hinv
  obtain ⟨u169, hinv⟩ := hinv
  obtain ⟨u170, hinv⟩ := hinv
  obtain ⟨u171, hinv⟩ := hinv
  obtain ⟨u172, hinv⟩ := hinv
  obtain ⟨u173, hinv⟩ := hinv
  obtain ⟨u174, hinv⟩ := hinv
  obtain ⟨u175, hinv⟩ := hinv
  obtain ⟨u176, hinv⟩ := hinv
  obtain ⟨u177, hinv⟩ := hinv
  obtain ⟨u178, hinv⟩ := hinv
  obtain ⟨u179, hinv⟩ := hinv
  obtain ⟨u180, hinv⟩ := hinv
  obtain ⟨u181, hinv⟩ := hinv
  obtain ⟨u182, hinv⟩ := hinv
  obtain ⟨u183, hinv⟩ := hinv
  obtain ⟨u184, hinv⟩ := hinv
  obtain ⟨u185, hinv⟩ := hinv
  obtain ⟨u186, hinv⟩ := hinv
  obtain ⟨u187, hinv⟩ := hinv
  obtain ⟨u188, hinv⟩ := hinv
  obtain ⟨u189, hinv⟩ := hinv
  obtain ⟨ds, hinv⟩ := hinv
  obtain ⟨⟨i, rfl, hi, HMK, HST, HLV⟩, rfl⟩ := hinv
  have HW := Lib.hid (And.intro HMK (And.intro HST HLV))
  clear HMK HST HLV
  try dsimp only
  by_cases hlt : i < m
  · have hii : (i : Int) < (m : Int) := by omega
    have il : i < cs.length := by rw [← HH.out.hm]; exact hlt
    have M := HJ.out _ HW.out.2.1.1
    obtain ⟨ad, rfl, abl, c0, c1, c2, c3, c4, TT, cT, c5, hcT, HTT⟩ := M.hc i il
    have HTR := Lib.hid HTT
    have HCOK := Lib.hid ((stE_0 HH.out.ok).2.2.2 i il)
    clear HTT M
    generalize hcc : cs.getD i default = c at *
    have HCC := Lib.hid hcc
    clear hcc
    obtain ⟨cap, inn, out, start, fin, trips⟩ := c
    simp only at c0 c1 c2 c3 c4 c5 hcT HTR HCOK
    obtain ⟨qn, hqn⟩ : ∃ qn, qn = trips.length := ⟨_, rfl⟩
    rw [← hqn] at c5 hcT
    have HQN := Lib.hid hqn
    clear hqn
    gi_upto_region 26 with fail
    have HBB := Lib.hid (((Below.refl w.heap.size w).alloc (Nat.le_refl _) (.cells #[.int .i64 i] 3)).alloc (by simp) (.cells #[.int .i64 cap, .int .i64 inn, .int .i64 out, .int .i64 start, .int .i64 fin, .slice TT qn cT] 63))
    have XI := Lib.hid ((Blk.new' w #[.int .i64 i] 3).alloc (.cells #[.int .i64 cap, .int .i64 inn, .int .i64 out, .int .i64 start, .int .i64 fin, .slice TT qn cT] 63))
    have XC := Lib.hid (show Blk ((w.alloc (.cells #[.int .i64 i] 3)).alloc (.cells #[.int .i64 cap, .int .i64 inn, .int .i64 out, .int .i64 start, .int .i64 fin, .slice TT qn cT] 63)) (w.heap.size + 1) 63 [.int .i64 cap, .int .i64 inn, .int .i64 out, .int .i64 start, .int .i64 fin, .slice TT qn cT] from by simpa using Blk.new' (w.alloc (.cells #[.int .i64 i] 3)) #[.int .i64 cap, .int .i64 inn, .int .i64 out, .int .i64 start, .int .i64 fin, .slice TT qn cT] 63)
    have HX0 := Lib.hid (HS8.out _ _ HW.out.2.1 HBB.out)
    have HTR2 := Lib.hid (HTR.out.below HBB.out (Nat.le_refl _))
    have HMK2 := Lib.hid (HW.out.1.below HBB.out)
    have HLV := Lib.hid HW.out.2.2
    clear HBB HTR HW c0 c1 c2 c3 c4 c5 abl
    generalize (w.alloc (.cells #[.int .i64 i] 3)).alloc (.cells #[.int .i64 cap, .int .i64 inn, .int .i64 out, .int .i64 start, .int .i64 fin, .slice TT qn cT] 63) = w2 at XI XC HX0 HTR2 HMK2 ⊢
    generalize w.heap.size = bi at *
    have M := HJ.out _ HX0.out.1
    obtain ⟨pa, rfl, pal, PT, cPT, p0, pb, pi⟩ := M.ht.1 i (by rw [← HH.out.hp, HV1.out]; exact hlt)
    obtain ⟨qa, rfl, qal, QT, cQT, q0, qb, qi⟩ := M.ht.2 i (by rw [← HH.out.hq, HV2.out]; exact hlt)
    have LL := HL.out
    rw [Bool.and_eq_true] at LL
    have L1 := (lenG_iff.1 LL.1).2 i il
    have L2 := (lenG_iff.1 LL.2).2 i il
    rw [L1, ← HH.out.hn] at p0 pb
    rw [L2, ← HH.out.hn] at q0 qb
    have N8 : n ≤ 48 := by
      have h := siteHead_iff.1 (stE_0 HH.out.ok).2.1
      have h3 := HH.out.hn
      omega
    have RB := row_bd HH.out.ok HL.out (fun k hk x hx => slotE_cars (HSL.out k (by rw [HH.out.hn]; exact hk)) x hx) il
    rw [← HH.out.hn] at RB HCOK
    have HLA := Lib.hid (lev_all N8 HCOK.out RB.1 RB.2)
    have HPI := Lib.hid (And.intro pi qi)
    have HLX := Lib.hid (And.intro (L1.trans HH.out.hn.symm).symm (L2.trans HH.out.hn.symm).symm)
    clear pi qi LL L1 L2 M RB
    have hip : (i : Int) < (p : Int) := by have := HV1.out; omega
    have hiq : (i : Int) < (q : Int) := by have := HV2.out; omega
    have HPE : Hid (∀ k, k ≤ n → levG ⟨cap, inn, out, start, fin, trips⟩ (T.inn.getD i []) (T.out.getD i []) n k = false → plE S cs T = 19) := Lib.hid (fun k hk h => plE_lev HH.out.ok HL.out (fun j hj => HSL.out j (by rw [HH.out.hn]; exact hj)) il (k := k) (by rw [← HH.out.hn]; exact hk) (by rw [HCC.out, ← HH.out.hn]; exact h))
    have HNXT : Hid ((∀ k, k ≤ n → levG ⟨cap, inn, out, start, fin, trips⟩ (T.inn.getD i []) (T.out.getD i []) n k = true) → ∀ x, x < i + 1 → ∀ k, k ≤ n → levG (cs.getD x default) (T.inn.getD x []) (T.out.getD x []) n k = true) := Lib.hid (fun h x hx k hk => by
      by_cases hxi : x < i
      · exact HLV.out x hxi k hk
      · obtain rfl : x = i := by omega
        rw [HCC.out]; exact h k hk)
    generalize T.inn.getD i [] = xr at *
    generalize hyr : T.out.getD i [] = yr at *
    have HYR := Lib.hid hyr
    clear hyr
    have HP0 : Hid (∀ V, Below w2.heap.size w2 V → (V.cell? (pa.add i) = some (.slice PT n cPT) ∧ (pa.add i).block < V.heap.size) ∧ (V.cell? (qa.add i) = some (.slice QT n cQT) ∧ (qa.add i).block < V.heap.size)) := Lib.hid (fun V hV => by
      have k := hV.size
      exact ⟨⟨(hV.cell (by rw [block_add]; exact pal)).trans p0, by rw [block_add]; omega⟩, ⟨(hV.cell (by rw [block_add]; exact qal)).trans q0, by rw [block_add]; omega⟩⟩)
    clear p0 q0 pal qal
    refine wpIn_wide.2 ?_
    refine wp_region_then 11 _ ?af rfl (by kernel_rfl) (by kernel_rfl) ?walk ?tail
    case walk =>
      intro V hV
      have XIV := XI.out.below hV XI.out.lt
      have XCV := XC.out.below hV XC.out.lt
      have MV := HJ.out _ (HS8.out _ _ HX0.out hV).1
      obtain ⟨⟨p0, pab⟩, ⟨q0, qab⟩⟩ := HP0.out V hV
      have i0 := XIV.cell 0 rfl
      have ilt := XIV.lt
      have clt := XCV.lt
      have e0 := XCV.cell 0 rfl
      have e1 := XCV.cell 1 rfl
      have e2 := XCV.cell 2 rfl
      have e3 := XCV.cell 3 rfl
      have e4 := XCV.cell 4 rfl
      have e5 := XCV.cell 5 rfl
      have t0 := MV.kt.cell 0 rfl
      have t1 := MV.kt.cell 1 rfl
      have tl := MV.kt.lt
      clear XIV XCV MV hV
      simp only [List.take_succ_cons, List.take_zero]
      repeat (go_big_quiet_step (fail))
      refine wpQuiet_nil ?_
      rfl
    intro w8 hb8
    have XI3 := Lib.hid (XI.out.below hb8 XI.out.lt)
    have XC3 := Lib.hid (XC.out.below hb8 XC.out.lt)
    have HX3 := Lib.hid (HS8.out _ _ HX0.out hb8)
    have HMK3 := Lib.hid (HMK2.out.below hb8)
    have HTR3 := Lib.hid (HTR2.out.below hb8 (Nat.le_refl _))
    have HPI3 := Lib.hid (And.intro (HPI.out.1.below hb8 (Nat.le_refl _)) (HPI.out.2.below hb8 (Nat.le_refl _)))
    clear hb8 XI XC HX0 HMK2 HTR2 HPI HP0
    go_simp
    refine (levels_c _ _ _ _ ⟨_, _, _, _, _, _, rfl⟩ ⟨_, _, _, rfl⟩ ⟨_, _, _, rfl⟩).mono ?_
    rintro e w9 ⟨rfl, hw9⟩
    have HB9 : Below w8.heap.size w8 w9 := by
      rw [hw9]
      exact (((Below.refl _ _).alloc (Nat.le_refl _) _).alloc (by simp) _).alloc (by simp; omega) _
    have KC : Blk w9 w8.heap.size 63 [.int .i64 cap, .int .i64 inn, .int .i64 out, .int .i64 start, .int .i64 fin, .slice TT qn cT] := by
      rw [hw9]; exact ((Blk.new' w8 #[.int .i64 cap, .int .i64 inn, .int .i64 out, .int .i64 start, .int .i64 fin, .slice TT qn cT] 63).alloc _).alloc _
    have KI : Blk w9 (w8.heap.size + 1) 22 [.slice PT n cPT] := by
      have := (Blk.new' (w8.alloc (.cells #[.int .i64 cap, .int .i64 inn, .int .i64 out, .int .i64 start, .int .i64 fin, .slice TT qn cT] 63)) #[.slice PT n cPT] 22).alloc (.cells #[.slice QT n cQT] 22)
      rw [hw9]; simpa using this
    have KO : Blk w9 (w8.heap.size + 2) 22 [.slice QT n cQT] := by
      have := Blk.new' ((w8.alloc (.cells #[.int .i64 cap, .int .i64 inn, .int .i64 out, .int .i64 start, .int .i64 fin, .slice TT qn cT] 63)).alloc (.cells #[.slice PT n cPT] 22)) #[.slice QT n cQT] 22
      rw [hw9]; simpa [Nat.add_assoc] using this
    have XI4 := Lib.hid (XI3.out.below HB9 XI3.out.lt)
    have XC4 := Lib.hid (XC3.out.below HB9 XC3.out.lt)
    have HX4 := Lib.hid (HS8.out _ _ HX3.out HB9)
    have HMK4 := Lib.hid (HMK3.out.below HB9)
    have HLM : Hid (LvM w8.heap.size (w8.heap.size + 1) (w8.heap.size + 2) ⟨cap, inn, out, start, fin, trips⟩ xr yr TT PT QT qn n n cT cPT cQT w9) := Lib.hid ⟨KC, KI, KO, HTR3.out.below HB9 (Nat.le_refl _), HPI3.out.1.below HB9 (Nat.le_refl _), HPI3.out.2.below HB9 (Nat.le_refl _)⟩
    clear hw9 HB9 KC KI KO XI3 XC3 HX3 HMK3 HTR3 HPI3
    dsimp only
    (try simp only [Act.put, List.setIfInBounds_toArray, List.set_cons_zero, List.set_cons_succ])
    refine wpQuiet_nil ?_
    intro xx
    have XI5 := Lib.hid (XI4.out.below xx.far XI4.out.lt)
    have XC5 := Lib.hid (XC4.out.below xx.far XC4.out.lt)
    have HX5 := Lib.hid (HS8.out _ _ HX4.out xx.far)
    have HMK5 := Lib.hid (HMK4.out.below xx.far)
    have HLM5 := Lib.hid (HLM.out.below xx.far)
    generalize xx.w = w5 at XI5 XC5 HX5 HMK5 HLM5 ⊢
    clear XI4 XC4 HX4 HMK4 HLM
    generalize w8.heap.size = g at *
    gi_wp2
    refine wpIn_wide.2 ((wpIn_wide (n := 3)).1 (range_mine3 (F := Fence.wide) (n := 3) rfl (by omega) (gf := 107) (lb := #[.pointer (some ⟨g, 0, none⟩), .pointer (some ⟨g + 1, 0, none⟩), .pointer (some ⟨g + 2, 0, none⟩)]) rfl trivial (fun _ _ => by kernel_rfl)
      (encs := fun y : Int × Int => #[.int .i64 y.1, .int .i64 y.2]) (fun _ => rfl)
      (fun pre V => St8 J b4 b5 l n D0 V ∧ Below w5.heap.size w5 V ∧ ∀ j, j < pre.length → levG ⟨cap, inn, out, start, fin, trips⟩ xr yr n j = true) (fun _ V => Jx 19 V ∧ plE S cs T = 19 ∧ Marks D0 ds V) .ret
      (fun ys => ys.length = n + 1) (fun _ => True) (fun pre y => ∃ k : Nat, k ≤ n ∧ pre.length = k ∧ y = ((k : Int), lev ⟨cap, inn, out, start, fin, trips⟩ xr yr k))
      ?hI ?hIx ⟨HX5.out, Below.refl _ _, fun j hj => by simp at hj⟩ ?hseq ?a1 ?assign ?body ?done ?stop))
    case hI =>
      rintro pre V V' row ⟨⟨h1, h2, h3, h4⟩, h5, h6⟩ hg hr
      exact ⟨⟨HJO.out () V V' row h1 hg (fun r e => ⟨Nat.le_trans HX5.out.2.2.2 (hr r e).1, (hr r e).2⟩), blk_kept h2 hg hr, blk_kept h3 hg hr, Nat.le_trans h4 hg.size⟩, h5.grown hg h5.size (fun r e => (hr r e).1), h6⟩
    case hIx =>
      rintro pre V V' row ⟨h1, h2, h3⟩ hg hr
      exact ⟨HJXO.out 19 () V V' row h1 hg (fun r e => ⟨Nat.le_trans HX5.out.2.2.2 (hr r e).1, (hr r e).2⟩), h2, marks_own HMK5.out (Nat.le_refl _) () V V' row h3 hg hr⟩
    case hseq =>
      intro l2 J2 Jx2 V hJ2 hO2 hOx2 hz2 hY2 hj2
      have lv0 : ∀ k, (lvs ⟨cap, inn, out, start, fin, trips⟩ xr yr k).length = k := fun k => by simp [lvs]
      refine (levels1_c g (g + 1) (g + 2) ⟨cap, inn, out, start, fin, trips⟩ xr yr TT PT QT qn n n cT cPT cQT l2 HQN.out hcT HLX.out.1 (Nat.le_refl _) HLX.out.2 pb qb HLA.out J2 Jx2 (fun pre V2 h => HLM5.out.below (hJ2 pre V2 h).2.1) (fun pre V1 V2 h hb => hO2 pre V1 V2 none h (grown_below hb) (fun r e => by cases e)) (fun k hk V1 h => (hY2 _ ((k : Int), lev ⟨cap, inn, out, start, fin, trips⟩ xr yr k) V1 h ⟨k, hk, lv0 k, rfl⟩).mono (fun e V2 h2 => by rw [lvs_succ]; exact h2.2)) V hj2).mono ?_
      rintro e V2 ⟨hv, h | ⟨k, hk, h⟩⟩
      · exact ⟨hv, .inl ⟨_, lv0 _, h⟩⟩
      · exact ⟨hv, .inr ⟨_, trivial, h⟩⟩
    case assign =>
      intro l2 y V K hK
      gi_wp2
      exact hK
    case body =>
      rintro l2 pre y V hI ⟨k, hk, hpre, rfl⟩
      have HI := Lib.hid hI
      clear hI
      have HBAD : Hid (¬ (least ⟨cap, inn, out, start, fin, trips⟩ yr n k ≤ lev ⟨cap, inn, out, start, fin, trips⟩ xr yr k ∧ lev ⟨cap, inn, out, start, fin, trips⟩ xr yr k ≤ (Car.cap ⟨cap, inn, out, start, fin, trips⟩)) → plE S cs T = 19) := Lib.hid (fun h => HPE.out k hk (by rw [← Bool.not_eq_true, levG_iff]; exact h))
      have HGOOD : Hid ((least ⟨cap, inn, out, start, fin, trips⟩ yr n k ≤ lev ⟨cap, inn, out, start, fin, trips⟩ xr yr k ∧ lev ⟨cap, inn, out, start, fin, trips⟩ xr yr k ≤ (Car.cap ⟨cap, inn, out, start, fin, trips⟩)) → levG ⟨cap, inn, out, start, fin, trips⟩ xr yr n k = true) := Lib.hid (fun h => levG_iff.2 h)
      have XC6 := XC5.out.below HI.out.2.1 XC5.out.lt
      have XI6 := XI5.out.below HI.out.2.1 XI5.out.lt
      have e0 := XC6.cell 0 rfl
      have e1 := XC6.cell 1 rfl
      have e2 := XC6.cell 2 rfl
      have e3 := XC6.cell 3 rfl
      have e4 := XC6.cell 4 rfl
      have e5 := XC6.cell 5 rfl
      have n0 := HI.out.1.2.2.1.cell 0 rfl
      by_cases hkn : k < n
      · have hki : (k : Int) < (n : Int) := by omega
        have HLS : Hid (least ⟨cap, inn, out, start, fin, trips⟩ yr n k = max (useC ⟨cap, inn, out, start, fin, trips⟩ k) (yr.getD k 0)) := Lib.hid (by unfold least; rw [if_pos hkn])
        have TC := trip_c (.int .i64 cap) (.int .i64 inn) (.int .i64 out) (.int .i64 start) (.int .i64 fin) k TT trips qn cT V HQN.out hcT (HLM5.out.below HI.out.2.1).kt
        rw [show useP trips k qn = useC ⟨cap, inn, out, start, fin, trips⟩ k from by unfold useC; rw [HQN.out]] at TC
        clear XC6 XI6
        generalize lev ⟨cap, inn, out, start, fin, trips⟩ xr yr k = LV at *
        gi_wp2
        refine ⟨trivial, CallsIn.inRound _ (callsIn_wide.2 (TC.mono ?_))⟩
        rintro e V2 ⟨rfl, hb2⟩
        have HI2 := Lib.hid (And.intro (HS8.out _ _ HI.out.1 hb2) (HI.out.2.1.trans (hb2.mono HI.out.2.1.size)))
        have HMV := Lib.hid ((HMK5.out.below HI.out.2.1).below hb2)
        have HKV : Hid (KeepsFrom w5.heap.size V V2) := Lib.hid (KeepsFrom.of_grownBy (grown_below hb2) (fun j e => by cases e))
        clear e0 e1 e2 e3 e4 e5 n0 hb2 TC
        have XC6 := XC5.out.below HI2.out.2 XC5.out.lt
        have XI6 := XI5.out.below HI2.out.2 XI5.out.lt
        have e0 := XC6.cell 0 rfl
        have i0 := XI6.cell 0 rfl
        have ilt := XI6.lt
        have M := HJ.out _ HI2.out.1.1
        have t1 := M.kt.cell 1 rfl
        obtain ⟨qa2, hqa, qal, QT2, cQT2, q0, qb2, qi⟩ := M.ht.2 i (by rw [← HH.out.hq, HV2.out]; exact hlt)
        cases hqa
        rw [HYR.out, ← HLX.out.2] at q0 qb2
        rw [HYR.out] at qi
        obtain ⟨qd, rfl, qdl, qx⟩ := qi k (by rw [← HLX.out.2]; exact hkn)
        clear M qi XC6 XI6
        generalize yr.getD k 0 = yk at *
        generalize useC ⟨cap, inn, out, start, fin, trips⟩ k = us at *
        generalize awayP trips k qn = aw at *
        have hmx := fun ts t W => maxTwo us yk ts t W
        generalize max us yk = mx at *
        gi_upto_region 33 with fail
        clear t1 q0 qx i0 ilt hmx
        have y0 := HI2.out.1.2.1.cell 0 rfl
        obtain ⟨fn, tm, asg, bo, hy, hR⟩ := HY.out 19 V2 HI2.out.1.1
        by_cases d1 : LV < mx
        · have HPX := Lib.hid (HBAD.out (fun h => by have := h.1; rw [HLS.out] at this; omega))
          gi_wp2
          refine (round_any hR).mono ?_
          rintro e V4 ⟨hk4, rfl, hx⟩
          have HX := Lib.hid hx
          have HM4 := Lib.hid (HMV.out.keep hk4)
          have HK4 : Hid (KeepsFrom w5.heap.size V V4) := Lib.hid (HKV.out.trans ⟨hk4.size, fun k o h => hk4.same k o (Nat.le_trans HX5.out.2.2.2 h)⟩)
          clear hx hk4
          gi_wp2
          exact (⟨rfl, HK4.out, HX.out, HPX.out, HM4.out⟩ : _ ∧ _ ∧ _ ∧ _ ∧ _)
        by_cases d2 : cap < LV
        · have HPX := Lib.hid (HBAD.out (fun h => by have := h.2; (try simp only at this); omega))
          gi_wp2
          refine (round_any hR).mono ?_
          rintro e V4 ⟨hk4, rfl, hx⟩
          have HX := Lib.hid hx
          have HM4 := Lib.hid (HMV.out.keep hk4)
          have HK4 : Hid (KeepsFrom w5.heap.size V V4) := Lib.hid (HKV.out.trans ⟨hk4.size, fun k o h => hk4.same k o (Nat.le_trans HX5.out.2.2.2 h)⟩)
          clear hx hk4
          gi_wp2
          exact (⟨rfl, HK4.out, HX.out, HPX.out, HM4.out⟩ : _ ∧ _ ∧ _ ∧ _ ∧ _)
        have HGG := Lib.hid (HGOOD.out ⟨by rw [HLS.out]; omega, by (try simp only); omega⟩)
        clear hy hR
        gi_wp2
        refine ⟨fun _ h => (by cases h), ?_⟩
        gi_wp2
        refine (⟨HKV.out, HI2.out.1, HI2.out.2, fun j hj => ?_⟩ : _ ∧ _ ∧ _ ∧ _)
        by_cases hjk : j < k
        · exact HI.out.2.2 j (by rw [hpre]; exact hjk)
        · obtain rfl : j = k := by rw [List.length_append, hpre] at hj; simp at hj; omega
          exact HGG.out
      · obtain rfl : n = k := by omega
        have hki : ¬ (n : Int) < (n : Int) := by omega
        have HLS : Hid (least ⟨cap, inn, out, start, fin, trips⟩ yr n n = fin) := Lib.hid (by unfold least; rw [if_neg (by omega)])
        have HI2 := Lib.hid (And.intro HI.out.1 HI.out.2.1)
        have HMV := Lib.hid (HMK5.out.below HI.out.2.1)
        have HKV : Hid (KeepsFrom w5.heap.size V V) := Lib.hid (KeepsFrom.refl _ _)
        clear XC6 XI6
        generalize lev ⟨cap, inn, out, start, fin, trips⟩ xr yr n = LV at *
        gi_upto_region 33 with fail
        have y0 := HI2.out.1.2.1.cell 0 rfl
        obtain ⟨fn, tm, asg, bo, hy, hR⟩ := HY.out 19 V HI2.out.1.1
        by_cases d1 : LV < fin
        · have HPX := Lib.hid (HBAD.out (fun h => by have := h.1; rw [HLS.out] at this; omega))
          gi_wp2
          refine (round_any hR).mono ?_
          rintro e V4 ⟨hk4, rfl, hx⟩
          have HX := Lib.hid hx
          have HM4 := Lib.hid (HMV.out.keep hk4)
          have HK4 : Hid (KeepsFrom w5.heap.size V V4) := Lib.hid (HKV.out.trans ⟨hk4.size, fun k o h => hk4.same k o (Nat.le_trans HX5.out.2.2.2 h)⟩)
          clear hx hk4
          gi_wp2
          exact (⟨rfl, HK4.out, HX.out, HPX.out, HM4.out⟩ : _ ∧ _ ∧ _ ∧ _ ∧ _)
        by_cases d2 : cap < LV
        · have HPX := Lib.hid (HBAD.out (fun h => by have := h.2; (try simp only at this); omega))
          gi_wp2
          refine (round_any hR).mono ?_
          rintro e V4 ⟨hk4, rfl, hx⟩
          have HX := Lib.hid hx
          have HM4 := Lib.hid (HMV.out.keep hk4)
          have HK4 : Hid (KeepsFrom w5.heap.size V V4) := Lib.hid (HKV.out.trans ⟨hk4.size, fun k o h => hk4.same k o (Nat.le_trans HX5.out.2.2.2 h)⟩)
          clear hx hk4
          gi_wp2
          exact (⟨rfl, HK4.out, HX.out, HPX.out, HM4.out⟩ : _ ∧ _ ∧ _ ∧ _ ∧ _)
        have HGG := Lib.hid (HGOOD.out ⟨by rw [HLS.out]; omega, by (try simp only); omega⟩)
        clear hy hR
        gi_wp2
        refine ⟨fun _ h => (by cases h), ?_⟩
        gi_wp2
        refine (⟨HKV.out, HI2.out.1, HI2.out.2, fun j hj => ?_⟩ : _ ∧ _ ∧ _ ∧ _)
        by_cases hjk : j < n
        · exact HI.out.2.2 j (by rw [hpre]; exact hjk)
        · obtain rfl : j = n := by rw [List.length_append, hpre] at hj; simp at hj; omega
          exact HGG.out
    case done =>
      rintro D ys V hD hys hI hK
      have HI := Lib.hid hI
      have HK := Lib.hid hK
      have HMK6 := Lib.hid (Marks.cons HMK5.out hD (Nat.le_trans HX5.out.2.2.2 hD) (HMK5.out.below HI.out.2.1) HK.out)
      have HGO := Lib.hid (HNXT.out (fun k hk => HI.out.2.2 k (by rw [hys]; omega)))
      clear hI hK
      gi_wp2
      refine ⟨?_, by simp [intOf]; omega⟩
      (repeat apply Exists.intro)
      refine ⟨⟨i + 1, rfl, by omega, HMK6.out, HI.out.1, HGO.out⟩, rfl⟩
    case stop =>
      rintro D pre V hD _ hI hK
      have HMK6 := Lib.hid (Marks.cons HMK5.out hD (Nat.le_trans HX5.out.2.2.2 hD) hI.2.2 hK)
      have HI := Lib.hid hI
      clear hI hK
      gi_wp2
      exact leaves_marks (by simp) (HJXO.out 19) (fun V2 h => end104 _ (fun v => ⟨⟨_, rfl⟩, .inr ⟨by rw [HI.out.2.1]; omega, by rw [HI.out.2.1]; exact h⟩⟩)) HMK6.out HI.out.1
  · obtain rfl : m = i := by omega
    have HPZ := Lib.hid (plE_good HH.out.ok HL.out (fun j hj => HSL.out j (by rw [HH.out.hn]; exact hj)) (fun x hx k hk => by rw [← HH.out.hn] at hk ⊢; exact HW.out.2.2 x (by rw [HH.out.hm]; exact hx) k hk))
    gi_wp2
    exact leaves_marks (by simp) HJO.out (fun V2 h => end104 _ (fun v => ⟨⟨_, rfl⟩, .inl ⟨HPZ.out, h⟩⟩)) HW.out.1 HW.out.2.1.1
end Go.Proofs.Ytmebpglkeedaoaa
namespace Go.Proofs.Ytmebpglkeedaoaa
open Go.RowKit Go.Shelf Dp
attribute [local go_sem] Oper.semAt_some
theorem wpIn_codeP {F : Fence} {n : Nat} {P : Program} {c c' : Code} {Q : Exit → Act → World → Prop} {a : Act} {W : World} (h : c = c') (hw : c'.wpIn F n P Q a W) : c.wpIn F n P Q a W := h ▸ hw
@[go_sem] theorem ix162_a (A B : Option Addr) (n m c d : Nat) (w : World) : (Instr.index 162 (.agg #[.slice A n c, .slice B m d]) (.int .i64 0)).run Try.prog w = .ok (.slice A n c) w := by kernel_rfl
@[go_sem] theorem ix162_b (A B : Option Addr) (n m c d : Nat) (w : World) : (Instr.index 162 (.agg #[.slice A n c, .slice B m d]) (.int .i64 1)).run Try.prog w = .ok (.slice B m d) w := by kernel_rfl
set_option maxHeartbeats 8000000 in
set_option maxRecDepth 100000 in
theorem faults1_c (bs bt bc : Nat) (S : Site) (cs : List Car) (T : Tab) (A B C D E P Q : Option Addr) (n m p q cA cB cC cD cE cP cQ l D0 : Nat) (hH : FtH S cs T n m p q cA cB cC cD cE cP cQ)
    (J : World → Prop) (Jx : Int → World → Prop) (hJ : ∀ W, J W → FtM bs bt bc S cs T A B C D E P Q n m p q cA cB cC cD cE cP cQ W) (hJo : OwnFrom D0 (fun (_ : Unit) W => J W)) (hJxo : ∀ e, OwnFrom D0 (fun (_ : Unit) W => Jx e W))
    (hY : ∀ e W1, J W1 → YieldAt Fence.wide 1 Try.prog l #[.int .i64 e] W1 fun e' W' => KeepsFrom D0 W1 W' ∧ e' = .returned (.bool false) ∧ Jx e W')
    (W : World) (hD : D0 ≤ W.heap.size) (hj : J W) :
    CallsIn Fence.wide 2 Try.prog 104 #[.func (.yield l) #[] #[], .pointer (some ⟨bs, 0, none⟩), .pointer (some ⟨bt, 0, none⟩), .pointer (some ⟨bc, 0, none⟩)] W fun e W' => (∃ v, e = .returned v) ∧ ((plE S cs T = 0 ∧ J W') ∨ (plE S cs T ≠ 0 ∧ Jx (plE S cs T) W')) := by
  refine callsIn_of_wp_marks Try.func104 rfl trivial ?_ rfl
  simp only [Try.ntmps104, List.size_toArray, List.length_cons, List.length_nil, Nat.reduceAdd, Nat.reduceSub, Array.replicate_succ, Array.replicate_zero, List.push_toArray, List.append_toArray, List.nil_append, List.cons_append]
  have HH := Lib.hid hH
  have HJ := Lib.hid hJ
  have HJO := Lib.hid hJo
  have HJXO := Lib.hid hJxo
  have HJB : Hid (∀ W W', J W → Below W.heap.size W W' → J W') := Lib.hid (fun W W' h hb => hJo () W W' none h (grown_below hb) (fun r e => by cases e))
  have HY := Lib.hid hY
  have HEND : Hid (∀ (e : Int) (W' : World) (tmps : Array Value), plE S cs T = e → e ≠ 0 → Jx e W' → LeavesInM Fence.wide 2 Try.prog Try.f104 tmps (fun e W' => (∃ v, e = .returned v) ∧ ((plE S cs T = 0 ∧ J W') ∨ (plE S cs T ≠ 0 ∧ Jx (plE S cs T) W'))) [] .returning W') := Lib.hid (fun e W' tmps h h0 hx => end104 _ fun v => ⟨⟨_, rfl⟩, .inr ⟨by rw [h]; exact h0, by rw [h]; exact hx⟩⟩)
  have ea := hH.ha
  have eb := hH.hb
  have ee := hH.he
  have ep := hH.hx
  have eq := hH.hy
  have HN8 : Hid (m ≤ 8 ∧ n ≤ 48) := Lib.hid (by
    have h := stE_0 hH.ok
    have h1 := siteHead_iff.1 h.2.1
    have h2 := hH.hm
    have h3 := hH.hn
    omega)
  have HB0 := (Below.refl W.heap.size W).alloc (Nat.le_refl _) (.cells #[.func (.yield l) #[] #[]] 161)
  have X4 := Lib.hid (Blk.new' W #[.func (.yield l) #[] #[]] 161)
  have HJ1 := Lib.hid (HJB.out _ _ hj HB0)
  have HD1 : Hid (D0 ≤ W.heap.size) := Lib.hid hD
  clear hJ hJo hJxo hY hj HB0 hH hD
  gi_upto_region 1 with fail
  generalize W.alloc (.cells #[.func (.yield l) #[] #[]] 161) = W1 at X4 HJ1 ⊢
  generalize W.heap.size = b4 at *
  have M0 := HJ.out _ HJ1.out
  have s0 := M0.ks.cell 0 rfl
  have sl := M0.ks.lt
  have X4b := Lib.hid (X4.out.alloc (.cells #[.int .i64 n] 3))
  have X5 := Lib.hid (Blk.new' W1 #[.int .i64 n] 3)
  have HJ2 := Lib.hid (HJB.out _ _ HJ1.out ((Below.refl W1.heap.size W1).alloc (Nat.le_refl _) (.cells #[.int .i64 n] 3)))
  have HB5 : Hid (b4 < W1.heap.size) := Lib.hid X4.out.lt
  clear M0
  gi_upto_region 2 with fail
  generalize W1.alloc (.cells #[.int .i64 n] 3) = W2 at X4b X5 HJ2 ⊢
  generalize W1.heap.size = b5 at *
  clear s0 sl X4 HJ1
  have M1 := HJ.out _ HJ2.out
  have t0 := M1.kt.cell 0 rfl
  have t1 := M1.kt.cell 1 rfl
  have k0 := M1.kc.cell 0 rfl
  have n0 := X5.out.cell 0 rfl
  have y0 := X4b.out.cell 0 rfl
  have CC1 := ContainsFunc_c P T.inn p cP n b5 W2 HH.out.hp ep M1.ht.1 n0
  have CC2 := ContainsFunc_c Q T.out q cQ n b5 W2 HH.out.hq eq M1.ht.2 n0
  obtain ⟨fn, tm, asg, bo, hy, hR⟩ := HY.out 20 W2 HJ2.out
  clear M1
  have HA1 : Hid (lenG cs.length S.lim.length T.inn = (decide (p = m) && allB p (fun i => decide ((T.inn.getD i []).length = n)))) := Lib.hid (by rw [lenG, ← HH.out.hp, ← HH.out.hm, ← HH.out.hn])
  have HA2 : Hid (lenG cs.length S.lim.length T.out = (decide (q = m) && allB q (fun i => decide ((T.out.getD i []).length = n)))) := Lib.hid (by rw [lenG, ← HH.out.hq, ← HH.out.hm, ← HH.out.hn])
  generalize allB p (fun i => decide ((T.inn.getD i []).length = n)) = v1 at *
  generalize allB q (fun i => decide ((T.out.getD i []).length = n)) = v2 at *
  gi_wp2
  clear t0 t1
  refine wpIn_loop_rounds 3 ?_
  rw [roundsIn_succ]
  have HALL : Hid (v1 = true → v2 = true → p = m → q = m → (lenG cs.length S.lim.length T.inn && lenG cs.length S.lim.length T.out) = true) := Lib.hid (fun a b c d => by rw [HA1.out, HA2.out, a, b, decide_eq_true c, decide_eq_true d]; rfl)
  have HNO1 : Hid ((p = m → v1 = false) → plE S cs T = 20) := Lib.hid (fun h => plE_len HH.out.ok (by
    rw [HA1.out]
    by_cases e : p = m
    · rw [h e]; simp
    · rw [decide_eq_false e]; simp))
  have HNO2 : Hid ((q = m → v2 = false) → plE S cs T = 20) := Lib.hid (fun h => plE_len HH.out.ok (by
    rw [HA2.out]
    by_cases e : q = m
    · rw [h e]; simp
    · rw [decide_eq_false e]; simp))
  have FIN : Hid (∀ (e : Int) (tm0 : Array Value) (W' : World), plE S cs T = e → e ≠ 0 → Jx e W' → LeavesInM Fence.wide 2 Try.prog Try.f104 tm0 (fun e W' => (∃ v, e = .returned v) ∧ ((plE S cs T = 0 ∧ J W') ∨ (plE S cs T ≠ 0 ∧ Jx (plE S cs T) W'))) [] .returning W') := Lib.hid (fun e tm0 W' h1 h2 h3 => HEND.out e W' tm0 h1 h2 h3)
  by_cases hpm : p = m
  · have hpb : ((p : Int) != (m : Int)) = false := by simp [hpm]
    have hpi : (p : Int) = (m : Int) := by omega
    cases v1
    · have HPE := Lib.hid (HNO1.out (fun _ => rfl))
      rw [show (!false) = true from rfl] at CC1
      clear hpm
      gi_wp2
      refine ⟨trivial, callsIn_wide.2 (CC1.mono ?_)⟩
      rintro e W3 ⟨rfl, rfl⟩
      gi_wp2
      refine hR.mono ?_
      rintro e W4 ⟨_, rfl, hx⟩
      have HX := Lib.hid hx
      clear hx
      gi_wp2
      exact FIN.out 20 _ _ HPE.out (by omega) HX.out
    · rw [show (!true) = false from rfl] at CC1
      have HV1 := Lib.hid hpm
      clear hpm
      gi_wp2
      refine ⟨trivial, callsIn_wide.2 (CC1.mono ?_)⟩
      rintro e W3 ⟨rfl, rfl⟩
      clear hpb hpi CC1
      gi_wp2
      rw [roundsIn_succ]
      by_cases hqm : q = m
      · have hqb : ((q : Int) != (m : Int)) = false := by simp [hqm]
        have hqi : (q : Int) = (m : Int) := by omega
        have HV2 := Lib.hid hqm
        clear hqm
        cases v2
        · have HPE := Lib.hid (HNO2.out (fun _ => rfl))
          rw [show (!false) = true from rfl] at CC2
          gi_wp2
          refine ⟨trivial, callsIn_wide.2 (CC2.mono ?_)⟩
          rintro e W3 ⟨rfl, rfl⟩
          gi_wp2
          refine hR.mono ?_
          rintro e W4 ⟨_, rfl, hx⟩
          have HX := Lib.hid hx
          clear hx
          gi_wp2
          exact FIN.out 20 _ _ HPE.out (by omega) HX.out
        · rw [show (!true) = false from rfl] at CC2
          gi_wp2
          refine ⟨trivial, callsIn_wide.2 (CC2.mono ?_)⟩
          rintro e W3 ⟨rfl, rfl⟩
          clear hqb hqi CC2
          have HL := Lib.hid (HALL.out (by simp) (by simp) HV1.out HV2.out)
          clear HALL HNO1 HNO2 HA1 HA2 hy hR
          gi_wp2
          rw [roundsIn_succ]
          gi_wp2
          have HS8 : Hid (∀ V V' : World, (J V ∧ Blk V b4 161 [.func (.yield l) #[] #[]] ∧ Blk V b5 3 [.int .i64 n] ∧ D0 ≤ V.heap.size) → Below V.heap.size V V' → (J V' ∧ Blk V' b4 161 [.func (.yield l) #[] #[]] ∧ Blk V' b5 3 [.int .i64 n] ∧ D0 ≤ V'.heap.size)) := Lib.hid (fun V V' h hb => ⟨HJB.out _ _ h.1 hb, h.2.1.below hb h.2.1.lt, h.2.2.1.below hb h.2.2.1.lt, Nat.le_trans h.2.2.2 hb.size⟩)
          have H0 : Hid (J W2 ∧ Blk W2 b4 161 [.func (.yield l) #[] #[]] ∧ Blk W2 b5 3 [.int .i64 n] ∧ D0 ≤ W2.heap.size) := Lib.hid ⟨HJ2.out, X4b.out, X5.out, by have := X4b.out.lt; have := HD1.out; omega⟩
          clear HJ2 X4b X5 k0 n0 y0
          gi_loopw [8, 9, 10, 11, 12, 13, 14, 15, 46] (fun _ _ _ _ _ _ _ _ iv wr => ∃ k : Nat, k ≤ n ∧ iv = .int .i64 k ∧ Hid ((J wr ∧ Blk wr b4 161 [.func (.yield l) #[] #[]] ∧ Blk wr b5 3 [.int .i64 n] ∧ D0 ≤ wr.heap.size) ∧ ∀ j, j < k → slotE S cs T j = 0)) (fun _ _ _ _ _ _ _ _ iv _ => n - (intOf iv).toNat)
          case atStart => exact ⟨0, Nat.zero_le _, rfl, Lib.hid ⟨H0.out, fun j hj => by omega⟩⟩
          case round =>
            obtain ⟨k, hk, rfl, HW⟩ := hrel
            by_cases hlt : k < n
            · have hki : (k : Int) < (n : Int) := by omega
              have M := HJ.out _ HW.out.1.1
              have k0 := M.kc.cell 0 rfl
              have kl := M.kc.lt
              clear M
              gi_wp2
              clear k0 kl
              gi_loopw [9, 10, 11, 12, 13, 14, 51] (fun _ _ _ _ _ _ iv wr => ∃ i : Nat, i ≤ m ∧ iv = .int .i64 i ∧ Hid ((J wr ∧ Blk wr b4 161 [.func (.yield l) #[] #[]] ∧ Blk wr b5 3 [.int .i64 n] ∧ D0 ≤ wr.heap.size) ∧ ∀ x, x < i → carAt cs T k x = true)) (fun _ _ _ _ _ _ iv _ => m - (intOf iv).toNat)
              case atStart => exact ⟨0, Nat.zero_le _, rfl, Lib.hid ⟨HW.out.1, fun j hj => by omega⟩⟩
              case round =>
                obtain ⟨i, hi, rfl, HI⟩ := hrel
                by_cases hlt2 : i < m
                · have hii : (i : Int) < (m : Int) := by omega
                  have M := HJ.out _ HI.out.1.1
                  have il : i < cs.length := by rw [← HH.out.hm]; exact hlt2
                  obtain ⟨ad, rfl, abl, c0, c1, c2, c3, c4, TT, cT, c5, hcT, HTT⟩ := M.hc i il
                  have HTR := Lib.hid HTT
                  have HCOK := Lib.hid ((stE_0 HH.out.ok).2.2.2 i il)
                  clear HTT M
                  have HCA := Lib.hid (show carAt cs T k i = carG (cs.getD i default) ((T.inn.getD i []).getD k 0) ((T.out.getD i []).getD k 0) (awayC (cs.getD i default) k) from rfl)
                  have HNXT : Hid (carAt cs T k i = true → ∀ x, x < i + 1 → carAt cs T k x = true) := Lib.hid (fun h x hx => by
                    by_cases hxi : x < i
                    · exact HI.out.2 x hxi
                    · obtain rfl : x = i := by omega
                      exact h)
                  have HPE : Hid (carAt cs T k i = false → plE S cs T = 3) := Lib.hid (fun h => plE_slot HH.out.ok HL.out (by rw [← HH.out.hn]; exact hlt) HW.out.2 (slotE_car il h) (by omega))
                  rw [HCA.out] at HNXT HPE
                  clear HCA
                  generalize cs.getD i default = c at *
                  obtain ⟨cap, inn, out, start, fin, trips⟩ := c
                  simp only at c0 c1 c2 c3 c4 c5 hcT HTR HNXT HPE HCOK
                  obtain ⟨qn, hqn⟩ : ∃ qn, qn = trips.length := ⟨_, rfl⟩
                  rw [← hqn] at c5 hcT
                  have HQN := Lib.hid hqn
                  have HAW := Lib.hid (show awayC ⟨cap, inn, out, start, fin, trips⟩ k = awayP trips k qn from by rw [hqn]; rfl)
                  clear hqn
                  gi_upto_region 14 with fail
                  have HY0 := Lib.hid (HS8.out _ _ HI.out.1 ((Below.refl wr.heap.size wr).alloc (Nat.le_refl _) (.cells #[.int .i64 cap, .int .i64 inn, .int .i64 out, .int .i64 start, .int .i64 fin, .slice TT qn cT] 63)))
                  have XC := Lib.hid (Blk.new' wr #[.int .i64 cap, .int .i64 inn, .int .i64 out, .int .i64 start, .int .i64 fin, .slice TT qn cT] 63)
                  have HTR2 := Lib.hid (HTR.out.below ((Below.refl wr.heap.size wr).alloc (Nat.le_refl _) (.cells #[.int .i64 cap, .int .i64 inn, .int .i64 out, .int .i64 start, .int .i64 fin, .slice TT qn cT] 63)) (Nat.le_refl _))
                  generalize wr.alloc (.cells #[.int .i64 cap, .int .i64 inn, .int .i64 out, .int .i64 start, .int .i64 fin, .slice TT qn cT] 63) = wx at HY0 XC HTR2 ⊢
                  generalize wr.heap.size = gc at *
                  clear c0 c1 c2 c3 c4 c5 abl HTR
                  have M := HJ.out _ HY0.out.1
                  have t0 := M.kt.cell 0 rfl
                  have t1 := M.kt.cell 1 rfl
                  have tl := M.kt.lt
                  obtain ⟨pa, rfl, pal, PT, cPT, p0, pb, pi⟩ := M.ht.1 i (by rw [← HH.out.hp, HV1.out]; exact hlt2)
                  obtain ⟨qa, rfl, qal, QT, cQT, q0, qb, qi⟩ := M.ht.2 i (by rw [← HH.out.hq, HV2.out]; exact hlt2)
                  have LL := HL.out
                  rw [Bool.and_eq_true] at LL
                  have L1 := (lenG_iff.1 LL.1).2 i il
                  have L2 := (lenG_iff.1 LL.2).2 i il
                  obtain ⟨pd, rfl, pdl, px⟩ := pi k (by rw [L1, ← HH.out.hn]; exact hlt)
                  obtain ⟨qd, rfl, qdl, qx⟩ := qi k (by rw [L2, ← HH.out.hn]; exact hlt)
                  rw [L1, ← HH.out.hn] at p0 pb
                  rw [L2, ← HH.out.hn] at q0 qb
                  clear pi qi LL L1 L2 M
                  have hip : (i : Int) < (p : Int) := by have := HV1.out; omega
                  have hiq : (i : Int) < (q : Int) := by have := HV2.out; omega
                  have pab : (pa.add i).block < wx.heap.size := by rw [block_add]; exact pal
                  have qab : (qa.add i).block < wx.heap.size := by rw [block_add]; exact qal
                  have pdb : (pd.add k).block < wx.heap.size := by rw [block_add]; exact pdl
                  have qdb : (qd.add k).block < wx.heap.size := by rw [block_add]; exact qdl
                  generalize (T.inn.getD i []).getD k 0 = x at *
                  generalize (T.out.getD i []).getD k 0 = y at *
                  refine wpIn_wide.2 ?_
                  refine wp_region_past (by kernel_rfl) (by kernel_rfl) ?_
                  repeat (go_big_quiet_step (fail))
                  refine wpQuiet_nil ?_
                  intro xx
                  have HY1 := Lib.hid (HS8.out _ _ HY0.out xx.far)
                  have XC1 := Lib.hid (XC.out.below xx.far XC.out.lt)
                  have HTR3 := Lib.hid (HTR2.out.below xx.far (Nat.le_refl _))
                  generalize xx.w = w3 at HY1 XC1 HTR3 ⊢
                  clear t0 t1 tl p0 q0 px qx pal qal pdl qdl pab qab pdb qdb HY0 XC HTR2
                  have e0 := XC1.out.cell 0 rfl
                  have e1 := XC1.out.cell 1 rfl
                  have e2 := XC1.out.cell 2 rfl
                  have e3 := XC1.out.cell 3 rfl
                  have e4 := XC1.out.cell 4 rfl
                  have e5 := XC1.out.cell 5 rfl
                  have TC := trip_c (.int .i64 cap) (.int .i64 inn) (.int .i64 out) (.int .i64 start) (.int .i64 fin) k TT trips qn cT w3 HQN.out hcT HTR3.out
                  gi_wp2
                  refine ⟨trivial, callsIn_wide.2 (TC.mono ?_)⟩
                  rintro e w5 ⟨rfl, hb5⟩
                  have HY2 := Lib.hid (HS8.out _ _ HY1.out hb5)
                  have XC2 := Lib.hid (XC1.out.below hb5 XC1.out.lt)
                  clear e0 e1 e2 e3 e4 e5 hb5 HY1 XC1 HTR3 TC
                  generalize awayP trips k qn = aw at *
                  generalize useP trips k qn = us at *
                  gi_upto_region 16 with fail
                  have e1 := XC2.out.cell 1 rfl
                  have e2 := XC2.out.cell 2 rfl
                  have y0 := HY2.out.2.1.cell 0 rfl
                  rw [HAW.out] at HNXT HPE
                  obtain ⟨fn, tm, asg, bo, hy, hR⟩ := HY.out 3 w5 HY2.out.1
                  by_cases a1 : x < 0
                  · have HPX := Lib.hid (HPE.out (by rw [← Bool.not_eq_true, carG_iff]; simp only; omega))
                    gi_wp2
                    refine hR.mono ?_
                    rintro e W4 ⟨_, rfl, hx⟩
                    have HX := Lib.hid hx
                    clear hx
                    gi_wp2
                    exact FIN.out 3 _ _ HPX.out (by omega) HX.out
                  by_cases a2 : inn < x
                  · have HPX := Lib.hid (HPE.out (by rw [← Bool.not_eq_true, carG_iff]; simp only; omega))
                    gi_wp2
                    refine hR.mono ?_
                    rintro e W4 ⟨_, rfl, hx⟩
                    have HX := Lib.hid hx
                    clear hx
                    gi_wp2
                    exact FIN.out 3 _ _ HPX.out (by omega) HX.out
                  by_cases a3 : y < 0
                  · have HPX := Lib.hid (HPE.out (by rw [← Bool.not_eq_true, carG_iff]; simp only; omega))
                    gi_wp2
                    refine hR.mono ?_
                    rintro e W4 ⟨_, rfl, hx⟩
                    have HX := Lib.hid hx
                    clear hx
                    gi_wp2
                    exact FIN.out 3 _ _ HPX.out (by omega) HX.out
                  by_cases a4 : out < y
                  · have HPX := Lib.hid (HPE.out (by rw [← Bool.not_eq_true, carG_iff]; simp only; omega))
                    gi_wp2
                    refine hR.mono ?_
                    rintro e W4 ⟨_, rfl, hx⟩
                    have HX := Lib.hid hx
                    clear hx
                    gi_wp2
                    exact FIN.out 3 _ _ HPX.out (by omega) HX.out
                  have CB := (carOk_iff.1 HCOK.out).1
                  simp only at CB
                  have wxy : IntKind.i64.wrap (x + y) = x + y := IntWalk.i64_in _ (by omega)
                  clear CB
                  cases aw
                  · have HGG := Lib.hid (HNXT.out (by rw [carG_iff]; simp only; refine ⟨by omega, by omega, fun h => by cases h⟩))
                    clear hy hR
                    gi_wp2
                    exact ⟨⟨i + 1, by omega, by go_num, Lib.hid ⟨HY2.out, HGG.out⟩⟩, by simp [intOf]; omega⟩
                  · by_cases a5 : x + y = 0
                    · have HGG := Lib.hid (HNXT.out (by rw [carG_iff]; simp only; exact ⟨by omega, by omega, fun _ => a5⟩))
                      clear hy hR
                      gi_wp2
                      exact ⟨⟨i + 1, by omega, by go_num, Lib.hid ⟨HY2.out, HGG.out⟩⟩, by simp [intOf]; omega⟩
                    · have a5b : ((x + y) != 0) = true := by simpa using a5
                      have HPX := Lib.hid (HPE.out (by rw [← Bool.not_eq_true, carG_iff]; simp only; exact fun h => a5 (h.2.2 trivial)))
                      gi_wp2
                      refine hR.mono ?_
                      rintro e W4 ⟨_, rfl, hx⟩
                      have HX := Lib.hid hx
                      clear hx
                      gi_wp2
                      exact FIN.out 3 _ _ HPX.out (by omega) HX.out
                · obtain rfl : m = i := by omega
                  have M := HJ.out _ HI.out.1.1
                  have t0 := M.kt.cell 0 rfl
                  have t1 := M.kt.cell 1 rfl
                  have DC := drawn_c P Q T p q cP cQ k wr HH.out.hp HH.out.hq (by rw [HV1.out, HV2.out]; exact Nat.le_refl _) (by rw [HV1.out]; exact HN8.out.1) ep eq M.ht (by rw [HV1.out, HH.out.hm]; exact slot_bd HH.out.ok HL.out (by rw [← HH.out.hn]; exact hlt) (fun x hx => HI.out.2 x (by rw [HH.out.hm]; exact hx)))
                  clear M
                  gi_wp2
                  refine ⟨trivial, callsIn_wide.2 (DC.mono ?_)⟩
                  rintro e w6 ⟨rfl, hb6⟩
                  have HI2 := Lib.hid (HS8.out _ _ HI.out.1 hb6)
                  clear t0 t1 hb6 DC
                  have kS : k < S.lim.length := by rw [← HH.out.hn]; exact hlt
                  have HGD : Hid (drP T k p ≤ S.lim.getD k 0 ∧ -(S.exp.getD k 0) ≤ drP T k p → slotE S cs T k = 0) := Lib.hid (fun h => slotE_ok (fun x hx => HI.out.2 x (by rw [HH.out.hm]; exact hx)) (by rw [← HH.out.hp]; exact h))
                  have HBG : Hid (¬ (drP T k p ≤ S.lim.getD k 0 ∧ -(S.exp.getD k 0) ≤ drP T k p) → plE S cs T = 17) := Lib.hid (fun h => plE_slot HH.out.ok HL.out kS HW.out.2 (slotE_lim (fun x hx => HI.out.2 x (by rw [HH.out.hm]; exact hx)) (by rw [← HH.out.hp]; exact h)) (by omega))
                  have SB := slotOk_iff.1 ((stE_0 HH.out.ok).2.2.1 k kS)
                  have SH := siteHead_iff.1 (stE_0 HH.out.ok).2.1
                  have M := HJ.out _ HI2.out.1
                  have s0 := M.ks.cell 0 rfl
                  have s1 := M.ks.cell 1 rfl
                  obtain ⟨la, hla, lal, lx⟩ := M.hs.1 k kS
                  obtain ⟨ea2, hea2, eal, ex⟩ := M.hs.2.1 k (by rw [SH.2.1]; exact kS)
                  rw [hla] at s0
                  rw [hea2] at s1
                  clear M SH hla hea2
                  generalize drP T k p = d at *
                  generalize S.lim.getD k 0 = lm at *
                  generalize S.exp.getD k 0 = ep2 at *
                  have wne : IntKind.i64.wrap (-ep2) = -ep2 := IntWalk.i64_in _ (by omega)
                  clear SB
                  gi_upto_region 20 with fail
                  have y0 := HI2.out.2.1.cell 0 rfl
                  obtain ⟨fn, tm, asg, bo, hy, hR⟩ := HY.out 17 w6 HI2.out.1
                  by_cases b1 : lm < d
                  · have HPX := Lib.hid (HBG.out (fun h => by omega))
                    gi_wp2
                    refine hR.mono ?_
                    rintro e W4 ⟨_, rfl, hx⟩
                    have HX := Lib.hid hx
                    clear hx
                    gi_wp2
                    exact FIN.out 17 _ _ HPX.out (by omega) HX.out
                  by_cases b2 : d < -ep2
                  · have HPX := Lib.hid (HBG.out (fun h => by omega))
                    gi_wp2
                    refine hR.mono ?_
                    rintro e W4 ⟨_, rfl, hx⟩
                    have HX := Lib.hid hx
                    clear hx
                    gi_wp2
                    exact FIN.out 17 _ _ HPX.out (by omega) HX.out
                  have HGG := Lib.hid (HGD.out ⟨by omega, by omega⟩)
                  clear hy hR
                  gi_wp2
                  go_roundw
                  case measure => simp [intOf]; omega
                  case rel =>
                    refine ⟨k + 1, by omega, by go_num, Lib.hid ⟨HI2.out, fun j hj => ?_⟩⟩
                    by_cases hjk : j < k
                    · exact HW.out.2 j hjk
                    · obtain rfl : j = k := by omega
                      exact HGG.out
            · obtain rfl : n = k := by omega
              have M := HJ.out _ HW.out.1.1
              have k0 := M.kc.cell 0 rfl
              have kl := M.kc.lt
              clear M
              gi_wp2
              clear k0 kl
              refine wpIn_codeP (c' := loop104) (by kernel_rfl) ?_
              exact faults4_c bs bt bc b4 b5 S cs T A B C D E P Q n m p q cA cB cC cD cE cP cQ l D0 HH.out HV1.out HV2.out HL.out HW.out.2 J Jx HJ.out HJO.out HJXO.out HY.out wr HW.out.1
      · have hqi : ¬ (q : Int) = (m : Int) := by omega
        have hqb : ((q : Int) != (m : Int)) = true := by simpa using hqi
        have HPE := Lib.hid (HNO2.out (fun h => absurd h hqm))
        clear CC2 hqm
        gi_wp2
        refine ⟨trivial, ?_⟩
        gi_wp2
        refine hR.mono ?_
        rintro e W4 ⟨_, rfl, hx⟩
        have HX := Lib.hid hx
        clear hx
        gi_wp2
        exact FIN.out 20 _ _ HPE.out (by omega) HX.out
  · have hpi : ¬ (p : Int) = (m : Int) := by omega
    have hpb : ((p : Int) != (m : Int)) = true := by simpa using hpi
    have HPE := Lib.hid (HNO1.out (fun h => absurd h hpm))
    clear CC1 CC2 hpm
    gi_wp2
    refine ⟨trivial, ?_⟩
    gi_wp2
    refine hR.mono ?_
    rintro e W4 ⟨_, rfl, hx⟩
    have HX := Lib.hid hx
    clear hx
    gi_wp2
    exact FIN.out 20 _ _ HPE.out (by omega) HX.out
end Go.Proofs.Ytmebpglkeedaoaa
namespace Go.Proofs.Ytmebpglkeedaoaa
open Go.RowKit Go.Shelf Dp
attribute [local go_sem] Oper.semAt_some
theorem plE_site {S : Site} {cs : List Car} {T : Tab} (h : stE S cs ≠ 0) : plE S cs T = stE S cs := by unfold plE; rw [if_neg h]
set_option maxHeartbeats 8000000 in
set_option maxRecDepth 100000 in
theorem CheckPlan_c (A B C D E P Q : Option Addr) (S : Site) (cs : List Car) (T : Tab) (n nB nC nD m p q cA cB cC cD cE cP cQ : Nat) (w : World) (hn : n = S.lim.length) (hnB : nB = S.exp.length) (hnC : nC = S.buy.length) (hnD : nD = S.sell.length) (hm : m = cs.length) (hp : p = T.inn.length) (hq : q = T.out.length)
    (hA : n ≤ cA ∧ cA ≤ 9223372036854775807) (hB : nB ≤ cB ∧ cB ≤ 9223372036854775807) (hC : nC ≤ cC ∧ cC ≤ 9223372036854775807) (hD : nD ≤ cD ∧ cD ≤ 9223372036854775807) (hE : m ≤ cE ∧ cE ≤ 9223372036854775807) (hP : p ≤ cP ∧ cP ≤ 9223372036854775807) (hQ : q ≤ cQ ∧ cQ ≤ 9223372036854775807)
    (hS : SiteAt w A B C D S) (hcs : CarsAt w E cs) (hT : TabAt w P Q T) :
    Calls Try.prog 32 #[.agg #[.slice A n cA, .slice B nB cB, .slice C nC cC, .slice D nD cD], .slice E m cE, .agg #[.slice P p cP, .slice Q q cQ]] w fun e w' => e = .returned (.int .i64 (plE S cs T)) ∧ Below w.heap.size w w' := by
  have HN := Lib.hid hn
  have HNB := Lib.hid hnB
  have HNC := Lib.hid hnC
  have HND := Lib.hid hnD
  have HM := Lib.hid hm
  have HP := Lib.hid hp
  have HQ := Lib.hid hq
  have HS := Lib.hid hS
  have HCS := Lib.hid hcs
  have HT := Lib.hid hT
  clear hn hnB hnC hnD hm hp hq hS hcs hT
  refine (callsIn_wide (n := 3)).1 (callsIn_of_wp_marks Try.func32 rfl trivial (wpIn_wide.2 ?_) rfl)
  simp only [Try.ntmps32, List.size_toArray, List.length_cons, List.length_nil, Nat.reduceAdd, Nat.reduceSub, Array.replicate_succ, Array.replicate_zero, List.push_toArray, List.append_toArray, List.nil_append, List.cons_append]
  have HB := Lib.hid ((((Below.refl w.heap.size w).alloc (Nat.le_refl _) (.cells #[.slice A n cA, .slice B nB cB, .slice C nC cC, .slice D nD cD] 51)).alloc (by simp) (.cells #[.slice P p cP, .slice Q q cQ] 55)).alloc (by simp; omega) (.cells #[.int .i64 0] 29))
  have XS := Lib.hid (((Blk.new' w #[.slice A n cA, .slice B nB cB, .slice C nC cC, .slice D nD cD] 51).alloc (.cells #[.slice P p cP, .slice Q q cQ] 55)).alloc (.cells #[.int .i64 0] 29))
  have XT := Lib.hid (show Blk (((w.alloc (.cells #[.slice A n cA, .slice B nB cB, .slice C nC cC, .slice D nD cD] 51)).alloc (.cells #[.slice P p cP, .slice Q q cQ] 55)).alloc (.cells #[.int .i64 0] 29)) (w.heap.size + 1) 55 [.slice P p cP, .slice Q q cQ] from by
    simpa using (Blk.new' (w.alloc (.cells #[.slice A n cA, .slice B nB cB, .slice C nC cC, .slice D nD cD] 51)) #[.slice P p cP, .slice Q q cQ] 55).alloc (.cells #[.int .i64 0] 29))
  have XR := Lib.hid (show Blk (((w.alloc (.cells #[.slice A n cA, .slice B nB cB, .slice C nC cC, .slice D nD cD] 51)).alloc (.cells #[.slice P p cP, .slice Q q cQ] 55)).alloc (.cells #[.int .i64 0] 29)) (w.heap.size + 2) 29 [.int .i64 0] from by
    simpa [Nat.add_assoc] using Blk.new' ((w.alloc (.cells #[.slice A n cA, .slice B nB cB, .slice C nC cC, .slice D nD cD] 51)).alloc (.cells #[.slice P p cP, .slice Q q cQ] 55)) #[.int .i64 0] 29)
  go_upto_region 1 with fail
  simp only [World.size_alloc, Nat.add_assoc, Nat.reduceAdd]
  generalize ((w.alloc (.cells #[.slice A n cA, .slice B nB cB, .slice C nC cC, .slice D nD cD] 51)).alloc (.cells #[.slice P p cP, .slice Q q cQ] 55)).alloc (.cells #[.int .i64 0] 29) = w1 at HB XS XT XR ⊢
  have s0 := XS.out.cell 0 rfl
  have s1 := XS.out.cell 1 rfl
  have s2 := XS.out.cell 2 rfl
  have s3 := XS.out.cell 3 rfl
  have CS := CheckSite_c A B C D E S cs n nB nC nD m cA cB cC cD cE w1 HN.out HNB.out HNC.out HND.out HM.out hA hB hC hD hE (HS.out.below HB.out (Nat.le_refl _)) (HCS.out.below HB.out (Nat.le_refl _))
  have HPS := Lib.hid (plE_site (S := S) (cs := cs) (T := T))
  obtain ⟨v, hv⟩ : ∃ v, v = stE S cs := ⟨_, rfl⟩
  rw [← hv] at CS HPS
  have HV := Lib.hid hv
  clear hv
  go_upto_region 2 with (go_at_call 36; refine CS.mono ?_; rintro e w2 ⟨rfl, hb2⟩)
  have HB2 := Lib.hid (HB.out.trans (hb2.mono HB.out.size))
  have XS2 := Lib.hid (XS.out.below hb2 XS.out.lt)
  have XT2 := Lib.hid (XT.out.below hb2 XT.out.lt)
  have XR2 := Lib.hid (XR.out.below hb2 XR.out.lt)
  clear hb2 s0 s1 s2 s3 CS HB XS XT XR
  by_cases h0 : v = 0
  rotate_left
  · have hb0 : (v == 0) = false := by simpa using h0
    have HPV := Lib.hid (HPS.out h0)
    have r0 := XR2.out.cell 0 rfl
    have rf := XR2.out.free 0
    have XE := Lib.hid (XR2.out.setCell 0 (.int .i64 v))
    have BE := Lib.hid (HB2.out.setCell (p := ⟨w.heap.size + 2, 0, none⟩) (by simp) (.int .i64 v))
    go_wp2_with fail
    have c0 := XE.out.cell 0 rfl
    exact ⟨.int .i64 v, by simp [results, Try.results32, go_sem, c0], ret_int HPV.out.symm, BE.out⟩
  · subst h0
    clear HPS
    have s0 := XS2.out.cell 0 rfl
    have s1 := XS2.out.cell 1 rfl
    have s2 := XS2.out.cell 2 rfl
    have s3 := XS2.out.cell 3 rfl
    have t0 := XT2.out.cell 0 rfl
    have t1 := XT2.out.cell 1 rfl
    go_wp2_with fail
    refine (faults_c _ _ _ _ ⟨_, _, _, _, rfl⟩ ⟨_, _, _, rfl⟩ ⟨_, _, rfl⟩).mono ?_
    rintro e w4 ⟨rfl, hw4⟩
    have HB4 : Below w2.heap.size w2 w4 := by
      rw [hw4]
      exact (((Below.refl _ _).alloc (Nat.le_refl _) _).alloc (by simp) _).alloc (by simp; omega) _
    have KS : Blk w4 w2.heap.size 51 [.slice A n cA, .slice B nB cB, .slice C nC cC, .slice D nD cD] := by
      rw [hw4]; exact ((Blk.new' w2 #[.slice A n cA, .slice B nB cB, .slice C nC cC, .slice D nD cD] 51).alloc _).alloc _
    have KC : Blk w4 (w2.heap.size + 1) 52 [.slice E m cE] := by
      have := (Blk.new' (w2.alloc (.cells #[.slice A n cA, .slice B nB cB, .slice C nC cC, .slice D nD cD] 51)) #[.slice E m cE] 52).alloc (.cells #[.slice P p cP, .slice Q q cQ] 55)
      rw [hw4]; simpa using this
    have KT : Blk w4 (w2.heap.size + 2) 55 [.slice P p cP, .slice Q q cQ] := by
      have := Blk.new' ((w2.alloc (.cells #[.slice A n cA, .slice B nB cB, .slice C nC cC, .slice D nD cD] 51)).alloc (.cells #[.slice E m cE] 52)) #[.slice P p cP, .slice Q q cQ] 55
      rw [hw4]; simpa [Nat.add_assoc] using this
    have SH := siteHead_iff.1 (stE_0 HV.out.symm).2.1
    have eB : nB = n := by have h1 := HNB.out; have h2 := HN.out; omega
    have eC : nC = n := by have h1 := HNC.out; have h2 := HN.out; omega
    have eD : nD = n := by have h1 := HND.out; have h2 := HN.out; omega
    have HB5 := Lib.hid (HB2.out.trans (HB4.mono HB2.out.size))
    have XR5 := Lib.hid (XR2.out.below HB4 XR2.out.lt)
    have HFM : Hid (FtM w2.heap.size (w2.heap.size + 2) (w2.heap.size + 1) S cs T A B C D E P Q n m p q cA cB cC cD cE cP cQ w4) := Lib.hid ⟨by rw [eB, eC, eD] at KS; exact KS, KT, KC, HS.out.below HB5.out (Nat.le_refl _), HT.out.below HB5.out (Nat.le_refl _), HCS.out.below HB5.out (Nat.le_refl _)⟩
    have HFH : Hid (FtH S cs T n m p q cA cB cC cD cE cP cQ) := Lib.hid ⟨HN.out, HM.out, HP.out, HQ.out, HV.out.symm, hA, by rw [← eB]; exact hB, by rw [← eC]; exact hC, by rw [← eD]; exact hD, hE, hP, hQ⟩
    have hz4 : w.heap.size ≤ w4.heap.size := HB5.out.size
    have hr4 : w.heap.size + 2 < w4.heap.size := XR5.out.lt
    clear hw4 HB4 KS KC KT SH eB eC eD s0 s1 s2 s3 t0 t1 HB2 XS2 XT2 XR2
    generalize w2.heap.size = g at *
    go_wp2_with fail
    have HOWN : Hid (OwnFrom w4.heap.size (fun (_ : Unit) V => Below w.heap.size w V ∧ Blk V (w.heap.size + 2) 29 [.int .i64 (plE S cs T)])) := Lib.hid (by
      rintro _ V V' row ⟨h1, h2⟩ hg hr
      exact ⟨h1.grown hg h1.size (fun r e => Nat.le_trans hz4 (hr r e).1), blk_kept h2 hg hr⟩)
    refine (wpIn_wide (n := 3)).1 (range_mine3 (F := Fence.wide) (n := 3) rfl (by omega) (gf := 104) (lb := #[.pointer (some ⟨g, 0, none⟩), .pointer (some ⟨g + 2, 0, none⟩), .pointer (some ⟨g + 1, 0, none⟩)]) rfl trivial (fun _ _ => by kernel_rfl)
      (encs := fun y : Int => #[.int .i64 y]) (fun _ => rfl)
      (fun pre V => pre = [] ∧ Below w4.heap.size w4 V) (fun pre V => ∃ x, pre = [x] ∧ Below w.heap.size w V ∧ Blk V (w.heap.size + 2) 29 [.int .i64 x]) .ret
      (fun ys => ys = [] ∧ plE S cs T = 0) (fun pre => pre = [plE S cs T]) (fun pre y => True)
      ?hI ?hIx ⟨rfl, Below.refl _ _⟩ ?hseq ?a1 ?assign ?body ?done ?stop)
    case hI =>
      rintro pre V V' row ⟨h1, h2⟩ hg hr
      exact ⟨h1, h2.grown hg h2.size (fun r e => (hr r e).1)⟩
    case hIx =>
      rintro pre V V' row ⟨x, h1, h2, h3⟩ hg hr
      exact ⟨x, h1, h2.grown hg h2.size (fun r e => Nat.le_trans hz4 (hr r e).1), blk_kept h3 hg hr⟩
    case hseq =>
      intro l2 J2 Jx2 V hJ2 hO2 hOx2 hz2 hY2 hj2
      refine (faults1_c g (g + 2) (g + 1) S cs T A B C D E P Q n m p q cA cB cC cD cE cP cQ l2 V.heap.size HFH.out (fun W => J2 [] W) (fun x W => Jx2 [x] W) (fun W h => HFM.out.below (hJ2 [] W h).2) (fun _ W W' row h => hO2 [] W W' row h) (fun x _ W W' row h => hOx2 [x] W W' row h)
        (fun x W1 h => (hY2 [] x W1 h trivial).mono (fun e W' h2 => ⟨h2.1, ?_⟩)) V (Nat.le_refl _) hj2).mono ?_
      · rcases h2.2 with ⟨rfl, h3⟩ | ⟨rfl, h3⟩
        · have := (hJ2 _ _ h3).1
          cases this
        · exact ⟨rfl, h3⟩
      · rintro e W' ⟨hv, ⟨h3, h4⟩ | ⟨h3, h4⟩⟩
        · exact ⟨hv, .inl ⟨_, ⟨rfl, h3⟩, h4⟩⟩
        · exact ⟨hv, .inr ⟨_, rfl, h4⟩⟩
    case assign =>
      intro l2 y V K hK
      gi_wp2
      exact hK
    case body =>
      rintro l2 pre y V hI _
      have HI := Lib.hid hI
      clear hI
      have XV := Lib.hid (XR5.out.below HI.out.2 hr4)
      have rf := XV.out.free 0
      have r0 := XV.out.cell 0 rfl
      gi_wp2
      refine (⟨rfl, (KeepsOthers.setCell _ _ _).from _, ?_⟩ : _ ∧ _ ∧ _)
      exact ⟨y, by rw [HI.out.1]; rfl, ((HB5.out.trans (HI.out.2.mono hz4)).setCell (p := ⟨w.heap.size + 2, 0, none⟩) (by simp) _), XV.out.setCell 0 (.int .i64 y)⟩
    case done =>
      rintro Dk ys V hD ⟨hys, h0⟩ hI hK
      have HI := Lib.hid hI
      have XV := Lib.hid (XR5.out.below HI.out.2 hr4)
      have rf := XV.out.free 0
      have r0 := XV.out.cell 0 rfl
      have EE : Hid (Below w.heap.size w (V.setCell ⟨w.heap.size + 2, 0, none⟩ (.int .i64 0)) ∧ Blk (V.setCell ⟨w.heap.size + 2, 0, none⟩ (.int .i64 0)) (w.heap.size + 2) 29 [.int .i64 (plE S cs T)]) := Lib.hid ⟨((HB5.out.trans (HI.out.2.mono hz4)).setCell (p := ⟨w.heap.size + 2, 0, none⟩) (by simp) _), by rw [h0]; exact XV.out.setCell 0 (.int .i64 0)⟩
      have HMK : Hid (Marks w4.heap.size [markOf Dk] (V.setCell ⟨w.heap.size + 2, 0, none⟩ (.int .i64 0))) := Lib.hid (Marks.cons (W0 := w4) (Marks.nil _ _) hD hD (Marks.nil _ _) ((Below.heap_setCell _ _ _ _ (by simp; omega)).trans hK))
      clear hI hK
      gi_wp2
      go_wp2_with fail
      refine leaves_marks (u := .returning) (by intro h; cases h) HOWN.out (fun V2 h2 => ?_) HMK.out EE.out
      have c0 := h2.2.cell 0 rfl
      exact ⟨.int .i64 (plE S cs T), by simp [results, Try.results32, go_sem, c0], rfl, h2.1⟩
    case stop =>
      rintro Dk pre V hD hS ⟨x, h1, h2, h3⟩ hK
      rw [hS] at h1
      cases h1
      have HMK : Hid (Marks w4.heap.size [markOf Dk] V) := Lib.hid (Marks.cons (W0 := w4) (Marks.nil _ _) hD hD (Marks.nil _ _) hK)
      have EE := Lib.hid (And.intro h2 h3)
      clear h2 h3 hK
      gi_wp2
      refine leaves_marks (u := .returning) (by intro h; cases h) HOWN.out (fun V2 h2 => ?_) HMK.out EE.out
      have c0 := h2.2.cell 0 rfl
      exact ⟨.int .i64 (plE S cs T), by simp [results, Try.results32, go_sem, c0], rfl, h2.1⟩
end Go.Proofs.Ytmebpglkeedaoaa
namespace Go.Proofs.Ytmebpglkeedaoaa
open Go.RowKit Go.Shelf Dp
attribute [local go_sem] Oper.semAt_some
def lvN (c : Car) (x y : List Int) (k : Nat) : List Int := (List.range k).map (fun j => lev c x y j)
theorem lvN_succ (c : Car) (x y : List Int) (k : Nat) : lvN c x y (k + 1) = lvN c x y k ++ [lev c x y k] := by simp [lvN, List.range_succ]
theorem lvN_len (c : Car) (x y : List Int) (k : Nat) : (lvN c x y k).length = k := by simp [lvN]
def RowsO (D : Nat) (w : World) (i n : Nat) (vs : List Value) (cs : List Car) (T : Tab) : Prop :=
  ∀ x, x < i → ∃ v, vs[x]? = some v ∧ w.ownsRow D 2 1 v (n + 1) ((lvN (cs.getD x default) (T.inn.getD x []) (T.out.getD x []) (n + 1)).map (.int .i64))
theorem ownV_below {w w' : World} {B e z n : Nat} {v : Value} {xs : List Value} (h : w.ownsRow B e z v n xs) (hb : Below w.heap.size w w') : w'.ownsRow B e z v n xs := by
  refine ⟨h.1, ?_⟩
  rcases h.2 with h2 | ⟨k, c, cur, hv, hb', hg, r⟩
  · exact .inl h2
  · exact .inr ⟨k, c, cur, hv, hb', (hb.block k (Array.getElem?_eq_some_iff.1 hg).1).trans hg, r⟩
theorem ownV_other {w w' : World} {B B' e e' z z' n n' : Nat} {v v' : Value} {xs xs' : List Value} (h : w.ownsRow B e z v n xs) (h' : w.ownsRow B' e' z' v' n' xs') (hne : e ≠ e') (hg : w.grownBy w' v'.ownBlock) : w'.ownsRow B e z v n xs := by
  refine ⟨h.1, ?_⟩
  rcases h.2 with h2 | ⟨k, c, cur, hv, hb', hgk, r⟩
  · exact .inl h2
  · refine .inr ⟨k, c, cur, hv, hb', (hg.block k (Array.getElem?_eq_some_iff.1 hgk).1 (fun ek => ?_)).trans hgk, r⟩
    rcases h'.2 with ⟨h2, _⟩ | ⟨k', c', cur', hv', _, hgk', _⟩
    · rw [h2] at ek; cases ek
    · rw [hv'] at ek
      simp only [Value.ownBlock, Option.some.injEq] at ek
      subst ek
      rw [hgk] at hgk'
      cases hgk'
      exact hne rfl
theorem ownV_mono {w : World} {B B' e z n : Nat} {v : Value} {xs : List Value} (h : w.ownsRow B e z v n xs) (hb : B' ≤ B) : w.ownsRow B' e z v n xs := ⟨h.1, h.2.imp id (fun ⟨k, c, cur, hv, hb', r⟩ => ⟨k, c, cur, hv, Nat.le_trans hb hb', r⟩)⟩
end Go.Proofs.Ytmebpglkeedaoaa
namespace Go.Proofs.Ytmebpglkeedaoaa
open Go.RowKit Go.Shelf Dp
attribute [local go_sem] Oper.semAt_some
def LevP (S : Site) (cs : List Car) (T : Tab) (n m : Nat) (w : World) : Ending → World → Prop := fun e w' =>
  Below w.heap.size w w' ∧ ((plE S cs T = 0 ∧ ∃ v vs, e = .returned (.tuple #[v, .int .i64 0]) ∧ w'.ownsRow w.heap.size 22 1 v m vs ∧ RowsO w.heap.size w' m n vs cs T) ∨ (plE S cs T ≠ 0 ∧ e = .returned (.tuple #[.slice none 0 0, .int .i64 (plE S cs T)])))
end Go.Proofs.Ytmebpglkeedaoaa
namespace Go.Proofs.Ytmebpglkeedaoaa
open Go.RowKit Dp
def lvR (cs : List Car) (T : Tab) (n m : Nat) : List (List Int) := (List.range m).map (fun i => lvN (cs.getD i default) (T.inn.getD i []) (T.out.getD i []) (n + 1))
theorem lvR_len (cs : List Car) (T : Tab) (n m : Nat) : (lvR cs T n m).length = m := by simp [lvR]
theorem lvR_get {cs : List Car} {T : Tab} {n m i : Nat} (h : i < m) : (lvR cs T n m).getD i [] = lvN (cs.getD i default) (T.inn.getD i []) (T.out.getD i []) (n + 1) := by
  simp [lvR, List.getD_eq_getElem?_getD, h]
theorem lvN_get {c : Car} {x y : List Int} {n k : Nat} (h : k < n) : (lvN c x y n).getD k 0 = lev c x y k := by
  simp [lvN, List.getD_eq_getElem?_getD, h]
theorem ownV_ints {W : World} {D n : Nat} {v : Value} {xs : List Int} (h : W.ownsRow D 2 1 v n (xs.map (.int .i64))) (hl : xs.length = n) (hn : 0 < n) : ∃ g c, v = .slice (some ⟨g, 0, none⟩) n c ∧ n ≤ c ∧ c ≤ 9223372036854775807 ∧ IntsAt W (some ⟨g, 0, none⟩) xs := by
  rcases h.2 with ⟨_, h2⟩ | ⟨g, c, cur, hv, hb, hg, hnc, hcm, _⟩
  · omega
  · subst hv
    refine ⟨g, c, rfl, hnc, by unfold maxLen at hcm; omega, fun i hi => ⟨_, rfl, (Array.getElem?_eq_some_iff.1 hg).1, ?_⟩⟩
    have e : (⟨g, 0, none⟩ : Addr).add i = ⟨g, i, none⟩ := by unfold Addr.add; split <;> simp_all
    rw [e, World.ownsRow.cellAt h i (by omega), List.getElem?_map, List.getElem?_eq_getElem hi, List.getD_eq_getElem?_getD, List.getElem?_eq_getElem hi]
    rfl
theorem rows_at {W : World} {D n m : Nat} {cs : List Car} {T : Tab} {v : Value} {vs : List Value} (h : W.ownsRow D 22 1 v m vs) (hr : RowsO D W m n vs cs T) :
    ∃ A c, v = .slice A m c ∧ m ≤ c ∧ c ≤ 9223372036854775807 ∧ RowsAt W A (lvR cs T n m) := by
  rcases h.2 with ⟨h1, h2⟩ | ⟨g, c, cur, hv, hb, hg, hnc, hcm, _⟩
  · subst h2
    exact ⟨none, 0, h1, Nat.le_refl _, by omega, fun i hi => by rw [lvR_len] at hi; omega⟩
  · subst hv
    refine ⟨_, c, rfl, hnc, by unfold maxLen at hcm; omega, fun i hi => ?_⟩
    rw [lvR_len] at hi
    obtain ⟨u, h1, h2⟩ := hr i hi
    obtain ⟨g', c', rfl, h3, h4, h5⟩ := ownV_ints h2 (lvN_len _ _ _ _) (by omega)
    rw [lvR_get hi]
    have e : (⟨g, 0, none⟩ : Addr).add i = ⟨g, i, none⟩ := by unfold Addr.add; split <;> simp_all
    refine ⟨_, rfl, (Array.getElem?_eq_some_iff.1 hg).1, some ⟨g', 0, none⟩, c', ?_, by rw [lvN_len]; exact ⟨h3, h4⟩, h5⟩
    rw [e, World.ownsRow.cellAt h i (by omega), h1, lvN_len]
end Go.Proofs.Ytmebpglkeedaoaa
namespace Go.Proofs.Ytmebpglkeedaoaa
namespace Dp
def prQ (S : Site) (T : Tab) (m k : Nat) : Int := max 0 (drP T k m) * S.buy.getD k 0 + min 0 (drP T k m) * S.sell.getD k 0
def prc (S : Site) (T : Tab) (m : Nat) : Nat → Int
  | 0 => 0
  | k + 1 => prc S T m k + prQ S T m k
theorem mul_in {a b A B : Int} (ha : 0 ≤ a ∧ a ≤ A) (hb : 0 ≤ b ∧ b ≤ B) : 0 ≤ a * b ∧ a * b ≤ A * B :=
  ⟨Int.mul_nonneg ha.1 hb.1, Int.mul_le_mul ha.2 hb.2 hb.1 (by omega)⟩
theorem mul_neg {a b A B : Int} (ha : -A ≤ a ∧ a ≤ 0) (hb : 0 ≤ b ∧ b ≤ B) : -(A * B) ≤ a * b ∧ a * b ≤ 0 := by
  have h := mul_in (a := -a) (A := A) (by omega) hb
  rw [Int.neg_mul] at h
  omega
theorem prQ_bd {S : Site} {T : Tab} {m k : Nat} (hs : slotOk S k = true) (hb : SlotBd T k m) (h8 : m ≤ 8) :
    (0 ≤ max 0 (drP T k m) * S.buy.getD k 0 ∧ max 0 (drP T k m) * S.buy.getD k 0 ≤ 8796093022208) ∧ (-8796093022208 ≤ min 0 (drP T k m) * S.sell.getD k 0 ∧ min 0 (drP T k m) * S.sell.getD k 0 ≤ 0) := by
  have h1 := slotOk_iff.1 hs
  have h2 := drP_bd hb m (Nat.le_refl _)
  exact ⟨mul_in (A := 8388608) (B := 1048576) (by omega) (by omega), mul_neg (A := 8388608) (B := 1048576) (by omega) (by omega)⟩
theorem prc_bd {S : Site} {T : Tab} {m : Nat} (h8 : m ≤ 8) : ∀ k : Nat, (∀ j, j < k → slotOk S j = true ∧ SlotBd T j m) → -(8796093022208 * (k : Int)) ≤ prc S T m k ∧ prc S T m k ≤ 8796093022208 * (k : Int)
  | 0, _ => by simp [prc]
  | k + 1, h => by
    have h1 := prc_bd h8 k (fun j hj => h j (by omega))
    have h2 := prQ_bd (h k (by omega)).1 (h k (by omega)).2 h8
    simp only [prc, prQ]
    omega
theorem prQ_pos {S : Site} {T : Tab} {m k : Nat} (h : 0 < drP T k m) : prQ S T m k = drP T k m * S.buy.getD k 0 := by
  unfold prQ
  rw [show max 0 (drP T k m) = drP T k m by omega, show min 0 (drP T k m) = 0 by omega]; omega
theorem prQ_neg {S : Site} {T : Tab} {m k : Nat} (h : ¬ 0 < drP T k m) : prQ S T m k = drP T k m * S.sell.getD k 0 := by
  unfold prQ
  rw [show max 0 (drP T k m) = 0 by omega, show min 0 (drP T k m) = drP T k m by omega]; omega
def prcV (S : Site) (cs : List Car) (T : Tab) : Int := if plE S cs T = 0 then prc S T cs.length S.lim.length else 0
theorem Keeps.slot {S : Site} {cs : List Car} {T : Tab} (h : Keeps S cs T) {k : Nat} (hk : k < S.lim.length) : SlotBd T k cs.length := by
  intro i hi
  have h1 := carG_iff.1 (h.car k hk i hi)
  have h2 := (carOk_iff.1 (h.carok hi)).1
  have h3 := h.ri i hi
  have h4 := h.ro i hi
  omega
theorem Keeps.rows {S : Site} {cs : List Car} {T : Tab} (h : Keeps S cs T) {i : Nat} (hi : i < cs.length) : RowBd S.lim.length (T.inn.getD i []) ∧ RowBd S.lim.length (T.out.getD i []) := by
  refine ⟨⟨h.ri i hi, fun k hk => ?_⟩, ⟨h.ro i hi, fun k hk => ?_⟩⟩
  · exact (h.slot hk i hi).2.1
  · exact (h.slot hk i hi).2.2
end Dp
end Go.Proofs.Ytmebpglkeedaoaa
namespace Go.Proofs.Ytmebpglkeedaoaa
open Go.RowKit Dp
theorem own_form {W : World} {B e z n cap : Nat} {A : Option Addr} {xs : List Value} (h : W.ownsRow B e z (.slice A n cap) n xs) (hn : 0 < n) : ∃ g, A = some ⟨g, 0, none⟩ ∧ B ≤ g ∧ g < W.heap.size ∧ n ≤ cap ∧ cap ≤ 9223372036854775807 := by
  rcases h.2 with ⟨h1, h2⟩ | ⟨g, c, cur, hv, hb, hg, hnc, hcm, _⟩
  · simp only [Value.slice.injEq] at h1; omega
  · simp only [Value.slice.injEq, true_and] at hv
    obtain ⟨rfl, rfl⟩ := hv
    exact ⟨g, rfl, hb, (Array.getElem?_eq_some_iff.1 hg).1, hnc, by unfold maxLen at hcm; omega⟩
theorem grown_ne {W V : World} {B e z n cap g : Nat} {A : Option Addr} {xs cs : List Value} {t : TypeId} (hb : Blk W g t cs) (h : W.ownsRow B e z (.slice A n cap) n xs) (hg : W.grownBy V (Value.slice A n cap).ownBlock) (hB : g < B) : Blk V g t cs :=
  hb.grown hg (fun q => by have := (World.ownsRow.lt h g q.symm).1; omega)
set_option maxHeartbeats 2000000 in
set_option maxRecDepth 100000 in
theorem levelsR_c (cap inn out start fin : Int) (trips : List Trip) (xs ys : List Int) (T P Q : Option Addr) (q n cT cP cQ : Nat) (w : World) (hq : q = trips.length) (hcT : q ≤ cT ∧ cT ≤ 9223372036854775807) (hT : TripsAt w T trips) (hc : carOk n ⟨cap, inn, out, start, fin, trips⟩ = true)
    (h48 : n ≤ 48) (hP : n ≤ cP ∧ cP ≤ 9223372036854775807) (hQ : n ≤ cQ ∧ cQ ≤ 9223372036854775807) (hX : IntsAt w P xs) (hY : IntsAt w Q ys) (bx : RowBd n xs) (bY : RowBd n ys) :
    Calls Try.prog 83 #[.agg #[.int .i64 cap, .int .i64 inn, .int .i64 out, .int .i64 start, .int .i64 fin, .slice T q cT], .slice P n cP, .slice Q n cQ] w fun e w' => ∃ g c, e = .returned (.slice (some ⟨g, 0, none⟩) (n + 1) c) ∧ OwnI w.heap.size w' g c (lvN ⟨cap, inn, out, start, fin, trips⟩ xs ys (n + 1)) ∧ Below w.heap.size w w' := by
  have HQ := Lib.hid hq
  have HT := Lib.hid hT
  have HX := Lib.hid hX
  have HY := Lib.hid hY
  have HU : Hid (∀ k V, Below w.heap.size w V → Calls Try.prog 86 #[.agg #[.int .i64 cap, .int .i64 inn, .int .i64 out, .int .i64 start, .int .i64 fin, .slice T q cT], .int .i64 ((k : Nat) : Int)] V fun e w' => e = .returned (.int .i64 (useC ⟨cap, inn, out, start, fin, trips⟩ k)) ∧ Below V.heap.size V w') := Lib.hid (fun k V hV => by
    have := use_c (.int .i64 cap) (.int .i64 inn) (.int .i64 out) (.int .i64 start) (.int .i64 fin) k _ n T trips q cT V hq hcT (hT.below hV (Nat.le_refl _)) (carOk_iff.1 hc).2
    rw [show useC ⟨cap, inn, out, start, fin, trips⟩ k = useP trips k q from by rw [hq]; rfl]
    exact this)
  have HBX := Lib.hid bx
  have HBY := Lib.hid bY
  have HLB := Lib.hid (fun k (hk : k ≤ n) => lev_bd hc bx bY k hk)
  have HUB := Lib.hid (fun k => useC_bd hc k)
  have HLS := Lib.hid (fun k => (show lev ⟨cap, inn, out, start, fin, trips⟩ xs ys (k + 1) = lev ⟨cap, inn, out, start, fin, trips⟩ xs ys k + (xs.getD k 0 - ys.getD k 0 - useC ⟨cap, inn, out, start, fin, trips⟩ k) from rfl))
  have HL0 : Hid (lvN ⟨cap, inn, out, start, fin, trips⟩ xs ys 1 = [start]) := Lib.hid rfl
  have HSB : Hid (-9223372036854775808 ≤ start ∧ start ≤ 9223372036854775807) := Lib.hid (by have := (carOk_iff.1 hc).1; simp only at this; omega)
  clear hq hT hX hY bx bY hc
  generalize hcar : (⟨cap, inn, out, start, fin, trips⟩ : Car) = C at *
  clear hcar
  have HB := Lib.hid (((Below.refl w.heap.size w).alloc (Nat.le_refl _) (.cells #[.int .i64 cap, .int .i64 inn, .int .i64 out, .int .i64 start, .int .i64 fin, .slice T q cT] 63)).alloc (by simp) (.cells #[.int .i64 start] 2))
  have XC := Lib.hid ((Blk.new' w #[.int .i64 cap, .int .i64 inn, .int .i64 out, .int .i64 start, .int .i64 fin, .slice T q cT] 63).alloc (.cells #[.int .i64 start] 2))
  have XO : Hid (OwnI (w.heap.size + 1) ((w.alloc (.cells #[.int .i64 cap, .int .i64 inn, .int .i64 out, .int .i64 start, .int .i64 fin, .slice T q cT] 63)).alloc (.cells #[.int .i64 start] 2)) (w.heap.size + 1) 1 (lvN C xs ys 1)) := Lib.hid (by
    rw [HL0.out]
    have := World.ownsRow_lit (base := w.heap.size + 1) (w.alloc (.cells #[.int .i64 cap, .int .i64 inn, .int .i64 out, .int .i64 start, .int .i64 fin, .slice T q cT] 63)) (e := 2) (size := 1) #[.int .i64 start] 1 (by simp) (by unfold maxLen; omega) rfl
    simpa [OwnI] using this)
  obtain ⟨i2, h2i, h2z, h2s, h2b⟩ := info_parts info2
  go_enter Try.func83, Try.ntmps83
  go_upto_region 2 with fail
  (try simp only [World.size_alloc])
  generalize (w.alloc (.cells #[.int .i64 cap, .int .i64 inn, .int .i64 out, .int .i64 start, .int .i64 fin, .slice T q cT] 63)).alloc (.cells #[.int .i64 start] 2) = w1 at HB XC XO ⊢
  go_wp2_with fail
  go_loopw [7, 8] (fun lv iv wr => ∃ (j g c : Nat), j ≤ n ∧ iv = .int .i64 j ∧ lv = .slice (some ⟨g, 0, none⟩) (j + 1) c ∧ Hid (OwnI (w.heap.size + 1) wr g c (lvN C xs ys (j + 1)) ∧ Below w.heap.size w wr ∧ Blk wr w.heap.size 63 [.int .i64 cap, .int .i64 inn, .int .i64 out, .int .i64 start, .int .i64 fin, .slice T q cT])) (fun _ iv _ => n - (intOf iv).toNat)
  case atStart => exact ⟨0, w.heap.size + 1, 1, Nat.zero_le _, rfl, rfl, Lib.hid ⟨XO.out, HB.out, XC.out⟩⟩
  case round =>
    clear HB XC XO
    obtain ⟨j, g, c, hj, rfl, rfl, HJ⟩ := hrel
    have HO := Lib.hid HJ.out.1
    have HB := Lib.hid HJ.out.2.1
    have XC := Lib.hid HJ.out.2.2
    clear HJ
    by_cases hlt : j < n
    · have hji : (j : Int) < (n : Int) := by omega
      have hjj : (j : Int) < (j : Int) + 1 := by omega
      obtain ⟨pa, rfl, pal, px⟩ := (HX.out.below HB.out (Nat.le_refl _)) j (by rw [HBX.out.1]; exact hlt)
      obtain ⟨qa, rfl, qal, qx⟩ := (HY.out.below HB.out (Nat.le_refl _)) j (by rw [HBY.out.1]; exact hlt)
      have b1 := HBX.out.2 j hlt
      have b2 := HBY.out.2 j hlt
      have b3 := HLB.out j hj
      have b4 := HUB.out j
      have HV := Lib.hid (HLS.out j)
      have HN2 := Lib.hid (lvN_succ C xs ys (j + 1))
      have ow := HO.out.cell j (by rw [lvN_len]; omega)
      rw [lvN_get (by omega)] at ow
      have HUU := Lib.hid (HU.out j)
      have gl := HO.out.lt.2
      generalize xs.getD j 0 = x at *
      generalize ys.getD j 0 = y at *
      generalize useC C j = u at *
      generalize lev C xs ys (j + 1) = lv1 at *
      generalize lev C xs ys j = lv at *
      have w1e : IntKind.i64.wrap (lv - y) = lv - y := IntWalk.i64_in _ (by omega)
      have w2e : IntKind.i64.wrap (lv - y + x) = lv - y + x := IntWalk.i64_in _ (by omega)
      have w3e : IntKind.i64.wrap (lv - y + x - u) = lv - y + x - u := IntWalk.i64_in _ (by omega)
      have HV2 : Hid (lv - y + x - u = lv1) := Lib.hid (by rw [HV.out]; omega)
      have pb2 : (pa.add j).block < wr.heap.size := by rw [block_add]; exact pal
      have qb2 : (qa.add j).block < wr.heap.size := by rw [block_add]; exact qal
      have e0 := XC.out.cell 0 rfl
      have e1 := XC.out.cell 1 rfl
      have e2 := XC.out.cell 2 rfl
      have e3 := XC.out.cell 3 rfl
      have e4 := XC.out.cell 4 rfl
      have e5 := XC.out.cell 5 rfl
      have el := XC.out.lt
      clear b1 b2 b3 b4 HV
      go_upto_region 5 with fail
      refine wp_region_priv 20 [.q, .q, .q, .q, .q, .q, .q, .q, .q, .q, .q, .q, .q, .q, .q, .q, .q, .q, .q, .p] (fun _ => (.cells #[.int .i64 (lv - y + x - u)] 2, fun b => .slice (some ⟨b, 0, none⟩) 1 1)) ?af (by kernel_rfl) (by kernel_rfl) ?walk ?tail
      case walk =>
        intro V hV
        have pv := (hV.cell pb2).trans px
        have qv := (hV.cell qb2).trans qx
        have ov := (hV.cell (p := ⟨g, j, none⟩) gl).trans ow
        have e0v := (hV.cell (p := ⟨w.heap.size, 0, none⟩) el).trans e0
        have e1v := (hV.cell (p := ⟨w.heap.size, 1, none⟩) el).trans e1
        have e2v := (hV.cell (p := ⟨w.heap.size, 2, none⟩) el).trans e2
        have e3v := (hV.cell (p := ⟨w.heap.size, 3, none⟩) el).trans e3
        have e4v := (hV.cell (p := ⟨w.heap.size, 4, none⟩) el).trans e4
        have e5v := (hV.cell (p := ⟨w.heap.size, 5, none⟩) el).trans e5
        have pb3 := Nat.lt_of_lt_of_le pb2 hV.size
        have qb3 := Nat.lt_of_lt_of_le qb2 hV.size
        have gl3 := Nat.lt_of_lt_of_le gl hV.size
        have el3 := Nat.lt_of_lt_of_le el hV.size
        have HBV := Lib.hid (HB.out.trans (hV.mono HB.out.size))
        clear hV
        simp only [List.take_succ_cons, List.take_zero]
        repeat (with_reducible refine wpP_q ?_; go_big_quiet_step ((go_at_call 86; exact past_below (HUU.out _ (HBV.out.trans ((Past.far _).mono HBV.out.size))))); with_reducible refine wpQuiet_nil ?_)
        refine wpP_p (by kernel_rfl) (fun _ => by kernel_rfl) ?_
        (try simp only [Act.put, List.setIfInBounds_toArray, List.set_cons_zero, List.set_cons_succ])
        with_reducible refine wpP_nil ?_
        rfl
      intro gs w3 hb3 hgs _
      have HB3 := Lib.hid (HB.out.trans (hb3.mono HB.out.size))
      have XC3 := Lib.hid (XC.out.below hb3 XC.out.lt)
      have HO3 := Lib.hid (HO.out.below hb3)
      obtain ⟨_, hgb⟩ := hgs 19 rfl
      have GB : Hid (Blk w3 (gs 19) 2 [.int .i64 (lv - y + x - u)]) := Lib.hid hgb
      clear hb3 hgs hgb HB XC HO e0 e1 e2 e3 e4 e5 ow px qx pb2 qb2 gl el pal qal
      simp only [List.drop_succ_cons, List.drop_zero, List.take_succ_cons, List.take_zero, fillP]
      (try simp only [Act.put, List.setIfInBounds_toArray, List.set_cons_zero, List.set_cons_succ])
      generalize gs 19 = gb at *
      have OO : Hid (w3.ownsRow (w.heap.size + 1) 2 1 (.slice (some ⟨g, 0, none⟩) (j + 1) c) (j + 1) ((lvN C xs ys (j + 1)).map (.int .i64))) := Lib.hid (by have := HO3.out; unfold OwnI at this; rwa [lvN_len] at this)
      go_wp2_with (at_builtin; refine wpList_append_any (.tmp 18) (.tmp 37) 22 rfl rfl (w.heap.size + 1) 2 i2 (.int .i64 0) 1 8 Try.underlying22 h2i h2z h2s h2b rfl (by decide) (some ⟨g, 0, none⟩) (j + 1) c ((lvN C xs ys (j + 1)).map (.int .i64)) (by rfl) OO.out (some ⟨gb, 0, none⟩) 1 1 [.int .i64 (lv - y + x - u)] (by rfl) (by rfl) (.inr ⟨_, rfl, fun k u hk => by rcases k with _ | k <;> simp at hk; subst hk; exact GB.out.cell 0 rfl⟩) (by simp [Value.oneCell']) (by unfold maxLen; omega) (by omega) (by have := XC3.out.lt; omega) ?_; intro A3 c3 w4 hown hgrow hat; obtain ⟨g3, rfl, hg31, hg32, _, _⟩ := own_form hown (by omega); have HO4 : Hid (OwnI (w.heap.size + 1) w4 g3 c3 (lvN C xs ys (j + 1 + 1))) := Lib.hid (by unfold OwnI; rw [lvN_len, HN2.out, List.map_append, ← HV2.out]; exact hown); have HB4 := Lib.hid (HB3.out.grown hgrow HB3.out.size (fun k e => by have := (World.ownsRow.lt OO.out k e).1; omega)); have XC4 := Lib.hid (grown_ne XC3.out OO.out hgrow (Nat.lt_succ_self _)); clear hown hgrow hat hg31 hg32)
      exact ⟨⟨j + 1, g3, c3, by omega, by go_num, rfl, Lib.hid ⟨HO4.out, HB4.out, XC4.out⟩⟩, by simp [intOf]; omega⟩
    · obtain rfl : j = n := by omega
      go_wp2_with fail
      exact bodyPost_ret (v := .slice (some ⟨g, 0, none⟩) (j + 1) c) (by simp [results, Try.results83, go_sem]) rfl ⟨g, c, rfl, HO.out.mono (Nat.le_succ _), HB.out⟩
end Go.Proofs.Ytmebpglkeedaoaa
namespace Go.Proofs.Ytmebpglkeedaoaa
open Go.RowKit Dp
theorem blk_own_ne {W : World} {g t B e z n cap : Nat} {cs xs : List Value} {A : Option Addr} (hb : Blk W g t cs) (h : W.ownsRow B e z (.slice A n cap) n xs) (hne : t ≠ e) : some g ≠ (Value.slice A n cap).ownBlock := by
  intro hk
  rcases h.2 with ⟨h0, _⟩ | ⟨g', cap', cur, hv, _, hg, _⟩
  · rw [h0] at hk; cases hk
  · rw [hv] at hk
    simp only [Value.ownBlock, Option.some.injEq] at hk
    subst hk
    unfold Blk at hb
    rw [hg] at hb
    simp only [Option.some.injEq, Obj.cells.injEq] at hb
    exact hne hb.2.1.symm
theorem own_blk_no {W : World} {g t B e z n cap : Nat} {cs xs : List Value} {A : Option Addr} (hb : Blk W g t cs) (h : W.ownsRow B e z (.slice A n cap) n xs) (hne : t ≠ e) : ¬ OwnB A g := fun hk => blk_own_ne hb h hne (ownB_iff.1 hk).symm
def RowF (W : World) (n G : Nat) (v : Value) (xs : List Int) : Prop := ∃ g, v = .slice (some ⟨g, 0, none⟩) n n ∧ g < G ∧ Fl 3 W g xs ∧ xs.length = n
def RowsF (W : World) (n G : Nat) (vs : List Value) (R : Nat → List Int) (i : Nat) : Prop := ∀ x, x < i → ∃ v, vs[x]? = some v ∧ RowF W n G v (R x)
section
variable {W V : World} {n G i : Nat} {vs : List Value} {R : Nat → List Int}
theorem RowsF.of (h : RowsF W n G vs R i) (f : ∀ g xs, g < G → Fl 3 W g xs → Fl 3 V g xs) : RowsF V n G vs R i := fun x hx => by
  obtain ⟨v, h1, g, h2, h3, h4, h5⟩ := h x hx
  exact ⟨v, h1, g, h2, h3, f g _ h3 h4, h5⟩
theorem RowsF.below (h : RowsF W n G vs R i) (hb : Below W.heap.size W V) : RowsF V n G vs R i := h.of fun g xs _ hf => hf.below hb
theorem RowsF.grown {B e z m cap : Nat} {A : Option Addr} {xs : List Value} (h : RowsF W n G vs R i) (ho : W.ownsRow B e z (.slice A m cap) m xs) (hne : 3 ≠ e) (hg : W.grownBy V (Value.slice A m cap).ownBlock) : RowsF V n G vs R i := h.of fun g xs _ hf => Blk.grown hf hg (blk_own_ne hf ho hne)
theorem RowsF.set (h : RowsF W n G vs R i) {p : Addr} {t : TypeId} {cs : List Value} (hb : Blk W p.block t cs) (hn : t ≠ 3 ∨ G ≤ p.block) (u : Value) : RowsF (W.setCell p u) n G vs R i := h.of fun g xs hlt hf => Blk.setCell_ne hf (fun e => by
  rcases hn with hn | hn
  · subst e; exact blk_type_ne hb hf hn rfl
  · omega) u
theorem RowsF.up {G' : Nat} (h : RowsF W n G vs R i) (hG : G ≤ G') : RowsF W n G' vs R i := fun x hx => by
  obtain ⟨v, h1, g, h2, h3, h4⟩ := h x hx
  exact ⟨v, h1, g, h2, by omega, h4⟩
theorem RowsF.add {g : Nat} (h : RowsF W n G vs R i) (hl : vs.length = i) (hf : Fl 3 W g (R i)) (hR : (R i).length = n) (hg : g < G) : RowsF W n G (vs ++ [.slice (some ⟨g, 0, none⟩) n n]) R (i + 1) := fun x hx => by
  by_cases e : x = i
  · subst e
    exact ⟨_, by rw [List.getElem?_append_right (by omega)]; simp [hl], g, rfl, hg, hf, hR⟩
  · obtain ⟨u, e1, e2⟩ := h x (by omega)
    exact ⟨u, by rw [List.getElem?_append_left (by omega)]; exact e1, e2⟩
end
structure BdJ (w : World) (gs gb : Nat) (A : Option Addr) (cap : Nat) (AI AO : Option Addr) (ci co i : Nat) (vi vo : List Value) (sup : List Int) (arcs : List Arc) (W : World) : Prop where
  b : Blk W gb 125 [.slice (some ⟨gs, 0, none⟩) sup.length sup.length, .slice A arcs.length cap, .slice AI i ci, .slice AO i co]
  s : Fl 2 W gs sup
  own : W.ownsRow w.heap.size 46 4 (.slice A arcs.length cap) arcs.length (flat arcV arcs)
  oi : W.ownsRow w.heap.size 26 1 (.slice AI i ci) i vi
  oo : W.ownsRow w.heap.size 26 1 (.slice AO i co) i vo
  dis : ∀ k, OwnB AI k → ¬ OwnB AO k
  lt : w.heap.size ≤ gs ∧ w.heap.size ≤ gb
  bel : Below w.heap.size w W
section
variable {w W V : World} {gs gb cap cap2 ci co i : Nat} {A A2 AI AO : Option Addr} {vi vo : List Value} {sup : List Int} {arcs arcs2 : List Arc}
theorem BdJ.below (h : BdJ w gs gb A cap AI AO ci co i vi vo sup arcs W) (hb : Below W.heap.size W V) : BdJ w gs gb A cap AI AO ci co i vi vo sup arcs V :=
  ⟨h.b.below hb h.b.lt, h.s.below hb, ownBelow h.own hb, ownBelow h.oi hb, ownBelow h.oo hb, h.dis, h.lt, h.bel.trans (hb.mono h.bel.size)⟩
theorem BdJ.other (h : BdJ w gs gb A cap AI AO ci co i vi vo sup arcs W) {p : Addr} {cs : List Value} (hb : Blk W p.block 3 cs) (hp : w.heap.size ≤ p.block) (u : Value) : BdJ w gs gb A cap AI AO ci co i vi vo sup arcs (W.setCell p u) :=
  ⟨h.b.setCell_ne (fun e => by have := h.b; rw [e] at this; exact blk_type_ne hb this (by decide) rfl) u, h.s.set_ne (fun e => by have := h.s; rw [e] at this; exact blk_type_ne hb this (by decide) rfl) u,
    ownSet h.own (own_blk_no hb h.own (by decide)) u, ownSet h.oi (own_blk_no hb h.oi (by decide)) u, ownSet h.oo (own_blk_no hb h.oo (by decide)) u, h.dis, h.lt, h.bel.setCell hp u⟩
theorem BdJ.set (h : BdJ w gs gb A cap AI AO ci co i vi vo sup arcs W) (k : Nat) (v : Int) : BdJ w gs gb A cap AI AO ci co i vi vo (sup.set k v) arcs (W.setCell ⟨gs, k, none⟩ (.int .i64 v)) :=
  ⟨by rw [List.length_set]; exact h.b.setCell_ne (fun e => blk_type_ne h.b h.s (by decide) e.symm) _, h.s.put k v,
    ownSet h.own (own_blk_no (g := gs) h.s h.own (by decide)) _, ownSet h.oi (own_blk_no (g := gs) h.s h.oi (by decide)) _, ownSet h.oo (own_blk_no (g := gs) h.s h.oo (by decide)) _, h.dis, h.lt, h.bel.setCell (by simp; exact h.lt.1) _⟩
theorem grow_own {B B' e e' z z' n n' c c' : Nat} {A A' : Option Addr} {xs xs' : List Value} (h : W.ownsRow B e z (.slice A n c) n xs) (h' : W.ownsRow B' e' z' (.slice A' n' c') n' xs') (hne : ∀ k, OwnB A k → ¬ OwnB A' k) (hg : W.grownBy V (Value.slice A' n' c').ownBlock) : V.ownsRow B e z (.slice A n c) n xs := by
  refine ⟨h.1, ?_⟩
  rcases h.2 with h2 | ⟨k, c1, cur, hv, hb, hgk, r⟩
  · exact .inl h2
  · refine .inr ⟨k, c1, cur, hv, hb, (hg.block k (Array.getElem?_eq_some_iff.1 hgk).1 (fun ek => ?_)).trans hgk, r⟩
    exact hne k ((ownB_iff (n := n) (cap := c)).2 (by rw [hv]; rfl)) (ownB_iff.2 ek.symm)
theorem own_type {B B' e e' z z' n n' c c' : Nat} {A A' : Option Addr} {xs xs' : List Value} (h : W.ownsRow B e z (.slice A n c) n xs) (h' : W.ownsRow B' e' z' (.slice A' n' c') n' xs') (hne : e ≠ e') : ∀ k, OwnB A k → ¬ OwnB A' k := by
  intro k h1 h2
  have k1 := ownB_iff (n := n) (cap := c) |>.1 h1
  have k2 := ownB_iff (n := n') (cap := c') |>.1 h2
  rcases h.2 with ⟨h0, _⟩ | ⟨g, c1, cur, hv, _, hg, _⟩
  · rw [h0] at k1; cases k1
  · rcases h'.2 with ⟨h0, _⟩ | ⟨g', c1', cur', hv', _, hg', _⟩
    · rw [h0] at k2; cases k2
    · rw [hv] at k1; rw [hv'] at k2
      simp only [Value.ownBlock, Option.some.injEq] at k1 k2
      subst k1; subst k2
      rw [hg] at hg'
      simp only [Option.some.injEq, Obj.cells.injEq] at hg'
      exact hne hg'.2.1
theorem BdJ.push (h : BdJ w gs gb A cap AI AO ci co i vi vo sup arcs W) (hg : W.grownBy V (Value.slice A arcs.length cap).ownBlock)
    (ho : V.ownsRow w.heap.size 46 4 (.slice A2 arcs2.length cap2) arcs2.length (flat arcV arcs2)) : BdJ w gs gb A2 cap2 AI AO ci co i vi vo sup arcs2 (V.setCell ⟨gb, 1, none⟩ (.slice A2 arcs2.length cap2)) := by
  have b1 := h.b.grown hg (blk_own_ne h.b h.own (by decide))
  have s1 : Fl 2 V gs sup := Blk.grown h.s hg (blk_own_ne h.s h.own (by decide))
  have i1 := grow_own h.oi h.own (own_type h.oi h.own (by decide)) hg
  have o1 := grow_own h.oo h.own (own_type h.oo h.own (by decide)) hg
  have bel1 : Below w.heap.size w V := h.bel.grown hg h.bel.size (fun k e => (World.ownsRow.lt h.own k e).1)
  refine ⟨b1.setCell 1 _, s1.set_ne (fun e => blk_type_ne b1 s1 (by decide) e) _, ownSet ho (own_blk_no (g := gb) b1 ho (by decide)) _, ownSet i1 (own_blk_no (g := gb) b1 i1 (by decide)) _, ownSet o1 (own_blk_no (g := gb) b1 o1 (by decide)) _, h.dis, h.lt, bel1.setCell (by simp; exact h.lt.2) _⟩
end
structure BkJ (w : World) (n G i gs gb gi go gc : Nat) (AI AO : Option Addr) (ci co : Nat) (vi vo : List Value) (RI RO : Nat → List Int) (cv : List Value) (A : Option Addr) (cap : Nat) (sup : List Int) (arcs : List Arc) (ri ro : List Int) (W : World) : Prop where
  d : BdJ w gs gb A cap AI AO ci co i vi vo sup arcs W
  fi : Fl 3 W gi ri
  fo : Fl 3 W go ro
  ne : gi ≠ go
  ge : (G ≤ gi ∧ G ≤ go) ∧ (w.heap.size ≤ gi ∧ w.heap.size ≤ go)
  ri : RowsF W n G vi RI i
  ro : RowsF W n G vo RO i
  car : Blk W gc 63 cv
section
variable {w W V : World} {n G i gs gb gi go gc ci co cap cap2 : Nat} {A A2 AI AO : Option Addr} {vi vo cv : List Value} {RI RO : Nat → List Int} {sup : List Int} {arcs arcs2 : List Arc} {ri ro : List Int}
theorem BkJ.below (h : BkJ w n G i gs gb gi go gc AI AO ci co vi vo RI RO cv A cap sup arcs ri ro W) (hb : Below W.heap.size W V) : BkJ w n G i gs gb gi go gc AI AO ci co vi vo RI RO cv A cap sup arcs ri ro V :=
  ⟨h.d.below hb, h.fi.below hb, h.fo.below hb, h.ne, h.ge, h.ri.below hb, h.ro.below hb, h.car.below hb h.car.lt⟩
theorem BkJ.alloc (h : BkJ w n G i gs gb gi go gc AI AO ci co vi vo RI RO cv A cap sup arcs ri ro W) (o : Obj) : BkJ w n G i gs gb gi go gc AI AO ci co vi vo RI RO cv A cap sup arcs ri ro (W.alloc o) := h.below ((Below.refl _ _).alloc (Nat.le_refl _) o)
theorem BkJ.push (h : BkJ w n G i gs gb gi go gc AI AO ci co vi vo RI RO cv A cap sup arcs ri ro W) (hg : W.grownBy V (Value.slice A arcs.length cap).ownBlock)
    (ho : V.ownsRow w.heap.size 46 4 (.slice A2 arcs2.length cap2) arcs2.length (flat arcV arcs2)) : BkJ w n G i gs gb gi go gc AI AO ci co vi vo RI RO cv A2 cap2 sup arcs2 ri ro (V.setCell ⟨gb, 1, none⟩ (.slice A2 arcs2.length cap2)) := by
  have b1 := h.d.b.grown hg (blk_own_ne h.d.b h.d.own (by decide))
  have f1 : Fl 3 V gi ri := Blk.grown h.fi hg (blk_own_ne h.fi h.d.own (by decide))
  have f2 : Fl 3 V go ro := Blk.grown h.fo hg (blk_own_ne h.fo h.d.own (by decide))
  have c1 : Blk V gc 63 cv := Blk.grown h.car hg (blk_own_ne h.car h.d.own (by decide))
  exact ⟨h.d.push hg ho, f1.set_ne (fun e => blk_type_ne b1 f1 (by decide) e) _, f2.set_ne (fun e => blk_type_ne b1 f2 (by decide) e) _, h.ne, h.ge,
    (h.ri.grown h.d.own (by decide) hg).set (p := ⟨gb, 1, none⟩) b1 (.inl (by decide)) _, (h.ro.grown h.d.own (by decide) hg).set (p := ⟨gb, 1, none⟩) b1 (.inl (by decide)) _, c1.setCell_ne (fun e => blk_type_ne b1 c1 (by decide) e) _⟩
theorem BkJ.set (h : BkJ w n G i gs gb gi go gc AI AO ci co vi vo RI RO cv A cap sup arcs ri ro W) (k : Nat) (v : Int) : BkJ w n G i gs gb gi go gc AI AO ci co vi vo RI RO cv A cap (sup.set k v) arcs ri ro (W.setCell ⟨gs, k, none⟩ (.int .i64 v)) :=
  ⟨h.d.set k v, h.fi.set_ne (fun e => blk_type_ne h.d.s h.fi (by decide) e) _, h.fo.set_ne (fun e => blk_type_ne h.d.s h.fo (by decide) e) _, h.ne, h.ge, h.ri.set (p := ⟨gs, k, none⟩) h.d.s (.inl (by decide)) _, h.ro.set (p := ⟨gs, k, none⟩) h.d.s (.inl (by decide)) _, h.car.setCell_ne (fun e => blk_type_ne h.d.s h.car (by decide) e) _⟩
theorem BkJ.seti (h : BkJ w n G i gs gb gi go gc AI AO ci co vi vo RI RO cv A cap sup arcs ri ro W) (k : Nat) (v : Int) : BkJ w n G i gs gb gi go gc AI AO ci co vi vo RI RO cv A cap sup arcs (ri.set k v) ro (W.setCell ⟨gi, k, none⟩ (.int .i64 v)) :=
  ⟨h.d.other (p := ⟨gi, k, none⟩) h.fi h.ge.2.1 _, h.fi.put k v, h.fo.set_ne (fun e => h.ne e.symm) _, h.ne, h.ge, h.ri.set (p := ⟨gi, k, none⟩) h.fi (.inr h.ge.1.1) _, h.ro.set (p := ⟨gi, k, none⟩) h.fi (.inr h.ge.1.1) _, h.car.setCell_ne (fun e => blk_type_ne h.fi h.car (by decide) e) _⟩
theorem BkJ.seto (h : BkJ w n G i gs gb gi go gc AI AO ci co vi vo RI RO cv A cap sup arcs ri ro W) (k : Nat) (v : Int) : BkJ w n G i gs gb gi go gc AI AO ci co vi vo RI RO cv A cap sup arcs ri (ro.set k v) (W.setCell ⟨go, k, none⟩ (.int .i64 v)) :=
  ⟨h.d.other (p := ⟨go, k, none⟩) h.fo h.ge.2.2 _, h.fi.set_ne (fun e => h.ne e) _, h.fo.put k v, h.ne, h.ge, h.ri.set (p := ⟨go, k, none⟩) h.fo (.inr h.ge.1.2) _, h.ro.set (p := ⟨go, k, none⟩) h.fo (.inr h.ge.1.2) _, h.car.setCell_ne (fun e => blk_type_ne h.fo h.car (by decide) e) _⟩
end
set_option maxHeartbeats 2000000 in
set_option maxRecDepth 100000 in
theorem addG_c (W : World) (gb n cap B m c : Nat) (A Bo : Option Addr) (v0 v2 v3 : Value) (arcs news : List Arc) (hn : n = arcs.length) (hm : m = news.length) (hnm : n + m ≤ 4096) (hb : Blk W gb 125 [v0, .slice A n cap, v2, v3]) (ho : W.ownsRow B 46 4 (.slice A n cap) n (flat arcV arcs)) (hs : SrcRow W Bo m (flat arcV news)) (hB : B ≤ W.heap.size) :
    Calls Try.prog 108 #[.pointer (some ⟨gb, 0, none⟩), .slice Bo m c] W fun e W' => ∃ A2 cap2 V, e = .returned (.int .i64 n) ∧ W' = V.setCell ⟨gb, 1, none⟩ (.slice A2 (n + m) cap2) ∧ W.grownBy V (Value.slice A n cap).ownBlock ∧ V.ownsRow B 46 4 (.slice A2 (n + m) cap2) (n + m) (flat arcV (arcs ++ news)) := by
  have X := Lib.hid hb
  have HO := Lib.hid ho
  have HS := Lib.hid hs
  have HN := Lib.hid hn
  have HM := Lib.hid hm
  have FL := Lib.hid (flat_length (f := arcV) (s := 4) (fun _ => rfl) news)
  clear hb ho hs hn hm
  obtain ⟨i3, h3i, h3z, h3s, h3b⟩ := info_parts info46
  have y0 := X.out.cell 1 rfl
  have wnm : IntKind.i64.wrap ((n : Int) + (m : Int) - (m : Int)) = (n : Int) := by rw [show (n : Int) + (m : Int) - (m : Int) = n by omega]; exact IntWalk.i64_in _ (by omega)
  go_enter Try.func108, Try.ntmps108
  go_wp2_with (at_builtin; refine wpList_append_any (.tmp 10) (.tmp 11) 23 rfl rfl B 46 i3 (.agg #[.int .i64 0, .int .i64 0, .int .i64 0, .int .i64 0]) 4 32 Try.underlying23 h3i h3z h3s h3b rfl (by decide) A n cap (flat arcV arcs) (by rfl) HO.out Bo m c (flat arcV news) (by rfl) (by rw [FL.out, HM.out]) HS.out (by intro u hu; obtain ⟨a, _, ha⟩ := List.mem_flatMap.1 hu; simp [arcV] at ha; rcases ha with rfl | rfl | rfl | rfl <;> rfl) (by unfold maxLen; omega) (by omega) hB ?_; intro A2 c2 v hown hgrow hat; have HO2 := Lib.hid hown; have HG2 := Lib.hid hgrow; have MM := X.out.grown hgrow (blk_own_ne X.out HO.out (by decide)); clear y0; have y0 := MM.cell 1 rfl; have q0 := MM.free 1; have ML := MM.lt; have XX := Lib.hid (MM.setCell 1 (.slice A2 (n + m) c2)); clear MM hown hgrow hat)
  go_upto_region 2 with fail
  have HW : Hid (v.setCell ⟨gb, 1, none⟩ (.slice A2 (n + m) c2) = v.setCell ⟨gb, 1, none⟩ (.slice A2 (n + m) c2)) := Lib.hid rfl
  generalize hv1 : v.setCell ⟨gb, 1, none⟩ (.slice A2 (n + m) c2) = v1 at XX ⊢
  have HV1 := Lib.hid hv1
  clear y0 q0 hv1 HW
  have y0 := XX.out.cell 1 rfl
  go_wp2_with fail
  exact bodyPost_ret (v := .int .i64 n) (by simp [results, Try.results108, go_sem]) rfl ⟨A2, c2, v, rfl, HV1.out.symm, HG2.out, by rw [flat_append]; exact HO2.out⟩
end Go.Proofs.Ytmebpglkeedaoaa
namespace Go.Proofs.Ytmebpglkeedaoaa
open Go.RowKit Dp
theorem levG_hi {c : Car} {x y : List Int} {n k : Nat} (h : c.cap < lev c x y k) : levG c x y n k = false := decide_eq_false (fun e => by omega)
theorem levG_out {c : Car} {x y : List Int} {n k : Nat} (hk : k < n) (h : lev c x y k < y.getD k 0) : levG c x y n k = false := decide_eq_false (fun e => by unfold least at e; rw [if_pos hk] at e; omega)
theorem levG_use {c : Car} {x y : List Int} {n k : Nat} (hk : k < n) (h : lev c x y k < useC c k) : levG c x y n k = false := decide_eq_false (fun e => by unfold least at e; rw [if_pos hk] at e; omega)
theorem levG_fin {c : Car} {x y : List Int} {n : Nat} (h : lev c x y n < c.fin) : levG c x y n n = false := decide_eq_false (fun e => by unfold least at e; rw [if_neg (Nat.lt_irrefl _)] at e; omega)
theorem levG_in {c : Car} {x y : List Int} {n k : Nat} (hk : k < n) (h1 : lev c x y k ≤ c.cap) (h2 : y.getD k 0 ≤ lev c x y k) (h3 : useC c k ≤ lev c x y k) : levG c x y n k = true := decide_eq_true (by unfold least; rw [if_pos hk]; omega)
theorem levG_end {c : Car} {x y : List Int} {n : Nat} (h1 : lev c x y n ≤ c.cap) (h2 : c.fin ≤ lev c x y n) : levG c x y n n = true := decide_eq_true (by unfold least; rw [if_neg (Nat.lt_irrefl _)]; omega)
noncomputable def loop41c : Code := ((Try.f41.body.bind (blockOf 8)).getD .skip)
noncomputable def end41c : Code := ((Try.f41.body.bind (behind 8)).getD .skip)
def R41 (S : Site) (cs : List Car) (T : Tab) (w : World) : Ending → World → Prop := fun e w' => e = .returned (.int .i64 (plE S cs T)) ∧ Below w.heap.size w w'
set_option maxHeartbeats 8000000 in
set_option maxRecDepth 100000 in
theorem plr8 (A B C D E P Q : Option Addr) (S : Site) (cs : List Car) (T : Tab) (n nB nC nD m cA cB cC cD cE cP cQ : Nat) (w W0 : World) (bt : Nat) (hn : n = S.lim.length) (hm : m = cs.length) (hE : m ≤ cE ∧ cE ≤ 9223372036854775807) (hP : m ≤ cP ∧ cP ≤ 9223372036854775807) (hQ : m ≤ cQ ∧ cQ ≤ 9223372036854775807)
    (h0 : stE S cs = 0) (hl : (lenG cs.length S.lim.length T.inn && lenG cs.length S.lim.length T.out) = true) (hsl : ∀ j, j < S.lim.length → slotE S cs T j = 0) (hcs : CarsAt w E cs) (hT : TabAt w P Q T) (hX : Blk W0 bt 55 [.slice P m cP, .slice Q m cQ]) (hB : Below w.heap.size w W0)
    {K : Act → World → Prop} (hK : ∀ a w', Code.wp Try.prog end41c (bodyPost Try.prog Try.f41 (R41 S cs T w)) a w' → K a w') {x0 x2 x4 x6 x8 x9 x10 x11 x12 x14 x15 x16 x17 x18 x19 x20 x21 x22 x23 x24 x25 x26 x27 x28 x29 x30 x31 x32 x33 x34 x35 x36 x37 x38 x39 x40 x41 x42 x43 x44 x45 x46 x47 x48 x49 x50 x51 x52 x53 x54 x55 x56 x57 x58 x59 x60 x61 x62 x63 x64 x65 x66 x67 x68 x69 x70 x71 x72 x73 x74 x75 x76 x77 x78 x79 x80 x81 x82 x83 x84 x85 x86 x87 x88 x89 x90 x91 x92 x93 x94 x95 x96 x97 x98 x99 x100 x101 x102 x103 x104 x105 x106 x107 x108 x109 x110 x111 x112 x113 x114 x115 x116 x117 x118 x119 x120 x121 x122 x123 x124 x125 x126 x127 x128 x129 x130 x131 x132 x133 x134 x135 x136 x137 x138 x139 x140 x141 x142 x143 x144 x145 x146 x147 x148 x149 x150 x151 x152 x153 x154 x155 x156 x157 x158 x159 x160 x161 x162 x163 x164 x165 x166 x167 x168 x169 x170 x171 x172 x173 x174 x175 x176 x177 x178 x179 x180 x181 x182 x183 x184 x185 x186 x187 x188 x189 x190 x191 x192 x193 x194 x195 x196 x197 x198 x199 x200 x201 x202 x203 x204 x205 x206 x207 x208 x209 x210 x211 x212 x213 x214 x215 x216 x217 x218 x219 x220 x221 x222 x223 x224 x225 x226 x227 x228 : Value} :
    Code.wp Try.prog loop41c (Exit.inBlock 8 (Exit.then K (bodyPost Try.prog Try.f41 (R41 S cs T w)))) { tmps := List.toArray (x0 :: (.slice E m cE : Value) :: x2 :: (.pointer (some ⟨w.heap.size, 0, none⟩) : Value) :: x4 :: (.pointer (some ⟨bt, 0, none⟩) : Value) :: x6 :: (.int .i64 n : Value) :: x8 :: x9 :: x10 :: x11 :: x12 :: (.int .i64 0 : Value) :: x14 :: x15 :: x16 :: x17 :: x18 :: x19 :: x20 :: x21 :: x22 :: x23 :: x24 :: x25 :: x26 :: x27 :: x28 :: x29 :: x30 :: x31 :: x32 :: x33 :: x34 :: x35 :: x36 :: x37 :: x38 :: x39 :: x40 :: x41 :: x42 :: x43 :: x44 :: x45 :: x46 :: x47 :: x48 :: x49 :: x50 :: x51 :: x52 :: x53 :: x54 :: x55 :: x56 :: x57 :: x58 :: x59 :: x60 :: x61 :: x62 :: x63 :: x64 :: x65 :: x66 :: x67 :: x68 :: x69 :: x70 :: x71 :: x72 :: x73 :: x74 :: x75 :: x76 :: x77 :: x78 :: x79 :: x80 :: x81 :: x82 :: x83 :: x84 :: x85 :: x86 :: x87 :: x88 :: x89 :: x90 :: x91 :: x92 :: x93 :: x94 :: x95 :: x96 :: x97 :: x98 :: x99 :: x100 :: x101 :: x102 :: x103 :: x104 :: x105 :: x106 :: x107 :: x108 :: x109 :: x110 :: x111 :: x112 :: x113 :: x114 :: x115 :: x116 :: x117 :: x118 :: x119 :: x120 :: x121 :: x122 :: x123 :: x124 :: x125 :: x126 :: x127 :: x128 :: x129 :: x130 :: x131 :: x132 :: x133 :: x134 :: x135 :: x136 :: x137 :: x138 :: x139 :: x140 :: x141 :: x142 :: x143 :: x144 :: x145 :: x146 :: x147 :: x148 :: x149 :: x150 :: x151 :: x152 :: x153 :: x154 :: x155 :: x156 :: x157 :: x158 :: x159 :: x160 :: x161 :: x162 :: x163 :: x164 :: x165 :: x166 :: x167 :: x168 :: x169 :: x170 :: x171 :: x172 :: x173 :: x174 :: x175 :: x176 :: x177 :: x178 :: x179 :: x180 :: x181 :: x182 :: x183 :: x184 :: x185 :: x186 :: x187 :: x188 :: x189 :: x190 :: x191 :: x192 :: x193 :: x194 :: x195 :: x196 :: x197 :: x198 :: x199 :: x200 :: x201 :: x202 :: x203 :: x204 :: x205 :: x206 :: x207 :: x208 :: x209 :: x210 :: x211 :: x212 :: x213 :: x214 :: x215 :: x216 :: x217 :: x218 :: x219 :: x220 :: x221 :: x222 :: x223 :: x224 :: x225 :: x226 :: x227 :: x228 :: []), defers := [] } W0 := by
  have HN := Lib.hid hn
  have HM := Lib.hid hm
  have H0 := Lib.hid h0
  have HL := Lib.hid hl
  have HLG : Hid ((T.inn.length = cs.length ∧ ∀ i, i < cs.length → (T.inn.getD i []).length = S.lim.length) ∧ (T.out.length = cs.length ∧ ∀ i, i < cs.length → (T.out.getD i []).length = S.lim.length)) := Lib.hid (by
    rw [Bool.and_eq_true] at hl
    exact ⟨lenG_iff.1 hl.1, lenG_iff.1 hl.2⟩)
  have HSL := Lib.hid hsl
  have HCS := Lib.hid hcs
  have HT := Lib.hid hT
  have XT := Lib.hid hX
  have HB := Lib.hid hB
  have h48 : n ≤ 48 := by have h3 := (siteHead_iff.1 (stE_0 h0).2.1).1; omega
  clear hn hm h0 hl hsl hcs hT hX hB
  conv => arg 2; whnf
  go_loopw [13, 14, 15, 16] (fun iv _ _ _ wr => ∃ i : Nat, i ≤ m ∧ iv = .int .i64 i ∧ Hid (Below W0.heap.size W0 wr ∧ ∀ x, x < i → ∀ k, k ≤ S.lim.length → levG (cs.getD x default) (T.inn.getD x []) (T.out.getD x []) S.lim.length k = true)) (fun iv _ _ _ _ => m - (intOf iv).toNat)
  case atStart => exact ⟨0, Nat.zero_le _, rfl, Lib.hid ⟨Below.refl _ _, fun x hx => absurd hx (Nat.not_lt_zero _)⟩⟩
  case round =>
    obtain ⟨i, hi, rfl, HJ⟩ := hrel
    have HBW := Lib.hid (HB.out.trans (HJ.out.1.mono HB.out.size))
    by_cases hlt : i < m
    · have hii : (i : Int) < (m : Int) := by omega
      have il : i < cs.length := by rw [← HM.out]; exact hlt
      have HGO : Hid ((∀ k, k ≤ S.lim.length → levG (cs.getD i default) (T.inn.getD i []) (T.out.getD i []) S.lim.length k = true) → ∀ x, x < i + 1 → ∀ k, k ≤ S.lim.length → levG (cs.getD x default) (T.inn.getD x []) (T.out.getD x []) S.lim.length k = true) := Lib.hid (fun h x hx => by
        by_cases e : x = i
        · subst e; exact h
        · exact HJ.out.2 x (by omega))
      have HBAD : Hid (∀ k, k ≤ S.lim.length → levG (cs.getD i default) (T.inn.getD i []) (T.out.getD i []) S.lim.length k = false → plE S cs T = 19) := Lib.hid (fun k hk h => plE_lev H0.out HL.out HSL.out il hk h)
      have HRB := Lib.hid (row_bd H0.out HL.out (fun k hk x hx => slotE_cars (HSL.out k hk) x hx) il)
      have HOK := Lib.hid ((stE_0 H0.out).2.2.2 i il)
      obtain ⟨ad, hE2, abl, c0, c1, c2, c3, c4, TT, cT, c5, hcT, HTT⟩ := (HCS.out.below HBW.out (Nat.le_refl _)) i il
      subst hE2
      have HTR := Lib.hid HTT
      clear HTT
      obtain ⟨pa, hP2, pal, PT, cPT, p0, pb, pi⟩ := (HT.out.below HBW.out (Nat.le_refl _)).1 i (by rw [HLG.out.1.1]; exact il)
      obtain ⟨qa, hQ2, qal, QT, cQT, q0, qb, qi⟩ := (HT.out.below HBW.out (Nat.le_refl _)).2 i (by rw [HLG.out.2.1]; exact il)
      subst hP2
      subst hQ2
      have L1 := HLG.out.1.2 i il
      have L2 := HLG.out.2.2 i il
      rw [L1, ← HN.out] at p0 pb
      rw [L2, ← HN.out] at q0 qb
      rw [← HN.out] at HGO HBAD HRB HOK
      generalize hcc : cs.getD i default = c at *
      clear hcc
      obtain ⟨cap, inn, out, start, fin, trips⟩ := c
      simp only at c0 c1 c2 c3 c4 c5 hcT HTR
      generalize T.inn.getD i [] = xr at *
      generalize T.out.getD i [] = yr at *
      obtain ⟨qn, hqn⟩ : ∃ qn, qn = trips.length := ⟨_, rfl⟩
      rw [← hqn] at c5 hcT
      have HQN := Lib.hid hqn
      have HPI := Lib.hid pi
      have HQI := Lib.hid qi
      have HXL := Lib.hid (L1.trans HN.out.symm)
      have HYL := Lib.hid (L2.trans HN.out.symm)
      clear hqn pi qi L1 L2
      have HUS : Hid (∀ (k : Nat) V, Below wr.heap.size wr V → Calls Try.prog 86 #[.agg #[.int .i64 cap, .int .i64 inn, .int .i64 out, .int .i64 start, .int .i64 fin, .slice TT qn cT], .int .i64 ((k : Nat) : Int)] V fun e w' => e = .returned (.int .i64 (useC ⟨cap, inn, out, start, fin, trips⟩ k)) ∧ Below V.heap.size V w') := Lib.hid (fun k V hV => by
        have := use_c (.int .i64 cap) (.int .i64 inn) (.int .i64 out) (.int .i64 start) (.int .i64 fin) k _ n TT trips qn cT V HQN.out hcT (HTR.out.below hV (Nat.le_refl _)) (carOk_iff.1 HOK.out).2
        rw [show useC ⟨cap, inn, out, start, fin, trips⟩ k = useP trips k qn from by rw [HQN.out]; rfl]
        exact this)
      have HLC : Hid (∀ V, Below wr.heap.size wr V → Calls Try.prog 83 #[.agg #[.int .i64 cap, .int .i64 inn, .int .i64 out, .int .i64 start, .int .i64 fin, .slice TT qn cT], .slice PT n cPT, .slice QT n cQT] V fun e w' => ∃ g c, e = .returned (.slice (some ⟨g, 0, none⟩) (n + 1) c) ∧ OwnI V.heap.size w' g c (lvN ⟨cap, inn, out, start, fin, trips⟩ xr yr (n + 1)) ∧ Below V.heap.size V w') := Lib.hid (fun V hV => levelsR_c cap inn out start fin trips xr yr TT PT QT qn n cT cPT cQT V HQN.out hcT (HTR.out.below hV (Nat.le_refl _)) HOK.out h48 pb qb (HPI.out.below hV (Nat.le_refl _)) (HQI.out.below hV (Nat.le_refl _)) HRB.out.1 HRB.out.2)
      have HP0 : Hid (∀ V, Below wr.heap.size wr V → (V.cell? (pa.add i) = some (.slice PT n cPT) ∧ (pa.add i).block < V.heap.size) ∧ (V.cell? (qa.add i) = some (.slice QT n cQT) ∧ (qa.add i).block < V.heap.size)) := Lib.hid (fun V hV => by
        have k := hV.size
        exact ⟨⟨(hV.cell (by rw [block_add]; omega)).trans p0, by rw [block_add]; omega⟩, ⟨(hV.cell (by rw [block_add]; omega)).trans q0, by rw [block_add]; omega⟩⟩)
      have HY0 : Hid (∀ k, k < n → ∀ V, Below wr.heap.size wr V → ∃ qd, QT = some qd ∧ V.cell? (qd.add k) = some (.int .i64 (yr.getD k 0)) ∧ (qd.add k).block < V.heap.size) := Lib.hid (fun k hk V hV => by
        obtain ⟨qd, e, h1, h2⟩ := (HQI.out.below hV (Nat.le_refl _)) k (by rw [HYL.out]; exact hk)
        exact ⟨qd, e, h2, by rw [block_add]; exact h1⟩)
      have HXT : Hid (∀ V, Below wr.heap.size wr V → Blk V bt 55 [.slice (some pa) m cP, .slice (some qa) m cQ]) := Lib.hid (fun V hV => XT.out.below (HJ.out.1.trans (hV.mono HJ.out.1.size)) XT.out.lt)
      clear p0 q0 pal qal
      go_upto_region 33 with fail
      have HWX := Lib.hid ((Below.refl wr.heap.size wr).alloc (Nat.le_refl _) (.cells #[.int .i64 cap, .int .i64 inn, .int .i64 out, .int .i64 start, .int .i64 fin, .slice TT qn cT] 63))
      have XC := Lib.hid (Blk.new' wr #[.int .i64 cap, .int .i64 inn, .int .i64 out, .int .i64 start, .int .i64 fin, .slice TT qn cT] 63)
      clear c0 c1 c2 c3 c4 c5 abl
      generalize wr.alloc (.cells #[.int .i64 cap, .int .i64 inn, .int .i64 out, .int .i64 start, .int .i64 fin, .slice TT qn cT] 63) = wx at HWX XC ⊢
      obtain ⟨gc, hgc⟩ : ∃ gc, gc = wr.heap.size := ⟨_, rfl⟩
      rw [← hgc] at XC ⊢
      have HGC := Lib.hid hgc
      clear hgc
      refine wp_region_then 11 _ ?af rfl (by kernel_rfl) (by kernel_rfl) ?walk ?tail
      case walk =>
        intro V hV
        have hWV := HWX.out.trans (hV.mono HWX.out.size)
        obtain ⟨⟨pa0, pab⟩, ⟨qa0, qab⟩⟩ := HP0.out V hWV
        have XCV := XC.out.below hV XC.out.lt
        have e0 := XCV.cell 0 rfl
        have e1 := XCV.cell 1 rfl
        have e2 := XCV.cell 2 rfl
        have e3 := XCV.cell 3 rfl
        have e4 := XCV.cell 4 rfl
        have e5 := XCV.cell 5 rfl
        have el := XCV.lt
        clear XCV
        have XTV := HXT.out V hWV
        have t0 := XTV.cell 0 rfl
        have t1 := XTV.cell 1 rfl
        have tl := XTV.lt
        clear XTV
        clear hWV hV
        simp only [List.take_succ_cons, List.take_zero]
        repeat (go_big_quiet_step (fail))
        refine wpQuiet_nil ?_
        rfl
      intro w8 hb8
      have HW8 := Lib.hid (HWX.out.trans (hb8.mono HWX.out.size))
      have XC8 := Lib.hid (XC.out.below hb8 XC.out.lt)
      clear hb8 XC HWX
      go_simp
      refine (HLC.out w8 HW8.out).mono ?_
      rintro e w9 ⟨g, cg, rfl, ho9, hb9⟩
      have HO9 := Lib.hid ho9
      have HW9 := Lib.hid (HW8.out.trans (hb9.mono HW8.out.size))
      have XC9 := Lib.hid (XC8.out.below hb9 XC8.out.lt)
      clear ho9 hb9 HW8 XC8 HLC
      dsimp only
      (try simp only [Act.put, List.setIfInBounds_toArray, List.set_cons_zero, List.set_cons_succ])
      go_big_quiet_step (fail)
      refine wpQuiet_nil ?_
      intro xx
      have HO := Lib.hid (HO9.out.below xx.far)
      have HWY := Lib.hid (HW9.out.trans (xx.far.mono HW9.out.size))
      have XC := Lib.hid (XC9.out.below xx.far XC9.out.lt)
      generalize xx.w = wy at HO HWY XC ⊢
      clear HO9 HW9 XC9
      go_wp2_with fail
      go_loopw [16] (fun kv wr => ∃ k : Nat, k ≤ n + 1 ∧ kv = .int .i64 k ∧ Hid (Below wy.heap.size wy wr ∧ ∀ j, j < k → levG ⟨cap, inn, out, start, fin, trips⟩ xr yr n j = true)) (fun kv _ => n + 1 - (intOf kv).toNat)
      case atStart => exact ⟨0, Nat.zero_le _, rfl, Lib.hid ⟨Below.refl _ _, fun x hx => absurd hx (Nat.not_lt_zero _)⟩⟩
      case round =>
        obtain ⟨k, hk, rfl, HZ⟩ := hrel
        have HWZ := Lib.hid (HWY.out.trans (HZ.out.1.mono HWY.out.size))
        by_cases hlt3 : k < n + 1
        · have hki : (k : Int) ≤ (n : Int) := by omega
          have HG1 : Hid (levG ⟨cap, inn, out, start, fin, trips⟩ xr yr n k = true → ∀ j, j < k + 1 → levG ⟨cap, inn, out, start, fin, trips⟩ xr yr n j = true) := Lib.hid (fun h j hj => by
            by_cases e : j = k
            · subst e; exact h
            · exact HZ.out.2 j (by omega))
          have HB1 := Lib.hid (HBAD.out k (by omega))
          have ow := (HO.out.below HZ.out.1).cell k (by rw [lvN_len]; exact hlt3)
          rw [lvN_get hlt3] at ow
          have gl := (HO.out.below HZ.out.1).lt.2
          have XCV := XC.out.below HZ.out.1 XC.out.lt
          have e0 := XCV.cell 0 rfl
          have e1 := XCV.cell 1 rfl
          have e2 := XCV.cell 2 rfl
          have e3 := XCV.cell 3 rfl
          have e4 := XCV.cell 4 rfl
          have e5 := XCV.cell 5 rfl
          have el := XCV.lt
          clear XCV
          have HUK := Lib.hid (HUS.out k)
          have HV0 : Hid ((useC ⟨cap, inn, out, start, fin, trips⟩ k = useC ⟨cap, inn, out, start, fin, trips⟩ k) ∧ lev ⟨cap, inn, out, start, fin, trips⟩ xr yr k = lev ⟨cap, inn, out, start, fin, trips⟩ xr yr k) := Lib.hid ⟨rfl, rfl⟩
          have HLO := Lib.hid (fun (hk : k < n) h => HB1.out (levG_out (c := ⟨cap, inn, out, start, fin, trips⟩) (x := xr) (y := yr) hk h))
          have HLU := Lib.hid (fun (hk : k < n) h => HB1.out (levG_use (c := ⟨cap, inn, out, start, fin, trips⟩) (x := xr) (y := yr) hk h))
          have HLH := Lib.hid (fun h => HB1.out (levG_hi (c := ⟨cap, inn, out, start, fin, trips⟩) (x := xr) (y := yr) (n := n) (k := k) h))
          have HLI := Lib.hid (fun (hk : k < n) h1 h2 h3 => HG1.out (levG_in (c := ⟨cap, inn, out, start, fin, trips⟩) (x := xr) (y := yr) hk h1 h2 h3))
          have HLF : Hid (k = n → lev ⟨cap, inn, out, start, fin, trips⟩ xr yr k < fin → plE S cs T = 19) := Lib.hid (fun e h => HB1.out (by subst e; exact levG_fin (c := ⟨cap, inn, out, start, fin, trips⟩) h))
          have HLE : Hid (k = n → lev ⟨cap, inn, out, start, fin, trips⟩ xr yr k ≤ cap → fin ≤ lev ⟨cap, inn, out, start, fin, trips⟩ xr yr k → ∀ j, j < k + 1 → levG ⟨cap, inn, out, start, fin, trips⟩ xr yr n j = true) := Lib.hid (fun e h1 h2 => HG1.out (by subst e; exact levG_end (c := ⟨cap, inn, out, start, fin, trips⟩) h1 h2))
          clear HV0
          generalize lev ⟨cap, inn, out, start, fin, trips⟩ xr yr k = lv at *
          generalize useC ⟨cap, inn, out, start, fin, trips⟩ k = u at *
          simp only at HLH HLI HLO HLU
          by_cases g1 : cap < lv
          · have EE := Lib.hid (HLH.out g1)
            go_upto_region 37 with fail
            refine wp_region_past (by kernel_rfl) (by kernel_rfl) ?_
            repeat (go_big_quiet_step (fail))
            refine wpQuiet_nil ?_
            intro xx
            have HZ2 := Lib.hid (HZ.out.1.trans (xx.far.mono HZ.out.1.size))
            have HE2 := Lib.hid (HWZ.out.trans (xx.far.mono HWZ.out.size))
            generalize xx.w = w3 at HZ2 HE2 ⊢
            go_wp2_with fail
            go_ret
            exact ⟨ret_int EE.out.symm, HBW.out.trans (HE2.out.mono HBW.out.size)⟩
          by_cases hkn : k < n
          · have hkni : (k : Int) < (n : Int) := by omega
            have hkne : ((k : Int) == (n : Int)) = false := by simp; omega
            obtain ⟨qd, hqd, qd0, qdb⟩ := HY0.out k hkn wr HWZ.out
            subst hqd
            obtain ⟨_, ⟨qa0, qab⟩⟩ := HP0.out wr HWZ.out
            have XTV := HXT.out wr HWZ.out
            have t0 := XTV.cell 0 rfl
            have t1 := XTV.cell 1 rfl
            have tl := XTV.lt
            clear XTV
            generalize yr.getD k 0 = y at *
            by_cases g2 : lv < y
            · have EE := Lib.hid (HLO.out hkn g2)
              go_upto_region 37 with fail
              refine wp_region_past (by kernel_rfl) (by kernel_rfl) ?_
              repeat (go_big_quiet_step (fail))
              refine wpQuiet_nil ?_
              intro xx
              have HZ2 := Lib.hid (HZ.out.1.trans (xx.far.mono HZ.out.1.size))
              have HE2 := Lib.hid (HWZ.out.trans (xx.far.mono HWZ.out.size))
              generalize xx.w = w3 at HZ2 HE2 ⊢
              go_wp2_with fail
              go_ret
              exact ⟨ret_int EE.out.symm, HBW.out.trans (HE2.out.mono HBW.out.size)⟩
            by_cases g3 : lv < u
            · have EE := Lib.hid (HLU.out hkn g3)
              go_upto_region 37 with fail
              refine wp_region_past (by kernel_rfl) (by kernel_rfl) ?_
              repeat (go_big_quiet_step ((go_at_call 86; exact past_below (HUK.out _ (HWZ.out.trans ((Past.far _).mono HWZ.out.size))))))
              refine wpQuiet_nil ?_
              intro xx
              have HZ2 := Lib.hid (HZ.out.1.trans (xx.far.mono HZ.out.1.size))
              have HE2 := Lib.hid (HWZ.out.trans (xx.far.mono HWZ.out.size))
              generalize xx.w = w3 at HZ2 HE2 ⊢
              go_wp2_with fail
              go_ret
              exact ⟨ret_int EE.out.symm, HBW.out.trans (HE2.out.mono HBW.out.size)⟩
            · have EE := Lib.hid (HLI.out hkn (by omega) (by omega) (by omega))
              go_upto_region 37 with fail
              refine wp_region_past (by kernel_rfl) (by kernel_rfl) ?_
              repeat (go_big_quiet_step ((go_at_call 86; exact past_below (HUK.out _ (HWZ.out.trans ((Past.far _).mono HWZ.out.size))))))
              refine wpQuiet_nil ?_
              intro xx
              have HZ2 := Lib.hid (HZ.out.1.trans (xx.far.mono HZ.out.1.size))
              have HE2 := Lib.hid (HWZ.out.trans (xx.far.mono HWZ.out.size))
              generalize xx.w = w3 at HZ2 HE2 ⊢
              go_wp2_with fail
              exact ⟨⟨k + 1, by omega, by go_num, Lib.hid ⟨HZ2.out, EE.out⟩⟩, by simp [intOf]; omega⟩
          · have hkn2 : k = n := by omega
            have EF := Lib.hid (HLF.out hkn2)
            have EG := Lib.hid (HLE.out hkn2)
            have hkni : ¬ (k : Int) < (n : Int) := by omega
            have hkne : ((k : Int) == (n : Int)) = true := by rw [hkn2]; exact beq_self_eq_true _
            clear HLF HLE HLO HLU HLI hkn2
            by_cases g2 : lv < fin
            · have EE := Lib.hid (EF.out g2)
              go_upto_region 37 with fail
              refine wp_region_past (by kernel_rfl) (by kernel_rfl) ?_
              repeat (go_big_quiet_step (fail))
              refine wpQuiet_nil ?_
              intro xx
              have HZ2 := Lib.hid (HZ.out.1.trans (xx.far.mono HZ.out.1.size))
              have HE2 := Lib.hid (HWZ.out.trans (xx.far.mono HWZ.out.size))
              generalize xx.w = w3 at HZ2 HE2 ⊢
              go_wp2_with fail
              go_ret
              exact ⟨ret_int EE.out.symm, HBW.out.trans (HE2.out.mono HBW.out.size)⟩
            · have EE := Lib.hid (EG.out (by omega) (by omega))
              go_upto_region 37 with fail
              refine wp_region_past (by kernel_rfl) (by kernel_rfl) ?_
              repeat (go_big_quiet_step (fail))
              refine wpQuiet_nil ?_
              intro xx
              have HZ2 := Lib.hid (HZ.out.1.trans (xx.far.mono HZ.out.1.size))
              have HE2 := Lib.hid (HWZ.out.trans (xx.far.mono HWZ.out.size))
              generalize xx.w = w3 at HZ2 HE2 ⊢
              go_wp2_with fail
              exact ⟨⟨k + 1, by omega, by go_num, Lib.hid ⟨HZ2.out, EE.out⟩⟩, by simp [intOf]; omega⟩
        · obtain rfl : k = n + 1 := by omega
          have hki : ¬ ((n + 1 : Nat) : Int) ≤ (n : Int) := by omega
          have HFIN := Lib.hid (HGO.out (fun j hj => HZ.out.2 j (by omega)))
          have HFW := Lib.hid (HJ.out.1.trans (HWZ.out.mono HJ.out.1.size))
          rw [HN.out] at HFIN
          go_wp2_with fail
          go_roundw
          case measure => simp [intOf]; omega
          case rel => exact ⟨i + 1, by omega, by go_num, Lib.hid ⟨HFW.out, HFIN.out⟩⟩
    · obtain rfl : m = i := by omega
      have EE := Lib.hid (plE_good H0.out HL.out HSL.out (fun x hx => HJ.out.2 x (by rw [HM.out]; exact hx)))
      go_wp2_with fail
      conv => arg 2; whnf
      go_wp2_with fail
      go_ret
      exact ⟨ret_int EE.out.symm, HBW.out⟩
end Go.Proofs.Ytmebpglkeedaoaa
namespace Go.Proofs.Ytmebpglkeedaoaa
open Go.RowKit Dp
set_option maxHeartbeats 1000000 in
set_option maxRecDepth 100000 in
theorem drawnR_c (A B : Option Addr) (T : Tab) (m mo cA cB k : Nat) (w : World) (hm : m = T.inn.length) (hmo : mo = T.out.length) (hmm : m ≤ mo) (h8 : m ≤ 8) (hA : m ≤ cA ∧ cA ≤ 9223372036854775807) (hB : mo ≤ cB ∧ cB ≤ 9223372036854775807) (hT : TabAt w A B T) (hS : SlotBd T k m) :
    Calls Try.prog 85 #[.agg #[.slice A m cA, .slice B mo cB], .int .i64 k] w fun e w' => e = .returned (.int .i64 (drP T k m)) ∧ Below w.heap.size w w' := by
  have HM := Lib.hid hm
  have HMO := Lib.hid hmo
  have HT := Lib.hid hT
  have HS := Lib.hid hS
  have HD := Lib.hid (drP_bd hS)
  clear hm hmo hT hS
  have X := Lib.hid (Blk.new' w #[.slice A m cA, .slice B mo cB] 55)
  have HB := Lib.hid ((Below.refl w.heap.size w).alloc (Nat.le_refl _) (.cells #[.slice A m cA, .slice B mo cB] 55))
  go_enter Try.func85, Try.ntmps85
  go_upto_region 1 with fail
  generalize w.alloc (.cells #[.slice A m cA, .slice B mo cB] 55) = w1 at X HB ⊢
  go_wp2_with fail
  go_loopw [5, 6] (fun s i wr => ∃ j : Nat, j ≤ m ∧ i = .int .i64 j ∧ s = .int .i64 (drP T k j) ∧ Hid (Below w.heap.size w wr ∧ Blk wr w.heap.size 55 [.slice A m cA, .slice B mo cB])) (fun _ i _ => m - (intOf i).toNat)
  case atStart => exact ⟨0, Nat.zero_le _, rfl, rfl, Lib.hid ⟨HB.out, X.out⟩⟩
  case round =>
    obtain ⟨j, hj, rfl, rfl, HW⟩ := hrel
    have c0 := HW.out.2.cell 0 rfl
    have lt0 := HW.out.2.lt
    by_cases hlt : j < m
    · have hji : (j : Int) < (m : Int) := by omega
      have hjo : (j : Int) < (mo : Int) := by omega
      obtain ⟨ad, rfl, abl, P, cP, p0, pb, pi⟩ := (HT.out.1.below HW.out.1 (Nat.le_refl _)) j (by rw [← HM.out]; exact hlt)
      obtain ⟨bd, rfl, bbl, Q, cQ, q0, qb, qi⟩ := (HT.out.2.below HW.out.1 (Nat.le_refl _)) j (by rw [← HMO.out]; omega)
      have hs := HS.out j hlt
      obtain ⟨pd, rfl, pbl, px⟩ := pi k hs.1.1
      obtain ⟨qd, rfl, qbl, qx⟩ := qi k hs.1.2
      have hkp : (k : Int) < ((T.inn.getD j []).length : Int) := by omega
      have hkq : (k : Int) < ((T.out.getD j []).length : Int) := by omega
      have hb := HD.out j (by omega)
      have hb2 := hs.2
      have HST := Lib.hid (show drP T k (j + 1) = drP T k j + ((T.inn.getD j []).getD k 0 - (T.out.getD j []).getD k 0) from rfl)
      clear hs pi qi
      generalize (T.inn.getD j []).getD k 0 = x at *
      generalize (T.out.getD j []).getD k 0 = y at *
      generalize (T.inn.getD j []).length = np at *
      generalize (T.out.getD j []).length = nq at *
      generalize drP T k j = d at *
      have c1 := HW.out.2.cell 1 rfl
      go_upto_region 5 with fail
      have w1e : IntKind.i64.wrap (x - y) = x - y := IntWalk.i64_in _ (by omega)
      have w2e : IntKind.i64.wrap (d + (x - y)) = d + (x - y) := IntWalk.i64_in _ (by omega)
      have ab2 : (ad.add j).block < wr.heap.size := by rw [block_add]; exact abl
      have bb2 : (bd.add j).block < wr.heap.size := by rw [block_add]; exact bbl
      have pb2 : (pd.add k).block < wr.heap.size := by rw [block_add]; exact pbl
      have qb2 : (qd.add k).block < wr.heap.size := by rw [block_add]; exact qbl
      clear hb hb2
      refine wp_region_past (by kernel_rfl) (by kernel_rfl) ?_
      repeat (go_big_quiet_step (fail))
      refine wpQuiet_nil ?_
      intro xx
      have HX := Lib.hid (HW.out.1.trans (xx.far.mono HW.out.1.size))
      have BX := Lib.hid (HW.out.2.below xx.far HW.out.2.lt)
      generalize xx.w = w3 at HX BX ⊢
      clear c0 c1 lt0 ab2 bb2 pb2 qb2 w1e w2e p0 q0 px qx
      go_wp2_with fail
      exact ⟨⟨j + 1, by omega, by go_num, by rw [HST.out], Lib.hid ⟨HX.out, BX.out⟩⟩, by simp [intOf]; omega⟩
    · obtain rfl : j = m := by omega
      go_wp2_with fail
      go_ret
      exact ⟨rfl, HW.out.1⟩
set_option maxHeartbeats 4000000 in
set_option maxRecDepth 100000 in
theorem price_c (A B C D P Q : Option Addr) (S : Site) (T : Tab) (n nB nC nD m mo cA cB cC cD cP cQ : Nat) (w : World) (hn : n = S.lim.length) (hnC : n = S.buy.length) (hnD : n = S.sell.length) (hm : m = T.inn.length) (hmo : mo = T.out.length) (hmm : m ≤ mo) (h8 : m ≤ 8) (h48 : n ≤ 48) (hC1 : nC = n) (hD1 : nD = n)
    (hP : m ≤ cP ∧ cP ≤ 9223372036854775807) (hQ : mo ≤ cQ ∧ cQ ≤ 9223372036854775807) (hS : SiteAt w A B C D S) (hT : TabAt w P Q T) (hB : ∀ k, k < n → slotOk S k = true ∧ SlotBd T k m) :
    Calls Try.prog 81 #[.agg #[.slice A nD cA, .slice B nB cB, .slice C nD cC, .slice D nD cD], .agg #[.slice P m cP, .slice Q mo cQ]] w fun e w' => e = .returned (.int .i64 (prc S T m n)) ∧ Below w.heap.size w w' := by
  subst hC1
  subst hD1
  have HN := Lib.hid hn
  have HC := Lib.hid hnC
  have HD := Lib.hid hnD
  have HM := Lib.hid hm
  have HMO := Lib.hid hmo
  have HS := Lib.hid hS
  have HT := Lib.hid hT
  have HBD := Lib.hid hB
  have F89 : Hid (∀ k V, k < nD → Below w.heap.size w V → Calls Try.prog 89 #[.agg #[.slice P m cP, .slice Q mo cQ], .int .i64 k] V fun e w' => e = .returned (.int .i64 (drP T k m)) ∧ Below V.heap.size V w') := Lib.hid (fun k V hk hV => drawn_c P Q T m mo cP cQ k V hm hmo hmm h8 hP hQ (hT.below hV (Nat.le_refl _)) (hB k hk).2)
  have HPB := Lib.hid (fun k (hk : k ≤ nD) => prc_bd (S := S) (T := T) h8 k (fun j hj => hB j (by omega)))
  have HQB := Lib.hid (fun k (hk : k < nD) => prQ_bd (hB k hk).1 (hB k hk).2 h8)
  clear hn hnC hnD hm hmo hS hT hB
  have HB := Lib.hid (((Below.refl w.heap.size w).alloc (Nat.le_refl _) (.cells #[.slice A nD cA, .slice B nB cB, .slice C nD cC, .slice D nD cD] 51)).alloc (by simp) (.cells #[.slice P m cP, .slice Q mo cQ] 55))
  have XS := Lib.hid ((Blk.new' w #[.slice A nD cA, .slice B nB cB, .slice C nD cC, .slice D nD cD] 51).alloc (.cells #[.slice P m cP, .slice Q mo cQ] 55))
  have XT := Lib.hid (show Blk ((w.alloc (.cells #[.slice A nD cA, .slice B nB cB, .slice C nD cC, .slice D nD cD] 51)).alloc (.cells #[.slice P m cP, .slice Q mo cQ] 55)) (w.heap.size + 1) 55 [.slice P m cP, .slice Q mo cQ] from by simpa using Blk.new' (w.alloc (.cells #[.slice A nD cA, .slice B nB cB, .slice C nD cC, .slice D nD cD] 51)) #[.slice P m cP, .slice Q mo cQ] 55)
  go_enter Try.func81, Try.ntmps81
  go_upto_region 1 with fail
  generalize (w.alloc (.cells #[.slice A nD cA, .slice B nB cB, .slice C nD cC, .slice D nD cD] 51)).alloc (.cells #[.slice P m cP, .slice Q mo cQ] 55) = w1 at HB XS XT ⊢
  have s0 := XS.out.cell 0 rfl
  go_wp2_with fail
  clear s0
  go_loopw [4, 5, 6, 10] (fun sv _ _ iv wr => ∃ j : Nat, j ≤ nD ∧ iv = .int .i64 j ∧ sv = .int .i64 (prc S T m j) ∧ Hid (Below w1.heap.size w1 wr)) (fun _ _ _ iv _ => nD - (intOf iv).toNat)
  case atStart => exact ⟨0, Nat.zero_le _, rfl, rfl, Lib.hid (Below.refl _ _)⟩
  case round =>
    obtain ⟨j, hj, rfl, rfl, HW⟩ := hrel
    have HX := Lib.hid (HB.out.trans (HW.out.mono HB.out.size))
    by_cases hlt : j < nD
    · have hji : (j : Int) < (nD : Int) := by omega
      have XTW := XT.out.below HW.out XT.out.lt
      have t0 := XTW.cell 0 rfl
      have t1 := XTW.cell 1 rfl
      have tl := XTW.lt
      clear XTW
      have HF := F89.out j wr hlt HX.out
      have HPV := HPB.out j hj
      have HQV := HQB.out j hlt
      have HST : Hid (prc S T m (j + 1) = prc S T m j + prQ S T m j) := Lib.hid rfl
      have HQD : Hid (prQ S T m j = max 0 (drP T j m) * S.buy.getD j 0 + min 0 (drP T j m) * S.sell.getD j 0) := Lib.hid rfl
      have HDD := Lib.hid (fun V (hV : Below w.heap.size w V) => (⟨(HS.out.below hV (Nat.le_refl _)).2.2.1 j (by rw [← HC.out]; exact hlt), (HS.out.below hV (Nat.le_refl _)).2.2.2 j (by rw [← HD.out]; exact hlt)⟩ : _ ∧ _))
      generalize S.buy.getD j 0 = by1 at *
      generalize S.sell.getD j 0 = se at *
      generalize drP T j m = d at *
      go_wp2_with fail
      refine HF.mono ?_
      rintro e w2 ⟨rfl, hb⟩
      have HW2 := Lib.hid (HW.out.trans (hb.mono HW.out.size))
      have HX2 := Lib.hid (HB.out.trans (HW2.out.mono HB.out.size))
      clear hb HF HX HW t0 t1 tl
      have XSW := XS.out.below HW2.out XS.out.lt
      have s2 := XSW.cell 2 rfl
      have s3 := XSW.cell 3 rfl
      have sl := XSW.lt
      clear XSW
      obtain ⟨⟨ba, hba, bal, bx⟩, sa, hsa, sal, sx⟩ := HDD.out w2 HX2.out
      rw [hba] at s2
      rw [hsa] at s3
      have ba2 : (ba.add j).block < w2.heap.size := by rw [block_add]; exact bal
      have sa2 : (sa.add j).block < w2.heap.size := by rw [block_add]; exact sal
      clear hba hsa HDD
      generalize prc S T m j = pv at *
      have hm1 := fun ts t W => maxTwo 0 d ts t W
      have hm2 := fun ts t W => minTwo 0 d ts t W
      generalize max 0 d = dx at *
      generalize min 0 d = dn at *
      obtain ⟨q1, hq1⟩ : ∃ q1, q1 = dx * by1 := ⟨_, rfl⟩
      obtain ⟨q2, hq2⟩ : ∃ q2, q2 = dn * se := ⟨_, rfl⟩
      rw [← hq1, ← hq2] at HQV
      have w1e : IntKind.i64.wrap (dx * by1) = q1 := by rw [← hq1]; exact IntWalk.i64_in _ (by omega)
      have w2e : IntKind.i64.wrap (dn * se) = q2 := by rw [← hq2]; exact IntWalk.i64_in _ (by omega)
      have w3e : IntKind.i64.wrap (q1 + q2) = q1 + q2 := IntWalk.i64_in _ (by omega)
      have w4e : IntKind.i64.wrap (pv + (q1 + q2)) = pv + (q1 + q2) := IntWalk.i64_in _ (by omega)
      have HE : Hid (prc S T m (j + 1) = pv + (q1 + q2)) := Lib.hid (by rw [HST.out, HQD.out, hq1, hq2])
      clear hq1 hq2 HPV HQV HQD HST
      go_upto_region 5 with fail
      refine wp_region_past (by kernel_rfl) (by kernel_rfl) ?_
      repeat (go_big_quiet_step (fail))
      refine wpQuiet_nil ?_
      intro xx
      have HY := Lib.hid (HW2.out.trans (xx.far.mono HW2.out.size))
      generalize xx.w = w3 at HY ⊢
      clear s2 s3 sl bal sal bx sx ba2 sa2 w1e w2e w3e w4e hm1 hm2
      go_wp2_with fail
      exact ⟨⟨j + 1, by omega, by go_num, by rw [HE.out], HY⟩, by simp [intOf]; omega⟩
    · obtain rfl : j = nD := by omega
      go_wp2_with fail
      go_ret
      exact ⟨rfl, HX.out⟩
set_option maxHeartbeats 4000000 in
set_option maxRecDepth 100000 in
theorem priceR_c (A B C D P Q : Option Addr) (S : Site) (T : Tab) (n nB nC nD m mo cA cB cC cD cP cQ : Nat) (w : World) (hn : n = S.lim.length) (hnC : n = S.buy.length) (hnD : n = S.sell.length) (hm : m = T.inn.length) (hmo : mo = T.out.length) (hmm : m ≤ mo) (h8 : m ≤ 8) (h48 : n ≤ 48) (hC1 : nC = n) (hD1 : nD = n)
    (hP : m ≤ cP ∧ cP ≤ 9223372036854775807) (hQ : mo ≤ cQ ∧ cQ ≤ 9223372036854775807) (hS : SiteAt w A B C D S) (hT : TabAt w P Q T) (hB : ∀ k, k < n → slotOk S k = true ∧ SlotBd T k m) :
    Calls Try.prog 82 #[.agg #[.slice A nD cA, .slice B nB cB, .slice C nD cC, .slice D nD cD], .agg #[.slice P m cP, .slice Q mo cQ]] w fun e w' => e = .returned (.int .i64 (prc S T m n)) ∧ Below w.heap.size w w' := by
  subst hC1
  subst hD1
  have HN := Lib.hid hn
  have HC := Lib.hid hnC
  have HD := Lib.hid hnD
  have HM := Lib.hid hm
  have HMO := Lib.hid hmo
  have HS := Lib.hid hS
  have HT := Lib.hid hT
  have HBD := Lib.hid hB
  have F89 : Hid (∀ k V, k < nD → Below w.heap.size w V → Calls Try.prog 85 #[.agg #[.slice P m cP, .slice Q mo cQ], .int .i64 k] V fun e w' => e = .returned (.int .i64 (drP T k m)) ∧ Below V.heap.size V w') := Lib.hid (fun k V hk hV => drawnR_c P Q T m mo cP cQ k V hm hmo hmm h8 hP hQ (hT.below hV (Nat.le_refl _)) (hB k hk).2)
  have HPB := Lib.hid (fun k (hk : k ≤ nD) => prc_bd (S := S) (T := T) h8 k (fun j hj => hB j (by omega)))
  have HQB := Lib.hid (fun k (hk : k < nD) => prQ_bd (hB k hk).1 (hB k hk).2 h8)
  clear hn hnC hnD hm hmo hS hT hB
  have HB := Lib.hid (((Below.refl w.heap.size w).alloc (Nat.le_refl _) (.cells #[.slice A nD cA, .slice B nB cB, .slice C nD cC, .slice D nD cD] 51)).alloc (by simp) (.cells #[.slice P m cP, .slice Q mo cQ] 55))
  have XS := Lib.hid ((Blk.new' w #[.slice A nD cA, .slice B nB cB, .slice C nD cC, .slice D nD cD] 51).alloc (.cells #[.slice P m cP, .slice Q mo cQ] 55))
  have XT := Lib.hid (show Blk ((w.alloc (.cells #[.slice A nD cA, .slice B nB cB, .slice C nD cC, .slice D nD cD] 51)).alloc (.cells #[.slice P m cP, .slice Q mo cQ] 55)) (w.heap.size + 1) 55 [.slice P m cP, .slice Q mo cQ] from by simpa using Blk.new' (w.alloc (.cells #[.slice A nD cA, .slice B nB cB, .slice C nD cC, .slice D nD cD] 51)) #[.slice P m cP, .slice Q mo cQ] 55)
  go_enter Try.func82, Try.ntmps82
  go_upto_region 1 with fail
  generalize (w.alloc (.cells #[.slice A nD cA, .slice B nB cB, .slice C nD cC, .slice D nD cD] 51)).alloc (.cells #[.slice P m cP, .slice Q mo cQ] 55) = w1 at HB XS XT ⊢
  go_wp2_with fail
  go_loopw [5, 6, 7] (fun sv iv _ wr => ∃ j : Nat, j ≤ nD ∧ iv = .int .i64 j ∧ sv = .int .i64 (prc S T m j) ∧ Hid (Below w1.heap.size w1 wr)) (fun _ iv _ _ => nD - (intOf iv).toNat)
  case atStart => exact ⟨0, Nat.zero_le _, rfl, rfl, Lib.hid (Below.refl _ _)⟩
  case round =>
    obtain ⟨j, hj, rfl, rfl, HW⟩ := hrel
    have HX := Lib.hid (HB.out.trans (HW.out.mono HB.out.size))
    have XSW := XS.out.below HW.out XS.out.lt
    have s0 := XSW.cell 0 rfl
    have sl := XSW.lt
    clear XSW
    by_cases hlt : j < nD
    · have hji : (j : Int) < (nD : Int) := by omega
      have XTW := XT.out.below HW.out XT.out.lt
      have t0 := XTW.cell 0 rfl
      have t1 := XTW.cell 1 rfl
      have tl := XTW.lt
      clear XTW
      have HF := F89.out j wr hlt HX.out
      have HPV := HPB.out j hj
      have HQV := HQB.out j hlt
      have HST : Hid (prc S T m (j + 1) = prc S T m j + prQ S T m j) := Lib.hid rfl
      have HQD : Hid (prQ S T m j = max 0 (drP T j m) * S.buy.getD j 0 + min 0 (drP T j m) * S.sell.getD j 0) := Lib.hid rfl
      have HQ1 := Lib.hid (fun h => prQ_pos (S := S) (T := T) (m := m) (k := j) h)
      have HQ2 := Lib.hid (fun h => prQ_neg (S := S) (T := T) (m := m) (k := j) h)
      have HDD := Lib.hid (fun V (hV : Below w.heap.size w V) => (⟨(HS.out.below hV (Nat.le_refl _)).2.2.1 j (by rw [← HC.out]; exact hlt), (HS.out.below hV (Nat.le_refl _)).2.2.2 j (by rw [← HD.out]; exact hlt)⟩ : _ ∧ _))
      generalize S.buy.getD j 0 = by1 at *
      generalize S.sell.getD j 0 = se at *
      generalize drP T j m = d at *
      go_wp2_with fail
      refine HF.mono ?_
      rintro e w2 ⟨rfl, hb⟩
      have HW2 := Lib.hid (HW.out.trans (hb.mono HW.out.size))
      have HX2 := Lib.hid (HB.out.trans (HW2.out.mono HB.out.size))
      clear hb HF HX HW t0 t1 tl s0 sl
      have XSW := XS.out.below HW2.out XS.out.lt
      have s2 := XSW.cell 2 rfl
      have s3 := XSW.cell 3 rfl
      have sl := XSW.lt
      clear XSW
      obtain ⟨⟨ba, hba, bal, bx⟩, sa, hsa, sal, sx⟩ := HDD.out w2 HX2.out
      rw [hba] at s2
      rw [hsa] at s3
      have ba2 : (ba.add j).block < w2.heap.size := by rw [block_add]; exact bal
      have sa2 : (sa.add j).block < w2.heap.size := by rw [block_add]; exact sal
      clear hba hsa HDD
      by_cases hd : 0 < d
      · have HE := Lib.hid (HST.out.trans (by rw [HQ1.out hd]))
        have HQW := HQD.out
        rw [HQ1.out (by omega)] at HQW
        obtain ⟨q1, hq1⟩ : ∃ q1, q1 = max 0 d * by1 := ⟨_, rfl⟩
        obtain ⟨q2, hq2⟩ : ∃ q2, q2 = min 0 d * se := ⟨_, rfl⟩
        rw [← hq1, ← hq2] at HQV HQW
        obtain ⟨q, hq⟩ : ∃ q, q = d * by1 := ⟨_, rfl⟩
        rw [← hq] at HQW
        have HE2 : Hid (prc S T m (j + 1) = prc S T m j + q) := Lib.hid (by rw [HE.out, hq])
        generalize prc S T m j = pv at *
        have w1e : IntKind.i64.wrap (d * by1) = q := by rw [← hq]; exact IntWalk.i64_in _ (by omega)
        have w4e : IntKind.i64.wrap (pv + q) = pv + q := IntWalk.i64_in _ (by omega)
        clear hq hq1 hq2 HPV HQV HQW HE HQ1 HQ2 HQD HST
        go_wp2_with fail
        exact ⟨⟨j + 1, by omega, by go_num, by rw [HE2.out], HW2⟩, by simp [intOf]; omega⟩
      · have HE := Lib.hid (HST.out.trans (by rw [HQ2.out (by omega)]))
        have HQW := HQD.out
        rw [HQ2.out (by omega)] at HQW
        obtain ⟨q1, hq1⟩ : ∃ q1, q1 = max 0 d * by1 := ⟨_, rfl⟩
        obtain ⟨q2, hq2⟩ : ∃ q2, q2 = min 0 d * se := ⟨_, rfl⟩
        rw [← hq1, ← hq2] at HQV HQW
        obtain ⟨q, hq⟩ : ∃ q, q = d * se := ⟨_, rfl⟩
        rw [← hq] at HQW
        have HE2 : Hid (prc S T m (j + 1) = prc S T m j + q) := Lib.hid (by rw [HE.out, hq])
        generalize prc S T m j = pv at *
        have w1e : IntKind.i64.wrap (d * se) = q := by rw [← hq]; exact IntWalk.i64_in _ (by omega)
        have w4e : IntKind.i64.wrap (pv + q) = pv + q := IntWalk.i64_in _ (by omega)
        clear hq hq1 hq2 HPV HQV HQW HE HQ1 HQ2 HQD HST
        go_wp2_with fail
        exact ⟨⟨j + 1, by omega, by go_num, by rw [HE2.out], HW2⟩, by simp [intOf]; omega⟩
    · obtain rfl : j = nD := by omega
      go_wp2_with fail
      go_ret
      exact ⟨rfl, HX.out⟩
end Go.Proofs.Ytmebpglkeedaoaa
namespace Go.Proofs.Ytmebpglkeedaoaa
open Go.RowKit Dp
theorem within_b {x lo hi : Int} {b : Bool} (h : b = decide (lo ≤ x ∧ x ≤ hi)) (w : World) : Calls Try.prog 60 #[.int .i64 x, .int .i64 lo, .int .i64 hi] w fun e w' => e = .returned (.bool b) ∧ w = w' := by
  rw [h]; exact within_c x lo hi w
noncomputable def loop41b : Code := ((Try.f41.body.bind (blockOf 4)).getD .skip)
noncomputable def end41b : Code := ((Try.f41.body.bind (behind 4)).getD .skip)
set_option maxHeartbeats 8000000 in
set_option maxRecDepth 100000 in
theorem plr4 (A B C D E P Q : Option Addr) (S : Site) (cs : List Car) (T : Tab) (n nB nC nD m cA cB cC cD cE cP cQ : Nat) (w W0 : World) (bt : Nat) (hn : n = S.lim.length) (hnB : nB = S.exp.length) (hm : m = cs.length) (hE : m ≤ cE ∧ cE ≤ 9223372036854775807) (hP : m ≤ cP ∧ cP ≤ 9223372036854775807) (hQ : m ≤ cQ ∧ cQ ≤ 9223372036854775807)
    (h0 : stE S cs = 0) (hl : (lenG cs.length S.lim.length T.inn && lenG cs.length S.lim.length T.out) = true) (hS : SiteAt w A B C D S) (hcs : CarsAt w E cs) (hT : TabAt w P Q T) (hXS : Blk W0 w.heap.size 51 [.slice A n cA, .slice B nB cB, .slice C nC cC, .slice D nD cD]) (hX : Blk W0 bt 55 [.slice P m cP, .slice Q m cQ]) (hB : Below w.heap.size w W0)
    {K : Act → World → Prop} (hK : ∀ a w', Code.wp Try.prog end41b (bodyPost Try.prog Try.f41 (R41 S cs T w)) a w' → K a w') {x0 x2 x4 x6 x8 x9 x11 x12 x13 x14 x15 x16 x17 x18 x19 x20 x21 x22 x23 x24 x25 x26 x27 x28 x29 x30 x31 x32 x33 x34 x35 x36 x37 x38 x39 x40 x41 x42 x43 x44 x45 x46 x47 x48 x49 x50 x51 x52 x53 x54 x55 x56 x57 x58 x59 x60 x61 x62 x63 x64 x65 x66 x67 x68 x69 x70 x71 x72 x73 x74 x75 x76 x77 x78 x79 x80 x81 x82 x83 x84 x85 x86 x87 x88 x89 x90 x91 x92 x93 x94 x95 x96 x97 x98 x99 x100 x101 x102 x103 x104 x105 x106 x107 x108 x109 x110 x111 x112 x113 x114 x115 x116 x117 x118 x119 x120 x121 x122 x123 x124 x125 x126 x127 x128 x129 x130 x131 x132 x133 x134 x135 x136 x137 x138 x139 x140 x141 x142 x143 x144 x145 x146 x147 x148 x149 x150 x151 x152 x153 x154 x155 x156 x157 x158 x159 x160 x161 x162 x163 x164 x165 x166 x167 x168 x169 x170 x171 x172 x173 x174 x175 x176 x177 x178 x179 x180 x181 x182 x183 x184 x185 x186 x187 x188 x189 x190 x191 x192 x193 x194 x195 x196 x197 x198 x199 x200 x201 x202 x203 x204 x205 x206 x207 x208 x209 x210 x211 x212 x213 x214 x215 x216 x217 x218 x219 x220 x221 x222 x223 x224 x225 x226 x227 x228 : Value} :
    Code.wp Try.prog loop41b (Exit.inBlock 4 (Exit.then K (bodyPost Try.prog Try.f41 (R41 S cs T w)))) { tmps := List.toArray (x0 :: (.slice E m cE : Value) :: x2 :: (.pointer (some ⟨w.heap.size, 0, none⟩) : Value) :: x4 :: (.pointer (some ⟨bt, 0, none⟩) : Value) :: x6 :: (.int .i64 n : Value) :: x8 :: x9 :: (.int .i64 0 : Value) :: x11 :: x12 :: x13 :: x14 :: x15 :: x16 :: x17 :: x18 :: x19 :: x20 :: x21 :: x22 :: x23 :: x24 :: x25 :: x26 :: x27 :: x28 :: x29 :: x30 :: x31 :: x32 :: x33 :: x34 :: x35 :: x36 :: x37 :: x38 :: x39 :: x40 :: x41 :: x42 :: x43 :: x44 :: x45 :: x46 :: x47 :: x48 :: x49 :: x50 :: x51 :: x52 :: x53 :: x54 :: x55 :: x56 :: x57 :: x58 :: x59 :: x60 :: x61 :: x62 :: x63 :: x64 :: x65 :: x66 :: x67 :: x68 :: x69 :: x70 :: x71 :: x72 :: x73 :: x74 :: x75 :: x76 :: x77 :: x78 :: x79 :: x80 :: x81 :: x82 :: x83 :: x84 :: x85 :: x86 :: x87 :: x88 :: x89 :: x90 :: x91 :: x92 :: x93 :: x94 :: x95 :: x96 :: x97 :: x98 :: x99 :: x100 :: x101 :: x102 :: x103 :: x104 :: x105 :: x106 :: x107 :: x108 :: x109 :: x110 :: x111 :: x112 :: x113 :: x114 :: x115 :: x116 :: x117 :: x118 :: x119 :: x120 :: x121 :: x122 :: x123 :: x124 :: x125 :: x126 :: x127 :: x128 :: x129 :: x130 :: x131 :: x132 :: x133 :: x134 :: x135 :: x136 :: x137 :: x138 :: x139 :: x140 :: x141 :: x142 :: x143 :: x144 :: x145 :: x146 :: x147 :: x148 :: x149 :: x150 :: x151 :: x152 :: x153 :: x154 :: x155 :: x156 :: x157 :: x158 :: x159 :: x160 :: x161 :: x162 :: x163 :: x164 :: x165 :: x166 :: x167 :: x168 :: x169 :: x170 :: x171 :: x172 :: x173 :: x174 :: x175 :: x176 :: x177 :: x178 :: x179 :: x180 :: x181 :: x182 :: x183 :: x184 :: x185 :: x186 :: x187 :: x188 :: x189 :: x190 :: x191 :: x192 :: x193 :: x194 :: x195 :: x196 :: x197 :: x198 :: x199 :: x200 :: x201 :: x202 :: x203 :: x204 :: x205 :: x206 :: x207 :: x208 :: x209 :: x210 :: x211 :: x212 :: x213 :: x214 :: x215 :: x216 :: x217 :: x218 :: x219 :: x220 :: x221 :: x222 :: x223 :: x224 :: x225 :: x226 :: x227 :: x228 :: []), defers := [] } W0 := by
  have HN := Lib.hid hn
  have HM := Lib.hid hm
  have H0 := Lib.hid h0
  have HL := Lib.hid hl
  have HLG : Hid ((T.inn.length = cs.length ∧ ∀ i, i < cs.length → (T.inn.getD i []).length = S.lim.length) ∧ (T.out.length = cs.length ∧ ∀ i, i < cs.length → (T.out.getD i []).length = S.lim.length)) := Lib.hid (by
    rw [Bool.and_eq_true] at hl
    exact ⟨lenG_iff.1 hl.1, lenG_iff.1 hl.2⟩)
  have HS := Lib.hid hS
  have HCS := Lib.hid hcs
  have HT := Lib.hid hT
  have XT := Lib.hid hX
  have XS := Lib.hid hXS
  have HB := Lib.hid hB
  have SH := Lib.hid (siteHead_iff.1 (stE_0 h0).2.1)
  have h48 : n ≤ 48 := by have h3 := (siteHead_iff.1 (stE_0 h0).2.1).1; omega
  have h8 : m ≤ 8 := by have h3 := (stE_0 h0).1; omega
  obtain rfl : nB = n := by have h3 := SH.out.2.1; omega
  clear hn hnB hm h0 hl hS hcs hT hX hXS hB
  conv => arg 2; whnf
  go_loopw [10, 11, 12] (fun iv _ _ wr => ∃ k : Nat, k ≤ nB ∧ iv = .int .i64 k ∧ Hid (Below W0.heap.size W0 wr ∧ ∀ j, j < k → slotE S cs T j = 0)) (fun iv _ _ _ => nB - (intOf iv).toNat)
  case atStart => exact ⟨0, Nat.zero_le _, rfl, Lib.hid ⟨Below.refl _ _, fun x hx => absurd hx (Nat.not_lt_zero _)⟩⟩
  case round =>
    obtain ⟨k, hk, rfl, HJ⟩ := hrel
    have HBW := Lib.hid (HB.out.trans (HJ.out.1.mono HB.out.size))
    by_cases hlt : k < nB
    · have hki : (k : Int) < (nB : Int) := by omega
      have kS : k < S.lim.length := by rw [← HN.out]; exact hlt
      go_wp2_with fail
      go_loopw [11, 12] (fun iv _ wr => ∃ i : Nat, i ≤ m ∧ iv = .int .i64 i ∧ Hid (Below W0.heap.size W0 wr ∧ ∀ x, x < i → carAt cs T k x = true)) (fun iv _ _ => m - (intOf iv).toNat)
      case atStart => exact ⟨0, Nat.zero_le _, rfl, Lib.hid ⟨HJ.out.1, fun x hx => absurd hx (Nat.not_lt_zero _)⟩⟩
      case round =>
        obtain ⟨i, hi, rfl, HI⟩ := hrel
        have HBI := Lib.hid (HB.out.trans (HI.out.1.mono HB.out.size))
        by_cases hlt2 : i < m
        · have hii : (i : Int) < (m : Int) := by omega
          have il : i < cs.length := by rw [← HM.out]; exact hlt2
          have HCA := Lib.hid (show carAt cs T k i = carG (cs.getD i default) ((T.inn.getD i []).getD k 0) ((T.out.getD i []).getD k 0) (awayC (cs.getD i default) k) from rfl)
          have HEE : Hid (carAt cs T k i = false → plE S cs T = 3) := Lib.hid (fun h => plE_slot H0.out HL.out kS HJ.out.2 (slotE_car il h) (by decide))
          have HGO : Hid (carAt cs T k i = true → ∀ x, x < i + 1 → carAt cs T k x = true) := Lib.hid (fun h x hx => by
            by_cases e : x = i
            · subst e; exact h
            · exact HI.out.2 x (by omega))
          obtain ⟨ad, hE2, abl, c0, c1, c2, c3, c4, TT, cT, c5, hcT, HTT⟩ := (HCS.out.below HBI.out (Nat.le_refl _)) i il
          subst hE2
          have HTR := Lib.hid HTT
          clear HTT
          obtain ⟨pa, hP2, pal, PT, cPT, p0, pb, pi⟩ := (HT.out.below HBI.out (Nat.le_refl _)).1 i (by rw [HLG.out.1.1]; exact il)
          obtain ⟨qa, hQ2, qal, QT, cQT, q0, qb, qi⟩ := (HT.out.below HBI.out (Nat.le_refl _)).2 i (by rw [HLG.out.2.1]; exact il)
          subst hP2
          subst hQ2
          have L1 := HLG.out.1.2 i il
          have L2 := HLG.out.2.2 i il
          rw [L1, ← HN.out] at p0 pb
          rw [L2, ← HN.out] at q0 qb
          obtain ⟨pd, hpd, pdl, px⟩ := pi k (by rw [L1]; exact kS)
          obtain ⟨qd, hqd, qdl, qx⟩ := qi k (by rw [L2]; exact kS)
          subst hpd
          subst hqd
          generalize carAt cs T k i = ca at *
          generalize hcc : cs.getD i default = c at *
          clear hcc
          obtain ⟨cap, inn, out, start, fin, trips⟩ := c
          simp only at c0 c1 c2 c3 c4 c5 hcT HTR
          generalize (T.inn.getD i []).getD k 0 = x at *
          generalize (T.out.getD i []).getD k 0 = y at *
          obtain ⟨qn, hqn⟩ : ∃ qn, qn = trips.length := ⟨_, rfl⟩
          rw [← hqn] at c5 hcT
          have HQN := Lib.hid hqn
          clear hqn pi qi L1 L2
          obtain ⟨aw, haw⟩ : ∃ aw, aw = awayC ⟨cap, inn, out, start, fin, trips⟩ k := ⟨_, rfl⟩
          rw [← haw] at HCA
          have HAW : Hid (∀ V, Below wr.heap.size wr V → Calls Try.prog 84 #[.agg #[.int .i64 cap, .int .i64 inn, .int .i64 out, .int .i64 start, .int .i64 fin, .slice TT qn cT], .int .i64 ((k : Nat) : Int)] V fun e w' => e = .returned (.bool aw) ∧ Below V.heap.size V w') := Lib.hid (fun V hV => by
            have := away_c (.int .i64 cap) (.int .i64 inn) (.int .i64 out) (.int .i64 start) (.int .i64 fin) k TT trips qn cT V HQN.out hcT (HTR.out.below hV (Nat.le_refl _))
            rw [haw, show awayC ⟨cap, inn, out, start, fin, trips⟩ k = awayP trips k qn from by rw [HQN.out]; rfl]
            exact this)
          clear haw
          have HCG := Lib.hid (HCA.out.trans rfl)
          have HP0 : Hid (∀ V, Below wr.heap.size wr V → ((V.cell? (pa.add i) = some (.slice (some pd) nB cPT) ∧ (pa.add i).block < V.heap.size) ∧ (V.cell? (qa.add i) = some (.slice (some qd) nB cQT) ∧ (qa.add i).block < V.heap.size)) ∧ ((V.cell? (pd.add k) = some (.int .i64 x) ∧ (pd.add k).block < V.heap.size) ∧ (V.cell? (qd.add k) = some (.int .i64 y) ∧ (qd.add k).block < V.heap.size))) := Lib.hid (fun V hV => by
            have z := hV.size
            exact ⟨⟨⟨(hV.cell (by rw [block_add]; omega)).trans p0, by rw [block_add]; omega⟩, ⟨(hV.cell (by rw [block_add]; omega)).trans q0, by rw [block_add]; omega⟩⟩, ⟨⟨(hV.cell (by rw [block_add]; omega)).trans px, by rw [block_add]; omega⟩, ⟨(hV.cell (by rw [block_add]; omega)).trans qx, by rw [block_add]; omega⟩⟩⟩)
          clear p0 q0 pal qal px qx pdl qdl
          go_upto_region 25 with fail
          have HWX := Lib.hid ((Below.refl wr.heap.size wr).alloc (Nat.le_refl _) (.cells #[.int .i64 cap, .int .i64 inn, .int .i64 out, .int .i64 start, .int .i64 fin, .slice TT qn cT] 63))
          have XC := Lib.hid (Blk.new' wr #[.int .i64 cap, .int .i64 inn, .int .i64 out, .int .i64 start, .int .i64 fin, .slice TT qn cT] 63)
          clear c0 c1 c2 c3 c4 c5 abl
          generalize wr.alloc (.cells #[.int .i64 cap, .int .i64 inn, .int .i64 out, .int .i64 start, .int .i64 fin, .slice TT qn cT] 63) = wx at HWX XC ⊢
          obtain ⟨gc, hgc⟩ : ∃ gc, gc = wr.heap.size := ⟨_, rfl⟩
          rw [← hgc] at XC ⊢
          clear hgc
          obtain ⟨⟨⟨pa0, pab⟩, ⟨qa0, qab⟩⟩, ⟨⟨px0, pxb⟩, ⟨qx0, qxb⟩⟩⟩ := HP0.out wx HWX.out
          have e0 := XC.out.cell 0 rfl
          have e1 := XC.out.cell 1 rfl
          have e2 := XC.out.cell 2 rfl
          have e3 := XC.out.cell 3 rfl
          have e4 := XC.out.cell 4 rfl
          have e5 := XC.out.cell 5 rfl
          have el := XC.out.lt
          have XTV := XT.out.below (HI.out.1.trans (HWX.out.mono HI.out.1.size)) XT.out.lt
          have t0 := XTV.cell 0 rfl
          have t1 := XTV.cell 1 rfl
          have tl := XTV.lt
          clear XTV
          by_cases g1 : 0 ≤ x ∧ x ≤ inn
          rotate_left
          · have W1 := Lib.hid (fun V => within_b (x := x) (lo := 0) (hi := inn) (b := false) (decide_eq_false g1).symm V)
            have EE := Lib.hid (HEE.out (by rw [HCA.out]; exact decide_eq_false (fun h => by simp only at h; omega)))
            refine wp_region_past (by kernel_rfl) (by kernel_rfl) ?_
            repeat (go_big_quiet_step ((go_at_call 60; exact past_same (W1.out _))))
            refine wpQuiet_nil ?_
            intro xx
            have HZ := Lib.hid (HI.out.1.trans ((HWX.out.trans (xx.far.mono HWX.out.size)).mono HI.out.1.size))
            generalize xx.w = w3 at HZ ⊢
            go_wp2_with fail
            go_ret
            exact ⟨ret_int EE.out.symm, HB.out.trans (HZ.out.mono HB.out.size)⟩
          have W1 := Lib.hid (fun V => within_b (x := x) (lo := 0) (hi := inn) (b := true) (decide_eq_true g1).symm V)
          by_cases g2 : 0 ≤ y ∧ y ≤ out
          rotate_left
          · have W2 := Lib.hid (fun V => within_b (x := y) (lo := 0) (hi := out) (b := false) (decide_eq_false g2).symm V)
            have EE := Lib.hid (HEE.out (by rw [HCA.out]; exact decide_eq_false (fun h => by simp only at h; omega)))
            refine wp_region_past (by kernel_rfl) (by kernel_rfl) ?_
            repeat (go_big_quiet_step ((first | (go_at_call 60; first | with_reducible exact past_same (W1.out _) | with_reducible exact past_same (W2.out _)) | (go_at_call 84; exact past_below (HAW.out _ (HWX.out.trans ((Past.far _).mono HWX.out.size)))))))
            refine wpQuiet_nil ?_
            intro xx
            have HZ := Lib.hid (HI.out.1.trans ((HWX.out.trans (xx.far.mono HWX.out.size)).mono HI.out.1.size))
            generalize xx.w = w3 at HZ ⊢
            go_wp2_with fail
            go_ret
            exact ⟨ret_int EE.out.symm, HB.out.trans (HZ.out.mono HB.out.size)⟩
          have W2 := Lib.hid (fun V => within_b (x := y) (lo := 0) (hi := out) (b := true) (decide_eq_true g2).symm V)
          cases aw
          · have EE := Lib.hid (HGO.out (by rw [HCA.out]; exact decide_eq_true (by simp only; refine ⟨g1, g2, fun h => ?_⟩; cases h)))
            refine wp_region_past (by kernel_rfl) (by kernel_rfl) ?_
            repeat (go_big_quiet_step ((first | (go_at_call 60; first | with_reducible exact past_same (W1.out _) | with_reducible exact past_same (W2.out _)) | (go_at_call 84; exact past_below (HAW.out _ (HWX.out.trans ((Past.far _).mono HWX.out.size)))))))
            refine wpQuiet_nil ?_
            intro xx
            have HZ := Lib.hid (HI.out.1.trans ((HWX.out.trans (xx.far.mono HWX.out.size)).mono HI.out.1.size))
            generalize xx.w = w3 at HZ ⊢
            go_wp2_with fail
            exact ⟨⟨i + 1, by omega, by go_num, Lib.hid ⟨HZ.out, EE.out⟩⟩, by simp [intOf]; omega⟩
          · by_cases g3 : x = 0
            · subst g3
              by_cases g4 : y = 0
              · subst g4
                have EE := Lib.hid (HGO.out (by rw [HCA.out]; exact decide_eq_true (by simp only; exact ⟨g1, g2, fun _ => rfl⟩)))
                refine wp_region_past (by kernel_rfl) (by kernel_rfl) ?_
                repeat (go_big_quiet_step ((first | (go_at_call 60; first | with_reducible exact past_same (W1.out _) | with_reducible exact past_same (W2.out _)) | (go_at_call 84; exact past_below (HAW.out _ (HWX.out.trans ((Past.far _).mono HWX.out.size)))))))
                refine wpQuiet_nil ?_
                intro xx
                have HZ := Lib.hid (HI.out.1.trans ((HWX.out.trans (xx.far.mono HWX.out.size)).mono HI.out.1.size))
                generalize xx.w = w3 at HZ ⊢
                go_wp2_with fail
                exact ⟨⟨i + 1, by omega, by go_num, Lib.hid ⟨HZ.out, EE.out⟩⟩, by simp [intOf]; omega⟩
              · have g4b : (y == 0) = false := by simpa using g4
                have EE := Lib.hid (HEE.out (by rw [HCA.out]; exact decide_eq_false (fun h => by simp only at h; have := h.2.2 (by trivial); omega)))
                refine wp_region_past (by kernel_rfl) (by kernel_rfl) ?_
                repeat (go_big_quiet_step ((first | (go_at_call 60; first | with_reducible exact past_same (W1.out _) | with_reducible exact past_same (W2.out _)) | (go_at_call 84; exact past_below (HAW.out _ (HWX.out.trans ((Past.far _).mono HWX.out.size)))))))
                refine wpQuiet_nil ?_
                intro xx
                have HZ := Lib.hid (HI.out.1.trans ((HWX.out.trans (xx.far.mono HWX.out.size)).mono HI.out.1.size))
                generalize xx.w = w3 at HZ ⊢
                go_wp2_with fail
                go_ret
                exact ⟨ret_int EE.out.symm, HB.out.trans (HZ.out.mono HB.out.size)⟩
            · have g3b : (x == 0) = false := by simpa using g3
              have g3c : (x != 0) = true := by simpa using g3
              have g3d : decide (x = 0) = false := by simpa using g3
              have EE := Lib.hid (HEE.out (by rw [HCA.out]; exact decide_eq_false (fun h => by simp only at h; have := h.2.2 (by trivial); omega)))
              refine wp_region_past (by kernel_rfl) (by kernel_rfl) ?_
              repeat (go_big_quiet_step ((first | (go_at_call 60; first | with_reducible exact past_same (W1.out _) | with_reducible exact past_same (W2.out _)) | (go_at_call 84; exact past_below (HAW.out _ (HWX.out.trans ((Past.far _).mono HWX.out.size)))))))
              refine wpQuiet_nil ?_
              intro xx
              have HZ := Lib.hid (HI.out.1.trans ((HWX.out.trans (xx.far.mono HWX.out.size)).mono HI.out.1.size))
              generalize xx.w = w3 at HZ ⊢
              go_wp2_with fail
              go_ret
              exact ⟨ret_int EE.out.symm, HB.out.trans (HZ.out.mono HB.out.size)⟩
        · obtain rfl : m = i := by omega
          have HALL : Hid (∀ x, x < cs.length → carAt cs T k x = true) := Lib.hid (fun x hx => HI.out.2 x (by rw [HM.out]; exact hx))
          have HSB := Lib.hid (slot_bd H0.out HL.out kS HALL.out)
          have HTI : Hid (m = T.inn.length ∧ m = T.out.length) := Lib.hid ⟨HM.out.trans HLG.out.1.1.symm, HM.out.trans HLG.out.2.1.symm⟩
          rw [← HM.out] at HSB
          have HDR := Lib.hid (fun V (hV : Below w.heap.size w V) => drawnR_c P Q T m m cP cQ k V HTI.out.1 HTI.out.2 (Nat.le_refl _) h8 hP hQ (HT.out.below hV (Nat.le_refl _)) HSB.out)
          have HLIM : Hid (¬ (drP T k m ≤ S.lim.getD k 0 ∧ -(S.exp.getD k 0) ≤ drP T k m) → plE S cs T = 17) := Lib.hid (fun h => plE_slot H0.out HL.out kS HJ.out.2 (slotE_lim HALL.out (by rw [← HTI.out.1]; exact h)) (by decide))
          have HNX : Hid ((drP T k m ≤ S.lim.getD k 0 ∧ -(S.exp.getD k 0) ≤ drP T k m) → ∀ j, j < k + 1 → slotE S cs T j = 0) := Lib.hid (fun h j hj => by
            by_cases e : j = k
            · subst e; exact slotE_ok HALL.out (by rw [← HTI.out.1]; exact h)
            · exact HJ.out.2 j (by omega))
          have SB := slotOk_iff.1 ((stE_0 H0.out).2.2.1 k kS)
          obtain ⟨la, hla, lal, lx⟩ := (HS.out.below HBI.out (Nat.le_refl _)).1 k kS
          obtain ⟨ea, hea, eal, ex⟩ := (HS.out.below HBI.out (Nat.le_refl _)).2.1 k (by rw [SH.out.2.1]; exact kS)
          have XSV := XS.out.below HI.out.1 XS.out.lt
          have s0 := XSV.cell 0 rfl
          have s1 := XSV.cell 1 rfl
          have sl := XSV.lt
          have XTV := XT.out.below HI.out.1 XT.out.lt
          have t0 := XTV.cell 0 rfl
          have t1 := XTV.cell 1 rfl
          have tl := XTV.lt
          clear XTV XSV
          rw [hla] at s0
          rw [hea] at s1
          have la2 : (la.add k).block < wr.heap.size := by rw [block_add]; exact lal
          have ea2 : (ea.add k).block < wr.heap.size := by rw [block_add]; exact eal
          clear hla hea
          generalize S.lim.getD k 0 = lm at *
          generalize S.exp.getD k 0 = ep at *
          generalize drP T k m = d at *
          have wne : IntKind.i64.wrap (-ep) = -ep := IntWalk.i64_in _ (by omega)
          clear SB
          go_upto_region 27 with fail
          by_cases g : -ep ≤ d ∧ d ≤ lm
          · have W3 := Lib.hid (fun V => within_b (x := d) (lo := -ep) (hi := lm) (b := true) (decide_eq_true g).symm V)
            have EE := Lib.hid (HNX.out ⟨g.2, g.1⟩)
            refine wp_region_past (by kernel_rfl) (by kernel_rfl) ?_
            repeat (go_big_quiet_step ((first | (go_at_call 60; exact past_same (W3.out _)) | (go_at_call 85; exact past_below (HDR.out _ (HBI.out.trans ((Past.far _).mono HBI.out.size)))))))
            refine wpQuiet_nil ?_
            intro xx
            have HZ := Lib.hid (HI.out.1.trans (xx.far.mono HI.out.1.size))
            generalize xx.w = w3 at HZ ⊢
            go_wp2_with fail
            go_roundw
            case measure => simp [intOf]; omega
            case rel => exact ⟨k + 1, by omega, by go_num, Lib.hid ⟨HZ.out, EE.out⟩⟩
          · have W3 := Lib.hid (fun V => within_b (x := d) (lo := -ep) (hi := lm) (b := false) (decide_eq_false g).symm V)
            have EE := Lib.hid (HLIM.out (fun h => g ⟨h.2, h.1⟩))
            refine wp_region_past (by kernel_rfl) (by kernel_rfl) ?_
            repeat (go_big_quiet_step ((first | (go_at_call 60; exact past_same (W3.out _)) | (go_at_call 85; exact past_below (HDR.out _ (HBI.out.trans ((Past.far _).mono HBI.out.size)))))))
            refine wpQuiet_nil ?_
            intro xx
            have HZ := Lib.hid (HI.out.1.trans (xx.far.mono HI.out.1.size))
            generalize xx.w = w3 at HZ ⊢
            go_wp2_with fail
            go_ret
            exact ⟨ret_int EE.out.symm, HB.out.trans (HZ.out.mono HB.out.size)⟩
    · obtain rfl : nB = k := by omega
      have HSS : Hid (∀ j, j < S.lim.length → slotE S cs T j = 0) := Lib.hid (fun j hj => HJ.out.2 j (by rw [HN.out]; exact hj))
      have XTE := Lib.hid (XT.out.below HJ.out.1 XT.out.lt)
      go_wp2_with fail
      conv => arg 2; whnf
      go_wp2_with fail
      rename_i KK hKK
      refine wp_codeP (c' := loop41c) (by kernel_rfl) ?_
      exact plr8 A B C D E P Q S cs T nB nB nC nD m cA cB cC cD cE cP cQ w wr bt HN.out HM.out hE hP hQ H0.out HL.out HSS.out HCS.out HT.out XTE.out HBW.out (fun a w' h => hKK a w' (wp_codeP (by kernel_rfl) h))
end Go.Proofs.Ytmebpglkeedaoaa
namespace Go.Proofs.Ytmebpglkeedaoaa
open Go.RowKit Dp
set_option maxHeartbeats 4000000 in
set_option maxRecDepth 100000 in
theorem car_c (cap inn out start fin : Int) (trips : List Trip) (T : Option Addr) (n q cT : Nat) (w : World) (hq : q = trips.length) (hcT : q ≤ cT ∧ cT ≤ 9223372036854775807) (hT : TripsAt w T trips) :
    Calls Try.prog 73 #[.agg #[.int .i64 cap, .int .i64 inn, .int .i64 out, .int .i64 start, .int .i64 fin, .slice T q cT], .int .i64 n] w fun e w' => e = .returned (.bool (carOk n ⟨cap, inn, out, start, fin, trips⟩)) ∧ Below w.heap.size w w' := by
  have HQ := Lib.hid hq
  have XC := Lib.hid (Blk.new' w #[.int .i64 cap, .int .i64 inn, .int .i64 out, .int .i64 start, .int .i64 fin, .slice T q cT] 63)
  have HX := Lib.hid ((Below.refl w.heap.size w).alloc (Nat.le_refl _) (.cells #[.int .i64 cap, .int .i64 inn, .int .i64 out, .int .i64 start, .int .i64 fin, .slice T q cT] 63))
  have HTR := Lib.hid (hT.below HX.out (Nat.le_refl _))
  clear hq hT
  go_enter Try.func73, Try.ntmps73
  go_upto_region 1 with fail
  generalize w.alloc (.cells #[.int .i64 cap, .int .i64 inn, .int .i64 out, .int .i64 start, .int .i64 fin, .slice T q cT] 63) = w1 at XC HX HTR ⊢
  have e0 := XC.out.cell 0 rfl
  have e1 := XC.out.cell 1 rfl
  have e2 := XC.out.cell 2 rfl
  have e3 := XC.out.cell 3 rfl
  have e4 := XC.out.cell 4 rfl
  have e5 := XC.out.cell 5 rfl
  by_cases a0 : 1 ≤ cap ∧ cap ≤ 1048576
  rotate_left
  · have f0 : inB cap 1 1048576 = false := decide_eq_false a0
    have EE := Lib.hid (carOk_head (n := n) (c := ⟨cap, inn, out, start, fin, trips⟩) (by simp only [carHead]; exact decide_eq_false (fun h => by omega)))
    clear a0
    go_wp2_with (go_at_call 60; refine (within_c _ _ _ _).mono ?_; rintro e w9 ⟨rfl, rfl⟩)
    go_ret
    exact ⟨ret_bool EE.out.symm, HX.out⟩
  have f0 : inB cap 1 1048576 = true := decide_eq_true a0
  by_cases a1 : 0 ≤ inn ∧ inn ≤ 1048576
  rotate_left
  · have f1 : inB inn 0 1048576 = false := decide_eq_false a1
    have EE := Lib.hid (carOk_head (n := n) (c := ⟨cap, inn, out, start, fin, trips⟩) (by simp only [carHead]; exact decide_eq_false (fun h => by omega)))
    clear a0 a1
    go_wp2_with (go_at_call 60; refine (within_c _ _ _ _).mono ?_; rintro e w9 ⟨rfl, rfl⟩)
    go_ret
    exact ⟨ret_bool EE.out.symm, HX.out⟩
  have f1 : inB inn 0 1048576 = true := decide_eq_true a1
  by_cases a2 : 0 ≤ out ∧ out ≤ 1048576
  rotate_left
  · have f2 : inB out 0 1048576 = false := decide_eq_false a2
    have EE := Lib.hid (carOk_head (n := n) (c := ⟨cap, inn, out, start, fin, trips⟩) (by simp only [carHead]; exact decide_eq_false (fun h => by omega)))
    clear a0 a1 a2
    go_wp2_with (go_at_call 60; refine (within_c _ _ _ _).mono ?_; rintro e w9 ⟨rfl, rfl⟩)
    go_ret
    exact ⟨ret_bool EE.out.symm, HX.out⟩
  have f2 : inB out 0 1048576 = true := decide_eq_true a2
  by_cases a3 : 0 ≤ start ∧ start ≤ cap
  rotate_left
  · have f3 : inB start 0 cap = false := decide_eq_false a3
    have EE := Lib.hid (carOk_head (n := n) (c := ⟨cap, inn, out, start, fin, trips⟩) (by simp only [carHead]; exact decide_eq_false (fun h => by omega)))
    clear a0 a1 a2 a3
    go_wp2_with (go_at_call 60; refine (within_c _ _ _ _).mono ?_; rintro e w9 ⟨rfl, rfl⟩)
    go_ret
    exact ⟨ret_bool EE.out.symm, HX.out⟩
  have f3 : inB start 0 cap = true := decide_eq_true a3
  by_cases a4 : 0 ≤ fin ∧ fin ≤ cap
  rotate_left
  · have f4 : inB fin 0 cap = false := decide_eq_false a4
    have EE := Lib.hid (carOk_head (n := n) (c := ⟨cap, inn, out, start, fin, trips⟩) (by simp only [carHead]; exact decide_eq_false (fun h => by omega)))
    clear a0 a1 a2 a3 a4
    go_wp2_with (go_at_call 60; refine (within_c _ _ _ _).mono ?_; rintro e w9 ⟨rfl, rfl⟩)
    go_ret
    exact ⟨ret_bool EE.out.symm, HX.out⟩
  have f4 : inB fin 0 cap = true := decide_eq_true a4
  by_cases a5 : 4 < q
  · have a5i : (4 : Int) < (q : Int) := by omega
    have EE := Lib.hid (carOk_head (n := n) (c := ⟨cap, inn, out, start, fin, trips⟩) (by simp only [carHead]; exact decide_eq_false (fun h => by have := HQ.out; omega)))
    clear a0 a1 a2 a3 a4
    go_wp2_with (go_at_call 60; refine (within_c _ _ _ _).mono ?_; rintro e w9 ⟨rfl, rfl⟩)
    go_ret
    exact ⟨ret_bool EE.out.symm, HX.out⟩
  have a5i : ¬ (4 : Int) < (q : Int) := by omega
  have HHD : Hid (carHead ⟨cap, inn, out, start, fin, trips⟩ = true) := Lib.hid (by simp only [carHead]; exact decide_eq_true (by have := HQ.out; omega))
  clear a0 a1 a2 a3 a4
  go_upto_region 3 with (go_at_call 60; refine (within_c _ _ _ _).mono ?_; rintro e w9 ⟨rfl, rfl⟩)
  clear f0 f1 f2 f3 f4 e0 e1 e2 e3 e4 e5 a5i
  go_wp2_with fail
  go_loopw [5, 6, 7] (fun bk iv _ wr => ∃ k : Nat, k ≤ q ∧ iv = .int .i64 k ∧ bk = .int .i64 (backAt trips k) ∧ Hid (Below w.heap.size w wr ∧ Blk wr w.heap.size 63 [.int .i64 cap, .int .i64 inn, .int .i64 out, .int .i64 start, .int .i64 fin, .slice T q cT] ∧ TripsAt wr T trips ∧ ∀ x, x < k → tripOk cap n trips x = true)) (fun _ iv _ _ => q - (intOf iv).toNat)
  case atStart => exact ⟨0, Nat.zero_le _, rfl, rfl, Lib.hid ⟨HX.out, XC.out, HTR.out, fun j hj => absurd hj (Nat.not_lt_zero _)⟩⟩
  case round =>
    obtain ⟨k, hk, rfl, rfl, HK⟩ := hrel
    have e5 := HK.out.2.1.cell 5 rfl
    by_cases hlt : k < q
    · have hki : (k : Int) < (q : Int) := by omega
      have kl : k < trips.length := by rw [← HQ.out]; exact hlt
      obtain ⟨td, rfl, tbl, t0, t1, t2⟩ := HK.out.2.2.1 k kl
      have HOK := Lib.hid (show tripOk cap n trips k = decide (backAt trips k ≤ (trips.getD k default).fr ∧ (trips.getD k default).fr < (trips.getD k default).to ∧ (trips.getD k default).to ≤ n ∧ (0 ≤ (trips.getD k default).use ∧ (trips.getD k default).use ≤ cap)) from rfl)
      have HBK := Lib.hid (show backAt trips (k + 1) = (trips.getD k default).to from rfl)
      have HBD : Hid (tripOk cap n trips k = false → carOk n ⟨cap, inn, out, start, fin, trips⟩ = false) := Lib.hid (fun h => carOk_trip (c := ⟨cap, inn, out, start, fin, trips⟩) k kl h)
      generalize trips.getD k default = tr at *
      obtain ⟨fr, «to», us⟩ := tr
      simp only at t0 t1 t2 HOK HBK
      generalize hbk : backAt trips k = bk at *
      clear hbk
      go_upto_region 8 with fail
      have HZ := Lib.hid (HK.out.1.alloc (by have := HK.out.2.1.lt; omega) (.cells #[.int .i64 fr, .int .i64 «to», .int .i64 us] 65))
      have ZC := Lib.hid (Blk.alloc HK.out.2.1 (.cells #[.int .i64 fr, .int .i64 «to», .int .i64 us] 65))
      have ZT := Lib.hid (Blk.new' wr #[.int .i64 fr, .int .i64 «to», .int .i64 us] 65)
      have ZTR := Lib.hid (HK.out.2.2.1.below ((Below.refl wr.heap.size wr).alloc (Nat.le_refl _) (.cells #[.int .i64 fr, .int .i64 «to», .int .i64 us] 65)) (Nat.le_refl _))
      generalize wr.alloc (.cells #[.int .i64 fr, .int .i64 «to», .int .i64 us] 65) = wz at HZ ZC ZT ZTR ⊢
      generalize wr.heap.size = gt at *
      clear t0 t1 t2 tbl e5
      have f0 := ZT.out.cell 0 rfl
      have f1 := ZT.out.cell 1 rfl
      have f2 := ZT.out.cell 2 rfl
      have e0 := ZC.out.cell 0 rfl
      by_cases s1 : fr < bk
      · have EE := Lib.hid (HBD.out (by rw [HOK.out]; exact decide_eq_false (fun h => by omega)))
        go_wp2_with fail
        go_ret
        exact ⟨ret_bool EE.out.symm, HZ.out⟩
      by_cases s2 : «to» ≤ fr
      · have EE := Lib.hid (HBD.out (by rw [HOK.out]; exact decide_eq_false (fun h => by omega)))
        go_wp2_with fail
        go_ret
        exact ⟨ret_bool EE.out.symm, HZ.out⟩
      by_cases s3 : (n : Int) < «to»
      · have EE := Lib.hid (HBD.out (by rw [HOK.out]; exact decide_eq_false (fun h => by omega)))
        go_wp2_with fail
        go_ret
        exact ⟨ret_bool EE.out.symm, HZ.out⟩
      by_cases s4 : 0 ≤ us ∧ us ≤ cap
      · have g4 : inB us 0 cap = true := decide_eq_true s4
        have SS := Lib.hid (show tripOk cap n trips k = true from by rw [HOK.out]; exact decide_eq_true (by omega))
        clear s4
        go_wp2_with (go_at_call 60; refine (within_c _ _ _ _).mono ?_; rintro e w9 ⟨rfl, rfl⟩)
        go_roundw
        case measure => simp [intOf]; omega
        case rel =>
          refine ⟨k + 1, by omega, by go_num, by rw [HBK.out], Lib.hid ⟨HZ.out, ZC.out, ZTR.out, fun x hx => ?_⟩⟩
          by_cases hxk : x < k
          · exact HK.out.2.2.2 x hxk
          · obtain rfl : x = k := by omega
            exact SS.out
      · have g4 : inB us 0 cap = false := decide_eq_false s4
        have EE := Lib.hid (HBD.out (by rw [HOK.out]; exact decide_eq_false (fun h => by omega)))
        clear s4
        go_wp2_with (go_at_call 60; refine (within_c _ _ _ _).mono ?_; rintro e w9 ⟨rfl, rfl⟩)
        go_ret
        exact ⟨ret_bool EE.out.symm, HZ.out⟩
    · obtain rfl : k = q := by omega
      have HCK := Lib.hid (carOk_ok (n := n) (c := ⟨cap, inn, out, start, fin, trips⟩) HHD.out (fun x hx => HK.out.2.2.2 x (by rw [HQ.out]; exact hx)))
      go_wp2_with fail
      go_ret
      exact ⟨ret_bool HCK.out.symm, HK.out.1⟩
set_option maxHeartbeats 8000000 in
set_option maxRecDepth 100000 in
theorem CheckSiteR_c (A B C D E : Option Addr) (S : Site) (cs : List Car) (n nB nC nD m cA cB cC cD cE : Nat) (w : World) (hn : n = S.lim.length) (hnB : nB = S.exp.length) (hnC : nC = S.buy.length) (hnD : nD = S.sell.length) (hm : m = cs.length)
    (hA : n ≤ cA ∧ cA ≤ 9223372036854775807) (hB : nB ≤ cB ∧ cB ≤ 9223372036854775807) (hC : nC ≤ cC ∧ cC ≤ 9223372036854775807) (hD : nD ≤ cD ∧ cD ≤ 9223372036854775807) (hE : m ≤ cE ∧ cE ≤ 9223372036854775807)
    (hS : SiteAt w A B C D S) (hcs : CarsAt w E cs) :
    Calls Try.prog 31 #[.agg #[.slice A n cA, .slice B nB cB, .slice C nC cC, .slice D nD cD], .slice E m cE] w fun e w' => e = .returned (.int .i64 (stE S cs)) ∧ Below w.heap.size w w' := by
  have HN := Lib.hid hn
  have HNB := Lib.hid hnB
  have HNC := Lib.hid hnC
  have HND := Lib.hid hnD
  have HM := Lib.hid hm
  have HS := Lib.hid hS
  have HCS := Lib.hid hcs
  clear hn hnB hnC hnD hm hS hcs
  have X := Lib.hid (Blk.new' w #[.slice A n cA, .slice B nB cB, .slice C nC cC, .slice D nD cD] 51)
  have HB := Lib.hid ((Below.refl w.heap.size w).alloc (Nat.le_refl _) (.cells #[.slice A n cA, .slice B nB cB, .slice C nC cC, .slice D nD cD] 51))
  go_enter Try.func31, Try.ntmps31
  go_upto_region 1 with fail
  generalize w.alloc (.cells #[.slice A n cA, .slice B nB cB, .slice C nC cC, .slice D nD cD] 51) = w1 at X HB ⊢
  by_cases q1 : 8 < m
  · have q1i : (8 : Int) < (m : Int) := by omega
    have EE := Lib.hid (stE_many (S := S) (cs := cs) (by rw [← HM.out]; exact q1))
    go_wp2_with fail
    go_ret
    exact ⟨ret_int EE.out.symm, HB.out⟩
  have q1i : ¬ (8 : Int) < (m : Int) := by omega
  have HQ1 : Hid (¬ 8 < cs.length) := Lib.hid (by rw [← HM.out]; exact q1)
  have x0 := X.out.cell 0 rfl
  have x1 := X.out.cell 1 rfl
  have x2 := X.out.cell 2 rfl
  have x3 := X.out.cell 3 rfl
  by_cases q2 : n < 1
  · have q2i : (n : Int) < 1 := by omega
    have EE := Lib.hid (stE_head (S := S) (cs := cs) HQ1.out (by simp [siteHead, ← HN.out, ← HNB.out, ← HNC.out, ← HND.out]; omega))
    go_wp2_with fail
    go_ret
    exact ⟨ret_int EE.out.symm, HB.out⟩
  have q2i : ¬ (n : Int) < 1 := by omega
  by_cases q3 : 48 < n
  · have q3i : (48 : Int) < (n : Int) := by omega
    have EE := Lib.hid (stE_head (S := S) (cs := cs) HQ1.out (by simp [siteHead, ← HN.out, ← HNB.out, ← HNC.out, ← HND.out]; omega))
    go_wp2_with fail
    go_ret
    exact ⟨ret_int EE.out.symm, HB.out⟩
  have q3i : ¬ (48 : Int) < (n : Int) := by omega
  by_cases q4 : nB ≠ n
  · have q4i : ¬ (nB : Int) = (n : Int) := by omega
    have q4b : ((nB : Int) == (n : Int)) = false := by simpa using q4i
    have EE := Lib.hid (stE_head (S := S) (cs := cs) HQ1.out (by simp [siteHead, ← HN.out, ← HNB.out, ← HNC.out, ← HND.out]; omega))
    go_wp2_with fail
    go_ret
    exact ⟨ret_int EE.out.symm, HB.out⟩
  obtain rfl : n = nB := by omega
  by_cases q5 : nC ≠ n
  · have q5i : ¬ (nC : Int) = (n : Int) := by omega
    have q5b : ((nC : Int) == (n : Int)) = false := by simpa using q5i
    have EE := Lib.hid (stE_head (S := S) (cs := cs) HQ1.out (by simp [siteHead, ← HN.out, ← HNB.out, ← HNC.out, ← HND.out]; omega))
    go_wp2_with fail
    go_ret
    exact ⟨ret_int EE.out.symm, HB.out⟩
  obtain rfl : n = nC := by omega
  by_cases q6 : nD ≠ n
  · have q6i : ¬ (nD : Int) = (n : Int) := by omega
    have q6b : ((nD : Int) == (n : Int)) = false := by simpa using q6i
    have EE := Lib.hid (stE_head (S := S) (cs := cs) HQ1.out (by simp [siteHead, ← HN.out, ← HNB.out, ← HNC.out, ← HND.out]; omega))
    go_wp2_with fail
    go_ret
    exact ⟨ret_int EE.out.symm, HB.out⟩
  obtain rfl : n = nD := by omega
  have HH : Hid (siteHead S = true) := Lib.hid (by simp [siteHead, ← HN.out, ← HNB.out, ← HNC.out, ← HND.out]; omega)
  go_wp2_with fail
  clear x0 x1 x2 x3
  go_loopw [6] (fun iv wr => ∃ t : Nat, t ≤ n ∧ iv = .int .i64 t ∧ Hid (Below w.heap.size w wr ∧ Blk wr w.heap.size 51 [.slice A n cA, .slice B n cB, .slice C n cC, .slice D n cD] ∧ ∀ j, j < t → slotOk S j = true)) (fun iv _ => n - (intOf iv).toNat)
  case atStart => exact ⟨0, Nat.zero_le _, rfl, Lib.hid ⟨HB.out, X.out, fun j hj => absurd hj (Nat.not_lt_zero _)⟩⟩
  case round =>
    obtain ⟨t, ht, rfl, HW⟩ := hrel
    by_cases hlt : t < n
    · have hti : (t : Int) < (n : Int) := by omega
      have hcA := hA.1
      have tA : t < S.lim.length := by rw [← HN.out]; exact hlt
      obtain ⟨aL, rfl, aLb, aLc⟩ := HS.out.1 t tA
      obtain ⟨aE, rfl, aEb, aEc⟩ := HS.out.2.1 t (by rw [← HNB.out]; exact hlt)
      obtain ⟨aB, rfl, aBb, aBc⟩ := HS.out.2.2.1 t (by rw [← HNC.out]; exact hlt)
      obtain ⟨aS, rfl, aSb, aSc⟩ := HS.out.2.2.2 t (by rw [← HND.out]; exact hlt)
      have HV : Hid (∀ V, Below w.heap.size w V → (V.cell? (aL.add t) = some (.int .i64 (S.lim.getD t 0)) ∧ (aL.add t).block < V.heap.size) ∧ (V.cell? (aE.add t) = some (.int .i64 (S.exp.getD t 0)) ∧ (aE.add t).block < V.heap.size) ∧ (V.cell? (aB.add t) = some (.int .i64 (S.buy.getD t 0)) ∧ (aB.add t).block < V.heap.size) ∧ (V.cell? (aS.add t) = some (.int .i64 (S.sell.getD t 0)) ∧ (aS.add t).block < V.heap.size)) := Lib.hid (fun V hV => by
        have k := hV.size
        exact ⟨⟨(hV.cell (by rw [block_add]; exact aLb)).trans aLc, by rw [block_add]; omega⟩, ⟨(hV.cell (by rw [block_add]; exact aEb)).trans aEc, by rw [block_add]; omega⟩, ⟨(hV.cell (by rw [block_add]; exact aBb)).trans aBc, by rw [block_add]; omega⟩, ⟨(hV.cell (by rw [block_add]; exact aSb)).trans aSc, by rw [block_add]; omega⟩⟩)
      clear aLc aEc aBc aSc aLb aEb aBb aSb
      have HSO := Lib.hid (show slotOk S t = decide ((0 ≤ S.lim.getD t 0 ∧ S.lim.getD t 0 ≤ 1048576) ∧ (0 ≤ S.exp.getD t 0 ∧ S.exp.getD t 0 ≤ 1048576) ∧ (0 ≤ S.buy.getD t 0 ∧ S.buy.getD t 0 ≤ 1048576) ∧ (0 ≤ S.sell.getD t 0 ∧ S.sell.getD t 0 ≤ S.buy.getD t 0)) from rfl)
      generalize S.lim.getD t 0 = l at *
      generalize S.exp.getD t 0 = e at *
      generalize S.buy.getD t 0 = b at *
      generalize S.sell.getD t 0 = s at *
      go_upto_region 9 with fail
      by_cases k1 : 0 ≤ l ∧ l ≤ 1048576
      rotate_left
      · have g0 : inB l 0 1048576 = false := decide_eq_false k1
        have EE := Lib.hid (stE_slot (S := S) (cs := cs) HQ1.out t tA (by rw [HSO.out]; exact decide_eq_false (fun h => by omega)))
        clear k1
        have x0 := HW.out.2.1.cell 0 rfl
        have x1 := HW.out.2.1.cell 1 rfl
        have x2 := HW.out.2.1.cell 2 rfl
        have x3 := HW.out.2.1.cell 3 rfl
        have xlt := HW.out.2.1.lt
        obtain ⟨⟨vl, vlb⟩, ⟨ve, veb⟩, ⟨vb, vbb⟩, ⟨vs, vsb⟩⟩ := HV.out wr HW.out.1
        refine wp_region_past (by kernel_rfl) (by kernel_rfl) ?_
        repeat (go_big_quiet_step ((go_at_call 60; exact past_same (within_c _ _ _ _))))
        refine wpQuiet_nil ?_
        intro xx
        have HB3 := Lib.hid (HW.out.1.trans (xx.far.mono HW.out.1.size))
        have XB3 := Lib.hid (HW.out.2.1.below xx.far HW.out.2.1.lt)
        generalize xx.w = w3 at HB3 XB3 ⊢
        clear x0 x1 x2 x3 xlt vl vlb ve veb vb vbb vs vsb
        simp only [g0]
        go_wp2_with fail
        go_ret
        exact ⟨ret_int EE.out.symm, HB3.out⟩
      have g0 : inB l 0 1048576 = true := decide_eq_true k1
      by_cases k2 : 0 ≤ e ∧ e ≤ 1048576
      rotate_left
      · have g1 : inB e 0 1048576 = false := decide_eq_false k2
        have EE := Lib.hid (stE_slot (S := S) (cs := cs) HQ1.out t tA (by rw [HSO.out]; exact decide_eq_false (fun h => by omega)))
        clear k1 k2
        have x0 := HW.out.2.1.cell 0 rfl
        have x1 := HW.out.2.1.cell 1 rfl
        have x2 := HW.out.2.1.cell 2 rfl
        have x3 := HW.out.2.1.cell 3 rfl
        have xlt := HW.out.2.1.lt
        obtain ⟨⟨vl, vlb⟩, ⟨ve, veb⟩, ⟨vb, vbb⟩, ⟨vs, vsb⟩⟩ := HV.out wr HW.out.1
        refine wp_region_past (by kernel_rfl) (by kernel_rfl) ?_
        repeat (go_big_quiet_step ((go_at_call 60; exact past_same (within_c _ _ _ _))))
        refine wpQuiet_nil ?_
        intro xx
        have HB3 := Lib.hid (HW.out.1.trans (xx.far.mono HW.out.1.size))
        have XB3 := Lib.hid (HW.out.2.1.below xx.far HW.out.2.1.lt)
        generalize xx.w = w3 at HB3 XB3 ⊢
        clear x0 x1 x2 x3 xlt vl vlb ve veb vb vbb vs vsb
        simp only [g0, g1]
        go_wp2_with fail
        go_ret
        exact ⟨ret_int EE.out.symm, HB3.out⟩
      have g1 : inB e 0 1048576 = true := decide_eq_true k2
      by_cases k3 : 0 ≤ b ∧ b ≤ 1048576
      rotate_left
      · have g2 : inB b 0 1048576 = false := decide_eq_false k3
        have EE := Lib.hid (stE_slot (S := S) (cs := cs) HQ1.out t tA (by rw [HSO.out]; exact decide_eq_false (fun h => by omega)))
        clear k1 k2 k3
        have x0 := HW.out.2.1.cell 0 rfl
        have x1 := HW.out.2.1.cell 1 rfl
        have x2 := HW.out.2.1.cell 2 rfl
        have x3 := HW.out.2.1.cell 3 rfl
        have xlt := HW.out.2.1.lt
        obtain ⟨⟨vl, vlb⟩, ⟨ve, veb⟩, ⟨vb, vbb⟩, ⟨vs, vsb⟩⟩ := HV.out wr HW.out.1
        refine wp_region_past (by kernel_rfl) (by kernel_rfl) ?_
        repeat (go_big_quiet_step ((go_at_call 60; exact past_same (within_c _ _ _ _))))
        refine wpQuiet_nil ?_
        intro xx
        have HB3 := Lib.hid (HW.out.1.trans (xx.far.mono HW.out.1.size))
        have XB3 := Lib.hid (HW.out.2.1.below xx.far HW.out.2.1.lt)
        generalize xx.w = w3 at HB3 XB3 ⊢
        clear x0 x1 x2 x3 xlt vl vlb ve veb vb vbb vs vsb
        simp only [g0, g1, g2]
        go_wp2_with fail
        go_ret
        exact ⟨ret_int EE.out.symm, HB3.out⟩
      have g2 : inB b 0 1048576 = true := decide_eq_true k3
      by_cases k4 : 0 ≤ s ∧ s ≤ b
      rotate_left
      · have g3 : inB s 0 b = false := decide_eq_false k4
        have EE := Lib.hid (stE_slot (S := S) (cs := cs) HQ1.out t tA (by rw [HSO.out]; exact decide_eq_false (fun h => by omega)))
        clear k1 k2 k3 k4
        have x0 := HW.out.2.1.cell 0 rfl
        have x1 := HW.out.2.1.cell 1 rfl
        have x2 := HW.out.2.1.cell 2 rfl
        have x3 := HW.out.2.1.cell 3 rfl
        have xlt := HW.out.2.1.lt
        obtain ⟨⟨vl, vlb⟩, ⟨ve, veb⟩, ⟨vb, vbb⟩, ⟨vs, vsb⟩⟩ := HV.out wr HW.out.1
        refine wp_region_past (by kernel_rfl) (by kernel_rfl) ?_
        repeat (go_big_quiet_step ((go_at_call 60; exact past_same (within_c _ _ _ _))))
        refine wpQuiet_nil ?_
        intro xx
        have HB3 := Lib.hid (HW.out.1.trans (xx.far.mono HW.out.1.size))
        have XB3 := Lib.hid (HW.out.2.1.below xx.far HW.out.2.1.lt)
        generalize xx.w = w3 at HB3 XB3 ⊢
        clear x0 x1 x2 x3 xlt vl vlb ve veb vb vbb vs vsb
        simp only [g0, g1, g2, g3]
        go_wp2_with fail
        go_ret
        exact ⟨ret_int EE.out.symm, HB3.out⟩
      have g3 : inB s 0 b = true := decide_eq_true k4
      have HK := Lib.hid (And.intro k1 (And.intro k2 (And.intro k3 k4)))
      clear k1 k2 k3 k4
      have x0 := HW.out.2.1.cell 0 rfl
      have x1 := HW.out.2.1.cell 1 rfl
      have x2 := HW.out.2.1.cell 2 rfl
      have x3 := HW.out.2.1.cell 3 rfl
      have xlt := HW.out.2.1.lt
      obtain ⟨⟨vl, vlb⟩, ⟨ve, veb⟩, ⟨vb, vbb⟩, ⟨vs, vsb⟩⟩ := HV.out wr HW.out.1
      refine wp_region_past (by kernel_rfl) (by kernel_rfl) ?_
      repeat (go_big_quiet_step ((go_at_call 60; exact past_same (within_c _ _ _ _))))
      refine wpQuiet_nil ?_
      intro xx
      have HB3 := Lib.hid (HW.out.1.trans (xx.far.mono HW.out.1.size))
      have XB3 := Lib.hid (HW.out.2.1.below xx.far HW.out.2.1.lt)
      generalize xx.w = w3 at HB3 XB3 ⊢
      clear x0 x1 x2 x3 xlt vl vlb ve veb vb vbb vs vsb
      simp only [g0, g1, g2, g3]
      go_wp2_with fail
      refine ⟨⟨t + 1, by omega, by go_num, Lib.hid ⟨HB3.out, XB3.out, fun j hj => ?_⟩⟩, by simp [intOf]; omega⟩
      by_cases hjt : j < t
      · exact HW.out.2.2 j hjt
      · obtain rfl : j = t := by omega
        rw [HSO.out]; exact decide_eq_true (by have := HK.out; omega)
    · obtain rfl : n = t := by omega
      have HSL := HW
      go_wp2_with fail
      go_loopw [7] (fun iv wr => ∃ j : Nat, j ≤ m ∧ iv = .int .i64 j ∧ Hid (Below w.heap.size w wr ∧ ∀ x, x < j → carOk S.lim.length (cs.getD x default) = true)) (fun iv _ => m - (intOf iv).toNat)
      case atStart => exact ⟨0, Nat.zero_le _, rfl, Lib.hid ⟨HW.out.1, fun j hj => absurd hj (Nat.not_lt_zero _)⟩⟩
      case round =>
        obtain ⟨j, hj, rfl, HJ⟩ := hrel
        by_cases hlt2 : j < m
        · have hji : (j : Int) < (m : Int) := by omega
          have jl : j < cs.length := by rw [← HM.out]; exact hlt2
          obtain ⟨ad, rfl, abl, c0, c1, c2, c3, c4, T, cT, c5, hcT, HTT⟩ := (HCS.out.below HJ.out.1 (Nat.le_refl _)) j jl
          have HBAD : Hid (carOk S.lim.length (cs.getD j default) = false → stE S cs = 2) := Lib.hid (fun h => stE_car HQ1.out j jl h)
          have HGO : Hid (carOk S.lim.length (cs.getD j default) = true → ∀ x, x < j + 1 → carOk S.lim.length (cs.getD x default) = true) := Lib.hid (fun h x hx => by
            by_cases hxj : x < j
            · exact HJ.out.2 x hxj
            · obtain rfl : x = j := by omega
              exact h)
          rw [← HN.out] at HBAD HGO
          generalize cs.getD j default = c at *
          obtain ⟨cap, inn, out, start, fin, trips⟩ := c
          simp only at c0 c1 c2 c3 c4 c5 hcT HTT HBAD HGO
          have CC := Lib.hid (car_c cap inn out start fin trips T n trips.length cT wr rfl hcT HTT)
          generalize trips.length = q at c5 hcT CC
          cases hv : carOk n ⟨cap, inn, out, start, fin, trips⟩
          · rw [hv] at CC
            have EE := Lib.hid (HBAD.out hv)
            clear HTT hv
            go_wp2_with (go_at_call 73; refine CC.out.mono ?_; rintro e w5 ⟨rfl, hb5⟩; have HB5 := Lib.hid (HJ.out.1.trans (hb5.mono HJ.out.1.size)); clear hb5)
            go_ret
            exact ⟨ret_int EE.out.symm, HB5.out⟩
          · rw [hv] at CC
            have EE := Lib.hid (HGO.out hv)
            clear HTT hv
            go_wp2_with (go_at_call 73; refine CC.out.mono ?_; rintro e w5 ⟨rfl, hb5⟩; have HB5 := Lib.hid (HJ.out.1.trans (hb5.mono HJ.out.1.size)); clear hb5)
            exact ⟨⟨j + 1, by omega, by go_num, Lib.hid ⟨HB5.out, by rw [← HN.out]; exact EE.out⟩⟩, by simp [intOf]; omega⟩
        · obtain rfl : j = m := by omega
          have EE := Lib.hid (stE_ok (S := S) (cs := cs) HQ1.out HH.out (fun t ht => HSL.out.2.2 t (by rw [HN.out]; exact ht)) (fun i hi => HJ.out.2 i (by rw [HM.out]; exact hi)))
          go_wp2_with fail
          go_ret
          exact ⟨ret_int EE.out.symm, HJ.out.1⟩
end Go.Proofs.Ytmebpglkeedaoaa
namespace Go.Proofs.Ytmebpglkeedaoaa
open Go.RowKit Dp
theorem lenG_no {m n : Nat} {l : List (List Int)} (h : ¬ (l.length = m ∧ ∀ i, i < m → (l.getD i []).length = n)) : lenG m n l = false := by
  cases hb : lenG m n l
  · rfl
  · exact absurd (lenG_iff.1 hb) h
set_option maxHeartbeats 8000000 in
set_option maxRecDepth 100000 in
theorem CheckPlanR_c (A B C D E P Q : Option Addr) (S : Site) (cs : List Car) (T : Tab) (n nB nC nD m p q cA cB cC cD cE cP cQ : Nat) (w : World) (hn : n = S.lim.length) (hnB : nB = S.exp.length) (hnC : nC = S.buy.length) (hnD : nD = S.sell.length) (hm : m = cs.length) (hp : p = T.inn.length) (hq : q = T.out.length)
    (hA : n ≤ cA ∧ cA ≤ 9223372036854775807) (hB : nB ≤ cB ∧ cB ≤ 9223372036854775807) (hC : nC ≤ cC ∧ cC ≤ 9223372036854775807) (hD : nD ≤ cD ∧ cD ≤ 9223372036854775807) (hE : m ≤ cE ∧ cE ≤ 9223372036854775807) (hP : p ≤ cP ∧ cP ≤ 9223372036854775807) (hQ : q ≤ cQ ∧ cQ ≤ 9223372036854775807)
    (hS : SiteAt w A B C D S) (hcs : CarsAt w E cs) (hT : TabAt w P Q T) :
    Calls Try.prog 41 #[.agg #[.slice A n cA, .slice B nB cB, .slice C nC cC, .slice D nD cD], .slice E m cE, .agg #[.slice P p cP, .slice Q q cQ]] w (R41 S cs T w) := by
  have HN := Lib.hid hn
  have HNB := Lib.hid hnB
  have HM := Lib.hid hm
  have HP := Lib.hid hp
  have HQ := Lib.hid hq
  have HS := Lib.hid hS
  have HCS := Lib.hid hcs
  have HT := Lib.hid hT
  have F31 : Hid (∀ V, Below w.heap.size w V → Calls Try.prog 31 #[.agg #[.slice A n cA, .slice B nB cB, .slice C nC cC, .slice D nD cD], .slice E m cE] V fun e w' => e = .returned (.int .i64 (stE S cs)) ∧ Below V.heap.size V w') := Lib.hid (fun V hV => CheckSiteR_c A B C D E S cs n nB nC nD m cA cB cC cD cE V hn hnB hnC hnD hm hA hB hC hD hE (hS.below hV (Nat.le_refl _)) (hcs.below hV (Nat.le_refl _)))
  clear hn hnB hnC hnD hm hp hq hS hcs hT
  have HB := Lib.hid (((Below.refl w.heap.size w).alloc (Nat.le_refl _) (.cells #[.slice A n cA, .slice B nB cB, .slice C nC cC, .slice D nD cD] 51)).alloc (by simp) (.cells #[.slice P p cP, .slice Q q cQ] 55))
  have XS := Lib.hid ((Blk.new' w #[.slice A n cA, .slice B nB cB, .slice C nC cC, .slice D nD cD] 51).alloc (.cells #[.slice P p cP, .slice Q q cQ] 55))
  have XT := Lib.hid (show Blk ((w.alloc (.cells #[.slice A n cA, .slice B nB cB, .slice C nC cC, .slice D nD cD] 51)).alloc (.cells #[.slice P p cP, .slice Q q cQ] 55)) (w.heap.size + 1) 55 [.slice P p cP, .slice Q q cQ] from by simpa using Blk.new' (w.alloc (.cells #[.slice A n cA, .slice B nB cB, .slice C nC cC, .slice D nD cD] 51)) #[.slice P p cP, .slice Q q cQ] 55)
  go_enter Try.func41, Try.ntmps41
  go_upto_region 1 with fail
  generalize (w.alloc (.cells #[.slice A n cA, .slice B nB cB, .slice C nC cC, .slice D nD cD] 51)).alloc (.cells #[.slice P p cP, .slice Q q cQ] 55) = w1 at HB XS XT ⊢
  have XSV := XS.out
  have s0 := XSV.cell 0 rfl
  have s1 := XSV.cell 1 rfl
  have s2 := XSV.cell 2 rfl
  have s3 := XSV.cell 3 rfl
  have sl := XSV.lt
  clear XSV
  obtain ⟨v, hv⟩ : ∃ v, v = stE S cs := ⟨_, rfl⟩
  rw [← hv] at F31
  have HV := Lib.hid hv
  clear hv
  go_wp2_with fail
  refine (F31.out w1 HB.out).mono ?_
  rintro e w2 ⟨rfl, hb⟩
  have HB2 := Lib.hid (HB.out.trans (hb.mono HB.out.size))
  have XS2 := Lib.hid (XS.out.below hb XS.out.lt)
  have XT2 := Lib.hid (XT.out.below hb XT.out.lt)
  clear hb s0 s1 s2 s3 sl HB XS XT
  by_cases h0 : v = 0
  rotate_left
  · have hb0 : (v == 0) = false := by simpa using h0
    have EE := Lib.hid (plE_site (S := S) (cs := cs) (T := T) (by rw [← HV.out]; exact h0))
    rw [← HV.out] at EE
    have XSV := XS2.out
    have s0 := XSV.cell 0 rfl
    have s1 := XSV.cell 1 rfl
    have s2 := XSV.cell 2 rfl
    have s3 := XSV.cell 3 rfl
    have sl := XSV.lt
    clear XSV
    go_wp2_with fail
    refine (F31.out w2 HB2.out).mono ?_
    rintro e w3 ⟨rfl, hb⟩
    have HB3 := Lib.hid (HB2.out.trans (hb.mono HB2.out.size))
    clear hb s0 s1 s2 s3 sl
    go_wp2_with fail
    go_ret
    exact ⟨ret_int EE.out.symm, HB3.out⟩
  subst h0
  have HZ : Hid (stE S cs = 0) := Lib.hid HV.out.symm
  clear HV
  have XSV := XS2.out
  have s0 := XSV.cell 0 rfl
  have s1 := XSV.cell 1 rfl
  have s2 := XSV.cell 2 rfl
  have s3 := XSV.cell 3 rfl
  have sl := XSV.lt
  clear XSV
  have XTV := XT2.out
  have t0 := XTV.cell 0 rfl
  have t1 := XTV.cell 1 rfl
  have tl := XTV.lt
  clear XTV
  have HTW := Lib.hid (HT.out.below HB2.out (Nat.le_refl _))
  by_cases hpm : p = m
  rotate_left
  · have hpb : ((p : Int) == (m : Int)) = false := by simp; omega
    have EE := Lib.hid (plE_len HZ.out (T := T) (by rw [lenG_no (fun h => hpm (by rw [HP.out, HM.out]; exact h.1))]; rfl))
    go_wp2_with fail
    go_ret
    exact ⟨ret_int EE.out.symm, HB2.out⟩
  subst hpm
  go_wp2_with fail
  go_loop [8] (fun iv => ∃ i : Nat, i ≤ p ∧ iv = .int .i64 i ∧ Hid (∀ x, x < i → (T.inn.getD x []).length = S.lim.length)) (fun iv => p - (intOf iv).toNat)
  case atStart => exact ⟨0, Nat.zero_le _, rfl, Lib.hid (fun x hx => absurd hx (Nat.not_lt_zero _))⟩
  case round =>
    obtain ⟨i, hi, rfl, HI⟩ := hrel
    by_cases hlt : i < p
    · have hii : (i : Int) < (p : Int) := by omega
      obtain ⟨pa, hP2, pal, PT, cPT, p0, pb, pi⟩ := HTW.out.1 i (by rw [← HP.out]; exact hlt)
      subst hP2
      have HE : Hid ((T.inn.getD i []).length = (T.inn.getD i []).length) := Lib.hid rfl
      obtain ⟨ln, hln⟩ : ∃ ln, ln = (T.inn.getD i []).length := ⟨_, rfl⟩
      rw [← hln] at p0 pb
      have HLN := Lib.hid hln
      clear hln pi
      have pb2 : (pa.add i).block < w2.heap.size := by rw [block_add]; exact pal
      by_cases hl : ln = n
      · subst hl
        have HNX : Hid (∀ x, x < i + 1 → (T.inn.getD x []).length = S.lim.length) := Lib.hid (fun x hx => by
          by_cases e : x = i
          · subst e; rw [← HLN.out]; exact HN.out
          · exact HI.out x (by omega))
        go_wp2_with fail
        exact ⟨⟨i + 1, by omega, by go_num, HNX⟩, by simp [intOf]; omega⟩
      · have hlb : ((ln : Int) == (n : Int)) = false := by simp; omega
        have EE := Lib.hid (plE_len HZ.out (T := T) (by rw [lenG_no (fun h => hl (by rw [HLN.out, HN.out]; exact h.2 i (by rw [← HM.out]; exact hlt)))]; rfl))
        go_wp2_with fail
        go_ret
        exact ⟨ret_int EE.out.symm, HB2.out⟩
    · obtain rfl : p = i := by omega
      have HI1 := HI
      clear HI
      by_cases hqm : q = p
      rotate_left
      · have hqb : ((q : Int) == (p : Int)) = false := by simp; omega
        have EE := Lib.hid (plE_len HZ.out (T := T) (by rw [lenG_no (l := T.out) (fun h => hqm (by rw [HQ.out, HM.out]; exact h.1))]; exact Bool.and_false _))
        go_wp2_with fail
        go_ret
        exact ⟨ret_int EE.out.symm, HB2.out⟩
      subst hqm
      go_wp2_with fail
      go_loop [9] (fun iv => ∃ i : Nat, i ≤ q ∧ iv = .int .i64 i ∧ Hid (∀ x, x < i → (T.out.getD x []).length = S.lim.length)) (fun iv => q - (intOf iv).toNat)
      case atStart => exact ⟨0, Nat.zero_le _, rfl, Lib.hid (fun x hx => absurd hx (Nat.not_lt_zero _))⟩
      case round =>
        obtain ⟨i, hi, rfl, HI⟩ := hrel
        by_cases hlt : i < q
        · have hii : (i : Int) < (q : Int) := by omega
          obtain ⟨pa, hP2, pal, PT, cPT, p0, pb, pi⟩ := HTW.out.2 i (by rw [← HQ.out]; exact hlt)
          subst hP2
          have HE : Hid ((T.out.getD i []).length = (T.out.getD i []).length) := Lib.hid rfl
          obtain ⟨ln, hln⟩ : ∃ ln, ln = (T.out.getD i []).length := ⟨_, rfl⟩
          rw [← hln] at p0 pb
          have HLN := Lib.hid hln
          clear hln pi
          have pb2 : (pa.add i).block < w2.heap.size := by rw [block_add]; exact pal
          by_cases hl : ln = n
          · subst hl
            have HNX : Hid (∀ x, x < i + 1 → (T.out.getD x []).length = S.lim.length) := Lib.hid (fun x hx => by
              by_cases e : x = i
              · subst e; rw [← HLN.out]; exact HN.out
              · exact HI.out x (by omega))
            go_wp2_with fail
            exact ⟨⟨i + 1, by omega, by go_num, HNX⟩, by simp [intOf]; omega⟩
          · have hlb : ((ln : Int) == (n : Int)) = false := by simp; omega
            have EE := Lib.hid (plE_len HZ.out (T := T) (by rw [lenG_no (l := T.out) (fun h => hl (by rw [HLN.out, HN.out]; exact h.2 i (by rw [← HM.out]; exact hlt)))]; exact Bool.and_false _))
            go_wp2_with fail
            go_ret
            exact ⟨ret_int EE.out.symm, HB2.out⟩
        · obtain rfl : q = i := by omega
          have HLL : Hid ((lenG cs.length S.lim.length T.inn && lenG cs.length S.lim.length T.out) = true) := Lib.hid (by
            rw [Bool.and_eq_true]
            exact ⟨lenG_iff.2 ⟨HP.out.symm.trans HM.out, fun x hx => HI1.out x (by rw [HM.out]; exact hx)⟩, lenG_iff.2 ⟨HQ.out.symm.trans HM.out, fun x hx => HI.out x (by rw [HM.out]; exact hx)⟩⟩)
          go_wp2_with fail
          rename_i KK hKK _
          refine wp_codeP (c' := loop41b) (by kernel_rfl) ?_
          exact plr4 A B C D E P Q S cs T n nB nC nD q cA cB cC cD cE cP cQ w w2 (w.heap.size + 1) HN.out HNB.out HM.out hE hP hQ HZ.out HLL.out HS.out HCS.out HT.out XS2.out XT2.out HB2.out (fun a w' h => hKK a w' (wp_codeP (by kernel_rfl) h))
end Go.Proofs.Ytmebpglkeedaoaa
namespace Go.Proofs.Ytmebpglkeedaoaa
open Go.RowKit Dp
set_option maxHeartbeats 4000000 in
set_option maxRecDepth 100000 in
theorem Price_c (A B C D E P Q : Option Addr) (S : Site) (cs : List Car) (T : Tab) (n nB nC nD m p q cA cB cC cD cE cP cQ : Nat) (w : World) (hn : n = S.lim.length) (hnB : nB = S.exp.length) (hnC : nC = S.buy.length) (hnD : nD = S.sell.length) (hm : m = cs.length) (hp : p = T.inn.length) (hq : q = T.out.length)
    (hA : n ≤ cA ∧ cA ≤ 9223372036854775807) (hB : nB ≤ cB ∧ cB ≤ 9223372036854775807) (hC : nC ≤ cC ∧ cC ≤ 9223372036854775807) (hD : nD ≤ cD ∧ cD ≤ 9223372036854775807) (hE : m ≤ cE ∧ cE ≤ 9223372036854775807) (hP : p ≤ cP ∧ cP ≤ 9223372036854775807) (hQ : q ≤ cQ ∧ cQ ≤ 9223372036854775807)
    (hS : SiteAt w A B C D S) (hcs : CarsAt w E cs) (hT : TabAt w P Q T) :
    Calls Try.prog 38 #[.agg #[.slice A n cA, .slice B nB cB, .slice C nC cC, .slice D nD cD], .slice E m cE, .agg #[.slice P p cP, .slice Q q cQ]] w fun e w' => e = .returned (.tuple #[.int .i64 (prcV S cs T), .int .i64 (plE S cs T)]) ∧ Below w.heap.size w w' := by
  have F32 : Hid (∀ V, Below w.heap.size w V → Calls Try.prog 32 #[.agg #[.slice A n cA, .slice B nB cB, .slice C nC cC, .slice D nD cD], .slice E m cE, .agg #[.slice P p cP, .slice Q q cQ]] V fun e w' => e = .returned (.int .i64 (plE S cs T)) ∧ Below V.heap.size V w') := Lib.hid (fun V hV => CheckPlan_c A B C D E P Q S cs T n nB nC nD m p q cA cB cC cD cE cP cQ V hn hnB hnC hnD hm hp hq hA hB hC hD hE hP hQ (hS.below hV (Nat.le_refl _)) (hcs.below hV (Nat.le_refl _)) (hT.below hV (Nat.le_refl _)))
  have F81 : Hid (plE S cs T = 0 → ∀ V, Below w.heap.size w V → Calls Try.prog 81 #[.agg #[.slice A n cA, .slice B nB cB, .slice C nC cC, .slice D nD cD], .agg #[.slice P p cP, .slice Q q cQ]] V fun e w' => e = .returned (.int .i64 (prc S T cs.length S.lim.length)) ∧ Below V.heap.size V w') := Lib.hid (fun h0 V hV => by
    have HK := plE_0 h0
    have S0 := stE_0 HK.ok
    have SH := siteHead_iff.1 S0.2.1
    have e1 : p = m := by rw [hp, hm, HK.li]
    have e2 : q = m := by rw [hq, hm, HK.lo]
    subst e1
    subst e2
    have e3 : nC = nD := by omega
    have e4 : n = nD := by omega
    subst e3
    subst e4
    rw [← hm, ← hn]
    exact price_c A B C D P Q S T n nB n n q q cA cB cC cD cP cQ V hn (by omega) (by omega) hp hq (Nat.le_refl _) (by omega) (by omega) rfl rfl hP hQ (hS.below hV (Nat.le_refl _)) (hT.below hV (Nat.le_refl _)) (fun k hk => ⟨S0.2.2.1 k (by omega), by have := HK.slot (k := k) (by omega); rwa [← hm] at this⟩))
  have HV0 : Hid (plE S cs T = 0 → prcV S cs T = prc S T cs.length S.lim.length) := Lib.hid (fun h => by unfold prcV; rw [if_pos h])
  have HV1 : Hid (plE S cs T ≠ 0 → prcV S cs T = 0) := Lib.hid (fun h => by unfold prcV; rw [if_neg h])
  clear hn hnB hnC hnD hm hp hq hS hcs hT
  obtain ⟨v, hv⟩ : ∃ v, v = plE S cs T := ⟨_, rfl⟩
  rw [← hv] at F32 F81 HV0 HV1 ⊢
  clear hv
  have HB := Lib.hid (((Below.refl w.heap.size w).alloc (Nat.le_refl _) (.cells #[.slice A n cA, .slice B nB cB, .slice C nC cC, .slice D nD cD] 51)).alloc (by simp) (.cells #[.slice P p cP, .slice Q q cQ] 55))
  have XS := Lib.hid ((Blk.new' w #[.slice A n cA, .slice B nB cB, .slice C nC cC, .slice D nD cD] 51).alloc (.cells #[.slice P p cP, .slice Q q cQ] 55))
  have XT := Lib.hid (show Blk ((w.alloc (.cells #[.slice A n cA, .slice B nB cB, .slice C nC cC, .slice D nD cD] 51)).alloc (.cells #[.slice P p cP, .slice Q q cQ] 55)) (w.heap.size + 1) 55 [.slice P p cP, .slice Q q cQ] from by simpa using Blk.new' (w.alloc (.cells #[.slice A n cA, .slice B nB cB, .slice C nC cC, .slice D nD cD] 51)) #[.slice P p cP, .slice Q q cQ] 55)
  go_enter Try.func38, Try.ntmps38
  go_upto_region 1 with fail
  generalize (w.alloc (.cells #[.slice A n cA, .slice B nB cB, .slice C nC cC, .slice D nD cD] 51)).alloc (.cells #[.slice P p cP, .slice Q q cQ] 55) = w1 at HB XS XT ⊢
  have s0 := XS.out.cell 0 rfl
  have s1 := XS.out.cell 1 rfl
  have s2 := XS.out.cell 2 rfl
  have s3 := XS.out.cell 3 rfl
  have t0 := XT.out.cell 0 rfl
  have t1 := XT.out.cell 1 rfl
  have sl := XS.out.lt
  have tl := XT.out.lt
  go_wp2_with fail
  refine (F32.out w1 HB.out).mono ?_
  rintro e w2 ⟨rfl, hb⟩
  have HB2 := Lib.hid (HB.out.trans (hb.mono HB.out.size))
  have XS2 := Lib.hid (XS.out.below hb XS.out.lt)
  have XT2 := Lib.hid (XT.out.below hb XT.out.lt)
  clear hb s0 s1 s2 s3 t0 t1 sl tl
  have s0 := XS2.out.cell 0 rfl
  have s1 := XS2.out.cell 1 rfl
  have s2 := XS2.out.cell 2 rfl
  have s3 := XS2.out.cell 3 rfl
  have t0 := XT2.out.cell 0 rfl
  have t1 := XT2.out.cell 1 rfl
  have sl := XS2.out.lt
  have tl := XT2.out.lt
  by_cases h0 : v = 0
  rotate_left
  · have hb0 : (v == 0) = false := by simpa using h0
    have EE := Lib.hid (HV1.out h0)
    go_wp2_with fail
    exact bodyPost_ret (v := .tuple #[.int .i64 0, .int .i64 v]) (by simp [results, Try.results38, go_sem]) rfl ⟨by rw [EE.out], HB2.out⟩
  subst h0
  have G81 := F81.out rfl w2 HB2.out
  have EE := Lib.hid (HV0.out rfl)
  generalize prc S T cs.length S.lim.length = pv at *
  go_wp2_with fail
  refine G81.mono ?_
  rintro e w3 ⟨rfl, hb⟩
  have HB3 := Lib.hid (HB2.out.trans (hb.mono HB2.out.size))
  have XS3 := Lib.hid (XS2.out.below hb XS2.out.lt)
  have XT3 := Lib.hid (XT2.out.below hb XT2.out.lt)
  clear hb s0 s1 s2 s3 t0 t1 sl tl
  go_wp2_with fail
  exact bodyPost_ret (v := .tuple #[.int .i64 pv, .int .i64 0]) (by simp [results, Try.results38, go_sem]) rfl ⟨by rw [EE.out], HB3.out⟩
end Go.Proofs.Ytmebpglkeedaoaa
namespace Go.Proofs.Ytmebpglkeedaoaa
open Go.RowKit Dp
theorem RowsO.below {D : Nat} {w w' : World} {i n : Nat} {vs : List Value} {cs : List Car} {T : Tab} (h : RowsO D w i n vs cs T) (hb : Below w.heap.size w w') : RowsO D w' i n vs cs T := fun x hx => by
  obtain ⟨u, h1, h2⟩ := h x hx
  exact ⟨u, h1, ownV_below h2 hb⟩
theorem RowsO.grown {D B' : Nat} {w w' : World} {i n n' z' : Nat} {e' : TypeId} {v' : Value} {xs' vs : List Value} {cs : List Car} {T : Tab} (h : RowsO D w i n vs cs T) (h' : w.ownsRow B' e' z' v' n' xs') (hne : (2 : TypeId) ≠ e') (hg : w.grownBy w' v'.ownBlock) : RowsO D w' i n vs cs T := fun x hx => by
  obtain ⟨u, h1, h2⟩ := h x hx
  exact ⟨u, h1, ownV_other h2 h' hne hg⟩
theorem RowsO.add {D : Nat} {w : World} {i n : Nat} {vs : List Value} {cs : List Car} {T : Tab} {v : Value} (h : RowsO D w i n vs cs T) (hl : vs.length = i) (hv : w.ownsRow D 2 1 v (n + 1) ((lvN (cs.getD i default) (T.inn.getD i []) (T.out.getD i []) (n + 1)).map (.int .i64))) : RowsO D w (i + 1) n (vs ++ [v]) cs T := fun x hx => by
  by_cases e : x = i
  · subst e
    exact ⟨v, by rw [List.getElem?_append_right (by omega)]; simp [hl], hv⟩
  · obtain ⟨u, h1, h2⟩ := h x (by omega)
    exact ⟨u, by rw [List.getElem?_append_left (by omega)]; exact h1, h2⟩
theorem own_len {w : World} {D e n : Nat} {v : Value} {vs : List Value} (h : w.ownsRow D e 1 v n vs) : vs.length = n := by have := h.1; omega
end Go.Proofs.Ytmebpglkeedaoaa
namespace Go.Proofs.Ytmebpglkeedaoaa
open Go.RowKit Dp
structure BxJ (w : World) (n G i gs gb gi go : Nat) (A : Option Addr) (cap : Nat) (sup : List Int) (arcs : List Arc) (RI RO : Nat → List Int) (AI0 AO0 : Option Addr) (ci0 co0 : Nat) (AI : Option Addr) (ci ni : Nat) (vi : List Value) (AO : Option Addr) (co no : Nat) (vo : List Value) (W : World) : Prop where
  b : Blk W gb 125 [.slice (some ⟨gs, 0, none⟩) sup.length sup.length, .slice A arcs.length cap, .slice AI0 i ci0, .slice AO0 i co0]
  s : Fl 2 W gs sup
  own : W.ownsRow w.heap.size 46 4 (.slice A arcs.length cap) arcs.length (flat arcV arcs)
  oi : W.ownsRow w.heap.size 26 1 (.slice AI ni ci) ni vi
  oo : W.ownsRow w.heap.size 26 1 (.slice AO no co) no vo
  dis : ∀ k, OwnB AI k → ¬ OwnB AO k
  lt : w.heap.size ≤ gs ∧ w.heap.size ≤ gb
  bel : Below w.heap.size w W
  fi : Fl 3 W gi (RI i)
  fo : Fl 3 W go (RO i)
  ri : RowsF W n G vi RI i
  ro : RowsF W n G vo RO i
section
variable {w W V : World} {n G i gs gb gi go gc ci co cap ci0 co0 ni no c2 : Nat} {A A2 AI AO AI0 AO0 : Option Addr} {vi vo cv : List Value} {RI RO : Nat → List Int} {sup : List Int} {arcs : List Arc}
theorem BkJ.two (h : BkJ w n G i gs gb gi go gc AI AO ci co vi vo RI RO cv A cap sup arcs (RI i) (RO i) W) : BxJ w n G i gs gb gi go A cap sup arcs RI RO AI AO ci co AI ci i vi AO co i vo W :=
  ⟨h.d.b, h.d.s, h.d.own, h.d.oi, h.d.oo, h.d.dis, h.d.lt, h.d.bel, h.fi, h.fo, h.ri, h.ro⟩
theorem BxJ.below (h : BxJ w n G i gs gb gi go A cap sup arcs RI RO AI0 AO0 ci0 co0 AI ci ni vi AO co no vo W) (hb : Below W.heap.size W V) : BxJ w n G i gs gb gi go A cap sup arcs RI RO AI0 AO0 ci0 co0 AI ci ni vi AO co no vo V :=
  ⟨h.b.below hb h.b.lt, h.s.below hb, ownBelow h.own hb, ownBelow h.oi hb, ownBelow h.oo hb, h.dis, h.lt, h.bel.trans (hb.mono h.bel.size), h.fi.below hb, h.fo.below hb, h.ri.below hb, h.ro.below hb⟩
theorem RowsF.pre {vs vs' : List Value} {R : Nat → List Int} (h : RowsF W n G vs R i) (hl : i ≤ vs.length) : RowsF W n G (vs ++ vs') R i := fun x hx => by
  obtain ⟨v, h1, h2⟩ := h x hx
  exact ⟨v, by rw [List.getElem?_append_left (by omega)]; exact h1, h2⟩
theorem BxJ.growI {v : Value} (h : BxJ w n G i gs gb gi go A cap sup arcs RI RO AI0 AO0 ci0 co0 AI ci ni vi AO co no vo W) (hi : i ≤ ni) (hg : W.grownBy V (Value.slice AI ni ci).ownBlock) (ho : V.ownsRow w.heap.size 26 1 (.slice A2 (ni + 1) c2) (ni + 1) (vi ++ [v])) (hk : ∀ k, OwnB A2 k → OwnB AI k ∨ k = W.heap.size) :
    BxJ w n G i gs gb gi go A cap sup arcs RI RO AI0 AO0 ci0 co0 A2 c2 (ni + 1) (vi ++ [v]) AO co no vo V :=
  ⟨h.b.grown hg (blk_own_ne h.b h.oi (by decide)), Blk.grown h.s hg (blk_own_ne h.s h.oi (by decide)), grow_own h.own h.oi (own_type h.own h.oi (by decide)) hg, ho, grow_own h.oo h.oi (fun k h1 h2 => h.dis k h2 h1) hg,
    (fun k h1 h2 => by
      rcases hk k h1 with h3 | h3
      · exact h.dis k h3 h2
      · have := (ownLt h.oo h2).1; omega), h.lt, h.bel.grown hg h.bel.size (fun k e => (World.ownsRow.lt h.oi k e).1), Blk.grown h.fi hg (blk_own_ne h.fi h.oi (by decide)), Blk.grown h.fo hg (blk_own_ne h.fo h.oi (by decide)), (h.ri.grown h.oi (by decide) hg).pre (by rw [own_len h.oi]; exact hi), h.ro.grown h.oi (by decide) hg⟩
theorem BxJ.growO {v : Value} (h : BxJ w n G i gs gb gi go A cap sup arcs RI RO AI0 AO0 ci0 co0 AI ci ni vi AO co no vo W) (hi : i ≤ no) (hg : W.grownBy V (Value.slice AO no co).ownBlock) (ho : V.ownsRow w.heap.size 26 1 (.slice A2 (no + 1) c2) (no + 1) (vo ++ [v])) (hk : ∀ k, OwnB A2 k → OwnB AO k ∨ k = W.heap.size) :
    BxJ w n G i gs gb gi go A cap sup arcs RI RO AI0 AO0 ci0 co0 AI ci ni vi A2 c2 (no + 1) (vo ++ [v]) V :=
  ⟨h.b.grown hg (blk_own_ne h.b h.oo (by decide)), Blk.grown h.s hg (blk_own_ne h.s h.oo (by decide)), grow_own h.own h.oo (own_type h.own h.oo (by decide)) hg, grow_own h.oi h.oo h.dis hg, ho,
    (fun k h1 h2 => by
      rcases hk k h2 with h3 | h3
      · exact h.dis k h1 h3
      · have := (ownLt h.oi h1).1; omega), h.lt, h.bel.grown hg h.bel.size (fun k e => (World.ownsRow.lt h.oo k e).1), Blk.grown h.fi hg (blk_own_ne h.fi h.oo (by decide)), Blk.grown h.fo hg (blk_own_ne h.fo h.oo (by decide)), h.ri.grown h.oo (by decide) hg, (h.ro.grown h.oo (by decide) hg).pre (by rw [own_len h.oo]; exact hi)⟩
theorem BxJ.done (h : BxJ w n G i gs gb gi go A cap sup arcs RI RO AI0 AO0 ci0 co0 AI ci (i + 1) (vi ++ [.slice (some ⟨gi, 0, none⟩) n n]) AO co (i + 1) (vo ++ [.slice (some ⟨go, 0, none⟩) n n]) W) (hR : (RI i).length = n ∧ (RO i).length = n) (hG : G ≤ W.heap.size) :
    BdJ w gs gb A cap AI AO ci co (i + 1) (vi ++ [.slice (some ⟨gi, 0, none⟩) n n]) (vo ++ [.slice (some ⟨go, 0, none⟩) n n]) sup arcs ((W.setCell ⟨gb, 2, none⟩ (.slice AI (i + 1) ci)).setCell ⟨gb, 3, none⟩ (.slice AO (i + 1) co)) ∧
    RowsF ((W.setCell ⟨gb, 2, none⟩ (.slice AI (i + 1) ci)).setCell ⟨gb, 3, none⟩ (.slice AO (i + 1) co)) n W.heap.size (vi ++ [.slice (some ⟨gi, 0, none⟩) n n]) RI (i + 1) ∧ RowsF ((W.setCell ⟨gb, 2, none⟩ (.slice AI (i + 1) ci)).setCell ⟨gb, 3, none⟩ (.slice AO (i + 1) co)) n W.heap.size (vo ++ [.slice (some ⟨go, 0, none⟩) n n]) RO (i + 1) := by
  have b1 := h.b.setCell 2 (.slice AI (i + 1) ci)
  have l1 : vi.length = i := by have := own_len h.oi; simp at this; exact this
  have l2 : vo.length = i := by have := own_len h.oo; simp at this; exact this
  have r1 : RowsF W n W.heap.size (vi ++ [.slice (some ⟨gi, 0, none⟩) n n]) RI (i + 1) := by
    refine RowsF.add (fun x hx => ?_) l1 h.fi hR.1 h.fi.lt
    obtain ⟨v, h1, g, e1, e2, e3⟩ := h.ri x hx
    rw [List.getElem?_append_left (by omega)] at h1
    exact ⟨v, h1, g, e1, by omega, e3⟩
  have r2 : RowsF W n W.heap.size (vo ++ [.slice (some ⟨go, 0, none⟩) n n]) RO (i + 1) := by
    refine RowsF.add (fun x hx => ?_) l2 h.fo hR.2 h.fo.lt
    obtain ⟨v, h1, g, e1, e2, e3⟩ := h.ro x hx
    rw [List.getElem?_append_left (by omega)] at h1
    exact ⟨v, h1, g, e1, by omega, e3⟩
  refine ⟨⟨b1.setCell 3 _, (h.s.set_ne (p := ⟨gb, 2, none⟩) (fun e => blk_type_ne h.b h.s (by decide) e) _).set_ne (p := ⟨gb, 3, none⟩) (fun e => blk_type_ne h.b h.s (by decide) e) _, ownSet (ownSet h.own (own_blk_no (g := gb) h.b h.own (by decide)) _) (own_blk_no (g := gb) h.b h.own (by decide)) _, ownSet (ownSet h.oi (own_blk_no (g := gb) h.b h.oi (by decide)) _) (own_blk_no (g := gb) h.b h.oi (by decide)) _, ownSet (ownSet h.oo (own_blk_no (g := gb) h.b h.oo (by decide)) _) (own_blk_no (g := gb) h.b h.oo (by decide)) _, h.dis, h.lt, (h.bel.setCell (by simp; exact h.lt.2) _).setCell (by simp; exact h.lt.2) _⟩, ?_, ?_⟩
  · exact (r1.set (p := ⟨gb, 2, none⟩) h.b (.inl (by decide)) _).set (p := ⟨gb, 3, none⟩) b1 (.inl (by decide)) _
  · exact (r2.set (p := ⟨gb, 2, none⟩) h.b (.inl (by decide)) _).set (p := ⟨gb, 3, none⟩) b1 (.inl (by decide)) _
end
end Go.Proofs.Ytmebpglkeedaoaa
