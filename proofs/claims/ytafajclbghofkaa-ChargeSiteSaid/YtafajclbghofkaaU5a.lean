/- ChargeSite: a lease is granted. -/
import Derived.Test.YtafajclbghofkaaU5
namespace Go.Proofs.Ytafajclbghofkaa
open Go.RowKit
set_option linter.unusedVariables false
set_option maxRecDepth 1000000 in
set_option maxHeartbeats 80000000 in
theorem SiC0 (dr bk : Int) (us : List Us) (cap : Nat) (w w7 : World) (gp c' bu k m s : Nat) (pb : Nat → Nat) (ad : Addr) (u : Us) (now N : Int) (A1 : Nat → Option Addr) (q1 : Nat → Nat) (cs : List Sx.Cl) (P : Nat → Ls) (Ga : Nat → Option Addr) (gq : Nat → Nat) (G : Nat → List Ls) (u6 u16 u17 u18 u67 u68 u69 u70 u71 u72 u73 u74 u75 u76 u77 u78 u79 u80 u81 u82 u83 u84 u85 u86 u87 u88 u89 u90 u91 u92 u93 u94 u95 u96 u97 u98 u99 u100 u101 u102 u103 u104 u105 u106 u107 u108 u109 u110 u111 u112 u113 u114 u115 u116 u117 u118 u119 u120 u121 u122 u123 u124 u125 u126 u127 u128 u129 u130 u131 u132 u133 u134 u135 u136 u137 u138 u139 u140 u141 u142 u143 u144 u145 u146 u147 u148 u149 u150 u151 u152 u153 u154 u155 u156 u157 u158 : Value) (u19 u20 u21 u22 u23 u24 u25 u26 u27 u40 u41 u42 u43 u44 u45 u54 u55 u159 u160 u161 u162 u163 u164 u165 u166 u167 u168 u169 u170 u171 u172 u173 u174 u175 u176 u177 u178 u179 u180 u181 u182 u183 u184 u185 u186 u187 u188 u189 u190 u191 u192 u193 u194 u195 u196 u197 u198 u199 u200 u201 u202 u203 u204 u205 u206 u207 u208 u209 u210 u211 u212 u213 u214 : Value) (J K K1 L1 L2 : Act → World → Prop) (n0 : Nat) (R : Ending → World → Prop)
    (h150 : k < 150) (hnow : 0 ≤ now ∧ now ≤ 4 * (k : Int)) (HO : Hid u.Ok) (hm4 : m < 4) (HUS : Hid (UsI w (w.heap.size + 1) w.heap.size gp c' (w.heap.size + 1 + 1) pb A1 q1 cs dr bk N P Ga gq G w7)) (HSI : Hid (Sx.SI (k : Int) dr bk now N cs G P)) (HBU : Hid (Blk w7 bu 110 [.int .u8 u.d, .int .u8 u.s, .int .u8 u.dr, .int .u8 u.bk, .int .u8 u.fo, .int .u8 u.at_])) (hs : s = 0)
    (hJ : (∀ (a' : Act) (w' : World), (∃ u6 u12 u16 u17 u18 u67 u68 u69 u70 u71 u72 u73 u74 u75 u76 u77 u78 u79 u80 u81 u82 u83 u84 u85 u86 u87 u88 u89 u90 u91 u92 u93 u94 u95 u96 u97 u98 u99 u100 u101 u102 u103 u104 u105 u106 u107 u108 u109 u110 u111 u112 u113 u114 u115 u116 u117 u118 u119 u120 u121 u122 u123 u124 u125 u126 u127 u128 u129 u130 u131 u132 u133 u134 u135 u136 u137 u138 u139 u140 u141 u142 u143 u144 u145 u146 u147 u148 u149 u150 u151 u152 u153 u154 u155 u156 u157 u158 : Value, (∃ now' : Int, u12 = .int .i64 now' ∧ (now ≤ now' ∧ now' ≤ now + 4) ∧ StU w (w.heap.size + 1) w.heap.size gp c' (w.heap.size + 1 + 1) pb dr bk ((k : Int) + 1) now' w') ∧ a' = ⟨#[(.int .u8 dr : Value), .int .u8 bk, .slice (some ad) us.length cap, undef, undef, undef, u6, .pointer (some ⟨w.heap.size + 1, 0, none⟩), .int .i64 0, .slice (some ⟨gp, 0, none⟩) 4 c', .pointer (some ⟨w.heap.size + 1 + 1, 0, none⟩), .int .i64 4, u12, .int .i64 (k : Int), .pointer (some ⟨bu, 0, none⟩), .int .i64 (m : Int), u16, u17, u18, u19, u20, u21, u22, u23, u24, u25, u26, u27, .tuple #[.pointer (some ⟨w.heap.size + 1, 0, none⟩), .int .i64 0], .int .u8 dr, .int .i64 dr, .int .u8 bk, .int .i64 bk, .tuple #[.pointer (some ⟨w.heap.size + 1, 0, none⟩), .int .i64 0], .pointer (some ⟨w.heap.size + 1, 0, none⟩), .int .i64 0, .int .i64 0, .bool false, .int .i64 4, .bool false, u40, u41, u42, u43, u44, u45, .int .i64 (k : Int), .slice (some ad) us.length cap, .int .i64 (us.length : Int), .bool true, .bool true, .int .i64 (k : Int), .bool true, .bool true, u54, u55, .slice (some ad) us.length cap, .int .i64 (k : Int), .pointer (some (ad.add (k * 6))), .agg #[.int .u8 u.d, .int .u8 u.s, .int .u8 u.dr, .int .u8 u.bk, .int .u8 u.fo, .int .u8 u.at_], .pointer (some ⟨bu, 1, none⟩), .int .u8 u.s, .int .i64 u.s, .int .i64 (m : Int), .pointer (some ⟨bu, 0, none⟩), .int .u8 u.d, .int .u8 (s : Int), u67, u68, u69, u70, u71, u72, u73, u74, u75, u76, u77, u78, u79, u80, u81, u82, u83, u84, u85, u86, u87, u88, u89, u90, u91, u92, u93, u94, u95, u96, u97, u98, u99, u100, u101, u102, u103, u104, u105, u106, u107, u108, u109, u110, u111, u112, u113, u114, u115, u116, u117, u118, u119, u120, u121, u122, u123, u124, u125, u126, u127, u128, u129, u130, u131, u132, u133, u134, u135, u136, u137, u138, u139, u140, u141, u142, u143, u144, u145, u146, u147, u148, u149, u150, u151, u152, u153, u154, u155, u156, u157, u158, u159, u160, u161, u162, u163, u164, u165, u166, u167, u168, u169, u170, u171, u172, u173, u174, u175, u176, u177, u178, u179, u180, u181, u182, u183, u184, u185, u186, u187, u188, u189, u190, u191, u192, u193, u194, u195, u196, u197, u198, u199, u200, u201, u202, u203, u204, u205, u206, u207, u208, u209, u210, u211, u212, u213, u214, undef], []⟩) → J a' w')) (hK : ∀ (a' : Act) (w' : World), Met J a' w' → K a' w') :
    Code.wp Try.prog (Code.block 4 siBody) (Exit.then K (Exit.inBlock 3 (Exit.then K1 (Exit.then L1 (Exit.inBlock n0 (Exit.then L2 (bodyPost Try.prog Try.f10 R))))))) ⟨#[(.int .u8 dr : Value), .int .u8 bk, .slice (some ad) us.length cap, undef, undef, undef, u6, .pointer (some ⟨w.heap.size + 1, 0, none⟩), .int .i64 0, .slice (some ⟨gp, 0, none⟩) 4 c', .pointer (some ⟨w.heap.size + 1 + 1, 0, none⟩), .int .i64 4, .int .i64 now, .int .i64 (k : Int), .pointer (some ⟨bu, 0, none⟩), .int .i64 (m : Int), u16, u17, u18, u19, u20, u21, u22, u23, u24, u25, u26, u27, .tuple #[.pointer (some ⟨w.heap.size + 1, 0, none⟩), .int .i64 0], .int .u8 dr, .int .i64 dr, .int .u8 bk, .int .i64 bk, .tuple #[.pointer (some ⟨w.heap.size + 1, 0, none⟩), .int .i64 0], .pointer (some ⟨w.heap.size + 1, 0, none⟩), .int .i64 0, .int .i64 0, .bool false, .int .i64 4, .bool false, u40, u41, u42, u43, u44, u45, .int .i64 (k : Int), .slice (some ad) us.length cap, .int .i64 (us.length : Int), .bool true, .bool true, .int .i64 (k : Int), .bool true, .bool true, u54, u55, .slice (some ad) us.length cap, .int .i64 (k : Int), .pointer (some (ad.add (k * 6))), .agg #[.int .u8 u.d, .int .u8 u.s, .int .u8 u.dr, .int .u8 u.bk, .int .u8 u.fo, .int .u8 u.at_], .pointer (some ⟨bu, 1, none⟩), .int .u8 u.s, .int .i64 u.s, .int .i64 (m : Int), .pointer (some ⟨bu, 0, none⟩), .int .u8 u.d, .int .u8 (s : Int), u67, u68, u69, u70, u71, u72, u73, u74, u75, u76, u77, u78, u79, u80, u81, u82, u83, u84, u85, u86, u87, u88, u89, u90, u91, u92, u93, u94, u95, u96, u97, u98, u99, u100, u101, u102, u103, u104, u105, u106, u107, u108, u109, u110, u111, u112, u113, u114, u115, u116, u117, u118, u119, u120, u121, u122, u123, u124, u125, u126, u127, u128, u129, u130, u131, u132, u133, u134, u135, u136, u137, u138, u139, u140, u141, u142, u143, u144, u145, u146, u147, u148, u149, u150, u151, u152, u153, u154, u155, u156, u157, u158, u159, u160, u161, u162, u163, u164, u165, u166, u167, u168, u169, u170, u171, u172, u173, u174, u175, u176, u177, u178, u179, u180, u181, u182, u183, u184, u185, u186, u187, u188, u189, u190, u191, u192, u193, u194, u195, u196, u197, u198, u199, u200, u201, u202, u203, u204, u205, u206, u207, u208, u209, u210, u211, u212, u213, u214, undef], []⟩ w7 := by
  conv => arg 2; arg 2; whnf
  subst hs
  have v2 := HBU.out.cell 2 rfl
  have v3 := HBU.out.cell 3 rfl
  have v4 := HBU.out.cell 4 rfl
  have v5 := HBU.out.cell 5 rfl
  obtain ⟨r, hr, hr40⟩ : ∃ r : Nat, u.fo.tmod 40 = (r : Int) ∧ r < 40 := by
    have h0 := HO.out.fo.1
    have h1 := Int.emod_nonneg u.fo (show (40 : Int) ≠ 0 by decide)
    have h2 := Int.emod_lt_of_pos u.fo (show (0 : Int) < 40 by decide)
    have h3 : u.fo.tmod 40 = u.fo % 40 := Int.tmod_eq_emod_of_nonneg h0
    exact ⟨(u.fo % 40).toNat, by omega, by omega⟩
  have w1 : IntKind.i64.wrap (now + 1) = now + 1 := IntWalk.i64_in _ (by omega)
  have w2 : IntKind.i64.wrap (now + 1 + (r : Int)) = now + 1 + (r : Int) := IntWalk.i64_in _ (by omega)
  obtain ⟨f0, f1⟩ := HO.out.fo
  obtain ⟨dr0, dr1⟩ := HO.out.dr
  obtain ⟨bk0, bk1⟩ := HO.out.bk
  have ha : Sx.askOk u.dr u.bk (now + 1 + (r : Int)) now := ⟨by omega, by omega, by omega, by omega⟩
  obtain ⟨l, hl⟩ : ∃ l, l = Sx.grL cs dr bk N (m : Int) u.dr u.bk (now + 1 + (r : Int)) now := ⟨_, rfl⟩
  obtain ⟨er, her⟩ : ∃ er, er = Sx.grE cs dr bk N (m : Int) u.dr u.bk (now + 1 + (r : Int)) now := ⟨_, rfl⟩
  have P48 := Lib.hid (Grant2_c HUS.out.s HUS.out.u.b.size (K := (k : Int)) (by omega) HSI.out.oks (by rw [HUS.out.n]; decide) (m : Int) u.dr u.bk (now + 1 + (r : Int)) now hl her)
  have hcode := HSI.out.code hm4 ha
  rw [← her] at hcode
  have HL := Lib.hid (And.intro hl her)
  clear hl her ha
  rcases hcode with rfl | rfl | rfl
  · have HG := Lib.hid (HSI.out.grant hm4 HL.out.2.symm)
    go_upto_region 23 with (go_at_call 48; refine P48.out.mono ?_; rintro e w8 ⟨rfl, A2, q2, hs1, ht1, hA1⟩; have HUS := Lib.hid (HUS.out.site hs1 HG.out.len ht1 hA1); clear hs1 ht1 hA1)
    refine gen_world' (fun W => UsI w (w.heap.size + 1) w.heap.size gp c' (w.heap.size + 1 + 1) pb A2 q2 (Sx.grS cs dr bk N (m : Int) u.dr u.bk (now + 1 + (r : Int)) now) dr bk (Sx.grN cs dr bk N (m : Int) u.dr u.bk (now + 1 + (r : Int)) now) P Ga gq G W ∧ Blk W w8.heap.size 43 [.int .i64 l.n, .int .i64 l.d, .int .i64 l.b, .int .i64 l.u]) ⟨HUS.out.bel ((Below.refl _ _).alloc (Nat.le_refl _) _), Blk.new' _ _ _⟩ ?_
    have HGl := Lib.hid (fun x (hx : OwnB (Ga m) x) => (rowE_lt (HUS.out.u.gr m hm4) hx).2)
    clear HUS P48 v2 v3 v4 v5 HBU
    generalize w8.heap.size = b16 at *
    rintro w9 ⟨hus9, hb9⟩
    have HUS := Lib.hid (hus9.bel ((Below.refl _ _).drew))
    have HB16 := Lib.hid hb9.drew
    clear hus9 hb9
    obtain ⟨i3, hi3, y0, y1, y2⟩ := info_parts info43
    have HG4 := Lib.hid (show (G m).length ≤ 1000000 from by have h1 := (HSI.out.st m hm4).l; omega)
    have m4 : (m : Int) < 4 := by omega
    have m0 : (0 : Int) ≤ (m : Int) := by omega
    have hne16 := ty_ne (Ty.blk HB16.out) (Ty.blk HUS.out.u.g) (by decide)
    have hne43 : ¬ OwnB (Ga m) b16 := fun e => by have := HGl.out _ e; omega
    have cg : ∀ W, UsI w (w.heap.size + 1) w.heap.size gp c' (w.heap.size + 1 + 1) pb A2 q2 (Sx.grS cs dr bk N (m : Int) u.dr u.bk (now + 1 + (r : Int)) now) dr bk (Sx.grN cs dr bk N (m : Int) u.dr u.bk (now + 1 + (r : Int)) now) P Ga gq G W → Blk W b16 43 [.int .i64 l.n, .int .i64 l.d, .int .i64 l.b, .int .i64 l.u] → W.cell? ⟨w.heap.size + 1 + 1, m, none⟩ = some (.slice (Ga m) (G m).length (gq m)) ∧ W.cell? ⟨b16, 0, none⟩ = some (.int .i64 l.n) ∧ W.cell? ⟨b16, 1, none⟩ = some (.int .i64 l.d) ∧ W.cell? ⟨b16, 2, none⟩ = some (.int .i64 l.b) ∧ W.cell? ⟨b16, 3, none⟩ = some (.int .i64 l.u) := fun W h1 h2 => ⟨h1.u.g.cell m (gsl_at _ _ _ hm4), h2.cell 0 rfl, h2.cell 1 rfl, h2.cell 2 rfl, h2.cell 3 rfl⟩
    have HCG := Lib.hid cg
    clear cg
    have z10 := HUS.out.u.g.lt
    refine lBegin (S := fun L W => (W.cell? ⟨b16, 0, none⟩ = some (.int .i64 l.n) ∧ W.cell? ⟨b16, 1, none⟩ = some (.int .i64 l.d) ∧ W.cell? ⟨b16, 2, none⟩ = some (.int .i64 l.b) ∧ W.cell? ⟨b16, 3, none⟩ = some (.int .i64 l.u)) ∧ (L.getD 8 false = true ∨ (W.cell? ⟨w.heap.size + 1 + 1, m, none⟩ = some (.slice (Ga m) (G m).length (gq m))))) (by kernel_rfl) ?_ (fun hHeld => ?_)
    · (try dsimp only); refine ⟨?_, Or.inr ?_⟩
      · (first | with_reducible exact leaseC HB16.out | exact leaseC (HB16.out.setCell_ne (by show b16 ≠ w.heap.size + 1 + 1; exact hne16) _))
      · (first | with_reducible assumption | with_reducible exact (HCG.out _ HUS.out HB16.out).1)
    refine lTake (i := 0) (v := ?_) rfl (by kernel_rfl) (by kernel_rfl) (by kernel_rfl) (fun _ _ _ h => h) (by rfl) (fun _ _ h => by simpa only [getD_set_ne false (show 0 ≠ 8 by decide)] using h) (fun _ _ h => by simpa only [getD_set_ne false (show 0 ≠ 8 by decide)] using h) ?_ (by assumption) (fun hHeld2 => ?_)
    rotate_left 1
    · (intro _ _ _ _ _; first | (go_simp; done) | (go_simp; with_reducible rfl))
    clear hHeld; have hHeld := hHeld2; clear hHeld2
    (try simp only [Act.put, List.setIfInBounds_toArray, List.set_cons_zero, List.set_cons_succ])
    refine lTake (i := 1) (v := ?_) rfl (by kernel_rfl) (by kernel_rfl) (by kernel_rfl) (fun _ _ _ h => h) (by rfl) (fun _ _ h => by simpa only [getD_set_ne false (show 1 ≠ 8 by decide)] using h) (fun _ _ h => by simpa only [getD_set_ne false (show 1 ≠ 8 by decide)] using h) ?_ (by assumption) (fun hHeld2 => ?_)
    rotate_left 1
    · (intro _ _ _ _ _; first | (go_simp; done) | (go_simp; with_reducible rfl))
    clear hHeld; have hHeld := hHeld2; clear hHeld2
    (try simp only [Act.put, List.setIfInBounds_toArray, List.set_cons_zero, List.set_cons_succ])
    refine lTake (i := 2) (v := ?_) rfl (by kernel_rfl) (by kernel_rfl) (by kernel_rfl) (fun _ _ _ h => h) (by rfl) (fun _ _ h => by simpa only [getD_set_ne false (show 2 ≠ 8 by decide)] using h) (fun _ _ h => by simpa only [getD_set_ne false (show 2 ≠ 8 by decide)] using h) ?_ (by assumption) (fun hHeld2 => ?_)
    rotate_left 1
    · (intro _ _ _ _ _; first | (go_simp; done) | (go_simp; with_reducible rfl))
    clear hHeld; have hHeld := hHeld2; clear hHeld2
    (try simp only [Act.put, List.setIfInBounds_toArray, List.set_cons_zero, List.set_cons_succ])
    refine lTake (i := 3) (v := ?_) rfl (by kernel_rfl) (by kernel_rfl) (by kernel_rfl) (fun _ _ _ h => h) (by rfl) (fun _ _ h => by simpa only [getD_set_ne false (show 3 ≠ 8 by decide)] using h) (fun _ _ h => by simpa only [getD_set_ne false (show 3 ≠ 8 by decide)] using h) ?_ (by assumption) (fun hHeld2 => ?_)
    rotate_left 1
    · (intro L W hL hK hSw; (try dsimp only at hSw); obtain ⟨h0, h1⟩ := hSw; replace h1 := still [] hK hL (by kernel_rfl) h1; clear hL hK; first | (go_simp; done) | (go_simp; with_reducible rfl))
    clear hHeld; have hHeld := hHeld2; clear hHeld2
    (try simp only [Act.put, List.setIfInBounds_toArray, List.set_cons_zero, List.set_cons_succ])
    refine lTake (i := 4) (v := ?_) rfl (by kernel_rfl) (by kernel_rfl) (by kernel_rfl) (fun _ _ _ h => h) (by rfl) (fun _ _ h => by simpa only [getD_set_ne false (show 4 ≠ 8 by decide)] using h) (fun _ _ h => by simpa only [getD_set_ne false (show 4 ≠ 8 by decide)] using h) ?_ (by assumption) (fun hHeld2 => ?_)
    rotate_left 1
    · (intro L W hL hK hSw; (try dsimp only at hSw); obtain ⟨h0, h1⟩ := hSw; replace h1 := still [] hK hL (by kernel_rfl) h1; clear hL hK; first | (go_simp; done) | (go_simp; with_reducible rfl))
    clear hHeld; have hHeld := hHeld2; clear hHeld2
    (try simp only [Act.put, List.setIfInBounds_toArray, List.set_cons_zero, List.set_cons_succ])
    refine lReady (rs := [5]) (by kernel_rfl) (by simp) ?_
    refine AllL.cons (i := 5) rfl (fun K hK => ?_) ?_
    · refine step_new (.cells #[.int .i64 l.n, .int .i64 l.d, .int .i64 l.b, .int .i64 l.u] 43) (fun g => .slice (some ⟨g, 0, none⟩) 1 1) rfl (by kernel_rfl) ?_; intro gb w10 hgb hcb hbb; have HUS := Lib.hid (HUS.out.bel hbb); have HB16 := Lib.hid (blk_bel hbb HB16.out); have HKb := Lib.hid (show Blk w10 gb 43 [.int .i64 l.n, .int .i64 l.d, .int .i64 l.b, .int .i64 l.u] from hcb); clear hgb hcb hbb
      (try go_wp2_with fail)
      refine hK.out _ _ ?_ (fun hHeld2 => ?_)
      · (try dsimp only); refine ⟨?_, Or.inr ?_⟩
        · (first | with_reducible exact leaseC HB16.out | exact leaseC (HB16.out.setCell_ne (by show b16 ≠ w.heap.size + 1 + 1; exact hne16) _))
        · (first | with_reducible assumption | with_reducible exact (HCG.out _ HUS.out HB16.out).1)
      clear hK K
      clear hHeld; have hHeld := hHeld2; clear hHeld2
      (try simp only [Act.put, List.setIfInBounds_toArray, List.set_cons_zero, List.set_cons_succ])
      refine lReady (rs := [6]) (by kernel_rfl) (by simp) ?_
      refine AllL.cons (i := 6) rfl (fun K hK => ?_) ?_
      · refine step_append_any (.tmp 102) (.tmp 104) 36 rfl rfl w.heap.size 43 i3 (.agg #[.int .i64 0, .int .i64 0, .int .i64 0, .int .i64 0]) 4 32 Try.underlying36 hi3 y0 y1 y2 rfl (by decide) (Ga m) (G m).length (gq m) (flatLs (G m)) (by rfl) (HUS.out.u.gr m hm4) (some ⟨gb, 0, none⟩) 1 1 [.int .i64 l.n, .int .i64 l.d, .int .i64 l.b, .int .i64 l.u] (by rfl) rfl (src_blk HKb.out 1) (by simp [Value.oneCell']) (by have := HG4.out; unfold maxLen; omega) (by have := HG4.out; omega) HUS.out.u.b.size ?_; intro A5 d5 w11 hown hgrow hat; have HTp := Lib.hid (grown_touch hgrow); have HUS2 := Lib.hid (HUS.out.put hm4 (A2 := A5) (c2 := d5) (L2 := G m ++ [l]) HTp.out (by unfold LRow; rw [flatLs_append, List.length_append]; exact hown) (fun x hx => (hat x hx).imp id (fun e => by omega))); have HB17 := Lib.hid (blk_tch HTp.out HB16.out (fun e => hne43 e)); have g0 : w11.cell? ⟨w.heap.size + 1 + 1, m, none⟩ = some (.slice (Ga m) (G m).length (gq m)) := (blk_tch HTp.out HUS.out.u.g (fun e => ty_ne (.blk HUS.out.u.g) (.row (HUS.out.u.gr m hm4) e) (by decide) rfl)).cell m (gsl_at _ _ _ hm4); have g1 : w11.frozen? ⟨w.heap.size + 1 + 1, m, none⟩ = false := (blk_tch HTp.out HUS.out.u.g (fun e => ty_ne (.blk HUS.out.u.g) (.row (HUS.out.u.gr m hm4) e) (by decide) rfl)).free m; have HB16 := HB17; clear hown hgrow hat
        (try go_wp2_with fail)
        refine hK.out _ _ ?_ (fun hHeld2 => ?_)
        · (try dsimp only); refine ⟨?_, Or.inr ?_⟩
          · (first | with_reducible exact leaseC HB16.out | exact leaseC (HB16.out.setCell_ne (by show b16 ≠ w.heap.size + 1 + 1; exact hne16) _))
          · (first | with_reducible assumption | with_reducible exact (HCG.out _ HUS.out HB16.out).1)
        clear hK K
        clear hHeld; have hHeld := hHeld2; clear hHeld2
        (try simp only [Act.put, List.setIfInBounds_toArray, List.set_cons_zero, List.set_cons_succ])
        refine lTake (i := 7) (v := ?_) rfl (by kernel_rfl) (by kernel_rfl) (by kernel_rfl) (fun _ _ _ h => h) (by rfl) (fun _ _ h => by simpa only [getD_set_ne false (show 7 ≠ 8 by decide)] using h) (fun _ _ h => by simpa only [getD_set_ne false (show 7 ≠ 8 by decide)] using h) ?_ (by assumption) (fun hHeld2 => ?_)
        rotate_left 1
        · (intro _ _ _ _ _; first | (go_simp; done) | (go_simp; with_reducible rfl))
        clear hHeld; have hHeld := hHeld2; clear hHeld2
        (try simp only [Act.put, List.setIfInBounds_toArray, List.set_cons_zero, List.set_cons_succ])
        refine lReady (rs := [8]) (by kernel_rfl) (by simp) ?_
        refine AllL.cons (i := 8) rfl (fun K hK => ?_) ?_
        · go_simp
          (try go_wp2_with fail)
          refine hK.out _ _ ?_ (fun hHeld2 => ?_)
          · (try dsimp only); refine ⟨?_, Or.inl (by rfl)⟩
            · (first | with_reducible exact leaseC HB16.out | exact leaseC (HB16.out.setCell_ne (by show b16 ≠ w.heap.size + 1 + 1; exact hne16) _))
          clear hK K
          clear hHeld; have hHeld := hHeld2; clear hHeld2
          (try simp only [Act.put, List.setIfInBounds_toArray, List.set_cons_zero, List.set_cons_succ])
          refine lDone (by kernel_rfl) ?_ _
          clear hHeld g0 g1
          go_wp2
          go_meet
          case rel => exact ⟨now, rfl, by omega, _, _, _, _, _, _, _, _, by have h := HUS2.out; rw [List.length_append] at h; exact h, by have h := HG.out; rw [← HL.out.1] at h; exact h⟩
        exact AllL.nil
      exact AllL.nil
    exact AllL.nil
  · have hS : Sx.grS cs dr bk N (m : Int) u.dr u.bk (now + 1 + (r : Int)) now = cs := by unfold Sx.grS; rw [← HL.out.2]; rfl
    have hN : Sx.grN cs dr bk N (m : Int) u.dr u.bk (now + 1 + (r : Int)) now = N := by unfold Sx.grN; rw [← HL.out.2]; rfl
    rw [hS, hN] at P48
    go_wp2_with (go_at_call 48; refine P48.out.mono ?_; rintro e w8 ⟨rfl, A2, q2, hs1, ht1, hA1⟩; have HUS := Lib.hid (HUS.out.site hs1 HUS.out.n ht1 hA1); clear hs1 ht1 hA1)
    go_meet
    case rel => exact ⟨now, rfl, by omega, _, _, _, _, _, _, _, _, HUS.out.bel ((Below.refl _ _).alloc (Nat.le_refl _) _), HSI.out.up (by omega)⟩
  · have hS : Sx.grS cs dr bk N (m : Int) u.dr u.bk (now + 1 + (r : Int)) now = cs := by unfold Sx.grS; rw [← HL.out.2]; rfl
    have hN : Sx.grN cs dr bk N (m : Int) u.dr u.bk (now + 1 + (r : Int)) now = N := by unfold Sx.grN; rw [← HL.out.2]; rfl
    rw [hS, hN] at P48
    go_wp2_with (go_at_call 48; refine P48.out.mono ?_; rintro e w8 ⟨rfl, A2, q2, hs1, ht1, hA1⟩; have HUS := Lib.hid (HUS.out.site hs1 HUS.out.n ht1 hA1); clear hs1 ht1 hA1)
    go_meet
    case rel => exact ⟨now, rfl, by omega, _, _, _, _, _, _, _, _, HUS.out.bel ((Below.refl _ _).alloc (Nat.le_refl _) _), HSI.out.up (by omega)⟩
set_option maxRecDepth 1000000 in
set_option maxHeartbeats 80000000 in
theorem SiC1 (dr bk : Int) (us : List Us) (cap : Nat) (w w7 : World) (gp c' bu k m s : Nat) (pb : Nat → Nat) (ad : Addr) (u : Us) (now N : Int) (A1 : Nat → Option Addr) (q1 : Nat → Nat) (cs : List Sx.Cl) (P : Nat → Ls) (Ga : Nat → Option Addr) (gq : Nat → Nat) (G : Nat → List Ls) (u6 u16 u17 u18 u67 u68 u69 u70 u71 u72 u73 u74 u75 u76 u77 u78 u79 u80 u81 u82 u83 u84 u85 u86 u87 u88 u89 u90 u91 u92 u93 u94 u95 u96 u97 u98 u99 u100 u101 u102 u103 u104 u105 u106 u107 u108 u109 u110 u111 u112 u113 u114 u115 u116 u117 u118 u119 u120 u121 u122 u123 u124 u125 u126 u127 u128 u129 u130 u131 u132 u133 u134 u135 u136 u137 u138 u139 u140 u141 u142 u143 u144 u145 u146 u147 u148 u149 u150 u151 u152 u153 u154 u155 u156 u157 u158 : Value) (u19 u20 u21 u22 u23 u24 u25 u26 u27 u40 u41 u42 u43 u44 u45 u54 u55 u159 u160 u161 u162 u163 u164 u165 u166 u167 u168 u169 u170 u171 u172 u173 u174 u175 u176 u177 u178 u179 u180 u181 u182 u183 u184 u185 u186 u187 u188 u189 u190 u191 u192 u193 u194 u195 u196 u197 u198 u199 u200 u201 u202 u203 u204 u205 u206 u207 u208 u209 u210 u211 u212 u213 u214 : Value) (J K K1 L1 L2 : Act → World → Prop) (n0 : Nat) (R : Ending → World → Prop)
    (h150 : k < 150) (hnow : 0 ≤ now ∧ now ≤ 4 * (k : Int)) (HO : Hid u.Ok) (hm4 : m < 4) (HUS : Hid (UsI w (w.heap.size + 1) w.heap.size gp c' (w.heap.size + 1 + 1) pb A1 q1 cs dr bk N P Ga gq G w7)) (HSI : Hid (Sx.SI (k : Int) dr bk now N cs G P)) (HBU : Hid (Blk w7 bu 110 [.int .u8 u.d, .int .u8 u.s, .int .u8 u.dr, .int .u8 u.bk, .int .u8 u.fo, .int .u8 u.at_])) (hs : s = 1)
    (hJ : (∀ (a' : Act) (w' : World), (∃ u6 u12 u16 u17 u18 u67 u68 u69 u70 u71 u72 u73 u74 u75 u76 u77 u78 u79 u80 u81 u82 u83 u84 u85 u86 u87 u88 u89 u90 u91 u92 u93 u94 u95 u96 u97 u98 u99 u100 u101 u102 u103 u104 u105 u106 u107 u108 u109 u110 u111 u112 u113 u114 u115 u116 u117 u118 u119 u120 u121 u122 u123 u124 u125 u126 u127 u128 u129 u130 u131 u132 u133 u134 u135 u136 u137 u138 u139 u140 u141 u142 u143 u144 u145 u146 u147 u148 u149 u150 u151 u152 u153 u154 u155 u156 u157 u158 : Value, (∃ now' : Int, u12 = .int .i64 now' ∧ (now ≤ now' ∧ now' ≤ now + 4) ∧ StU w (w.heap.size + 1) w.heap.size gp c' (w.heap.size + 1 + 1) pb dr bk ((k : Int) + 1) now' w') ∧ a' = ⟨#[(.int .u8 dr : Value), .int .u8 bk, .slice (some ad) us.length cap, undef, undef, undef, u6, .pointer (some ⟨w.heap.size + 1, 0, none⟩), .int .i64 0, .slice (some ⟨gp, 0, none⟩) 4 c', .pointer (some ⟨w.heap.size + 1 + 1, 0, none⟩), .int .i64 4, u12, .int .i64 (k : Int), .pointer (some ⟨bu, 0, none⟩), .int .i64 (m : Int), u16, u17, u18, u19, u20, u21, u22, u23, u24, u25, u26, u27, .tuple #[.pointer (some ⟨w.heap.size + 1, 0, none⟩), .int .i64 0], .int .u8 dr, .int .i64 dr, .int .u8 bk, .int .i64 bk, .tuple #[.pointer (some ⟨w.heap.size + 1, 0, none⟩), .int .i64 0], .pointer (some ⟨w.heap.size + 1, 0, none⟩), .int .i64 0, .int .i64 0, .bool false, .int .i64 4, .bool false, u40, u41, u42, u43, u44, u45, .int .i64 (k : Int), .slice (some ad) us.length cap, .int .i64 (us.length : Int), .bool true, .bool true, .int .i64 (k : Int), .bool true, .bool true, u54, u55, .slice (some ad) us.length cap, .int .i64 (k : Int), .pointer (some (ad.add (k * 6))), .agg #[.int .u8 u.d, .int .u8 u.s, .int .u8 u.dr, .int .u8 u.bk, .int .u8 u.fo, .int .u8 u.at_], .pointer (some ⟨bu, 1, none⟩), .int .u8 u.s, .int .i64 u.s, .int .i64 (m : Int), .pointer (some ⟨bu, 0, none⟩), .int .u8 u.d, .int .u8 (s : Int), u67, u68, u69, u70, u71, u72, u73, u74, u75, u76, u77, u78, u79, u80, u81, u82, u83, u84, u85, u86, u87, u88, u89, u90, u91, u92, u93, u94, u95, u96, u97, u98, u99, u100, u101, u102, u103, u104, u105, u106, u107, u108, u109, u110, u111, u112, u113, u114, u115, u116, u117, u118, u119, u120, u121, u122, u123, u124, u125, u126, u127, u128, u129, u130, u131, u132, u133, u134, u135, u136, u137, u138, u139, u140, u141, u142, u143, u144, u145, u146, u147, u148, u149, u150, u151, u152, u153, u154, u155, u156, u157, u158, u159, u160, u161, u162, u163, u164, u165, u166, u167, u168, u169, u170, u171, u172, u173, u174, u175, u176, u177, u178, u179, u180, u181, u182, u183, u184, u185, u186, u187, u188, u189, u190, u191, u192, u193, u194, u195, u196, u197, u198, u199, u200, u201, u202, u203, u204, u205, u206, u207, u208, u209, u210, u211, u212, u213, u214, undef], []⟩) → J a' w')) (hK : ∀ (a' : Act) (w' : World), Met J a' w' → K a' w') :
    Code.wp Try.prog (Code.block 4 siBody) (Exit.then K (Exit.inBlock 3 (Exit.then K1 (Exit.then L1 (Exit.inBlock n0 (Exit.then L2 (bodyPost Try.prog Try.f10 R))))))) ⟨#[(.int .u8 dr : Value), .int .u8 bk, .slice (some ad) us.length cap, undef, undef, undef, u6, .pointer (some ⟨w.heap.size + 1, 0, none⟩), .int .i64 0, .slice (some ⟨gp, 0, none⟩) 4 c', .pointer (some ⟨w.heap.size + 1 + 1, 0, none⟩), .int .i64 4, .int .i64 now, .int .i64 (k : Int), .pointer (some ⟨bu, 0, none⟩), .int .i64 (m : Int), u16, u17, u18, u19, u20, u21, u22, u23, u24, u25, u26, u27, .tuple #[.pointer (some ⟨w.heap.size + 1, 0, none⟩), .int .i64 0], .int .u8 dr, .int .i64 dr, .int .u8 bk, .int .i64 bk, .tuple #[.pointer (some ⟨w.heap.size + 1, 0, none⟩), .int .i64 0], .pointer (some ⟨w.heap.size + 1, 0, none⟩), .int .i64 0, .int .i64 0, .bool false, .int .i64 4, .bool false, u40, u41, u42, u43, u44, u45, .int .i64 (k : Int), .slice (some ad) us.length cap, .int .i64 (us.length : Int), .bool true, .bool true, .int .i64 (k : Int), .bool true, .bool true, u54, u55, .slice (some ad) us.length cap, .int .i64 (k : Int), .pointer (some (ad.add (k * 6))), .agg #[.int .u8 u.d, .int .u8 u.s, .int .u8 u.dr, .int .u8 u.bk, .int .u8 u.fo, .int .u8 u.at_], .pointer (some ⟨bu, 1, none⟩), .int .u8 u.s, .int .i64 u.s, .int .i64 (m : Int), .pointer (some ⟨bu, 0, none⟩), .int .u8 u.d, .int .u8 (s : Int), u67, u68, u69, u70, u71, u72, u73, u74, u75, u76, u77, u78, u79, u80, u81, u82, u83, u84, u85, u86, u87, u88, u89, u90, u91, u92, u93, u94, u95, u96, u97, u98, u99, u100, u101, u102, u103, u104, u105, u106, u107, u108, u109, u110, u111, u112, u113, u114, u115, u116, u117, u118, u119, u120, u121, u122, u123, u124, u125, u126, u127, u128, u129, u130, u131, u132, u133, u134, u135, u136, u137, u138, u139, u140, u141, u142, u143, u144, u145, u146, u147, u148, u149, u150, u151, u152, u153, u154, u155, u156, u157, u158, u159, u160, u161, u162, u163, u164, u165, u166, u167, u168, u169, u170, u171, u172, u173, u174, u175, u176, u177, u178, u179, u180, u181, u182, u183, u184, u185, u186, u187, u188, u189, u190, u191, u192, u193, u194, u195, u196, u197, u198, u199, u200, u201, u202, u203, u204, u205, u206, u207, u208, u209, u210, u211, u212, u213, u214, undef], []⟩ w7 := by
  conv => arg 2; arg 2; whnf
  subst hs
  have v2 := HBU.out.cell 2 rfl
  have v3 := HBU.out.cell 3 rfl
  have v4 := HBU.out.cell 4 rfl
  have v5 := HBU.out.cell 5 rfl
  obtain ⟨r, hr, hr40⟩ : ∃ r : Nat, u.fo.tmod 40 = (r : Int) ∧ r < 40 := by
    have h0 := HO.out.fo.1
    have h1 := Int.emod_nonneg u.fo (show (40 : Int) ≠ 0 by decide)
    have h2 := Int.emod_lt_of_pos u.fo (show (0 : Int) < 40 by decide)
    have h3 : u.fo.tmod 40 = u.fo % 40 := Int.tmod_eq_emod_of_nonneg h0
    exact ⟨(u.fo % 40).toNat, by omega, by omega⟩
  have w1 : IntKind.i64.wrap (now + 1) = now + 1 := IntWalk.i64_in _ (by omega)
  have w2 : IntKind.i64.wrap (now + 1 + (r : Int)) = now + 1 + (r : Int) := IntWalk.i64_in _ (by omega)
  obtain ⟨f0, f1⟩ := HO.out.fo
  obtain ⟨dr0, dr1⟩ := HO.out.dr
  obtain ⟨bk0, bk1⟩ := HO.out.bk
  have ha : Sx.askOk u.dr u.bk (now + 1 + (r : Int)) now := ⟨by omega, by omega, by omega, by omega⟩
  obtain ⟨l, hl⟩ : ∃ l, l = Sx.grL cs dr bk N (m : Int) u.dr u.bk (now + 1 + (r : Int)) now := ⟨_, rfl⟩
  obtain ⟨er, her⟩ : ∃ er, er = Sx.grE cs dr bk N (m : Int) u.dr u.bk (now + 1 + (r : Int)) now := ⟨_, rfl⟩
  have P48 := Lib.hid (Grant2_c HUS.out.s HUS.out.u.b.size (K := (k : Int)) (by omega) HSI.out.oks (by rw [HUS.out.n]; decide) (m : Int) u.dr u.bk (now + 1 + (r : Int)) now hl her)
  have hcode := HSI.out.code hm4 ha
  rw [← her] at hcode
  have HL := Lib.hid (And.intro hl her)
  clear hl her ha
  rcases hcode with rfl | rfl | rfl
  · have HG := Lib.hid (HSI.out.grant hm4 HL.out.2.symm)
    go_upto_region 23 with (go_at_call 48; refine P48.out.mono ?_; rintro e w8 ⟨rfl, A2, q2, hs1, ht1, hA1⟩; have HUS := Lib.hid (HUS.out.site hs1 HG.out.len ht1 hA1); clear hs1 ht1 hA1)
    refine gen_world' (fun W => UsI w (w.heap.size + 1) w.heap.size gp c' (w.heap.size + 1 + 1) pb A2 q2 (Sx.grS cs dr bk N (m : Int) u.dr u.bk (now + 1 + (r : Int)) now) dr bk (Sx.grN cs dr bk N (m : Int) u.dr u.bk (now + 1 + (r : Int)) now) P Ga gq G W ∧ Blk W w8.heap.size 43 [.int .i64 l.n, .int .i64 l.d, .int .i64 l.b, .int .i64 l.u]) ⟨HUS.out.bel ((Below.refl _ _).alloc (Nat.le_refl _) _), Blk.new' _ _ _⟩ ?_
    have HGl := Lib.hid (fun x (hx : OwnB (Ga m) x) => (rowE_lt (HUS.out.u.gr m hm4) hx).2)
    clear HUS P48 v2 v3 v4 v5 HBU
    generalize w8.heap.size = b16 at *
    rintro w9 ⟨hus9, hb9⟩
    have HUS := Lib.hid (hus9.bel ((Below.refl _ _).drew))
    have HB16 := Lib.hid hb9.drew
    clear hus9 hb9
    obtain ⟨i3, hi3, y0, y1, y2⟩ := info_parts info43
    have HG4 := Lib.hid (show (G m).length ≤ 1000000 from by have h1 := (HSI.out.st m hm4).l; omega)
    have m4 : (m : Int) < 4 := by omega
    have m0 : (0 : Int) ≤ (m : Int) := by omega
    have hne16 := ty_ne (Ty.blk HB16.out) (Ty.blk HUS.out.u.g) (by decide)
    have hne43 : ¬ OwnB (Ga m) b16 := fun e => by have := HGl.out _ e; omega
    have cg : ∀ W, UsI w (w.heap.size + 1) w.heap.size gp c' (w.heap.size + 1 + 1) pb A2 q2 (Sx.grS cs dr bk N (m : Int) u.dr u.bk (now + 1 + (r : Int)) now) dr bk (Sx.grN cs dr bk N (m : Int) u.dr u.bk (now + 1 + (r : Int)) now) P Ga gq G W → Blk W b16 43 [.int .i64 l.n, .int .i64 l.d, .int .i64 l.b, .int .i64 l.u] → W.cell? ⟨w.heap.size + 1 + 1, m, none⟩ = some (.slice (Ga m) (G m).length (gq m)) ∧ W.cell? ⟨b16, 0, none⟩ = some (.int .i64 l.n) ∧ W.cell? ⟨b16, 1, none⟩ = some (.int .i64 l.d) ∧ W.cell? ⟨b16, 2, none⟩ = some (.int .i64 l.b) ∧ W.cell? ⟨b16, 3, none⟩ = some (.int .i64 l.u) := fun W h1 h2 => ⟨h1.u.g.cell m (gsl_at _ _ _ hm4), h2.cell 0 rfl, h2.cell 1 rfl, h2.cell 2 rfl, h2.cell 3 rfl⟩
    have HCG := Lib.hid cg
    clear cg
    have z10 := HUS.out.u.g.lt
    refine lBegin (S := fun L W => (W.cell? ⟨b16, 0, none⟩ = some (.int .i64 l.n) ∧ W.cell? ⟨b16, 1, none⟩ = some (.int .i64 l.d) ∧ W.cell? ⟨b16, 2, none⟩ = some (.int .i64 l.b) ∧ W.cell? ⟨b16, 3, none⟩ = some (.int .i64 l.u)) ∧ (L.getD 8 false = true ∨ (W.cell? ⟨w.heap.size + 1 + 1, m, none⟩ = some (.slice (Ga m) (G m).length (gq m))))) (by kernel_rfl) ?_ (fun hHeld => ?_)
    · (try dsimp only); refine ⟨?_, Or.inr ?_⟩
      · (first | with_reducible exact leaseC HB16.out | exact leaseC (HB16.out.setCell_ne (by show b16 ≠ w.heap.size + 1 + 1; exact hne16) _))
      · (first | with_reducible assumption | with_reducible exact (HCG.out _ HUS.out HB16.out).1)
    refine lTake (i := 0) (v := ?_) rfl (by kernel_rfl) (by kernel_rfl) (by kernel_rfl) (fun _ _ _ h => h) (by rfl) (fun _ _ h => by simpa only [getD_set_ne false (show 0 ≠ 8 by decide)] using h) (fun _ _ h => by simpa only [getD_set_ne false (show 0 ≠ 8 by decide)] using h) ?_ (by assumption) (fun hHeld2 => ?_)
    rotate_left 1
    · (intro _ _ _ _ _; first | (go_simp; done) | (go_simp; with_reducible rfl))
    clear hHeld; have hHeld := hHeld2; clear hHeld2
    (try simp only [Act.put, List.setIfInBounds_toArray, List.set_cons_zero, List.set_cons_succ])
    refine lTake (i := 1) (v := ?_) rfl (by kernel_rfl) (by kernel_rfl) (by kernel_rfl) (fun _ _ _ h => h) (by rfl) (fun _ _ h => by simpa only [getD_set_ne false (show 1 ≠ 8 by decide)] using h) (fun _ _ h => by simpa only [getD_set_ne false (show 1 ≠ 8 by decide)] using h) ?_ (by assumption) (fun hHeld2 => ?_)
    rotate_left 1
    · (intro _ _ _ _ _; first | (go_simp; done) | (go_simp; with_reducible rfl))
    clear hHeld; have hHeld := hHeld2; clear hHeld2
    (try simp only [Act.put, List.setIfInBounds_toArray, List.set_cons_zero, List.set_cons_succ])
    refine lTake (i := 2) (v := ?_) rfl (by kernel_rfl) (by kernel_rfl) (by kernel_rfl) (fun _ _ _ h => h) (by rfl) (fun _ _ h => by simpa only [getD_set_ne false (show 2 ≠ 8 by decide)] using h) (fun _ _ h => by simpa only [getD_set_ne false (show 2 ≠ 8 by decide)] using h) ?_ (by assumption) (fun hHeld2 => ?_)
    rotate_left 1
    · (intro _ _ _ _ _; first | (go_simp; done) | (go_simp; with_reducible rfl))
    clear hHeld; have hHeld := hHeld2; clear hHeld2
    (try simp only [Act.put, List.setIfInBounds_toArray, List.set_cons_zero, List.set_cons_succ])
    refine lTake (i := 3) (v := ?_) rfl (by kernel_rfl) (by kernel_rfl) (by kernel_rfl) (fun _ _ _ h => h) (by rfl) (fun _ _ h => by simpa only [getD_set_ne false (show 3 ≠ 8 by decide)] using h) (fun _ _ h => by simpa only [getD_set_ne false (show 3 ≠ 8 by decide)] using h) ?_ (by assumption) (fun hHeld2 => ?_)
    rotate_left 1
    · (intro L W hL hK hSw; (try dsimp only at hSw); obtain ⟨h0, h1⟩ := hSw; replace h1 := still [] hK hL (by kernel_rfl) h1; clear hL hK; first | (go_simp; done) | (go_simp; with_reducible rfl))
    clear hHeld; have hHeld := hHeld2; clear hHeld2
    (try simp only [Act.put, List.setIfInBounds_toArray, List.set_cons_zero, List.set_cons_succ])
    refine lTake (i := 4) (v := ?_) rfl (by kernel_rfl) (by kernel_rfl) (by kernel_rfl) (fun _ _ _ h => h) (by rfl) (fun _ _ h => by simpa only [getD_set_ne false (show 4 ≠ 8 by decide)] using h) (fun _ _ h => by simpa only [getD_set_ne false (show 4 ≠ 8 by decide)] using h) ?_ (by assumption) (fun hHeld2 => ?_)
    rotate_left 1
    · (intro L W hL hK hSw; (try dsimp only at hSw); obtain ⟨h0, h1⟩ := hSw; replace h1 := still [] hK hL (by kernel_rfl) h1; clear hL hK; first | (go_simp; done) | (go_simp; with_reducible rfl))
    clear hHeld; have hHeld := hHeld2; clear hHeld2
    (try simp only [Act.put, List.setIfInBounds_toArray, List.set_cons_zero, List.set_cons_succ])
    refine lReady (rs := [5]) (by kernel_rfl) (by simp) ?_
    refine AllL.cons (i := 5) rfl (fun K hK => ?_) ?_
    · refine step_new (.cells #[.int .i64 l.n, .int .i64 l.d, .int .i64 l.b, .int .i64 l.u] 43) (fun g => .slice (some ⟨g, 0, none⟩) 1 1) rfl (by kernel_rfl) ?_; intro gb w10 hgb hcb hbb; have HUS := Lib.hid (HUS.out.bel hbb); have HB16 := Lib.hid (blk_bel hbb HB16.out); have HKb := Lib.hid (show Blk w10 gb 43 [.int .i64 l.n, .int .i64 l.d, .int .i64 l.b, .int .i64 l.u] from hcb); clear hgb hcb hbb
      (try go_wp2_with fail)
      refine hK.out _ _ ?_ (fun hHeld2 => ?_)
      · (try dsimp only); refine ⟨?_, Or.inr ?_⟩
        · (first | with_reducible exact leaseC HB16.out | exact leaseC (HB16.out.setCell_ne (by show b16 ≠ w.heap.size + 1 + 1; exact hne16) _))
        · (first | with_reducible assumption | with_reducible exact (HCG.out _ HUS.out HB16.out).1)
      clear hK K
      clear hHeld; have hHeld := hHeld2; clear hHeld2
      (try simp only [Act.put, List.setIfInBounds_toArray, List.set_cons_zero, List.set_cons_succ])
      refine lReady (rs := [6]) (by kernel_rfl) (by simp) ?_
      refine AllL.cons (i := 6) rfl (fun K hK => ?_) ?_
      · refine step_append_any (.tmp 102) (.tmp 104) 36 rfl rfl w.heap.size 43 i3 (.agg #[.int .i64 0, .int .i64 0, .int .i64 0, .int .i64 0]) 4 32 Try.underlying36 hi3 y0 y1 y2 rfl (by decide) (Ga m) (G m).length (gq m) (flatLs (G m)) (by rfl) (HUS.out.u.gr m hm4) (some ⟨gb, 0, none⟩) 1 1 [.int .i64 l.n, .int .i64 l.d, .int .i64 l.b, .int .i64 l.u] (by rfl) rfl (src_blk HKb.out 1) (by simp [Value.oneCell']) (by have := HG4.out; unfold maxLen; omega) (by have := HG4.out; omega) HUS.out.u.b.size ?_; intro A5 d5 w11 hown hgrow hat; have HTp := Lib.hid (grown_touch hgrow); have HUS2 := Lib.hid (HUS.out.put hm4 (A2 := A5) (c2 := d5) (L2 := G m ++ [l]) HTp.out (by unfold LRow; rw [flatLs_append, List.length_append]; exact hown) (fun x hx => (hat x hx).imp id (fun e => by omega))); have HB17 := Lib.hid (blk_tch HTp.out HB16.out (fun e => hne43 e)); have g0 : w11.cell? ⟨w.heap.size + 1 + 1, m, none⟩ = some (.slice (Ga m) (G m).length (gq m)) := (blk_tch HTp.out HUS.out.u.g (fun e => ty_ne (.blk HUS.out.u.g) (.row (HUS.out.u.gr m hm4) e) (by decide) rfl)).cell m (gsl_at _ _ _ hm4); have g1 : w11.frozen? ⟨w.heap.size + 1 + 1, m, none⟩ = false := (blk_tch HTp.out HUS.out.u.g (fun e => ty_ne (.blk HUS.out.u.g) (.row (HUS.out.u.gr m hm4) e) (by decide) rfl)).free m; have HB16 := HB17; clear hown hgrow hat
        (try go_wp2_with fail)
        refine hK.out _ _ ?_ (fun hHeld2 => ?_)
        · (try dsimp only); refine ⟨?_, Or.inr ?_⟩
          · (first | with_reducible exact leaseC HB16.out | exact leaseC (HB16.out.setCell_ne (by show b16 ≠ w.heap.size + 1 + 1; exact hne16) _))
          · (first | with_reducible assumption | with_reducible exact (HCG.out _ HUS.out HB16.out).1)
        clear hK K
        clear hHeld; have hHeld := hHeld2; clear hHeld2
        (try simp only [Act.put, List.setIfInBounds_toArray, List.set_cons_zero, List.set_cons_succ])
        refine lTake (i := 7) (v := ?_) rfl (by kernel_rfl) (by kernel_rfl) (by kernel_rfl) (fun _ _ _ h => h) (by rfl) (fun _ _ h => by simpa only [getD_set_ne false (show 7 ≠ 8 by decide)] using h) (fun _ _ h => by simpa only [getD_set_ne false (show 7 ≠ 8 by decide)] using h) ?_ (by assumption) (fun hHeld2 => ?_)
        rotate_left 1
        · (intro _ _ _ _ _; first | (go_simp; done) | (go_simp; with_reducible rfl))
        clear hHeld; have hHeld := hHeld2; clear hHeld2
        (try simp only [Act.put, List.setIfInBounds_toArray, List.set_cons_zero, List.set_cons_succ])
        refine lReady (rs := [8]) (by kernel_rfl) (by simp) ?_
        refine AllL.cons (i := 8) rfl (fun K hK => ?_) ?_
        · go_simp
          (try go_wp2_with fail)
          refine hK.out _ _ ?_ (fun hHeld2 => ?_)
          · (try dsimp only); refine ⟨?_, Or.inl (by rfl)⟩
            · (first | with_reducible exact leaseC HB16.out | exact leaseC (HB16.out.setCell_ne (by show b16 ≠ w.heap.size + 1 + 1; exact hne16) _))
          clear hK K
          clear hHeld; have hHeld := hHeld2; clear hHeld2
          (try simp only [Act.put, List.setIfInBounds_toArray, List.set_cons_zero, List.set_cons_succ])
          refine lDone (by kernel_rfl) ?_ _
          clear hHeld g0 g1
          go_wp2
          go_meet
          case rel => exact ⟨now, rfl, by omega, _, _, _, _, _, _, _, _, by have h := HUS2.out; rw [List.length_append] at h; exact h, by have h := HG.out; rw [← HL.out.1] at h; exact h⟩
        exact AllL.nil
      exact AllL.nil
    exact AllL.nil
  · have hS : Sx.grS cs dr bk N (m : Int) u.dr u.bk (now + 1 + (r : Int)) now = cs := by unfold Sx.grS; rw [← HL.out.2]; rfl
    have hN : Sx.grN cs dr bk N (m : Int) u.dr u.bk (now + 1 + (r : Int)) now = N := by unfold Sx.grN; rw [← HL.out.2]; rfl
    rw [hS, hN] at P48
    go_wp2_with (go_at_call 48; refine P48.out.mono ?_; rintro e w8 ⟨rfl, A2, q2, hs1, ht1, hA1⟩; have HUS := Lib.hid (HUS.out.site hs1 HUS.out.n ht1 hA1); clear hs1 ht1 hA1)
    go_meet
    case rel => exact ⟨now, rfl, by omega, _, _, _, _, _, _, _, _, HUS.out.bel ((Below.refl _ _).alloc (Nat.le_refl _) _), HSI.out.up (by omega)⟩
  · have hS : Sx.grS cs dr bk N (m : Int) u.dr u.bk (now + 1 + (r : Int)) now = cs := by unfold Sx.grS; rw [← HL.out.2]; rfl
    have hN : Sx.grN cs dr bk N (m : Int) u.dr u.bk (now + 1 + (r : Int)) now = N := by unfold Sx.grN; rw [← HL.out.2]; rfl
    rw [hS, hN] at P48
    go_wp2_with (go_at_call 48; refine P48.out.mono ?_; rintro e w8 ⟨rfl, A2, q2, hs1, ht1, hA1⟩; have HUS := Lib.hid (HUS.out.site hs1 HUS.out.n ht1 hA1); clear hs1 ht1 hA1)
    go_meet
    case rel => exact ⟨now, rfl, by omega, _, _, _, _, _, _, _, _, HUS.out.bel ((Below.refl _ _).alloc (Nat.le_refl _) _), HSI.out.up (by omega)⟩
set_option maxRecDepth 1000000 in
set_option maxHeartbeats 80000000 in
theorem SiC2 (dr bk : Int) (us : List Us) (cap : Nat) (w w7 : World) (gp c' bu k m s : Nat) (pb : Nat → Nat) (ad : Addr) (u : Us) (now N : Int) (A1 : Nat → Option Addr) (q1 : Nat → Nat) (cs : List Sx.Cl) (P : Nat → Ls) (Ga : Nat → Option Addr) (gq : Nat → Nat) (G : Nat → List Ls) (u6 u16 u17 u18 u67 u68 u69 u70 u71 u72 u73 u74 u75 u76 u77 u78 u79 u80 u81 u82 u83 u84 u85 u86 u87 u88 u89 u90 u91 u92 u93 u94 u95 u96 u97 u98 u99 u100 u101 u102 u103 u104 u105 u106 u107 u108 u109 u110 u111 u112 u113 u114 u115 u116 u117 u118 u119 u120 u121 u122 u123 u124 u125 u126 u127 u128 u129 u130 u131 u132 u133 u134 u135 u136 u137 u138 u139 u140 u141 u142 u143 u144 u145 u146 u147 u148 u149 u150 u151 u152 u153 u154 u155 u156 u157 u158 : Value) (u19 u20 u21 u22 u23 u24 u25 u26 u27 u40 u41 u42 u43 u44 u45 u54 u55 u159 u160 u161 u162 u163 u164 u165 u166 u167 u168 u169 u170 u171 u172 u173 u174 u175 u176 u177 u178 u179 u180 u181 u182 u183 u184 u185 u186 u187 u188 u189 u190 u191 u192 u193 u194 u195 u196 u197 u198 u199 u200 u201 u202 u203 u204 u205 u206 u207 u208 u209 u210 u211 u212 u213 u214 : Value) (J K K1 L1 L2 : Act → World → Prop) (n0 : Nat) (R : Ending → World → Prop)
    (h150 : k < 150) (hnow : 0 ≤ now ∧ now ≤ 4 * (k : Int)) (HO : Hid u.Ok) (hm4 : m < 4) (HUS : Hid (UsI w (w.heap.size + 1) w.heap.size gp c' (w.heap.size + 1 + 1) pb A1 q1 cs dr bk N P Ga gq G w7)) (HSI : Hid (Sx.SI (k : Int) dr bk now N cs G P)) (HBU : Hid (Blk w7 bu 110 [.int .u8 u.d, .int .u8 u.s, .int .u8 u.dr, .int .u8 u.bk, .int .u8 u.fo, .int .u8 u.at_])) (hs : s = 2)
    (hJ : (∀ (a' : Act) (w' : World), (∃ u6 u12 u16 u17 u18 u67 u68 u69 u70 u71 u72 u73 u74 u75 u76 u77 u78 u79 u80 u81 u82 u83 u84 u85 u86 u87 u88 u89 u90 u91 u92 u93 u94 u95 u96 u97 u98 u99 u100 u101 u102 u103 u104 u105 u106 u107 u108 u109 u110 u111 u112 u113 u114 u115 u116 u117 u118 u119 u120 u121 u122 u123 u124 u125 u126 u127 u128 u129 u130 u131 u132 u133 u134 u135 u136 u137 u138 u139 u140 u141 u142 u143 u144 u145 u146 u147 u148 u149 u150 u151 u152 u153 u154 u155 u156 u157 u158 : Value, (∃ now' : Int, u12 = .int .i64 now' ∧ (now ≤ now' ∧ now' ≤ now + 4) ∧ StU w (w.heap.size + 1) w.heap.size gp c' (w.heap.size + 1 + 1) pb dr bk ((k : Int) + 1) now' w') ∧ a' = ⟨#[(.int .u8 dr : Value), .int .u8 bk, .slice (some ad) us.length cap, undef, undef, undef, u6, .pointer (some ⟨w.heap.size + 1, 0, none⟩), .int .i64 0, .slice (some ⟨gp, 0, none⟩) 4 c', .pointer (some ⟨w.heap.size + 1 + 1, 0, none⟩), .int .i64 4, u12, .int .i64 (k : Int), .pointer (some ⟨bu, 0, none⟩), .int .i64 (m : Int), u16, u17, u18, u19, u20, u21, u22, u23, u24, u25, u26, u27, .tuple #[.pointer (some ⟨w.heap.size + 1, 0, none⟩), .int .i64 0], .int .u8 dr, .int .i64 dr, .int .u8 bk, .int .i64 bk, .tuple #[.pointer (some ⟨w.heap.size + 1, 0, none⟩), .int .i64 0], .pointer (some ⟨w.heap.size + 1, 0, none⟩), .int .i64 0, .int .i64 0, .bool false, .int .i64 4, .bool false, u40, u41, u42, u43, u44, u45, .int .i64 (k : Int), .slice (some ad) us.length cap, .int .i64 (us.length : Int), .bool true, .bool true, .int .i64 (k : Int), .bool true, .bool true, u54, u55, .slice (some ad) us.length cap, .int .i64 (k : Int), .pointer (some (ad.add (k * 6))), .agg #[.int .u8 u.d, .int .u8 u.s, .int .u8 u.dr, .int .u8 u.bk, .int .u8 u.fo, .int .u8 u.at_], .pointer (some ⟨bu, 1, none⟩), .int .u8 u.s, .int .i64 u.s, .int .i64 (m : Int), .pointer (some ⟨bu, 0, none⟩), .int .u8 u.d, .int .u8 (s : Int), u67, u68, u69, u70, u71, u72, u73, u74, u75, u76, u77, u78, u79, u80, u81, u82, u83, u84, u85, u86, u87, u88, u89, u90, u91, u92, u93, u94, u95, u96, u97, u98, u99, u100, u101, u102, u103, u104, u105, u106, u107, u108, u109, u110, u111, u112, u113, u114, u115, u116, u117, u118, u119, u120, u121, u122, u123, u124, u125, u126, u127, u128, u129, u130, u131, u132, u133, u134, u135, u136, u137, u138, u139, u140, u141, u142, u143, u144, u145, u146, u147, u148, u149, u150, u151, u152, u153, u154, u155, u156, u157, u158, u159, u160, u161, u162, u163, u164, u165, u166, u167, u168, u169, u170, u171, u172, u173, u174, u175, u176, u177, u178, u179, u180, u181, u182, u183, u184, u185, u186, u187, u188, u189, u190, u191, u192, u193, u194, u195, u196, u197, u198, u199, u200, u201, u202, u203, u204, u205, u206, u207, u208, u209, u210, u211, u212, u213, u214, undef], []⟩) → J a' w')) (hK : ∀ (a' : Act) (w' : World), Met J a' w' → K a' w') :
    Code.wp Try.prog (Code.block 4 siBody) (Exit.then K (Exit.inBlock 3 (Exit.then K1 (Exit.then L1 (Exit.inBlock n0 (Exit.then L2 (bodyPost Try.prog Try.f10 R))))))) ⟨#[(.int .u8 dr : Value), .int .u8 bk, .slice (some ad) us.length cap, undef, undef, undef, u6, .pointer (some ⟨w.heap.size + 1, 0, none⟩), .int .i64 0, .slice (some ⟨gp, 0, none⟩) 4 c', .pointer (some ⟨w.heap.size + 1 + 1, 0, none⟩), .int .i64 4, .int .i64 now, .int .i64 (k : Int), .pointer (some ⟨bu, 0, none⟩), .int .i64 (m : Int), u16, u17, u18, u19, u20, u21, u22, u23, u24, u25, u26, u27, .tuple #[.pointer (some ⟨w.heap.size + 1, 0, none⟩), .int .i64 0], .int .u8 dr, .int .i64 dr, .int .u8 bk, .int .i64 bk, .tuple #[.pointer (some ⟨w.heap.size + 1, 0, none⟩), .int .i64 0], .pointer (some ⟨w.heap.size + 1, 0, none⟩), .int .i64 0, .int .i64 0, .bool false, .int .i64 4, .bool false, u40, u41, u42, u43, u44, u45, .int .i64 (k : Int), .slice (some ad) us.length cap, .int .i64 (us.length : Int), .bool true, .bool true, .int .i64 (k : Int), .bool true, .bool true, u54, u55, .slice (some ad) us.length cap, .int .i64 (k : Int), .pointer (some (ad.add (k * 6))), .agg #[.int .u8 u.d, .int .u8 u.s, .int .u8 u.dr, .int .u8 u.bk, .int .u8 u.fo, .int .u8 u.at_], .pointer (some ⟨bu, 1, none⟩), .int .u8 u.s, .int .i64 u.s, .int .i64 (m : Int), .pointer (some ⟨bu, 0, none⟩), .int .u8 u.d, .int .u8 (s : Int), u67, u68, u69, u70, u71, u72, u73, u74, u75, u76, u77, u78, u79, u80, u81, u82, u83, u84, u85, u86, u87, u88, u89, u90, u91, u92, u93, u94, u95, u96, u97, u98, u99, u100, u101, u102, u103, u104, u105, u106, u107, u108, u109, u110, u111, u112, u113, u114, u115, u116, u117, u118, u119, u120, u121, u122, u123, u124, u125, u126, u127, u128, u129, u130, u131, u132, u133, u134, u135, u136, u137, u138, u139, u140, u141, u142, u143, u144, u145, u146, u147, u148, u149, u150, u151, u152, u153, u154, u155, u156, u157, u158, u159, u160, u161, u162, u163, u164, u165, u166, u167, u168, u169, u170, u171, u172, u173, u174, u175, u176, u177, u178, u179, u180, u181, u182, u183, u184, u185, u186, u187, u188, u189, u190, u191, u192, u193, u194, u195, u196, u197, u198, u199, u200, u201, u202, u203, u204, u205, u206, u207, u208, u209, u210, u211, u212, u213, u214, undef], []⟩ w7 := by
  conv => arg 2; arg 2; whnf
  subst hs
  have v2 := HBU.out.cell 2 rfl
  have v3 := HBU.out.cell 3 rfl
  have v4 := HBU.out.cell 4 rfl
  have v5 := HBU.out.cell 5 rfl
  obtain ⟨r, hr, hr40⟩ : ∃ r : Nat, u.fo.tmod 40 = (r : Int) ∧ r < 40 := by
    have h0 := HO.out.fo.1
    have h1 := Int.emod_nonneg u.fo (show (40 : Int) ≠ 0 by decide)
    have h2 := Int.emod_lt_of_pos u.fo (show (0 : Int) < 40 by decide)
    have h3 : u.fo.tmod 40 = u.fo % 40 := Int.tmod_eq_emod_of_nonneg h0
    exact ⟨(u.fo % 40).toNat, by omega, by omega⟩
  have w1 : IntKind.i64.wrap (now + 1) = now + 1 := IntWalk.i64_in _ (by omega)
  have w2 : IntKind.i64.wrap (now + 1 + (r : Int)) = now + 1 + (r : Int) := IntWalk.i64_in _ (by omega)
  obtain ⟨f0, f1⟩ := HO.out.fo
  obtain ⟨dr0, dr1⟩ := HO.out.dr
  obtain ⟨bk0, bk1⟩ := HO.out.bk
  have ha : Sx.askOk u.dr u.bk (now + 1 + (r : Int)) now := ⟨by omega, by omega, by omega, by omega⟩
  obtain ⟨l, hl⟩ : ∃ l, l = Sx.grL cs dr bk N (m : Int) u.dr u.bk (now + 1 + (r : Int)) now := ⟨_, rfl⟩
  obtain ⟨er, her⟩ : ∃ er, er = Sx.grE cs dr bk N (m : Int) u.dr u.bk (now + 1 + (r : Int)) now := ⟨_, rfl⟩
  have P48 := Lib.hid (Grant2_c HUS.out.s HUS.out.u.b.size (K := (k : Int)) (by omega) HSI.out.oks (by rw [HUS.out.n]; decide) (m : Int) u.dr u.bk (now + 1 + (r : Int)) now hl her)
  have hcode := HSI.out.code hm4 ha
  rw [← her] at hcode
  have HL := Lib.hid (And.intro hl her)
  clear hl her ha
  rcases hcode with rfl | rfl | rfl
  · have HG := Lib.hid (HSI.out.grant hm4 HL.out.2.symm)
    go_upto_region 23 with (go_at_call 48; refine P48.out.mono ?_; rintro e w8 ⟨rfl, A2, q2, hs1, ht1, hA1⟩; have HUS := Lib.hid (HUS.out.site hs1 HG.out.len ht1 hA1); clear hs1 ht1 hA1)
    refine gen_world' (fun W => UsI w (w.heap.size + 1) w.heap.size gp c' (w.heap.size + 1 + 1) pb A2 q2 (Sx.grS cs dr bk N (m : Int) u.dr u.bk (now + 1 + (r : Int)) now) dr bk (Sx.grN cs dr bk N (m : Int) u.dr u.bk (now + 1 + (r : Int)) now) P Ga gq G W ∧ Blk W w8.heap.size 43 [.int .i64 l.n, .int .i64 l.d, .int .i64 l.b, .int .i64 l.u]) ⟨HUS.out.bel ((Below.refl _ _).alloc (Nat.le_refl _) _), Blk.new' _ _ _⟩ ?_
    have HGl := Lib.hid (fun x (hx : OwnB (Ga m) x) => (rowE_lt (HUS.out.u.gr m hm4) hx).2)
    clear HUS P48 v2 v3 v4 v5 HBU
    generalize w8.heap.size = b16 at *
    rintro w9 ⟨hus9, hb9⟩
    have HUS := Lib.hid (hus9.bel ((Below.refl _ _).drew))
    have HB16 := Lib.hid hb9.drew
    clear hus9 hb9
    obtain ⟨i3, hi3, y0, y1, y2⟩ := info_parts info43
    have HG4 := Lib.hid (show (G m).length ≤ 1000000 from by have h1 := (HSI.out.st m hm4).l; omega)
    have m4 : (m : Int) < 4 := by omega
    have m0 : (0 : Int) ≤ (m : Int) := by omega
    have hne16 := ty_ne (Ty.blk HB16.out) (Ty.blk HUS.out.u.g) (by decide)
    have hne43 : ¬ OwnB (Ga m) b16 := fun e => by have := HGl.out _ e; omega
    have cg : ∀ W, UsI w (w.heap.size + 1) w.heap.size gp c' (w.heap.size + 1 + 1) pb A2 q2 (Sx.grS cs dr bk N (m : Int) u.dr u.bk (now + 1 + (r : Int)) now) dr bk (Sx.grN cs dr bk N (m : Int) u.dr u.bk (now + 1 + (r : Int)) now) P Ga gq G W → Blk W b16 43 [.int .i64 l.n, .int .i64 l.d, .int .i64 l.b, .int .i64 l.u] → W.cell? ⟨w.heap.size + 1 + 1, m, none⟩ = some (.slice (Ga m) (G m).length (gq m)) ∧ W.cell? ⟨b16, 0, none⟩ = some (.int .i64 l.n) ∧ W.cell? ⟨b16, 1, none⟩ = some (.int .i64 l.d) ∧ W.cell? ⟨b16, 2, none⟩ = some (.int .i64 l.b) ∧ W.cell? ⟨b16, 3, none⟩ = some (.int .i64 l.u) := fun W h1 h2 => ⟨h1.u.g.cell m (gsl_at _ _ _ hm4), h2.cell 0 rfl, h2.cell 1 rfl, h2.cell 2 rfl, h2.cell 3 rfl⟩
    have HCG := Lib.hid cg
    clear cg
    have z10 := HUS.out.u.g.lt
    refine lBegin (S := fun L W => (W.cell? ⟨b16, 0, none⟩ = some (.int .i64 l.n) ∧ W.cell? ⟨b16, 1, none⟩ = some (.int .i64 l.d) ∧ W.cell? ⟨b16, 2, none⟩ = some (.int .i64 l.b) ∧ W.cell? ⟨b16, 3, none⟩ = some (.int .i64 l.u)) ∧ (L.getD 8 false = true ∨ (W.cell? ⟨w.heap.size + 1 + 1, m, none⟩ = some (.slice (Ga m) (G m).length (gq m))))) (by kernel_rfl) ?_ (fun hHeld => ?_)
    · (try dsimp only); refine ⟨?_, Or.inr ?_⟩
      · (first | with_reducible exact leaseC HB16.out | exact leaseC (HB16.out.setCell_ne (by show b16 ≠ w.heap.size + 1 + 1; exact hne16) _))
      · (first | with_reducible assumption | with_reducible exact (HCG.out _ HUS.out HB16.out).1)
    refine lTake (i := 0) (v := ?_) rfl (by kernel_rfl) (by kernel_rfl) (by kernel_rfl) (fun _ _ _ h => h) (by rfl) (fun _ _ h => by simpa only [getD_set_ne false (show 0 ≠ 8 by decide)] using h) (fun _ _ h => by simpa only [getD_set_ne false (show 0 ≠ 8 by decide)] using h) ?_ (by assumption) (fun hHeld2 => ?_)
    rotate_left 1
    · (intro _ _ _ _ _; first | (go_simp; done) | (go_simp; with_reducible rfl))
    clear hHeld; have hHeld := hHeld2; clear hHeld2
    (try simp only [Act.put, List.setIfInBounds_toArray, List.set_cons_zero, List.set_cons_succ])
    refine lTake (i := 1) (v := ?_) rfl (by kernel_rfl) (by kernel_rfl) (by kernel_rfl) (fun _ _ _ h => h) (by rfl) (fun _ _ h => by simpa only [getD_set_ne false (show 1 ≠ 8 by decide)] using h) (fun _ _ h => by simpa only [getD_set_ne false (show 1 ≠ 8 by decide)] using h) ?_ (by assumption) (fun hHeld2 => ?_)
    rotate_left 1
    · (intro _ _ _ _ _; first | (go_simp; done) | (go_simp; with_reducible rfl))
    clear hHeld; have hHeld := hHeld2; clear hHeld2
    (try simp only [Act.put, List.setIfInBounds_toArray, List.set_cons_zero, List.set_cons_succ])
    refine lTake (i := 2) (v := ?_) rfl (by kernel_rfl) (by kernel_rfl) (by kernel_rfl) (fun _ _ _ h => h) (by rfl) (fun _ _ h => by simpa only [getD_set_ne false (show 2 ≠ 8 by decide)] using h) (fun _ _ h => by simpa only [getD_set_ne false (show 2 ≠ 8 by decide)] using h) ?_ (by assumption) (fun hHeld2 => ?_)
    rotate_left 1
    · (intro _ _ _ _ _; first | (go_simp; done) | (go_simp; with_reducible rfl))
    clear hHeld; have hHeld := hHeld2; clear hHeld2
    (try simp only [Act.put, List.setIfInBounds_toArray, List.set_cons_zero, List.set_cons_succ])
    refine lTake (i := 3) (v := ?_) rfl (by kernel_rfl) (by kernel_rfl) (by kernel_rfl) (fun _ _ _ h => h) (by rfl) (fun _ _ h => by simpa only [getD_set_ne false (show 3 ≠ 8 by decide)] using h) (fun _ _ h => by simpa only [getD_set_ne false (show 3 ≠ 8 by decide)] using h) ?_ (by assumption) (fun hHeld2 => ?_)
    rotate_left 1
    · (intro L W hL hK hSw; (try dsimp only at hSw); obtain ⟨h0, h1⟩ := hSw; replace h1 := still [] hK hL (by kernel_rfl) h1; clear hL hK; first | (go_simp; done) | (go_simp; with_reducible rfl))
    clear hHeld; have hHeld := hHeld2; clear hHeld2
    (try simp only [Act.put, List.setIfInBounds_toArray, List.set_cons_zero, List.set_cons_succ])
    refine lTake (i := 4) (v := ?_) rfl (by kernel_rfl) (by kernel_rfl) (by kernel_rfl) (fun _ _ _ h => h) (by rfl) (fun _ _ h => by simpa only [getD_set_ne false (show 4 ≠ 8 by decide)] using h) (fun _ _ h => by simpa only [getD_set_ne false (show 4 ≠ 8 by decide)] using h) ?_ (by assumption) (fun hHeld2 => ?_)
    rotate_left 1
    · (intro L W hL hK hSw; (try dsimp only at hSw); obtain ⟨h0, h1⟩ := hSw; replace h1 := still [] hK hL (by kernel_rfl) h1; clear hL hK; first | (go_simp; done) | (go_simp; with_reducible rfl))
    clear hHeld; have hHeld := hHeld2; clear hHeld2
    (try simp only [Act.put, List.setIfInBounds_toArray, List.set_cons_zero, List.set_cons_succ])
    refine lReady (rs := [5]) (by kernel_rfl) (by simp) ?_
    refine AllL.cons (i := 5) rfl (fun K hK => ?_) ?_
    · refine step_new (.cells #[.int .i64 l.n, .int .i64 l.d, .int .i64 l.b, .int .i64 l.u] 43) (fun g => .slice (some ⟨g, 0, none⟩) 1 1) rfl (by kernel_rfl) ?_; intro gb w10 hgb hcb hbb; have HUS := Lib.hid (HUS.out.bel hbb); have HB16 := Lib.hid (blk_bel hbb HB16.out); have HKb := Lib.hid (show Blk w10 gb 43 [.int .i64 l.n, .int .i64 l.d, .int .i64 l.b, .int .i64 l.u] from hcb); clear hgb hcb hbb
      (try go_wp2_with fail)
      refine hK.out _ _ ?_ (fun hHeld2 => ?_)
      · (try dsimp only); refine ⟨?_, Or.inr ?_⟩
        · (first | with_reducible exact leaseC HB16.out | exact leaseC (HB16.out.setCell_ne (by show b16 ≠ w.heap.size + 1 + 1; exact hne16) _))
        · (first | with_reducible assumption | with_reducible exact (HCG.out _ HUS.out HB16.out).1)
      clear hK K
      clear hHeld; have hHeld := hHeld2; clear hHeld2
      (try simp only [Act.put, List.setIfInBounds_toArray, List.set_cons_zero, List.set_cons_succ])
      refine lReady (rs := [6]) (by kernel_rfl) (by simp) ?_
      refine AllL.cons (i := 6) rfl (fun K hK => ?_) ?_
      · refine step_append_any (.tmp 102) (.tmp 104) 36 rfl rfl w.heap.size 43 i3 (.agg #[.int .i64 0, .int .i64 0, .int .i64 0, .int .i64 0]) 4 32 Try.underlying36 hi3 y0 y1 y2 rfl (by decide) (Ga m) (G m).length (gq m) (flatLs (G m)) (by rfl) (HUS.out.u.gr m hm4) (some ⟨gb, 0, none⟩) 1 1 [.int .i64 l.n, .int .i64 l.d, .int .i64 l.b, .int .i64 l.u] (by rfl) rfl (src_blk HKb.out 1) (by simp [Value.oneCell']) (by have := HG4.out; unfold maxLen; omega) (by have := HG4.out; omega) HUS.out.u.b.size ?_; intro A5 d5 w11 hown hgrow hat; have HTp := Lib.hid (grown_touch hgrow); have HUS2 := Lib.hid (HUS.out.put hm4 (A2 := A5) (c2 := d5) (L2 := G m ++ [l]) HTp.out (by unfold LRow; rw [flatLs_append, List.length_append]; exact hown) (fun x hx => (hat x hx).imp id (fun e => by omega))); have HB17 := Lib.hid (blk_tch HTp.out HB16.out (fun e => hne43 e)); have g0 : w11.cell? ⟨w.heap.size + 1 + 1, m, none⟩ = some (.slice (Ga m) (G m).length (gq m)) := (blk_tch HTp.out HUS.out.u.g (fun e => ty_ne (.blk HUS.out.u.g) (.row (HUS.out.u.gr m hm4) e) (by decide) rfl)).cell m (gsl_at _ _ _ hm4); have g1 : w11.frozen? ⟨w.heap.size + 1 + 1, m, none⟩ = false := (blk_tch HTp.out HUS.out.u.g (fun e => ty_ne (.blk HUS.out.u.g) (.row (HUS.out.u.gr m hm4) e) (by decide) rfl)).free m; have HB16 := HB17; clear hown hgrow hat
        (try go_wp2_with fail)
        refine hK.out _ _ ?_ (fun hHeld2 => ?_)
        · (try dsimp only); refine ⟨?_, Or.inr ?_⟩
          · (first | with_reducible exact leaseC HB16.out | exact leaseC (HB16.out.setCell_ne (by show b16 ≠ w.heap.size + 1 + 1; exact hne16) _))
          · (first | with_reducible assumption | with_reducible exact (HCG.out _ HUS.out HB16.out).1)
        clear hK K
        clear hHeld; have hHeld := hHeld2; clear hHeld2
        (try simp only [Act.put, List.setIfInBounds_toArray, List.set_cons_zero, List.set_cons_succ])
        refine lTake (i := 7) (v := ?_) rfl (by kernel_rfl) (by kernel_rfl) (by kernel_rfl) (fun _ _ _ h => h) (by rfl) (fun _ _ h => by simpa only [getD_set_ne false (show 7 ≠ 8 by decide)] using h) (fun _ _ h => by simpa only [getD_set_ne false (show 7 ≠ 8 by decide)] using h) ?_ (by assumption) (fun hHeld2 => ?_)
        rotate_left 1
        · (intro _ _ _ _ _; first | (go_simp; done) | (go_simp; with_reducible rfl))
        clear hHeld; have hHeld := hHeld2; clear hHeld2
        (try simp only [Act.put, List.setIfInBounds_toArray, List.set_cons_zero, List.set_cons_succ])
        refine lReady (rs := [8]) (by kernel_rfl) (by simp) ?_
        refine AllL.cons (i := 8) rfl (fun K hK => ?_) ?_
        · go_simp
          (try go_wp2_with fail)
          refine hK.out _ _ ?_ (fun hHeld2 => ?_)
          · (try dsimp only); refine ⟨?_, Or.inl (by rfl)⟩
            · (first | with_reducible exact leaseC HB16.out | exact leaseC (HB16.out.setCell_ne (by show b16 ≠ w.heap.size + 1 + 1; exact hne16) _))
          clear hK K
          clear hHeld; have hHeld := hHeld2; clear hHeld2
          (try simp only [Act.put, List.setIfInBounds_toArray, List.set_cons_zero, List.set_cons_succ])
          refine lDone (by kernel_rfl) ?_ _
          clear hHeld g0 g1
          go_wp2
          go_meet
          case rel => exact ⟨now, rfl, by omega, _, _, _, _, _, _, _, _, by have h := HUS2.out; rw [List.length_append] at h; exact h, by have h := HG.out; rw [← HL.out.1] at h; exact h⟩
        exact AllL.nil
      exact AllL.nil
    exact AllL.nil
  · have hS : Sx.grS cs dr bk N (m : Int) u.dr u.bk (now + 1 + (r : Int)) now = cs := by unfold Sx.grS; rw [← HL.out.2]; rfl
    have hN : Sx.grN cs dr bk N (m : Int) u.dr u.bk (now + 1 + (r : Int)) now = N := by unfold Sx.grN; rw [← HL.out.2]; rfl
    rw [hS, hN] at P48
    go_wp2_with (go_at_call 48; refine P48.out.mono ?_; rintro e w8 ⟨rfl, A2, q2, hs1, ht1, hA1⟩; have HUS := Lib.hid (HUS.out.site hs1 HUS.out.n ht1 hA1); clear hs1 ht1 hA1)
    go_meet
    case rel => exact ⟨now, rfl, by omega, _, _, _, _, _, _, _, _, HUS.out.bel ((Below.refl _ _).alloc (Nat.le_refl _) _), HSI.out.up (by omega)⟩
  · have hS : Sx.grS cs dr bk N (m : Int) u.dr u.bk (now + 1 + (r : Int)) now = cs := by unfold Sx.grS; rw [← HL.out.2]; rfl
    have hN : Sx.grN cs dr bk N (m : Int) u.dr u.bk (now + 1 + (r : Int)) now = N := by unfold Sx.grN; rw [← HL.out.2]; rfl
    rw [hS, hN] at P48
    go_wp2_with (go_at_call 48; refine P48.out.mono ?_; rintro e w8 ⟨rfl, A2, q2, hs1, ht1, hA1⟩; have HUS := Lib.hid (HUS.out.site hs1 HUS.out.n ht1 hA1); clear hs1 ht1 hA1)
    go_meet
    case rel => exact ⟨now, rfl, by omega, _, _, _, _, _, _, _, _, HUS.out.bel ((Below.refl _ _).alloc (Nat.le_refl _) _), HSI.out.up (by omega)⟩
end Go.Proofs.Ytafajclbghofkaa
