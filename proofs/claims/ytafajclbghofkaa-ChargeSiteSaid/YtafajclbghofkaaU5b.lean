/- ChargeSite: a lease arrives. -/
import Derived.Test.YtafajclbghofkaaU5
namespace Go.Proofs.Ytafajclbghofkaa
open Go.RowKit
set_option linter.unusedVariables false
set_option maxRecDepth 1000000 in
set_option maxHeartbeats 80000000 in
theorem SiC3 (dr bk : Int) (us : List Us) (cap : Nat) (w w7 : World) (gp c' bu k m s : Nat) (pb : Nat → Nat) (ad : Addr) (u : Us) (now N : Int) (A1 : Nat → Option Addr) (q1 : Nat → Nat) (cs : List Sx.Cl) (P : Nat → Ls) (Ga : Nat → Option Addr) (gq : Nat → Nat) (G : Nat → List Ls) (u6 u16 u17 u18 u67 u68 u69 u70 u71 u72 u73 u74 u75 u76 u77 u78 u79 u80 u81 u82 u83 u84 u85 u86 u87 u88 u89 u90 u91 u92 u93 u94 u95 u96 u97 u98 u99 u100 u101 u102 u103 u104 u105 u106 u107 u108 u109 u110 u111 u112 u113 u114 u115 u116 u117 u118 u119 u120 u121 u122 u123 u124 u125 u126 u127 u128 u129 u130 u131 u132 u133 u134 u135 u136 u137 u138 u139 u140 u141 u142 u143 u144 u145 u146 u147 u148 u149 u150 u151 u152 u153 u154 u155 u156 u157 u158 : Value) (u19 u20 u21 u22 u23 u24 u25 u26 u27 u40 u41 u42 u43 u44 u45 u54 u55 u159 u160 u161 u162 u163 u164 u165 u166 u167 u168 u169 u170 u171 u172 u173 u174 u175 u176 u177 u178 u179 u180 u181 u182 u183 u184 u185 u186 u187 u188 u189 u190 u191 u192 u193 u194 u195 u196 u197 u198 u199 u200 u201 u202 u203 u204 u205 u206 u207 u208 u209 u210 u211 u212 u213 u214 : Value) (J K K1 L1 L2 : Act → World → Prop) (n0 : Nat) (R : Ending → World → Prop)
    (h150 : k < 150) (hnow : 0 ≤ now ∧ now ≤ 4 * (k : Int)) (HO : Hid u.Ok) (hm4 : m < 4) (HUS : Hid (UsI w (w.heap.size + 1) w.heap.size gp c' (w.heap.size + 1 + 1) pb A1 q1 cs dr bk N P Ga gq G w7)) (HSI : Hid (Sx.SI (k : Int) dr bk now N cs G P)) (HBU : Hid (Blk w7 bu 110 [.int .u8 u.d, .int .u8 u.s, .int .u8 u.dr, .int .u8 u.bk, .int .u8 u.fo, .int .u8 u.at_])) (hs : s = 3)
    (hJ : (∀ (a' : Act) (w' : World), (∃ u6 u12 u16 u17 u18 u67 u68 u69 u70 u71 u72 u73 u74 u75 u76 u77 u78 u79 u80 u81 u82 u83 u84 u85 u86 u87 u88 u89 u90 u91 u92 u93 u94 u95 u96 u97 u98 u99 u100 u101 u102 u103 u104 u105 u106 u107 u108 u109 u110 u111 u112 u113 u114 u115 u116 u117 u118 u119 u120 u121 u122 u123 u124 u125 u126 u127 u128 u129 u130 u131 u132 u133 u134 u135 u136 u137 u138 u139 u140 u141 u142 u143 u144 u145 u146 u147 u148 u149 u150 u151 u152 u153 u154 u155 u156 u157 u158 : Value, (∃ now' : Int, u12 = .int .i64 now' ∧ (now ≤ now' ∧ now' ≤ now + 4) ∧ StU w (w.heap.size + 1) w.heap.size gp c' (w.heap.size + 1 + 1) pb dr bk ((k : Int) + 1) now' w') ∧ a' = ⟨#[(.int .u8 dr : Value), .int .u8 bk, .slice (some ad) us.length cap, undef, undef, undef, u6, .pointer (some ⟨w.heap.size + 1, 0, none⟩), .int .i64 0, .slice (some ⟨gp, 0, none⟩) 4 c', .pointer (some ⟨w.heap.size + 1 + 1, 0, none⟩), .int .i64 4, u12, .int .i64 (k : Int), .pointer (some ⟨bu, 0, none⟩), .int .i64 (m : Int), u16, u17, u18, u19, u20, u21, u22, u23, u24, u25, u26, u27, .tuple #[.pointer (some ⟨w.heap.size + 1, 0, none⟩), .int .i64 0], .int .u8 dr, .int .i64 dr, .int .u8 bk, .int .i64 bk, .tuple #[.pointer (some ⟨w.heap.size + 1, 0, none⟩), .int .i64 0], .pointer (some ⟨w.heap.size + 1, 0, none⟩), .int .i64 0, .int .i64 0, .bool false, .int .i64 4, .bool false, u40, u41, u42, u43, u44, u45, .int .i64 (k : Int), .slice (some ad) us.length cap, .int .i64 (us.length : Int), .bool true, .bool true, .int .i64 (k : Int), .bool true, .bool true, u54, u55, .slice (some ad) us.length cap, .int .i64 (k : Int), .pointer (some (ad.add (k * 6))), .agg #[.int .u8 u.d, .int .u8 u.s, .int .u8 u.dr, .int .u8 u.bk, .int .u8 u.fo, .int .u8 u.at_], .pointer (some ⟨bu, 1, none⟩), .int .u8 u.s, .int .i64 u.s, .int .i64 (m : Int), .pointer (some ⟨bu, 0, none⟩), .int .u8 u.d, .int .u8 (s : Int), u67, u68, u69, u70, u71, u72, u73, u74, u75, u76, u77, u78, u79, u80, u81, u82, u83, u84, u85, u86, u87, u88, u89, u90, u91, u92, u93, u94, u95, u96, u97, u98, u99, u100, u101, u102, u103, u104, u105, u106, u107, u108, u109, u110, u111, u112, u113, u114, u115, u116, u117, u118, u119, u120, u121, u122, u123, u124, u125, u126, u127, u128, u129, u130, u131, u132, u133, u134, u135, u136, u137, u138, u139, u140, u141, u142, u143, u144, u145, u146, u147, u148, u149, u150, u151, u152, u153, u154, u155, u156, u157, u158, u159, u160, u161, u162, u163, u164, u165, u166, u167, u168, u169, u170, u171, u172, u173, u174, u175, u176, u177, u178, u179, u180, u181, u182, u183, u184, u185, u186, u187, u188, u189, u190, u191, u192, u193, u194, u195, u196, u197, u198, u199, u200, u201, u202, u203, u204, u205, u206, u207, u208, u209, u210, u211, u212, u213, u214, undef], []⟩) → J a' w')) (hK : ∀ (a' : Act) (w' : World), Met J a' w' → K a' w') :
    Code.wp Try.prog (Code.block 4 siBody) (Exit.then K (Exit.inBlock 3 (Exit.then K1 (Exit.then L1 (Exit.inBlock n0 (Exit.then L2 (bodyPost Try.prog Try.f10 R))))))) ⟨#[(.int .u8 dr : Value), .int .u8 bk, .slice (some ad) us.length cap, undef, undef, undef, u6, .pointer (some ⟨w.heap.size + 1, 0, none⟩), .int .i64 0, .slice (some ⟨gp, 0, none⟩) 4 c', .pointer (some ⟨w.heap.size + 1 + 1, 0, none⟩), .int .i64 4, .int .i64 now, .int .i64 (k : Int), .pointer (some ⟨bu, 0, none⟩), .int .i64 (m : Int), u16, u17, u18, u19, u20, u21, u22, u23, u24, u25, u26, u27, .tuple #[.pointer (some ⟨w.heap.size + 1, 0, none⟩), .int .i64 0], .int .u8 dr, .int .i64 dr, .int .u8 bk, .int .i64 bk, .tuple #[.pointer (some ⟨w.heap.size + 1, 0, none⟩), .int .i64 0], .pointer (some ⟨w.heap.size + 1, 0, none⟩), .int .i64 0, .int .i64 0, .bool false, .int .i64 4, .bool false, u40, u41, u42, u43, u44, u45, .int .i64 (k : Int), .slice (some ad) us.length cap, .int .i64 (us.length : Int), .bool true, .bool true, .int .i64 (k : Int), .bool true, .bool true, u54, u55, .slice (some ad) us.length cap, .int .i64 (k : Int), .pointer (some (ad.add (k * 6))), .agg #[.int .u8 u.d, .int .u8 u.s, .int .u8 u.dr, .int .u8 u.bk, .int .u8 u.fo, .int .u8 u.at_], .pointer (some ⟨bu, 1, none⟩), .int .u8 u.s, .int .i64 u.s, .int .i64 (m : Int), .pointer (some ⟨bu, 0, none⟩), .int .u8 u.d, .int .u8 (s : Int), u67, u68, u69, u70, u71, u72, u73, u74, u75, u76, u77, u78, u79, u80, u81, u82, u83, u84, u85, u86, u87, u88, u89, u90, u91, u92, u93, u94, u95, u96, u97, u98, u99, u100, u101, u102, u103, u104, u105, u106, u107, u108, u109, u110, u111, u112, u113, u114, u115, u116, u117, u118, u119, u120, u121, u122, u123, u124, u125, u126, u127, u128, u129, u130, u131, u132, u133, u134, u135, u136, u137, u138, u139, u140, u141, u142, u143, u144, u145, u146, u147, u148, u149, u150, u151, u152, u153, u154, u155, u156, u157, u158, u159, u160, u161, u162, u163, u164, u165, u166, u167, u168, u169, u170, u171, u172, u173, u174, u175, u176, u177, u178, u179, u180, u181, u182, u183, u184, u185, u186, u187, u188, u189, u190, u191, u192, u193, u194, u195, u196, u197, u198, u199, u200, u201, u202, u203, u204, u205, u206, u207, u208, u209, u210, u211, u212, u213, u214, undef], []⟩ w7 := by
  conv => arg 2; arg 2; whnf
  subst hs
  have v2 := HBU.out.cell 2 rfl
  have v3 := HBU.out.cell 3 rfl
  have v4 := HBU.out.cell 4 rfl
  have v5 := HBU.out.cell 5 rfl
  obtain ⟨gn, hgn⟩ : ∃ n, n = (G m).length := ⟨_, rfl⟩
  have g0 : w7.cell? ⟨w.heap.size + 1 + 1, m, none⟩ = some (.slice (Ga m) gn (gq m)) := by rw [hgn]; exact HUS.out.u.g.cell m (gsl_at _ _ _ hm4)
  have m4 : (m : Int) < 4 := by omega
  have m0 : (0 : Int) ≤ (m : Int) := by omega
  by_cases hlen : 0 < gn
  rotate_left 1
  · have hd : decide (0 < (gn : Int)) = false := decide_eq_false (by omega)
    go_wp2_with fail
    go_meet
    case rel => exact ⟨now, rfl, by omega, StU.mk HUS.out (HSI.out.up (by omega))⟩
  have hd : decide (0 < (gn : Int)) = true := decide_eq_true (by omega)
  obtain ⟨j, hj, hjl⟩ : ∃ j : Nat, u.at_.tmod (gn : Int) = (j : Int) ∧ j < gn := by
    have h0 := HO.out.at_.1
    have h1 := Int.emod_nonneg u.at_ (show (gn : Int) ≠ 0 by omega)
    have h2 := Int.emod_lt_of_pos u.at_ (show (0 : Int) < (gn : Int) by omega)
    have h3 : u.at_.tmod (gn : Int) = u.at_ % (gn : Int) := Int.tmod_eq_emod_of_nonneg h0
    exact ⟨(u.at_ % (gn : Int)).toNat, by omega, by omega⟩
  obtain ⟨aG, hGa, _, e0, e1, e2, e3⟩ := lrow_at (HUS.out.u.gr m hm4) j (by omega)
  have hmem : (G m).getD j default ∈ G m := ls_mem (by omega)
  obtain ⟨l, hl⟩ : ∃ l, l = (G m).getD j default := ⟨_, rfl⟩
  rw [← hl] at e0 e1 e2 e3 hmem
  have HSI2 := Lib.hid (HSI.out.take hm4 hmem)
  have p0 := HUS.out.ptr hm4
  have P22 := Lib.hid (fun W (hW : Below w7.heap.size w7 W) => Take_c (pb m) (P m) l W (blk_bel hW (HUS.out.u.p m hm4)))
  have hlz : (gn : Int) ≠ 0 := by omega
  have hgz : gn ≠ 0 := by omega
  have wat : IntKind.i64.wrap u.at_ = u.at_ := IntWalk.i64_in _ (by have := HO.out.at_; unfold U8 at this; omega)
  have j0 : (0 : Int) ≤ (j : Int) := by omega
  have j1 : (j : Int) < (gn : Int) := by omega
  obtain ⟨at0, at1⟩ := HO.out.at_
  rw [hGa] at g0
  have HUd := Lib.hid (HUS.out.bel ((Below.refl _ _).drew))
  have HCs := Lib.hid (And.intro p0 (And.intro g0 (And.intro v5 (And.intro e0 (And.intro e1 (And.intro e2 e3))))))
  clear hl hmem hlen hgn
  go_upto_region 30 with fail
  refine lBegin (S := fun L W => (True) ∧ (L.getD 17 false = true ∨ (W.cell? ⟨gp, m, none⟩ = some (.pointer (some ⟨pb m, 0, none⟩)) ∧ W.cell? ⟨w.heap.size + 1 + 1, m, none⟩ = some (.slice (some aG) gn (gq m)) ∧ W.cell? ⟨bu, 5, none⟩ = some (.int .u8 u.at_) ∧ W.cell? (aG.add (j * 4)) = some (.int .i64 l.n) ∧ W.cell? ⟨(aG.add (j * 4)).block, (aG.add (j * 4)).off + 1, none⟩ = some (.int .i64 l.d) ∧ W.cell? ⟨(aG.add (j * 4)).block, (aG.add (j * 4)).off + 2, none⟩ = some (.int .i64 l.b) ∧ W.cell? ⟨(aG.add (j * 4)).block, (aG.add (j * 4)).off + 3, none⟩ = some (.int .i64 l.u)))) (by kernel_rfl) ?_ (fun hHeld => ?_)
  · (try dsimp only); refine ⟨?_, Or.inr ?_⟩
    · (trivial)
    · (exact HCs.out)
  refine lTake (i := 0) (v := ?_) rfl (by kernel_rfl) (by kernel_rfl) (by kernel_rfl) (fun _ _ _ h => h) (by rfl) (fun _ _ h => by simpa only [getD_set_ne false (show 0 ≠ 17 by decide)] using h) (fun _ _ h => by simpa only [getD_set_ne false (show 0 ≠ 17 by decide)] using h) ?_ (by assumption) (fun hHeld2 => ?_)
  rotate_left 1
  · (intro _ _ _ _ _; first | (go_simp; done) | (go_simp; with_reducible rfl))
  clear hHeld; have hHeld := hHeld2; clear hHeld2
  (try simp only [Act.put, List.setIfInBounds_toArray, List.set_cons_zero, List.set_cons_succ])
  refine lTake (i := 1) (v := ?_) rfl (by kernel_rfl) (by kernel_rfl) (by kernel_rfl) (fun _ _ _ h => h) (by rfl) (fun _ _ h => by simpa only [getD_set_ne false (show 1 ≠ 17 by decide)] using h) (fun _ _ h => by simpa only [getD_set_ne false (show 1 ≠ 17 by decide)] using h) ?_ (by assumption) (fun hHeld2 => ?_)
  rotate_left 1
  · (intro _ _ _ _ _; first | (go_simp; done) | (go_simp; with_reducible rfl))
  clear hHeld; have hHeld := hHeld2; clear hHeld2
  (try simp only [Act.put, List.setIfInBounds_toArray, List.set_cons_zero, List.set_cons_succ])
  refine lTake (i := 2) (v := ?_) rfl (by kernel_rfl) (by kernel_rfl) (by kernel_rfl) (fun _ _ _ h => h) (by rfl) (fun _ _ h => by simpa only [getD_set_ne false (show 2 ≠ 17 by decide)] using h) (fun _ _ h => by simpa only [getD_set_ne false (show 2 ≠ 17 by decide)] using h) ?_ (by assumption) (fun hHeld2 => ?_)
  rotate_left 1
  · (intro _ _ _ _ _; first | (go_simp; done) | (go_simp; with_reducible rfl))
  clear hHeld; have hHeld := hHeld2; clear hHeld2
  (try simp only [Act.put, List.setIfInBounds_toArray, List.set_cons_zero, List.set_cons_succ])
  refine lTake (i := 3) (v := ?_) rfl (by kernel_rfl) (by kernel_rfl) (by kernel_rfl) (fun _ _ _ h => h) (by rfl) (fun _ _ h => by simpa only [getD_set_ne false (show 3 ≠ 17 by decide)] using h) (fun _ _ h => by simpa only [getD_set_ne false (show 3 ≠ 17 by decide)] using h) ?_ (by assumption) (fun hHeld2 => ?_)
  rotate_left 1
  · (intro L W hL hK hSw; (try dsimp only at hSw); obtain ⟨h0, h1⟩ := hSw; replace h1 := still [] hK hL (by kernel_rfl) h1; clear hL hK; first | (go_simp; done) | (go_simp; with_reducible rfl))
  clear hHeld; have hHeld := hHeld2; clear hHeld2
  (try simp only [Act.put, List.setIfInBounds_toArray, List.set_cons_zero, List.set_cons_succ])
  refine lTake (i := 4) (v := ?_) rfl (by kernel_rfl) (by kernel_rfl) (by kernel_rfl) (fun _ _ _ h => h) (by rfl) (fun _ _ h => by simpa only [getD_set_ne false (show 4 ≠ 17 by decide)] using h) (fun _ _ h => by simpa only [getD_set_ne false (show 4 ≠ 17 by decide)] using h) ?_ (by assumption) (fun hHeld2 => ?_)
  rotate_left 1
  · (intro _ _ _ _ _; first | (go_simp; done) | (go_simp; with_reducible rfl))
  clear hHeld; have hHeld := hHeld2; clear hHeld2
  (try simp only [Act.put, List.setIfInBounds_toArray, List.set_cons_zero, List.set_cons_succ])
  refine lTake (i := 5) (v := ?_) rfl (by kernel_rfl) (by kernel_rfl) (by kernel_rfl) (fun _ _ _ h => h) (by rfl) (fun _ _ h => by simpa only [getD_set_ne false (show 5 ≠ 17 by decide)] using h) (fun _ _ h => by simpa only [getD_set_ne false (show 5 ≠ 17 by decide)] using h) ?_ (by assumption) (fun hHeld2 => ?_)
  rotate_left 1
  · (intro _ _ _ _ _; first | (go_simp; done) | (go_simp; with_reducible rfl))
  clear hHeld; have hHeld := hHeld2; clear hHeld2
  (try simp only [Act.put, List.setIfInBounds_toArray, List.set_cons_zero, List.set_cons_succ])
  refine lTake (i := 6) (v := ?_) rfl (by kernel_rfl) (by kernel_rfl) (by kernel_rfl) (fun _ _ _ h => h) (by rfl) (fun _ _ h => by simpa only [getD_set_ne false (show 6 ≠ 17 by decide)] using h) (fun _ _ h => by simpa only [getD_set_ne false (show 6 ≠ 17 by decide)] using h) ?_ (by assumption) (fun hHeld2 => ?_)
  rotate_left 1
  · (intro L W hL hK hSw; (try dsimp only at hSw); obtain ⟨h0, h1⟩ := hSw; replace h1 := still [16, 15] hK hL (by kernel_rfl) h1; clear hL hK; first | (go_simp; done) | (go_simp; with_reducible rfl))
  clear hHeld; have hHeld := hHeld2; clear hHeld2
  (try simp only [Act.put, List.setIfInBounds_toArray, List.set_cons_zero, List.set_cons_succ])
  refine lTake (i := 7) (v := ?_) rfl (by kernel_rfl) (by kernel_rfl) (by kernel_rfl) (fun _ _ _ h => h) (by rfl) (fun _ _ h => by simpa only [getD_set_ne false (show 7 ≠ 17 by decide)] using h) (fun _ _ h => by simpa only [getD_set_ne false (show 7 ≠ 17 by decide)] using h) ?_ (by assumption) (fun hHeld2 => ?_)
  rotate_left 1
  · (intro _ _ _ _ _; first | (go_simp; done) | (go_simp; with_reducible rfl))
  clear hHeld; have hHeld := hHeld2; clear hHeld2
  (try simp only [Act.put, List.setIfInBounds_toArray, List.set_cons_zero, List.set_cons_succ])
  refine lTake (i := 8) (v := ?_) rfl (by kernel_rfl) (by kernel_rfl) (by kernel_rfl) (fun _ _ _ h => h) (by rfl) (fun _ _ h => by simpa only [getD_set_ne false (show 8 ≠ 17 by decide)] using h) (fun _ _ h => by simpa only [getD_set_ne false (show 8 ≠ 17 by decide)] using h) ?_ (by assumption) (fun hHeld2 => ?_)
  rotate_left 1
  · (intro L W hL hK hSw; (try dsimp only at hSw); obtain ⟨h0, h1⟩ := hSw; replace h1 := still [16, 15, 14, 9] hK hL (by kernel_rfl) h1; clear hL hK; first | (go_simp; done) | (go_simp; with_reducible rfl))
  clear hHeld; have hHeld := hHeld2; clear hHeld2
  (try simp only [Act.put, List.setIfInBounds_toArray, List.set_cons_zero, List.set_cons_succ])
  refine lTake (i := 9) (v := ?_) rfl (by kernel_rfl) (by kernel_rfl) (by kernel_rfl) (fun _ _ _ h => h) (by rfl) (fun _ _ h => by simpa only [getD_set_ne false (show 9 ≠ 17 by decide)] using h) (fun _ _ h => by simpa only [getD_set_ne false (show 9 ≠ 17 by decide)] using h) ?_ (by assumption) (fun hHeld2 => ?_)
  rotate_left 1
  · (intro _ _ _ _ _; first | (go_simp; done) | (go_simp; with_reducible rfl))
  clear hHeld; have hHeld := hHeld2; clear hHeld2
  (try simp only [Act.put, List.setIfInBounds_toArray, List.set_cons_zero, List.set_cons_succ])
  refine lTake (i := 10) (v := ?_) rfl (by kernel_rfl) (by kernel_rfl) (by kernel_rfl) (fun _ _ _ h => h) (by rfl) (fun _ _ h => by simpa only [getD_set_ne false (show 10 ≠ 17 by decide)] using h) (fun _ _ h => by simpa only [getD_set_ne false (show 10 ≠ 17 by decide)] using h) ?_ (by assumption) (fun hHeld2 => ?_)
  rotate_left 1
  · (intro _ _ _ _ _; first | (go_simp; done) | (go_simp; with_reducible rfl))
  clear hHeld; have hHeld := hHeld2; clear hHeld2
  (try simp only [Act.put, List.setIfInBounds_toArray, List.set_cons_zero, List.set_cons_succ])
  refine lTake (i := 11) (v := ?_) rfl (by kernel_rfl) (by kernel_rfl) (by kernel_rfl) (fun _ _ _ h => h) (by rfl) (fun _ _ h => by simpa only [getD_set_ne false (show 11 ≠ 17 by decide)] using h) (fun _ _ h => by simpa only [getD_set_ne false (show 11 ≠ 17 by decide)] using h) ?_ (by assumption) (fun hHeld2 => ?_)
  rotate_left 1
  · (intro _ _ _ _ _; first | (go_simp; done) | (go_simp; with_reducible rfl))
  clear hHeld; have hHeld := hHeld2; clear hHeld2
  (try simp only [Act.put, List.setIfInBounds_toArray, List.set_cons_zero, List.set_cons_succ])
  refine lTake (i := 12) (v := ?_) rfl (by kernel_rfl) (by kernel_rfl) (by kernel_rfl) (fun _ _ _ h => h) (by rfl) (fun _ _ h => by simpa only [getD_set_ne false (show 12 ≠ 17 by decide)] using h) (fun _ _ h => by simpa only [getD_set_ne false (show 12 ≠ 17 by decide)] using h) ?_ (by assumption) (fun hHeld2 => ?_)
  rotate_left 1
  · (intro L W hL hK hSw; (try dsimp only at hSw); obtain ⟨h0, h1⟩ := hSw; replace h1 := still [16, 15, 14, 13] hK hL (by kernel_rfl) h1; clear hL hK; first | (go_simp; done) | (go_simp; with_reducible rfl))
  clear hHeld; have hHeld := hHeld2; clear hHeld2
  (try simp only [Act.put, List.setIfInBounds_toArray, List.set_cons_zero, List.set_cons_succ])
  refine lTake (i := 13) (v := ?_) rfl (by kernel_rfl) (by kernel_rfl) (by kernel_rfl) (fun _ _ _ h => h) (by rfl) (fun _ _ h => by simpa only [getD_set_ne false (show 13 ≠ 17 by decide)] using h) (fun _ _ h => by simpa only [getD_set_ne false (show 13 ≠ 17 by decide)] using h) ?_ (by assumption) (fun hHeld2 => ?_)
  rotate_left 1
  · (intro _ _ _ _ _; first | (go_simp; done) | (go_simp; with_reducible rfl))
  clear hHeld; have hHeld := hHeld2; clear hHeld2
  (try simp only [Act.put, List.setIfInBounds_toArray, List.set_cons_zero, List.set_cons_succ])
  refine lTake (i := 14) (v := ?_) rfl (by kernel_rfl) (by kernel_rfl) (by kernel_rfl) (fun _ _ _ h => h) (by rfl) (fun _ _ h => by simpa only [getD_set_ne false (show 14 ≠ 17 by decide)] using h) (fun _ _ h => by simpa only [getD_set_ne false (show 14 ≠ 17 by decide)] using h) ?_ (by assumption) (fun hHeld2 => ?_)
  rotate_left 1
  · (intro _ _ _ _ _; first | (go_simp; done) | (go_simp; with_reducible rfl))
  clear hHeld; have hHeld := hHeld2; clear hHeld2
  (try simp only [Act.put, List.setIfInBounds_toArray, List.set_cons_zero, List.set_cons_succ])
  refine lTake (i := 15) (v := ?_) rfl (by kernel_rfl) (by kernel_rfl) (by kernel_rfl) (fun _ _ _ h => h) (by rfl) (fun _ _ h => by simpa only [getD_set_ne false (show 15 ≠ 17 by decide)] using h) (fun _ _ h => by simpa only [getD_set_ne false (show 15 ≠ 17 by decide)] using h) ?_ (by assumption) (fun hHeld2 => ?_)
  rotate_left 1
  · (intro _ _ _ _ _; first | (go_simp; done) | (go_simp; with_reducible rfl))
  clear hHeld; have hHeld := hHeld2; clear hHeld2
  (try simp only [Act.put, List.setIfInBounds_toArray, List.set_cons_zero, List.set_cons_succ])
  refine lTake (i := 16) (v := ?_) rfl (by kernel_rfl) (by kernel_rfl) (by kernel_rfl) (fun _ _ _ h => h) (by rfl) (fun _ _ h => by simpa only [getD_set_ne false (show 16 ≠ 17 by decide)] using h) (fun _ _ h => by simpa only [getD_set_ne false (show 16 ≠ 17 by decide)] using h) ?_ (by assumption) (fun hHeld2 => ?_)
  rotate_left 1
  · (intro L W hL hK hSw; (try dsimp only at hSw); obtain ⟨h0, h1⟩ := hSw; replace h1 := still [] hK hL (by kernel_rfl) h1; clear hL hK; first | (go_simp; done) | (go_simp; with_reducible rfl))
  clear hHeld; have hHeld := hHeld2; clear hHeld2
  (try simp only [Act.put, List.setIfInBounds_toArray, List.set_cons_zero, List.set_cons_succ])
  refine lReady (rs := [17]) (by kernel_rfl) (by simp) ?_
  refine AllL.cons (i := 17) rfl (fun K hK => ?_) ?_
  · go_simp; (refine (P22.out _ ((Below.refl _ _).drew)).mono ?_; rintro e w8 ⟨rfl, hp8, ht8⟩; have HUT := Lib.hid (HUd.out.post hm4 hp8 ht8); clear hp8 ht8)
    (try go_wp2_with fail)
    refine hK.out _ _ ?_ (fun hHeld2 => ?_)
    · (try dsimp only); refine ⟨?_, Or.inl (by rfl)⟩
      · (trivial)
    clear hK K
    clear hHeld; have hHeld := hHeld2; clear hHeld2
    (try simp only [Act.put, List.setIfInBounds_toArray, List.set_cons_zero, List.set_cons_succ])
    refine lDone (by kernel_rfl) ?_ _
    clear hHeld
    go_wp2
    go_meet
    case rel => exact ⟨now, rfl, by omega, StU.mk HUT.out (HSI2.out.up (by omega))⟩
  exact AllL.nil
set_option maxRecDepth 1000000 in
set_option maxHeartbeats 80000000 in
theorem SiC4 (dr bk : Int) (us : List Us) (cap : Nat) (w w7 : World) (gp c' bu k m s : Nat) (pb : Nat → Nat) (ad : Addr) (u : Us) (now N : Int) (A1 : Nat → Option Addr) (q1 : Nat → Nat) (cs : List Sx.Cl) (P : Nat → Ls) (Ga : Nat → Option Addr) (gq : Nat → Nat) (G : Nat → List Ls) (u6 u16 u17 u18 u67 u68 u69 u70 u71 u72 u73 u74 u75 u76 u77 u78 u79 u80 u81 u82 u83 u84 u85 u86 u87 u88 u89 u90 u91 u92 u93 u94 u95 u96 u97 u98 u99 u100 u101 u102 u103 u104 u105 u106 u107 u108 u109 u110 u111 u112 u113 u114 u115 u116 u117 u118 u119 u120 u121 u122 u123 u124 u125 u126 u127 u128 u129 u130 u131 u132 u133 u134 u135 u136 u137 u138 u139 u140 u141 u142 u143 u144 u145 u146 u147 u148 u149 u150 u151 u152 u153 u154 u155 u156 u157 u158 : Value) (u19 u20 u21 u22 u23 u24 u25 u26 u27 u40 u41 u42 u43 u44 u45 u54 u55 u159 u160 u161 u162 u163 u164 u165 u166 u167 u168 u169 u170 u171 u172 u173 u174 u175 u176 u177 u178 u179 u180 u181 u182 u183 u184 u185 u186 u187 u188 u189 u190 u191 u192 u193 u194 u195 u196 u197 u198 u199 u200 u201 u202 u203 u204 u205 u206 u207 u208 u209 u210 u211 u212 u213 u214 : Value) (J K K1 L1 L2 : Act → World → Prop) (n0 : Nat) (R : Ending → World → Prop)
    (h150 : k < 150) (hnow : 0 ≤ now ∧ now ≤ 4 * (k : Int)) (HO : Hid u.Ok) (hm4 : m < 4) (HUS : Hid (UsI w (w.heap.size + 1) w.heap.size gp c' (w.heap.size + 1 + 1) pb A1 q1 cs dr bk N P Ga gq G w7)) (HSI : Hid (Sx.SI (k : Int) dr bk now N cs G P)) (HBU : Hid (Blk w7 bu 110 [.int .u8 u.d, .int .u8 u.s, .int .u8 u.dr, .int .u8 u.bk, .int .u8 u.fo, .int .u8 u.at_])) (hs : s = 4)
    (hJ : (∀ (a' : Act) (w' : World), (∃ u6 u12 u16 u17 u18 u67 u68 u69 u70 u71 u72 u73 u74 u75 u76 u77 u78 u79 u80 u81 u82 u83 u84 u85 u86 u87 u88 u89 u90 u91 u92 u93 u94 u95 u96 u97 u98 u99 u100 u101 u102 u103 u104 u105 u106 u107 u108 u109 u110 u111 u112 u113 u114 u115 u116 u117 u118 u119 u120 u121 u122 u123 u124 u125 u126 u127 u128 u129 u130 u131 u132 u133 u134 u135 u136 u137 u138 u139 u140 u141 u142 u143 u144 u145 u146 u147 u148 u149 u150 u151 u152 u153 u154 u155 u156 u157 u158 : Value, (∃ now' : Int, u12 = .int .i64 now' ∧ (now ≤ now' ∧ now' ≤ now + 4) ∧ StU w (w.heap.size + 1) w.heap.size gp c' (w.heap.size + 1 + 1) pb dr bk ((k : Int) + 1) now' w') ∧ a' = ⟨#[(.int .u8 dr : Value), .int .u8 bk, .slice (some ad) us.length cap, undef, undef, undef, u6, .pointer (some ⟨w.heap.size + 1, 0, none⟩), .int .i64 0, .slice (some ⟨gp, 0, none⟩) 4 c', .pointer (some ⟨w.heap.size + 1 + 1, 0, none⟩), .int .i64 4, u12, .int .i64 (k : Int), .pointer (some ⟨bu, 0, none⟩), .int .i64 (m : Int), u16, u17, u18, u19, u20, u21, u22, u23, u24, u25, u26, u27, .tuple #[.pointer (some ⟨w.heap.size + 1, 0, none⟩), .int .i64 0], .int .u8 dr, .int .i64 dr, .int .u8 bk, .int .i64 bk, .tuple #[.pointer (some ⟨w.heap.size + 1, 0, none⟩), .int .i64 0], .pointer (some ⟨w.heap.size + 1, 0, none⟩), .int .i64 0, .int .i64 0, .bool false, .int .i64 4, .bool false, u40, u41, u42, u43, u44, u45, .int .i64 (k : Int), .slice (some ad) us.length cap, .int .i64 (us.length : Int), .bool true, .bool true, .int .i64 (k : Int), .bool true, .bool true, u54, u55, .slice (some ad) us.length cap, .int .i64 (k : Int), .pointer (some (ad.add (k * 6))), .agg #[.int .u8 u.d, .int .u8 u.s, .int .u8 u.dr, .int .u8 u.bk, .int .u8 u.fo, .int .u8 u.at_], .pointer (some ⟨bu, 1, none⟩), .int .u8 u.s, .int .i64 u.s, .int .i64 (m : Int), .pointer (some ⟨bu, 0, none⟩), .int .u8 u.d, .int .u8 (s : Int), u67, u68, u69, u70, u71, u72, u73, u74, u75, u76, u77, u78, u79, u80, u81, u82, u83, u84, u85, u86, u87, u88, u89, u90, u91, u92, u93, u94, u95, u96, u97, u98, u99, u100, u101, u102, u103, u104, u105, u106, u107, u108, u109, u110, u111, u112, u113, u114, u115, u116, u117, u118, u119, u120, u121, u122, u123, u124, u125, u126, u127, u128, u129, u130, u131, u132, u133, u134, u135, u136, u137, u138, u139, u140, u141, u142, u143, u144, u145, u146, u147, u148, u149, u150, u151, u152, u153, u154, u155, u156, u157, u158, u159, u160, u161, u162, u163, u164, u165, u166, u167, u168, u169, u170, u171, u172, u173, u174, u175, u176, u177, u178, u179, u180, u181, u182, u183, u184, u185, u186, u187, u188, u189, u190, u191, u192, u193, u194, u195, u196, u197, u198, u199, u200, u201, u202, u203, u204, u205, u206, u207, u208, u209, u210, u211, u212, u213, u214, undef], []⟩) → J a' w')) (hK : ∀ (a' : Act) (w' : World), Met J a' w' → K a' w') :
    Code.wp Try.prog (Code.block 4 siBody) (Exit.then K (Exit.inBlock 3 (Exit.then K1 (Exit.then L1 (Exit.inBlock n0 (Exit.then L2 (bodyPost Try.prog Try.f10 R))))))) ⟨#[(.int .u8 dr : Value), .int .u8 bk, .slice (some ad) us.length cap, undef, undef, undef, u6, .pointer (some ⟨w.heap.size + 1, 0, none⟩), .int .i64 0, .slice (some ⟨gp, 0, none⟩) 4 c', .pointer (some ⟨w.heap.size + 1 + 1, 0, none⟩), .int .i64 4, .int .i64 now, .int .i64 (k : Int), .pointer (some ⟨bu, 0, none⟩), .int .i64 (m : Int), u16, u17, u18, u19, u20, u21, u22, u23, u24, u25, u26, u27, .tuple #[.pointer (some ⟨w.heap.size + 1, 0, none⟩), .int .i64 0], .int .u8 dr, .int .i64 dr, .int .u8 bk, .int .i64 bk, .tuple #[.pointer (some ⟨w.heap.size + 1, 0, none⟩), .int .i64 0], .pointer (some ⟨w.heap.size + 1, 0, none⟩), .int .i64 0, .int .i64 0, .bool false, .int .i64 4, .bool false, u40, u41, u42, u43, u44, u45, .int .i64 (k : Int), .slice (some ad) us.length cap, .int .i64 (us.length : Int), .bool true, .bool true, .int .i64 (k : Int), .bool true, .bool true, u54, u55, .slice (some ad) us.length cap, .int .i64 (k : Int), .pointer (some (ad.add (k * 6))), .agg #[.int .u8 u.d, .int .u8 u.s, .int .u8 u.dr, .int .u8 u.bk, .int .u8 u.fo, .int .u8 u.at_], .pointer (some ⟨bu, 1, none⟩), .int .u8 u.s, .int .i64 u.s, .int .i64 (m : Int), .pointer (some ⟨bu, 0, none⟩), .int .u8 u.d, .int .u8 (s : Int), u67, u68, u69, u70, u71, u72, u73, u74, u75, u76, u77, u78, u79, u80, u81, u82, u83, u84, u85, u86, u87, u88, u89, u90, u91, u92, u93, u94, u95, u96, u97, u98, u99, u100, u101, u102, u103, u104, u105, u106, u107, u108, u109, u110, u111, u112, u113, u114, u115, u116, u117, u118, u119, u120, u121, u122, u123, u124, u125, u126, u127, u128, u129, u130, u131, u132, u133, u134, u135, u136, u137, u138, u139, u140, u141, u142, u143, u144, u145, u146, u147, u148, u149, u150, u151, u152, u153, u154, u155, u156, u157, u158, u159, u160, u161, u162, u163, u164, u165, u166, u167, u168, u169, u170, u171, u172, u173, u174, u175, u176, u177, u178, u179, u180, u181, u182, u183, u184, u185, u186, u187, u188, u189, u190, u191, u192, u193, u194, u195, u196, u197, u198, u199, u200, u201, u202, u203, u204, u205, u206, u207, u208, u209, u210, u211, u212, u213, u214, undef], []⟩ w7 := by
  conv => arg 2; arg 2; whnf
  subst hs
  have v2 := HBU.out.cell 2 rfl
  have v3 := HBU.out.cell 3 rfl
  have v4 := HBU.out.cell 4 rfl
  have v5 := HBU.out.cell 5 rfl
  obtain ⟨gn, hgn⟩ : ∃ n, n = (G m).length := ⟨_, rfl⟩
  have g0 : w7.cell? ⟨w.heap.size + 1 + 1, m, none⟩ = some (.slice (Ga m) gn (gq m)) := by rw [hgn]; exact HUS.out.u.g.cell m (gsl_at _ _ _ hm4)
  have m4 : (m : Int) < 4 := by omega
  have m0 : (0 : Int) ≤ (m : Int) := by omega
  by_cases hlen : 0 < gn
  rotate_left 1
  · have hd : decide (0 < (gn : Int)) = false := decide_eq_false (by omega)
    go_wp2_with fail
    go_meet
    case rel => exact ⟨now, rfl, by omega, StU.mk HUS.out (HSI.out.up (by omega))⟩
  have hd : decide (0 < (gn : Int)) = true := decide_eq_true (by omega)
  obtain ⟨j, hj, hjl⟩ : ∃ j : Nat, u.at_.tmod (gn : Int) = (j : Int) ∧ j < gn := by
    have h0 := HO.out.at_.1
    have h1 := Int.emod_nonneg u.at_ (show (gn : Int) ≠ 0 by omega)
    have h2 := Int.emod_lt_of_pos u.at_ (show (0 : Int) < (gn : Int) by omega)
    have h3 : u.at_.tmod (gn : Int) = u.at_ % (gn : Int) := Int.tmod_eq_emod_of_nonneg h0
    exact ⟨(u.at_ % (gn : Int)).toNat, by omega, by omega⟩
  obtain ⟨aG, hGa, _, e0, e1, e2, e3⟩ := lrow_at (HUS.out.u.gr m hm4) j (by omega)
  have hmem : (G m).getD j default ∈ G m := ls_mem (by omega)
  obtain ⟨l, hl⟩ : ∃ l, l = (G m).getD j default := ⟨_, rfl⟩
  rw [← hl] at e0 e1 e2 e3 hmem
  have HSI2 := Lib.hid (HSI.out.take hm4 hmem)
  have p0 := HUS.out.ptr hm4
  have P22 := Lib.hid (fun W (hW : Below w7.heap.size w7 W) => Take_c (pb m) (P m) l W (blk_bel hW (HUS.out.u.p m hm4)))
  have hlz : (gn : Int) ≠ 0 := by omega
  have hgz : gn ≠ 0 := by omega
  have wat : IntKind.i64.wrap u.at_ = u.at_ := IntWalk.i64_in _ (by have := HO.out.at_; unfold U8 at this; omega)
  have j0 : (0 : Int) ≤ (j : Int) := by omega
  have j1 : (j : Int) < (gn : Int) := by omega
  obtain ⟨at0, at1⟩ := HO.out.at_
  rw [hGa] at g0
  have HUd := Lib.hid (HUS.out.bel ((Below.refl _ _).drew))
  have HCs := Lib.hid (And.intro p0 (And.intro g0 (And.intro v5 (And.intro e0 (And.intro e1 (And.intro e2 e3))))))
  clear hl hmem hlen hgn
  go_upto_region 30 with fail
  refine lBegin (S := fun L W => (True) ∧ (L.getD 17 false = true ∨ (W.cell? ⟨gp, m, none⟩ = some (.pointer (some ⟨pb m, 0, none⟩)) ∧ W.cell? ⟨w.heap.size + 1 + 1, m, none⟩ = some (.slice (some aG) gn (gq m)) ∧ W.cell? ⟨bu, 5, none⟩ = some (.int .u8 u.at_) ∧ W.cell? (aG.add (j * 4)) = some (.int .i64 l.n) ∧ W.cell? ⟨(aG.add (j * 4)).block, (aG.add (j * 4)).off + 1, none⟩ = some (.int .i64 l.d) ∧ W.cell? ⟨(aG.add (j * 4)).block, (aG.add (j * 4)).off + 2, none⟩ = some (.int .i64 l.b) ∧ W.cell? ⟨(aG.add (j * 4)).block, (aG.add (j * 4)).off + 3, none⟩ = some (.int .i64 l.u)))) (by kernel_rfl) ?_ (fun hHeld => ?_)
  · (try dsimp only); refine ⟨?_, Or.inr ?_⟩
    · (trivial)
    · (exact HCs.out)
  refine lTake (i := 0) (v := ?_) rfl (by kernel_rfl) (by kernel_rfl) (by kernel_rfl) (fun _ _ _ h => h) (by rfl) (fun _ _ h => by simpa only [getD_set_ne false (show 0 ≠ 17 by decide)] using h) (fun _ _ h => by simpa only [getD_set_ne false (show 0 ≠ 17 by decide)] using h) ?_ (by assumption) (fun hHeld2 => ?_)
  rotate_left 1
  · (intro _ _ _ _ _; first | (go_simp; done) | (go_simp; with_reducible rfl))
  clear hHeld; have hHeld := hHeld2; clear hHeld2
  (try simp only [Act.put, List.setIfInBounds_toArray, List.set_cons_zero, List.set_cons_succ])
  refine lTake (i := 1) (v := ?_) rfl (by kernel_rfl) (by kernel_rfl) (by kernel_rfl) (fun _ _ _ h => h) (by rfl) (fun _ _ h => by simpa only [getD_set_ne false (show 1 ≠ 17 by decide)] using h) (fun _ _ h => by simpa only [getD_set_ne false (show 1 ≠ 17 by decide)] using h) ?_ (by assumption) (fun hHeld2 => ?_)
  rotate_left 1
  · (intro _ _ _ _ _; first | (go_simp; done) | (go_simp; with_reducible rfl))
  clear hHeld; have hHeld := hHeld2; clear hHeld2
  (try simp only [Act.put, List.setIfInBounds_toArray, List.set_cons_zero, List.set_cons_succ])
  refine lTake (i := 2) (v := ?_) rfl (by kernel_rfl) (by kernel_rfl) (by kernel_rfl) (fun _ _ _ h => h) (by rfl) (fun _ _ h => by simpa only [getD_set_ne false (show 2 ≠ 17 by decide)] using h) (fun _ _ h => by simpa only [getD_set_ne false (show 2 ≠ 17 by decide)] using h) ?_ (by assumption) (fun hHeld2 => ?_)
  rotate_left 1
  · (intro _ _ _ _ _; first | (go_simp; done) | (go_simp; with_reducible rfl))
  clear hHeld; have hHeld := hHeld2; clear hHeld2
  (try simp only [Act.put, List.setIfInBounds_toArray, List.set_cons_zero, List.set_cons_succ])
  refine lTake (i := 3) (v := ?_) rfl (by kernel_rfl) (by kernel_rfl) (by kernel_rfl) (fun _ _ _ h => h) (by rfl) (fun _ _ h => by simpa only [getD_set_ne false (show 3 ≠ 17 by decide)] using h) (fun _ _ h => by simpa only [getD_set_ne false (show 3 ≠ 17 by decide)] using h) ?_ (by assumption) (fun hHeld2 => ?_)
  rotate_left 1
  · (intro L W hL hK hSw; (try dsimp only at hSw); obtain ⟨h0, h1⟩ := hSw; replace h1 := still [] hK hL (by kernel_rfl) h1; clear hL hK; first | (go_simp; done) | (go_simp; with_reducible rfl))
  clear hHeld; have hHeld := hHeld2; clear hHeld2
  (try simp only [Act.put, List.setIfInBounds_toArray, List.set_cons_zero, List.set_cons_succ])
  refine lTake (i := 4) (v := ?_) rfl (by kernel_rfl) (by kernel_rfl) (by kernel_rfl) (fun _ _ _ h => h) (by rfl) (fun _ _ h => by simpa only [getD_set_ne false (show 4 ≠ 17 by decide)] using h) (fun _ _ h => by simpa only [getD_set_ne false (show 4 ≠ 17 by decide)] using h) ?_ (by assumption) (fun hHeld2 => ?_)
  rotate_left 1
  · (intro _ _ _ _ _; first | (go_simp; done) | (go_simp; with_reducible rfl))
  clear hHeld; have hHeld := hHeld2; clear hHeld2
  (try simp only [Act.put, List.setIfInBounds_toArray, List.set_cons_zero, List.set_cons_succ])
  refine lTake (i := 5) (v := ?_) rfl (by kernel_rfl) (by kernel_rfl) (by kernel_rfl) (fun _ _ _ h => h) (by rfl) (fun _ _ h => by simpa only [getD_set_ne false (show 5 ≠ 17 by decide)] using h) (fun _ _ h => by simpa only [getD_set_ne false (show 5 ≠ 17 by decide)] using h) ?_ (by assumption) (fun hHeld2 => ?_)
  rotate_left 1
  · (intro _ _ _ _ _; first | (go_simp; done) | (go_simp; with_reducible rfl))
  clear hHeld; have hHeld := hHeld2; clear hHeld2
  (try simp only [Act.put, List.setIfInBounds_toArray, List.set_cons_zero, List.set_cons_succ])
  refine lTake (i := 6) (v := ?_) rfl (by kernel_rfl) (by kernel_rfl) (by kernel_rfl) (fun _ _ _ h => h) (by rfl) (fun _ _ h => by simpa only [getD_set_ne false (show 6 ≠ 17 by decide)] using h) (fun _ _ h => by simpa only [getD_set_ne false (show 6 ≠ 17 by decide)] using h) ?_ (by assumption) (fun hHeld2 => ?_)
  rotate_left 1
  · (intro L W hL hK hSw; (try dsimp only at hSw); obtain ⟨h0, h1⟩ := hSw; replace h1 := still [16, 15] hK hL (by kernel_rfl) h1; clear hL hK; first | (go_simp; done) | (go_simp; with_reducible rfl))
  clear hHeld; have hHeld := hHeld2; clear hHeld2
  (try simp only [Act.put, List.setIfInBounds_toArray, List.set_cons_zero, List.set_cons_succ])
  refine lTake (i := 7) (v := ?_) rfl (by kernel_rfl) (by kernel_rfl) (by kernel_rfl) (fun _ _ _ h => h) (by rfl) (fun _ _ h => by simpa only [getD_set_ne false (show 7 ≠ 17 by decide)] using h) (fun _ _ h => by simpa only [getD_set_ne false (show 7 ≠ 17 by decide)] using h) ?_ (by assumption) (fun hHeld2 => ?_)
  rotate_left 1
  · (intro _ _ _ _ _; first | (go_simp; done) | (go_simp; with_reducible rfl))
  clear hHeld; have hHeld := hHeld2; clear hHeld2
  (try simp only [Act.put, List.setIfInBounds_toArray, List.set_cons_zero, List.set_cons_succ])
  refine lTake (i := 8) (v := ?_) rfl (by kernel_rfl) (by kernel_rfl) (by kernel_rfl) (fun _ _ _ h => h) (by rfl) (fun _ _ h => by simpa only [getD_set_ne false (show 8 ≠ 17 by decide)] using h) (fun _ _ h => by simpa only [getD_set_ne false (show 8 ≠ 17 by decide)] using h) ?_ (by assumption) (fun hHeld2 => ?_)
  rotate_left 1
  · (intro L W hL hK hSw; (try dsimp only at hSw); obtain ⟨h0, h1⟩ := hSw; replace h1 := still [16, 15, 14, 9] hK hL (by kernel_rfl) h1; clear hL hK; first | (go_simp; done) | (go_simp; with_reducible rfl))
  clear hHeld; have hHeld := hHeld2; clear hHeld2
  (try simp only [Act.put, List.setIfInBounds_toArray, List.set_cons_zero, List.set_cons_succ])
  refine lTake (i := 9) (v := ?_) rfl (by kernel_rfl) (by kernel_rfl) (by kernel_rfl) (fun _ _ _ h => h) (by rfl) (fun _ _ h => by simpa only [getD_set_ne false (show 9 ≠ 17 by decide)] using h) (fun _ _ h => by simpa only [getD_set_ne false (show 9 ≠ 17 by decide)] using h) ?_ (by assumption) (fun hHeld2 => ?_)
  rotate_left 1
  · (intro _ _ _ _ _; first | (go_simp; done) | (go_simp; with_reducible rfl))
  clear hHeld; have hHeld := hHeld2; clear hHeld2
  (try simp only [Act.put, List.setIfInBounds_toArray, List.set_cons_zero, List.set_cons_succ])
  refine lTake (i := 10) (v := ?_) rfl (by kernel_rfl) (by kernel_rfl) (by kernel_rfl) (fun _ _ _ h => h) (by rfl) (fun _ _ h => by simpa only [getD_set_ne false (show 10 ≠ 17 by decide)] using h) (fun _ _ h => by simpa only [getD_set_ne false (show 10 ≠ 17 by decide)] using h) ?_ (by assumption) (fun hHeld2 => ?_)
  rotate_left 1
  · (intro _ _ _ _ _; first | (go_simp; done) | (go_simp; with_reducible rfl))
  clear hHeld; have hHeld := hHeld2; clear hHeld2
  (try simp only [Act.put, List.setIfInBounds_toArray, List.set_cons_zero, List.set_cons_succ])
  refine lTake (i := 11) (v := ?_) rfl (by kernel_rfl) (by kernel_rfl) (by kernel_rfl) (fun _ _ _ h => h) (by rfl) (fun _ _ h => by simpa only [getD_set_ne false (show 11 ≠ 17 by decide)] using h) (fun _ _ h => by simpa only [getD_set_ne false (show 11 ≠ 17 by decide)] using h) ?_ (by assumption) (fun hHeld2 => ?_)
  rotate_left 1
  · (intro _ _ _ _ _; first | (go_simp; done) | (go_simp; with_reducible rfl))
  clear hHeld; have hHeld := hHeld2; clear hHeld2
  (try simp only [Act.put, List.setIfInBounds_toArray, List.set_cons_zero, List.set_cons_succ])
  refine lTake (i := 12) (v := ?_) rfl (by kernel_rfl) (by kernel_rfl) (by kernel_rfl) (fun _ _ _ h => h) (by rfl) (fun _ _ h => by simpa only [getD_set_ne false (show 12 ≠ 17 by decide)] using h) (fun _ _ h => by simpa only [getD_set_ne false (show 12 ≠ 17 by decide)] using h) ?_ (by assumption) (fun hHeld2 => ?_)
  rotate_left 1
  · (intro L W hL hK hSw; (try dsimp only at hSw); obtain ⟨h0, h1⟩ := hSw; replace h1 := still [16, 15, 14, 13] hK hL (by kernel_rfl) h1; clear hL hK; first | (go_simp; done) | (go_simp; with_reducible rfl))
  clear hHeld; have hHeld := hHeld2; clear hHeld2
  (try simp only [Act.put, List.setIfInBounds_toArray, List.set_cons_zero, List.set_cons_succ])
  refine lTake (i := 13) (v := ?_) rfl (by kernel_rfl) (by kernel_rfl) (by kernel_rfl) (fun _ _ _ h => h) (by rfl) (fun _ _ h => by simpa only [getD_set_ne false (show 13 ≠ 17 by decide)] using h) (fun _ _ h => by simpa only [getD_set_ne false (show 13 ≠ 17 by decide)] using h) ?_ (by assumption) (fun hHeld2 => ?_)
  rotate_left 1
  · (intro _ _ _ _ _; first | (go_simp; done) | (go_simp; with_reducible rfl))
  clear hHeld; have hHeld := hHeld2; clear hHeld2
  (try simp only [Act.put, List.setIfInBounds_toArray, List.set_cons_zero, List.set_cons_succ])
  refine lTake (i := 14) (v := ?_) rfl (by kernel_rfl) (by kernel_rfl) (by kernel_rfl) (fun _ _ _ h => h) (by rfl) (fun _ _ h => by simpa only [getD_set_ne false (show 14 ≠ 17 by decide)] using h) (fun _ _ h => by simpa only [getD_set_ne false (show 14 ≠ 17 by decide)] using h) ?_ (by assumption) (fun hHeld2 => ?_)
  rotate_left 1
  · (intro _ _ _ _ _; first | (go_simp; done) | (go_simp; with_reducible rfl))
  clear hHeld; have hHeld := hHeld2; clear hHeld2
  (try simp only [Act.put, List.setIfInBounds_toArray, List.set_cons_zero, List.set_cons_succ])
  refine lTake (i := 15) (v := ?_) rfl (by kernel_rfl) (by kernel_rfl) (by kernel_rfl) (fun _ _ _ h => h) (by rfl) (fun _ _ h => by simpa only [getD_set_ne false (show 15 ≠ 17 by decide)] using h) (fun _ _ h => by simpa only [getD_set_ne false (show 15 ≠ 17 by decide)] using h) ?_ (by assumption) (fun hHeld2 => ?_)
  rotate_left 1
  · (intro _ _ _ _ _; first | (go_simp; done) | (go_simp; with_reducible rfl))
  clear hHeld; have hHeld := hHeld2; clear hHeld2
  (try simp only [Act.put, List.setIfInBounds_toArray, List.set_cons_zero, List.set_cons_succ])
  refine lTake (i := 16) (v := ?_) rfl (by kernel_rfl) (by kernel_rfl) (by kernel_rfl) (fun _ _ _ h => h) (by rfl) (fun _ _ h => by simpa only [getD_set_ne false (show 16 ≠ 17 by decide)] using h) (fun _ _ h => by simpa only [getD_set_ne false (show 16 ≠ 17 by decide)] using h) ?_ (by assumption) (fun hHeld2 => ?_)
  rotate_left 1
  · (intro L W hL hK hSw; (try dsimp only at hSw); obtain ⟨h0, h1⟩ := hSw; replace h1 := still [] hK hL (by kernel_rfl) h1; clear hL hK; first | (go_simp; done) | (go_simp; with_reducible rfl))
  clear hHeld; have hHeld := hHeld2; clear hHeld2
  (try simp only [Act.put, List.setIfInBounds_toArray, List.set_cons_zero, List.set_cons_succ])
  refine lReady (rs := [17]) (by kernel_rfl) (by simp) ?_
  refine AllL.cons (i := 17) rfl (fun K hK => ?_) ?_
  · go_simp; (refine (P22.out _ ((Below.refl _ _).drew)).mono ?_; rintro e w8 ⟨rfl, hp8, ht8⟩; have HUT := Lib.hid (HUd.out.post hm4 hp8 ht8); clear hp8 ht8)
    (try go_wp2_with fail)
    refine hK.out _ _ ?_ (fun hHeld2 => ?_)
    · (try dsimp only); refine ⟨?_, Or.inl (by rfl)⟩
      · (trivial)
    clear hK K
    clear hHeld; have hHeld := hHeld2; clear hHeld2
    (try simp only [Act.put, List.setIfInBounds_toArray, List.set_cons_zero, List.set_cons_succ])
    refine lDone (by kernel_rfl) ?_ _
    clear hHeld
    go_wp2
    go_meet
    case rel => exact ⟨now, rfl, by omega, StU.mk HUT.out (HSI2.out.up (by omega))⟩
  exact AllL.nil
set_option maxRecDepth 1000000 in
set_option maxHeartbeats 80000000 in
theorem SiC5 (dr bk : Int) (us : List Us) (cap : Nat) (w w7 : World) (gp c' bu k m s : Nat) (pb : Nat → Nat) (ad : Addr) (u : Us) (now N : Int) (A1 : Nat → Option Addr) (q1 : Nat → Nat) (cs : List Sx.Cl) (P : Nat → Ls) (Ga : Nat → Option Addr) (gq : Nat → Nat) (G : Nat → List Ls) (u6 u16 u17 u18 u67 u68 u69 u70 u71 u72 u73 u74 u75 u76 u77 u78 u79 u80 u81 u82 u83 u84 u85 u86 u87 u88 u89 u90 u91 u92 u93 u94 u95 u96 u97 u98 u99 u100 u101 u102 u103 u104 u105 u106 u107 u108 u109 u110 u111 u112 u113 u114 u115 u116 u117 u118 u119 u120 u121 u122 u123 u124 u125 u126 u127 u128 u129 u130 u131 u132 u133 u134 u135 u136 u137 u138 u139 u140 u141 u142 u143 u144 u145 u146 u147 u148 u149 u150 u151 u152 u153 u154 u155 u156 u157 u158 : Value) (u19 u20 u21 u22 u23 u24 u25 u26 u27 u40 u41 u42 u43 u44 u45 u54 u55 u159 u160 u161 u162 u163 u164 u165 u166 u167 u168 u169 u170 u171 u172 u173 u174 u175 u176 u177 u178 u179 u180 u181 u182 u183 u184 u185 u186 u187 u188 u189 u190 u191 u192 u193 u194 u195 u196 u197 u198 u199 u200 u201 u202 u203 u204 u205 u206 u207 u208 u209 u210 u211 u212 u213 u214 : Value) (J K K1 L1 L2 : Act → World → Prop) (n0 : Nat) (R : Ending → World → Prop)
    (h150 : k < 150) (hnow : 0 ≤ now ∧ now ≤ 4 * (k : Int)) (HO : Hid u.Ok) (hm4 : m < 4) (HUS : Hid (UsI w (w.heap.size + 1) w.heap.size gp c' (w.heap.size + 1 + 1) pb A1 q1 cs dr bk N P Ga gq G w7)) (HSI : Hid (Sx.SI (k : Int) dr bk now N cs G P)) (HBU : Hid (Blk w7 bu 110 [.int .u8 u.d, .int .u8 u.s, .int .u8 u.dr, .int .u8 u.bk, .int .u8 u.fo, .int .u8 u.at_])) (hs : s = 5)
    (hJ : (∀ (a' : Act) (w' : World), (∃ u6 u12 u16 u17 u18 u67 u68 u69 u70 u71 u72 u73 u74 u75 u76 u77 u78 u79 u80 u81 u82 u83 u84 u85 u86 u87 u88 u89 u90 u91 u92 u93 u94 u95 u96 u97 u98 u99 u100 u101 u102 u103 u104 u105 u106 u107 u108 u109 u110 u111 u112 u113 u114 u115 u116 u117 u118 u119 u120 u121 u122 u123 u124 u125 u126 u127 u128 u129 u130 u131 u132 u133 u134 u135 u136 u137 u138 u139 u140 u141 u142 u143 u144 u145 u146 u147 u148 u149 u150 u151 u152 u153 u154 u155 u156 u157 u158 : Value, (∃ now' : Int, u12 = .int .i64 now' ∧ (now ≤ now' ∧ now' ≤ now + 4) ∧ StU w (w.heap.size + 1) w.heap.size gp c' (w.heap.size + 1 + 1) pb dr bk ((k : Int) + 1) now' w') ∧ a' = ⟨#[(.int .u8 dr : Value), .int .u8 bk, .slice (some ad) us.length cap, undef, undef, undef, u6, .pointer (some ⟨w.heap.size + 1, 0, none⟩), .int .i64 0, .slice (some ⟨gp, 0, none⟩) 4 c', .pointer (some ⟨w.heap.size + 1 + 1, 0, none⟩), .int .i64 4, u12, .int .i64 (k : Int), .pointer (some ⟨bu, 0, none⟩), .int .i64 (m : Int), u16, u17, u18, u19, u20, u21, u22, u23, u24, u25, u26, u27, .tuple #[.pointer (some ⟨w.heap.size + 1, 0, none⟩), .int .i64 0], .int .u8 dr, .int .i64 dr, .int .u8 bk, .int .i64 bk, .tuple #[.pointer (some ⟨w.heap.size + 1, 0, none⟩), .int .i64 0], .pointer (some ⟨w.heap.size + 1, 0, none⟩), .int .i64 0, .int .i64 0, .bool false, .int .i64 4, .bool false, u40, u41, u42, u43, u44, u45, .int .i64 (k : Int), .slice (some ad) us.length cap, .int .i64 (us.length : Int), .bool true, .bool true, .int .i64 (k : Int), .bool true, .bool true, u54, u55, .slice (some ad) us.length cap, .int .i64 (k : Int), .pointer (some (ad.add (k * 6))), .agg #[.int .u8 u.d, .int .u8 u.s, .int .u8 u.dr, .int .u8 u.bk, .int .u8 u.fo, .int .u8 u.at_], .pointer (some ⟨bu, 1, none⟩), .int .u8 u.s, .int .i64 u.s, .int .i64 (m : Int), .pointer (some ⟨bu, 0, none⟩), .int .u8 u.d, .int .u8 (s : Int), u67, u68, u69, u70, u71, u72, u73, u74, u75, u76, u77, u78, u79, u80, u81, u82, u83, u84, u85, u86, u87, u88, u89, u90, u91, u92, u93, u94, u95, u96, u97, u98, u99, u100, u101, u102, u103, u104, u105, u106, u107, u108, u109, u110, u111, u112, u113, u114, u115, u116, u117, u118, u119, u120, u121, u122, u123, u124, u125, u126, u127, u128, u129, u130, u131, u132, u133, u134, u135, u136, u137, u138, u139, u140, u141, u142, u143, u144, u145, u146, u147, u148, u149, u150, u151, u152, u153, u154, u155, u156, u157, u158, u159, u160, u161, u162, u163, u164, u165, u166, u167, u168, u169, u170, u171, u172, u173, u174, u175, u176, u177, u178, u179, u180, u181, u182, u183, u184, u185, u186, u187, u188, u189, u190, u191, u192, u193, u194, u195, u196, u197, u198, u199, u200, u201, u202, u203, u204, u205, u206, u207, u208, u209, u210, u211, u212, u213, u214, undef], []⟩) → J a' w')) (hK : ∀ (a' : Act) (w' : World), Met J a' w' → K a' w') :
    Code.wp Try.prog (Code.block 4 siBody) (Exit.then K (Exit.inBlock 3 (Exit.then K1 (Exit.then L1 (Exit.inBlock n0 (Exit.then L2 (bodyPost Try.prog Try.f10 R))))))) ⟨#[(.int .u8 dr : Value), .int .u8 bk, .slice (some ad) us.length cap, undef, undef, undef, u6, .pointer (some ⟨w.heap.size + 1, 0, none⟩), .int .i64 0, .slice (some ⟨gp, 0, none⟩) 4 c', .pointer (some ⟨w.heap.size + 1 + 1, 0, none⟩), .int .i64 4, .int .i64 now, .int .i64 (k : Int), .pointer (some ⟨bu, 0, none⟩), .int .i64 (m : Int), u16, u17, u18, u19, u20, u21, u22, u23, u24, u25, u26, u27, .tuple #[.pointer (some ⟨w.heap.size + 1, 0, none⟩), .int .i64 0], .int .u8 dr, .int .i64 dr, .int .u8 bk, .int .i64 bk, .tuple #[.pointer (some ⟨w.heap.size + 1, 0, none⟩), .int .i64 0], .pointer (some ⟨w.heap.size + 1, 0, none⟩), .int .i64 0, .int .i64 0, .bool false, .int .i64 4, .bool false, u40, u41, u42, u43, u44, u45, .int .i64 (k : Int), .slice (some ad) us.length cap, .int .i64 (us.length : Int), .bool true, .bool true, .int .i64 (k : Int), .bool true, .bool true, u54, u55, .slice (some ad) us.length cap, .int .i64 (k : Int), .pointer (some (ad.add (k * 6))), .agg #[.int .u8 u.d, .int .u8 u.s, .int .u8 u.dr, .int .u8 u.bk, .int .u8 u.fo, .int .u8 u.at_], .pointer (some ⟨bu, 1, none⟩), .int .u8 u.s, .int .i64 u.s, .int .i64 (m : Int), .pointer (some ⟨bu, 0, none⟩), .int .u8 u.d, .int .u8 (s : Int), u67, u68, u69, u70, u71, u72, u73, u74, u75, u76, u77, u78, u79, u80, u81, u82, u83, u84, u85, u86, u87, u88, u89, u90, u91, u92, u93, u94, u95, u96, u97, u98, u99, u100, u101, u102, u103, u104, u105, u106, u107, u108, u109, u110, u111, u112, u113, u114, u115, u116, u117, u118, u119, u120, u121, u122, u123, u124, u125, u126, u127, u128, u129, u130, u131, u132, u133, u134, u135, u136, u137, u138, u139, u140, u141, u142, u143, u144, u145, u146, u147, u148, u149, u150, u151, u152, u153, u154, u155, u156, u157, u158, u159, u160, u161, u162, u163, u164, u165, u166, u167, u168, u169, u170, u171, u172, u173, u174, u175, u176, u177, u178, u179, u180, u181, u182, u183, u184, u185, u186, u187, u188, u189, u190, u191, u192, u193, u194, u195, u196, u197, u198, u199, u200, u201, u202, u203, u204, u205, u206, u207, u208, u209, u210, u211, u212, u213, u214, undef], []⟩ w7 := by
  conv => arg 2; arg 2; whnf
  subst hs
  have v2 := HBU.out.cell 2 rfl
  have v3 := HBU.out.cell 3 rfl
  have v4 := HBU.out.cell 4 rfl
  have v5 := HBU.out.cell 5 rfl
  obtain ⟨gn, hgn⟩ : ∃ n, n = (G m).length := ⟨_, rfl⟩
  have g0 : w7.cell? ⟨w.heap.size + 1 + 1, m, none⟩ = some (.slice (Ga m) gn (gq m)) := by rw [hgn]; exact HUS.out.u.g.cell m (gsl_at _ _ _ hm4)
  have m4 : (m : Int) < 4 := by omega
  have m0 : (0 : Int) ≤ (m : Int) := by omega
  by_cases hlen : 0 < gn
  rotate_left 1
  · have hd : decide (0 < (gn : Int)) = false := decide_eq_false (by omega)
    go_wp2_with fail
    go_meet
    case rel => exact ⟨now, rfl, by omega, StU.mk HUS.out (HSI.out.up (by omega))⟩
  have hd : decide (0 < (gn : Int)) = true := decide_eq_true (by omega)
  obtain ⟨j, hj, hjl⟩ : ∃ j : Nat, u.at_.tmod (gn : Int) = (j : Int) ∧ j < gn := by
    have h0 := HO.out.at_.1
    have h1 := Int.emod_nonneg u.at_ (show (gn : Int) ≠ 0 by omega)
    have h2 := Int.emod_lt_of_pos u.at_ (show (0 : Int) < (gn : Int) by omega)
    have h3 : u.at_.tmod (gn : Int) = u.at_ % (gn : Int) := Int.tmod_eq_emod_of_nonneg h0
    exact ⟨(u.at_ % (gn : Int)).toNat, by omega, by omega⟩
  obtain ⟨aG, hGa, _, e0, e1, e2, e3⟩ := lrow_at (HUS.out.u.gr m hm4) j (by omega)
  have hmem : (G m).getD j default ∈ G m := ls_mem (by omega)
  obtain ⟨l, hl⟩ : ∃ l, l = (G m).getD j default := ⟨_, rfl⟩
  rw [← hl] at e0 e1 e2 e3 hmem
  have HSI2 := Lib.hid (HSI.out.take hm4 hmem)
  have p0 := HUS.out.ptr hm4
  have P22 := Lib.hid (fun W (hW : Below w7.heap.size w7 W) => Take_c (pb m) (P m) l W (blk_bel hW (HUS.out.u.p m hm4)))
  have hlz : (gn : Int) ≠ 0 := by omega
  have hgz : gn ≠ 0 := by omega
  have wat : IntKind.i64.wrap u.at_ = u.at_ := IntWalk.i64_in _ (by have := HO.out.at_; unfold U8 at this; omega)
  have j0 : (0 : Int) ≤ (j : Int) := by omega
  have j1 : (j : Int) < (gn : Int) := by omega
  obtain ⟨at0, at1⟩ := HO.out.at_
  rw [hGa] at g0
  have HUd := Lib.hid (HUS.out.bel ((Below.refl _ _).drew))
  have HCs := Lib.hid (And.intro p0 (And.intro g0 (And.intro v5 (And.intro e0 (And.intro e1 (And.intro e2 e3))))))
  clear hl hmem hlen hgn
  go_upto_region 30 with fail
  refine lBegin (S := fun L W => (True) ∧ (L.getD 17 false = true ∨ (W.cell? ⟨gp, m, none⟩ = some (.pointer (some ⟨pb m, 0, none⟩)) ∧ W.cell? ⟨w.heap.size + 1 + 1, m, none⟩ = some (.slice (some aG) gn (gq m)) ∧ W.cell? ⟨bu, 5, none⟩ = some (.int .u8 u.at_) ∧ W.cell? (aG.add (j * 4)) = some (.int .i64 l.n) ∧ W.cell? ⟨(aG.add (j * 4)).block, (aG.add (j * 4)).off + 1, none⟩ = some (.int .i64 l.d) ∧ W.cell? ⟨(aG.add (j * 4)).block, (aG.add (j * 4)).off + 2, none⟩ = some (.int .i64 l.b) ∧ W.cell? ⟨(aG.add (j * 4)).block, (aG.add (j * 4)).off + 3, none⟩ = some (.int .i64 l.u)))) (by kernel_rfl) ?_ (fun hHeld => ?_)
  · (try dsimp only); refine ⟨?_, Or.inr ?_⟩
    · (trivial)
    · (exact HCs.out)
  refine lTake (i := 0) (v := ?_) rfl (by kernel_rfl) (by kernel_rfl) (by kernel_rfl) (fun _ _ _ h => h) (by rfl) (fun _ _ h => by simpa only [getD_set_ne false (show 0 ≠ 17 by decide)] using h) (fun _ _ h => by simpa only [getD_set_ne false (show 0 ≠ 17 by decide)] using h) ?_ (by assumption) (fun hHeld2 => ?_)
  rotate_left 1
  · (intro _ _ _ _ _; first | (go_simp; done) | (go_simp; with_reducible rfl))
  clear hHeld; have hHeld := hHeld2; clear hHeld2
  (try simp only [Act.put, List.setIfInBounds_toArray, List.set_cons_zero, List.set_cons_succ])
  refine lTake (i := 1) (v := ?_) rfl (by kernel_rfl) (by kernel_rfl) (by kernel_rfl) (fun _ _ _ h => h) (by rfl) (fun _ _ h => by simpa only [getD_set_ne false (show 1 ≠ 17 by decide)] using h) (fun _ _ h => by simpa only [getD_set_ne false (show 1 ≠ 17 by decide)] using h) ?_ (by assumption) (fun hHeld2 => ?_)
  rotate_left 1
  · (intro _ _ _ _ _; first | (go_simp; done) | (go_simp; with_reducible rfl))
  clear hHeld; have hHeld := hHeld2; clear hHeld2
  (try simp only [Act.put, List.setIfInBounds_toArray, List.set_cons_zero, List.set_cons_succ])
  refine lTake (i := 2) (v := ?_) rfl (by kernel_rfl) (by kernel_rfl) (by kernel_rfl) (fun _ _ _ h => h) (by rfl) (fun _ _ h => by simpa only [getD_set_ne false (show 2 ≠ 17 by decide)] using h) (fun _ _ h => by simpa only [getD_set_ne false (show 2 ≠ 17 by decide)] using h) ?_ (by assumption) (fun hHeld2 => ?_)
  rotate_left 1
  · (intro _ _ _ _ _; first | (go_simp; done) | (go_simp; with_reducible rfl))
  clear hHeld; have hHeld := hHeld2; clear hHeld2
  (try simp only [Act.put, List.setIfInBounds_toArray, List.set_cons_zero, List.set_cons_succ])
  refine lTake (i := 3) (v := ?_) rfl (by kernel_rfl) (by kernel_rfl) (by kernel_rfl) (fun _ _ _ h => h) (by rfl) (fun _ _ h => by simpa only [getD_set_ne false (show 3 ≠ 17 by decide)] using h) (fun _ _ h => by simpa only [getD_set_ne false (show 3 ≠ 17 by decide)] using h) ?_ (by assumption) (fun hHeld2 => ?_)
  rotate_left 1
  · (intro L W hL hK hSw; (try dsimp only at hSw); obtain ⟨h0, h1⟩ := hSw; replace h1 := still [] hK hL (by kernel_rfl) h1; clear hL hK; first | (go_simp; done) | (go_simp; with_reducible rfl))
  clear hHeld; have hHeld := hHeld2; clear hHeld2
  (try simp only [Act.put, List.setIfInBounds_toArray, List.set_cons_zero, List.set_cons_succ])
  refine lTake (i := 4) (v := ?_) rfl (by kernel_rfl) (by kernel_rfl) (by kernel_rfl) (fun _ _ _ h => h) (by rfl) (fun _ _ h => by simpa only [getD_set_ne false (show 4 ≠ 17 by decide)] using h) (fun _ _ h => by simpa only [getD_set_ne false (show 4 ≠ 17 by decide)] using h) ?_ (by assumption) (fun hHeld2 => ?_)
  rotate_left 1
  · (intro _ _ _ _ _; first | (go_simp; done) | (go_simp; with_reducible rfl))
  clear hHeld; have hHeld := hHeld2; clear hHeld2
  (try simp only [Act.put, List.setIfInBounds_toArray, List.set_cons_zero, List.set_cons_succ])
  refine lTake (i := 5) (v := ?_) rfl (by kernel_rfl) (by kernel_rfl) (by kernel_rfl) (fun _ _ _ h => h) (by rfl) (fun _ _ h => by simpa only [getD_set_ne false (show 5 ≠ 17 by decide)] using h) (fun _ _ h => by simpa only [getD_set_ne false (show 5 ≠ 17 by decide)] using h) ?_ (by assumption) (fun hHeld2 => ?_)
  rotate_left 1
  · (intro _ _ _ _ _; first | (go_simp; done) | (go_simp; with_reducible rfl))
  clear hHeld; have hHeld := hHeld2; clear hHeld2
  (try simp only [Act.put, List.setIfInBounds_toArray, List.set_cons_zero, List.set_cons_succ])
  refine lTake (i := 6) (v := ?_) rfl (by kernel_rfl) (by kernel_rfl) (by kernel_rfl) (fun _ _ _ h => h) (by rfl) (fun _ _ h => by simpa only [getD_set_ne false (show 6 ≠ 17 by decide)] using h) (fun _ _ h => by simpa only [getD_set_ne false (show 6 ≠ 17 by decide)] using h) ?_ (by assumption) (fun hHeld2 => ?_)
  rotate_left 1
  · (intro L W hL hK hSw; (try dsimp only at hSw); obtain ⟨h0, h1⟩ := hSw; replace h1 := still [16, 15] hK hL (by kernel_rfl) h1; clear hL hK; first | (go_simp; done) | (go_simp; with_reducible rfl))
  clear hHeld; have hHeld := hHeld2; clear hHeld2
  (try simp only [Act.put, List.setIfInBounds_toArray, List.set_cons_zero, List.set_cons_succ])
  refine lTake (i := 7) (v := ?_) rfl (by kernel_rfl) (by kernel_rfl) (by kernel_rfl) (fun _ _ _ h => h) (by rfl) (fun _ _ h => by simpa only [getD_set_ne false (show 7 ≠ 17 by decide)] using h) (fun _ _ h => by simpa only [getD_set_ne false (show 7 ≠ 17 by decide)] using h) ?_ (by assumption) (fun hHeld2 => ?_)
  rotate_left 1
  · (intro _ _ _ _ _; first | (go_simp; done) | (go_simp; with_reducible rfl))
  clear hHeld; have hHeld := hHeld2; clear hHeld2
  (try simp only [Act.put, List.setIfInBounds_toArray, List.set_cons_zero, List.set_cons_succ])
  refine lTake (i := 8) (v := ?_) rfl (by kernel_rfl) (by kernel_rfl) (by kernel_rfl) (fun _ _ _ h => h) (by rfl) (fun _ _ h => by simpa only [getD_set_ne false (show 8 ≠ 17 by decide)] using h) (fun _ _ h => by simpa only [getD_set_ne false (show 8 ≠ 17 by decide)] using h) ?_ (by assumption) (fun hHeld2 => ?_)
  rotate_left 1
  · (intro L W hL hK hSw; (try dsimp only at hSw); obtain ⟨h0, h1⟩ := hSw; replace h1 := still [16, 15, 14, 9] hK hL (by kernel_rfl) h1; clear hL hK; first | (go_simp; done) | (go_simp; with_reducible rfl))
  clear hHeld; have hHeld := hHeld2; clear hHeld2
  (try simp only [Act.put, List.setIfInBounds_toArray, List.set_cons_zero, List.set_cons_succ])
  refine lTake (i := 9) (v := ?_) rfl (by kernel_rfl) (by kernel_rfl) (by kernel_rfl) (fun _ _ _ h => h) (by rfl) (fun _ _ h => by simpa only [getD_set_ne false (show 9 ≠ 17 by decide)] using h) (fun _ _ h => by simpa only [getD_set_ne false (show 9 ≠ 17 by decide)] using h) ?_ (by assumption) (fun hHeld2 => ?_)
  rotate_left 1
  · (intro _ _ _ _ _; first | (go_simp; done) | (go_simp; with_reducible rfl))
  clear hHeld; have hHeld := hHeld2; clear hHeld2
  (try simp only [Act.put, List.setIfInBounds_toArray, List.set_cons_zero, List.set_cons_succ])
  refine lTake (i := 10) (v := ?_) rfl (by kernel_rfl) (by kernel_rfl) (by kernel_rfl) (fun _ _ _ h => h) (by rfl) (fun _ _ h => by simpa only [getD_set_ne false (show 10 ≠ 17 by decide)] using h) (fun _ _ h => by simpa only [getD_set_ne false (show 10 ≠ 17 by decide)] using h) ?_ (by assumption) (fun hHeld2 => ?_)
  rotate_left 1
  · (intro _ _ _ _ _; first | (go_simp; done) | (go_simp; with_reducible rfl))
  clear hHeld; have hHeld := hHeld2; clear hHeld2
  (try simp only [Act.put, List.setIfInBounds_toArray, List.set_cons_zero, List.set_cons_succ])
  refine lTake (i := 11) (v := ?_) rfl (by kernel_rfl) (by kernel_rfl) (by kernel_rfl) (fun _ _ _ h => h) (by rfl) (fun _ _ h => by simpa only [getD_set_ne false (show 11 ≠ 17 by decide)] using h) (fun _ _ h => by simpa only [getD_set_ne false (show 11 ≠ 17 by decide)] using h) ?_ (by assumption) (fun hHeld2 => ?_)
  rotate_left 1
  · (intro _ _ _ _ _; first | (go_simp; done) | (go_simp; with_reducible rfl))
  clear hHeld; have hHeld := hHeld2; clear hHeld2
  (try simp only [Act.put, List.setIfInBounds_toArray, List.set_cons_zero, List.set_cons_succ])
  refine lTake (i := 12) (v := ?_) rfl (by kernel_rfl) (by kernel_rfl) (by kernel_rfl) (fun _ _ _ h => h) (by rfl) (fun _ _ h => by simpa only [getD_set_ne false (show 12 ≠ 17 by decide)] using h) (fun _ _ h => by simpa only [getD_set_ne false (show 12 ≠ 17 by decide)] using h) ?_ (by assumption) (fun hHeld2 => ?_)
  rotate_left 1
  · (intro L W hL hK hSw; (try dsimp only at hSw); obtain ⟨h0, h1⟩ := hSw; replace h1 := still [16, 15, 14, 13] hK hL (by kernel_rfl) h1; clear hL hK; first | (go_simp; done) | (go_simp; with_reducible rfl))
  clear hHeld; have hHeld := hHeld2; clear hHeld2
  (try simp only [Act.put, List.setIfInBounds_toArray, List.set_cons_zero, List.set_cons_succ])
  refine lTake (i := 13) (v := ?_) rfl (by kernel_rfl) (by kernel_rfl) (by kernel_rfl) (fun _ _ _ h => h) (by rfl) (fun _ _ h => by simpa only [getD_set_ne false (show 13 ≠ 17 by decide)] using h) (fun _ _ h => by simpa only [getD_set_ne false (show 13 ≠ 17 by decide)] using h) ?_ (by assumption) (fun hHeld2 => ?_)
  rotate_left 1
  · (intro _ _ _ _ _; first | (go_simp; done) | (go_simp; with_reducible rfl))
  clear hHeld; have hHeld := hHeld2; clear hHeld2
  (try simp only [Act.put, List.setIfInBounds_toArray, List.set_cons_zero, List.set_cons_succ])
  refine lTake (i := 14) (v := ?_) rfl (by kernel_rfl) (by kernel_rfl) (by kernel_rfl) (fun _ _ _ h => h) (by rfl) (fun _ _ h => by simpa only [getD_set_ne false (show 14 ≠ 17 by decide)] using h) (fun _ _ h => by simpa only [getD_set_ne false (show 14 ≠ 17 by decide)] using h) ?_ (by assumption) (fun hHeld2 => ?_)
  rotate_left 1
  · (intro _ _ _ _ _; first | (go_simp; done) | (go_simp; with_reducible rfl))
  clear hHeld; have hHeld := hHeld2; clear hHeld2
  (try simp only [Act.put, List.setIfInBounds_toArray, List.set_cons_zero, List.set_cons_succ])
  refine lTake (i := 15) (v := ?_) rfl (by kernel_rfl) (by kernel_rfl) (by kernel_rfl) (fun _ _ _ h => h) (by rfl) (fun _ _ h => by simpa only [getD_set_ne false (show 15 ≠ 17 by decide)] using h) (fun _ _ h => by simpa only [getD_set_ne false (show 15 ≠ 17 by decide)] using h) ?_ (by assumption) (fun hHeld2 => ?_)
  rotate_left 1
  · (intro _ _ _ _ _; first | (go_simp; done) | (go_simp; with_reducible rfl))
  clear hHeld; have hHeld := hHeld2; clear hHeld2
  (try simp only [Act.put, List.setIfInBounds_toArray, List.set_cons_zero, List.set_cons_succ])
  refine lTake (i := 16) (v := ?_) rfl (by kernel_rfl) (by kernel_rfl) (by kernel_rfl) (fun _ _ _ h => h) (by rfl) (fun _ _ h => by simpa only [getD_set_ne false (show 16 ≠ 17 by decide)] using h) (fun _ _ h => by simpa only [getD_set_ne false (show 16 ≠ 17 by decide)] using h) ?_ (by assumption) (fun hHeld2 => ?_)
  rotate_left 1
  · (intro L W hL hK hSw; (try dsimp only at hSw); obtain ⟨h0, h1⟩ := hSw; replace h1 := still [] hK hL (by kernel_rfl) h1; clear hL hK; first | (go_simp; done) | (go_simp; with_reducible rfl))
  clear hHeld; have hHeld := hHeld2; clear hHeld2
  (try simp only [Act.put, List.setIfInBounds_toArray, List.set_cons_zero, List.set_cons_succ])
  refine lReady (rs := [17]) (by kernel_rfl) (by simp) ?_
  refine AllL.cons (i := 17) rfl (fun K hK => ?_) ?_
  · go_simp; (refine (P22.out _ ((Below.refl _ _).drew)).mono ?_; rintro e w8 ⟨rfl, hp8, ht8⟩; have HUT := Lib.hid (HUd.out.post hm4 hp8 ht8); clear hp8 ht8)
    (try go_wp2_with fail)
    refine hK.out _ _ ?_ (fun hHeld2 => ?_)
    · (try dsimp only); refine ⟨?_, Or.inl (by rfl)⟩
      · (trivial)
    clear hK K
    clear hHeld; have hHeld := hHeld2; clear hHeld2
    (try simp only [Act.put, List.setIfInBounds_toArray, List.set_cons_zero, List.set_cons_succ])
    refine lDone (by kernel_rfl) ?_ _
    clear hHeld
    go_wp2
    go_meet
    case rel => exact ⟨now, rfl, by omega, StU.mk HUT.out (HSI2.out.up (by omega))⟩
  exact AllL.nil
end Go.Proofs.Ytafajclbghofkaa
