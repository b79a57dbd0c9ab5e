/- The law of arrivals: a packet arrives. -/
import Derived.Test.YtafajclbghofkaaE6
namespace Go.Proofs.Ytafajclbghofkaa
open Go.RowKit
set_option linter.unusedVariables false

set_option maxRecDepth 1000000 in
set_option maxHeartbeats 80000000 in
theorem ArC5 (w wr : World) (ad : Addr) (hs : List Hp) (cap k m : Nat) (h : Hp) (A0 : Nat → Option Addr) (c0 : Nat → Nat) (s : Nat → Int) (ln : Nat → Ln) (AF : Option Addr) (cF : Nat) (F : List (Nat × Pk)) (c17 u2 u9 u10 u11 u12 u13 u14 u15 u16 u31 u32 u40 u41 u42 u43 u44 u45 u46 u47 u48 u49 u50 u51 u52 u53 u54 u55 u56 u57 u58 u59 u60 u61 u62 u63 u64 u65 u66 u67 u68 u69 u70 u71 u72 u73 u74 u75 u76 u77 u78 u79 u80 u81 u82 u83 u84 u85 u86 u87 u88 u89 u90 u91 u92 u93 u94 u95 u96 u97 u98 u99 u100 u101 u102 u103 u104 u105 u106 u107 u108 u109 u110 u111 u112 u113 u114 u115 u116 u117 u118 u119 u120 u121 u122 u123 u124 u125 u126 u127 u128 u129 u130 u131 u132 u133 u134 u135 u136 u137 u138 u139 u140 u141 u142 u143 u144 u145 u146 u147 u148 u149 u150 u151 u152 u153 u154 u155 u156 u157 u158 u159 u160 u161 u162 u163 u164 u165 u166 u167 u168 u169 u170 u171 u172 u173 u174 u175 u176 u177 u178 u179 u180 u181 u182 u183 u184 u185 u186 u187 u188 u189 : Value) (J K K1 L1 L2 : Act → World → Prop) (n0 : Nat) (hn : hs.length ≤ 9223372036854775807) (hlt : k < hs.length) (HC : Hid (HopAt w (ad.add (k * 2)) h)) (HD : Hid (0 ≤ h.d ∧ h.d ≤ 255)) (HA0 : Hid (0 ≤ h.a ∧ h.a ≤ 255)) (B0 : (0 : Int) ≤ (k : Int)) (B1 : (k : Int) < (hs.length : Int)) (HS : Hid (ArS w (w.heap.size + 2) (w.heap.size + 3) (w.heap.size + 4) (fun e => w.heap.size + e) A0 c0 s (fun e => (ln e).tk) ln AF cF F wr)) (HI : Hid (Ar.Inv k s ln F)) (H100 : Hid (F.length ≤ 100)) (c1 : wr.cell? (ad.add (k * 2)) = some (.int .u8 h.d)) (c2 : wr.cell? ⟨(ad.add (k * 2)).block, (ad.add (k * 2)).off + 1, none⟩ = some (.int .u8 h.a)) (h200 : k < 200) (hm : m = 4 ∨ m = 6) (hJ : ∀ a' w', Arm w ad hs.length cap k m c17 a' w' → J a' w') (hK : ∀ a' w', Met J a' w' → K a' w') (hK1 : ∀ (u2 u9 u10 u11 u12 u13 u14 u15 u16 u23 u24 u25 u26 u27 u28 u29 u30 u31 u32 u33 u34 u35 u36 u37 u38 u39 u40 u41 u42 u43 u44 u45 u46 u47 u48 u49 u50 u51 u52 u53 u54 u55 u56 u57 u58 u59 u60 u61 u62 u63 u64 u65 u66 u67 u68 u69 u70 u71 u72 u73 u74 u75 u76 u77 u78 u79 u80 u81 u82 u83 u84 u85 u86 u87 u88 u89 u90 u91 u92 u93 u94 u95 u96 u97 u98 u99 u100 u101 u102 u103 u104 u105 u106 u107 u108 u109 u110 u111 u112 u113 u114 u115 u116 u117 u118 u119 u120 u121 u122 u123 u124 u125 u126 u127 u128 u129 u130 u131 u132 u133 u134 u135 u136 u137 u138 u139 u140 u141 u142 u143 u144 u145 u146 u147 u148 u149 u150 u151 u152 u153 u154 u155 u156 u157 u158 u159 u160 u161 u162 u163 u164 u165 u166 u167 u168 u169 u170 u171 u172 u173 u174 u175 u176 u177 u178 u179 u180 u181 u182 u183 u184 u185 u186 u187 u188 u189 u4 : Value) (w' : World), ArRel w (k + 1) u4 w' → K1 ⟨#[(.slice (some ad) hs.length cap : Value), undef, u2, .slice (some ⟨w.heap.size + 1 + 1, 0, none⟩) 2 2, u4, .slice (some ⟨w.heap.size + 1 + 1 + 1, 0, none⟩) 2 2, .slice (some ⟨w.heap.size + 1 + 1 + 1 + 1, 0, none⟩) 2 2, .int .i64 k, .int .i64 m, u9, u10, u11, u12, u13, u14, u15, u16, c17, .pointer (some ⟨w.heap.size, 0, none⟩), .pointer (some ⟨w.heap.size + 1, 0, none⟩), .slice (some ⟨w.heap.size + 1 + 1, 0, none⟩) 2 2, .slice (some ⟨w.heap.size + 1 + 1 + 1, 0, none⟩) 2 2, .slice (some ⟨w.heap.size + 1 + 1 + 1 + 1, 0, none⟩) 2 2, u23, u24, u25, u26, u27, u28, u29, u30, u31, u32, u33, u34, u35, u36, u37, u38, u39, u40, u41, u42, u43, u44, u45, u46, u47, u48, u49, u50, u51, u52, u53, u54, u55, u56, u57, u58, u59, u60, u61, u62, u63, u64, u65, u66, u67, u68, u69, u70, u71, u72, u73, u74, u75, u76, u77, u78, u79, u80, u81, u82, u83, u84, u85, u86, u87, u88, u89, u90, u91, u92, u93, u94, u95, u96, u97, u98, u99, u100, u101, u102, u103, u104, u105, u106, u107, u108, u109, u110, u111, u112, u113, u114, u115, u116, u117, u118, u119, u120, u121, u122, u123, u124, u125, u126, u127, u128, u129, u130, u131, u132, u133, u134, u135, u136, u137, u138, u139, u140, u141, u142, u143, u144, u145, u146, u147, u148, u149, u150, u151, u152, u153, u154, u155, u156, u157, u158, u159, u160, u161, u162, u163, u164, u165, u166, u167, u168, u169, u170, u171, u172, u173, u174, u175, u176, u177, u178, u179, u180, u181, u182, u183, u184, u185, u186, u187, u188, u189, undef], []⟩ w') :
    Code.wp Try.prog (Code.block 2 body6) (Exit.then K (Exit.inBlock 1 (Exit.then K1 (Exit.then L1 (Exit.inBlock n0 (Exit.then L2 (bodyPost Try.prog Try.f6 fun e w' => e = .returned (.bool true) ∧ Below w.heap.size w w'))))))) ⟨#[(.slice (some ad) hs.length cap : Value), undef, u2, .slice (some ⟨w.heap.size + 1 + 1, 0, none⟩) 2 2, .slice AF F.length cF, .slice (some ⟨w.heap.size + 1 + 1 + 1, 0, none⟩) 2 2, .slice (some ⟨w.heap.size + 1 + 1 + 1 + 1, 0, none⟩) 2 2, .int .i64 k, .int .i64 m, u9, u10, u11, u12, u13, u14, u15, u16, c17, .pointer (some ⟨w.heap.size, 0, none⟩), .pointer (some ⟨w.heap.size + 1, 0, none⟩), .slice (some ⟨w.heap.size + 1 + 1, 0, none⟩) 2 2, .slice (some ⟨w.heap.size + 1 + 1 + 1, 0, none⟩) 2 2, .slice (some ⟨w.heap.size + 1 + 1 + 1 + 1, 0, none⟩) 2 2, .int .i64 k, .slice (some ad) hs.length cap, .int .i64 hs.length, .bool true, .bool true, .int .i64 k, .bool (decide ((k : Int) < 200)), .bool (decide ((k : Int) < 200)), u31, u32, .slice (some ad) hs.length cap, .int .i64 k, .pointer (some (ad.add (k * 2))), .pointer (some (ad.add (k * 2))), .int .u8 h.d, .int .u8 m, .int .i64 m, u40, u41, u42, u43, u44, u45, u46, u47, u48, u49, u50, u51, u52, u53, u54, u55, u56, u57, u58, u59, u60, u61, u62, u63, u64, u65, u66, u67, u68, u69, u70, u71, u72, u73, u74, u75, u76, u77, u78, u79, u80, u81, u82, u83, u84, u85, u86, u87, u88, u89, u90, u91, u92, u93, u94, u95, u96, u97, u98, u99, u100, u101, u102, u103, u104, u105, u106, u107, u108, u109, u110, u111, u112, u113, u114, u115, u116, u117, u118, u119, u120, u121, u122, u123, u124, u125, u126, u127, u128, u129, u130, u131, u132, u133, u134, u135, u136, u137, u138, u139, u140, u141, u142, u143, u144, u145, u146, u147, u148, u149, u150, u151, u152, u153, u154, u155, u156, u157, u158, u159, u160, u161, u162, u163, u164, u165, u166, u167, u168, u169, u170, u171, u172, u173, u174, u175, u176, u177, u178, u179, u180, u181, u182, u183, u184, u185, u186, u187, u188, u189, undef], []⟩ wr := by
  conv => arg 2; arg 2; whnf
  obtain ⟨i0, hi, hz0, hz1, hz2⟩ := info_parts info66
  unfold Arm at hJ
  have h46 := hm
  have m2 : decide ((m : Int) < 2) = false := decide_eq_false (by omega)
  have m4 : decide ((m : Int) < 4) = false := decide_eq_false (by omega)
  by_cases hF : F = []
  · subst hF
    go_wp2_with fail
    go_meet
    case rel => exact rel_mk HS.out rfl (inv_next HI.out) H100.out
  · have hF0 : 0 < F.length := List.length_pos_iff.2 hF
    obtain ⟨n0, hn0⟩ : ∃ n0, n0 = F.length := ⟨_, rfl⟩
    rw [← hn0] at hF0
    have hn100 : n0 ≤ 100 := by have := H100.out; omega
    obtain ⟨p0, hp0, hpl⟩ : ∃ p0 : Nat, h.a.tmod (n0 : Int) = (p0 : Int) ∧ p0 < n0 := by
      have h1 := Int.emod_nonneg h.a (show (n0 : Int) ≠ 0 by omega)
      have h2 := Int.emod_lt_of_pos h.a (show (0 : Int) < (n0 : Int) by omega)
      have h3 : h.a.tmod (n0 : Int) = h.a % (n0 : Int) := Int.tmod_eq_emod_of_nonneg HA0.out.1
      exact ⟨(h.a % (n0 : Int)).toNat, by omega, by omega⟩
    obtain ⟨r, x, rfl, hx, hcl, hcm, hrl, hcx⟩ := flight_at HS.out (p := p0) (by omega)
    unfold maxLen at hcm
    rw [← hn0] at hcl ⊢
    have HN0 := Lib.hid hn0
    have HX := Lib.hid hx
    have HF := Lib.hid hF
    obtain ⟨f, p⟩ := x
    have v0 : wr.cell? ⟨r, p0 * 9, none⟩ = some (.int .i64 (f : Int)) := hcx 0 _ rfl
    have v1 := hcx 1 _ rfl
    have v2 := hcx 2 _ rfl
    have v3 := hcx 3 _ rfl
    have v4 := hcx 4 _ rfl
    have v5 := hcx 5 _ rfl
    have v6 := hcx 6 _ rfl
    have v7 := hcx 7 _ rfl
    have v8 := hcx 8 _ rfl
    have hnz : (n0 : Int) ≠ 0 := by omega
    obtain ⟨a0, a1⟩ := HA0.out
    have P0 : (0 : Int) ≤ (p0 : Int) := by omega
    have P1 : (p0 : Int) < (n0 : Int) := by omega
    clear hn0 hx hF hcx
    go_upto_if 116 with fail
    go_cut [4] from 23 to 189 (fun s4 wx => ∃ (AF' : Option Addr) (cF' : Nat) (F' : List (Nat × Pk)), s4 = .slice AF' F'.length cF' ∧ Hid (ArS w (w.heap.size + 2) (w.heap.size + 3) (w.heap.size + 4) (fun e => w.heap.size + e) A0 c0 s (fun e => (ln e).tk) ln AF' cF' F' wx) ∧ Hid (Blk wx wr.heap.size 66 (sentV (f, p))) ∧ Hid (Ar.Inv k s ln F') ∧ F'.length ≤ 100)
    case first =>
      rcases h46 with rfl | rfl
      · go_upto_region 23 with fail
        have HE1 := Lib.hid (show Blk _ (wr.heap.size + 1) 66 [] from by have := Blk.new' (wr.alloc (.cells #[.int .i64 (f : Int), .bool p.has, .int .i64 p.nu, .int .i64 p.nt.k, .int .i64 p.nt.s, .int .i64 p.nt.a, .int .i64 p.nt.b, .int .i64 p.nt.c, .int .i64 p.ak] 66)) #[] 66; simp at this; exact this)
        have HB1 := Lib.hid (show Blk _ wr.heap.size 66 (sentV (f, p)) from (Blk.new' wr #[.int .i64 (f : Int), .bool p.has, .int .i64 p.nu, .int .i64 p.nt.k, .int .i64 p.nt.s, .int .i64 p.nt.a, .int .i64 p.nt.b, .int .i64 p.nt.c, .int .i64 p.ak] 66).alloc (.cells #[] 66))
        have q1 : IntKind.i64.wrap ((p0 : Int) + 1) = (p0 : Int) + 1 := IntWalk.i64_in _ (by omega)
        have q2 : ((p0 : Int) + 1).toNat = p0 + 1 := by omega
        have q3 : (0 : Int) ≤ (p0 : Int) + 1 := by omega
        have q4 : (p0 : Int) + 1 ≤ (n0 : Int) := by omega
        have q5 : (n0 : Int) ≤ (cF : Int) := by omega
        have q6 : (p0 : Int) ≤ (cF : Int) := by omega
        rcases Nat.lt_or_ge (p0 + 1) cF with hpc | hpc
        · have HSr := Lib.hid (show ∀ W, Touch (fun _ => False) wr W → SrcRow W (some ⟨r, (p0 + 1) * 9, none⟩) (n0 - (p0 + 1)) (flatS (F.drop (p0 + 1))) from fun W ht => by rw [HN0.out]; exact (flight_src HS.out ht).2 (p0 + 1))
          refine lBegin (S := fun _ W => (True)) (by kernel_rfl) ?_ (fun hHeld => ?_)
          · trivial
          refine lTake (i := 1) (v := ?_) rfl (by kernel_rfl) (by kernel_rfl) (by kernel_rfl) (fun _ _ _ h => h) (by rfl) (fun _ _ h => h) (fun _ _ h => h) ?_ (by assumption) (fun hHeld2 => ?_)
          rotate_left 1
          · (intro _ _ _ _ _; first | (go_simp; done) | (go_simp; with_reducible rfl))
          clear hHeld; have hHeld := hHeld2; clear hHeld2
          (try simp only [Act.put, List.setIfInBounds_toArray, List.set_cons_zero, List.set_cons_succ])
          refine lTake (i := 2) (v := ?_) rfl (by kernel_rfl) (by kernel_rfl) (by kernel_rfl) (fun _ _ _ h => h) (by rfl) (fun _ _ h => h) (fun _ _ h => h) ?_ (by assumption) (fun hHeld2 => ?_)
          rotate_left 1
          · (intro _ _ _ _ _; first | (go_simp; done) | (go_simp; with_reducible rfl))
          clear hHeld; have hHeld := hHeld2; clear hHeld2
          (try simp only [Act.put, List.setIfInBounds_toArray, List.set_cons_zero, List.set_cons_succ])
          refine lTake (i := 3) (v := ?_) rfl (by kernel_rfl) (by kernel_rfl) (by kernel_rfl) (fun _ _ _ h => h) (by rfl) (fun _ _ h => h) (fun _ _ h => h) ?_ (by assumption) (fun hHeld2 => ?_)
          rotate_left 1
          · (intro _ _ _ _ _; first | (go_simp; done) | (go_simp; with_reducible rfl))
          clear hHeld; have hHeld := hHeld2; clear hHeld2
          (try simp only [Act.put, List.setIfInBounds_toArray, List.set_cons_zero, List.set_cons_succ])
          refine lTake (i := 5) (v := ?_) rfl (by kernel_rfl) (by kernel_rfl) (by kernel_rfl) (fun _ _ _ h => h) (by rfl) (fun _ _ h => h) (fun _ _ h => h) ?_ (by assumption) (fun hHeld2 => ?_)
          rotate_left 1
          · (intro _ _ _ _ _; first | (go_simp; done) | (go_simp; with_reducible rfl))
          clear hHeld; have hHeld := hHeld2; clear hHeld2
          (try simp only [Act.put, List.setIfInBounds_toArray, List.set_cons_zero, List.set_cons_succ])
          refine lTake (i := 6) (v := ?_) rfl (by kernel_rfl) (by kernel_rfl) (by kernel_rfl) (fun _ _ _ h => h) (by rfl) (fun _ _ h => h) (fun _ _ h => h) ?_ (by assumption) (fun hHeld2 => ?_)
          rotate_left 1
          · (intro _ _ _ _ _; first | (go_simp; done) | (go_simp; with_reducible rfl))
          clear hHeld; have hHeld := hHeld2; clear hHeld2
          (try simp only [Act.put, List.setIfInBounds_toArray, List.set_cons_zero, List.set_cons_succ])
          refine lTake (i := 7) (v := ?_) rfl (by kernel_rfl) (by kernel_rfl) (by kernel_rfl) (fun _ _ _ h => h) (by rfl) (fun _ _ h => h) (fun _ _ h => h) ?_ (by assumption) (fun hHeld2 => ?_)
          rotate_left 1
          · (intro _ _ _ _ _; first | (go_simp; done) | (go_simp; with_reducible rfl))
          clear hHeld; have hHeld := hHeld2; clear hHeld2
          (try simp only [Act.put, List.setIfInBounds_toArray, List.set_cons_zero, List.set_cons_succ])
          refine lTake (i := 8) (v := ?_) rfl (by kernel_rfl) (by kernel_rfl) (by kernel_rfl) (fun _ _ _ h => h) (by rfl) (fun _ _ h => h) (fun _ _ h => h) ?_ (by assumption) (fun hHeld2 => ?_)
          rotate_left 1
          · (intro _ _ _ _ _; first | (go_simp; done) | (go_simp; with_reducible rfl))
          clear hHeld; have hHeld := hHeld2; clear hHeld2
          (try simp only [Act.put, List.setIfInBounds_toArray, List.set_cons_zero, List.set_cons_succ])
          refine lReady (rs := [0]) (by kernel_rfl) (by simp) ?_
          refine AllL.cons (i := 0) rfl (fun K hK => ?_) ?_
          · go_simp
            (try go_wp2_with fail)
            refine hK.out _ _ ?_ (fun hHeld2 => ?_)
            · trivial
            clear hK K
            clear hHeld; have hHeld := hHeld2; clear hHeld2
            (try simp only [Act.put, List.setIfInBounds_toArray, List.set_cons_zero, List.set_cons_succ])
            refine lReady (rs := [4]) (by kernel_rfl) (by simp) ?_
            refine AllL.cons (i := 4) rfl (fun K hK => ?_) ?_
            · refine step_append_any (.tmp 117) (.tmp 120) 54 rfl rfl w.heap.size 66 i0 (.agg #[.int .i64 0, .bool false, .int .i64 0, .int .i64 0, .int .i64 0, .int .i64 0, .int .i64 0, .int .i64 0, .int .i64 0]) 9 72 Try.underlying54 hi hz0 hz1 hz2 rfl (by decide) (some ⟨wr.heap.size + 1, 0, none⟩) 0 0 [] (by rfl) (own_emptyS HE1.out.drew (by have := HS.out.b.size; omega)) (some ⟨r, 0, none⟩) p0 _ (flatS (F.take p0)) (by rfl) (by rw [flatS_length, List.length_take]; have := HN0.out; omega) ((flight_src HS.out (((Touch.refl _ _).alloc _).alloc _).drew).1 p0) (flatS_one' _) (by unfold maxLen; omega) (by omega) (by have := HS.out.b.size; simp; omega) ?_; intro A1 cap1 w1 hown hgrow hat; have HC1 := Lib.hid (cut_one (((Touch.refl _ _).alloc _).alloc _).drew HB1.out.drew (by omega) hgrow hat); have HO1 := Lib.hid hown; clear hown hgrow hat; try simp only [Nat.zero_add]
              (try go_wp2_with fail)
              refine hK.out _ _ ?_ (fun hHeld2 => ?_)
              · trivial
              clear hK K
              clear hHeld; have hHeld := hHeld2; clear hHeld2
              (try simp only [Act.put, List.setIfInBounds_toArray, List.set_cons_zero, List.set_cons_succ])
              refine lReady (rs := [9]) (by kernel_rfl) (by simp) ?_
              refine AllL.cons (i := 9) rfl (fun K hK => ?_) ?_
              · refine step_append_any (.tmp 121) (.tmp 125) 54 rfl rfl w.heap.size 66 i0 (.agg #[.int .i64 0, .bool false, .int .i64 0, .int .i64 0, .int .i64 0, .int .i64 0, .int .i64 0, .int .i64 0, .int .i64 0]) 9 72 Try.underlying54 hi hz0 hz1 hz2 rfl (by decide) A1 p0 cap1 (flatS (F.take p0)) (by rfl) (by have := HO1.out; simpa using this) (some ⟨r, (p0 + 1) * 9, none⟩) (n0 - (p0 + 1)) _ (flatS (F.drop (p0 + 1))) (by rfl) (by rw [flatS_length, List.length_drop, HN0.out]) (HSr.out _ HC1.out.1.1) (flatS_one' _) (by unfold maxLen; omega) (by omega) (by have := HC1.out.1.1.size; have := HS.out.b.size; omega) ?_; intro A2 cap2 w2 hown hgrow hat; have HC2 := Lib.hid (cut_two HC1.out hgrow); have HF2 := Lib.hid (flight_cut HS.out HC2.out.1 hown HN0.out hpl); clear hown hgrow hat
                (try go_wp2_with fail)
                refine hK.out _ _ ?_ (fun hHeld2 => ?_)
                · trivial
                clear hK K
                clear hHeld; have hHeld := hHeld2; clear hHeld2
                (try simp only [Act.put, List.setIfInBounds_toArray, List.set_cons_zero, List.set_cons_succ])
                refine lTake (i := 10) (v := ?_) rfl (by kernel_rfl) (by kernel_rfl) (by kernel_rfl) (fun _ _ _ h => h) (by rfl) (fun _ _ h => h) (fun _ _ h => h) ?_ (by assumption) (fun hHeld2 => ?_)
                rotate_left 1
                · (intro _ _ _ _ _; first | (go_simp; done) | (go_simp; with_reducible rfl))
                clear hHeld; have hHeld := hHeld2; clear hHeld2
                (try simp only [Act.put, List.setIfInBounds_toArray, List.set_cons_zero, List.set_cons_succ])
                refine lDone (by kernel_rfl) ?_ _
                clear hHeld
                clear q1 q2 q3 q4 q5 q6
                go_wp2_with fail
                go_meet
                case rel =>
                  have h2 := HF2.out
                  rw [← h2.2]
                  exact ⟨_, _, _, rfl, Lib.hid h2.1, Lib.hid HC2.out.2, Lib.hid (HI.out.sub (fun x hx => cut_mem hx)), by rw [h2.2]; omega⟩
              exact AllL.nil
            exact AllL.nil
          exact AllL.nil
        · have HSr := Lib.hid (show ∀ W, Touch (fun _ => False) wr W → SrcRow W (some ⟨r, 0, none⟩) (n0 - (p0 + 1)) (flatS (F.drop (p0 + 1))) from fun W ht => by
            rw [List.drop_eq_nil_of_le (by have := HN0.out; omega)]
            exact .inr ⟨_, rfl, fun j u hu => by simp [flatS] at hu⟩)
          refine lBegin (S := fun _ W => (True)) (by kernel_rfl) ?_ (fun hHeld => ?_)
          · trivial
          refine lTake (i := 1) (v := ?_) rfl (by kernel_rfl) (by kernel_rfl) (by kernel_rfl) (fun _ _ _ h => h) (by rfl) (fun _ _ h => h) (fun _ _ h => h) ?_ (by assumption) (fun hHeld2 => ?_)
          rotate_left 1
          · (intro _ _ _ _ _; first | (go_simp; done) | (go_simp; with_reducible rfl))
          clear hHeld; have hHeld := hHeld2; clear hHeld2
          (try simp only [Act.put, List.setIfInBounds_toArray, List.set_cons_zero, List.set_cons_succ])
          refine lTake (i := 2) (v := ?_) rfl (by kernel_rfl) (by kernel_rfl) (by kernel_rfl) (fun _ _ _ h => h) (by rfl) (fun _ _ h => h) (fun _ _ h => h) ?_ (by assumption) (fun hHeld2 => ?_)
          rotate_left 1
          · (intro _ _ _ _ _; first | (go_simp; done) | (go_simp; with_reducible rfl))
          clear hHeld; have hHeld := hHeld2; clear hHeld2
          (try simp only [Act.put, List.setIfInBounds_toArray, List.set_cons_zero, List.set_cons_succ])
          refine lTake (i := 3) (v := ?_) rfl (by kernel_rfl) (by kernel_rfl) (by kernel_rfl) (fun _ _ _ h => h) (by rfl) (fun _ _ h => h) (fun _ _ h => h) ?_ (by assumption) (fun hHeld2 => ?_)
          rotate_left 1
          · (intro _ _ _ _ _; first | (go_simp; done) | (go_simp; with_reducible rfl))
          clear hHeld; have hHeld := hHeld2; clear hHeld2
          (try simp only [Act.put, List.setIfInBounds_toArray, List.set_cons_zero, List.set_cons_succ])
          refine lTake (i := 5) (v := ?_) rfl (by kernel_rfl) (by kernel_rfl) (by kernel_rfl) (fun _ _ _ h => h) (by rfl) (fun _ _ h => h) (fun _ _ h => h) ?_ (by assumption) (fun hHeld2 => ?_)
          rotate_left 1
          · (intro _ _ _ _ _; first | (go_simp; done) | (go_simp; with_reducible rfl))
          clear hHeld; have hHeld := hHeld2; clear hHeld2
          (try simp only [Act.put, List.setIfInBounds_toArray, List.set_cons_zero, List.set_cons_succ])
          refine lTake (i := 6) (v := ?_) rfl (by kernel_rfl) (by kernel_rfl) (by kernel_rfl) (fun _ _ _ h => h) (by rfl) (fun _ _ h => h) (fun _ _ h => h) ?_ (by assumption) (fun hHeld2 => ?_)
          rotate_left 1
          · (intro _ _ _ _ _; first | (go_simp; done) | (go_simp; with_reducible rfl))
          clear hHeld; have hHeld := hHeld2; clear hHeld2
          (try simp only [Act.put, List.setIfInBounds_toArray, List.set_cons_zero, List.set_cons_succ])
          refine lTake (i := 7) (v := ?_) rfl (by kernel_rfl) (by kernel_rfl) (by kernel_rfl) (fun _ _ _ h => h) (by rfl) (fun _ _ h => h) (fun _ _ h => h) ?_ (by assumption) (fun hHeld2 => ?_)
          rotate_left 1
          · (intro _ _ _ _ _; first | (go_simp; done) | (go_simp; with_reducible rfl))
          clear hHeld; have hHeld := hHeld2; clear hHeld2
          (try simp only [Act.put, List.setIfInBounds_toArray, List.set_cons_zero, List.set_cons_succ])
          refine lTake (i := 8) (v := ?_) rfl (by kernel_rfl) (by kernel_rfl) (by kernel_rfl) (fun _ _ _ h => h) (by rfl) (fun _ _ h => h) (fun _ _ h => h) ?_ (by assumption) (fun hHeld2 => ?_)
          rotate_left 1
          · (intro _ _ _ _ _; first | (go_simp; done) | (go_simp; with_reducible rfl))
          clear hHeld; have hHeld := hHeld2; clear hHeld2
          (try simp only [Act.put, List.setIfInBounds_toArray, List.set_cons_zero, List.set_cons_succ])
          refine lReady (rs := [0]) (by kernel_rfl) (by simp) ?_
          refine AllL.cons (i := 0) rfl (fun K hK => ?_) ?_
          · go_simp
            (try go_wp2_with fail)
            refine hK.out _ _ ?_ (fun hHeld2 => ?_)
            · trivial
            clear hK K
            clear hHeld; have hHeld := hHeld2; clear hHeld2
            (try simp only [Act.put, List.setIfInBounds_toArray, List.set_cons_zero, List.set_cons_succ])
            refine lReady (rs := [4]) (by kernel_rfl) (by simp) ?_
            refine AllL.cons (i := 4) rfl (fun K hK => ?_) ?_
            · refine step_append_any (.tmp 117) (.tmp 120) 54 rfl rfl w.heap.size 66 i0 (.agg #[.int .i64 0, .bool false, .int .i64 0, .int .i64 0, .int .i64 0, .int .i64 0, .int .i64 0, .int .i64 0, .int .i64 0]) 9 72 Try.underlying54 hi hz0 hz1 hz2 rfl (by decide) (some ⟨wr.heap.size + 1, 0, none⟩) 0 0 [] (by rfl) (own_emptyS HE1.out.drew (by have := HS.out.b.size; omega)) (some ⟨r, 0, none⟩) p0 _ (flatS (F.take p0)) (by rfl) (by rw [flatS_length, List.length_take]; have := HN0.out; omega) ((flight_src HS.out (((Touch.refl _ _).alloc _).alloc _).drew).1 p0) (flatS_one' _) (by unfold maxLen; omega) (by omega) (by have := HS.out.b.size; simp; omega) ?_; intro A1 cap1 w1 hown hgrow hat; have HC1 := Lib.hid (cut_one (((Touch.refl _ _).alloc _).alloc _).drew HB1.out.drew (by omega) hgrow hat); have HO1 := Lib.hid hown; clear hown hgrow hat; try simp only [Nat.zero_add]
              (try go_wp2_with fail)
              refine hK.out _ _ ?_ (fun hHeld2 => ?_)
              · trivial
              clear hK K
              clear hHeld; have hHeld := hHeld2; clear hHeld2
              (try simp only [Act.put, List.setIfInBounds_toArray, List.set_cons_zero, List.set_cons_succ])
              refine lReady (rs := [9]) (by kernel_rfl) (by simp) ?_
              refine AllL.cons (i := 9) rfl (fun K hK => ?_) ?_
              · refine step_append_any (.tmp 121) (.tmp 125) 54 rfl rfl w.heap.size 66 i0 (.agg #[.int .i64 0, .bool false, .int .i64 0, .int .i64 0, .int .i64 0, .int .i64 0, .int .i64 0, .int .i64 0, .int .i64 0]) 9 72 Try.underlying54 hi hz0 hz1 hz2 rfl (by decide) A1 p0 cap1 (flatS (F.take p0)) (by rfl) (by have := HO1.out; simpa using this) (some ⟨r, 0, none⟩) (n0 - (p0 + 1)) _ (flatS (F.drop (p0 + 1))) (by rfl) (by rw [flatS_length, List.length_drop, HN0.out]) (HSr.out _ HC1.out.1.1) (flatS_one' _) (by unfold maxLen; omega) (by omega) (by have := HC1.out.1.1.size; have := HS.out.b.size; omega) ?_; intro A2 cap2 w2 hown hgrow hat; have HC2 := Lib.hid (cut_two HC1.out hgrow); have HF2 := Lib.hid (flight_cut HS.out HC2.out.1 hown HN0.out hpl); clear hown hgrow hat
                (try go_wp2_with fail)
                refine hK.out _ _ ?_ (fun hHeld2 => ?_)
                · trivial
                clear hK K
                clear hHeld; have hHeld := hHeld2; clear hHeld2
                (try simp only [Act.put, List.setIfInBounds_toArray, List.set_cons_zero, List.set_cons_succ])
                refine lTake (i := 10) (v := ?_) rfl (by kernel_rfl) (by kernel_rfl) (by kernel_rfl) (fun _ _ _ h => h) (by rfl) (fun _ _ h => h) (fun _ _ h => h) ?_ (by assumption) (fun hHeld2 => ?_)
                rotate_left 1
                · (intro _ _ _ _ _; first | (go_simp; done) | (go_simp; with_reducible rfl))
                clear hHeld; have hHeld := hHeld2; clear hHeld2
                (try simp only [Act.put, List.setIfInBounds_toArray, List.set_cons_zero, List.set_cons_succ])
                refine lDone (by kernel_rfl) ?_ _
                clear hHeld
                clear q1 q2 q3 q4 q5 q6
                go_wp2_with fail
                go_meet
                case rel =>
                  have h2 := HF2.out
                  rw [← h2.2]
                  exact ⟨_, _, _, rfl, Lib.hid h2.1, Lib.hid HC2.out.2, Lib.hid (HI.out.sub (fun x hx => cut_mem hx)), by rw [h2.2]; omega⟩
              exact AllL.nil
            exact AllL.nil
          exact AllL.nil
      · go_wp2_with fail
        go_meet
        case rel =>
          rw [HN0.out]
          exact ⟨_, _, _, rfl, Lib.hid (HS.out.alloc _), Lib.hid (Blk.new' wr _ 66), HI, H100.out⟩
    case rest =>
      obtain ⟨AF', cF', F', rfl, HA, HSB, HIx, hlx⟩ := hcut
      obtain ⟨n1, hn1⟩ : ∃ n1, n1 = F'.length := ⟨_, rfl⟩
      rw [← hn1]
      have HNx := Lib.hid hn1
      have HLx := Lib.hid hlx
      have HPv := Lib.hid (HI.out.fl (f, p) (List.mem_of_getElem? HX.out))
      have hf2 := HPv.out.1
      simp only at hf2
      have m5 : ((m : Int) == 5) = false := by rcases h46 with rfl | rfl <;> rfl
      clear h46 hn1 hlx v0 v1 v2 v3 v4 v5 v6 v7 v8 c1 c2
      rcases (show f = 0 ∨ f = 1 by omega) with rfl | rfl
      · as_aux_lemma =>
          have ht2 : 1 < 2 := by omega
          have HRv := Lib.hid (HIx.out.recv (show 0 + 1 = 1 by omega) HPv.out)
          have HOk := Lib.hid ((HIx.out.mono (show (k : Int) ≤ 200 by omega)).ok (show 1 + 0 = 1 by omega))
          have HAk := Lib.hid (show p.ak ≤ 9223372036854775807 from by have h1 : p.ak ≤ (ln 0).tk := HPv.out.2.1; have h2 := ((HIx.out.mono (show (k : Int) ≤ 200 by omega)).ok (show 0 + 1 = 1 by omega)).2.1.2; omega)
          obtain ⟨qn, hqn⟩ : ∃ q, q = Lx.recvN (ln 1) p := ⟨_, rfl⟩
          obtain ⟨qb, hqb⟩ : ∃ q, q = Lx.recvB (ln 1) p := ⟨_, rfl⟩
          have HQ := Lib.hid hqn
          have HQb := Lib.hid hqb
          clear hqn hqb
          have HAT := Lib.hid (HA.out.drew.at_ 1 ht2)
          try simp only [Nat.add_zero] at HAT
          have u0 : wc.cell? ⟨wr.heap.size, 0, none⟩ = some (.int .i64 0) := HSB.out.cell 0 rfl
          go_wp2_with fail
          have z1 : IntKind.i64.wrap 1 = 1 := by decide
          have z0 : IntKind.i64.wrap 0 = 0 := by decide
          refine lBegin (S := fun L W => (True) ∧ (L.getD 11 false = true ∨ (W.cell? ⟨w.heap.size + 1 + 1, 1, none⟩ = some (.pointer (some ⟨w.heap.size + 1, 0, none⟩)) ∧ W.cell? ⟨wr.heap.size, 1, none⟩ = some (.bool p.has) ∧ W.cell? ⟨wr.heap.size, 2, none⟩ = some (.int .i64 p.nu) ∧ W.cell? ⟨wr.heap.size, 3, none⟩ = some (.int .i64 p.nt.k) ∧ W.cell? ⟨wr.heap.size, 4, none⟩ = some (.int .i64 p.nt.s) ∧ W.cell? ⟨wr.heap.size, 5, none⟩ = some (.int .i64 p.nt.a) ∧ W.cell? ⟨wr.heap.size, 6, none⟩ = some (.int .i64 p.nt.b) ∧ W.cell? ⟨wr.heap.size, 7, none⟩ = some (.int .i64 p.nt.c) ∧ W.cell? ⟨wr.heap.size, 8, none⟩ = some (.int .i64 p.ak)))) (by kernel_rfl) ?_ (fun hHeld => ?_)
          · (try dsimp only); refine ⟨?_, Or.inr ?_⟩
            · (first | trivial | with_reducible assumption)
            · (first | with_reducible assumption | exact ⟨HA.out.drew.ends.cell 1 rfl, boxS HSB.out.drew⟩ | exact ⟨(HA.out.alloc _).drew.ends.cell 1 rfl, boxS (HSB.out.alloc _).drew⟩ | exact ⟨HA1.out.ends.cell 1 rfl, boxS HSB1.out⟩ | exact ⟨(HA1.out.alloc _).ends.cell 1 rfl, boxS (HSB1.out.alloc _)⟩)
          refine lTake (i := 0) (v := ?_) rfl (by kernel_rfl) (by kernel_rfl) (by kernel_rfl) (fun _ _ _ h => h) (by rfl) (fun _ _ h => by simpa only [getD_set_ne false (show 0 ≠ 11 by decide)] using h) (fun _ _ h => by simpa only [getD_set_ne false (show 0 ≠ 11 by decide)] using h) ?_ (by assumption) (fun hHeld2 => ?_)
          rotate_left 1
          · (intro _ _ _ _ _; first | (go_simp; done) | (go_simp; with_reducible rfl))
          clear hHeld; have hHeld := hHeld2; clear hHeld2
          (try simp only [Act.put, List.setIfInBounds_toArray, List.set_cons_zero, List.set_cons_succ])
          refine lTake (i := 1) (v := ?_) rfl (by kernel_rfl) (by kernel_rfl) (by kernel_rfl) (fun _ _ _ h => h) (by rfl) (fun _ _ h => by simpa only [getD_set_ne false (show 1 ≠ 11 by decide)] using h) (fun _ _ h => by simpa only [getD_set_ne false (show 1 ≠ 11 by decide)] using h) ?_ (by assumption) (fun hHeld2 => ?_)
          rotate_left 1
          · (intro _ _ _ _ _; first | (go_simp; done) | (go_simp; with_reducible rfl))
          clear hHeld; have hHeld := hHeld2; clear hHeld2
          (try simp only [Act.put, List.setIfInBounds_toArray, List.set_cons_zero, List.set_cons_succ])
          refine lTake (i := 2) (v := ?_) rfl (by kernel_rfl) (by kernel_rfl) (by kernel_rfl) (fun _ _ _ h => h) (by rfl) (fun _ _ h => by simpa only [getD_set_ne false (show 2 ≠ 11 by decide)] using h) (fun _ _ h => by simpa only [getD_set_ne false (show 2 ≠ 11 by decide)] using h) ?_ (by assumption) (fun hHeld2 => ?_)
          rotate_left 1
          · (intro _ _ _ _ _; first | (go_simp; done) | (go_simp; with_reducible rfl))
          clear hHeld; have hHeld := hHeld2; clear hHeld2
          (try simp only [Act.put, List.setIfInBounds_toArray, List.set_cons_zero, List.set_cons_succ])
          refine lTake (i := 3) (v := ?_) rfl (by kernel_rfl) (by kernel_rfl) (by kernel_rfl) (fun _ _ _ h => h) (by rfl) (fun _ _ h => by simpa only [getD_set_ne false (show 3 ≠ 11 by decide)] using h) (fun _ _ h => by simpa only [getD_set_ne false (show 3 ≠ 11 by decide)] using h) ?_ (by assumption) (fun hHeld2 => ?_)
          rotate_left 1
          · (intro L W hL hK hSw; (try dsimp only at hSw); obtain ⟨h0, h1⟩ := hSw; replace h1 := still [] hK hL (by kernel_rfl) h1; clear hL hK; first | (go_simp; done) | (go_simp; with_reducible rfl))
          clear hHeld; have hHeld := hHeld2; clear hHeld2
          (try simp only [Act.put, List.setIfInBounds_toArray, List.set_cons_zero, List.set_cons_succ])
          refine lTake (i := 4) (v := ?_) rfl (by kernel_rfl) (by kernel_rfl) (by kernel_rfl) (fun _ _ _ h => h) (by rfl) (fun _ _ h => by simpa only [getD_set_ne false (show 4 ≠ 11 by decide)] using h) (fun _ _ h => by simpa only [getD_set_ne false (show 4 ≠ 11 by decide)] using h) ?_ (by assumption) (fun hHeld2 => ?_)
          rotate_left 1
          · (intro _ _ _ _ _; first | (go_simp; done) | (go_simp; with_reducible rfl))
          clear hHeld; have hHeld := hHeld2; clear hHeld2
          (try simp only [Act.put, List.setIfInBounds_toArray, List.set_cons_zero, List.set_cons_succ])
          refine lTake (i := 5) (v := ?_) rfl (by kernel_rfl) (by kernel_rfl) (by kernel_rfl) (fun _ _ _ h => h) (by rfl) (fun _ _ h => by simpa only [getD_set_ne false (show 5 ≠ 11 by decide)] using h) (fun _ _ h => by simpa only [getD_set_ne false (show 5 ≠ 11 by decide)] using h) ?_ (by assumption) (fun hHeld2 => ?_)
          rotate_left 1
          · (intro L W hL hK hSw; (try dsimp only at hSw); obtain ⟨h0, h1⟩ := hSw; replace h1 := still [] hK hL (by kernel_rfl) h1; clear hL hK; first | (go_simp; done) | (go_simp; with_reducible rfl))
          clear hHeld; have hHeld := hHeld2; clear hHeld2
          (try simp only [Act.put, List.setIfInBounds_toArray, List.set_cons_zero, List.set_cons_succ])
          refine lReady (rs := [6, 10]) (by kernel_rfl) (by simp) ?_
          refine AllL.cons (i := 6) rfl (fun K hK => ?_) ?_
          · go_simp; (first | ((with_reducible refine (Receive_c 200 _ _ _ _ _ p _ HAT.out HA.out.drew.b.size HOk.out (by omega) HAk.out).mono ?_); rintro e w1 ⟨he1, hto⟩; rw [← HQ.out, ← HQb.out] at he1; subst he1; obtain ⟨A1, cc1, hst1⟩ := HA.out.drew.line ht2 hto; have HA1 := Lib.hid hst1; have HSB1 := Lib.hid (HA.out.drew.line_blk ht2 hto HSB.out.drew (by decide) (by decide)); clear hto hst1) | (refine (Receive_c 200 _ _ _ _ _ p _ ((HA.out.alloc _).drew.at_ 1 ht2) (HA.out.alloc _).drew.b.size HOk.out (by omega) HAk.out).mono ?_; rintro e w1 ⟨he1, hto⟩; rw [← HQ.out, ← HQb.out] at he1; subst he1; have HSB1 := Lib.hid ((HA.out.alloc _).drew.line_blk ht2 hto (HSB.out.alloc _).drew (by decide) (by decide)); obtain ⟨A1, cc1, hst1, hnb, hnr⟩ := HA.out.line_new _ ht2 hto (Blk.new' _ _ 60).drew; have HA1 := Lib.hid hst1; have HNB := Lib.hid hnb; have HNR := Lib.hid hnr; have m0 := hnb.cell 0 rfl; have m1 := hnb.cell 1 rfl; have m2 := hnb.cell 2 rfl; have m3 := hnb.cell 3 rfl; have m4 := hnb.cell 4 rfl; have k0 := hnb.free 0; have k1 := hnb.free 1; have k2 := hnb.free 2; have k3 := hnb.free 3; have k4 := hnb.free 4; clear hto hst1 hnb hnr))
            (try go_wp2_with fail)
            refine hK.out _ _ ?_ (fun hHeld2 => ?_)
            · (try dsimp only); refine ⟨?_, Or.inr ?_⟩
              · (first | trivial | with_reducible assumption)
              · (first | with_reducible assumption | exact ⟨HA.out.drew.ends.cell 1 rfl, boxS HSB.out.drew⟩ | exact ⟨(HA.out.alloc _).drew.ends.cell 1 rfl, boxS (HSB.out.alloc _).drew⟩ | exact ⟨HA1.out.ends.cell 1 rfl, boxS HSB1.out⟩ | exact ⟨(HA1.out.alloc _).ends.cell 1 rfl, boxS (HSB1.out.alloc _)⟩)
            clear hK K
            clear hHeld; have hHeld := hHeld2; clear hHeld2
            (try simp only [Act.put, List.setIfInBounds_toArray, List.set_cons_zero, List.set_cons_succ])
            refine lTake (i := 7) (v := ?_) rfl (by kernel_rfl) (by kernel_rfl) (by kernel_rfl) (fun _ _ _ h => h) (by rfl) (fun _ _ h => by simpa only [getD_set_ne false (show 7 ≠ 11 by decide)] using h) (fun _ _ h => by simpa only [getD_set_ne false (show 7 ≠ 11 by decide)] using h) ?_ (by assumption) (fun hHeld2 => ?_)
            rotate_left 1
            · (intro _ _ _ _ _; first | (go_simp; done) | (go_simp; with_reducible rfl))
            clear hHeld; have hHeld := hHeld2; clear hHeld2
            (try simp only [Act.put, List.setIfInBounds_toArray, List.set_cons_zero, List.set_cons_succ])
            refine lTake (i := 8) (v := ?_) rfl (by kernel_rfl) (by kernel_rfl) (by kernel_rfl) (fun _ _ _ h => h) (by rfl) (fun _ _ h => by simpa only [getD_set_ne false (show 8 ≠ 11 by decide)] using h) (fun _ _ h => by simpa only [getD_set_ne false (show 8 ≠ 11 by decide)] using h) ?_ (by assumption) (fun hHeld2 => ?_)
            rotate_left 1
            · (intro _ _ _ _ _; first | (go_simp; done) | (go_simp; with_reducible rfl))
            clear hHeld; have hHeld := hHeld2; clear hHeld2
            (try simp only [Act.put, List.setIfInBounds_toArray, List.set_cons_zero, List.set_cons_succ])
            refine lTake (i := 9) (v := ?_) rfl (by kernel_rfl) (by kernel_rfl) (by kernel_rfl) (fun _ _ _ h => h) (by rfl) (fun _ _ h => by simpa only [getD_set_ne false (show 9 ≠ 11 by decide)] using h) (fun _ _ h => by simpa only [getD_set_ne false (show 9 ≠ 11 by decide)] using h) ?_ (by assumption) (fun hHeld2 => ?_)
            rotate_left 1
            · (intro _ _ _ _ _; first | (go_simp; done) | (go_simp; with_reducible rfl))
            clear hHeld; have hHeld := hHeld2; clear hHeld2
            (try simp only [Act.put, List.setIfInBounds_toArray, List.set_cons_zero, List.set_cons_succ])
            refine lReady (rs := [10]) (by kernel_rfl) (by simp) ?_
            refine AllL.cons (i := 10) rfl (fun K hK => ?_) ?_
            · go_simp
              (try go_wp2_with fail)
              refine hK.out _ _ ?_ (fun hHeld2 => ?_)
              · (try dsimp only); refine ⟨?_, Or.inr ?_⟩
                · (first | trivial | with_reducible assumption)
                · (first | with_reducible assumption | exact ⟨HA.out.drew.ends.cell 1 rfl, boxS HSB.out.drew⟩ | exact ⟨(HA.out.alloc _).drew.ends.cell 1 rfl, boxS (HSB.out.alloc _).drew⟩ | exact ⟨HA1.out.ends.cell 1 rfl, boxS HSB1.out⟩ | exact ⟨(HA1.out.alloc _).ends.cell 1 rfl, boxS (HSB1.out.alloc _)⟩)
              clear hK K
              clear hHeld; have hHeld := hHeld2; clear hHeld2
              (try simp only [Act.put, List.setIfInBounds_toArray, List.set_cons_zero, List.set_cons_succ])
              refine lReady (rs := [11]) (by kernel_rfl) (by simp) ?_
              refine AllL.cons (i := 11) rfl (fun K hK => ?_) ?_
              · go_simp
                (try go_wp2_with fail)
                refine hK.out _ _ ?_ (fun hHeld2 => ?_)
                · (try dsimp only); refine ⟨?_, Or.inl (by rfl)⟩
                  · (first | trivial | with_reducible assumption)
                clear hK K
                clear hHeld; have hHeld := hHeld2; clear hHeld2
                (try simp only [Act.put, List.setIfInBounds_toArray, List.set_cons_zero, List.set_cons_succ])
                refine lTake (i := 12) (v := ?_) rfl (by kernel_rfl) (by kernel_rfl) (by kernel_rfl) (fun _ _ _ h => h) (by rfl) (fun _ _ h => by simpa only [getD_set_ne false (show 12 ≠ 11 by decide)] using h) (fun _ _ h => by simpa only [getD_set_ne false (show 12 ≠ 11 by decide)] using h) ?_ (by assumption) (fun hHeld2 => ?_)
                rotate_left 1
                · (intro _ _ _ _ _; first | (go_simp; done) | (go_simp; with_reducible rfl))
                clear hHeld; have hHeld := hHeld2; clear hHeld2
                (try simp only [Act.put, List.setIfInBounds_toArray, List.set_cons_zero, List.set_cons_succ])
                refine lDone (by kernel_rfl) ?_ _
                clear hHeld z1 z0
                first | refine then_noteN HA1.out HSB1.out ?_ | refine then_note5 HA1.out HSB1.out HNB.out HNR.out HA.out.b.size ?_
                intro wN hA2 hSB2 hNT
                have HA2 := Lib.hid hA2
                have HSB2 := Lib.hid hSB2
                have HNT := Lib.hid hNT
                clear hA2 hSB2 hNT HA1 HSB1 HAT
                cases qb
                · skip
                  go_wp2_with fail
                  go_meet
                  case rel => rw [HNx.out]; exact rel_mk HA2.out (tks_no HRv.out.2.1 HQb.out) (inv_next HRv.out.1) HLx.out
                · skip
                  have hq := HQ.out.trans (HRv.out.2.2 HQb.out.symm)
                  rw [hq] at HNT
                  clear hq
                  have g0 : wN.cell? ⟨w.heap.size + 1 + 1 + 1 + 1, 1, none⟩ = some (.int .i64 (ln 1).tk) := HA2.out.got.cell 1 rfl
                  have gf : wN.frozen? ⟨w.heap.size + 1 + 1 + 1 + 1, 1, none⟩ = false := HA2.out.got.free 1
                  have T0 : 0 ≤ (ln 1).tk ∧ (ln 1).tk ≤ 200 := HOk.out.2.1
                  have HA3 := Lib.hid (HA2.out.setGot (show 1 < 2 by omega) ((ln 1).tk + 1))
                  have HT3 := Lib.hid ((Touch.refl (fun k => k = w.heap.size + 4) wN).put 1 (.int .i64 ((ln 1).tk + 1)))
                  have HNT3 := Lib.hid (HNT.out.touch HT3.out (fun hk => blk_ne HNT.out HA2.out.got (by decide) hk))
                  have HSB3 := Lib.hid (HSB2.out.touch HT3.out (fun hk => blk_ne HSB2.out HA2.out.got (by decide) hk))
                  go_upto_region 29 with fail
                  clear g0 gf
                  refine gen_world (fun W => (ArS w _ _ _ _ _ _ _ _ _ _ _ _ W) ∧ Blk W _ 60 _ ∧ Blk W _ 66 _) ⟨HA3.out, HNT3.out, HSB3.out⟩ ?_
                  rintro wG ⟨hA3, hNT3, hSB3⟩
                  have n0 : wG.cell? ⟨_, 0, none⟩ = some (.int .i64 9) := hNT3.cell 0 rfl
                  have n1 : wG.cell? ⟨_, 1, none⟩ = some (.int .i64 ((ln 1).tk + 1)) := hNT3.cell 1 rfl
                  have n2 : wG.cell? ⟨_, 2, none⟩ = some (.int .i64 0) := hNT3.cell 2 rfl
                  have n3 : wG.cell? ⟨_, 3, none⟩ = some (.int .i64 0) := hNT3.cell 3 rfl
                  have n4 : wG.cell? ⟨_, 4, none⟩ = some (.int .i64 0) := hNT3.cell 4 rfl
                  have n5 : wG.cell? ⟨w.heap.size + 1 + 1 + 1 + 1, 1, none⟩ = some (.int .i64 ((ln 1).tk + 1)) := hA3.got.cell 1 rfl
                  have n6 : wG.cell? ⟨wr.heap.size, 0, none⟩ = some (.int .i64 0) := hSB3.cell 0 rfl
                  have y0 := hNT3.lt
                  have y1 : w.heap.size + 1 + 1 + 1 + 1 < wG.heap.size := hA3.got.lt
                  have y2 := hSB3.lt
                  have HNE := runNtNe
                  have HG := Lib.hid hA3
                  clear hA3 hNT3 hSB3 HA2 HA3 HT3 HNT HNT3 HSB2 HSB3
                  refine wp_region_past (by kernel_rfl) (by kernel_rfl) ?_
                  repeat (go_big_quiet_step (fail))
                  refine wpQuiet_nil ?_
                  intro x
                  have HBx := Lib.hid x.far
                  generalize x.w = w9 at HBx ⊢
                  go_wp2_with fail
                  go_meet
                  case rel => rw [HNx.out]; exact rel_mk (HG.out.below HBx.out) (tks_yes HRv.out.2.1 HQb.out) (inv_next HRv.out.1) HLx.out
              exact AllL.nil
            exact AllL.nil
          refine AllL.cons (i := 10) rfl (fun K hK => ?_) ?_
          · go_simp
            (try go_wp2_with fail)
            refine hK.out _ _ ?_ (fun hHeld2 => ?_)
            · (try dsimp only); refine ⟨?_, Or.inr ?_⟩
              · (first | trivial | with_reducible assumption)
              · (first | with_reducible assumption | exact ⟨HA.out.drew.ends.cell 1 rfl, boxS HSB.out.drew⟩ | exact ⟨(HA.out.alloc _).drew.ends.cell 1 rfl, boxS (HSB.out.alloc _).drew⟩ | exact ⟨HA1.out.ends.cell 1 rfl, boxS HSB1.out⟩ | exact ⟨(HA1.out.alloc _).ends.cell 1 rfl, boxS (HSB1.out.alloc _)⟩)
            clear hK K
            clear hHeld; have hHeld := hHeld2; clear hHeld2
            (try simp only [Act.put, List.setIfInBounds_toArray, List.set_cons_zero, List.set_cons_succ])
            refine lReady (rs := [6]) (by kernel_rfl) (by simp) ?_
            refine AllL.cons (i := 6) rfl (fun K hK => ?_) ?_
            · go_simp; (first | ((with_reducible refine (Receive_c 200 _ _ _ _ _ p _ HAT.out HA.out.drew.b.size HOk.out (by omega) HAk.out).mono ?_); rintro e w1 ⟨he1, hto⟩; rw [← HQ.out, ← HQb.out] at he1; subst he1; obtain ⟨A1, cc1, hst1⟩ := HA.out.drew.line ht2 hto; have HA1 := Lib.hid hst1; have HSB1 := Lib.hid (HA.out.drew.line_blk ht2 hto HSB.out.drew (by decide) (by decide)); clear hto hst1) | (refine (Receive_c 200 _ _ _ _ _ p _ ((HA.out.alloc _).drew.at_ 1 ht2) (HA.out.alloc _).drew.b.size HOk.out (by omega) HAk.out).mono ?_; rintro e w1 ⟨he1, hto⟩; rw [← HQ.out, ← HQb.out] at he1; subst he1; have HSB1 := Lib.hid ((HA.out.alloc _).drew.line_blk ht2 hto (HSB.out.alloc _).drew (by decide) (by decide)); obtain ⟨A1, cc1, hst1, hnb, hnr⟩ := HA.out.line_new _ ht2 hto (Blk.new' _ _ 60).drew; have HA1 := Lib.hid hst1; have HNB := Lib.hid hnb; have HNR := Lib.hid hnr; have m0 := hnb.cell 0 rfl; have m1 := hnb.cell 1 rfl; have m2 := hnb.cell 2 rfl; have m3 := hnb.cell 3 rfl; have m4 := hnb.cell 4 rfl; have k0 := hnb.free 0; have k1 := hnb.free 1; have k2 := hnb.free 2; have k3 := hnb.free 3; have k4 := hnb.free 4; clear hto hst1 hnb hnr))
              (try go_wp2_with fail)
              refine hK.out _ _ ?_ (fun hHeld2 => ?_)
              · (try dsimp only); refine ⟨?_, Or.inr ?_⟩
                · (first | trivial | with_reducible assumption)
                · (first | with_reducible assumption | exact ⟨HA.out.drew.ends.cell 1 rfl, boxS HSB.out.drew⟩ | exact ⟨(HA.out.alloc _).drew.ends.cell 1 rfl, boxS (HSB.out.alloc _).drew⟩ | exact ⟨HA1.out.ends.cell 1 rfl, boxS HSB1.out⟩ | exact ⟨(HA1.out.alloc _).ends.cell 1 rfl, boxS (HSB1.out.alloc _)⟩)
              clear hK K
              clear hHeld; have hHeld := hHeld2; clear hHeld2
              (try simp only [Act.put, List.setIfInBounds_toArray, List.set_cons_zero, List.set_cons_succ])
              refine lTake (i := 7) (v := ?_) rfl (by kernel_rfl) (by kernel_rfl) (by kernel_rfl) (fun _ _ _ h => h) (by rfl) (fun _ _ h => by simpa only [getD_set_ne false (show 7 ≠ 11 by decide)] using h) (fun _ _ h => by simpa only [getD_set_ne false (show 7 ≠ 11 by decide)] using h) ?_ (by assumption) (fun hHeld2 => ?_)
              rotate_left 1
              · (intro _ _ _ _ _; first | (go_simp; done) | (go_simp; with_reducible rfl))
              clear hHeld; have hHeld := hHeld2; clear hHeld2
              (try simp only [Act.put, List.setIfInBounds_toArray, List.set_cons_zero, List.set_cons_succ])
              refine lTake (i := 8) (v := ?_) rfl (by kernel_rfl) (by kernel_rfl) (by kernel_rfl) (fun _ _ _ h => h) (by rfl) (fun _ _ h => by simpa only [getD_set_ne false (show 8 ≠ 11 by decide)] using h) (fun _ _ h => by simpa only [getD_set_ne false (show 8 ≠ 11 by decide)] using h) ?_ (by assumption) (fun hHeld2 => ?_)
              rotate_left 1
              · (intro _ _ _ _ _; first | (go_simp; done) | (go_simp; with_reducible rfl))
              clear hHeld; have hHeld := hHeld2; clear hHeld2
              (try simp only [Act.put, List.setIfInBounds_toArray, List.set_cons_zero, List.set_cons_succ])
              refine lTake (i := 9) (v := ?_) rfl (by kernel_rfl) (by kernel_rfl) (by kernel_rfl) (fun _ _ _ h => h) (by rfl) (fun _ _ h => by simpa only [getD_set_ne false (show 9 ≠ 11 by decide)] using h) (fun _ _ h => by simpa only [getD_set_ne false (show 9 ≠ 11 by decide)] using h) ?_ (by assumption) (fun hHeld2 => ?_)
              rotate_left 1
              · (intro _ _ _ _ _; first | (go_simp; done) | (go_simp; with_reducible rfl))
              clear hHeld; have hHeld := hHeld2; clear hHeld2
              (try simp only [Act.put, List.setIfInBounds_toArray, List.set_cons_zero, List.set_cons_succ])
              refine lReady (rs := [11]) (by kernel_rfl) (by simp) ?_
              refine AllL.cons (i := 11) rfl (fun K hK => ?_) ?_
              · go_simp
                (try go_wp2_with fail)
                refine hK.out _ _ ?_ (fun hHeld2 => ?_)
                · (try dsimp only); refine ⟨?_, Or.inl (by rfl)⟩
                  · (first | trivial | with_reducible assumption)
                clear hK K
                clear hHeld; have hHeld := hHeld2; clear hHeld2
                (try simp only [Act.put, List.setIfInBounds_toArray, List.set_cons_zero, List.set_cons_succ])
                refine lTake (i := 12) (v := ?_) rfl (by kernel_rfl) (by kernel_rfl) (by kernel_rfl) (fun _ _ _ h => h) (by rfl) (fun _ _ h => by simpa only [getD_set_ne false (show 12 ≠ 11 by decide)] using h) (fun _ _ h => by simpa only [getD_set_ne false (show 12 ≠ 11 by decide)] using h) ?_ (by assumption) (fun hHeld2 => ?_)
                rotate_left 1
                · (intro _ _ _ _ _; first | (go_simp; done) | (go_simp; with_reducible rfl))
                clear hHeld; have hHeld := hHeld2; clear hHeld2
                (try simp only [Act.put, List.setIfInBounds_toArray, List.set_cons_zero, List.set_cons_succ])
                refine lDone (by kernel_rfl) ?_ _
                clear hHeld z1 z0
                first | refine then_noteN HA1.out HSB1.out ?_ | refine then_note5 HA1.out HSB1.out HNB.out HNR.out HA.out.b.size ?_
                intro wN hA2 hSB2 hNT
                have HA2 := Lib.hid hA2
                have HSB2 := Lib.hid hSB2
                have HNT := Lib.hid hNT
                clear hA2 hSB2 hNT HA1 HSB1 HAT
                cases qb
                · skip
                  go_wp2_with fail
                  go_meet
                  case rel => rw [HNx.out]; exact rel_mk HA2.out (tks_no HRv.out.2.1 HQb.out) (inv_next HRv.out.1) HLx.out
                · skip
                  have hq := HQ.out.trans (HRv.out.2.2 HQb.out.symm)
                  rw [hq] at HNT
                  clear hq
                  have g0 : wN.cell? ⟨w.heap.size + 1 + 1 + 1 + 1, 1, none⟩ = some (.int .i64 (ln 1).tk) := HA2.out.got.cell 1 rfl
                  have gf : wN.frozen? ⟨w.heap.size + 1 + 1 + 1 + 1, 1, none⟩ = false := HA2.out.got.free 1
                  have T0 : 0 ≤ (ln 1).tk ∧ (ln 1).tk ≤ 200 := HOk.out.2.1
                  have HA3 := Lib.hid (HA2.out.setGot (show 1 < 2 by omega) ((ln 1).tk + 1))
                  have HT3 := Lib.hid ((Touch.refl (fun k => k = w.heap.size + 4) wN).put 1 (.int .i64 ((ln 1).tk + 1)))
                  have HNT3 := Lib.hid (HNT.out.touch HT3.out (fun hk => blk_ne HNT.out HA2.out.got (by decide) hk))
                  have HSB3 := Lib.hid (HSB2.out.touch HT3.out (fun hk => blk_ne HSB2.out HA2.out.got (by decide) hk))
                  go_upto_region 29 with fail
                  clear g0 gf
                  refine gen_world (fun W => (ArS w _ _ _ _ _ _ _ _ _ _ _ _ W) ∧ Blk W _ 60 _ ∧ Blk W _ 66 _) ⟨HA3.out, HNT3.out, HSB3.out⟩ ?_
                  rintro wG ⟨hA3, hNT3, hSB3⟩
                  have n0 : wG.cell? ⟨_, 0, none⟩ = some (.int .i64 9) := hNT3.cell 0 rfl
                  have n1 : wG.cell? ⟨_, 1, none⟩ = some (.int .i64 ((ln 1).tk + 1)) := hNT3.cell 1 rfl
                  have n2 : wG.cell? ⟨_, 2, none⟩ = some (.int .i64 0) := hNT3.cell 2 rfl
                  have n3 : wG.cell? ⟨_, 3, none⟩ = some (.int .i64 0) := hNT3.cell 3 rfl
                  have n4 : wG.cell? ⟨_, 4, none⟩ = some (.int .i64 0) := hNT3.cell 4 rfl
                  have n5 : wG.cell? ⟨w.heap.size + 1 + 1 + 1 + 1, 1, none⟩ = some (.int .i64 ((ln 1).tk + 1)) := hA3.got.cell 1 rfl
                  have n6 : wG.cell? ⟨wr.heap.size, 0, none⟩ = some (.int .i64 0) := hSB3.cell 0 rfl
                  have y0 := hNT3.lt
                  have y1 : w.heap.size + 1 + 1 + 1 + 1 < wG.heap.size := hA3.got.lt
                  have y2 := hSB3.lt
                  have HNE := runNtNe
                  have HG := Lib.hid hA3
                  clear hA3 hNT3 hSB3 HA2 HA3 HT3 HNT HNT3 HSB2 HSB3
                  refine wp_region_past (by kernel_rfl) (by kernel_rfl) ?_
                  repeat (go_big_quiet_step (fail))
                  refine wpQuiet_nil ?_
                  intro x
                  have HBx := Lib.hid x.far
                  generalize x.w = w9 at HBx ⊢
                  go_wp2_with fail
                  go_meet
                  case rel => rw [HNx.out]; exact rel_mk (HG.out.below HBx.out) (tks_yes HRv.out.2.1 HQb.out) (inv_next HRv.out.1) HLx.out
              exact AllL.nil
            exact AllL.nil
          exact AllL.nil
      · as_aux_lemma =>
          have ht2 : 0 < 2 := by omega
          have HRv := Lib.hid (HIx.out.recv (show 1 + 0 = 1 by omega) HPv.out)
          have HOk := Lib.hid ((HIx.out.mono (show (k : Int) ≤ 200 by omega)).ok (show 0 + 1 = 1 by omega))
          have HAk := Lib.hid (show p.ak ≤ 9223372036854775807 from by have h1 : p.ak ≤ (ln 1).tk := HPv.out.2.1; have h2 := ((HIx.out.mono (show (k : Int) ≤ 200 by omega)).ok (show 1 + 0 = 1 by omega)).2.1.2; omega)
          obtain ⟨qn, hqn⟩ : ∃ q, q = Lx.recvN (ln 0) p := ⟨_, rfl⟩
          obtain ⟨qb, hqb⟩ : ∃ q, q = Lx.recvB (ln 0) p := ⟨_, rfl⟩
          have HQ := Lib.hid hqn
          have HQb := Lib.hid hqb
          clear hqn hqb
          have HAT := Lib.hid (HA.out.drew.at_ 0 ht2)
          try simp only [Nat.add_zero] at HAT
          have u0 : wc.cell? ⟨wr.heap.size, 0, none⟩ = some (.int .i64 1) := HSB.out.cell 0 rfl
          go_wp2_with fail
          have z1 : IntKind.i64.wrap 1 = 1 := by decide
          have z0 : IntKind.i64.wrap 0 = 0 := by decide
          refine lBegin (S := fun L W => (True) ∧ (L.getD 11 false = true ∨ (W.cell? ⟨w.heap.size + 1 + 1, 0, none⟩ = some (.pointer (some ⟨w.heap.size, 0, none⟩)) ∧ W.cell? ⟨wr.heap.size, 1, none⟩ = some (.bool p.has) ∧ W.cell? ⟨wr.heap.size, 2, none⟩ = some (.int .i64 p.nu) ∧ W.cell? ⟨wr.heap.size, 3, none⟩ = some (.int .i64 p.nt.k) ∧ W.cell? ⟨wr.heap.size, 4, none⟩ = some (.int .i64 p.nt.s) ∧ W.cell? ⟨wr.heap.size, 5, none⟩ = some (.int .i64 p.nt.a) ∧ W.cell? ⟨wr.heap.size, 6, none⟩ = some (.int .i64 p.nt.b) ∧ W.cell? ⟨wr.heap.size, 7, none⟩ = some (.int .i64 p.nt.c) ∧ W.cell? ⟨wr.heap.size, 8, none⟩ = some (.int .i64 p.ak)))) (by kernel_rfl) ?_ (fun hHeld => ?_)
          · (try dsimp only); refine ⟨?_, Or.inr ?_⟩
            · (first | trivial | with_reducible assumption)
            · (first | with_reducible assumption | exact ⟨HA.out.drew.ends.cell 0 rfl, boxS HSB.out.drew⟩ | exact ⟨(HA.out.alloc _).drew.ends.cell 0 rfl, boxS (HSB.out.alloc _).drew⟩ | exact ⟨HA1.out.ends.cell 0 rfl, boxS HSB1.out⟩ | exact ⟨(HA1.out.alloc _).ends.cell 0 rfl, boxS (HSB1.out.alloc _)⟩)
          refine lTake (i := 0) (v := ?_) rfl (by kernel_rfl) (by kernel_rfl) (by kernel_rfl) (fun _ _ _ h => h) (by rfl) (fun _ _ h => by simpa only [getD_set_ne false (show 0 ≠ 11 by decide)] using h) (fun _ _ h => by simpa only [getD_set_ne false (show 0 ≠ 11 by decide)] using h) ?_ (by assumption) (fun hHeld2 => ?_)
          rotate_left 1
          · (intro _ _ _ _ _; first | (go_simp; done) | (go_simp; with_reducible rfl))
          clear hHeld; have hHeld := hHeld2; clear hHeld2
          (try simp only [Act.put, List.setIfInBounds_toArray, List.set_cons_zero, List.set_cons_succ])
          refine lTake (i := 1) (v := ?_) rfl (by kernel_rfl) (by kernel_rfl) (by kernel_rfl) (fun _ _ _ h => h) (by rfl) (fun _ _ h => by simpa only [getD_set_ne false (show 1 ≠ 11 by decide)] using h) (fun _ _ h => by simpa only [getD_set_ne false (show 1 ≠ 11 by decide)] using h) ?_ (by assumption) (fun hHeld2 => ?_)
          rotate_left 1
          · (intro _ _ _ _ _; first | (go_simp; done) | (go_simp; with_reducible rfl))
          clear hHeld; have hHeld := hHeld2; clear hHeld2
          (try simp only [Act.put, List.setIfInBounds_toArray, List.set_cons_zero, List.set_cons_succ])
          refine lTake (i := 2) (v := ?_) rfl (by kernel_rfl) (by kernel_rfl) (by kernel_rfl) (fun _ _ _ h => h) (by rfl) (fun _ _ h => by simpa only [getD_set_ne false (show 2 ≠ 11 by decide)] using h) (fun _ _ h => by simpa only [getD_set_ne false (show 2 ≠ 11 by decide)] using h) ?_ (by assumption) (fun hHeld2 => ?_)
          rotate_left 1
          · (intro _ _ _ _ _; first | (go_simp; done) | (go_simp; with_reducible rfl))
          clear hHeld; have hHeld := hHeld2; clear hHeld2
          (try simp only [Act.put, List.setIfInBounds_toArray, List.set_cons_zero, List.set_cons_succ])
          refine lTake (i := 3) (v := ?_) rfl (by kernel_rfl) (by kernel_rfl) (by kernel_rfl) (fun _ _ _ h => h) (by rfl) (fun _ _ h => by simpa only [getD_set_ne false (show 3 ≠ 11 by decide)] using h) (fun _ _ h => by simpa only [getD_set_ne false (show 3 ≠ 11 by decide)] using h) ?_ (by assumption) (fun hHeld2 => ?_)
          rotate_left 1
          · (intro L W hL hK hSw; (try dsimp only at hSw); obtain ⟨h0, h1⟩ := hSw; replace h1 := still [] hK hL (by kernel_rfl) h1; clear hL hK; first | (go_simp; done) | (go_simp; with_reducible rfl))
          clear hHeld; have hHeld := hHeld2; clear hHeld2
          (try simp only [Act.put, List.setIfInBounds_toArray, List.set_cons_zero, List.set_cons_succ])
          refine lTake (i := 4) (v := ?_) rfl (by kernel_rfl) (by kernel_rfl) (by kernel_rfl) (fun _ _ _ h => h) (by rfl) (fun _ _ h => by simpa only [getD_set_ne false (show 4 ≠ 11 by decide)] using h) (fun _ _ h => by simpa only [getD_set_ne false (show 4 ≠ 11 by decide)] using h) ?_ (by assumption) (fun hHeld2 => ?_)
          rotate_left 1
          · (intro _ _ _ _ _; first | (go_simp; done) | (go_simp; with_reducible rfl))
          clear hHeld; have hHeld := hHeld2; clear hHeld2
          (try simp only [Act.put, List.setIfInBounds_toArray, List.set_cons_zero, List.set_cons_succ])
          refine lTake (i := 5) (v := ?_) rfl (by kernel_rfl) (by kernel_rfl) (by kernel_rfl) (fun _ _ _ h => h) (by rfl) (fun _ _ h => by simpa only [getD_set_ne false (show 5 ≠ 11 by decide)] using h) (fun _ _ h => by simpa only [getD_set_ne false (show 5 ≠ 11 by decide)] using h) ?_ (by assumption) (fun hHeld2 => ?_)
          rotate_left 1
          · (intro L W hL hK hSw; (try dsimp only at hSw); obtain ⟨h0, h1⟩ := hSw; replace h1 := still [] hK hL (by kernel_rfl) h1; clear hL hK; first | (go_simp; done) | (go_simp; with_reducible rfl))
          clear hHeld; have hHeld := hHeld2; clear hHeld2
          (try simp only [Act.put, List.setIfInBounds_toArray, List.set_cons_zero, List.set_cons_succ])
          refine lReady (rs := [6, 10]) (by kernel_rfl) (by simp) ?_
          refine AllL.cons (i := 6) rfl (fun K hK => ?_) ?_
          · go_simp; (first | ((with_reducible refine (Receive_c 200 _ _ _ _ _ p _ HAT.out HA.out.drew.b.size HOk.out (by omega) HAk.out).mono ?_); rintro e w1 ⟨he1, hto⟩; rw [← HQ.out, ← HQb.out] at he1; subst he1; obtain ⟨A1, cc1, hst1⟩ := HA.out.drew.line ht2 hto; have HA1 := Lib.hid hst1; have HSB1 := Lib.hid (HA.out.drew.line_blk ht2 hto HSB.out.drew (by decide) (by decide)); clear hto hst1) | (refine (Receive_c 200 _ _ _ _ _ p _ ((HA.out.alloc _).drew.at_ 0 ht2) (HA.out.alloc _).drew.b.size HOk.out (by omega) HAk.out).mono ?_; rintro e w1 ⟨he1, hto⟩; rw [← HQ.out, ← HQb.out] at he1; subst he1; have HSB1 := Lib.hid ((HA.out.alloc _).drew.line_blk ht2 hto (HSB.out.alloc _).drew (by decide) (by decide)); obtain ⟨A1, cc1, hst1, hnb, hnr⟩ := HA.out.line_new _ ht2 hto (Blk.new' _ _ 60).drew; have HA1 := Lib.hid hst1; have HNB := Lib.hid hnb; have HNR := Lib.hid hnr; have m0 := hnb.cell 0 rfl; have m1 := hnb.cell 1 rfl; have m2 := hnb.cell 2 rfl; have m3 := hnb.cell 3 rfl; have m4 := hnb.cell 4 rfl; have k0 := hnb.free 0; have k1 := hnb.free 1; have k2 := hnb.free 2; have k3 := hnb.free 3; have k4 := hnb.free 4; clear hto hst1 hnb hnr))
            (try go_wp2_with fail)
            refine hK.out _ _ ?_ (fun hHeld2 => ?_)
            · (try dsimp only); refine ⟨?_, Or.inr ?_⟩
              · (first | trivial | with_reducible assumption)
              · (first | with_reducible assumption | exact ⟨HA.out.drew.ends.cell 0 rfl, boxS HSB.out.drew⟩ | exact ⟨(HA.out.alloc _).drew.ends.cell 0 rfl, boxS (HSB.out.alloc _).drew⟩ | exact ⟨HA1.out.ends.cell 0 rfl, boxS HSB1.out⟩ | exact ⟨(HA1.out.alloc _).ends.cell 0 rfl, boxS (HSB1.out.alloc _)⟩)
            clear hK K
            clear hHeld; have hHeld := hHeld2; clear hHeld2
            (try simp only [Act.put, List.setIfInBounds_toArray, List.set_cons_zero, List.set_cons_succ])
            refine lTake (i := 7) (v := ?_) rfl (by kernel_rfl) (by kernel_rfl) (by kernel_rfl) (fun _ _ _ h => h) (by rfl) (fun _ _ h => by simpa only [getD_set_ne false (show 7 ≠ 11 by decide)] using h) (fun _ _ h => by simpa only [getD_set_ne false (show 7 ≠ 11 by decide)] using h) ?_ (by assumption) (fun hHeld2 => ?_)
            rotate_left 1
            · (intro _ _ _ _ _; first | (go_simp; done) | (go_simp; with_reducible rfl))
            clear hHeld; have hHeld := hHeld2; clear hHeld2
            (try simp only [Act.put, List.setIfInBounds_toArray, List.set_cons_zero, List.set_cons_succ])
            refine lTake (i := 8) (v := ?_) rfl (by kernel_rfl) (by kernel_rfl) (by kernel_rfl) (fun _ _ _ h => h) (by rfl) (fun _ _ h => by simpa only [getD_set_ne false (show 8 ≠ 11 by decide)] using h) (fun _ _ h => by simpa only [getD_set_ne false (show 8 ≠ 11 by decide)] using h) ?_ (by assumption) (fun hHeld2 => ?_)
            rotate_left 1
            · (intro _ _ _ _ _; first | (go_simp; done) | (go_simp; with_reducible rfl))
            clear hHeld; have hHeld := hHeld2; clear hHeld2
            (try simp only [Act.put, List.setIfInBounds_toArray, List.set_cons_zero, List.set_cons_succ])
            refine lTake (i := 9) (v := ?_) rfl (by kernel_rfl) (by kernel_rfl) (by kernel_rfl) (fun _ _ _ h => h) (by rfl) (fun _ _ h => by simpa only [getD_set_ne false (show 9 ≠ 11 by decide)] using h) (fun _ _ h => by simpa only [getD_set_ne false (show 9 ≠ 11 by decide)] using h) ?_ (by assumption) (fun hHeld2 => ?_)
            rotate_left 1
            · (intro _ _ _ _ _; first | (go_simp; done) | (go_simp; with_reducible rfl))
            clear hHeld; have hHeld := hHeld2; clear hHeld2
            (try simp only [Act.put, List.setIfInBounds_toArray, List.set_cons_zero, List.set_cons_succ])
            refine lReady (rs := [10]) (by kernel_rfl) (by simp) ?_
            refine AllL.cons (i := 10) rfl (fun K hK => ?_) ?_
            · go_simp
              (try go_wp2_with fail)
              refine hK.out _ _ ?_ (fun hHeld2 => ?_)
              · (try dsimp only); refine ⟨?_, Or.inr ?_⟩
                · (first | trivial | with_reducible assumption)
                · (first | with_reducible assumption | exact ⟨HA.out.drew.ends.cell 0 rfl, boxS HSB.out.drew⟩ | exact ⟨(HA.out.alloc _).drew.ends.cell 0 rfl, boxS (HSB.out.alloc _).drew⟩ | exact ⟨HA1.out.ends.cell 0 rfl, boxS HSB1.out⟩ | exact ⟨(HA1.out.alloc _).ends.cell 0 rfl, boxS (HSB1.out.alloc _)⟩)
              clear hK K
              clear hHeld; have hHeld := hHeld2; clear hHeld2
              (try simp only [Act.put, List.setIfInBounds_toArray, List.set_cons_zero, List.set_cons_succ])
              refine lReady (rs := [11]) (by kernel_rfl) (by simp) ?_
              refine AllL.cons (i := 11) rfl (fun K hK => ?_) ?_
              · go_simp
                (try go_wp2_with fail)
                refine hK.out _ _ ?_ (fun hHeld2 => ?_)
                · (try dsimp only); refine ⟨?_, Or.inl (by rfl)⟩
                  · (first | trivial | with_reducible assumption)
                clear hK K
                clear hHeld; have hHeld := hHeld2; clear hHeld2
                (try simp only [Act.put, List.setIfInBounds_toArray, List.set_cons_zero, List.set_cons_succ])
                refine lTake (i := 12) (v := ?_) rfl (by kernel_rfl) (by kernel_rfl) (by kernel_rfl) (fun _ _ _ h => h) (by rfl) (fun _ _ h => by simpa only [getD_set_ne false (show 12 ≠ 11 by decide)] using h) (fun _ _ h => by simpa only [getD_set_ne false (show 12 ≠ 11 by decide)] using h) ?_ (by assumption) (fun hHeld2 => ?_)
                rotate_left 1
                · (intro _ _ _ _ _; first | (go_simp; done) | (go_simp; with_reducible rfl))
                clear hHeld; have hHeld := hHeld2; clear hHeld2
                (try simp only [Act.put, List.setIfInBounds_toArray, List.set_cons_zero, List.set_cons_succ])
                refine lDone (by kernel_rfl) ?_ _
                clear hHeld z1 z0
                first | refine then_noteN HA1.out HSB1.out ?_ | refine then_note5 HA1.out HSB1.out HNB.out HNR.out HA.out.b.size ?_
                intro wN hA2 hSB2 hNT
                have HA2 := Lib.hid hA2
                have HSB2 := Lib.hid hSB2
                have HNT := Lib.hid hNT
                clear hA2 hSB2 hNT HA1 HSB1 HAT
                cases qb
                · skip
                  go_wp2_with fail
                  go_meet
                  case rel => rw [HNx.out]; exact rel_mk HA2.out (tks_no HRv.out.2.1 HQb.out) (inv_next HRv.out.1) HLx.out
                · skip
                  have hq := HQ.out.trans (HRv.out.2.2 HQb.out.symm)
                  rw [hq] at HNT
                  clear hq
                  have g0 : wN.cell? ⟨w.heap.size + 1 + 1 + 1 + 1, 0, none⟩ = some (.int .i64 (ln 0).tk) := HA2.out.got.cell 0 rfl
                  have gf : wN.frozen? ⟨w.heap.size + 1 + 1 + 1 + 1, 0, none⟩ = false := HA2.out.got.free 0
                  have T0 : 0 ≤ (ln 0).tk ∧ (ln 0).tk ≤ 200 := HOk.out.2.1
                  have HA3 := Lib.hid (HA2.out.setGot (show 0 < 2 by omega) ((ln 0).tk + 1))
                  have HT3 := Lib.hid ((Touch.refl (fun k => k = w.heap.size + 4) wN).put 0 (.int .i64 ((ln 0).tk + 1)))
                  have HNT3 := Lib.hid (HNT.out.touch HT3.out (fun hk => blk_ne HNT.out HA2.out.got (by decide) hk))
                  have HSB3 := Lib.hid (HSB2.out.touch HT3.out (fun hk => blk_ne HSB2.out HA2.out.got (by decide) hk))
                  go_upto_region 29 with fail
                  clear g0 gf
                  refine gen_world (fun W => (ArS w _ _ _ _ _ _ _ _ _ _ _ _ W) ∧ Blk W _ 60 _ ∧ Blk W _ 66 _) ⟨HA3.out, HNT3.out, HSB3.out⟩ ?_
                  rintro wG ⟨hA3, hNT3, hSB3⟩
                  have n0 : wG.cell? ⟨_, 0, none⟩ = some (.int .i64 9) := hNT3.cell 0 rfl
                  have n1 : wG.cell? ⟨_, 1, none⟩ = some (.int .i64 ((ln 0).tk + 1)) := hNT3.cell 1 rfl
                  have n2 : wG.cell? ⟨_, 2, none⟩ = some (.int .i64 1) := hNT3.cell 2 rfl
                  have n3 : wG.cell? ⟨_, 3, none⟩ = some (.int .i64 0) := hNT3.cell 3 rfl
                  have n4 : wG.cell? ⟨_, 4, none⟩ = some (.int .i64 0) := hNT3.cell 4 rfl
                  have n5 : wG.cell? ⟨w.heap.size + 1 + 1 + 1 + 1, 0, none⟩ = some (.int .i64 ((ln 0).tk + 1)) := hA3.got.cell 0 rfl
                  have n6 : wG.cell? ⟨wr.heap.size, 0, none⟩ = some (.int .i64 1) := hSB3.cell 0 rfl
                  have y0 := hNT3.lt
                  have y1 : w.heap.size + 1 + 1 + 1 + 1 < wG.heap.size := hA3.got.lt
                  have y2 := hSB3.lt
                  have HNE := runNtNe
                  have HG := Lib.hid hA3
                  clear hA3 hNT3 hSB3 HA2 HA3 HT3 HNT HNT3 HSB2 HSB3
                  refine wp_region_past (by kernel_rfl) (by kernel_rfl) ?_
                  repeat (go_big_quiet_step (fail))
                  refine wpQuiet_nil ?_
                  intro x
                  have HBx := Lib.hid x.far
                  generalize x.w = w9 at HBx ⊢
                  go_wp2_with fail
                  go_meet
                  case rel => rw [HNx.out]; exact rel_mk (HG.out.below HBx.out) (tks_yes HRv.out.2.1 HQb.out) (inv_next HRv.out.1) HLx.out
              exact AllL.nil
            exact AllL.nil
          refine AllL.cons (i := 10) rfl (fun K hK => ?_) ?_
          · go_simp
            (try go_wp2_with fail)
            refine hK.out _ _ ?_ (fun hHeld2 => ?_)
            · (try dsimp only); refine ⟨?_, Or.inr ?_⟩
              · (first | trivial | with_reducible assumption)
              · (first | with_reducible assumption | exact ⟨HA.out.drew.ends.cell 0 rfl, boxS HSB.out.drew⟩ | exact ⟨(HA.out.alloc _).drew.ends.cell 0 rfl, boxS (HSB.out.alloc _).drew⟩ | exact ⟨HA1.out.ends.cell 0 rfl, boxS HSB1.out⟩ | exact ⟨(HA1.out.alloc _).ends.cell 0 rfl, boxS (HSB1.out.alloc _)⟩)
            clear hK K
            clear hHeld; have hHeld := hHeld2; clear hHeld2
            (try simp only [Act.put, List.setIfInBounds_toArray, List.set_cons_zero, List.set_cons_succ])
            refine lReady (rs := [6]) (by kernel_rfl) (by simp) ?_
            refine AllL.cons (i := 6) rfl (fun K hK => ?_) ?_
            · go_simp; (first | ((with_reducible refine (Receive_c 200 _ _ _ _ _ p _ HAT.out HA.out.drew.b.size HOk.out (by omega) HAk.out).mono ?_); rintro e w1 ⟨he1, hto⟩; rw [← HQ.out, ← HQb.out] at he1; subst he1; obtain ⟨A1, cc1, hst1⟩ := HA.out.drew.line ht2 hto; have HA1 := Lib.hid hst1; have HSB1 := Lib.hid (HA.out.drew.line_blk ht2 hto HSB.out.drew (by decide) (by decide)); clear hto hst1) | (refine (Receive_c 200 _ _ _ _ _ p _ ((HA.out.alloc _).drew.at_ 0 ht2) (HA.out.alloc _).drew.b.size HOk.out (by omega) HAk.out).mono ?_; rintro e w1 ⟨he1, hto⟩; rw [← HQ.out, ← HQb.out] at he1; subst he1; have HSB1 := Lib.hid ((HA.out.alloc _).drew.line_blk ht2 hto (HSB.out.alloc _).drew (by decide) (by decide)); obtain ⟨A1, cc1, hst1, hnb, hnr⟩ := HA.out.line_new _ ht2 hto (Blk.new' _ _ 60).drew; have HA1 := Lib.hid hst1; have HNB := Lib.hid hnb; have HNR := Lib.hid hnr; have m0 := hnb.cell 0 rfl; have m1 := hnb.cell 1 rfl; have m2 := hnb.cell 2 rfl; have m3 := hnb.cell 3 rfl; have m4 := hnb.cell 4 rfl; have k0 := hnb.free 0; have k1 := hnb.free 1; have k2 := hnb.free 2; have k3 := hnb.free 3; have k4 := hnb.free 4; clear hto hst1 hnb hnr))
              (try go_wp2_with fail)
              refine hK.out _ _ ?_ (fun hHeld2 => ?_)
              · (try dsimp only); refine ⟨?_, Or.inr ?_⟩
                · (first | trivial | with_reducible assumption)
                · (first | with_reducible assumption | exact ⟨HA.out.drew.ends.cell 0 rfl, boxS HSB.out.drew⟩ | exact ⟨(HA.out.alloc _).drew.ends.cell 0 rfl, boxS (HSB.out.alloc _).drew⟩ | exact ⟨HA1.out.ends.cell 0 rfl, boxS HSB1.out⟩ | exact ⟨(HA1.out.alloc _).ends.cell 0 rfl, boxS (HSB1.out.alloc _)⟩)
              clear hK K
              clear hHeld; have hHeld := hHeld2; clear hHeld2
              (try simp only [Act.put, List.setIfInBounds_toArray, List.set_cons_zero, List.set_cons_succ])
              refine lTake (i := 7) (v := ?_) rfl (by kernel_rfl) (by kernel_rfl) (by kernel_rfl) (fun _ _ _ h => h) (by rfl) (fun _ _ h => by simpa only [getD_set_ne false (show 7 ≠ 11 by decide)] using h) (fun _ _ h => by simpa only [getD_set_ne false (show 7 ≠ 11 by decide)] using h) ?_ (by assumption) (fun hHeld2 => ?_)
              rotate_left 1
              · (intro _ _ _ _ _; first | (go_simp; done) | (go_simp; with_reducible rfl))
              clear hHeld; have hHeld := hHeld2; clear hHeld2
              (try simp only [Act.put, List.setIfInBounds_toArray, List.set_cons_zero, List.set_cons_succ])
              refine lTake (i := 8) (v := ?_) rfl (by kernel_rfl) (by kernel_rfl) (by kernel_rfl) (fun _ _ _ h => h) (by rfl) (fun _ _ h => by simpa only [getD_set_ne false (show 8 ≠ 11 by decide)] using h) (fun _ _ h => by simpa only [getD_set_ne false (show 8 ≠ 11 by decide)] using h) ?_ (by assumption) (fun hHeld2 => ?_)
              rotate_left 1
              · (intro _ _ _ _ _; first | (go_simp; done) | (go_simp; with_reducible rfl))
              clear hHeld; have hHeld := hHeld2; clear hHeld2
              (try simp only [Act.put, List.setIfInBounds_toArray, List.set_cons_zero, List.set_cons_succ])
              refine lTake (i := 9) (v := ?_) rfl (by kernel_rfl) (by kernel_rfl) (by kernel_rfl) (fun _ _ _ h => h) (by rfl) (fun _ _ h => by simpa only [getD_set_ne false (show 9 ≠ 11 by decide)] using h) (fun _ _ h => by simpa only [getD_set_ne false (show 9 ≠ 11 by decide)] using h) ?_ (by assumption) (fun hHeld2 => ?_)
              rotate_left 1
              · (intro _ _ _ _ _; first | (go_simp; done) | (go_simp; with_reducible rfl))
              clear hHeld; have hHeld := hHeld2; clear hHeld2
              (try simp only [Act.put, List.setIfInBounds_toArray, List.set_cons_zero, List.set_cons_succ])
              refine lReady (rs := [11]) (by kernel_rfl) (by simp) ?_
              refine AllL.cons (i := 11) rfl (fun K hK => ?_) ?_
              · go_simp
                (try go_wp2_with fail)
                refine hK.out _ _ ?_ (fun hHeld2 => ?_)
                · (try dsimp only); refine ⟨?_, Or.inl (by rfl)⟩
                  · (first | trivial | with_reducible assumption)
                clear hK K
                clear hHeld; have hHeld := hHeld2; clear hHeld2
                (try simp only [Act.put, List.setIfInBounds_toArray, List.set_cons_zero, List.set_cons_succ])
                refine lTake (i := 12) (v := ?_) rfl (by kernel_rfl) (by kernel_rfl) (by kernel_rfl) (fun _ _ _ h => h) (by rfl) (fun _ _ h => by simpa only [getD_set_ne false (show 12 ≠ 11 by decide)] using h) (fun _ _ h => by simpa only [getD_set_ne false (show 12 ≠ 11 by decide)] using h) ?_ (by assumption) (fun hHeld2 => ?_)
                rotate_left 1
                · (intro _ _ _ _ _; first | (go_simp; done) | (go_simp; with_reducible rfl))
                clear hHeld; have hHeld := hHeld2; clear hHeld2
                (try simp only [Act.put, List.setIfInBounds_toArray, List.set_cons_zero, List.set_cons_succ])
                refine lDone (by kernel_rfl) ?_ _
                clear hHeld z1 z0
                first | refine then_noteN HA1.out HSB1.out ?_ | refine then_note5 HA1.out HSB1.out HNB.out HNR.out HA.out.b.size ?_
                intro wN hA2 hSB2 hNT
                have HA2 := Lib.hid hA2
                have HSB2 := Lib.hid hSB2
                have HNT := Lib.hid hNT
                clear hA2 hSB2 hNT HA1 HSB1 HAT
                cases qb
                · skip
                  go_wp2_with fail
                  go_meet
                  case rel => rw [HNx.out]; exact rel_mk HA2.out (tks_no HRv.out.2.1 HQb.out) (inv_next HRv.out.1) HLx.out
                · skip
                  have hq := HQ.out.trans (HRv.out.2.2 HQb.out.symm)
                  rw [hq] at HNT
                  clear hq
                  have g0 : wN.cell? ⟨w.heap.size + 1 + 1 + 1 + 1, 0, none⟩ = some (.int .i64 (ln 0).tk) := HA2.out.got.cell 0 rfl
                  have gf : wN.frozen? ⟨w.heap.size + 1 + 1 + 1 + 1, 0, none⟩ = false := HA2.out.got.free 0
                  have T0 : 0 ≤ (ln 0).tk ∧ (ln 0).tk ≤ 200 := HOk.out.2.1
                  have HA3 := Lib.hid (HA2.out.setGot (show 0 < 2 by omega) ((ln 0).tk + 1))
                  have HT3 := Lib.hid ((Touch.refl (fun k => k = w.heap.size + 4) wN).put 0 (.int .i64 ((ln 0).tk + 1)))
                  have HNT3 := Lib.hid (HNT.out.touch HT3.out (fun hk => blk_ne HNT.out HA2.out.got (by decide) hk))
                  have HSB3 := Lib.hid (HSB2.out.touch HT3.out (fun hk => blk_ne HSB2.out HA2.out.got (by decide) hk))
                  go_upto_region 29 with fail
                  clear g0 gf
                  refine gen_world (fun W => (ArS w _ _ _ _ _ _ _ _ _ _ _ _ W) ∧ Blk W _ 60 _ ∧ Blk W _ 66 _) ⟨HA3.out, HNT3.out, HSB3.out⟩ ?_
                  rintro wG ⟨hA3, hNT3, hSB3⟩
                  have n0 : wG.cell? ⟨_, 0, none⟩ = some (.int .i64 9) := hNT3.cell 0 rfl
                  have n1 : wG.cell? ⟨_, 1, none⟩ = some (.int .i64 ((ln 0).tk + 1)) := hNT3.cell 1 rfl
                  have n2 : wG.cell? ⟨_, 2, none⟩ = some (.int .i64 1) := hNT3.cell 2 rfl
                  have n3 : wG.cell? ⟨_, 3, none⟩ = some (.int .i64 0) := hNT3.cell 3 rfl
                  have n4 : wG.cell? ⟨_, 4, none⟩ = some (.int .i64 0) := hNT3.cell 4 rfl
                  have n5 : wG.cell? ⟨w.heap.size + 1 + 1 + 1 + 1, 0, none⟩ = some (.int .i64 ((ln 0).tk + 1)) := hA3.got.cell 0 rfl
                  have n6 : wG.cell? ⟨wr.heap.size, 0, none⟩ = some (.int .i64 1) := hSB3.cell 0 rfl
                  have y0 := hNT3.lt
                  have y1 : w.heap.size + 1 + 1 + 1 + 1 < wG.heap.size := hA3.got.lt
                  have y2 := hSB3.lt
                  have HNE := runNtNe
                  have HG := Lib.hid hA3
                  clear hA3 hNT3 hSB3 HA2 HA3 HT3 HNT HNT3 HSB2 HSB3
                  refine wp_region_past (by kernel_rfl) (by kernel_rfl) ?_
                  repeat (go_big_quiet_step (fail))
                  refine wpQuiet_nil ?_
                  intro x
                  have HBx := Lib.hid x.far
                  generalize x.w = w9 at HBx ⊢
                  go_wp2_with fail
                  go_meet
                  case rel => rw [HNx.out]; exact rel_mk (HG.out.below HBx.out) (tks_yes HRv.out.2.1 HQb.out) (inv_next HRv.out.1) HLx.out
              exact AllL.nil
            exact AllL.nil
          exact AllL.nil
end Go.Proofs.Ytafajclbghofkaa
