/- The law of arrivals: a packet is lost. -/
import Derived.Test.YtafajclbghofkaaE6
namespace Go.Proofs.Ytafajclbghofkaa
open Go.RowKit
set_option linter.unusedVariables false

set_option maxRecDepth 1000000 in
set_option maxHeartbeats 80000000 in
theorem ArC4 (w wr : World) (ad : Addr) (hs : List Hp) (cap k m : Nat) (h : Hp) (A0 : Nat → Option Addr) (c0 : Nat → Nat) (s : Nat → Int) (ln : Nat → Ln) (AF : Option Addr) (cF : Nat) (F : List (Nat × Pk)) (c17 u2 u9 u10 u11 u12 u13 u14 u15 u16 u31 u32 u40 u41 u42 u43 u44 u45 u46 u47 u48 u49 u50 u51 u52 u53 u54 u55 u56 u57 u58 u59 u60 u61 u62 u63 u64 u65 u66 u67 u68 u69 u70 u71 u72 u73 u74 u75 u76 u77 u78 u79 u80 u81 u82 u83 u84 u85 u86 u87 u88 u89 u90 u91 u92 u93 u94 u95 u96 u97 u98 u99 u100 u101 u102 u103 u104 u105 u106 u107 u108 u109 u110 u111 u112 u113 u114 u115 u116 u117 u118 u119 u120 u121 u122 u123 u124 u125 u126 u127 u128 u129 u130 u131 u132 u133 u134 u135 u136 u137 u138 u139 u140 u141 u142 u143 u144 u145 u146 u147 u148 u149 u150 u151 u152 u153 u154 u155 u156 u157 u158 u159 u160 u161 u162 u163 u164 u165 u166 u167 u168 u169 u170 u171 u172 u173 u174 u175 u176 u177 u178 u179 u180 u181 u182 u183 u184 u185 u186 u187 u188 u189 : Value) (J K K1 L1 L2 : Act → World → Prop) (n0 : Nat) (hn : hs.length ≤ 9223372036854775807) (hlt : k < hs.length) (HC : Hid (HopAt w (ad.add (k * 2)) h)) (HD : Hid (0 ≤ h.d ∧ h.d ≤ 255)) (HA0 : Hid (0 ≤ h.a ∧ h.a ≤ 255)) (B0 : (0 : Int) ≤ (k : Int)) (B1 : (k : Int) < (hs.length : Int)) (HS : Hid (ArS w (w.heap.size + 2) (w.heap.size + 3) (w.heap.size + 4) (fun e => w.heap.size + e) A0 c0 s (fun e => (ln e).tk) ln AF cF F wr)) (HI : Hid (Ar.Inv k s ln F)) (H100 : Hid (F.length ≤ 100)) (c1 : wr.cell? (ad.add (k * 2)) = some (.int .u8 h.d)) (c2 : wr.cell? ⟨(ad.add (k * 2)).block, (ad.add (k * 2)).off + 1, none⟩ = some (.int .u8 h.a)) (h200 : k < 200) (hm : m = 5) (hJ : ∀ a' w', Arm w ad hs.length cap k m c17 a' w' → J a' w') (hK : ∀ a' w', Met J a' w' → K a' w') (hK1 : ∀ (u2 u9 u10 u11 u12 u13 u14 u15 u16 u23 u24 u25 u26 u27 u28 u29 u30 u31 u32 u33 u34 u35 u36 u37 u38 u39 u40 u41 u42 u43 u44 u45 u46 u47 u48 u49 u50 u51 u52 u53 u54 u55 u56 u57 u58 u59 u60 u61 u62 u63 u64 u65 u66 u67 u68 u69 u70 u71 u72 u73 u74 u75 u76 u77 u78 u79 u80 u81 u82 u83 u84 u85 u86 u87 u88 u89 u90 u91 u92 u93 u94 u95 u96 u97 u98 u99 u100 u101 u102 u103 u104 u105 u106 u107 u108 u109 u110 u111 u112 u113 u114 u115 u116 u117 u118 u119 u120 u121 u122 u123 u124 u125 u126 u127 u128 u129 u130 u131 u132 u133 u134 u135 u136 u137 u138 u139 u140 u141 u142 u143 u144 u145 u146 u147 u148 u149 u150 u151 u152 u153 u154 u155 u156 u157 u158 u159 u160 u161 u162 u163 u164 u165 u166 u167 u168 u169 u170 u171 u172 u173 u174 u175 u176 u177 u178 u179 u180 u181 u182 u183 u184 u185 u186 u187 u188 u189 u4 : Value) (w' : World), ArRel w (k + 1) u4 w' → K1 ⟨#[(.slice (some ad) hs.length cap : Value), undef, u2, .slice (some ⟨w.heap.size + 1 + 1, 0, none⟩) 2 2, u4, .slice (some ⟨w.heap.size + 1 + 1 + 1, 0, none⟩) 2 2, .slice (some ⟨w.heap.size + 1 + 1 + 1 + 1, 0, none⟩) 2 2, .int .i64 k, .int .i64 m, u9, u10, u11, u12, u13, u14, u15, u16, c17, .pointer (some ⟨w.heap.size, 0, none⟩), .pointer (some ⟨w.heap.size + 1, 0, none⟩), .slice (some ⟨w.heap.size + 1 + 1, 0, none⟩) 2 2, .slice (some ⟨w.heap.size + 1 + 1 + 1, 0, none⟩) 2 2, .slice (some ⟨w.heap.size + 1 + 1 + 1 + 1, 0, none⟩) 2 2, u23, u24, u25, u26, u27, u28, u29, u30, u31, u32, u33, u34, u35, u36, u37, u38, u39, u40, u41, u42, u43, u44, u45, u46, u47, u48, u49, u50, u51, u52, u53, u54, u55, u56, u57, u58, u59, u60, u61, u62, u63, u64, u65, u66, u67, u68, u69, u70, u71, u72, u73, u74, u75, u76, u77, u78, u79, u80, u81, u82, u83, u84, u85, u86, u87, u88, u89, u90, u91, u92, u93, u94, u95, u96, u97, u98, u99, u100, u101, u102, u103, u104, u105, u106, u107, u108, u109, u110, u111, u112, u113, u114, u115, u116, u117, u118, u119, u120, u121, u122, u123, u124, u125, u126, u127, u128, u129, u130, u131, u132, u133, u134, u135, u136, u137, u138, u139, u140, u141, u142, u143, u144, u145, u146, u147, u148, u149, u150, u151, u152, u153, u154, u155, u156, u157, u158, u159, u160, u161, u162, u163, u164, u165, u166, u167, u168, u169, u170, u171, u172, u173, u174, u175, u176, u177, u178, u179, u180, u181, u182, u183, u184, u185, u186, u187, u188, u189, undef], []⟩ w') :
    Code.wp Try.prog (Code.block 2 body6) (Exit.then K (Exit.inBlock 1 (Exit.then K1 (Exit.then L1 (Exit.inBlock n0 (Exit.then L2 (bodyPost Try.prog Try.f6 fun e w' => e = .returned (.bool true) ∧ Below w.heap.size w w'))))))) ⟨#[(.slice (some ad) hs.length cap : Value), undef, u2, .slice (some ⟨w.heap.size + 1 + 1, 0, none⟩) 2 2, .slice AF F.length cF, .slice (some ⟨w.heap.size + 1 + 1 + 1, 0, none⟩) 2 2, .slice (some ⟨w.heap.size + 1 + 1 + 1 + 1, 0, none⟩) 2 2, .int .i64 k, .int .i64 m, u9, u10, u11, u12, u13, u14, u15, u16, c17, .pointer (some ⟨w.heap.size, 0, none⟩), .pointer (some ⟨w.heap.size + 1, 0, none⟩), .slice (some ⟨w.heap.size + 1 + 1, 0, none⟩) 2 2, .slice (some ⟨w.heap.size + 1 + 1 + 1, 0, none⟩) 2 2, .slice (some ⟨w.heap.size + 1 + 1 + 1 + 1, 0, none⟩) 2 2, .int .i64 k, .slice (some ad) hs.length cap, .int .i64 hs.length, .bool true, .bool true, .int .i64 k, .bool (decide ((k : Int) < 200)), .bool (decide ((k : Int) < 200)), u31, u32, .slice (some ad) hs.length cap, .int .i64 k, .pointer (some (ad.add (k * 2))), .pointer (some (ad.add (k * 2))), .int .u8 h.d, .int .u8 m, .int .i64 m, u40, u41, u42, u43, u44, u45, u46, u47, u48, u49, u50, u51, u52, u53, u54, u55, u56, u57, u58, u59, u60, u61, u62, u63, u64, u65, u66, u67, u68, u69, u70, u71, u72, u73, u74, u75, u76, u77, u78, u79, u80, u81, u82, u83, u84, u85, u86, u87, u88, u89, u90, u91, u92, u93, u94, u95, u96, u97, u98, u99, u100, u101, u102, u103, u104, u105, u106, u107, u108, u109, u110, u111, u112, u113, u114, u115, u116, u117, u118, u119, u120, u121, u122, u123, u124, u125, u126, u127, u128, u129, u130, u131, u132, u133, u134, u135, u136, u137, u138, u139, u140, u141, u142, u143, u144, u145, u146, u147, u148, u149, u150, u151, u152, u153, u154, u155, u156, u157, u158, u159, u160, u161, u162, u163, u164, u165, u166, u167, u168, u169, u170, u171, u172, u173, u174, u175, u176, u177, u178, u179, u180, u181, u182, u183, u184, u185, u186, u187, u188, u189, undef], []⟩ wr := by
  conv => arg 2; arg 2; whnf
  obtain ⟨i0, hi, hz0, hz1, hz2⟩ := info_parts info66
  unfold Arm at hJ
  rcases hm with rfl
  by_cases hF : F = []
  · subst hF
    go_wp2_with fail
    go_meet
    case rel => exact rel_mk HS.out rfl (inv_next HI.out) H100.out
  · have hF0 : 0 < F.length := List.length_pos_iff.2 hF
    obtain ⟨n0, hn0⟩ : ∃ n0, n0 = F.length := ⟨_, rfl⟩
    rw [← hn0] at hF0
    have hn100 : n0 ≤ 100 := by have := H100.out; omega
    obtain ⟨p0, hp0, hpl⟩ : ∃ p0 : Nat, h.a.tmod (n0 : Int) = (p0 : Int) ∧ p0 < n0 := by
      have h1 := Int.emod_nonneg h.a (show (n0 : Int) ≠ 0 by omega)
      have h2 := Int.emod_lt_of_pos h.a (show (0 : Int) < (n0 : Int) by omega)
      have h3 : h.a.tmod (n0 : Int) = h.a % (n0 : Int) := Int.tmod_eq_emod_of_nonneg HA0.out.1
      exact ⟨(h.a % (n0 : Int)).toNat, by omega, by omega⟩
    obtain ⟨r, x, rfl, hx, hcl, hcm, hrl, hcx⟩ := flight_at HS.out (p := p0) (by omega)
    unfold maxLen at hcm
    rw [← hn0] at hcl ⊢
    have HN0 := Lib.hid hn0
    have HX := Lib.hid hx
    have HF := Lib.hid hF
    obtain ⟨f, p⟩ := x
    have v0 : wr.cell? ⟨r, p0 * 9, none⟩ = some (.int .i64 (f : Int)) := hcx 0 _ rfl
    have v1 := hcx 1 _ rfl
    have v2 := hcx 2 _ rfl
    have v3 := hcx 3 _ rfl
    have v4 := hcx 4 _ rfl
    have v5 := hcx 5 _ rfl
    have v6 := hcx 6 _ rfl
    have v7 := hcx 7 _ rfl
    have v8 := hcx 8 _ rfl
    have hnz : (n0 : Int) ≠ 0 := by omega
    obtain ⟨a0, a1⟩ := HA0.out
    have P0 : (0 : Int) ≤ (p0 : Int) := by omega
    have P1 : (p0 : Int) < (n0 : Int) := by omega
    clear hn0 hx hF hcx
    go_upto_region 23 with fail
    have HE1 := Lib.hid (show Blk _ (wr.heap.size + 1) 66 [] from by have := Blk.new' (wr.alloc (.cells #[.int .i64 (f : Int), .bool p.has, .int .i64 p.nu, .int .i64 p.nt.k, .int .i64 p.nt.s, .int .i64 p.nt.a, .int .i64 p.nt.b, .int .i64 p.nt.c, .int .i64 p.ak] 66)) #[] 66; simp at this; exact this)
    have HB1 := Lib.hid (show Blk _ wr.heap.size 66 (sentV (f, p)) from (Blk.new' wr #[.int .i64 (f : Int), .bool p.has, .int .i64 p.nu, .int .i64 p.nt.k, .int .i64 p.nt.s, .int .i64 p.nt.a, .int .i64 p.nt.b, .int .i64 p.nt.c, .int .i64 p.ak] 66).alloc (.cells #[] 66))
    have q1 : IntKind.i64.wrap ((p0 : Int) + 1) = (p0 : Int) + 1 := IntWalk.i64_in _ (by omega)
    have q2 : ((p0 : Int) + 1).toNat = p0 + 1 := by omega
    have q3 : (0 : Int) ≤ (p0 : Int) + 1 := by omega
    have q4 : (p0 : Int) + 1 ≤ (n0 : Int) := by omega
    have q5 : (n0 : Int) ≤ (cF : Int) := by omega
    have q6 : (p0 : Int) ≤ (cF : Int) := by omega
    rcases Nat.lt_or_ge (p0 + 1) cF with hpc | hpc
    · have HSr := Lib.hid (show ∀ W, Touch (fun _ => False) wr W → SrcRow W (some ⟨r, (p0 + 1) * 9, none⟩) (n0 - (p0 + 1)) (flatS (F.drop (p0 + 1))) from fun W ht => by rw [HN0.out]; exact (flight_src HS.out ht).2 (p0 + 1))
      refine lBegin (S := fun _ W => (True)) (by kernel_rfl) ?_ (fun hHeld => ?_)
      · trivial
      refine lTake (i := 1) (v := ?_) rfl (by kernel_rfl) (by kernel_rfl) (by kernel_rfl) (fun _ _ _ h => h) (by rfl) (fun _ _ h => h) (fun _ _ h => h) ?_ (by assumption) (fun hHeld2 => ?_)
      rotate_left 1
      · (intro _ _ _ _ _; first | (go_simp; done) | (go_simp; with_reducible rfl))
      clear hHeld; have hHeld := hHeld2; clear hHeld2
      (try simp only [Act.put, List.setIfInBounds_toArray, List.set_cons_zero, List.set_cons_succ])
      refine lTake (i := 2) (v := ?_) rfl (by kernel_rfl) (by kernel_rfl) (by kernel_rfl) (fun _ _ _ h => h) (by rfl) (fun _ _ h => h) (fun _ _ h => h) ?_ (by assumption) (fun hHeld2 => ?_)
      rotate_left 1
      · (intro _ _ _ _ _; first | (go_simp; done) | (go_simp; with_reducible rfl))
      clear hHeld; have hHeld := hHeld2; clear hHeld2
      (try simp only [Act.put, List.setIfInBounds_toArray, List.set_cons_zero, List.set_cons_succ])
      refine lTake (i := 3) (v := ?_) rfl (by kernel_rfl) (by kernel_rfl) (by kernel_rfl) (fun _ _ _ h => h) (by rfl) (fun _ _ h => h) (fun _ _ h => h) ?_ (by assumption) (fun hHeld2 => ?_)
      rotate_left 1
      · (intro _ _ _ _ _; first | (go_simp; done) | (go_simp; with_reducible rfl))
      clear hHeld; have hHeld := hHeld2; clear hHeld2
      (try simp only [Act.put, List.setIfInBounds_toArray, List.set_cons_zero, List.set_cons_succ])
      refine lTake (i := 5) (v := ?_) rfl (by kernel_rfl) (by kernel_rfl) (by kernel_rfl) (fun _ _ _ h => h) (by rfl) (fun _ _ h => h) (fun _ _ h => h) ?_ (by assumption) (fun hHeld2 => ?_)
      rotate_left 1
      · (intro _ _ _ _ _; first | (go_simp; done) | (go_simp; with_reducible rfl))
      clear hHeld; have hHeld := hHeld2; clear hHeld2
      (try simp only [Act.put, List.setIfInBounds_toArray, List.set_cons_zero, List.set_cons_succ])
      refine lTake (i := 6) (v := ?_) rfl (by kernel_rfl) (by kernel_rfl) (by kernel_rfl) (fun _ _ _ h => h) (by rfl) (fun _ _ h => h) (fun _ _ h => h) ?_ (by assumption) (fun hHeld2 => ?_)
      rotate_left 1
      · (intro _ _ _ _ _; first | (go_simp; done) | (go_simp; with_reducible rfl))
      clear hHeld; have hHeld := hHeld2; clear hHeld2
      (try simp only [Act.put, List.setIfInBounds_toArray, List.set_cons_zero, List.set_cons_succ])
      refine lTake (i := 7) (v := ?_) rfl (by kernel_rfl) (by kernel_rfl) (by kernel_rfl) (fun _ _ _ h => h) (by rfl) (fun _ _ h => h) (fun _ _ h => h) ?_ (by assumption) (fun hHeld2 => ?_)
      rotate_left 1
      · (intro _ _ _ _ _; first | (go_simp; done) | (go_simp; with_reducible rfl))
      clear hHeld; have hHeld := hHeld2; clear hHeld2
      (try simp only [Act.put, List.setIfInBounds_toArray, List.set_cons_zero, List.set_cons_succ])
      refine lTake (i := 8) (v := ?_) rfl (by kernel_rfl) (by kernel_rfl) (by kernel_rfl) (fun _ _ _ h => h) (by rfl) (fun _ _ h => h) (fun _ _ h => h) ?_ (by assumption) (fun hHeld2 => ?_)
      rotate_left 1
      · (intro _ _ _ _ _; first | (go_simp; done) | (go_simp; with_reducible rfl))
      clear hHeld; have hHeld := hHeld2; clear hHeld2
      (try simp only [Act.put, List.setIfInBounds_toArray, List.set_cons_zero, List.set_cons_succ])
      refine lReady (rs := [0]) (by kernel_rfl) (by simp) ?_
      refine AllL.cons (i := 0) rfl (fun K hK => ?_) ?_
      · go_simp
        (try go_wp2_with fail)
        refine hK.out _ _ ?_ (fun hHeld2 => ?_)
        · trivial
        clear hK K
        clear hHeld; have hHeld := hHeld2; clear hHeld2
        (try simp only [Act.put, List.setIfInBounds_toArray, List.set_cons_zero, List.set_cons_succ])
        refine lReady (rs := [4]) (by kernel_rfl) (by simp) ?_
        refine AllL.cons (i := 4) rfl (fun K hK => ?_) ?_
        · refine step_append_any (.tmp 117) (.tmp 120) 54 rfl rfl w.heap.size 66 i0 (.agg #[.int .i64 0, .bool false, .int .i64 0, .int .i64 0, .int .i64 0, .int .i64 0, .int .i64 0, .int .i64 0, .int .i64 0]) 9 72 Try.underlying54 hi hz0 hz1 hz2 rfl (by decide) (some ⟨wr.heap.size + 1, 0, none⟩) 0 0 [] (by rfl) (own_emptyS HE1.out.drew (by have := HS.out.b.size; omega)) (some ⟨r, 0, none⟩) p0 _ (flatS (F.take p0)) (by rfl) (by rw [flatS_length, List.length_take]; have := HN0.out; omega) ((flight_src HS.out (((Touch.refl _ _).alloc _).alloc _).drew).1 p0) (flatS_one' _) (by unfold maxLen; omega) (by omega) (by have := HS.out.b.size; simp; omega) ?_; intro A1 cap1 w1 hown hgrow hat; have HC1 := Lib.hid (cut_one (((Touch.refl _ _).alloc _).alloc _).drew HB1.out.drew (by omega) hgrow hat); have HO1 := Lib.hid hown; clear hown hgrow hat; try simp only [Nat.zero_add]
          (try go_wp2_with fail)
          refine hK.out _ _ ?_ (fun hHeld2 => ?_)
          · trivial
          clear hK K
          clear hHeld; have hHeld := hHeld2; clear hHeld2
          (try simp only [Act.put, List.setIfInBounds_toArray, List.set_cons_zero, List.set_cons_succ])
          refine lReady (rs := [9]) (by kernel_rfl) (by simp) ?_
          refine AllL.cons (i := 9) rfl (fun K hK => ?_) ?_
          · refine step_append_any (.tmp 121) (.tmp 125) 54 rfl rfl w.heap.size 66 i0 (.agg #[.int .i64 0, .bool false, .int .i64 0, .int .i64 0, .int .i64 0, .int .i64 0, .int .i64 0, .int .i64 0, .int .i64 0]) 9 72 Try.underlying54 hi hz0 hz1 hz2 rfl (by decide) A1 p0 cap1 (flatS (F.take p0)) (by rfl) (by have := HO1.out; simpa using this) (some ⟨r, (p0 + 1) * 9, none⟩) (n0 - (p0 + 1)) _ (flatS (F.drop (p0 + 1))) (by rfl) (by rw [flatS_length, List.length_drop, HN0.out]) (HSr.out _ HC1.out.1.1) (flatS_one' _) (by unfold maxLen; omega) (by omega) (by have := HC1.out.1.1.size; have := HS.out.b.size; omega) ?_; intro A2 cap2 w2 hown hgrow hat; have HC2 := Lib.hid (cut_two HC1.out hgrow); have HF2 := Lib.hid (flight_cut HS.out HC2.out.1 hown HN0.out hpl); clear hown hgrow hat
            (try go_wp2_with fail)
            refine hK.out _ _ ?_ (fun hHeld2 => ?_)
            · trivial
            clear hK K
            clear hHeld; have hHeld := hHeld2; clear hHeld2
            (try simp only [Act.put, List.setIfInBounds_toArray, List.set_cons_zero, List.set_cons_succ])
            refine lTake (i := 10) (v := ?_) rfl (by kernel_rfl) (by kernel_rfl) (by kernel_rfl) (fun _ _ _ h => h) (by rfl) (fun _ _ h => h) (fun _ _ h => h) ?_ (by assumption) (fun hHeld2 => ?_)
            rotate_left 1
            · (intro _ _ _ _ _; first | (go_simp; done) | (go_simp; with_reducible rfl))
            clear hHeld; have hHeld := hHeld2; clear hHeld2
            (try simp only [Act.put, List.setIfInBounds_toArray, List.set_cons_zero, List.set_cons_succ])
            refine lDone (by kernel_rfl) ?_ _
            clear hHeld
            clear q1 q2 q3 q4 q5 q6
            go_wp2_with fail
            (try refine hK1 _ _ _ _ _ _ _ _ _ _ _ _ _ _ _ _ _ _ _ _ _ _ _ _ _ _ _ _ _ _ _ _ _ _ _ _ _ _ _ _ _ _ _ _ _ _ _ _ _ _ _ _ _ _ _ _ _ _ _ _ _ _ _ _ _ _ _ _ _ _ _ _ _ _ _ _ _ _ _ _ _ _ _ _ _ _ _ _ _ _ _ _ _ _ _ _ _ _ _ _ _ _ _ _ _ _ _ _ _ _ _ _ _ _ _ _ _ _ _ _ _ _ _ _ _ _ _ _ _ _ _ _ _ _ _ _ _ _ _ _ _ _ _ _ _ _ _ _ _ _ _ _ _ _ _ _ _ _ _ _ _ _ _ _ _ _ _ _ _ _ _ _ _ _ _ _ _ _ ?_)
            have h2 := HF2.out
            rw [← h2.2]
            exact rel_mk h2.1 rfl (inv_next (HI.out.sub (fun x hx => cut_mem hx))) (by rw [h2.2]; omega)
          exact AllL.nil
        exact AllL.nil
      exact AllL.nil
    · have HSr := Lib.hid (show ∀ W, Touch (fun _ => False) wr W → SrcRow W (some ⟨r, 0, none⟩) (n0 - (p0 + 1)) (flatS (F.drop (p0 + 1))) from fun W ht => by
        rw [List.drop_eq_nil_of_le (by have := HN0.out; omega)]
        exact .inr ⟨_, rfl, fun j u hu => by simp [flatS] at hu⟩)
      refine lBegin (S := fun _ W => (True)) (by kernel_rfl) ?_ (fun hHeld => ?_)
      · trivial
      refine lTake (i := 1) (v := ?_) rfl (by kernel_rfl) (by kernel_rfl) (by kernel_rfl) (fun _ _ _ h => h) (by rfl) (fun _ _ h => h) (fun _ _ h => h) ?_ (by assumption) (fun hHeld2 => ?_)
      rotate_left 1
      · (intro _ _ _ _ _; first | (go_simp; done) | (go_simp; with_reducible rfl))
      clear hHeld; have hHeld := hHeld2; clear hHeld2
      (try simp only [Act.put, List.setIfInBounds_toArray, List.set_cons_zero, List.set_cons_succ])
      refine lTake (i := 2) (v := ?_) rfl (by kernel_rfl) (by kernel_rfl) (by kernel_rfl) (fun _ _ _ h => h) (by rfl) (fun _ _ h => h) (fun _ _ h => h) ?_ (by assumption) (fun hHeld2 => ?_)
      rotate_left 1
      · (intro _ _ _ _ _; first | (go_simp; done) | (go_simp; with_reducible rfl))
      clear hHeld; have hHeld := hHeld2; clear hHeld2
      (try simp only [Act.put, List.setIfInBounds_toArray, List.set_cons_zero, List.set_cons_succ])
      refine lTake (i := 3) (v := ?_) rfl (by kernel_rfl) (by kernel_rfl) (by kernel_rfl) (fun _ _ _ h => h) (by rfl) (fun _ _ h => h) (fun _ _ h => h) ?_ (by assumption) (fun hHeld2 => ?_)
      rotate_left 1
      · (intro _ _ _ _ _; first | (go_simp; done) | (go_simp; with_reducible rfl))
      clear hHeld; have hHeld := hHeld2; clear hHeld2
      (try simp only [Act.put, List.setIfInBounds_toArray, List.set_cons_zero, List.set_cons_succ])
      refine lTake (i := 5) (v := ?_) rfl (by kernel_rfl) (by kernel_rfl) (by kernel_rfl) (fun _ _ _ h => h) (by rfl) (fun _ _ h => h) (fun _ _ h => h) ?_ (by assumption) (fun hHeld2 => ?_)
      rotate_left 1
      · (intro _ _ _ _ _; first | (go_simp; done) | (go_simp; with_reducible rfl))
      clear hHeld; have hHeld := hHeld2; clear hHeld2
      (try simp only [Act.put, List.setIfInBounds_toArray, List.set_cons_zero, List.set_cons_succ])
      refine lTake (i := 6) (v := ?_) rfl (by kernel_rfl) (by kernel_rfl) (by kernel_rfl) (fun _ _ _ h => h) (by rfl) (fun _ _ h => h) (fun _ _ h => h) ?_ (by assumption) (fun hHeld2 => ?_)
      rotate_left 1
      · (intro _ _ _ _ _; first | (go_simp; done) | (go_simp; with_reducible rfl))
      clear hHeld; have hHeld := hHeld2; clear hHeld2
      (try simp only [Act.put, List.setIfInBounds_toArray, List.set_cons_zero, List.set_cons_succ])
      refine lTake (i := 7) (v := ?_) rfl (by kernel_rfl) (by kernel_rfl) (by kernel_rfl) (fun _ _ _ h => h) (by rfl) (fun _ _ h => h) (fun _ _ h => h) ?_ (by assumption) (fun hHeld2 => ?_)
      rotate_left 1
      · (intro _ _ _ _ _; first | (go_simp; done) | (go_simp; with_reducible rfl))
      clear hHeld; have hHeld := hHeld2; clear hHeld2
      (try simp only [Act.put, List.setIfInBounds_toArray, List.set_cons_zero, List.set_cons_succ])
      refine lTake (i := 8) (v := ?_) rfl (by kernel_rfl) (by kernel_rfl) (by kernel_rfl) (fun _ _ _ h => h) (by rfl) (fun _ _ h => h) (fun _ _ h => h) ?_ (by assumption) (fun hHeld2 => ?_)
      rotate_left 1
      · (intro _ _ _ _ _; first | (go_simp; done) | (go_simp; with_reducible rfl))
      clear hHeld; have hHeld := hHeld2; clear hHeld2
      (try simp only [Act.put, List.setIfInBounds_toArray, List.set_cons_zero, List.set_cons_succ])
      refine lReady (rs := [0]) (by kernel_rfl) (by simp) ?_
      refine AllL.cons (i := 0) rfl (fun K hK => ?_) ?_
      · go_simp
        (try go_wp2_with fail)
        refine hK.out _ _ ?_ (fun hHeld2 => ?_)
        · trivial
        clear hK K
        clear hHeld; have hHeld := hHeld2; clear hHeld2
        (try simp only [Act.put, List.setIfInBounds_toArray, List.set_cons_zero, List.set_cons_succ])
        refine lReady (rs := [4]) (by kernel_rfl) (by simp) ?_
        refine AllL.cons (i := 4) rfl (fun K hK => ?_) ?_
        · refine step_append_any (.tmp 117) (.tmp 120) 54 rfl rfl w.heap.size 66 i0 (.agg #[.int .i64 0, .bool false, .int .i64 0, .int .i64 0, .int .i64 0, .int .i64 0, .int .i64 0, .int .i64 0, .int .i64 0]) 9 72 Try.underlying54 hi hz0 hz1 hz2 rfl (by decide) (some ⟨wr.heap.size + 1, 0, none⟩) 0 0 [] (by rfl) (own_emptyS HE1.out.drew (by have := HS.out.b.size; omega)) (some ⟨r, 0, none⟩) p0 _ (flatS (F.take p0)) (by rfl) (by rw [flatS_length, List.length_take]; have := HN0.out; omega) ((flight_src HS.out (((Touch.refl _ _).alloc _).alloc _).drew).1 p0) (flatS_one' _) (by unfold maxLen; omega) (by omega) (by have := HS.out.b.size; simp; omega) ?_; intro A1 cap1 w1 hown hgrow hat; have HC1 := Lib.hid (cut_one (((Touch.refl _ _).alloc _).alloc _).drew HB1.out.drew (by omega) hgrow hat); have HO1 := Lib.hid hown; clear hown hgrow hat; try simp only [Nat.zero_add]
          (try go_wp2_with fail)
          refine hK.out _ _ ?_ (fun hHeld2 => ?_)
          · trivial
          clear hK K
          clear hHeld; have hHeld := hHeld2; clear hHeld2
          (try simp only [Act.put, List.setIfInBounds_toArray, List.set_cons_zero, List.set_cons_succ])
          refine lReady (rs := [9]) (by kernel_rfl) (by simp) ?_
          refine AllL.cons (i := 9) rfl (fun K hK => ?_) ?_
          · refine step_append_any (.tmp 121) (.tmp 125) 54 rfl rfl w.heap.size 66 i0 (.agg #[.int .i64 0, .bool false, .int .i64 0, .int .i64 0, .int .i64 0, .int .i64 0, .int .i64 0, .int .i64 0, .int .i64 0]) 9 72 Try.underlying54 hi hz0 hz1 hz2 rfl (by decide) A1 p0 cap1 (flatS (F.take p0)) (by rfl) (by have := HO1.out; simpa using this) (some ⟨r, 0, none⟩) (n0 - (p0 + 1)) _ (flatS (F.drop (p0 + 1))) (by rfl) (by rw [flatS_length, List.length_drop, HN0.out]) (HSr.out _ HC1.out.1.1) (flatS_one' _) (by unfold maxLen; omega) (by omega) (by have := HC1.out.1.1.size; have := HS.out.b.size; omega) ?_; intro A2 cap2 w2 hown hgrow hat; have HC2 := Lib.hid (cut_two HC1.out hgrow); have HF2 := Lib.hid (flight_cut HS.out HC2.out.1 hown HN0.out hpl); clear hown hgrow hat
            (try go_wp2_with fail)
            refine hK.out _ _ ?_ (fun hHeld2 => ?_)
            · trivial
            clear hK K
            clear hHeld; have hHeld := hHeld2; clear hHeld2
            (try simp only [Act.put, List.setIfInBounds_toArray, List.set_cons_zero, List.set_cons_succ])
            refine lTake (i := 10) (v := ?_) rfl (by kernel_rfl) (by kernel_rfl) (by kernel_rfl) (fun _ _ _ h => h) (by rfl) (fun _ _ h => h) (fun _ _ h => h) ?_ (by assumption) (fun hHeld2 => ?_)
            rotate_left 1
            · (intro _ _ _ _ _; first | (go_simp; done) | (go_simp; with_reducible rfl))
            clear hHeld; have hHeld := hHeld2; clear hHeld2
            (try simp only [Act.put, List.setIfInBounds_toArray, List.set_cons_zero, List.set_cons_succ])
            refine lDone (by kernel_rfl) ?_ _
            clear hHeld
            clear q1 q2 q3 q4 q5 q6
            go_wp2_with fail
            (try refine hK1 _ _ _ _ _ _ _ _ _ _ _ _ _ _ _ _ _ _ _ _ _ _ _ _ _ _ _ _ _ _ _ _ _ _ _ _ _ _ _ _ _ _ _ _ _ _ _ _ _ _ _ _ _ _ _ _ _ _ _ _ _ _ _ _ _ _ _ _ _ _ _ _ _ _ _ _ _ _ _ _ _ _ _ _ _ _ _ _ _ _ _ _ _ _ _ _ _ _ _ _ _ _ _ _ _ _ _ _ _ _ _ _ _ _ _ _ _ _ _ _ _ _ _ _ _ _ _ _ _ _ _ _ _ _ _ _ _ _ _ _ _ _ _ _ _ _ _ _ _ _ _ _ _ _ _ _ _ _ _ _ _ _ _ _ _ _ _ _ _ _ _ _ _ _ _ _ _ _ ?_)
            have h2 := HF2.out
            rw [← h2.2]
            exact rel_mk h2.1 rfl (inv_next (HI.out.sub (fun x hx => cut_mem hx))) (by rw [h2.2]; omega)
          exact AllL.nil
        exact AllL.nil
      exact AllL.nil
end Go.Proofs.Ytafajclbghofkaa
