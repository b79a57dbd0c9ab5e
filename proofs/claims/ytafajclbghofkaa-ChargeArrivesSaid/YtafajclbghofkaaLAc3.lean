/- The law of arrivals: end 1 polls. -/
import Derived.Test.YtafajclbghofkaaE6
namespace Go.Proofs.Ytafajclbghofkaa
open Go.RowKit
set_option linter.unusedVariables false

set_option maxRecDepth 1000000 in
set_option maxHeartbeats 80000000 in
theorem ArC3 (w wr : World) (ad : Addr) (hs : List Hp) (cap k m : Nat) (h : Hp) (A0 : Nat → Option Addr) (c0 : Nat → Nat) (s : Nat → Int) (ln : Nat → Ln) (AF : Option Addr) (cF : Nat) (F : List (Nat × Pk)) (c17 u2 u9 u10 u11 u12 u13 u14 u15 u16 u31 u32 u40 u41 u42 u43 u44 u45 u46 u47 u48 u49 u50 u51 u52 u53 u54 u55 u56 u57 u58 u59 u60 u61 u62 u63 u64 u65 u66 u67 u68 u69 u70 u71 u72 u73 u74 u75 u76 u77 u78 u79 u80 u81 u82 u83 u84 u85 u86 u87 u88 u89 u90 u91 u92 u93 u94 u95 u96 u97 u98 u99 u100 u101 u102 u103 u104 u105 u106 u107 u108 u109 u110 u111 u112 u113 u114 u115 u116 u117 u118 u119 u120 u121 u122 u123 u124 u125 u126 u127 u128 u129 u130 u131 u132 u133 u134 u135 u136 u137 u138 u139 u140 u141 u142 u143 u144 u145 u146 u147 u148 u149 u150 u151 u152 u153 u154 u155 u156 u157 u158 u159 u160 u161 u162 u163 u164 u165 u166 u167 u168 u169 u170 u171 u172 u173 u174 u175 u176 u177 u178 u179 u180 u181 u182 u183 u184 u185 u186 u187 u188 u189 : Value) (J K K1 L1 L2 : Act → World → Prop) (n0 : Nat) (hn : hs.length ≤ 9223372036854775807) (hlt : k < hs.length) (HC : Hid (HopAt w (ad.add (k * 2)) h)) (HD : Hid (0 ≤ h.d ∧ h.d ≤ 255)) (HA0 : Hid (0 ≤ h.a ∧ h.a ≤ 255)) (B0 : (0 : Int) ≤ (k : Int)) (B1 : (k : Int) < (hs.length : Int)) (HS : Hid (ArS w (w.heap.size + 2) (w.heap.size + 3) (w.heap.size + 4) (fun e => w.heap.size + e) A0 c0 s (fun e => (ln e).tk) ln AF cF F wr)) (HI : Hid (Ar.Inv k s ln F)) (H100 : Hid (F.length ≤ 100)) (c1 : wr.cell? (ad.add (k * 2)) = some (.int .u8 h.d)) (c2 : wr.cell? ⟨(ad.add (k * 2)).block, (ad.add (k * 2)).off + 1, none⟩ = some (.int .u8 h.a)) (h200 : k < 200) (hm : m = 3) (hJ : ∀ a' w', Arm w ad hs.length cap k m c17 a' w' → J a' w') (hK : ∀ a' w', Met J a' w' → K a' w') :
    Code.wp Try.prog (Code.block 2 body6) (Exit.then K (Exit.inBlock 1 (Exit.then K1 (Exit.then L1 (Exit.inBlock n0 (Exit.then L2 (bodyPost Try.prog Try.f6 fun e w' => e = .returned (.bool true) ∧ Below w.heap.size w w'))))))) ⟨#[(.slice (some ad) hs.length cap : Value), undef, u2, .slice (some ⟨w.heap.size + 1 + 1, 0, none⟩) 2 2, .slice AF F.length cF, .slice (some ⟨w.heap.size + 1 + 1 + 1, 0, none⟩) 2 2, .slice (some ⟨w.heap.size + 1 + 1 + 1 + 1, 0, none⟩) 2 2, .int .i64 k, .int .i64 m, u9, u10, u11, u12, u13, u14, u15, u16, c17, .pointer (some ⟨w.heap.size, 0, none⟩), .pointer (some ⟨w.heap.size + 1, 0, none⟩), .slice (some ⟨w.heap.size + 1 + 1, 0, none⟩) 2 2, .slice (some ⟨w.heap.size + 1 + 1 + 1, 0, none⟩) 2 2, .slice (some ⟨w.heap.size + 1 + 1 + 1 + 1, 0, none⟩) 2 2, .int .i64 k, .slice (some ad) hs.length cap, .int .i64 hs.length, .bool true, .bool true, .int .i64 k, .bool (decide ((k : Int) < 200)), .bool (decide ((k : Int) < 200)), u31, u32, .slice (some ad) hs.length cap, .int .i64 k, .pointer (some (ad.add (k * 2))), .pointer (some (ad.add (k * 2))), .int .u8 h.d, .int .u8 m, .int .i64 m, u40, u41, u42, u43, u44, u45, u46, u47, u48, u49, u50, u51, u52, u53, u54, u55, u56, u57, u58, u59, u60, u61, u62, u63, u64, u65, u66, u67, u68, u69, u70, u71, u72, u73, u74, u75, u76, u77, u78, u79, u80, u81, u82, u83, u84, u85, u86, u87, u88, u89, u90, u91, u92, u93, u94, u95, u96, u97, u98, u99, u100, u101, u102, u103, u104, u105, u106, u107, u108, u109, u110, u111, u112, u113, u114, u115, u116, u117, u118, u119, u120, u121, u122, u123, u124, u125, u126, u127, u128, u129, u130, u131, u132, u133, u134, u135, u136, u137, u138, u139, u140, u141, u142, u143, u144, u145, u146, u147, u148, u149, u150, u151, u152, u153, u154, u155, u156, u157, u158, u159, u160, u161, u162, u163, u164, u165, u166, u167, u168, u169, u170, u171, u172, u173, u174, u175, u176, u177, u178, u179, u180, u181, u182, u183, u184, u185, u186, u187, u188, u189, undef], []⟩ wr := by
  conv => arg 2; arg 2; whnf
  obtain ⟨i0, hi, hz0, hz1, hz2⟩ := info_parts info66
  unfold Arm at hJ
  rcases hm with rfl
  have he : 1 < 2 := by omega
  obtain ⟨q, hq⟩ : ∃ q, q = Lx.pollP (ln 1) := ⟨_, rfl⟩
  obtain ⟨qb, hqb⟩ : ∃ q, q = Lx.pollB (ln 1) := ⟨_, rfl⟩
  have HQ := Lib.hid hq
  have HQb := Lib.hid hqb
  clear hq hqb
  have y0 : wr.cell? ⟨w.heap.size + 1 + 1, 1, none⟩ = some (.pointer (some ⟨w.heap.size + 1, 0, none⟩)) := HS.out.ends.cell 1 rfl
  obtain ⟨n0, hn0⟩ : ∃ n0, n0 = F.length := ⟨_, rfl⟩
  rw [← hn0]
  have HN0 := Lib.hid hn0
  clear hn0
  cases qb
  · go_wp2_with (go_at_call 30; refine (Poll_c 200 _ _ _ _ _ _ (HS.out.at_ 1 he) (HI.out.mono (show (k : Int) ≤ 200 by omega) |>.ok (show 1 + 0 = 1 by omega)) (by omega)).mono ?_; rintro e w1 ⟨he1, hto⟩; rw [← HQ.out, ← HQb.out] at he1; subst he1; obtain ⟨A1, cc1, hst1⟩ := HS.out.line he hto; have HS1 := Lib.hid hst1; clear hto hst1)
    go_meet
    case rel => rw [HN0.out]; exact rel_poll (show 1 + 0 = 1 by omega) (HS1.out.alloc _) HI.out H100.out
  · by_cases h100 : n0 < 100
    · have hd100 : decide ((n0 : Int) < 100) = true := by simp; omega
      have HN1 := Lib.hid h100
      clear h100
      go_wp2_with (first
        | (go_at_call 30; refine (Poll_c 200 _ _ _ _ _ _ (HS.out.at_ 1 he) (HI.out.mono (show (k : Int) ≤ 200 by omega) |>.ok (show 1 + 0 = 1 by omega)) (by omega)).mono ?_; rintro e w1 ⟨he1, hto⟩; rw [← HQ.out, ← HQb.out] at he1; subst he1; obtain ⟨A1, cc1, hst1⟩ := HS.out.line he hto; have HS1 := Lib.hid hst1; clear hto hst1)
        | (at_builtin; refine wpList_append_any (.tmp 91) (.tmp 96) 54 rfl rfl w.heap.size 66 i0 (.agg #[.int .i64 0, .bool false, .int .i64 0, .int .i64 0, .int .i64 0, .int .i64 0, .int .i64 0, .int .i64 0, .int .i64 0]) 9 72 Try.underlying54 hi hz0 hz1 hz2 rfl (by decide) AF n0 cF (flatS F) (by rfl) (by rw [HN0.out]; exact ((HS1.out.alloc _).alloc _).fl) (some ⟨w1.heap.size + 1, 0, none⟩) 1 1 (sentV (1, q)) (by rfl) rfl (src_sent (sent_new w1 _ (1, q))) (fun u hu => flatS_one' [(1, q)] u (by simpa [flatS] using hu)) (by have := HN1.out; unfold maxLen; omega) (by have := HN1.out; omega) (by have := ((HS1.out.alloc (.cells #[] 0)).alloc (.cells #[] 0)).b.size; simp at this ⊢; omega) ?_; intro A2 cap2 w2 hown hgrow hat; have HS2 := Lib.hid (flight_add ((HS1.out.alloc _).alloc _) hgrow hown HN0.out); clear hown hgrow hat))
      go_meet
      case rel =>
        have h2 := HS2.out
        rw [HQ.out] at h2
        rw [HN0.out]
        exact rel_add (show 1 + 0 = 1 by omega) h2 HI.out HQb.out.symm (by have := HN1.out; have := HN0.out; omega)
    · have hd100 : decide ((n0 : Int) < 100) = false := by simp; omega
      clear h100
      go_wp2_with (go_at_call 30; refine (Poll_c 200 _ _ _ _ _ _ (HS.out.at_ 1 he) (HI.out.mono (show (k : Int) ≤ 200 by omega) |>.ok (show 1 + 0 = 1 by omega)) (by omega)).mono ?_; rintro e w1 ⟨he1, hto⟩; rw [← HQ.out, ← HQb.out] at he1; subst he1; obtain ⟨A1, cc1, hst1⟩ := HS.out.line he hto; have HS1 := Lib.hid hst1; clear hto hst1)
      go_meet
      case rel => rw [HN0.out]; exact rel_poll (show 1 + 0 = 1 by omega) (HS1.out.alloc _) HI.out H100.out
end Go.Proofs.Ytafajclbghofkaa
