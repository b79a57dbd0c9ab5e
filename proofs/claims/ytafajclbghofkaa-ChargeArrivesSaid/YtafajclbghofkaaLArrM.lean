/- The law of arrivals. -/
import Derived.Test.YtafajclbghofkaaLAc0
import Derived.Test.YtafajclbghofkaaLAc1
import Derived.Test.YtafajclbghofkaaLAc2
import Derived.Test.YtafajclbghofkaaLAc3
import Derived.Test.YtafajclbghofkaaLAc4
import Derived.Test.YtafajclbghofkaaLAc5
namespace Go.Proofs.Ytafajclbghofkaa
open Go.RowKit
set_option linter.unusedVariables false

theorem wp_code {P : Program} {c c' : Code} {Q : Exit → Act → World → Prop} {a : Act} {W : World} (h : c = c') (hw : Code.wp P c' Q a W) : Code.wp P c Q a W := h ▸ hw
set_option maxRecDepth 1000000 in
theorem arm_out {w : World} {ad : Addr} {n cap k m : Nat} {c17 : Value} {J : Act → World → Prop} (h : ∀ a w', (∃ u2 u4 u9 u10 u11 u12 u13 u14 u15 u16 u23 u24 u25 u26 u27 u28 u29 u30 u31 u32 u33 u34 u35 u36 u37 u38 u39 u40 u41 u42 u43 u44 u45 u46 u47 u48 u49 u50 u51 u52 u53 u54 u55 u56 u57 u58 u59 u60 u61 u62 u63 u64 u65 u66 u67 u68 u69 u70 u71 u72 u73 u74 u75 u76 u77 u78 u79 u80 u81 u82 u83 u84 u85 u86 u87 u88 u89 u90 u91 u92 u93 u94 u95 u96 u97 u98 u99 u100 u101 u102 u103 u104 u105 u106 u107 u108 u109 u110 u111 u112 u113 u114 u115 u116 u117 u118 u119 u120 u121 u122 u123 u124 u125 u126 u127 u128 u129 u130 u131 u132 u133 u134 u135 u136 u137 u138 u139 u140 u141 u142 u143 u144 u145 u146 u147 u148 u149 u150 u151 u152 u153 u154 u155 u156 u157 u158 u159 u160 u161 u162 u163 u164 u165 u166 u167 u168 u169 u170 u171 u172 u173 u174 u175 u176 u177 u178 u179 u180 u181 u182 u183 u184 u185 u186 u187 u188 u189 : Value, ArRel w (k + 1) u4 w' ∧ a = ⟨#[(.slice (some ad) n cap : Value), undef, u2, .slice (some ⟨w.heap.size + 1 + 1, 0, none⟩) 2 2, u4, .slice (some ⟨w.heap.size + 1 + 1 + 1, 0, none⟩) 2 2, .slice (some ⟨w.heap.size + 1 + 1 + 1 + 1, 0, none⟩) 2 2, .int .i64 k, .int .i64 m, u9, u10, u11, u12, u13, u14, u15, u16, c17, .pointer (some ⟨w.heap.size, 0, none⟩), .pointer (some ⟨w.heap.size + 1, 0, none⟩), .slice (some ⟨w.heap.size + 1 + 1, 0, none⟩) 2 2, .slice (some ⟨w.heap.size + 1 + 1 + 1, 0, none⟩) 2 2, .slice (some ⟨w.heap.size + 1 + 1 + 1 + 1, 0, none⟩) 2 2, u23, u24, u25, u26, u27, u28, u29, u30, u31, u32, u33, u34, u35, u36, u37, u38, u39, u40, u41, u42, u43, u44, u45, u46, u47, u48, u49, u50, u51, u52, u53, u54, u55, u56, u57, u58, u59, u60, u61, u62, u63, u64, u65, u66, u67, u68, u69, u70, u71, u72, u73, u74, u75, u76, u77, u78, u79, u80, u81, u82, u83, u84, u85, u86, u87, u88, u89, u90, u91, u92, u93, u94, u95, u96, u97, u98, u99, u100, u101, u102, u103, u104, u105, u106, u107, u108, u109, u110, u111, u112, u113, u114, u115, u116, u117, u118, u119, u120, u121, u122, u123, u124, u125, u126, u127, u128, u129, u130, u131, u132, u133, u134, u135, u136, u137, u138, u139, u140, u141, u142, u143, u144, u145, u146, u147, u148, u149, u150, u151, u152, u153, u154, u155, u156, u157, u158, u159, u160, u161, u162, u163, u164, u165, u166, u167, u168, u169, u170, u171, u172, u173, u174, u175, u176, u177, u178, u179, u180, u181, u182, u183, u184, u185, u186, u187, u188, u189, undef], []⟩) → J a w') (a : Act) (w' : World) (hh : Arm w ad n cap k m c17 a w') : J a w' := by
  unfold Arm at hh
  obtain ⟨u2, hh⟩ := hh
  obtain ⟨u9, hh⟩ := hh
  obtain ⟨u10, hh⟩ := hh
  obtain ⟨u11, hh⟩ := hh
  obtain ⟨u12, hh⟩ := hh
  obtain ⟨u13, hh⟩ := hh
  obtain ⟨u14, hh⟩ := hh
  obtain ⟨u15, hh⟩ := hh
  obtain ⟨u16, hh⟩ := hh
  obtain ⟨u23, hh⟩ := hh
  obtain ⟨u24, hh⟩ := hh
  obtain ⟨u25, hh⟩ := hh
  obtain ⟨u26, hh⟩ := hh
  obtain ⟨u27, hh⟩ := hh
  obtain ⟨u28, hh⟩ := hh
  obtain ⟨u29, hh⟩ := hh
  obtain ⟨u30, hh⟩ := hh
  obtain ⟨u31, hh⟩ := hh
  obtain ⟨u32, hh⟩ := hh
  obtain ⟨u33, hh⟩ := hh
  obtain ⟨u34, hh⟩ := hh
  obtain ⟨u35, hh⟩ := hh
  obtain ⟨u36, hh⟩ := hh
  obtain ⟨u37, hh⟩ := hh
  obtain ⟨u38, hh⟩ := hh
  obtain ⟨u39, hh⟩ := hh
  obtain ⟨u40, hh⟩ := hh
  obtain ⟨u41, hh⟩ := hh
  obtain ⟨u42, hh⟩ := hh
  obtain ⟨u43, hh⟩ := hh
  obtain ⟨u44, hh⟩ := hh
  obtain ⟨u45, hh⟩ := hh
  obtain ⟨u46, hh⟩ := hh
  obtain ⟨u47, hh⟩ := hh
  obtain ⟨u48, hh⟩ := hh
  obtain ⟨u49, hh⟩ := hh
  obtain ⟨u50, hh⟩ := hh
  obtain ⟨u51, hh⟩ := hh
  obtain ⟨u52, hh⟩ := hh
  obtain ⟨u53, hh⟩ := hh
  obtain ⟨u54, hh⟩ := hh
  obtain ⟨u55, hh⟩ := hh
  obtain ⟨u56, hh⟩ := hh
  obtain ⟨u57, hh⟩ := hh
  obtain ⟨u58, hh⟩ := hh
  obtain ⟨u59, hh⟩ := hh
  obtain ⟨u60, hh⟩ := hh
  obtain ⟨u61, hh⟩ := hh
  obtain ⟨u62, hh⟩ := hh
  obtain ⟨u63, hh⟩ := hh
  obtain ⟨u64, hh⟩ := hh
  obtain ⟨u65, hh⟩ := hh
  obtain ⟨u66, hh⟩ := hh
  obtain ⟨u67, hh⟩ := hh
  obtain ⟨u68, hh⟩ := hh
  obtain ⟨u69, hh⟩ := hh
  obtain ⟨u70, hh⟩ := hh
  obtain ⟨u71, hh⟩ := hh
  obtain ⟨u72, hh⟩ := hh
  obtain ⟨u73, hh⟩ := hh
  obtain ⟨u74, hh⟩ := hh
  obtain ⟨u75, hh⟩ := hh
  obtain ⟨u76, hh⟩ := hh
  obtain ⟨u77, hh⟩ := hh
  obtain ⟨u78, hh⟩ := hh
  obtain ⟨u79, hh⟩ := hh
  obtain ⟨u80, hh⟩ := hh
  obtain ⟨u81, hh⟩ := hh
  obtain ⟨u82, hh⟩ := hh
  obtain ⟨u83, hh⟩ := hh
  obtain ⟨u84, hh⟩ := hh
  obtain ⟨u85, hh⟩ := hh
  obtain ⟨u86, hh⟩ := hh
  obtain ⟨u87, hh⟩ := hh
  obtain ⟨u88, hh⟩ := hh
  obtain ⟨u89, hh⟩ := hh
  obtain ⟨u90, hh⟩ := hh
  obtain ⟨u91, hh⟩ := hh
  obtain ⟨u92, hh⟩ := hh
  obtain ⟨u93, hh⟩ := hh
  obtain ⟨u94, hh⟩ := hh
  obtain ⟨u95, hh⟩ := hh
  obtain ⟨u96, hh⟩ := hh
  obtain ⟨u97, hh⟩ := hh
  obtain ⟨u98, hh⟩ := hh
  obtain ⟨u99, hh⟩ := hh
  obtain ⟨u100, hh⟩ := hh
  obtain ⟨u101, hh⟩ := hh
  obtain ⟨u102, hh⟩ := hh
  obtain ⟨u103, hh⟩ := hh
  obtain ⟨u104, hh⟩ := hh
  obtain ⟨u105, hh⟩ := hh
  obtain ⟨u106, hh⟩ := hh
  obtain ⟨u107, hh⟩ := hh
  obtain ⟨u108, hh⟩ := hh
  obtain ⟨u109, hh⟩ := hh
  obtain ⟨u110, hh⟩ := hh
  obtain ⟨u111, hh⟩ := hh
  obtain ⟨u112, hh⟩ := hh
  obtain ⟨u113, hh⟩ := hh
  obtain ⟨u114, hh⟩ := hh
  obtain ⟨u115, hh⟩ := hh
  obtain ⟨u116, hh⟩ := hh
  obtain ⟨u117, hh⟩ := hh
  obtain ⟨u118, hh⟩ := hh
  obtain ⟨u119, hh⟩ := hh
  obtain ⟨u120, hh⟩ := hh
  obtain ⟨u121, hh⟩ := hh
  obtain ⟨u122, hh⟩ := hh
  obtain ⟨u123, hh⟩ := hh
  obtain ⟨u124, hh⟩ := hh
  obtain ⟨u125, hh⟩ := hh
  obtain ⟨u126, hh⟩ := hh
  obtain ⟨u127, hh⟩ := hh
  obtain ⟨u128, hh⟩ := hh
  obtain ⟨u129, hh⟩ := hh
  obtain ⟨u130, hh⟩ := hh
  obtain ⟨u131, hh⟩ := hh
  obtain ⟨u132, hh⟩ := hh
  obtain ⟨u133, hh⟩ := hh
  obtain ⟨u134, hh⟩ := hh
  obtain ⟨u135, hh⟩ := hh
  obtain ⟨u136, hh⟩ := hh
  obtain ⟨u137, hh⟩ := hh
  obtain ⟨u138, hh⟩ := hh
  obtain ⟨u139, hh⟩ := hh
  obtain ⟨u140, hh⟩ := hh
  obtain ⟨u141, hh⟩ := hh
  obtain ⟨u142, hh⟩ := hh
  obtain ⟨u143, hh⟩ := hh
  obtain ⟨u144, hh⟩ := hh
  obtain ⟨u145, hh⟩ := hh
  obtain ⟨u146, hh⟩ := hh
  obtain ⟨u147, hh⟩ := hh
  obtain ⟨u148, hh⟩ := hh
  obtain ⟨u149, hh⟩ := hh
  obtain ⟨u150, hh⟩ := hh
  obtain ⟨u151, hh⟩ := hh
  obtain ⟨u152, hh⟩ := hh
  obtain ⟨u153, hh⟩ := hh
  obtain ⟨u154, hh⟩ := hh
  obtain ⟨u155, hh⟩ := hh
  obtain ⟨u156, hh⟩ := hh
  obtain ⟨u157, hh⟩ := hh
  obtain ⟨u158, hh⟩ := hh
  obtain ⟨u159, hh⟩ := hh
  obtain ⟨u160, hh⟩ := hh
  obtain ⟨u161, hh⟩ := hh
  obtain ⟨u162, hh⟩ := hh
  obtain ⟨u163, hh⟩ := hh
  obtain ⟨u164, hh⟩ := hh
  obtain ⟨u165, hh⟩ := hh
  obtain ⟨u166, hh⟩ := hh
  obtain ⟨u167, hh⟩ := hh
  obtain ⟨u168, hh⟩ := hh
  obtain ⟨u169, hh⟩ := hh
  obtain ⟨u170, hh⟩ := hh
  obtain ⟨u171, hh⟩ := hh
  obtain ⟨u172, hh⟩ := hh
  obtain ⟨u173, hh⟩ := hh
  obtain ⟨u174, hh⟩ := hh
  obtain ⟨u175, hh⟩ := hh
  obtain ⟨u176, hh⟩ := hh
  obtain ⟨u177, hh⟩ := hh
  obtain ⟨u178, hh⟩ := hh
  obtain ⟨u179, hh⟩ := hh
  obtain ⟨u180, hh⟩ := hh
  obtain ⟨u181, hh⟩ := hh
  obtain ⟨u182, hh⟩ := hh
  obtain ⟨u183, hh⟩ := hh
  obtain ⟨u184, hh⟩ := hh
  obtain ⟨u185, hh⟩ := hh
  obtain ⟨u186, hh⟩ := hh
  obtain ⟨u187, hh⟩ := hh
  obtain ⟨u188, hh⟩ := hh
  obtain ⟨u189, hh⟩ := hh
  obtain ⟨u4, hh⟩ := hh
  exact h a w' ⟨u2, u4, u9, u10, u11, u12, u13, u14, u15, u16, u23, u24, u25, u26, u27, u28, u29, u30, u31, u32, u33, u34, u35, u36, u37, u38, u39, u40, u41, u42, u43, u44, u45, u46, u47, u48, u49, u50, u51, u52, u53, u54, u55, u56, u57, u58, u59, u60, u61, u62, u63, u64, u65, u66, u67, u68, u69, u70, u71, u72, u73, u74, u75, u76, u77, u78, u79, u80, u81, u82, u83, u84, u85, u86, u87, u88, u89, u90, u91, u92, u93, u94, u95, u96, u97, u98, u99, u100, u101, u102, u103, u104, u105, u106, u107, u108, u109, u110, u111, u112, u113, u114, u115, u116, u117, u118, u119, u120, u121, u122, u123, u124, u125, u126, u127, u128, u129, u130, u131, u132, u133, u134, u135, u136, u137, u138, u139, u140, u141, u142, u143, u144, u145, u146, u147, u148, u149, u150, u151, u152, u153, u154, u155, u156, u157, u158, u159, u160, u161, u162, u163, u164, u165, u166, u167, u168, u169, u170, u171, u172, u173, u174, u175, u176, u177, u178, u179, u180, u181, u182, u183, u184, u185, u186, u187, u188, u189, hh⟩
set_option maxRecDepth 100000 in
set_option maxHeartbeats 8000000 in
theorem Arrives_walk (A : Option Addr) (hs : List Hp) (cap : Nat) (w : World) (hcap : hs.length ≤ cap) (hl : cap ≤ 9223372036854775807) (hw : HopsAt w A hs) :
    Calls Try.prog 6 #[.slice A hs.length cap] w fun e w' => e = .returned (.bool true) ∧ Below w.heap.size w w' := by
  have HW := Lib.hid hw
  have hn : hs.length ≤ 9223372036854775807 := by omega
  obtain ⟨i0, hi, hz0, hz1, hz2⟩ := info_parts info66
  clear hw
  go_enter Try.func6, Try.ntmps6
  go_wp2_with (go_at_call 27; refine (NewLine_c _).mono ?_; rintro e w' ⟨rfl, rfl⟩)
  go_loopw [4, 7] (fun fl i wr => ∃ k : Nat, k ≤ hs.length ∧ i = .int .i64 k ∧ ArRel w k fl wr) (fun _ i _ => hs.length - (intOf i).toNat)
  case atStart =>
    refine ⟨0, Nat.zero_le _, rfl, fun _ => none, fun _ => 0, fun _ => 0, fun _ => Lx.ln0, none, 0, [], rfl, ?_, Ar.inv_start, by simp⟩
    exact ar_start w
  case round =>
    obtain ⟨k, hk, rfl, hrel⟩ := hrel
    have HR := Lib.hid hrel
    clear hrel
    by_cases hlt : k < hs.length
    · by_cases h200 : k < 200
      · obtain ⟨ad, hA, hc, hd0, ha0⟩ := HW.out k hlt
        subst hA
        have HC := Lib.hid hc
        have HD := Lib.hid hd0
        have HA0 := Lib.hid ha0
        clear hc hd0 ha0
        generalize hs.getD k default = h at *
        have B0 : (0:Int) ≤ (k:Int) := by omega
        have B1 : (k:Int) < (hs.length:Int) := by omega
        obtain ⟨A0, c0, s, ln, AF, cF, F, rfl, hst, hinv, h100⟩ := HR.out
        have HS := Lib.hid hst
        have HI := Lib.hid hinv
        have H100 := Lib.hid h100
        clear hst hinv h100 HR
        obtain ⟨c1, c2⟩ := HC.out.below HS.out.b
        obtain ⟨m, hm, hm7⟩ : ∃ m : Nat, h.d.tmod 7 = (m : Int) ∧ m < 7 := by
          have h1 := Int.emod_nonneg h.d (show (7 : Int) ≠ 0 by decide)
          have h2 := Int.emod_lt_of_pos h.d (show (0 : Int) < 7 by decide)
          have h3 : h.d.tmod 7 = h.d % 7 := Int.tmod_eq_emod_of_nonneg HD.out.1
          exact ⟨(h.d % 7).toNat, by omega, by omega⟩
        obtain ⟨d0, d1⟩ := HD.out
        go_upto_block 2 with fail
        clear hm d0 d1
        go_cut [4] from 23 to 189 (fun s4 wx => ArRel w (k + 1) s4 wx)
        case first =>
          rename_i hR7 KK hB3 J1 KJ a1 a0
          have hJ := arm_out a1
          clear a1 hB3
          refine wp_code (c' := Code.block 2 body6) (by kernel_rfl) ?_
          have h7 : m = 0 ∨ m = 1 ∨ m = 2 ∨ m = 3 ∨ m = 5 ∨ (m = 4 ∨ m = 6) := by omega
          rcases h7 with h7 | h7 | h7 | h7 | h7 | h7
          · refine ArC0 w wr ad hs cap k m h A0 c0 s ln AF cF F _ _ _ _ _ _ _ _ _ _ _ _ _ _ _ _ _ _ _ _ _ _ _ _ _ _ _ _ _ _ _ _ _ _ _ _ _ _ _ _ _ _ _ _ _ _ _ _ _ _ _ _ _ _ _ _ _ _ _ _ _ _ _ _ _ _ _ _ _ _ _ _ _ _ _ _ _ _ _ _ _ _ _ _ _ _ _ _ _ _ _ _ _ _ _ _ _ _ _ _ _ _ _ _ _ _ _ _ _ _ _ _ _ _ _ _ _ _ _ _ _ _ _ _ _ _ _ _ _ _ _ _ _ _ _ _ _ _ _ _ _ _ _ _ _ _ _ _ _ _ _ _ _ _ _ _ _ _ _ _ _ _ _ _ _ _ _ _ hn hlt HC HD HA0 B0 B1 HS HI H100 c1 c2 h200 h7 hJ a0
          · refine ArC1 w wr ad hs cap k m h A0 c0 s ln AF cF F _ _ _ _ _ _ _ _ _ _ _ _ _ _ _ _ _ _ _ _ _ _ _ _ _ _ _ _ _ _ _ _ _ _ _ _ _ _ _ _ _ _ _ _ _ _ _ _ _ _ _ _ _ _ _ _ _ _ _ _ _ _ _ _ _ _ _ _ _ _ _ _ _ _ _ _ _ _ _ _ _ _ _ _ _ _ _ _ _ _ _ _ _ _ _ _ _ _ _ _ _ _ _ _ _ _ _ _ _ _ _ _ _ _ _ _ _ _ _ _ _ _ _ _ _ _ _ _ _ _ _ _ _ _ _ _ _ _ _ _ _ _ _ _ _ _ _ _ _ _ _ _ _ _ _ _ _ _ _ _ _ _ _ _ _ _ _ _ hn hlt HC HD HA0 B0 B1 HS HI H100 c1 c2 h200 h7 hJ a0
          · refine ArC2 w wr ad hs cap k m h A0 c0 s ln AF cF F _ _ _ _ _ _ _ _ _ _ _ _ _ _ _ _ _ _ _ _ _ _ _ _ _ _ _ _ _ _ _ _ _ _ _ _ _ _ _ _ _ _ _ _ _ _ _ _ _ _ _ _ _ _ _ _ _ _ _ _ _ _ _ _ _ _ _ _ _ _ _ _ _ _ _ _ _ _ _ _ _ _ _ _ _ _ _ _ _ _ _ _ _ _ _ _ _ _ _ _ _ _ _ _ _ _ _ _ _ _ _ _ _ _ _ _ _ _ _ _ _ _ _ _ _ _ _ _ _ _ _ _ _ _ _ _ _ _ _ _ _ _ _ _ _ _ _ _ _ _ _ _ _ _ _ _ _ _ _ _ _ _ _ _ _ _ _ _ hn hlt HC HD HA0 B0 B1 HS HI H100 c1 c2 h200 h7 hJ a0
          · refine ArC3 w wr ad hs cap k m h A0 c0 s ln AF cF F _ _ _ _ _ _ _ _ _ _ _ _ _ _ _ _ _ _ _ _ _ _ _ _ _ _ _ _ _ _ _ _ _ _ _ _ _ _ _ _ _ _ _ _ _ _ _ _ _ _ _ _ _ _ _ _ _ _ _ _ _ _ _ _ _ _ _ _ _ _ _ _ _ _ _ _ _ _ _ _ _ _ _ _ _ _ _ _ _ _ _ _ _ _ _ _ _ _ _ _ _ _ _ _ _ _ _ _ _ _ _ _ _ _ _ _ _ _ _ _ _ _ _ _ _ _ _ _ _ _ _ _ _ _ _ _ _ _ _ _ _ _ _ _ _ _ _ _ _ _ _ _ _ _ _ _ _ _ _ _ _ _ _ _ _ _ _ _ hn hlt HC HD HA0 B0 B1 HS HI H100 c1 c2 h200 h7 hJ a0
          · refine ArC4 w wr ad hs cap k m h A0 c0 s ln AF cF F _ _ _ _ _ _ _ _ _ _ _ _ _ _ _ _ _ _ _ _ _ _ _ _ _ _ _ _ _ _ _ _ _ _ _ _ _ _ _ _ _ _ _ _ _ _ _ _ _ _ _ _ _ _ _ _ _ _ _ _ _ _ _ _ _ _ _ _ _ _ _ _ _ _ _ _ _ _ _ _ _ _ _ _ _ _ _ _ _ _ _ _ _ _ _ _ _ _ _ _ _ _ _ _ _ _ _ _ _ _ _ _ _ _ _ _ _ _ _ _ _ _ _ _ _ _ _ _ _ _ _ _ _ _ _ _ _ _ _ _ _ _ _ _ _ _ _ _ _ _ _ _ _ _ _ _ _ _ _ _ _ _ _ _ _ _ _ _ hn hlt HC HD HA0 B0 B1 HS HI H100 c1 c2 h200 h7 hJ a0 ?_
            intros
            rename_i hr
            refine hR7 _ _ ?_
            have HR := Lib.hid hr
            clear hr hR7 a0 hJ
            go_wp2
            exact ⟨⟨k + 1, by omega, by go_num, HR.out⟩, by simp [intOf]; omega⟩
          · refine ArC5 w wr ad hs cap k m h A0 c0 s ln AF cF F _ _ _ _ _ _ _ _ _ _ _ _ _ _ _ _ _ _ _ _ _ _ _ _ _ _ _ _ _ _ _ _ _ _ _ _ _ _ _ _ _ _ _ _ _ _ _ _ _ _ _ _ _ _ _ _ _ _ _ _ _ _ _ _ _ _ _ _ _ _ _ _ _ _ _ _ _ _ _ _ _ _ _ _ _ _ _ _ _ _ _ _ _ _ _ _ _ _ _ _ _ _ _ _ _ _ _ _ _ _ _ _ _ _ _ _ _ _ _ _ _ _ _ _ _ _ _ _ _ _ _ _ _ _ _ _ _ _ _ _ _ _ _ _ _ _ _ _ _ _ _ _ _ _ _ _ _ _ _ _ _ _ _ _ _ _ _ _ hn hlt HC HD HA0 B0 B1 HS HI H100 c1 c2 h200 h7 hJ a0 ?_
            intros
            rename_i hr
            refine hR7 _ _ ?_
            have HR := Lib.hid hr
            clear hr hR7 a0 hJ
            go_wp2
            exact ⟨⟨k + 1, by omega, by go_num, HR.out⟩, by simp [intOf]; omega⟩
        case rest =>
          as_aux_lemma =>
            obtain ⟨A1, cc1, s1, ln1, AF1, cF1, F1, rfl, hst, hinv, h100⟩ := hcut
            have x0a : decide (s1 0 < (ln1 1).tk) = false := by have := (hinv.ends (show 0 + 1 = 1 by omega)).t1; simp; omega
            have x0b : IntKind.i64.wrap (s1 0 - ((ln1 0).L.length : Int)) = s1 0 - ((ln1 0).L.length : Int) := IntWalk.i64_in _ (by have h1 := hinv.ends (show 0 + 1 = 1 by omega); have := h1.len; have := h1.d0; have := h1.d1; have := h1.t1; have := hinv.bound (show 0 + 1 = 1 by omega); omega)
            have x0c : decide ((ln1 1).tk < s1 0 - ((ln1 0).L.length : Int)) = false := by have h1 := hinv.ends (show 0 + 1 = 1 by omega); have := h1.len; have := h1.d1; simp; omega
            have X0 := Lib.hid (And.intro x0a (And.intro x0b x0c))
            clear x0a x0b x0c
            have x1a : decide (s1 1 < (ln1 0).tk) = false := by have := (hinv.ends (show 1 + 0 = 1 by omega)).t1; simp; omega
            have x1b : IntKind.i64.wrap (s1 1 - ((ln1 1).L.length : Int)) = s1 1 - ((ln1 1).L.length : Int) := IntWalk.i64_in _ (by have h1 := hinv.ends (show 1 + 0 = 1 by omega); have := h1.len; have := h1.d0; have := h1.d1; have := h1.t1; have := hinv.bound (show 1 + 0 = 1 by omega); omega)
            have x1c : decide ((ln1 0).tk < s1 1 - ((ln1 1).L.length : Int)) = false := by have h1 := hinv.ends (show 1 + 0 = 1 by omega); have := h1.len; have := h1.d1; simp; omega
            have X1 := Lib.hid (And.intro x1a (And.intro x1b x1c))
            clear x1a x1b x1c
            have HS1 := Lib.hid hst
            have HI1 := Lib.hid hinv
            have H1001 := Lib.hid h100
            clear hst hinv h100
            go_wp2_with fail
            refine wp_loop_rounds 3 ?_
            rw [rounds_succ]
            go_wp2_with fail
            obtain ⟨x0a, x0b, x0c⟩ := X0.out
            have z1 : IntKind.i64.wrap 1 = 1 := by decide
            have z0 : IntKind.i64.wrap 0 = 0 := by decide
            refine lBegin (S := fun _ W => (W.cell? ⟨w.heap.size + 1 + 1, 0, none⟩ = some (.pointer (some ⟨w.heap.size, 0, none⟩)) ∧ W.cell? ⟨w.heap.size + 1 + 1 + 1, 0, none⟩ = some (.int .i64 (s1 0)) ∧ W.cell? ⟨w.heap.size + 1 + 1 + 1 + 1, 1, none⟩ = some (.int .i64 (ln1 1).tk))) (by kernel_rfl) ?_ (fun hHeld => ?_)
            · (try dsimp only); (first | with_reducible assumption | exact ⟨HS1.out.drew.ends.cell 0 rfl, HS1.out.drew.sent.cell 0 rfl, HS1.out.drew.got.cell 1 rfl⟩)
            refine lTake (i := 0) (v := ?_) rfl (by kernel_rfl) (by kernel_rfl) (by kernel_rfl) (fun _ _ _ h => h) (by rfl) (fun _ _ h => h) (fun _ _ h => h) ?_ (by assumption) (fun hHeld2 => ?_)
            rotate_left 1
            · (intro _ _ _ _ _; first | (go_simp; done) | (go_simp; with_reducible rfl))
            clear hHeld; have hHeld := hHeld2; clear hHeld2
            (try simp only [Act.put, List.setIfInBounds_toArray, List.set_cons_zero, List.set_cons_succ])
            refine lTake (i := 1) (v := ?_) rfl (by kernel_rfl) (by kernel_rfl) (by kernel_rfl) (fun _ _ _ h => h) (by rfl) (fun _ _ h => h) (fun _ _ h => h) ?_ (by assumption) (fun hHeld2 => ?_)
            rotate_left 1
            · (intro _ _ _ _ _; first | (go_simp; done) | (go_simp; with_reducible rfl))
            clear hHeld; have hHeld := hHeld2; clear hHeld2
            (try simp only [Act.put, List.setIfInBounds_toArray, List.set_cons_zero, List.set_cons_succ])
            refine lTake (i := 2) (v := ?_) rfl (by kernel_rfl) (by kernel_rfl) (by kernel_rfl) (fun _ _ _ h => h) (by rfl) (fun _ _ h => h) (fun _ _ h => h) ?_ (by assumption) (fun hHeld2 => ?_)
            rotate_left 1
            · (intro _ _ _ _ _; first | (go_simp; done) | (go_simp; with_reducible rfl))
            clear hHeld; have hHeld := hHeld2; clear hHeld2
            (try simp only [Act.put, List.setIfInBounds_toArray, List.set_cons_zero, List.set_cons_succ])
            refine lTake (i := 3) (v := ?_) rfl (by kernel_rfl) (by kernel_rfl) (by kernel_rfl) (fun _ _ _ h => h) (by rfl) (fun _ _ h => h) (fun _ _ h => h) ?_ (by assumption) (fun hHeld2 => ?_)
            rotate_left 1
            · (intro _ _ _ _ _; first | (go_simp; done) | (go_simp; with_reducible rfl))
            clear hHeld; have hHeld := hHeld2; clear hHeld2
            (try simp only [Act.put, List.setIfInBounds_toArray, List.set_cons_zero, List.set_cons_succ])
            refine lTake (i := 4) (v := ?_) rfl (by kernel_rfl) (by kernel_rfl) (by kernel_rfl) (fun _ _ _ h => h) (by rfl) (fun _ _ h => h) (fun _ _ h => h) ?_ (by assumption) (fun hHeld2 => ?_)
            rotate_left 1
            · (intro L W _ _ hSw; (try dsimp only at hSw); first | (go_simp; done) | (go_simp; with_reducible rfl))
            clear hHeld; have hHeld := hHeld2; clear hHeld2
            (try simp only [Act.put, List.setIfInBounds_toArray, List.set_cons_zero, List.set_cons_succ])
            refine lTake (i := 5) (v := ?_) rfl (by kernel_rfl) (by kernel_rfl) (by kernel_rfl) (fun _ _ _ h => h) (by rfl) (fun _ _ h => h) (fun _ _ h => h) ?_ (by assumption) (fun hHeld2 => ?_)
            rotate_left 1
            · (intro _ _ _ _ _; first | (go_simp; done) | (go_simp; with_reducible rfl))
            clear hHeld; have hHeld := hHeld2; clear hHeld2
            (try simp only [Act.put, List.setIfInBounds_toArray, List.set_cons_zero, List.set_cons_succ])
            refine lTake (i := 6) (v := ?_) rfl (by kernel_rfl) (by kernel_rfl) (by kernel_rfl) (fun _ _ _ h => h) (by rfl) (fun _ _ h => h) (fun _ _ h => h) ?_ (by assumption) (fun hHeld2 => ?_)
            rotate_left 1
            · (intro _ _ _ _ _; first | (go_simp; done) | (go_simp; with_reducible rfl))
            clear hHeld; have hHeld := hHeld2; clear hHeld2
            (try simp only [Act.put, List.setIfInBounds_toArray, List.set_cons_zero, List.set_cons_succ])
            refine lTake (i := 7) (v := ?_) rfl (by kernel_rfl) (by kernel_rfl) (by kernel_rfl) (fun _ _ _ h => h) (by rfl) (fun _ _ h => h) (fun _ _ h => h) ?_ (by assumption) (fun hHeld2 => ?_)
            rotate_left 1
            · (intro _ _ _ _ _; first | (go_simp; done) | (go_simp; with_reducible rfl))
            clear hHeld; have hHeld := hHeld2; clear hHeld2
            (try simp only [Act.put, List.setIfInBounds_toArray, List.set_cons_zero, List.set_cons_succ])
            refine lTake (i := 8) (v := ?_) rfl (by kernel_rfl) (by kernel_rfl) (by kernel_rfl) (fun _ _ _ h => h) (by rfl) (fun _ _ h => h) (fun _ _ h => h) ?_ (by assumption) (fun hHeld2 => ?_)
            rotate_left 1
            · (intro L W _ _ hSw; (try dsimp only at hSw); first | (go_simp; done) | (go_simp; with_reducible rfl))
            clear hHeld; have hHeld := hHeld2; clear hHeld2
            (try simp only [Act.put, List.setIfInBounds_toArray, List.set_cons_zero, List.set_cons_succ])
            refine lTake (i := 9) (v := ?_) rfl (by kernel_rfl) (by kernel_rfl) (by kernel_rfl) (fun _ _ _ h => h) (by rfl) (fun _ _ h => h) (fun _ _ h => h) ?_ (by assumption) (fun hHeld2 => ?_)
            rotate_left 1
            · (intro _ _ _ _ _; first | (go_simp; done) | (go_simp; with_reducible rfl))
            clear hHeld; have hHeld := hHeld2; clear hHeld2
            (try simp only [Act.put, List.setIfInBounds_toArray, List.set_cons_zero, List.set_cons_succ])
            refine lTake (i := 10) (v := ?_) rfl (by kernel_rfl) (by kernel_rfl) (by kernel_rfl) (fun _ _ _ h => h) (by rfl) (fun _ _ h => h) (fun _ _ h => h) ?_ (by assumption) (fun hHeld2 => ?_)
            rotate_left 1
            · (intro _ _ _ _ _; first | (go_simp; done) | (go_simp; with_reducible rfl))
            clear hHeld; have hHeld := hHeld2; clear hHeld2
            (try simp only [Act.put, List.setIfInBounds_toArray, List.set_cons_zero, List.set_cons_succ])
            refine lTake (i := 11) (v := ?_) rfl (by kernel_rfl) (by kernel_rfl) (by kernel_rfl) (fun _ _ _ h => h) (by rfl) (fun _ _ h => h) (fun _ _ h => h) ?_ (by assumption) (fun hHeld2 => ?_)
            rotate_left 1
            · (intro _ _ _ _ _; first | (go_simp; done) | (go_simp; with_reducible rfl))
            clear hHeld; have hHeld := hHeld2; clear hHeld2
            (try simp only [Act.put, List.setIfInBounds_toArray, List.set_cons_zero, List.set_cons_succ])
            refine lTake (i := 12) (v := ?_) rfl (by kernel_rfl) (by kernel_rfl) (by kernel_rfl) (fun _ _ _ h => h) (by rfl) (fun _ _ h => h) (fun _ _ h => h) ?_ (by assumption) (fun hHeld2 => ?_)
            rotate_left 1
            · (intro _ _ _ _ _; first | (go_simp; done) | (go_simp; with_reducible rfl))
            clear hHeld; have hHeld := hHeld2; clear hHeld2
            (try simp only [Act.put, List.setIfInBounds_toArray, List.set_cons_zero, List.set_cons_succ])
            refine lTake (i := 13) (v := ?_) rfl (by kernel_rfl) (by kernel_rfl) (by kernel_rfl) (fun _ _ _ h => h) (by rfl) (fun _ _ h => h) (fun _ _ h => h) ?_ (by assumption) (fun hHeld2 => ?_)
            rotate_left 1
            · (intro _ _ _ _ _; first | (go_simp; done) | (go_simp; with_reducible rfl))
            clear hHeld; have hHeld := hHeld2; clear hHeld2
            (try simp only [Act.put, List.setIfInBounds_toArray, List.set_cons_zero, List.set_cons_succ])
            refine lTake (i := 14) (v := ?_) rfl (by kernel_rfl) (by kernel_rfl) (by kernel_rfl) (fun _ _ _ h => h) (by rfl) (fun _ _ h => h) (fun _ _ h => h) ?_ (by assumption) (fun hHeld2 => ?_)
            rotate_left 1
            · (intro L W _ _ hSw; (try dsimp only at hSw); first | (go_simp; done) | (go_simp; with_reducible rfl))
            clear hHeld; have hHeld := hHeld2; clear hHeld2
            (try simp only [Act.put, List.setIfInBounds_toArray, List.set_cons_zero, List.set_cons_succ])
            refine lTake (i := 15) (v := ?_) rfl (by kernel_rfl) (by kernel_rfl) (by kernel_rfl) (fun _ _ _ h => h) (by rfl) (fun _ _ h => h) (fun _ _ h => h) ?_ (by assumption) (fun hHeld2 => ?_)
            rotate_left 1
            · (intro _ _ _ _ _; first | (go_simp; done) | (go_simp; with_reducible rfl))
            clear hHeld; have hHeld := hHeld2; clear hHeld2
            (try simp only [Act.put, List.setIfInBounds_toArray, List.set_cons_zero, List.set_cons_succ])
            refine lTake (i := 16) (v := ?_) rfl (by kernel_rfl) (by kernel_rfl) (by kernel_rfl) (fun _ _ _ h => h) (by rfl) (fun _ _ h => h) (fun _ _ h => h) ?_ (by assumption) (fun hHeld2 => ?_)
            rotate_left 1
            · (intro _ _ _ _ _; first | (go_simp; done) | (go_simp; with_reducible rfl))
            clear hHeld; have hHeld := hHeld2; clear hHeld2
            (try simp only [Act.put, List.setIfInBounds_toArray, List.set_cons_zero, List.set_cons_succ])
            refine lTake (i := 17) (v := ?_) rfl (by kernel_rfl) (by kernel_rfl) (by kernel_rfl) (fun _ _ _ h => h) (by rfl) (fun _ _ h => h) (fun _ _ h => h) ?_ (by assumption) (fun hHeld2 => ?_)
            rotate_left 1
            · (intro _ _ _ _ _; first | (go_simp; done) | (go_simp; with_reducible rfl))
            clear hHeld; have hHeld := hHeld2; clear hHeld2
            (try simp only [Act.put, List.setIfInBounds_toArray, List.set_cons_zero, List.set_cons_succ])
            refine lTake (i := 18) (v := ?_) rfl (by kernel_rfl) (by kernel_rfl) (by kernel_rfl) (fun _ _ _ h => h) (by rfl) (fun _ _ h => h) (fun _ _ h => h) ?_ (by assumption) (fun hHeld2 => ?_)
            rotate_left 1
            · (intro L W _ _ hSw; (try dsimp only at hSw); first | (go_simp; done) | (go_simp; with_reducible rfl))
            clear hHeld; have hHeld := hHeld2; clear hHeld2
            (try simp only [Act.put, List.setIfInBounds_toArray, List.set_cons_zero, List.set_cons_succ])
            refine lTake (i := 21) (v := ?_) rfl (by kernel_rfl) (by kernel_rfl) (by kernel_rfl) (fun _ _ _ h => h) (by rfl) (fun _ _ h => h) (fun _ _ h => h) ?_ (by assumption) (fun hHeld2 => ?_)
            rotate_left 1
            · (intro _ _ _ _ _; first | (go_simp; done) | (go_simp; with_reducible rfl))
            clear hHeld; have hHeld := hHeld2; clear hHeld2
            (try simp only [Act.put, List.setIfInBounds_toArray, List.set_cons_zero, List.set_cons_succ])
            refine lTake (i := 22) (v := ?_) rfl (by kernel_rfl) (by kernel_rfl) (by kernel_rfl) (fun _ _ _ h => h) (by rfl) (fun _ _ h => h) (fun _ _ h => h) ?_ (by assumption) (fun hHeld2 => ?_)
            rotate_left 1
            · (intro _ _ _ _ _; first | (go_simp; done) | (go_simp; with_reducible rfl))
            clear hHeld; have hHeld := hHeld2; clear hHeld2
            (try simp only [Act.put, List.setIfInBounds_toArray, List.set_cons_zero, List.set_cons_succ])
            refine lTake (i := 23) (v := ?_) rfl (by kernel_rfl) (by kernel_rfl) (by kernel_rfl) (fun _ _ _ h => h) (by rfl) (fun _ _ h => h) (fun _ _ h => h) ?_ (by assumption) (fun hHeld2 => ?_)
            rotate_left 1
            · (intro _ _ _ _ _; first | (go_simp; done) | (go_simp; with_reducible rfl))
            clear hHeld; have hHeld := hHeld2; clear hHeld2
            (try simp only [Act.put, List.setIfInBounds_toArray, List.set_cons_zero, List.set_cons_succ])
            refine lTake (i := 24) (v := ?_) rfl (by kernel_rfl) (by kernel_rfl) (by kernel_rfl) (fun _ _ _ h => h) (by rfl) (fun _ _ h => h) (fun _ _ h => h) ?_ (by assumption) (fun hHeld2 => ?_)
            rotate_left 1
            · (intro _ _ _ _ _; first | (go_simp; done) | (go_simp; with_reducible rfl))
            clear hHeld; have hHeld := hHeld2; clear hHeld2
            (try simp only [Act.put, List.setIfInBounds_toArray, List.set_cons_zero, List.set_cons_succ])
            refine lTake (i := 25) (v := ?_) rfl (by kernel_rfl) (by kernel_rfl) (by kernel_rfl) (fun _ _ _ h => h) (by rfl) (fun _ _ h => h) (fun _ _ h => h) ?_ (by assumption) (fun hHeld2 => ?_)
            rotate_left 1
            · (intro L W _ _ hSw; (try dsimp only at hSw); first | (go_simp; done) | (go_simp; with_reducible rfl))
            clear hHeld; have hHeld := hHeld2; clear hHeld2
            (try simp only [Act.put, List.setIfInBounds_toArray, List.set_cons_zero, List.set_cons_succ])
            refine lReady (rs := [19]) (by kernel_rfl) (by simp) ?_
            refine AllL.cons (i := 19) rfl (fun K hK => ?_) ?_
            · go_simp; (refine (WaitingL_c _ _ _ _ _ _ (HS1.out.drew.at_ 0 (by omega))).mono ?_; rintro e w2 ⟨rfl, rfl⟩)
              (try go_wp2_with fail)
              refine hK.out _ _ ?_ (fun hHeld2 => ?_)
              · (try dsimp only); (first | with_reducible assumption | exact ⟨HS1.out.drew.ends.cell 0 rfl, HS1.out.drew.sent.cell 0 rfl, HS1.out.drew.got.cell 1 rfl⟩)
              clear hK K
              clear hHeld; have hHeld := hHeld2; clear hHeld2
              (try simp only [Act.put, List.setIfInBounds_toArray, List.set_cons_zero, List.set_cons_succ])
              refine lTake (i := 20) (v := ?_) rfl (by kernel_rfl) (by kernel_rfl) (by kernel_rfl) (fun _ _ _ h => h) (by rfl) (fun _ _ h => h) (fun _ _ h => h) ?_ (by assumption) (fun hHeld2 => ?_)
              rotate_left 1
              · (intro _ _ _ _ _; first | (go_simp; done) | (go_simp; with_reducible rfl))
              clear hHeld; have hHeld := hHeld2; clear hHeld2
              (try simp only [Act.put, List.setIfInBounds_toArray, List.set_cons_zero, List.set_cons_succ])
              refine lTake (i := 26) (v := ?_) rfl (by kernel_rfl) (by kernel_rfl) (by kernel_rfl) (fun _ _ _ h => h) (by rfl) (fun _ _ h => h) (fun _ _ h => h) ?_ (by assumption) (fun hHeld2 => ?_)
              rotate_left 1
              · (intro _ _ _ _ _; first | (go_simp; done) | (go_simp; with_reducible rfl))
              clear hHeld; have hHeld := hHeld2; clear hHeld2
              (try simp only [Act.put, List.setIfInBounds_toArray, List.set_cons_zero, List.set_cons_succ])
              refine lTake (i := 27) (v := ?_) rfl (by kernel_rfl) (by kernel_rfl) (by kernel_rfl) (fun _ _ _ h => h) (by rfl) (fun _ _ h => h) (fun _ _ h => h) ?_ (by assumption) (fun hHeld2 => ?_)
              rotate_left 1
              · (intro _ _ _ _ _; first | (go_simp; done) | (go_simp; with_reducible rfl))
              clear hHeld; have hHeld := hHeld2; clear hHeld2
              (try simp only [Act.put, List.setIfInBounds_toArray, List.set_cons_zero, List.set_cons_succ])
              refine lDone (by kernel_rfl) ?_ _
              clear hHeld
              go_wp2_with fail
              clear x0a x0b x0c
              rw [rounds_succ]
              go_wp2_with fail
              obtain ⟨x1a, x1b, x1c⟩ := X1.out
              refine lBegin (S := fun _ W => (W.cell? ⟨w.heap.size + 1 + 1, 1, none⟩ = some (.pointer (some ⟨w.heap.size + 1, 0, none⟩)) ∧ W.cell? ⟨w.heap.size + 1 + 1 + 1, 1, none⟩ = some (.int .i64 (s1 1)) ∧ W.cell? ⟨w.heap.size + 1 + 1 + 1 + 1, 0, none⟩ = some (.int .i64 (ln1 0).tk))) (by kernel_rfl) ?_ (fun hHeld => ?_)
              · (try dsimp only); (first | with_reducible assumption | exact ⟨HS1.out.drew.drew.ends.cell 1 rfl, HS1.out.drew.drew.sent.cell 1 rfl, HS1.out.drew.drew.got.cell 0 rfl⟩)
              refine lTake (i := 0) (v := ?_) rfl (by kernel_rfl) (by kernel_rfl) (by kernel_rfl) (fun _ _ _ h => h) (by rfl) (fun _ _ h => h) (fun _ _ h => h) ?_ (by assumption) (fun hHeld2 => ?_)
              rotate_left 1
              · (intro _ _ _ _ _; first | (go_simp; done) | (go_simp; with_reducible rfl))
              clear hHeld; have hHeld := hHeld2; clear hHeld2
              (try simp only [Act.put, List.setIfInBounds_toArray, List.set_cons_zero, List.set_cons_succ])
              refine lTake (i := 1) (v := ?_) rfl (by kernel_rfl) (by kernel_rfl) (by kernel_rfl) (fun _ _ _ h => h) (by rfl) (fun _ _ h => h) (fun _ _ h => h) ?_ (by assumption) (fun hHeld2 => ?_)
              rotate_left 1
              · (intro _ _ _ _ _; first | (go_simp; done) | (go_simp; with_reducible rfl))
              clear hHeld; have hHeld := hHeld2; clear hHeld2
              (try simp only [Act.put, List.setIfInBounds_toArray, List.set_cons_zero, List.set_cons_succ])
              refine lTake (i := 2) (v := ?_) rfl (by kernel_rfl) (by kernel_rfl) (by kernel_rfl) (fun _ _ _ h => h) (by rfl) (fun _ _ h => h) (fun _ _ h => h) ?_ (by assumption) (fun hHeld2 => ?_)
              rotate_left 1
              · (intro _ _ _ _ _; first | (go_simp; done) | (go_simp; with_reducible rfl))
              clear hHeld; have hHeld := hHeld2; clear hHeld2
              (try simp only [Act.put, List.setIfInBounds_toArray, List.set_cons_zero, List.set_cons_succ])
              refine lTake (i := 3) (v := ?_) rfl (by kernel_rfl) (by kernel_rfl) (by kernel_rfl) (fun _ _ _ h => h) (by rfl) (fun _ _ h => h) (fun _ _ h => h) ?_ (by assumption) (fun hHeld2 => ?_)
              rotate_left 1
              · (intro _ _ _ _ _; first | (go_simp; done) | (go_simp; with_reducible rfl))
              clear hHeld; have hHeld := hHeld2; clear hHeld2
              (try simp only [Act.put, List.setIfInBounds_toArray, List.set_cons_zero, List.set_cons_succ])
              refine lTake (i := 4) (v := ?_) rfl (by kernel_rfl) (by kernel_rfl) (by kernel_rfl) (fun _ _ _ h => h) (by rfl) (fun _ _ h => h) (fun _ _ h => h) ?_ (by assumption) (fun hHeld2 => ?_)
              rotate_left 1
              · (intro L W _ _ hSw; (try dsimp only at hSw); first | (go_simp; done) | (go_simp; with_reducible rfl))
              clear hHeld; have hHeld := hHeld2; clear hHeld2
              (try simp only [Act.put, List.setIfInBounds_toArray, List.set_cons_zero, List.set_cons_succ])
              refine lTake (i := 5) (v := ?_) rfl (by kernel_rfl) (by kernel_rfl) (by kernel_rfl) (fun _ _ _ h => h) (by rfl) (fun _ _ h => h) (fun _ _ h => h) ?_ (by assumption) (fun hHeld2 => ?_)
              rotate_left 1
              · (intro _ _ _ _ _; first | (go_simp; done) | (go_simp; with_reducible rfl))
              clear hHeld; have hHeld := hHeld2; clear hHeld2
              (try simp only [Act.put, List.setIfInBounds_toArray, List.set_cons_zero, List.set_cons_succ])
              refine lTake (i := 6) (v := ?_) rfl (by kernel_rfl) (by kernel_rfl) (by kernel_rfl) (fun _ _ _ h => h) (by rfl) (fun _ _ h => h) (fun _ _ h => h) ?_ (by assumption) (fun hHeld2 => ?_)
              rotate_left 1
              · (intro _ _ _ _ _; first | (go_simp; done) | (go_simp; with_reducible rfl))
              clear hHeld; have hHeld := hHeld2; clear hHeld2
              (try simp only [Act.put, List.setIfInBounds_toArray, List.set_cons_zero, List.set_cons_succ])
              refine lTake (i := 7) (v := ?_) rfl (by kernel_rfl) (by kernel_rfl) (by kernel_rfl) (fun _ _ _ h => h) (by rfl) (fun _ _ h => h) (fun _ _ h => h) ?_ (by assumption) (fun hHeld2 => ?_)
              rotate_left 1
              · (intro _ _ _ _ _; first | (go_simp; done) | (go_simp; with_reducible rfl))
              clear hHeld; have hHeld := hHeld2; clear hHeld2
              (try simp only [Act.put, List.setIfInBounds_toArray, List.set_cons_zero, List.set_cons_succ])
              refine lTake (i := 8) (v := ?_) rfl (by kernel_rfl) (by kernel_rfl) (by kernel_rfl) (fun _ _ _ h => h) (by rfl) (fun _ _ h => h) (fun _ _ h => h) ?_ (by assumption) (fun hHeld2 => ?_)
              rotate_left 1
              · (intro L W _ _ hSw; (try dsimp only at hSw); first | (go_simp; done) | (go_simp; with_reducible rfl))
              clear hHeld; have hHeld := hHeld2; clear hHeld2
              (try simp only [Act.put, List.setIfInBounds_toArray, List.set_cons_zero, List.set_cons_succ])
              refine lTake (i := 9) (v := ?_) rfl (by kernel_rfl) (by kernel_rfl) (by kernel_rfl) (fun _ _ _ h => h) (by rfl) (fun _ _ h => h) (fun _ _ h => h) ?_ (by assumption) (fun hHeld2 => ?_)
              rotate_left 1
              · (intro _ _ _ _ _; first | (go_simp; done) | (go_simp; with_reducible rfl))
              clear hHeld; have hHeld := hHeld2; clear hHeld2
              (try simp only [Act.put, List.setIfInBounds_toArray, List.set_cons_zero, List.set_cons_succ])
              refine lTake (i := 10) (v := ?_) rfl (by kernel_rfl) (by kernel_rfl) (by kernel_rfl) (fun _ _ _ h => h) (by rfl) (fun _ _ h => h) (fun _ _ h => h) ?_ (by assumption) (fun hHeld2 => ?_)
              rotate_left 1
              · (intro _ _ _ _ _; first | (go_simp; done) | (go_simp; with_reducible rfl))
              clear hHeld; have hHeld := hHeld2; clear hHeld2
              (try simp only [Act.put, List.setIfInBounds_toArray, List.set_cons_zero, List.set_cons_succ])
              refine lTake (i := 11) (v := ?_) rfl (by kernel_rfl) (by kernel_rfl) (by kernel_rfl) (fun _ _ _ h => h) (by rfl) (fun _ _ h => h) (fun _ _ h => h) ?_ (by assumption) (fun hHeld2 => ?_)
              rotate_left 1
              · (intro _ _ _ _ _; first | (go_simp; done) | (go_simp; with_reducible rfl))
              clear hHeld; have hHeld := hHeld2; clear hHeld2
              (try simp only [Act.put, List.setIfInBounds_toArray, List.set_cons_zero, List.set_cons_succ])
              refine lTake (i := 12) (v := ?_) rfl (by kernel_rfl) (by kernel_rfl) (by kernel_rfl) (fun _ _ _ h => h) (by rfl) (fun _ _ h => h) (fun _ _ h => h) ?_ (by assumption) (fun hHeld2 => ?_)
              rotate_left 1
              · (intro _ _ _ _ _; first | (go_simp; done) | (go_simp; with_reducible rfl))
              clear hHeld; have hHeld := hHeld2; clear hHeld2
              (try simp only [Act.put, List.setIfInBounds_toArray, List.set_cons_zero, List.set_cons_succ])
              refine lTake (i := 13) (v := ?_) rfl (by kernel_rfl) (by kernel_rfl) (by kernel_rfl) (fun _ _ _ h => h) (by rfl) (fun _ _ h => h) (fun _ _ h => h) ?_ (by assumption) (fun hHeld2 => ?_)
              rotate_left 1
              · (intro _ _ _ _ _; first | (go_simp; done) | (go_simp; with_reducible rfl))
              clear hHeld; have hHeld := hHeld2; clear hHeld2
              (try simp only [Act.put, List.setIfInBounds_toArray, List.set_cons_zero, List.set_cons_succ])
              refine lTake (i := 14) (v := ?_) rfl (by kernel_rfl) (by kernel_rfl) (by kernel_rfl) (fun _ _ _ h => h) (by rfl) (fun _ _ h => h) (fun _ _ h => h) ?_ (by assumption) (fun hHeld2 => ?_)
              rotate_left 1
              · (intro L W _ _ hSw; (try dsimp only at hSw); first | (go_simp; done) | (go_simp; with_reducible rfl))
              clear hHeld; have hHeld := hHeld2; clear hHeld2
              (try simp only [Act.put, List.setIfInBounds_toArray, List.set_cons_zero, List.set_cons_succ])
              refine lTake (i := 15) (v := ?_) rfl (by kernel_rfl) (by kernel_rfl) (by kernel_rfl) (fun _ _ _ h => h) (by rfl) (fun _ _ h => h) (fun _ _ h => h) ?_ (by assumption) (fun hHeld2 => ?_)
              rotate_left 1
              · (intro _ _ _ _ _; first | (go_simp; done) | (go_simp; with_reducible rfl))
              clear hHeld; have hHeld := hHeld2; clear hHeld2
              (try simp only [Act.put, List.setIfInBounds_toArray, List.set_cons_zero, List.set_cons_succ])
              refine lTake (i := 16) (v := ?_) rfl (by kernel_rfl) (by kernel_rfl) (by kernel_rfl) (fun _ _ _ h => h) (by rfl) (fun _ _ h => h) (fun _ _ h => h) ?_ (by assumption) (fun hHeld2 => ?_)
              rotate_left 1
              · (intro _ _ _ _ _; first | (go_simp; done) | (go_simp; with_reducible rfl))
              clear hHeld; have hHeld := hHeld2; clear hHeld2
              (try simp only [Act.put, List.setIfInBounds_toArray, List.set_cons_zero, List.set_cons_succ])
              refine lTake (i := 17) (v := ?_) rfl (by kernel_rfl) (by kernel_rfl) (by kernel_rfl) (fun _ _ _ h => h) (by rfl) (fun _ _ h => h) (fun _ _ h => h) ?_ (by assumption) (fun hHeld2 => ?_)
              rotate_left 1
              · (intro _ _ _ _ _; first | (go_simp; done) | (go_simp; with_reducible rfl))
              clear hHeld; have hHeld := hHeld2; clear hHeld2
              (try simp only [Act.put, List.setIfInBounds_toArray, List.set_cons_zero, List.set_cons_succ])
              refine lTake (i := 18) (v := ?_) rfl (by kernel_rfl) (by kernel_rfl) (by kernel_rfl) (fun _ _ _ h => h) (by rfl) (fun _ _ h => h) (fun _ _ h => h) ?_ (by assumption) (fun hHeld2 => ?_)
              rotate_left 1
              · (intro L W _ _ hSw; (try dsimp only at hSw); first | (go_simp; done) | (go_simp; with_reducible rfl))
              clear hHeld; have hHeld := hHeld2; clear hHeld2
              (try simp only [Act.put, List.setIfInBounds_toArray, List.set_cons_zero, List.set_cons_succ])
              refine lTake (i := 21) (v := ?_) rfl (by kernel_rfl) (by kernel_rfl) (by kernel_rfl) (fun _ _ _ h => h) (by rfl) (fun _ _ h => h) (fun _ _ h => h) ?_ (by assumption) (fun hHeld2 => ?_)
              rotate_left 1
              · (intro _ _ _ _ _; first | (go_simp; done) | (go_simp; with_reducible rfl))
              clear hHeld; have hHeld := hHeld2; clear hHeld2
              (try simp only [Act.put, List.setIfInBounds_toArray, List.set_cons_zero, List.set_cons_succ])
              refine lTake (i := 22) (v := ?_) rfl (by kernel_rfl) (by kernel_rfl) (by kernel_rfl) (fun _ _ _ h => h) (by rfl) (fun _ _ h => h) (fun _ _ h => h) ?_ (by assumption) (fun hHeld2 => ?_)
              rotate_left 1
              · (intro _ _ _ _ _; first | (go_simp; done) | (go_simp; with_reducible rfl))
              clear hHeld; have hHeld := hHeld2; clear hHeld2
              (try simp only [Act.put, List.setIfInBounds_toArray, List.set_cons_zero, List.set_cons_succ])
              refine lTake (i := 23) (v := ?_) rfl (by kernel_rfl) (by kernel_rfl) (by kernel_rfl) (fun _ _ _ h => h) (by rfl) (fun _ _ h => h) (fun _ _ h => h) ?_ (by assumption) (fun hHeld2 => ?_)
              rotate_left 1
              · (intro _ _ _ _ _; first | (go_simp; done) | (go_simp; with_reducible rfl))
              clear hHeld; have hHeld := hHeld2; clear hHeld2
              (try simp only [Act.put, List.setIfInBounds_toArray, List.set_cons_zero, List.set_cons_succ])
              refine lTake (i := 24) (v := ?_) rfl (by kernel_rfl) (by kernel_rfl) (by kernel_rfl) (fun _ _ _ h => h) (by rfl) (fun _ _ h => h) (fun _ _ h => h) ?_ (by assumption) (fun hHeld2 => ?_)
              rotate_left 1
              · (intro _ _ _ _ _; first | (go_simp; done) | (go_simp; with_reducible rfl))
              clear hHeld; have hHeld := hHeld2; clear hHeld2
              (try simp only [Act.put, List.setIfInBounds_toArray, List.set_cons_zero, List.set_cons_succ])
              refine lTake (i := 25) (v := ?_) rfl (by kernel_rfl) (by kernel_rfl) (by kernel_rfl) (fun _ _ _ h => h) (by rfl) (fun _ _ h => h) (fun _ _ h => h) ?_ (by assumption) (fun hHeld2 => ?_)
              rotate_left 1
              · (intro L W _ _ hSw; (try dsimp only at hSw); first | (go_simp; done) | (go_simp; with_reducible rfl))
              clear hHeld; have hHeld := hHeld2; clear hHeld2
              (try simp only [Act.put, List.setIfInBounds_toArray, List.set_cons_zero, List.set_cons_succ])
              refine lReady (rs := [19]) (by kernel_rfl) (by simp) ?_
              refine AllL.cons (i := 19) rfl (fun K hK => ?_) ?_
              · go_simp; (refine (WaitingL_c _ _ _ _ _ _ (HS1.out.drew.drew.at_ 1 (by omega))).mono ?_; rintro e w2 ⟨rfl, rfl⟩)
                (try go_wp2_with fail)
                refine hK.out _ _ ?_ (fun hHeld2 => ?_)
                · (try dsimp only); (first | with_reducible assumption | exact ⟨HS1.out.drew.drew.ends.cell 1 rfl, HS1.out.drew.drew.sent.cell 1 rfl, HS1.out.drew.drew.got.cell 0 rfl⟩)
                clear hK K
                clear hHeld; have hHeld := hHeld2; clear hHeld2
                (try simp only [Act.put, List.setIfInBounds_toArray, List.set_cons_zero, List.set_cons_succ])
                refine lTake (i := 20) (v := ?_) rfl (by kernel_rfl) (by kernel_rfl) (by kernel_rfl) (fun _ _ _ h => h) (by rfl) (fun _ _ h => h) (fun _ _ h => h) ?_ (by assumption) (fun hHeld2 => ?_)
                rotate_left 1
                · (intro _ _ _ _ _; first | (go_simp; done) | (go_simp; with_reducible rfl))
                clear hHeld; have hHeld := hHeld2; clear hHeld2
                (try simp only [Act.put, List.setIfInBounds_toArray, List.set_cons_zero, List.set_cons_succ])
                refine lTake (i := 26) (v := ?_) rfl (by kernel_rfl) (by kernel_rfl) (by kernel_rfl) (fun _ _ _ h => h) (by rfl) (fun _ _ h => h) (fun _ _ h => h) ?_ (by assumption) (fun hHeld2 => ?_)
                rotate_left 1
                · (intro _ _ _ _ _; first | (go_simp; done) | (go_simp; with_reducible rfl))
                clear hHeld; have hHeld := hHeld2; clear hHeld2
                (try simp only [Act.put, List.setIfInBounds_toArray, List.set_cons_zero, List.set_cons_succ])
                refine lTake (i := 27) (v := ?_) rfl (by kernel_rfl) (by kernel_rfl) (by kernel_rfl) (fun _ _ _ h => h) (by rfl) (fun _ _ h => h) (fun _ _ h => h) ?_ (by assumption) (fun hHeld2 => ?_)
                rotate_left 1
                · (intro _ _ _ _ _; first | (go_simp; done) | (go_simp; with_reducible rfl))
                clear hHeld; have hHeld := hHeld2; clear hHeld2
                (try simp only [Act.put, List.setIfInBounds_toArray, List.set_cons_zero, List.set_cons_succ])
                refine lDone (by kernel_rfl) ?_ _
                clear hHeld
                go_wp2_with fail
                clear x1a x1b x1c
                rw [rounds_succ]
                go_wp2_with fail
                go_roundw
                case rel => exact ⟨k + 1, by omega, by go_num, A1, cc1, s1, ln1, AF1, cF1, F1, rfl, HS1.out.drew.drew, HI1.out, H1001.out⟩
                case measure => simp [intOf]; omega
              exact AllL.nil
            exact AllL.nil
      · go_wp2_with (go_at_call 12; refine (works_c _).mono ?_; rintro e w1 ⟨rfl, hb⟩; have HB := Lib.hid hb; clear hb)
        go_ret
        obtain ⟨A0, c0, s, ln, AF, cF, F, _, hst, _⟩ := HR.out
        exact ⟨rfl, (hst.below HB.out).b⟩
    · go_wp2_with (go_at_call 12; refine (works_c _).mono ?_; rintro e w1 ⟨rfl, hb⟩; have HB := Lib.hid hb; clear hb)
      go_ret
      obtain ⟨A0, c0, s, ln, AF, cF, F, _, hst, _⟩ := HR.out
      exact ⟨rfl, (hst.below HB.out).b⟩
end Go.Proofs.Ytafajclbghofkaa

