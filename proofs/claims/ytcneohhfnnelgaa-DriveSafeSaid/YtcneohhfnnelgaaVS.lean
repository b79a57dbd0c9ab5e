/- The walk of coulomblaw06.DriveSafe: it returns true. coulomblaw06.DriveSafe returns true at all inputs. -/
import Derived.Test.YtcneohhfnnelgaaV63
import Derived.Deep.CutBlock
namespace Go.Proofs.Ytcneohhfnnelgaa
open Go.RowKit
set_option linter.unusedVariables false
namespace Dv
theorem alE_or {m : Mot} {l : List Sp} {d q s : Int} (h : lmE m l = 0) (hi : alIn m d q s = true) : (alE m l d q s = 0 ∧ alOk m l d q s = true) ∨ alE m l d q s = 17 := by
  unfold alE
  rw [if_pos h, if_pos hi]
  split
  · exact .inl ⟨rfl, by assumption⟩
  · exact .inr rfl
theorem alE_lm {m : Mot} {l : List Sp} {d q s : Int} (h : alE m l d q s = 0 ∨ alE m l d q s = 17) : lmE m l = 0 := by
  unfold alE at h
  split at h
  · assumption
  · have : lmE m l = 0 ∨ lmE m l = 2 ∨ lmE m l = 3 := by
      unfold lmE
      split
      · split
        · exact .inl rfl
        · exact .inr (.inr rfl)
      · exact .inr (.inl rfl)
    omega
end Dv
def SfCut (w : World) (m : Mot) (g : Nat) (x1 x2 x3 x4 : Int) (s60 : Value) (W : World) : Prop := s60 = .bool false ∧ Hid (St w [(g + 1, 29, [.int .i64 x3, .int .i64 x4]), (g, 29, [.int .i64 x1, .int .i64 x2]), (w.heap.size, 52, [.int .i64 m.r, .int .i64 m.ld, .int .i64 m.lq, .int .i64 m.fx, .int .i64 m.po, .int .i64 m.mi, .int .i64 m.sp, .int .i64 m.dr, .int .i64 m.cu, .int .i64 m.fa])] W)

set_option maxHeartbeats 16000000 in
set_option maxRecDepth 100000 in
theorem Safe_go (m : Mot) (ad : Addr) (s0 s1 s2 s3 s4 : Sp) (cap : Nat) (s ld : Int) (B : Option Addr) (us : List Int) (cap' : Nat) (w : World) (hx : SpAt w (some ad) [s0, s1, s2, s3, s4]) (h5 : Sp5 w ad s0 s1 s2 s3 s4) (hu : U64At w B us) (hL : Dv.lmE m [s0, s1, s2, s3, s4] = 0) (hs1 : -m.fa ≤ s) (hs2 : s ≤ m.fa) (hl1 : -68719476736 ≤ ld) (hl2 : ld ≤ 68719476736) :
    Calls Try.prog 15 #[.agg #[.int .i64 m.r, .int .i64 m.ld, .int .i64 m.lq, .int .i64 m.fx, .int .i64 m.po, .int .i64 m.mi, .int .i64 m.sp, .int .i64 m.dr, .int .i64 m.cu, .int .i64 m.fa], .slice (some ad) 5 cap, .int .i64 s, .int .i64 ld, .slice B us.length cap'] w fun e w' => e = .returned (.bool true) ∧ Below w.heap.size w w' := by
  have HX := Lib.hid hx
  have H5 := Lib.hid h5
  have HU := Lib.hid hu
  have HL := Lib.hid hL
  clear hx h5 hu hL
  have HM := Lib.hid (Dv.lm_parts HL.out).1
  have HV := Lib.hid (Dv.lm_parts HL.out).2.2.2.2.2.2
  have HSS := Lib.hid (And.intro (Dv.lm_parts HL.out).2.2.2.2.1 (Dv.lm_parts HL.out).2.2.2.2.2.1)
  have hm := HM.out
  unfold Dv.chk at hm
  have u0 := HU.out.bd 0
  have KP0 := Lib.hid (show ∀ V : World, Below w.heap.size w V → Calls Try.prog 63 #[.slice B us.length cap', .int .i64 0] V fun e w' => e = .returned (.int .u64 (us.getD 0 0)) ∧ V = w' from fun V hV => pick_c B us cap' 0 V (HU.out.below hV))
  generalize us.getD 0 0 = p0 at u0 KP0
  have u1 := HU.out.bd 1
  have KP1 := Lib.hid (show ∀ V : World, Below w.heap.size w V → Calls Try.prog 63 #[.slice B us.length cap', .int .i64 1] V fun e w' => e = .returned (.int .u64 (us.getD 1 0)) ∧ V = w' from fun V hV => pick_c B us cap' 1 V (HU.out.below hV))
  generalize us.getD 1 0 = p1 at u1 KP1
  have u2 := HU.out.bd 2
  have KP2 := Lib.hid (show ∀ V : World, Below w.heap.size w V → Calls Try.prog 63 #[.slice B us.length cap', .int .i64 2] V fun e w' => e = .returned (.int .u64 (us.getD 2 0)) ∧ V = w' from fun V hV => pick_c B us cap' 2 V (HU.out.below hV))
  generalize us.getD 2 0 = p2 at u2 KP2
  have u3 := HU.out.bd 3
  have KP3 := Lib.hid (show ∀ V : World, Below w.heap.size w V → Calls Try.prog 63 #[.slice B us.length cap', .int .i64 3] V fun e w' => e = .returned (.int .u64 (us.getD 3 0)) ∧ V = w' from fun V hV => pick_c B us cap' 3 V (HU.out.below hV))
  generalize us.getD 3 0 = p3 at u3 KP3
  have u4 := HU.out.bd 4
  have KP4 := Lib.hid (show ∀ V : World, Below w.heap.size w V → Calls Try.prog 63 #[.slice B us.length cap', .int .i64 4] V fun e w' => e = .returned (.int .u64 (us.getD 4 0)) ∧ V = w' from fun V hV => pick_c B us cap' 4 V (HU.out.below hV))
  generalize us.getD 4 0 = p4 at u4 KP4
  have u5 := HU.out.bd 5
  have KP5 := Lib.hid (show ∀ V : World, Below w.heap.size w V → Calls Try.prog 63 #[.slice B us.length cap', .int .i64 5] V fun e w' => e = .returned (.int .u64 (us.getD 5 0)) ∧ V = w' from fun V hV => pick_c B us cap' 5 V (HU.out.below hV))
  generalize us.getD 5 0 = p5 at u5 KP5
  have u6 := HU.out.bd 6
  have KP6 := Lib.hid (show ∀ V : World, Below w.heap.size w V → Calls Try.prog 63 #[.slice B us.length cap', .int .i64 6] V fun e w' => e = .returned (.int .u64 (us.getD 6 0)) ∧ V = w' from fun V hV => pick_c B us cap' 6 V (HU.out.below hV))
  generalize us.getD 6 0 = p6 at u6 KP6
  have u7 := HU.out.bd 7
  have KP7 := Lib.hid (show ∀ V : World, Below w.heap.size w V → Calls Try.prog 63 #[.slice B us.length cap', .int .i64 7] V fun e w' => e = .returned (.int .u64 (us.getD 7 0)) ∧ V = w' from fun V hV => pick_c B us cap' 7 V (HU.out.below hV))
  generalize us.getD 7 0 = p7 at u7 KP7
  have u8 := HU.out.bd 8
  have KP8 := Lib.hid (show ∀ V : World, Below w.heap.size w V → Calls Try.prog 63 #[.slice B us.length cap', .int .i64 8] V fun e w' => e = .returned (.int .u64 (us.getD 8 0)) ∧ V = w' from fun V hV => pick_c B us cap' 8 V (HU.out.below hV))
  generalize us.getD 8 0 = p8 at u8 KP8
  have iD := Dv.ins_in (lo := -m.cu) (hi := m.cu) (p := p0) (by omega)
  have KID := Lib.hid (show ∀ V : World, Calls Try.prog 62 #[.agg #[.int .i64 (-m.cu), .int .i64 (m.cu)], .int .u64 p0] V fun e w' => e = .returned (.int .i64 (Dv.ins (-m.cu) (m.cu) p0)) ∧ Below V.heap.size V w' from fun V => inside_e (-m.cu) (m.cu) p0 V (by omega) (by omega) (by omega) u0)
  generalize Dv.ins (-m.cu) (m.cu) p0 = D at iD KID
  have iQ := Dv.ins_in (lo := -m.cu) (hi := m.cu) (p := p1) (by omega)
  have KIQ := Lib.hid (show ∀ V : World, Calls Try.prog 62 #[.agg #[.int .i64 (-m.cu), .int .i64 (m.cu)], .int .u64 p1] V fun e w' => e = .returned (.int .i64 (Dv.ins (-m.cu) (m.cu) p1)) ∧ Below V.heap.size V w' from fun V => inside_e (-m.cu) (m.cu) p1 V (by omega) (by omega) (by omega) u1)
  generalize Dv.ins (-m.cu) (m.cu) p1 = Q at iQ KIQ
  have v0 := spV_bd (HV.out s0 (by simp))
  have iO0 := Dv.ins_in (lo := s0.lo) (hi := s0.hi) (p := p2) (v0.2.2)
  have KIO0 := Lib.hid (show ∀ V : World, Calls Try.prog 62 #[.agg #[.int .i64 (s0.lo), .int .i64 (s0.hi)], .int .u64 p2] V fun e w' => e = .returned (.int .i64 (Dv.ins (s0.lo) (s0.hi) p2)) ∧ Below V.heap.size V w' from fun V => inside_e (s0.lo) (s0.hi) p2 V (v0.2.2) (by omega) (by omega) u2)
  generalize Dv.ins (s0.lo) (s0.hi) p2 = O0 at iO0 KIO0
  have v1 := spV_bd (HV.out s1 (by simp))
  have iO1 := Dv.ins_in (lo := s1.lo) (hi := s1.hi) (p := p3) (v1.2.2)
  have KIO1 := Lib.hid (show ∀ V : World, Calls Try.prog 62 #[.agg #[.int .i64 (s1.lo), .int .i64 (s1.hi)], .int .u64 p3] V fun e w' => e = .returned (.int .i64 (Dv.ins (s1.lo) (s1.hi) p3)) ∧ Below V.heap.size V w' from fun V => inside_e (s1.lo) (s1.hi) p3 V (v1.2.2) (by omega) (by omega) u3)
  generalize Dv.ins (s1.lo) (s1.hi) p3 = O1 at iO1 KIO1
  have v2 := spV_bd (HV.out s2 (by simp))
  have iO2 := Dv.ins_in (lo := s2.lo) (hi := s2.hi) (p := p4) (v2.2.2)
  have KIO2 := Lib.hid (show ∀ V : World, Calls Try.prog 62 #[.agg #[.int .i64 (s2.lo), .int .i64 (s2.hi)], .int .u64 p4] V fun e w' => e = .returned (.int .i64 (Dv.ins (s2.lo) (s2.hi) p4)) ∧ Below V.heap.size V w' from fun V => inside_e (s2.lo) (s2.hi) p4 V (v2.2.2) (by omega) (by omega) u4)
  generalize Dv.ins (s2.lo) (s2.hi) p4 = O2 at iO2 KIO2
  have v3 := spV_bd (HV.out s3 (by simp))
  have iO3 := Dv.ins_in (lo := s3.lo) (hi := s3.hi) (p := p5) (v3.2.2)
  have KIO3 := Lib.hid (show ∀ V : World, Calls Try.prog 62 #[.agg #[.int .i64 (s3.lo), .int .i64 (s3.hi)], .int .u64 p5] V fun e w' => e = .returned (.int .i64 (Dv.ins (s3.lo) (s3.hi) p5)) ∧ Below V.heap.size V w' from fun V => inside_e (s3.lo) (s3.hi) p5 V (v3.2.2) (by omega) (by omega) u5)
  generalize Dv.ins (s3.lo) (s3.hi) p5 = O3 at iO3 KIO3
  have v4 := spV_bd (HV.out s4 (by simp))
  have iO4 := Dv.ins_in (lo := s4.lo) (hi := s4.hi) (p := p6) (v4.2.2)
  have KIO4 := Lib.hid (show ∀ V : World, Calls Try.prog 62 #[.agg #[.int .i64 (s4.lo), .int .i64 (s4.hi)], .int .u64 p6] V fun e w' => e = .returned (.int .i64 (Dv.ins (s4.lo) (s4.hi) p6)) ∧ Below V.heap.size V w' from fun V => inside_e (s4.lo) (s4.hi) p6 V (v4.2.2) (by omega) (by omega) u6)
  generalize Dv.ins (s4.lo) (s4.hi) p6 = O4 at iO4 KIO4
  have hss : (-16384 ≤ s4.lo ∧ s4.lo ≤ 16384) ∧ (-16384 ≤ s4.hi ∧ s4.hi ≤ 16384) := HSS.out
  have HIN : Hid (Dv.alIn m D Q s = true) := Lib.hid (by
    unfold Dv.alIn
    rw [upB2.2 ⟨by omega, by omega⟩, upB1.2 (by omega)]
    rfl)
  have hbw := Lib.hid (Dv.plus_btw (m := m) (l := [s0, s1, s2, s3, s4]) iO0 iO1 iO2 iO3)
  have hrl := Lib.hid (Dv.chk_btw HL.out hbw.out)
  have KY := Lib.hid (show ∀ (V : World) (g : Nat), Blk V g 2 [.int .i64 O0, .int .i64 O1, .int .i64 O2, .int .i64 O3] → Calls Try.prog 52 #[.agg #[.int .i64 m.r, .int .i64 m.ld, .int .i64 m.lq, .int .i64 m.fx, .int .i64 m.po, .int .i64 m.mi, .int .i64 m.sp, .int .i64 m.dr, .int .i64 m.cu, .int .i64 m.fa], .slice (some ⟨g, 0, none⟩) 4 4] V fun e w' => e = .returned (.tuple #[.agg #[.int .i64 (m.plus O0 O1 O2 O3).r, .int .i64 (m.plus O0 O1 O2 O3).ld, .int .i64 (m.plus O0 O1 O2 O3).lq, .int .i64 (m.plus O0 O1 O2 O3).fx, .int .i64 (m.plus O0 O1 O2 O3).po, .int .i64 (m.plus O0 O1 O2 O3).mi, .int .i64 (m.plus O0 O1 O2 O3).sp, .int .i64 (m.plus O0 O1 O2 O3).dr, .int .i64 (m.plus O0 O1 O2 O3).cu, .int .i64 (m.plus O0 O1 O2 O3).fa], .int .i64 0]) ∧ Below V.heap.size V w' from fun V g hg => (Apply_c m (some ⟨g, 0, none⟩) [O0, O1, O2, O3] 4 V (blk_ints (ys := [O0, O1, O2, O3]) hg) (by simp)).mono fun _ _ ⟨k1, k2⟩ => ⟨by
    have e1 : Dv.apB m [O0, O1, O2, O3] = true := by
      unfold Dv.apB
      rw [Dv.chkB_iff.2 HM.out, upB4.2 ⟨by omega, by omega, by omega, by omega⟩]
      rfl
    have e2 : Dv.chkB (Dv.apM m [O0, O1, O2, O3]) = true := Dv.chkB_iff.2 hrl.out
    rw [k1]
    unfold Dv.apR
    rw [if_pos e1, if_pos e2]
    rfl, k2⟩)
  have KA0 : ∀ V : World, Below w.heap.size w V → Calls Try.prog 57 #[.agg #[.int .i64 m.r, .int .i64 m.ld, .int .i64 m.lq, .int .i64 m.fx, .int .i64 m.po, .int .i64 m.mi, .int .i64 m.sp, .int .i64 m.dr, .int .i64 m.cu, .int .i64 m.fa], .slice (some ad) 5 cap, .int .i64 0, .int .i64 0, .int .i64 0] V fun e w' => e = .returned (.tuple #[.agg #[.int .i64 (Dv.alV m [s0, s1, s2, s3, s4] 0 0 0 (Dv.aLo m [s0, s1, s2, s3, s4] 0 0 0)), .int .i64 (Dv.alV m [s0, s1, s2, s3, s4] 0 0 0 (Dv.aHi m [s0, s1, s2, s3, s4] 0 0 0))], .agg #[.int .i64 (Dv.alV m [s0, s1, s2, s3, s4] 0 0 0 (Dv.bLo m [s0, s1, s2, s3, s4] 0 0 0)), .int .i64 (Dv.alV m [s0, s1, s2, s3, s4] 0 0 0 (Dv.bHi m [s0, s1, s2, s3, s4] 0 0 0))], .int .i64 (Dv.alE m [s0, s1, s2, s3, s4] 0 0 0)]) ∧ Below V.heap.size V w' := fun V hV => Allowed_c m (some ad) [s0, s1, s2, s3, s4] 0 0 0 cap V (HX.out.below hV) (by simp)
  have KA1 : ∀ V : World, Below w.heap.size w V → Calls Try.prog 57 #[.agg #[.int .i64 m.r, .int .i64 m.ld, .int .i64 m.lq, .int .i64 m.fx, .int .i64 m.po, .int .i64 m.mi, .int .i64 m.sp, .int .i64 m.dr, .int .i64 m.cu, .int .i64 m.fa], .slice (some ad) 5 cap, .int .i64 D, .int .i64 Q, .int .i64 s] V fun e w' => e = .returned (.tuple #[.agg #[.int .i64 (Dv.alV m [s0, s1, s2, s3, s4] D Q s (Dv.aLo m [s0, s1, s2, s3, s4] D Q s)), .int .i64 (Dv.alV m [s0, s1, s2, s3, s4] D Q s (Dv.aHi m [s0, s1, s2, s3, s4] D Q s))], .agg #[.int .i64 (Dv.alV m [s0, s1, s2, s3, s4] D Q s (Dv.bLo m [s0, s1, s2, s3, s4] D Q s)), .int .i64 (Dv.alV m [s0, s1, s2, s3, s4] D Q s (Dv.bHi m [s0, s1, s2, s3, s4] D Q s))], .int .i64 (Dv.alE m [s0, s1, s2, s3, s4] D Q s)]) ∧ Below V.heap.size V w' := fun V hV => Allowed_c m (some ad) [s0, s1, s2, s3, s4] D Q s cap V (HX.out.below hV) (by simp)
  have hE0 : Dv.alE m [s0, s1, s2, s3, s4] 0 0 0 = 0 ∨ Dv.alE m [s0, s1, s2, s3, s4] 0 0 0 = 17 := (Dv.alE_or HL.out (by
    unfold Dv.alIn
    rw [upB2.2 ⟨by omega, by omega⟩, upB1.2 (by omega)]
    rfl)).imp (fun h => h.1) (fun h => h)
  have HE1 := Lib.hid (Dv.alE_or HL.out HIN.out)
  have HOK : Hid (Dv.alOk m [s0, s1, s2, s3, s4] D Q s = true → Dv.alE m [s0, s1, s2, s3, s4] D Q s = 0 → (Dv.alV m [s0, s1, s2, s3, s4] D Q s (Dv.aLo m [s0, s1, s2, s3, s4] D Q s) ≤ Dv.alV m [s0, s1, s2, s3, s4] D Q s (Dv.aHi m [s0, s1, s2, s3, s4] D Q s)) ∧ (Dv.alV m [s0, s1, s2, s3, s4] D Q s (Dv.bLo m [s0, s1, s2, s3, s4] D Q s) ≤ Dv.alV m [s0, s1, s2, s3, s4] D Q s (Dv.bHi m [s0, s1, s2, s3, s4] D Q s))) := Lib.hid (fun h0 h1 => by
    unfold Dv.alV
    rw [if_pos h1, if_pos h1, if_pos h1, if_pos h1]
    unfold Dv.alOk at h0
    simpa using h0)
  have HSF : Hid (∀ W VD VQ, s + s4.lo ≤ W → W ≤ s + s4.hi → Dv.alE m [s0, s1, s2, s3, s4] D Q s = 0 → Dv.alV m [s0, s1, s2, s3, s4] D Q s (Dv.aLo m [s0, s1, s2, s3, s4] D Q s) ≤ VD → VD ≤ Dv.alV m [s0, s1, s2, s3, s4] D Q s (Dv.aHi m [s0, s1, s2, s3, s4] D Q s) → Dv.alV m [s0, s1, s2, s3, s4] D Q s (Dv.bLo m [s0, s1, s2, s3, s4] D Q s) ≤ VQ → VQ ≤ Dv.alV m [s0, s1, s2, s3, s4] D Q s (Dv.bHi m [s0, s1, s2, s3, s4] D Q s) → (-m.cu ≤ (Dv.stN (m.plus O0 O1 O2 O3) ⟨D, Q, 1000 * W, 0⟩ VD VQ ld).d ∧ (Dv.stN (m.plus O0 O1 O2 O3) ⟨D, Q, 1000 * W, 0⟩ VD VQ ld).d ≤ m.cu) ∧ (-m.cu ≤ (Dv.stN (m.plus O0 O1 O2 O3) ⟨D, Q, 1000 * W, 0⟩ VD VQ ld).q ∧ (Dv.stN (m.plus O0 O1 O2 O3) ⟨D, Q, 1000 * W, 0⟩ VD VQ ld).q ≤ m.cu)) := Lib.hid (fun W VD VQ k1 k2 k3 k4 k5 k6 k7 => by
    unfold Dv.alV at k4 k5 k6 k7
    rw [if_pos k3] at k4 k5 k6 k7
    exact Dv.safe_next HL.out iD iQ ⟨k1, k2⟩ hbw.out ⟨k4, k5⟩ ⟨k6, k7⟩)
  have HVB : Hid (Dv.alE m [s0, s1, s2, s3, s4] D Q s = 0 → (-2305843009213693952 ≤ Dv.alV m [s0, s1, s2, s3, s4] D Q s (Dv.aLo m [s0, s1, s2, s3, s4] D Q s)) ∧ (Dv.alV m [s0, s1, s2, s3, s4] D Q s (Dv.aHi m [s0, s1, s2, s3, s4] D Q s) ≤ 2305843009213693952) ∧ (-2305843009213693952 ≤ Dv.alV m [s0, s1, s2, s3, s4] D Q s (Dv.bLo m [s0, s1, s2, s3, s4] D Q s)) ∧ (Dv.alV m [s0, s1, s2, s3, s4] D Q s (Dv.bHi m [s0, s1, s2, s3, s4] D Q s) ≤ 2305843009213693952)) := Lib.hid (fun h => by
    unfold Dv.alV
    rw [if_pos h, if_pos h, if_pos h, if_pos h]
    exact safe_bd HL.out iD iQ hs1 hs2)

  generalize Dv.alV m [s0, s1, s2, s3, s4] 0 0 0 (Dv.aLo m [s0, s1, s2, s3, s4] 0 0 0) = x1 at KA0
  generalize Dv.alV m [s0, s1, s2, s3, s4] 0 0 0 (Dv.aHi m [s0, s1, s2, s3, s4] 0 0 0) = x2 at KA0
  generalize Dv.alV m [s0, s1, s2, s3, s4] 0 0 0 (Dv.bLo m [s0, s1, s2, s3, s4] 0 0 0) = x3 at KA0
  generalize Dv.alV m [s0, s1, s2, s3, s4] 0 0 0 (Dv.bHi m [s0, s1, s2, s3, s4] 0 0 0) = x4 at KA0
  generalize Dv.alE m [s0, s1, s2, s3, s4] 0 0 0 = E0 at KA0 hE0
  generalize Dv.alV m [s0, s1, s2, s3, s4] D Q s (Dv.aLo m [s0, s1, s2, s3, s4] D Q s) = y1 at KA1 HOK HSF HVB
  generalize Dv.alV m [s0, s1, s2, s3, s4] D Q s (Dv.aHi m [s0, s1, s2, s3, s4] D Q s) = y2 at KA1 HOK HSF HVB
  generalize Dv.alV m [s0, s1, s2, s3, s4] D Q s (Dv.bLo m [s0, s1, s2, s3, s4] D Q s) = y3 at KA1 HOK HSF HVB
  generalize Dv.alV m [s0, s1, s2, s3, s4] D Q s (Dv.bHi m [s0, s1, s2, s3, s4] D Q s) = y4 at KA1 HOK HSF HVB
  generalize Dv.alE m [s0, s1, s2, s3, s4] D Q s = E1 at KA1 HOK HSF HVB HE1
  have HKA0 := Lib.hid KA0
  have HKA1 := Lib.hid KA1
  have HE0 := Lib.hid hE0
  clear KA0 KA1 hE0 v0 v1 v2 v3
  have S0 := Lib.hid ((St.start w).alloc [.int .i64 m.r, .int .i64 m.ld, .int .i64 m.lq, .int .i64 m.fx, .int .i64 m.po, .int .i64 m.mi, .int .i64 m.sp, .int .i64 m.dr, .int .i64 m.cu, .int .i64 m.fa] 52)
  go_enter Try.func15, Try.ntmps15
  go_wp2_with fail
  refine (HKA0.out _ S0.out.1).mono ?_
  rintro e w1 ⟨rfl, hb1⟩
  have S1 := Lib.hid (((S0.out.below hb1).alloc [.int .i64 x1, .int .i64 x2] 29).alloc [.int .i64 x3, .int .i64 x4] 29)
  have gz := (S0.out.below hb1).1.size
  clear hb1 S0
  go_upto_region 2 with (fail)
  refine gen_world (fun W => St w [(w1.heap.size + 1, 29, [.int .i64 x3, .int .i64 x4]), (w1.heap.size, 29, [.int .i64 x1, .int .i64 x2]), (w.heap.size, 52, [.int .i64 m.r, .int .i64 m.ld, .int .i64 m.lq, .int .i64 m.fx, .int .i64 m.po, .int .i64 m.mi, .int .i64 m.sp, .int .i64 m.dr, .int .i64 m.cu, .int .i64 m.fa])] W) (by have := S1.out; simp at this; exact this) ?_
  clear S1
  generalize w1.heap.size = ga at gz ⊢
  clear w1
  rintro w1 i1
  have S1 := Lib.hid i1
  clear i1
  go_cut [60] from 22 (fun s60 wx => SfCut w m ga x1 x2 x3 x4 s60 wx)
  case first =>
    have m9 := (S1.out.get 2 rfl).cell 9 rfl
    have zm := (S1.out.get 2 rfl).lt
    have t1 : decide (m.fa < s) = false := decide_eq_false (by omega)
    have t2 : decide (s < -m.fa) = false := decide_eq_false (by omega)
    have t3 : decide (68719476736 < ld) = false := decide_eq_false (by omega)
    have t4 : decide (ld < -68719476736) = false := decide_eq_false (by omega)
    rcases HE0.out with h | h
    · have h1 : (E0 != 0) = false := by simp [h]
      clear h
      go_wp2
      go_meet
      case rel => exact ⟨rfl, S1⟩
    · have h1 : (E0 != 0) = true := by simp [h]
      have h2 : (E0 != 17) = false := by simp [h]
      clear h
      go_wp2
      go_meet
      case rel => exact ⟨rfl, S1⟩
  case rest =>
  obtain ⟨rfl, S2⟩ := hcut
  clear S1
  have m8 := (S2.out.get 2 rfl).cell 8 rfl
  have zm := (S2.out.get 2 rfl).lt
  go_upto_region 5 with (fail)
  have gz2 := S2.out.1.size
  have S3 := Lib.hid (S2.out.alloc [.int .i64 (-m.cu), .int .i64 m.cu] 29)
  have z14 := (S2.out.get 0 rfl).lt
  refine gen_world (fun W => St w [(wc.heap.size, 29, [.int .i64 (-m.cu), .int .i64 m.cu]), (ga + 1, 29, [.int .i64 x3, .int .i64 x4]), (ga, 29, [.int .i64 x1, .int .i64 x2]), (w.heap.size, 52, [.int .i64 m.r, .int .i64 m.ld, .int .i64 m.lq, .int .i64 m.fx, .int .i64 m.po, .int .i64 m.mi, .int .i64 m.sp, .int .i64 m.dr, .int .i64 m.cu, .int .i64 m.fa])] W) S3.out ?_
  clear S3 S2 m8 zm
  generalize wc.heap.size = gc at gz2 z14 ⊢
  clear wc
  rintro w2 i2
  have S2 := Lib.hid i2
  clear i2
  have c0 := (S2.out.get 0 rfl).cell 0 rfl
  have c1 := (S2.out.get 0 rfl).cell 1 rfl
  have zc := (S2.out.get 0 rfl).lt
  have HPV := Lib.hid (show ∀ x : Past _, Below w.heap.size w x.w from fun x => S2.out.1.trans (x.far.mono S2.out.1.size))
  refine wp_region_past (by kernel_rfl) (by kernel_rfl) ?_
  repeat (go_big_quiet_step (first | (go_at_call 63; with_reducible exact past_same (KP0.out _ (HPV.out _))) | (go_at_call 63; with_reducible exact past_same (KP1.out _ (HPV.out _))) | (go_at_call 62; with_reducible exact past_below (KID.out _)) | (go_at_call 62; with_reducible exact past_below (KIQ.out _))))
  refine wpQuiet_nil ?_
  intro y
  have S4 := Lib.hid (S2.out.below y.far)
  clear S2 HPV c0 c1 zc
  generalize y.w = wy at S4 ⊢
  obtain ⟨m0, m1, m2, m3, m4, m5, m6, m7, m8, m9⟩ := motOf (m := m) (S4.out.get 3 rfl)
  have zm := (S4.out.get 3 rfl).lt
  go_upto_region 6 with (fail)
  go_wp2_with fail
  refine (HKA1.out _ S4.out.1).mono ?_
  rintro e w5 ⟨rfl, hb5⟩
  have S5 := Lib.hid (S4.out.below hb5)
  clear hb5 S4 m0 m1 m2 m3 m4 m5 m6 m7 m8 m9 zm
  have f0 := (S5.out.get 2 rfl).free 0
  have f1 := (S5.out.get 2 rfl).free 1
  have f2 := (S5.out.get 1 rfl).free 0
  have f3 := (S5.out.get 1 rfl).free 1
  have c0 := (S5.out.get 2 rfl).cell 0 rfl
  have c1 := (S5.out.get 2 rfl).cell 1 rfl
  have c2 := (S5.out.get 1 rfl).cell 0 rfl
  have c3 := (S5.out.get 1 rfl).cell 1 rfl
  have zc := (S5.out.get 1 rfl).lt
  have S6 := Lib.hid ((S5.out.upd 2 rfl gz [.int .i64 y1, .int .i64 y2] rfl).upd 1 rfl (by omega) [.int .i64 y3, .int .i64 y4] rfl)
  clear S5
  go_upto_region 7 with (fail)
  refine gen_world (fun W => St w [(gc, 29, [.int .i64 (-m.cu), .int .i64 m.cu]), (ga + 1, 29, [.int .i64 y3, .int .i64 y4]), (ga, 29, [.int .i64 y1, .int .i64 y2]), (w.heap.size, 52, [.int .i64 m.r, .int .i64 m.ld, .int .i64 m.lq, .int .i64 m.fx, .int .i64 m.po, .int .i64 m.mi, .int .i64 m.sp, .int .i64 m.dr, .int .i64 m.cu, .int .i64 m.fa])] W) S6.out ?_
  clear S6 f0 f1 f2 f3 c0 c1 c2 c3 zc w5
  rintro w5 i5
  have S5 := Lib.hid i5
  clear i5
  rcases HE1.out with ⟨h, hok⟩ | h
  rotate_left 1
  · have h1 : (E1 != 0) = true := by simp [h]
    have h2 : (E1 == 17) = true := by simp [h]
    clear h
    go_wp2_with fail
    refine (known_c _).mono ?_
    rintro e wk ⟨rfl, hbk⟩
    have SK := Lib.hid (S5.out.below hbk)
    clear hbk
    go_wp2
    go_ret
    exact ⟨rfl, SK.out.1⟩
  · have h1 : (E1 != 0) = false := by simp [h]
    obtain ⟨hy1, hy2⟩ := HOK.out hok h
    obtain ⟨hb1, hb2, hb3, hb4⟩ := HVB.out h
    have HSG := Lib.hid (fun W VD VQ k1 k2 => HSF.out W VD VQ k1 k2 h)
    clear HOK HVB HSF hok h HE1
    have iVD := Dv.ins_in (p := p7) hy1
    have iVQ := Dv.ins_in (p := p8) hy2
    have KIVD := Lib.hid (show ∀ V : World, Calls Try.prog 62 #[.agg #[.int .i64 y1, .int .i64 y2], .int .u64 p7] V fun e w' => e = .returned (.int .i64 (Dv.ins y1 y2 p7)) ∧ Below V.heap.size V w' from fun V => inside_e y1 y2 p7 V hy1 hb1 hb2 u7)
    have KIVQ := Lib.hid (show ∀ V : World, Calls Try.prog 62 #[.agg #[.int .i64 y3, .int .i64 y4], .int .u64 p8] V fun e w' => e = .returned (.int .i64 (Dv.ins y3 y4 p8)) ∧ Below V.heap.size V w' from fun V => inside_e y3 y4 p8 V hy2 hb3 hb4 u8)
    generalize Dv.ins y1 y2 p7 = VD at iVD KIVD
    generalize Dv.ins y3 y4 p8 = VQ at iVQ KIVQ
    have c0 := (S5.out.get 2 rfl).cell 0 rfl
    have c1 := (S5.out.get 2 rfl).cell 1 rfl
    have c2 := (S5.out.get 1 rfl).cell 0 rfl
    have c3 := (S5.out.get 1 rfl).cell 1 rfl
    have zc := (S5.out.get 1 rfl).lt
    have j1 : decide (y2 < y1) = false := decide_eq_false (by omega)
    have j2 : decide (y4 < y3) = false := decide_eq_false (by omega)
    go_upto_region 11 with (fail)
    clear c0 c1 c2 c3 zc j1 j2
    refine wp_region_privz 31 [29] [.q, .q, .q, .q, .q, .q, .q, .q, .q, .q, .q, .q, .q, .q, .q, .q, .q, .q, .q, .q, .q, .q, .q, .q, .q, .p, .c 25 131, .q, .q, .q, .p] (fun n => (if n = 25 then (.cells #[.int .i64 O0, .int .i64 O1, .int .i64 O2, .int .i64 O3] 2, fun b => .slice (some ⟨b, 0, none⟩) 4 4) else (.cells #[.int .i64 0, .int .i64 0, .int .i64 0, .int .i64 0, .int .i64 0, .int .i64 0, .int .i64 0, .int .i64 0, .int .i64 0, .int .i64 0] 52, fun b => .pointer (some ⟨b, 0, none⟩)))) ?afA (by kernel_rfl) (by kernel_rfl) (fun _ _ _ _ _ h => h) ?walkA ?tailA
    case walkA =>
      intro V hV
      have IV := Lib.hid (S5.out.below hV)
      obtain ⟨m0, m1, m2, m3, m4, m5, m6, m7, m8, m9⟩ := motOf (m := m) (IV.out.get 3 rfl)
      have zm := (IV.out.get 3 rfl).lt
      have hz5 := H5.out.1
      obtain ⟨z5, x0, x1', x2', x3', x4', x5, x6, x7, _, _⟩ := H5.out.below IV.out.1 hz5
      have x33 : V.cell? ⟨ad.block, ad.off + 2 + 1, none⟩ = some (.int .i64 s1.hi) := x3'
      have x55 : V.cell? ⟨ad.block, ad.off + 4 + 1, none⟩ = some (.int .i64 s2.hi) := x5
      have x77 : V.cell? ⟨ad.block, ad.off + 6 + 1, none⟩ = some (.int .i64 s3.hi) := x7
      have HPV := Lib.hid (show ∀ x : Past V, Below w.heap.size w x.w from fun x => IV.out.1.trans (x.far.mono IV.out.1.size))
      simp only [List.take_succ_cons, List.take_zero]
      repeat (refine wpP_q ?_; go_big_quiet_step (first | (go_at_call 63; with_reducible exact past_same (KP2.out _ (HPV.out _))) | (go_at_call 63; with_reducible exact past_same (KP3.out _ (HPV.out _))) | (go_at_call 63; with_reducible exact past_same (KP4.out _ (HPV.out _))) | (go_at_call 63; with_reducible exact past_same (KP5.out _ (HPV.out _))) | (go_at_call 62; with_reducible exact past_below (KIO0.out _)) | (go_at_call 62; with_reducible exact past_below (KIO1.out _)) | (go_at_call 62; with_reducible exact past_below (KIO2.out _)) | (go_at_call 62; with_reducible exact past_below (KIO3.out _))); refine wpQuiet_nil ?_)
      refine wpP_p (by kernel_rfl) (fun _ => by kernel_rfl) ?_
      (try simp only [Act.put, List.setIfInBounds_toArray, List.set_cons_zero, List.set_cons_succ])
      refine wpP_c (.tuple #[.agg #[.int .i64 (m.plus O0 O1 O2 O3).r, .int .i64 (m.plus O0 O1 O2 O3).ld, .int .i64 (m.plus O0 O1 O2 O3).lq, .int .i64 (m.plus O0 O1 O2 O3).fx, .int .i64 (m.plus O0 O1 O2 O3).po, .int .i64 (m.plus O0 O1 O2 O3).mi, .int .i64 (m.plus O0 O1 O2 O3).sp, .int .i64 (m.plus O0 O1 O2 O3).dr, .int .i64 (m.plus O0 O1 O2 O3).cu, .int .i64 (m.plus O0 O1 O2 O3).fa], .int .i64 0]) (fun V' g' hV' hg' => ?_) ?_
      · (try simp only [Act.put, List.setIfInBounds_toArray, List.set_cons_zero, List.set_cons_succ])
        have hbb : Blk V' g' 2 [.int .i64 O0, .int .i64 O1, .int .i64 O2, .int .i64 O3] := hg'
        have zz := hbb.lt
        go_big_quiet_step ((go_at_call 52; exact past_below (KY.out _ g' (hbb.below (Past.far _) hbb.lt))))
        refine wpQuiet_nil ?_
        rfl
      (try simp only [Act.put, List.setIfInBounds_toArray, List.set_cons_zero, List.set_cons_succ])
      repeat (refine wpP_q ?_; go_big_quiet_step (fail); refine wpQuiet_nil ?_)
      refine wpP_p (by kernel_rfl) (fun _ => by kernel_rfl) ?_
      (try simp only [Act.put, List.setIfInBounds_toArray, List.set_cons_zero, List.set_cons_succ])
      refine wpP_nil ?_
      rfl
    case tailA =>
    intro gs w6 hb6 hP hD
    obtain ⟨hgr, kr⟩ := hP 30 rfl
    simp only [List.take_succ_cons, List.take_zero, fillP]
    (try simp only [Act.put, List.setIfInBounds_toArray, List.set_cons_zero, List.set_cons_succ])
    generalize gs 30 = gr at hgr kr ⊢
    generalize gs 25 = gx
    clear hP hD
    have k2 : Blk w6 gr 52 [.int .i64 0, .int .i64 0, .int .i64 0, .int .i64 0, .int .i64 0, .int .i64 0, .int .i64 0, .int .i64 0, .int .i64 0, .int .i64 0] := kr
    have f0 := k2.free 0
    have f1 := k2.free 1
    have f2 := k2.free 2
    have f3 := k2.free 3
    have f4 := k2.free 4
    have f5 := k2.free 5
    have f6 := k2.free 6
    have f7 := k2.free 7
    have f8 := k2.free 8
    have f9 := k2.free 9
    obtain ⟨d0, d1, d2, d3, d4, d5, d6, d7, d8, d9⟩ := motOf (m := mot0) k2
    have S6 := Lib.hid (S5.out.lay hb6 hgr k2 [.int .i64 (m.plus O0 O1 O2 O3).r, .int .i64 (m.plus O0 O1 O2 O3).ld, .int .i64 (m.plus O0 O1 O2 O3).lq, .int .i64 (m.plus O0 O1 O2 O3).fx, .int .i64 (m.plus O0 O1 O2 O3).po, .int .i64 (m.plus O0 O1 O2 O3).mi, .int .i64 (m.plus O0 O1 O2 O3).sp, .int .i64 (m.plus O0 O1 O2 O3).dr, .int .i64 (m.plus O0 O1 O2 O3).cu, .int .i64 (m.plus O0 O1 O2 O3).fa] rfl)
    clear hb6 hgr kr k2 S5
    simp only [List.drop_succ_cons, List.drop_zero]
    go_upto_region 14 with (fail)
    refine gen_world (fun W => St w [(gr, 52, [.int .i64 (m.plus O0 O1 O2 O3).r, .int .i64 (m.plus O0 O1 O2 O3).ld, .int .i64 (m.plus O0 O1 O2 O3).lq, .int .i64 (m.plus O0 O1 O2 O3).fx, .int .i64 (m.plus O0 O1 O2 O3).po, .int .i64 (m.plus O0 O1 O2 O3).mi, .int .i64 (m.plus O0 O1 O2 O3).sp, .int .i64 (m.plus O0 O1 O2 O3).dr, .int .i64 (m.plus O0 O1 O2 O3).cu, .int .i64 (m.plus O0 O1 O2 O3).fa]), (gc, 29, [.int .i64 (-m.cu), .int .i64 m.cu]), (ga + 1, 29, [.int .i64 y3, .int .i64 y4]), (ga, 29, [.int .i64 y1, .int .i64 y2]), (w.heap.size, 52, [.int .i64 m.r, .int .i64 m.ld, .int .i64 m.lq, .int .i64 m.fx, .int .i64 m.po, .int .i64 m.mi, .int .i64 m.sp, .int .i64 m.dr, .int .i64 m.cu, .int .i64 m.fa])] W) S6.out ?_
    clear S6 f0 f1 f2 f3 f4 f5 f6 f7 f8 f9 d0 d1 d2 d3 d4 d5 d6 d7 d8 d9 w6
    rintro w6 i6
    have S6 := Lib.hid i6
    clear i6
    have hz5 := H5.out.1
    obtain ⟨z5, _, _, _, _, _, _, _, _, x8, x9⟩ := H5.out.below S6.out.1 hz5
    have x99 : w6.cell? ⟨ad.block, ad.off + 8 + 1, none⟩ = some (.int .i64 s4.hi) := x9
    have HPV := Lib.hid (show ∀ x : Past _, Below w.heap.size w x.w from fun x => S6.out.1.trans (x.far.mono S6.out.1.size))
    refine wp_region_past (by kernel_rfl) (by kernel_rfl) ?_
    repeat (go_big_quiet_step (first | (go_at_call 63; with_reducible exact past_same (KP6.out _ (HPV.out _))) | (go_at_call 62; with_reducible exact past_below (KIO4.out _))))
    refine wpQuiet_nil ?_
    intro y
    have S7 := Lib.hid (S6.out.below y.far)
    clear S6 HPV hz5 z5 x8 x9 x99
    generalize y.w = wy at S7 ⊢
    go_upto_region 15 with (fail)
    have c0 := (S7.out.get 3 rfl).cell 0 rfl
    have c1 := (S7.out.get 3 rfl).cell 1 rfl
    have c2 := (S7.out.get 2 rfl).cell 0 rfl
    have c3 := (S7.out.get 2 rfl).cell 1 rfl
    have zc := (S7.out.get 2 rfl).lt
    have zc2 := (S7.out.get 3 rfl).lt
    have HPV := Lib.hid (show ∀ x : Past _, Below w.heap.size w x.w from fun x => S7.out.1.trans (x.far.mono S7.out.1.size))
    refine wp_region_past (by kernel_rfl) (by kernel_rfl) ?_
    repeat (go_big_quiet_step (first | (go_at_call 63; with_reducible exact past_same (KP7.out _ (HPV.out _))) | (go_at_call 63; with_reducible exact past_same (KP8.out _ (HPV.out _))) | (go_at_call 62; with_reducible exact past_below (KIVD.out _)) | (go_at_call 62; with_reducible exact past_below (KIVQ.out _))))
    refine wpQuiet_nil ?_
    intro y
    have S8 := Lib.hid (S7.out.below y.far)
    clear S7 HPV c0 c1 c2 c3 zc zc2
    generalize y.w = wy at S8 ⊢
    generalize hWW : s + O4 = WW at ⊢
    have hww : s + s4.lo ≤ WW ∧ WW ≤ s + s4.hi := by omega
    have HWW := Lib.hid hWW
    clear hWW
    by_cases g0 : 16384 < WW
    · go_wp2_with fail
      refine (known_c _).mono ?_
      rintro e wk ⟨rfl, hbk⟩
      have SK := Lib.hid (S8.out.below hbk)
      clear hbk
      go_wp2
      go_ret
      exact ⟨rfl, SK.out.1⟩
    · skip
      by_cases g1 : WW < -16384
      · go_wp2_with fail
        refine (known_c _).mono ?_
        rintro e wk ⟨rfl, hbk⟩
        have SK := Lib.hid (S8.out.below hbk)
        clear hbk
        go_wp2
        go_ret
        exact ⟨rfl, SK.out.1⟩
      · skip
        by_cases g2 : 1073741824 < VD
        · go_wp2_with fail
          refine (known_c _).mono ?_
          rintro e wk ⟨rfl, hbk⟩
          have SK := Lib.hid (S8.out.below hbk)
          clear hbk
          go_wp2
          go_ret
          exact ⟨rfl, SK.out.1⟩
        · skip
          by_cases g3 : VD < -1073741824
          · go_wp2_with fail
            refine (known_c _).mono ?_
            rintro e wk ⟨rfl, hbk⟩
            have SK := Lib.hid (S8.out.below hbk)
            clear hbk
            go_wp2
            go_ret
            exact ⟨rfl, SK.out.1⟩
          · skip
            by_cases g4 : 1073741824 < VQ
            · go_wp2_with fail
              refine (known_c _).mono ?_
              rintro e wk ⟨rfl, hbk⟩
              have SK := Lib.hid (S8.out.below hbk)
              clear hbk
              go_wp2
              go_ret
              exact ⟨rfl, SK.out.1⟩
            · skip
              by_cases g5 : VQ < -1073741824
              · go_wp2_with fail
                refine (known_c _).mono ?_
                rintro e wk ⟨rfl, hbk⟩
                have SK := Lib.hid (S8.out.below hbk)
                clear hbk
                go_wp2
                go_ret
                exact ⟨rfl, SK.out.1⟩
              · skip
                obtain ⟨r0, r1, r2, r3, r4, r5, r6, r7, r8, r9⟩ := motOf (m := m.plus O0 O1 O2 O3) (S8.out.get 0 rfl)
                have zr := (S8.out.get 0 rfl).lt
                have HST := Lib.hid (show Dv.stR (m.plus O0 O1 O2 O3) ⟨D, Q, 1000 * WW, 0⟩ VD VQ ld = (Dv.stN (m.plus O0 O1 O2 O3) ⟨D, Q, 1000 * WW, 0⟩ VD VQ ld, 0) ∨ Dv.stR (m.plus O0 O1 O2 O3) ⟨D, Q, 1000 * WW, 0⟩ VD VQ ld = (rot0, 4) from by
                  have e1 := Dv.chkB_iff.2 hrl.out
                  have e2 : Dv.stB ⟨D, Q, 1000 * WW, 0⟩ VD VQ ld = true := by
                    unfold Dv.stB
                    rw [Dv.rotB_iff.2 ⟨by simp only; omega, by simp only; omega, by simp only; omega, by simp only; omega⟩, upB2.2 ⟨by omega, by omega⟩, upB1.2 (by omega)]
                    rfl
                  unfold Dv.stR
                  rw [if_pos e1, if_pos e2]
                  split
                  · exact .inl rfl
                  · exact .inr rfl)
                have HCC := Lib.hid (HSG.out WW VD VQ hww.1 hww.2 iVD.1 iVD.2 iVQ.1 iVQ.2)
                have KS := Lib.hid (fun V : World => Step_c (m.plus O0 O1 O2 O3) ⟨D, Q, 1000 * WW, 0⟩ VD VQ ld V)
                generalize Dv.stR (m.plus O0 O1 O2 O3) ⟨D, Q, 1000 * WW, 0⟩ VD VQ ld = R at HST KS
                generalize Dv.stN (m.plus O0 O1 O2 O3) ⟨D, Q, 1000 * WW, 0⟩ VD VQ ld = X at HST HCC
                go_wp2_with fail
                refine (KS.out _).mono ?_
                rintro e w9 ⟨rfl, hb9⟩
                have S9 := Lib.hid ((S8.out.below hb9).alloc [.int .i64 R.1.d, .int .i64 R.1.q, .int .i64 R.1.w, .int .i64 R.1.a] 57)
                clear hb9 S8 r0 r1 r2 r3 r4 r5 r6 r7 r8 r9 zr KS
                have m8 := (S9.out.get 5 rfl).cell 8 rfl
                have zm := (S9.out.get 5 rfl).lt
                have r0 := (S9.out.get 0 rfl).cell 0 rfl
                have r1 := (S9.out.get 0 rfl).cell 1 rfl
                have zr := (S9.out.get 0 rfl).lt
                simp at m8 zm r0 r1 zr
                rcases HST.out with rfl | rfl
                rotate_left 1
                · go_wp2_with fail
                  refine (known_c _).mono ?_
                  rintro e wk ⟨rfl, hbk⟩
                  have SK := Lib.hid (S9.out.below hbk)
                  clear hbk
                  go_wp2
                  go_ret
                  exact ⟨rfl, SK.out.1⟩
                · obtain ⟨⟨q1, q2⟩, q3, q4⟩ := HCC.out
                  go_wp2_with fail
                  refine (known_c _).mono ?_
                  rintro e wk ⟨rfl, hbk⟩
                  have SK := Lib.hid (S9.out.below hbk)
                  clear hbk
                  go_wp2
                  go_ret
                  exact ⟨rfl, SK.out.1⟩
end Go.Proofs.Ytcneohhfnnelgaa
namespace Go.Proofs.Ytcneohhfnnelgaa
open Go.RowKit
set_option linter.unusedVariables false

theorem newLimiter_x (m : Mot) (A : Option Addr) (l : List Sp) (cap : Nat) (w : World) (hx : SpAt w A l) :
    Calls Try.prog 108 #[.agg #[.int .i64 m.r, .int .i64 m.ld, .int .i64 m.lq, .int .i64 m.fx, .int .i64 m.po, .int .i64 m.mi, .int .i64 m.sp, .int .i64 m.dr, .int .i64 m.cu, .int .i64 m.fa], .slice A l.length cap] w (LmP m l w) := by
  cases hC : Dv.chkB m
  · exact (newLimiter_no1 m A l.length cap w hC).mono fun _ _ ⟨h1, h2⟩ => ⟨h2, .inl (by
      have : Dv.lmE m l = 2 := by simp [Dv.lmE, Dv.lmA, hC]
      rw [this]; exact ⟨by decide, h1⟩)⟩
  · by_cases hl : l.length = 5
    · match l, hl with
      | [s0, s1, s2, s3, s4], _ => exact newLimiter_go m A s0 s1 s2 s3 s4 cap w hx hC
    · exact (newLimiter_no2 m A l cap w hx hC (by simp; omega)).mono fun _ _ ⟨h1, h2⟩ => ⟨h2, .inl (by
        have : Dv.lmE m l = 2 := by simp [Dv.lmE, Dv.lmA, hl]
        rw [this]; exact ⟨by decide, h1⟩)⟩

set_option maxHeartbeats 4000000 in
set_option maxRecDepth 100000 in
theorem Allowed_x (m : Mot) (A : Option Addr) (l : List Sp) (d q s : Int) (cap : Nat) (w : World) (hx : SpAt w A l) (hbad : Dv.lmE m l ≠ 0) :
    Calls Try.prog 57 #[.agg #[.int .i64 m.r, .int .i64 m.ld, .int .i64 m.lq, .int .i64 m.fx, .int .i64 m.po, .int .i64 m.mi, .int .i64 m.sp, .int .i64 m.dr, .int .i64 m.cu, .int .i64 m.fa], .slice A l.length cap, .int .i64 d, .int .i64 q, .int .i64 s] w (AlP m l d q s w) := by
  have HX := Lib.hid hx
  have HBAD := Lib.hid hbad
  clear hx hbad
  have S0 := Lib.hid (show St w [(w.heap.size + 1 + 1, 29, [.int .i64 0, .int .i64 0]), (w.heap.size + 1, 29, [.int .i64 0, .int .i64 0]), (w.heap.size, 52, [.int .i64 m.r, .int .i64 m.ld, .int .i64 m.lq, .int .i64 m.fx, .int .i64 m.po, .int .i64 m.mi, .int .i64 m.sp, .int .i64 m.dr, .int .i64 m.cu, .int .i64 m.fa])] (((w.alloc (.cells #[.int .i64 m.r, .int .i64 m.ld, .int .i64 m.lq, .int .i64 m.fx, .int .i64 m.po, .int .i64 m.mi, .int .i64 m.sp, .int .i64 m.dr, .int .i64 m.cu, .int .i64 m.fa] 52)).alloc (.cells #[.int .i64 0, .int .i64 0] 29)).alloc (.cells #[.int .i64 0, .int .i64 0] 29)) from by
    have := (((St.start w).alloc [.int .i64 m.r, .int .i64 m.ld, .int .i64 m.lq, .int .i64 m.fx, .int .i64 m.po, .int .i64 m.mi, .int .i64 m.sp, .int .i64 m.dr, .int .i64 m.cu, .int .i64 m.fa] 52).alloc [.int .i64 0, .int .i64 0] 29).alloc [.int .i64 0, .int .i64 0] 29
    simp at this
    exact this)
  go_enter Try.func57, Try.ntmps57
  go_wp2_with fail
  refine (newLimiter_x m A l cap _ (HX.out.below S0.out.1)).mono ?_
  rintro e w1 ⟨hb1, h⟩
  rcases h with ⟨hne, rfl⟩ | ⟨h0, g, hgz, rfl, hg⟩
  · have S1 := Lib.hid (S0.out.below hb1)
    have HE : Hid (Dv.alE m l d q s = Dv.lmE m l) := Lib.hid (by unfold Dv.alE; rw [if_neg hne])
    have HNE := Lib.hid hne
    have hbt : (Dv.lmE m l != 0) = true := by simpa using hne
    clear hb1 S0 hne
    generalize Dv.lmE m l = E at HE HNE hbt
    have f0 := (S1.out.get 1 rfl).free 0
    have f1 := (S1.out.get 1 rfl).free 1
    have f2 := (S1.out.get 0 rfl).free 0
    have f3 := (S1.out.get 0 rfl).free 1
    have y0 := (S1.out.get 1 rfl).cell 0 rfl
    have y1 := (S1.out.get 1 rfl).cell 1 rfl
    have y2 := (S1.out.get 0 rfl).cell 0 rfl
    have y3 := (S1.out.get 0 rfl).cell 1 rfl
    have zy := (S1.out.get 0 rfl).lt
    go_wp2
    exact bodyPost_ret (v := .tuple #[.agg #[.int .i64 0, .int .i64 0], .agg #[.int .i64 0, .int .i64 0], .int .i64 E]) (by simp [results, Try.results57, go_sem, y0, y1, y2, y3]) rfl (AlP.no HE.out (HNE.out) rfl (below_put2 (below_put2 S1.out.1 (by omega) _ _) (by omega) _ _))
  · exact absurd h0 HBAD.out
theorem Allowed_y (m : Mot) (A : Option Addr) (l : List Sp) (d q s : Int) (cap : Nat) (w : World) (hx : SpAt w A l) :
    Calls Try.prog 57 #[.agg #[.int .i64 m.r, .int .i64 m.ld, .int .i64 m.lq, .int .i64 m.fx, .int .i64 m.po, .int .i64 m.mi, .int .i64 m.sp, .int .i64 m.dr, .int .i64 m.cu, .int .i64 m.fa], .slice A l.length cap, .int .i64 d, .int .i64 q, .int .i64 s] w (AlP m l d q s w) := by
  by_cases h : Dv.lmE m l = 0
  · have := (Dv.lm_parts h).2.1
    exact Allowed_c m A l d q s cap w hx (by omega)
  · exact Allowed_x m A l d q s cap w hx h

set_option maxHeartbeats 4000000 in
set_option maxRecDepth 100000 in
theorem Safe_e (m : Mot) (A : Option Addr) (cap : Nat) (s ld : Int) (B : Option Addr) (nu cap' : Nat) (w : World) (x1 x2 x3 x4 E0 : Int) (n : Nat) (h1 : (E0 != 0) = true) (h2 : (E0 != 17) = true)
    (hK : ∀ V : World, Below w.heap.size w V → Calls Try.prog 57 #[.agg #[.int .i64 m.r, .int .i64 m.ld, .int .i64 m.lq, .int .i64 m.fx, .int .i64 m.po, .int .i64 m.mi, .int .i64 m.sp, .int .i64 m.dr, .int .i64 m.cu, .int .i64 m.fa], .slice A n cap, .int .i64 0, .int .i64 0, .int .i64 0] V fun e w' => e = .returned (.tuple #[.agg #[.int .i64 x1, .int .i64 x2], .agg #[.int .i64 x3, .int .i64 x4], .int .i64 E0]) ∧ Below V.heap.size V w') :
    Calls Try.prog 15 #[.agg #[.int .i64 m.r, .int .i64 m.ld, .int .i64 m.lq, .int .i64 m.fx, .int .i64 m.po, .int .i64 m.mi, .int .i64 m.sp, .int .i64 m.dr, .int .i64 m.cu, .int .i64 m.fa], .slice A n cap, .int .i64 s, .int .i64 ld, .slice B nu cap'] w fun e w' => e = .returned (.bool true) ∧ Below w.heap.size w w' := by
  have HK := Lib.hid hK
  clear hK
  have S0 := Lib.hid ((St.start w).alloc [.int .i64 m.r, .int .i64 m.ld, .int .i64 m.lq, .int .i64 m.fx, .int .i64 m.po, .int .i64 m.mi, .int .i64 m.sp, .int .i64 m.dr, .int .i64 m.cu, .int .i64 m.fa] 52)
  go_enter Try.func15, Try.ntmps15
  go_wp2_with fail
  refine (HK.out _ S0.out.1).mono ?_
  rintro e w1 ⟨rfl, hb1⟩
  have S1 := Lib.hid (((S0.out.below hb1).alloc [.int .i64 x1, .int .i64 x2] 29).alloc [.int .i64 x3, .int .i64 x4] 29)
  have m9 := ((S0.out.below hb1).get 0 rfl).cell 9 rfl
  have zm := ((S0.out.below hb1).get 0 rfl).lt
  clear hb1 S0
  go_wp2_with fail
  refine (known_c _).mono ?_
  rintro e wk ⟨rfl, hbk⟩
  have SK := Lib.hid (S1.out.below hbk)
  clear hbk S1 m9 zm
  go_wp2
  go_ret
  exact ⟨rfl, SK.out.1⟩

set_option maxHeartbeats 4000000 in
set_option maxRecDepth 100000 in
theorem Safe_0a (m : Mot) (A : Option Addr) (cap : Nat) (s ld : Int) (B : Option Addr) (nu cap' : Nat) (w : World) (x1 x2 x3 x4 E0 : Int) (h1 : (E0 != 0) = false) (c1 : decide (m.fa < s) = true) (hm : -16384 ≤ m.fa ∧ m.fa ≤ 16384)
    (hK : ∀ V : World, Below w.heap.size w V → Calls Try.prog 57 #[.agg #[.int .i64 m.r, .int .i64 m.ld, .int .i64 m.lq, .int .i64 m.fx, .int .i64 m.po, .int .i64 m.mi, .int .i64 m.sp, .int .i64 m.dr, .int .i64 m.cu, .int .i64 m.fa], .slice A 5 cap, .int .i64 0, .int .i64 0, .int .i64 0] V fun e w' => e = .returned (.tuple #[.agg #[.int .i64 x1, .int .i64 x2], .agg #[.int .i64 x3, .int .i64 x4], .int .i64 E0]) ∧ Below V.heap.size V w') :
    Calls Try.prog 15 #[.agg #[.int .i64 m.r, .int .i64 m.ld, .int .i64 m.lq, .int .i64 m.fx, .int .i64 m.po, .int .i64 m.mi, .int .i64 m.sp, .int .i64 m.dr, .int .i64 m.cu, .int .i64 m.fa], .slice A 5 cap, .int .i64 s, .int .i64 ld, .slice B nu cap'] w fun e w' => e = .returned (.bool true) ∧ Below w.heap.size w w' := by
  have HK := Lib.hid hK
  clear hK
  have S0 := Lib.hid ((St.start w).alloc [.int .i64 m.r, .int .i64 m.ld, .int .i64 m.lq, .int .i64 m.fx, .int .i64 m.po, .int .i64 m.mi, .int .i64 m.sp, .int .i64 m.dr, .int .i64 m.cu, .int .i64 m.fa] 52)
  go_enter Try.func15, Try.ntmps15
  go_wp2_with fail
  refine (HK.out _ S0.out.1).mono ?_
  rintro e w1 ⟨rfl, hb1⟩
  have S1 := Lib.hid (((S0.out.below hb1).alloc [.int .i64 x1, .int .i64 x2] 29).alloc [.int .i64 x3, .int .i64 x4] 29)
  have m9 := ((S0.out.below hb1).get 0 rfl).cell 9 rfl
  have zm := ((S0.out.below hb1).get 0 rfl).lt
  clear hb1 S0
  go_wp2_with fail
  refine (known_c _).mono ?_
  rintro e wk ⟨rfl, hbk⟩
  have SK := Lib.hid (S1.out.below hbk)
  clear hbk S1 m9 zm
  go_wp2
  go_ret
  exact ⟨rfl, SK.out.1⟩

set_option maxHeartbeats 4000000 in
set_option maxRecDepth 100000 in
theorem Safe_0b (m : Mot) (A : Option Addr) (cap : Nat) (s ld : Int) (B : Option Addr) (nu cap' : Nat) (w : World) (x1 x2 x3 x4 E0 : Int) (h1 : (E0 != 0) = false) (c1 : decide (m.fa < s) = false) (c2 : decide (s < -m.fa) = true) (hm : -16384 ≤ m.fa ∧ m.fa ≤ 16384)
    (hK : ∀ V : World, Below w.heap.size w V → Calls Try.prog 57 #[.agg #[.int .i64 m.r, .int .i64 m.ld, .int .i64 m.lq, .int .i64 m.fx, .int .i64 m.po, .int .i64 m.mi, .int .i64 m.sp, .int .i64 m.dr, .int .i64 m.cu, .int .i64 m.fa], .slice A 5 cap, .int .i64 0, .int .i64 0, .int .i64 0] V fun e w' => e = .returned (.tuple #[.agg #[.int .i64 x1, .int .i64 x2], .agg #[.int .i64 x3, .int .i64 x4], .int .i64 E0]) ∧ Below V.heap.size V w') :
    Calls Try.prog 15 #[.agg #[.int .i64 m.r, .int .i64 m.ld, .int .i64 m.lq, .int .i64 m.fx, .int .i64 m.po, .int .i64 m.mi, .int .i64 m.sp, .int .i64 m.dr, .int .i64 m.cu, .int .i64 m.fa], .slice A 5 cap, .int .i64 s, .int .i64 ld, .slice B nu cap'] w fun e w' => e = .returned (.bool true) ∧ Below w.heap.size w w' := by
  have HK := Lib.hid hK
  clear hK
  have S0 := Lib.hid ((St.start w).alloc [.int .i64 m.r, .int .i64 m.ld, .int .i64 m.lq, .int .i64 m.fx, .int .i64 m.po, .int .i64 m.mi, .int .i64 m.sp, .int .i64 m.dr, .int .i64 m.cu, .int .i64 m.fa] 52)
  go_enter Try.func15, Try.ntmps15
  go_wp2_with fail
  refine (HK.out _ S0.out.1).mono ?_
  rintro e w1 ⟨rfl, hb1⟩
  have S1 := Lib.hid (((S0.out.below hb1).alloc [.int .i64 x1, .int .i64 x2] 29).alloc [.int .i64 x3, .int .i64 x4] 29)
  have m9 := ((S0.out.below hb1).get 0 rfl).cell 9 rfl
  have zm := ((S0.out.below hb1).get 0 rfl).lt
  clear hb1 S0
  go_wp2_with fail
  refine (known_c _).mono ?_
  rintro e wk ⟨rfl, hbk⟩
  have SK := Lib.hid (S1.out.below hbk)
  clear hbk S1 m9 zm
  go_wp2
  go_ret
  exact ⟨rfl, SK.out.1⟩

set_option maxHeartbeats 4000000 in
set_option maxRecDepth 100000 in
theorem Safe_0c (m : Mot) (A : Option Addr) (cap : Nat) (s ld : Int) (B : Option Addr) (nu cap' : Nat) (w : World) (x1 x2 x3 x4 E0 : Int) (h1 : (E0 != 0) = false) (c1 : decide (m.fa < s) = false) (c2 : decide (s < -m.fa) = false) (c3 : decide (68719476736 < ld) = true) (hm : -16384 ≤ m.fa ∧ m.fa ≤ 16384)
    (hK : ∀ V : World, Below w.heap.size w V → Calls Try.prog 57 #[.agg #[.int .i64 m.r, .int .i64 m.ld, .int .i64 m.lq, .int .i64 m.fx, .int .i64 m.po, .int .i64 m.mi, .int .i64 m.sp, .int .i64 m.dr, .int .i64 m.cu, .int .i64 m.fa], .slice A 5 cap, .int .i64 0, .int .i64 0, .int .i64 0] V fun e w' => e = .returned (.tuple #[.agg #[.int .i64 x1, .int .i64 x2], .agg #[.int .i64 x3, .int .i64 x4], .int .i64 E0]) ∧ Below V.heap.size V w') :
    Calls Try.prog 15 #[.agg #[.int .i64 m.r, .int .i64 m.ld, .int .i64 m.lq, .int .i64 m.fx, .int .i64 m.po, .int .i64 m.mi, .int .i64 m.sp, .int .i64 m.dr, .int .i64 m.cu, .int .i64 m.fa], .slice A 5 cap, .int .i64 s, .int .i64 ld, .slice B nu cap'] w fun e w' => e = .returned (.bool true) ∧ Below w.heap.size w w' := by
  have HK := Lib.hid hK
  clear hK
  have S0 := Lib.hid ((St.start w).alloc [.int .i64 m.r, .int .i64 m.ld, .int .i64 m.lq, .int .i64 m.fx, .int .i64 m.po, .int .i64 m.mi, .int .i64 m.sp, .int .i64 m.dr, .int .i64 m.cu, .int .i64 m.fa] 52)
  go_enter Try.func15, Try.ntmps15
  go_wp2_with fail
  refine (HK.out _ S0.out.1).mono ?_
  rintro e w1 ⟨rfl, hb1⟩
  have S1 := Lib.hid (((S0.out.below hb1).alloc [.int .i64 x1, .int .i64 x2] 29).alloc [.int .i64 x3, .int .i64 x4] 29)
  have m9 := ((S0.out.below hb1).get 0 rfl).cell 9 rfl
  have zm := ((S0.out.below hb1).get 0 rfl).lt
  clear hb1 S0
  go_wp2_with fail
  refine (known_c _).mono ?_
  rintro e wk ⟨rfl, hbk⟩
  have SK := Lib.hid (S1.out.below hbk)
  clear hbk S1 m9 zm
  go_wp2
  go_ret
  exact ⟨rfl, SK.out.1⟩

set_option maxHeartbeats 4000000 in
set_option maxRecDepth 100000 in
theorem Safe_0d (m : Mot) (A : Option Addr) (cap : Nat) (s ld : Int) (B : Option Addr) (nu cap' : Nat) (w : World) (x1 x2 x3 x4 E0 : Int) (h1 : (E0 != 0) = false) (c1 : decide (m.fa < s) = false) (c2 : decide (s < -m.fa) = false) (c3 : decide (68719476736 < ld) = false) (c4 : decide (ld < -68719476736) = true) (hm : -16384 ≤ m.fa ∧ m.fa ≤ 16384)
    (hK : ∀ V : World, Below w.heap.size w V → Calls Try.prog 57 #[.agg #[.int .i64 m.r, .int .i64 m.ld, .int .i64 m.lq, .int .i64 m.fx, .int .i64 m.po, .int .i64 m.mi, .int .i64 m.sp, .int .i64 m.dr, .int .i64 m.cu, .int .i64 m.fa], .slice A 5 cap, .int .i64 0, .int .i64 0, .int .i64 0] V fun e w' => e = .returned (.tuple #[.agg #[.int .i64 x1, .int .i64 x2], .agg #[.int .i64 x3, .int .i64 x4], .int .i64 E0]) ∧ Below V.heap.size V w') :
    Calls Try.prog 15 #[.agg #[.int .i64 m.r, .int .i64 m.ld, .int .i64 m.lq, .int .i64 m.fx, .int .i64 m.po, .int .i64 m.mi, .int .i64 m.sp, .int .i64 m.dr, .int .i64 m.cu, .int .i64 m.fa], .slice A 5 cap, .int .i64 s, .int .i64 ld, .slice B nu cap'] w fun e w' => e = .returned (.bool true) ∧ Below w.heap.size w w' := by
  have HK := Lib.hid hK
  clear hK
  have S0 := Lib.hid ((St.start w).alloc [.int .i64 m.r, .int .i64 m.ld, .int .i64 m.lq, .int .i64 m.fx, .int .i64 m.po, .int .i64 m.mi, .int .i64 m.sp, .int .i64 m.dr, .int .i64 m.cu, .int .i64 m.fa] 52)
  go_enter Try.func15, Try.ntmps15
  go_wp2_with fail
  refine (HK.out _ S0.out.1).mono ?_
  rintro e w1 ⟨rfl, hb1⟩
  have S1 := Lib.hid (((S0.out.below hb1).alloc [.int .i64 x1, .int .i64 x2] 29).alloc [.int .i64 x3, .int .i64 x4] 29)
  have m9 := ((S0.out.below hb1).get 0 rfl).cell 9 rfl
  have zm := ((S0.out.below hb1).get 0 rfl).lt
  clear hb1 S0
  go_wp2_with fail
  refine (known_c _).mono ?_
  rintro e wk ⟨rfl, hbk⟩
  have SK := Lib.hid (S1.out.below hbk)
  clear hbk S1 m9 zm
  go_wp2
  go_ret
  exact ⟨rfl, SK.out.1⟩

set_option maxHeartbeats 4000000 in
set_option maxRecDepth 100000 in
theorem Safe_7a (m : Mot) (A : Option Addr) (cap : Nat) (s ld : Int) (B : Option Addr) (nu cap' : Nat) (w : World) (x1 x2 x3 x4 E0 : Int) (h1 : (E0 != 0) = true) (h2 : (E0 != 17) = false) (c1 : decide (m.fa < s) = true) (hm : -16384 ≤ m.fa ∧ m.fa ≤ 16384)
    (hK : ∀ V : World, Below w.heap.size w V → Calls Try.prog 57 #[.agg #[.int .i64 m.r, .int .i64 m.ld, .int .i64 m.lq, .int .i64 m.fx, .int .i64 m.po, .int .i64 m.mi, .int .i64 m.sp, .int .i64 m.dr, .int .i64 m.cu, .int .i64 m.fa], .slice A 5 cap, .int .i64 0, .int .i64 0, .int .i64 0] V fun e w' => e = .returned (.tuple #[.agg #[.int .i64 x1, .int .i64 x2], .agg #[.int .i64 x3, .int .i64 x4], .int .i64 E0]) ∧ Below V.heap.size V w') :
    Calls Try.prog 15 #[.agg #[.int .i64 m.r, .int .i64 m.ld, .int .i64 m.lq, .int .i64 m.fx, .int .i64 m.po, .int .i64 m.mi, .int .i64 m.sp, .int .i64 m.dr, .int .i64 m.cu, .int .i64 m.fa], .slice A 5 cap, .int .i64 s, .int .i64 ld, .slice B nu cap'] w fun e w' => e = .returned (.bool true) ∧ Below w.heap.size w w' := by
  have HK := Lib.hid hK
  clear hK
  have S0 := Lib.hid ((St.start w).alloc [.int .i64 m.r, .int .i64 m.ld, .int .i64 m.lq, .int .i64 m.fx, .int .i64 m.po, .int .i64 m.mi, .int .i64 m.sp, .int .i64 m.dr, .int .i64 m.cu, .int .i64 m.fa] 52)
  go_enter Try.func15, Try.ntmps15
  go_wp2_with fail
  refine (HK.out _ S0.out.1).mono ?_
  rintro e w1 ⟨rfl, hb1⟩
  have S1 := Lib.hid (((S0.out.below hb1).alloc [.int .i64 x1, .int .i64 x2] 29).alloc [.int .i64 x3, .int .i64 x4] 29)
  have m9 := ((S0.out.below hb1).get 0 rfl).cell 9 rfl
  have zm := ((S0.out.below hb1).get 0 rfl).lt
  clear hb1 S0
  go_wp2_with fail
  refine (known_c _).mono ?_
  rintro e wk ⟨rfl, hbk⟩
  have SK := Lib.hid (S1.out.below hbk)
  clear hbk S1 m9 zm
  go_wp2
  go_ret
  exact ⟨rfl, SK.out.1⟩

set_option maxHeartbeats 4000000 in
set_option maxRecDepth 100000 in
theorem Safe_7b (m : Mot) (A : Option Addr) (cap : Nat) (s ld : Int) (B : Option Addr) (nu cap' : Nat) (w : World) (x1 x2 x3 x4 E0 : Int) (h1 : (E0 != 0) = true) (h2 : (E0 != 17) = false) (c1 : decide (m.fa < s) = false) (c2 : decide (s < -m.fa) = true) (hm : -16384 ≤ m.fa ∧ m.fa ≤ 16384)
    (hK : ∀ V : World, Below w.heap.size w V → Calls Try.prog 57 #[.agg #[.int .i64 m.r, .int .i64 m.ld, .int .i64 m.lq, .int .i64 m.fx, .int .i64 m.po, .int .i64 m.mi, .int .i64 m.sp, .int .i64 m.dr, .int .i64 m.cu, .int .i64 m.fa], .slice A 5 cap, .int .i64 0, .int .i64 0, .int .i64 0] V fun e w' => e = .returned (.tuple #[.agg #[.int .i64 x1, .int .i64 x2], .agg #[.int .i64 x3, .int .i64 x4], .int .i64 E0]) ∧ Below V.heap.size V w') :
    Calls Try.prog 15 #[.agg #[.int .i64 m.r, .int .i64 m.ld, .int .i64 m.lq, .int .i64 m.fx, .int .i64 m.po, .int .i64 m.mi, .int .i64 m.sp, .int .i64 m.dr, .int .i64 m.cu, .int .i64 m.fa], .slice A 5 cap, .int .i64 s, .int .i64 ld, .slice B nu cap'] w fun e w' => e = .returned (.bool true) ∧ Below w.heap.size w w' := by
  have HK := Lib.hid hK
  clear hK
  have S0 := Lib.hid ((St.start w).alloc [.int .i64 m.r, .int .i64 m.ld, .int .i64 m.lq, .int .i64 m.fx, .int .i64 m.po, .int .i64 m.mi, .int .i64 m.sp, .int .i64 m.dr, .int .i64 m.cu, .int .i64 m.fa] 52)
  go_enter Try.func15, Try.ntmps15
  go_wp2_with fail
  refine (HK.out _ S0.out.1).mono ?_
  rintro e w1 ⟨rfl, hb1⟩
  have S1 := Lib.hid (((S0.out.below hb1).alloc [.int .i64 x1, .int .i64 x2] 29).alloc [.int .i64 x3, .int .i64 x4] 29)
  have m9 := ((S0.out.below hb1).get 0 rfl).cell 9 rfl
  have zm := ((S0.out.below hb1).get 0 rfl).lt
  clear hb1 S0
  go_wp2_with fail
  refine (known_c _).mono ?_
  rintro e wk ⟨rfl, hbk⟩
  have SK := Lib.hid (S1.out.below hbk)
  clear hbk S1 m9 zm
  go_wp2
  go_ret
  exact ⟨rfl, SK.out.1⟩

set_option maxHeartbeats 4000000 in
set_option maxRecDepth 100000 in
theorem Safe_7c (m : Mot) (A : Option Addr) (cap : Nat) (s ld : Int) (B : Option Addr) (nu cap' : Nat) (w : World) (x1 x2 x3 x4 E0 : Int) (h1 : (E0 != 0) = true) (h2 : (E0 != 17) = false) (c1 : decide (m.fa < s) = false) (c2 : decide (s < -m.fa) = false) (c3 : decide (68719476736 < ld) = true) (hm : -16384 ≤ m.fa ∧ m.fa ≤ 16384)
    (hK : ∀ V : World, Below w.heap.size w V → Calls Try.prog 57 #[.agg #[.int .i64 m.r, .int .i64 m.ld, .int .i64 m.lq, .int .i64 m.fx, .int .i64 m.po, .int .i64 m.mi, .int .i64 m.sp, .int .i64 m.dr, .int .i64 m.cu, .int .i64 m.fa], .slice A 5 cap, .int .i64 0, .int .i64 0, .int .i64 0] V fun e w' => e = .returned (.tuple #[.agg #[.int .i64 x1, .int .i64 x2], .agg #[.int .i64 x3, .int .i64 x4], .int .i64 E0]) ∧ Below V.heap.size V w') :
    Calls Try.prog 15 #[.agg #[.int .i64 m.r, .int .i64 m.ld, .int .i64 m.lq, .int .i64 m.fx, .int .i64 m.po, .int .i64 m.mi, .int .i64 m.sp, .int .i64 m.dr, .int .i64 m.cu, .int .i64 m.fa], .slice A 5 cap, .int .i64 s, .int .i64 ld, .slice B nu cap'] w fun e w' => e = .returned (.bool true) ∧ Below w.heap.size w w' := by
  have HK := Lib.hid hK
  clear hK
  have S0 := Lib.hid ((St.start w).alloc [.int .i64 m.r, .int .i64 m.ld, .int .i64 m.lq, .int .i64 m.fx, .int .i64 m.po, .int .i64 m.mi, .int .i64 m.sp, .int .i64 m.dr, .int .i64 m.cu, .int .i64 m.fa] 52)
  go_enter Try.func15, Try.ntmps15
  go_wp2_with fail
  refine (HK.out _ S0.out.1).mono ?_
  rintro e w1 ⟨rfl, hb1⟩
  have S1 := Lib.hid (((S0.out.below hb1).alloc [.int .i64 x1, .int .i64 x2] 29).alloc [.int .i64 x3, .int .i64 x4] 29)
  have m9 := ((S0.out.below hb1).get 0 rfl).cell 9 rfl
  have zm := ((S0.out.below hb1).get 0 rfl).lt
  clear hb1 S0
  go_wp2_with fail
  refine (known_c _).mono ?_
  rintro e wk ⟨rfl, hbk⟩
  have SK := Lib.hid (S1.out.below hbk)
  clear hbk S1 m9 zm
  go_wp2
  go_ret
  exact ⟨rfl, SK.out.1⟩

set_option maxHeartbeats 4000000 in
set_option maxRecDepth 100000 in
theorem Safe_7d (m : Mot) (A : Option Addr) (cap : Nat) (s ld : Int) (B : Option Addr) (nu cap' : Nat) (w : World) (x1 x2 x3 x4 E0 : Int) (h1 : (E0 != 0) = true) (h2 : (E0 != 17) = false) (c1 : decide (m.fa < s) = false) (c2 : decide (s < -m.fa) = false) (c3 : decide (68719476736 < ld) = false) (c4 : decide (ld < -68719476736) = true) (hm : -16384 ≤ m.fa ∧ m.fa ≤ 16384)
    (hK : ∀ V : World, Below w.heap.size w V → Calls Try.prog 57 #[.agg #[.int .i64 m.r, .int .i64 m.ld, .int .i64 m.lq, .int .i64 m.fx, .int .i64 m.po, .int .i64 m.mi, .int .i64 m.sp, .int .i64 m.dr, .int .i64 m.cu, .int .i64 m.fa], .slice A 5 cap, .int .i64 0, .int .i64 0, .int .i64 0] V fun e w' => e = .returned (.tuple #[.agg #[.int .i64 x1, .int .i64 x2], .agg #[.int .i64 x3, .int .i64 x4], .int .i64 E0]) ∧ Below V.heap.size V w') :
    Calls Try.prog 15 #[.agg #[.int .i64 m.r, .int .i64 m.ld, .int .i64 m.lq, .int .i64 m.fx, .int .i64 m.po, .int .i64 m.mi, .int .i64 m.sp, .int .i64 m.dr, .int .i64 m.cu, .int .i64 m.fa], .slice A 5 cap, .int .i64 s, .int .i64 ld, .slice B nu cap'] w fun e w' => e = .returned (.bool true) ∧ Below w.heap.size w w' := by
  have HK := Lib.hid hK
  clear hK
  have S0 := Lib.hid ((St.start w).alloc [.int .i64 m.r, .int .i64 m.ld, .int .i64 m.lq, .int .i64 m.fx, .int .i64 m.po, .int .i64 m.mi, .int .i64 m.sp, .int .i64 m.dr, .int .i64 m.cu, .int .i64 m.fa] 52)
  go_enter Try.func15, Try.ntmps15
  go_wp2_with fail
  refine (HK.out _ S0.out.1).mono ?_
  rintro e w1 ⟨rfl, hb1⟩
  have S1 := Lib.hid (((S0.out.below hb1).alloc [.int .i64 x1, .int .i64 x2] 29).alloc [.int .i64 x3, .int .i64 x4] 29)
  have m9 := ((S0.out.below hb1).get 0 rfl).cell 9 rfl
  have zm := ((S0.out.below hb1).get 0 rfl).lt
  clear hb1 S0
  go_wp2_with fail
  refine (known_c _).mono ?_
  rintro e wk ⟨rfl, hbk⟩
  have SK := Lib.hid (S1.out.below hbk)
  clear hbk S1 m9 zm
  go_wp2
  go_ret
  exact ⟨rfl, SK.out.1⟩

theorem Safe_five (m : Mot) (A : Option Addr) (l : List Sp) (cap : Nat) (s ld : Int) (B : Option Addr) (us : List Int) (cap' : Nat) (w : World) (hx : SpAt w A l) (hu : U64At w B us) (hL : Dv.lmE m l = 0) :
    Calls Try.prog 15 #[.agg #[.int .i64 m.r, .int .i64 m.ld, .int .i64 m.lq, .int .i64 m.fx, .int .i64 m.po, .int .i64 m.mi, .int .i64 m.sp, .int .i64 m.dr, .int .i64 m.cu, .int .i64 m.fa], .slice A l.length cap, .int .i64 s, .int .i64 ld, .slice B us.length cap'] w fun e w' => e = .returned (.bool true) ∧ Below w.heap.size w w' := by
  obtain ⟨hm, hl, _⟩ := Dv.lm_parts hL
  have hK := fun (V : World) (hV : Below w.heap.size w V) => Allowed_y m A l 0 0 0 cap V (hx.below hV)
  unfold Dv.chk at hm
  have hE : Dv.alE m l 0 0 0 = 0 ∨ Dv.alE m l 0 0 0 = 17 := (Dv.alE_or hL (by
    unfold Dv.alIn
    rw [upB2.2 ⟨by omega, by omega⟩, upB1.2 (by omega)]
    rfl)).imp (fun h => h.1) (fun h => h)
  rw [hl] at hK ⊢
  by_cases c1 : m.fa < s
  · have d1 := decide_eq_true c1
    rcases hE with h | h
    · exact Safe_0a m A cap s ld B _ cap' w (Dv.alV m l 0 0 0 (Dv.aLo m l 0 0 0)) (Dv.alV m l 0 0 0 (Dv.aHi m l 0 0 0)) (Dv.alV m l 0 0 0 (Dv.bLo m l 0 0 0)) (Dv.alV m l 0 0 0 (Dv.bHi m l 0 0 0)) (Dv.alE m l 0 0 0) (by simp [h]) d1 (by omega) hK
    · exact Safe_7a m A cap s ld B _ cap' w (Dv.alV m l 0 0 0 (Dv.aLo m l 0 0 0)) (Dv.alV m l 0 0 0 (Dv.aHi m l 0 0 0)) (Dv.alV m l 0 0 0 (Dv.bLo m l 0 0 0)) (Dv.alV m l 0 0 0 (Dv.bHi m l 0 0 0)) (Dv.alE m l 0 0 0) (by simp [h]) (by simp [h]) d1 (by omega) hK
  · have d1 := decide_eq_false c1
    by_cases c2 : s < -m.fa
    · have d2 := decide_eq_true c2
      rcases hE with h | h
      · exact Safe_0b m A cap s ld B _ cap' w (Dv.alV m l 0 0 0 (Dv.aLo m l 0 0 0)) (Dv.alV m l 0 0 0 (Dv.aHi m l 0 0 0)) (Dv.alV m l 0 0 0 (Dv.bLo m l 0 0 0)) (Dv.alV m l 0 0 0 (Dv.bHi m l 0 0 0)) (Dv.alE m l 0 0 0) (by simp [h]) d1 d2 (by omega) hK
      · exact Safe_7b m A cap s ld B _ cap' w (Dv.alV m l 0 0 0 (Dv.aLo m l 0 0 0)) (Dv.alV m l 0 0 0 (Dv.aHi m l 0 0 0)) (Dv.alV m l 0 0 0 (Dv.bLo m l 0 0 0)) (Dv.alV m l 0 0 0 (Dv.bHi m l 0 0 0)) (Dv.alE m l 0 0 0) (by simp [h]) (by simp [h]) d1 d2 (by omega) hK
    · have d2 := decide_eq_false c2
      by_cases c3 : 68719476736 < ld
      · have d3 := decide_eq_true c3
        rcases hE with h | h
        · exact Safe_0c m A cap s ld B _ cap' w (Dv.alV m l 0 0 0 (Dv.aLo m l 0 0 0)) (Dv.alV m l 0 0 0 (Dv.aHi m l 0 0 0)) (Dv.alV m l 0 0 0 (Dv.bLo m l 0 0 0)) (Dv.alV m l 0 0 0 (Dv.bHi m l 0 0 0)) (Dv.alE m l 0 0 0) (by simp [h]) d1 d2 d3 (by omega) hK
        · exact Safe_7c m A cap s ld B _ cap' w (Dv.alV m l 0 0 0 (Dv.aLo m l 0 0 0)) (Dv.alV m l 0 0 0 (Dv.aHi m l 0 0 0)) (Dv.alV m l 0 0 0 (Dv.bLo m l 0 0 0)) (Dv.alV m l 0 0 0 (Dv.bHi m l 0 0 0)) (Dv.alE m l 0 0 0) (by simp [h]) (by simp [h]) d1 d2 d3 (by omega) hK
      · have d3 := decide_eq_false c3
        by_cases c4 : ld < -68719476736
        · have d4 := decide_eq_true c4
          rcases hE with h | h
          · exact Safe_0d m A cap s ld B _ cap' w (Dv.alV m l 0 0 0 (Dv.aLo m l 0 0 0)) (Dv.alV m l 0 0 0 (Dv.aHi m l 0 0 0)) (Dv.alV m l 0 0 0 (Dv.bLo m l 0 0 0)) (Dv.alV m l 0 0 0 (Dv.bHi m l 0 0 0)) (Dv.alE m l 0 0 0) (by simp [h]) d1 d2 d3 d4 (by omega) hK
          · exact Safe_7d m A cap s ld B _ cap' w (Dv.alV m l 0 0 0 (Dv.aLo m l 0 0 0)) (Dv.alV m l 0 0 0 (Dv.aHi m l 0 0 0)) (Dv.alV m l 0 0 0 (Dv.bLo m l 0 0 0)) (Dv.alV m l 0 0 0 (Dv.bHi m l 0 0 0)) (Dv.alE m l 0 0 0) (by simp [h]) (by simp [h]) d1 d2 d3 d4 (by omega) hK
        · match l, hl with
          | [s0, s1, s2, s3, s4], _ =>
            obtain ⟨ad, rfl, h5⟩ := hx.five
            exact Safe_go m ad s0 s1 s2 s3 s4 cap s ld B us cap' w hx h5 hu hL (by omega) (by omega) (by omega) (by omega)
theorem DriveSafe_any (m : Mot) (A : Option Addr) (l : List Sp) (cap : Nat) (s ld : Int) (B : Option Addr) (us : List Int) (cap' : Nat) (w : World) (hx : SpAt w A l) (hu : U64At w B us) :
    Calls Try.prog 15 #[.agg #[.int .i64 m.r, .int .i64 m.ld, .int .i64 m.lq, .int .i64 m.fx, .int .i64 m.po, .int .i64 m.mi, .int .i64 m.sp, .int .i64 m.dr, .int .i64 m.cu, .int .i64 m.fa], .slice A l.length cap, .int .i64 s, .int .i64 ld, .slice B us.length cap'] w fun e w' => e = .returned (.bool true) ∧ Below w.heap.size w w' := by
  by_cases hL : Dv.lmE m l = 0
  · exact Safe_five m A l cap s ld B us cap' w hx hu hL
  · have hE : Dv.alE m l 0 0 0 = Dv.lmE m l := by unfold Dv.alE; rw [if_neg hL]
    have h17 : Dv.lmE m l ≠ 17 := by
      unfold Dv.lmE
      split
      · split <;> decide
      · decide
    exact Safe_e m A cap s ld B _ cap' w (Dv.alV m l 0 0 0 (Dv.aLo m l 0 0 0)) (Dv.alV m l 0 0 0 (Dv.aHi m l 0 0 0)) (Dv.alV m l 0 0 0 (Dv.bLo m l 0 0 0)) (Dv.alV m l 0 0 0 (Dv.bHi m l 0 0 0)) (Dv.alE m l 0 0 0) l.length (by rw [hE]; simpa using hL) (by rw [hE]; simpa using h17) (fun (V : World) (hV : Below w.heap.size w V) => Allowed_y m A l 0 0 0 cap V (hx.below hV))
end Go.Proofs.Ytcneohhfnnelgaa
