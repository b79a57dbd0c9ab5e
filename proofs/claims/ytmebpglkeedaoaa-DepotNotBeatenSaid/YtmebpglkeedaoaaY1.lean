/- Plain: all lists within caps, one behind the other. The contract of next of the depot laws. Plain: the small nets are valid. The memory of small of the depot laws. Plain: all flows of a small net looked at, and all its cuts. -/
import Derived.Test.YtmebpglkeedaoaaM2
import Derived.Test.YtmebpglkeedaoaaD3
import Derived.Test.YtmebpglkeedaoaaM7
import Derived.Test.YtmebpglkeedaoaaA3
import Derived.Test.YtmebpglkeedaoaaM10
import Derived.Test.YtmebpglkeedaoaaC15
namespace Go.Proofs.Ytmebpglkeedaoaa
set_option linter.unusedVariables false
namespace Dp
/-- the next list within the caps -/
def nx : List Int → List Int → Bool × List Int
  | c :: cs, f :: fs => if f < c then (true, (f + 1) :: fs) else ((nx cs fs).1, 0 :: (nx cs fs).2)
  | _, fs => (false, fs)
/-- a list within the caps -/
def inC : List Int → List Int → Prop
  | [], [] => True
  | c :: cs, f :: fs => (0 ≤ f ∧ f ≤ c) ∧ inC cs fs
  | _, _ => False
/-- its number -/
def ix : List Int → List Int → Int
  | c :: cs, f :: fs => f + (c + 1) * ix cs fs
  | _, _ => 0
/-- how many there are -/
def tot : List Int → Int
  | [] => 1
  | c :: cs => (c + 1) * tot cs
theorem ix_nn : ∀ (cs fs : List Int), inC cs fs → 0 ≤ ix cs fs
  | [], [], _ => by simp [ix]
  | c :: cs, f :: fs, h => by
    have := ix_nn cs fs h.2
    have h1 := h.1
    have := Int.mul_nonneg (show (0 : Int) ≤ c + 1 by omega) this
    simp only [ix]; omega
  | [], _ :: _, h => h.elim
  | _ :: _, [], h => h.elim
theorem ix_lt : ∀ (cs fs : List Int), inC cs fs → ix cs fs + 1 ≤ tot cs
  | [], [], _ => by simp [ix, tot]
  | c :: cs, f :: fs, h => by
    have h2 := ix_lt cs fs h.2
    have h1 := h.1
    have := Int.mul_le_mul_of_nonneg_left h2 (show (0 : Int) ≤ c + 1 by omega)
    rw [Int.mul_add] at this
    simp only [ix, tot]; omega
  | [], _ :: _, h => h.elim
  | _ :: _, [], h => h.elim
theorem nx_len : ∀ (cs fs : List Int), (nx cs fs).2.length = fs.length
  | [], [] => rfl
  | [], _ :: _ => rfl
  | _ :: _, [] => rfl
  | c :: cs, f :: fs => by
    have := nx_len cs fs
    simp only [nx]
    by_cases h : f < c
    · simp [h]
    · simp [h, this]
theorem nx_true : ∀ (cs fs : List Int), inC cs fs → (nx cs fs).1 = true → inC cs (nx cs fs).2 ∧ ix cs (nx cs fs).2 = ix cs fs + 1
  | [], [], _, h => by simp [nx] at h
  | c :: cs, f :: fs, h, ht => by
    have h1 := h.1
    by_cases hl : f < c
    · simp only [nx, if_pos hl, inC, ix]
      exact ⟨⟨⟨by omega, by omega⟩, h.2⟩, by omega⟩
    · simp only [nx, if_neg hl] at ht
      obtain ⟨i1, i2⟩ := nx_true cs fs h.2 ht
      simp only [nx, if_neg hl, inC, ix]
      refine ⟨⟨⟨by omega, by omega⟩, i1⟩, ?_⟩
      rw [i2, Int.mul_add]
      have : f = c := by omega
      omega
  | [], _ :: _, h, _ => h.elim
  | _ :: _, [], h, _ => h.elim
theorem nx_false : ∀ (cs fs : List Int), inC cs fs → (nx cs fs).1 = false → ix cs fs + 1 = tot cs
  | [], [], _, _ => by simp [ix, tot]
  | c :: cs, f :: fs, h, ht => by
    have h1 := h.1
    by_cases hl : f < c
    · simp [nx, hl] at ht
    · simp only [nx, if_neg hl] at ht
      have i2 := nx_false cs fs h.2 ht
      simp only [ix, tot]
      rw [← i2, Int.mul_add]
      omega
  | [], _ :: _, h, _ => h.elim
  | _ :: _, [], h, _ => h.elim
theorem ix_inj : ∀ (cs fs gs : List Int), inC cs fs → inC cs gs → ix cs fs = ix cs gs → fs = gs
  | [], [], [], _, _, _ => rfl
  | c :: cs, f :: fs, g :: gs, h, k, e => by
    have h1 := h.1
    have k1 := k.1
    simp only [ix] at e
    have hI : ix cs fs = ix cs gs := by
      rcases Int.lt_trichotomy (ix cs fs) (ix cs gs) with hl | he | hl
      · have := Int.mul_le_mul_of_nonneg_left (show ix cs fs + 1 ≤ ix cs gs by omega) (show (0 : Int) ≤ c + 1 by omega)
        rw [Int.mul_add] at this
        omega
      · exact he
      · have := Int.mul_le_mul_of_nonneg_left (show ix cs gs + 1 ≤ ix cs fs by omega) (show (0 : Int) ≤ c + 1 by omega)
        rw [Int.mul_add] at this
        omega
    rw [hI] at e
    rw [ix_inj cs fs gs h.2 k.2 hI, show f = g by omega]
  | [], _ :: _, _, h, _, _ => h.elim
  | [], [], _ :: _, _, k, _ => k.elim
  | _ :: _, [], _, h, _, _ => h.elim
  | _ :: _, _ :: _, [], _, k, _ => k.elim
theorem inC_len : ∀ (cs fs : List Int), inC cs fs → fs.length = cs.length
  | [], [], _ => rfl
  | c :: cs, f :: fs, h => by simp [inC_len cs fs h.2]
  | [], _ :: _, h => h.elim
  | _ :: _, [], h => h.elim
theorem inC_get : ∀ (cs fs : List Int), inC cs fs → ∀ i, i < fs.length → 0 ≤ fs.getD i 0 ∧ fs.getD i 0 ≤ cs.getD i 0
  | [], [], _, i, hi => by simp at hi
  | c :: cs, f :: fs, h, 0, _ => by simpa using h.1
  | c :: cs, f :: fs, h, i + 1, hi => by simpa using inC_get cs fs h.2 i (by simpa using hi)
  | [], _ :: _, h, _, _ => h.elim
  | _ :: _, [], h, _, _ => h.elim
theorem inC_of : ∀ (cs fs : List Int), fs.length = cs.length → (∀ i, i < fs.length → 0 ≤ fs.getD i 0 ∧ fs.getD i 0 ≤ cs.getD i 0) → inC cs fs
  | [], [], _, _ => trivial
  | c :: cs, f :: fs, hl, h => ⟨by simpa using h 0 (by simp), inC_of cs fs (by simpa using hl) (fun i hi => by simpa using h (i + 1) (by simpa using hi))⟩
  | [], _ :: _, hl, _ => by simp at hl
  | _ :: _, [], hl, _ => by simp at hl
theorem inC_zero : ∀ (cs : List Int), (∀ c, c ∈ cs → 0 ≤ c) → inC cs (List.replicate cs.length 0) ∧ ix cs (List.replicate cs.length 0) = 0
  | [], _ => ⟨trivial, rfl⟩
  | c :: cs, h => by
    obtain ⟨i1, i2⟩ := inC_zero cs (fun x hx => h x (List.mem_cons_of_mem _ hx))
    have hc := h c List.mem_cons_self
    rw [List.length_cons, List.replicate_succ]
    refine ⟨⟨⟨Int.le_refl _, hc⟩, i1⟩, ?_⟩
    simp only [ix, i2, Int.mul_zero, Int.add_zero]
/-- behind k zeros -/
theorem nx_at : ∀ (cs fs : List Int) (k : Nat), k ≤ fs.length → fs.length = cs.length → (∀ i, i < k → ¬ fs.getD i 0 < cs.getD i 0) →
    nx cs fs = ((nx (cs.drop k) (fs.drop k)).1, List.replicate k 0 ++ (nx (cs.drop k) (fs.drop k)).2)
  | cs, fs, 0, _, _, _ => by simp
  | [], [], k + 1, h, _, _ => by simp at h
  | c :: cs, f :: fs, k + 1, h, hl, hk => by
    have i1 := nx_at cs fs k (by simpa using h) (by simpa using hl) (fun i hi => by simpa using hk (i + 1) (by omega))
    have h0 : ¬ f < c := by simpa using hk 0 (by omega)
    simp only [nx, if_neg h0, List.drop_succ_cons]
    rw [i1]
    simp [List.replicate_succ]
  | [], _ :: _, _ + 1, _, hl, _ => by simp at hl
  | _ :: _, [], _ + 1, _, hl, _ => by simp at hl
theorem nx_hit {cs fs : List Int} {k : Nat} (hk : k < fs.length) (hl : fs.length = cs.length) (hz : ∀ i, i < k → ¬ fs.getD i 0 < cs.getD i 0) (h : fs.getD k 0 < cs.getD k 0) :
    nx cs fs = (true, (List.replicate k 0 ++ fs.drop k).set k (fs.getD k 0 + 1)) := by
  rw [nx_at cs fs k (by omega) hl hz]
  have e1 : fs.drop k = fs.getD k 0 :: fs.drop (k + 1) := by
    rw [List.drop_eq_getElem_cons hk, List.getD_eq_getElem?_getD, List.getElem?_eq_getElem hk]; rfl
  have e2 : cs.drop k = cs.getD k 0 :: cs.drop (k + 1) := by
    rw [List.drop_eq_getElem_cons (by omega), List.getD_eq_getElem?_getD, List.getElem?_eq_getElem (by omega : k < cs.length)]; rfl
  rw [e1, e2]
  simp only [nx, if_pos h]
  rw [List.set_append_right _ _ (by simp)]
  simp
theorem nx_end {cs fs : List Int} (hl : fs.length = cs.length) (hz : ∀ i, i < fs.length → ¬ fs.getD i 0 < cs.getD i 0) : nx cs fs = (false, List.replicate fs.length 0) := by
  rw [nx_at cs fs fs.length (Nat.le_refl _) hl hz, List.drop_length, show cs.drop fs.length = [] from by rw [hl, List.drop_length]]
  simp [nx]
theorem zeros_set {fs : List Int} {k : Nat} (hk : k < fs.length) : (List.replicate k (0 : Int) ++ fs.drop k).set k 0 = List.replicate (k + 1) 0 ++ fs.drop (k + 1) := by
  have e1 : fs.drop k = fs.getD k 0 :: fs.drop (k + 1) := by
    rw [List.drop_eq_getElem_cons hk, List.getD_eq_getElem?_getD, List.getElem?_eq_getElem hk]; rfl
  rw [List.set_append_right _ _ (by simp), e1, List.length_replicate, Nat.sub_self, List.set_cons_zero, List.replicate_succ', List.append_assoc]
  rfl
theorem zeros_get {fs : List Int} {k i : Nat} (hk : k ≤ i) : (List.replicate k (0 : Int) ++ fs.drop k).getD i 0 = fs.getD i 0 := by
  rw [List.getD_eq_getElem?_getD, List.getElem?_append_right (by simpa using hk), List.getElem?_drop, List.getD_eq_getElem?_getD]
  congr 2
  simp; omega
end Dp
end Go.Proofs.Ytmebpglkeedaoaa
namespace Go.Proofs.Ytmebpglkeedaoaa
open Go.RowKit Dp
set_option linter.unusedVariables false

/-- the caps of a net -/
def capsN (N : Net) : List Int := N.arcs.map Arc.cap
theorem caps_get {N : Net} {i : Nat} (h : i < N.arcs.length) : (capsN N).getD i 0 = (N.arcs.getD i default).cap := by
  simp [capsN, List.getD_eq_getElem?_getD, h]

set_option maxHeartbeats 2000000 in
set_option maxRecDepth 100000 in
theorem next_c (A B : Option Addr) (N : Net) (f : List Int) (g n m cA cB : Nat) (w : World) (hm : m = N.arcs.length) (hmb : m ≤ 4096) (hA : n ≤ cA ∧ cA ≤ 9223372036854775807) (hB : m ≤ cB ∧ cB ≤ 9223372036854775807)
    (hN : ∀ W, Touch (fun k => k = g) w W → ArcsAt W B N.arcs) (hF : Fl 2 w g f) (hf : f.length = m) (hfb : ∀ i, i < m → 0 ≤ f.getD i 0 ∧ f.getD i 0 ≤ 1048576) :
    Calls Try.prog 26 #[.agg #[.slice A n cA, .slice B m cB], .slice (some ⟨g, 0, none⟩) m m] w fun e w' => e = .returned (.bool (nx (capsN N) f).1) ∧ Fl 2 w' g (nx (capsN N) f).2 ∧ Touch (fun k => k = g) w w' := by
  have HM := Lib.hid hm
  have HNA := Lib.hid hN
  have HL := Lib.hid hf
  have HFB := Lib.hid hfb
  have HLC : Hid (f.length = (capsN N).length) := Lib.hid (by rw [hf, hm]; simp [capsN])
  have HCG : Hid (∀ i, i < m → (capsN N).getD i 0 = (N.arcs.getD i default).cap) := Lib.hid (fun i hi => caps_get (by omega))
  have ZS : Hid (∀ k, k < m → (List.replicate k (0 : Int) ++ f.drop k).set k 0 = List.replicate (k + 1) 0 ++ f.drop (k + 1)) := Lib.hid (fun k hk => zeros_set (by omega))
  have ZG : Hid (∀ k, (List.replicate k (0 : Int) ++ f.drop k).getD k 0 = f.getD k 0) := Lib.hid (fun k => zeros_get (Nat.le_refl _))
  have ZL : Hid (∀ k, k ≤ m → (List.replicate k (0 : Int) ++ f.drop k).length = m) := Lib.hid (fun k hk => by simp; omega)
  have X := Lib.hid (Blk.new' w #[.slice A n cA, .slice B m cB] 25)
  have T := Lib.hid ((Touch.refl (fun k => k = g) w).alloc (.cells #[.slice A n cA, .slice B m cB] 25))
  have F := Lib.hid (show Fl 2 (w.alloc (.cells #[.slice A n cA, .slice B m cB] 25)) g f from Blk.alloc hF _)
  have gw : g ≠ w.heap.size := by have := hF.lt; omega
  clear hm hN hf hfb hF
  generalize hcp : capsN N = cs at *
  clear hcp
  go_enter Try.func26, Try.ntmps26
  go_upto_region 2 with fail
  generalize w.alloc (.cells #[.slice A n cA, .slice B m cB] 25) = w1 at X T F ⊢
  generalize w.heap.size = bx at *
  go_loopw [5] (fun iv wr => ∃ k : Nat, iv = .int .i64 k ∧ k ≤ m ∧ Hid (∀ i, i < k → ¬ f.getD i 0 < cs.getD i 0) ∧ Hid (Fl 2 wr g (List.replicate k 0 ++ f.drop k)) ∧ Hid (Touch (fun k => k = g) w wr) ∧ Hid (Blk wr bx 25 [.slice A n cA, .slice B m cB])) (fun iv _ => m - (intOf iv).toNat)
  case atStart => exact ⟨0, rfl, Nat.zero_le _, Lib.hid (fun i hi => by omega), Lib.hid (by simpa using F.out), T, X⟩
  case round =>
    obtain ⟨k, rfl, hk, HZ, FK, TK, XK⟩ := hrel
    by_cases hlt : k < m
    · have hki : (k : Int) < (m : Int) := by omega
      have hmi : (m : Int) ≤ (cB : Int) := by omega
      have c1 := XK.out.cell 1 rfl
      obtain ⟨ad, rfl, adb, _, _, e2, _⟩ := HNA.out _ TK.out k (by rw [← HM.out]; exact hlt)
      have f0 := FK.out.cell k (by rw [ZL.out k hk]; exact hlt)
      have z0 := FK.out.free k
      rw [ZG.out] at f0
      have fb := HFB.out k hlt
      have FF : Hid (∀ W, Fl 2 W g (List.replicate k 0 ++ f.drop k) → W.cell? ⟨g, k, none⟩ = some (.int .i64 (f.getD k 0))) := Lib.hid (fun W h => by have := h.cell k (by rw [ZL.out k hk]; exact hlt); rw [ZG.out] at this; exact this)
      have xl := XK.out.lt
      have fl := FK.out.lt
      go_upto_region 4 with fail
      have ab : (ad.add (k * 4)).block < wr.heap.size := by rw [block_add]; exact adb
      have HCK := HCG.out k hlt
      have NH : Hid (f.getD k 0 < cs.getD k 0 → nx cs f = (true, (List.replicate k 0 ++ f.drop k).set k (f.getD k 0 + 1))) := Lib.hid (fun h => nx_hit (by rw [HL.out]; exact hlt) HLC.out HZ.out h)
      have NZ : Hid (¬ f.getD k 0 < cs.getD k 0 → ∀ i, i < k + 1 → ¬ f.getD i 0 < cs.getD i 0) := Lib.hid (fun h i hi => by
        by_cases e : i = k
        · rw [e]; exact h
        · exact HZ.out i (by omega))
      rw [HCK] at NH NZ
      clear HCK
      generalize (N.arcs.getD k default).cap = c at *
      generalize f.getD k 0 = x at *
      refine wp_region_past (by kernel_rfl) (by kernel_rfl) ?_
      repeat (go_big_quiet_step (fail))
      refine wpQuiet_nil ?_
      intro xx
      have FK2 := Lib.hid (FK.out.below xx.far)
      have TK2 := Lib.hid (TK.out.below xx.far)
      have XK2 := Lib.hid (XK.out.below xx.far XK.out.lt)
      clear f0 z0 c1 e2 adb ab xl fl FK TK XK
      generalize xx.w = w3 at FK2 TK2 XK2 ⊢
      by_cases hx : x < c
      · have d1 : decide (x < c) = true := decide_eq_true hx
        simp only [d1]
        have E1 := Lib.hid (NH.out hx)
        have f0 : w3.cell? ⟨g, k, none⟩ = some (.int .i64 x) := FF.out w3 FK2.out
        have z0 := FK2.out.free k
        have e1 : IntKind.i64.wrap (x + 1) = x + 1 := IntWalk.i64_in _ (by omega)
        have FE : Hid (Fl 2 (w3.setCell ⟨g, k, none⟩ (.int .i64 (x + 1))) g (nx cs f).2) := Lib.hid (by rw [E1.out]; exact FK2.out.put k (x + 1))
        have TE := Lib.hid (TK2.out.put k (.int .i64 (x + 1)))
        have B1 : Hid ((nx cs f).1 = true) := Lib.hid (by rw [E1.out])
        clear d1
        go_wp2_with fail
        exact bodyPost_ret (v := .bool true) (by simp [results, Try.results26, go_sem]) rfl ⟨by rw [B1.out], FE.out, TE.out⟩
      · have d1 : decide (x < c) = false := decide_eq_false hx
        simp only [d1]
        have z0 := FK2.out.free k
        have f0 : w3.cell? ⟨g, k, none⟩ = some (.int .i64 x) := FF.out w3 FK2.out
        have FE := Lib.hid (FK2.out.put k 0)
        rw [ZS.out k hlt] at FE
        have TE := Lib.hid (TK2.out.put k (.int .i64 0))
        have XE := Lib.hid (XK2.out.setCell_ne (p := ⟨g, k, none⟩) (fun e => gw e.symm) (.int .i64 0))
        clear d1
        go_wp2_with fail
        go_roundw
        case measure => simp [intOf]; omega
        case rel => exact ⟨k + 1, by go_num, by omega, Lib.hid (NZ.out hx), FE, TE, XE⟩
    · obtain rfl : k = m := by omega
      have E1 := Lib.hid (nx_end HLC.out (by rw [HL.out]; exact HZ.out))
      have FE : Hid (Fl 2 wr g (nx cs f).2) := Lib.hid (by
        have h := FK.out
        have hl := HL.out
        rw [← hl, List.drop_length, List.append_nil] at h
        rw [E1.out]
        exact h)
      have B1 : Hid ((nx cs f).1 = false) := Lib.hid (by rw [E1.out])
      go_wp2_with fail
      exact bodyPost_ret (v := .bool false) (by simp [results, Try.results26, go_sem]) rfl ⟨by rw [B1.out], FE.out, TK.out⟩
end Go.Proofs.Ytmebpglkeedaoaa
namespace Go.Proofs.Ytmebpglkeedaoaa
set_option linter.unusedVariables false
namespace Dp
structure SmI (n i : Nat) (s : List Int) : Prop where
  len : s.length = n
  sm : sum s = 0
  ab : sum (s.map abs) ≤ 6 * i
  zr : ∀ k, i ≤ k → k + 1 < n → s.getD k 0 = 0
  bd : ∀ k, k < n → -(3 * (i : Int)) ≤ s.getD k 0 ∧ s.getD k 0 ≤ 3 * i
theorem sum_zero (n : Nat) : sum (List.replicate n 0) = 0 := by
  induction n with
  | zero => rfl
  | succ n ih => rw [List.replicate_succ]; simp only [sum, ih]; rfl
theorem SmI.start (n : Nat) : SmI n 0 (List.replicate n 0) := by
  have g : ∀ k, (List.replicate n (0 : Int)).getD k 0 = 0 := fun k => by
    rw [List.getD_eq_getElem?_getD, List.getElem?_replicate]
    split <;> rfl
  refine ⟨by simp, sum_zero n, ?_, fun k _ _ => g k, fun k _ => by rw [g]; simp⟩
  rw [List.map_replicate, show abs 0 = 0 from rfl, sum_zero]
  simp
theorem SmI.step {n i : Nat} {s : List Int} (h : SmI n i s) (hi : i + 1 < n) {x : Int} (hx : -3 ≤ x ∧ x ≤ 3) :
    SmI n (i + 1) ((s.set i x).set (n - 1) (s.getD (n - 1) 0 - x)) := by
  have l1 : i < s.length := by rw [h.len]; omega
  have l2 : n - 1 < (s.set i x).length := by rw [List.length_set, h.len]; omega
  have z := h.zr i (Nat.le_refl _) hi
  have g1 : (s.set i x).getD (n - 1) 0 = s.getD (n - 1) 0 := by
    rw [getD_setI _ _ _ _ l1, if_neg (by omega)]
  have b1 := h.bd (n - 1) (by omega)
  refine ⟨by rw [List.length_set, List.length_set, h.len], ?_, ?_, fun k hk hkn => ?_, fun k hk => ?_⟩
  · rw [sum_set _ _ _ l2, sum_set _ _ _ l1, g1, h.sm, z]; omega
  · rw [List.map_set, List.map_set, sum_set _ _ _ (by simpa using l2), sum_set _ _ _ (by simpa using l1), getD_map _ _ _ l1, z]
    have g2 : ((List.map abs s).set i (abs x)).getD (n - 1) 0 = abs (s.getD (n - 1) 0) := by
      rw [getD_setI _ _ _ _ (by simpa using l1), if_neg (by omega), getD_map _ _ _ (by rw [h.len]; omega)]
    rw [g2]
    have := h.ab
    simp only [abs]
    omega
  · rw [getD_setI _ _ _ _ l2, if_neg (by omega), getD_setI _ _ _ _ l1, if_neg (by omega)]
    exact h.zr k (by omega) hkn
  · rw [getD_setI _ _ _ _ l2, getD_setI _ _ _ _ l1]
    have b2 := h.bd k hk
    split
    · omega
    · split <;> omega
/-- the arcs of a small net -/
def ArP (n : Nat) (l : List Arc) : Prop := l.length ≤ 6 ∧ ∀ a, a ∈ l → arcOk n a = true ∧ a.cap ≤ 2
theorem ArP.nil (n : Nat) : ArP n [] := ⟨Nat.zero_le _, fun a h => by cases h⟩
theorem ArP.push {n : Nat} {l : List Arc} (h : ArP n l) (hl : l.length < 6) {a : Arc} (h1 : (0 ≤ a.fr ∧ a.fr < n) ∧ (0 ≤ a.to ∧ a.to < n) ∧ a.fr ≠ a.to ∧ (0 ≤ a.cap ∧ a.cap ≤ 2) ∧ (-128 ≤ a.cost ∧ a.cost ≤ 127)) : ArP n (l ++ [a]) := by
  refine ⟨by simp; omega, fun b hb => ?_⟩
  rw [List.mem_append, List.mem_singleton] at hb
  rcases hb with hb | rfl
  · exact h.2 b hb
  · refine ⟨?_, by omega⟩
    simp only [arcOk, decide_eq_true_eq]
    omega
theorem sm_ch {n i : Nat} {s : List Int} {l : List Arc} (hn : 2 ≤ n ∧ n ≤ 4) (hi : i < n) (h : SmI n i s) (ha : ArP n l) : chE ⟨s, l⟩ = 0 := by
  have h1 : manyB ⟨s, l⟩ = false := by
    simp only [manyB, h.len, decide_eq_false_iff_not]
    have := ha.1
    omega
  have h2 : okB ⟨s, l⟩ = true := by
    simp only [okB, Bool.and_eq_true, List.all_eq_true, decide_eq_true_eq, h.len, h.sm, true_and]
    refine ⟨fun x hx => ?_, fun a hax => (ha.2 a hax).1, ?_⟩
    · obtain ⟨k, hk, rfl⟩ := List.getElem_of_mem hx
      have := h.bd k (by rw [← h.len]; exact hk)
      rw [List.getD_eq_getElem?_getD, List.getElem?_eq_getElem hk, Option.getD_some] at this
      simp only [supOk, decide_eq_true_eq]
      omega
    · have := h.ab; omega
  simp only [chE, h1, h2, if_true]
  rfl
end Dp
end Go.Proofs.Ytmebpglkeedaoaa
namespace Go.Proofs.Ytmebpglkeedaoaa
open Go.RowKit Dp
set_option linter.unusedVariables false

structure Lnk4 where
  f : Int
  t : Int
  c : Int
  k : Int
  deriving Inhabited
/-- a slice of links -/
def LinksAt (w : World) (A : Option Addr) (l : List Lnk4) : Prop :=
  ∀ i, i < l.length → ∃ ad, A = some ad ∧ ad.block < w.heap.size ∧ w.cell? (ad.add (i * 4)) = some (.int .u8 (l.getD i default).f) ∧ w.cell? ⟨(ad.add (i * 4)).block, (ad.add (i * 4)).off + 1, none⟩ = some (.int .u8 (l.getD i default).t) ∧ w.cell? ⟨(ad.add (i * 4)).block, (ad.add (i * 4)).off + 2, none⟩ = some (.int .u8 (l.getD i default).c) ∧ w.cell? ⟨(ad.add (i * 4)).block, (ad.add (i * 4)).off + 3, none⟩ = some (.int .i8 (l.getD i default).k) ∧
    (0 ≤ (l.getD i default).f ∧ (l.getD i default).f ≤ 255) ∧ (0 ≤ (l.getD i default).t ∧ (l.getD i default).t ≤ 255) ∧ (0 ≤ (l.getD i default).c ∧ (l.getD i default).c ≤ 255) ∧ (-128 ≤ (l.getD i default).k ∧ (l.getD i default).k ≤ 127)
/-- a slice of small numbers -/
def I8At (w : World) (A : Option Addr) (l : List Int) : Prop :=
  ∀ i, i < l.length → ∃ ad, A = some ad ∧ ad.block < w.heap.size ∧ w.cell? (ad.add i) = some (.int .i8 (l.getD i 0)) ∧ -128 ≤ l.getD i 0 ∧ l.getD i 0 ≤ 127
theorem LinksAt.below {w w1 : World} {A : Option Addr} {l : List Lnk4} (h : LinksAt w A l) {B : Nat} (hb : Below B w w1) (hB : w.heap.size ≤ B) : LinksAt w1 A l := by
  intro i hi
  obtain ⟨ad, e, hlt, c0, c1, c2, c3, r⟩ := h i hi
  have hbl : (ad.add (i * 4)).block < B := by rw [block_add]; omega
  exact ⟨ad, e, Nat.lt_of_lt_of_le hlt hb.size, (hb.cell hbl).trans c0, (hb.cell (p := ⟨_, _, none⟩) hbl).trans c1, (hb.cell (p := ⟨_, _, none⟩) hbl).trans c2, (hb.cell (p := ⟨_, _, none⟩) hbl).trans c3, r⟩
theorem I8At.below {w w1 : World} {A : Option Addr} {l : List Int} (h : I8At w A l) {B : Nat} (hb : Below B w w1) (hB : w.heap.size ≤ B) : I8At w1 A l := by
  intro i hi
  obtain ⟨ad, e, hlt, c0, r⟩ := h i hi
  exact ⟨ad, e, Nat.lt_of_lt_of_le hlt hb.size, (hb.cell (by rw [block_add]; omega)).trans c0, r⟩

structure SmW (w : World) (r6 gs r8 n : Nat) (A : Option Addr) (m cap : Nat) (s : List Int) (arcs : List Arc) (W : World) : Prop where
  b6 : Blk W r6 25 [.slice none 0 0, .slice none 0 0]
  b8 : Blk W r8 25 [.slice (some ⟨gs, 0, none⟩) n n, .slice A m cap]
  s : Fl 2 W gs s
  own : W.ownsRow (r8 + 1) 46 4 (.slice A m cap) m (flat arcV arcs)
  lt : r6 < gs ∧ gs < r8 ∧ w.heap.size ≤ r6
  bel : Below w.heap.size w W
section
variable {w W V : World} {r6 gs r8 n m cap m2 cap2 : Nat} {A A2 : Option Addr} {s : List Int} {arcs arcs2 : List Arc}
theorem SmW.below (h : SmW w r6 gs r8 n A m cap s arcs W) (hb : Below W.heap.size W V) : SmW w r6 gs r8 n A m cap s arcs V :=
  ⟨h.b6.below hb h.b6.lt, h.b8.below hb h.b8.lt, h.s.below hb, ownBelow h.own hb, h.lt, h.bel.trans (hb.mono h.bel.size)⟩
theorem SmW.alloc (h : SmW w r6 gs r8 n A m cap s arcs W) (o : Obj) : SmW w r6 gs r8 n A m cap s arcs (W.alloc o) :=
  h.below ((Below.refl _ _).alloc (Nat.le_refl _) o)
theorem SmW.drew (h : SmW w r6 gs r8 n A m cap s arcs W) : SmW w r6 gs r8 n A m cap s arcs W.drew := h.below (Below.refl _ _).drew
theorem SmW.set (h : SmW w r6 gs r8 n A m cap s arcs W) (k : Nat) (v : Int) : SmW w r6 gs r8 n A m cap (s.set k v) arcs (W.setCell ⟨gs, k, none⟩ (.int .i64 v)) := by
  have hl := h.lt
  refine ⟨h.b6.setCell_ne (by simp; omega) _, h.b8.setCell_ne (by simp; omega) _, h.s.put k v, ?_, h.lt, h.bel.setCell (by simp; omega) _⟩
  exact ownGrown h.own ⟨rfl, rfl, rfl, by simp [World.setCell], fun k hk hne => Below.heap_setCell _ _ _ _ (fun e => hne (by rw [e]))⟩ (row := some gs) (fun k hk e => by
    have := (World.ownsRow.lt h.own k (ownB_iff.1 hk)).1
    cases e; omega)
theorem SmW.mid (h : SmW w r6 gs r8 n A m cap s arcs W) (hg : W.grownBy V (Value.slice A m cap).ownBlock) :
    Blk V r8 25 [.slice (some ⟨gs, 0, none⟩) n n, .slice A m cap] := by
  have hk : ∀ k, (Value.slice A m cap).ownBlock = some k → r8 + 1 ≤ k := fun k e => (World.ownsRow.lt h.own k e).1
  exact h.b8.grown hg (fun e => by have := hk r8 e.symm; omega)
theorem SmW.push (h : SmW w r6 gs r8 n A m cap s arcs W) (hg : W.grownBy V (Value.slice A m cap).ownBlock)
    (ho : V.ownsRow (r8 + 1) 46 4 (.slice A2 m2 cap2) m2 (flat arcV arcs2)) : SmW w r6 gs r8 n A2 m2 cap2 s arcs2 (V.setCell ⟨r8, 1, none⟩ (.slice A2 m2 cap2)) := by
  have hk : ∀ k, (Value.slice A m cap).ownBlock = some k → r8 + 1 ≤ k := fun k e => (World.ownsRow.lt h.own k e).1
  have hne : ∀ k, k ≤ r8 → some k ≠ (Value.slice A m cap).ownBlock := fun k hk' e => by have := hk k e.symm; omega
  have hl := h.lt
  have hbs := h.bel.size
  have m2 := h.mid hg
  refine ⟨(h.b6.grown hg (hne _ (by omega))).setCell_ne (by simp; omega) _, m2.setCell 1 _, Blk.setCell_ne (Blk.grown h.s hg (hne _ (by omega))) (by simp; omega) _, ?_, hl, (h.bel.grown hg hbs (fun k e => by have := hk k e; omega)).setCell (by simp; omega) _⟩
  exact ownGrown ho ⟨rfl, rfl, rfl, by simp [World.setCell], fun k hk hne => Below.heap_setCell _ _ _ _ (fun e => hne (by rw [e]))⟩ (row := some r8) (fun k hk e => by
    have := (World.ownsRow.lt ho k (ownB_iff.1 hk)).1
    cases e; omega)
theorem SmW.start (w : World) (n : Nat) : SmW w w.heap.size (w.heap.size + 1) (w.heap.size + 1 + 1) n none 0 0 (List.replicate n 0) [] (((w.alloc (.cells #[.slice none 0 0, .slice none 0 0] 25)).alloc (.cells (Array.replicate n (.int .i64 0)) 2)).alloc (.cells #[.slice (some ⟨w.heap.size + 1, 0, none⟩) n n, .slice none 0 0] 25)) := by
  have b1 := (Below.refl w.heap.size w).alloc (Nat.le_refl _) (.cells #[.slice none 0 0, .slice none 0 0] 25)
  have b2 := b1.alloc b1.size (.cells (Array.replicate n (.int .i64 0)) 2)
  have b3 := b2.alloc b2.size (.cells #[.slice (some ⟨w.heap.size + 1, 0, none⟩) n n, .slice none 0 0] 25)
  have x1 := Blk.new' w #[.slice none 0 0, .slice none 0 0] 25
  have f := fl_new 2 n (w.alloc (.cells #[.slice none 0 0, .slice none 0 0] 25))
  have x3 := Blk.new' ((w.alloc (.cells #[.slice none 0 0, .slice none 0 0] 25)).alloc (.cells (Array.replicate n (.int .i64 0)) 2)) #[.slice (some ⟨w.heap.size + 1, 0, none⟩) n n, .slice none 0 0] 25
  refine ⟨(x1.alloc _).alloc _, ?_, ?_, World.ownsRow_nil _ _ _ _, ⟨by omega, by omega, Nat.le_refl _⟩, b3⟩
  · simpa using x3
  · have := Blk.alloc f (.cells #[.slice (some ⟨w.heap.size + 1, 0, none⟩) n n, .slice none 0 0] 25)
    unfold Fl
    simpa using this
theorem net_of {b : Nat} (hs : Fl 2 W gs s) (hA : W.ownsRow b 46 4 (.slice A m cap) m (flat arcV arcs)) (hm : m = arcs.length) : NetAt W (some ⟨gs, 0, none⟩) A ⟨s, arcs⟩ ∧ m ≤ cap ∧ cap ≤ 9223372036854775807 := by
  refine ⟨⟨hs.ints, fun i hi => ?_⟩, ?_⟩
  · have hi' : i < arcs.length := hi
    obtain ⟨g, c, hv, hb, hlt⟩ := hA.form (by omega)
    cases hv
    have hc : ∀ j, j < 4 → W.cell? ⟨g, i * 4 + j, none⟩ = (arcV (arcs.getD i default))[j]? := fun j hj => by
      rw [World.ownsRow.cellAt hA (i * 4 + j) (by omega)]
      exact flat_get (f := arcV) (s := 4) (fun _ => rfl) _ _ _ _ (getElem_D _ _ _ hi) hj
    have had : (⟨g, 0, none⟩ : Addr).add (i * 4) = ⟨g, i * 4, none⟩ := by unfold Addr.add; split <;> simp_all
    exact ⟨⟨g, 0, none⟩, rfl, hlt, by rw [had]; exact hc 0 (by omega), by rw [had]; exact hc 1 (by omega), by rw [had]; exact hc 2 (by omega), by rw [had]; exact hc 3 (by omega)⟩
  · rcases hA.2 with ⟨h0, h1⟩ | ⟨g', c', cur, hv, _, _, hc1, hc2, _⟩
    · cases h0
      omega
    · cases hv
      unfold maxLen at hc2
      omega
theorem SmW.fin (h : SmW w r6 gs r8 n A m cap s arcs W) (hm : m = arcs.length) (Z : World) (hZ : Z = (W.setCell ⟨r6, 0, none⟩ (.slice (some ⟨gs, 0, none⟩) n n)).setCell ⟨r6, 1, none⟩ (.slice A m cap)) :
    Blk Z r6 25 [.slice (some ⟨gs, 0, none⟩) n n, .slice A m cap] ∧ NetAt Z (some ⟨gs, 0, none⟩) A ⟨s, arcs⟩ ∧ Below w.heap.size w Z ∧ m ≤ cap ∧ cap ≤ 9223372036854775807 := by
  subst hZ
  have hl := h.lt
  have row : ∀ (V : World) (o : Nat) (x : Value), V.ownsRow (r8 + 1) 46 4 (.slice A m cap) m (flat arcV arcs) → (V.setCell ⟨r6, o, none⟩ x).ownsRow (r8 + 1) 46 4 (.slice A m cap) m (flat arcV arcs) := fun V o x hV =>
    ownGrown hV ⟨rfl, rfl, rfl, by simp [World.setCell], fun k hk hne => Below.heap_setCell _ _ _ _ (fun e => hne (by rw [e]))⟩ (row := some r6) (fun k hk e => by
      have := (World.ownsRow.lt hV k (ownB_iff.1 hk)).1
      cases e; omega)
  have N1 := net_of (gs := gs) (Blk.setCell_ne (p := ⟨r6, 1, none⟩) (Blk.setCell_ne (p := ⟨r6, 0, none⟩) h.s (by simp; omega) (.slice (some ⟨gs, 0, none⟩) n n)) (by simp; omega) (.slice A m cap)) (row _ 1 _ (row _ 0 _ h.own)) hm
  exact ⟨(h.b6.setCell 0 _).setCell 1 _, N1.1, (h.bel.setCell (by simp; omega) _).setCell (by simp; omega) _, N1.2⟩
end
end Go.Proofs.Ytmebpglkeedaoaa
namespace Go.Proofs.Ytmebpglkeedaoaa
set_option linter.unusedVariables false
namespace Dp
theorem flow_inC {N : Net} {g : List Int} (h : isFlow N g = true) : inC (capsN N) g := by
  have hl : g.length = N.arcs.length := by
    by_cases e : g.length = N.arcs.length
    · exact e
    · rw [isFlow_len e] at h; cases h
  refine inC_of _ _ (by rw [hl]; simp [capsN]) (fun i hi => ?_)
  rw [caps_get (by omega)]
  by_cases e : 0 ≤ g.getD i 0 ∧ g.getD i 0 ≤ (N.arcs.getD i default).cap
  · exact e
  · rw [isFlow_cap i (by omega) e] at h; cases h
/-- what Least said, for the looking -/
def LS (N : Net) (fl p : List Int) (ee : Int) : Prop :=
  (ee = 0 ∧ isFlow N fl = true ∧ clE N fl p = 0 ∧ ∀ g, isFlow N g = true → coV N fl ≤ coV N g) ∨
  (ee = 18 ∧ (∃ c : List Int, (∀ k, k < c.length → cutAt N.sup.length c k = true) ∧ 0 < lkA N c N.arcs.length) ∧ ∀ g, isFlow N g = false)
/-- the looking at list f: fd: a flow has been found -/
def LK (N : Net) (f : List Int) (fd : Bool) : Prop :=
  inC (capsN N) f ∧ (fd = true → ∃ g, isFlow N g = true) ∧ ∀ g, isFlow N g = true → ix (capsN N) g < ix (capsN N) f → fd = true
theorem LK.start {N : Net} (h : chE N = 0) : LK N (List.replicate N.arcs.length 0) false := by
  have hz := inC_zero (capsN N) (fun c hc => by
    obtain ⟨a, ha, rfl⟩ := List.mem_map.1 hc
    obtain ⟨i, hi, rfl⟩ := List.getElem_of_mem ha
    have := (net_arc h i hi).2.2.2.1.1
    rwa [List.getD_eq_getElem?_getD, List.getElem?_eq_getElem hi] at this)
  rw [show (capsN N).length = N.arcs.length by simp [capsN]] at hz
  refine ⟨hz.1, fun e => (by cases e), fun g hg hl => ?_⟩
  have := ix_nn _ _ (flow_inC hg)
  rw [hz.2] at hl
  omega
theorem LK.next {N : Net} {f : List Int} {fd : Bool} (h : LK N f fd) (hn : (nx (capsN N) f).1 = true) : LK N (nx (capsN N) f).2 (fd || isFlow N f) ∧ ix (capsN N) (nx (capsN N) f).2 = ix (capsN N) f + 1 := by
  have h1 := nx_true _ _ h.1 hn
  refine ⟨⟨h1.1, fun e => ?_, fun g hg hl => ?_⟩, h1.2⟩
  · cases hb : isFlow N f
    · rw [hb, Bool.or_false] at e; exact h.2.1 e
    · exact ⟨f, hb⟩
  · rw [h1.2] at hl
    by_cases e : ix (capsN N) g = ix (capsN N) f
    · rw [← ix_inj _ _ _ (flow_inC hg) h.1 e, hg, Bool.or_true]
    · rw [h.2.2 g hg (by omega), Bool.true_or]
theorem LK.done {N : Net} {f : List Int} {fd : Bool} (h : LK N f fd) (hn : (nx (capsN N) f).1 = false) : (fd || isFlow N f) = true ↔ ∃ g, isFlow N g = true := by
  refine ⟨fun e => ?_, fun ⟨g, hg⟩ => ?_⟩
  · cases hb : isFlow N f
    · rw [hb, Bool.or_false] at e; exact h.2.1 e
    · exact ⟨f, hb⟩
  · have h1 := nx_false _ _ h.1 hn
    have h2 := ix_lt _ _ (flow_inC hg)
    by_cases e : ix (capsN N) g = ix (capsN N) f
    · rw [← ix_inj _ _ _ (flow_inC hg) h.1 e, hg, Bool.or_true]
    · rw [h.2.2 g hg (by omega), Bool.true_or]
/-- a set's nodes -/
def bitC (s i : Nat) : List Int := cutL i (fun v => s.testBit v)
theorem bitC_zero (s : Nat) : bitC s 0 = [] := rfl
theorem bitC_succ (s i : Nat) : bitC s (i + 1) = if s.testBit i = true then bitC s i ++ [(i : Int)] else bitC s i := by
  unfold bitC cutL
  rw [List.range_succ, List.filter_append, List.map_append]
  by_cases h : s.testBit i = true
  · simp [h]
  · simp [h]
theorem set_of (P : Nat → Bool) : ∀ n : Nat, ∃ s, s < 2 ^ n ∧ ∀ i, i < n → s.testBit i = P i
  | 0 => ⟨0, by simp, fun i h => by omega⟩
  | n + 1 => by
    obtain ⟨s, h1, h2⟩ := set_of P n
    cases hp : P n
    · refine ⟨s, by rw [Nat.pow_succ]; omega, fun i hi => ?_⟩
      by_cases e : i = n
      · subst e; rw [hp]; exact Nat.testBit_lt_two_pow h1
      · exact h2 i (by omega)
    · refine ⟨2 ^ n + s, by rw [Nat.pow_succ]; omega, fun i hi => ?_⟩
      by_cases e : i = n
      · subst e
        rw [hp, Nat.testBit_two_pow_add_eq, Nat.testBit_lt_two_pow h1]; rfl
      · rw [Nat.testBit_two_pow_add_gt (by omega)]; exact h2 i (by omega)
theorem lkR_ext {N : Net} {c d : List Int} (h : ∀ v : Nat, v < N.sup.length → inK c c.length v = inK d d.length v) : ∀ k, k ≤ N.sup.length → lkR N c c.length k = lkR N d d.length k
  | 0, _ => rfl
  | k + 1, hk => by simp only [lkR]; rw [lkR_ext h k (by omega), h k (by omega)]
theorem lkA_ext {N : Net} {c d : List Int} (hch : chE N = 0) (hc : ∀ k, k < c.length → cutAt N.sup.length c k = true) (hd : ∀ k, k < d.length → cutAt N.sup.length d k = true) (h : ∀ v : Nat, v < N.sup.length → inK c c.length v = inK d d.length v) : ∀ k, k ≤ N.arcs.length → lkA N c k = lkA N d k
  | 0, _ => by
    simp only [lkA]
    rw [← lkR_eq c.length (Nat.le_refl _) hc, ← lkR_eq d.length (Nat.le_refl _) hd]
    exact lkR_ext h _ (Nat.le_refl _)
  | k + 1, hk => by
    simp only [lkA]
    have e := net_arc hch k (by omega)
    have e1 := h (N.arcs.getD k default).fr.toNat (by omega)
    have e2 := h (N.arcs.getD k default).to.toNat (by omega)
    rw [Int.toNat_of_nonneg e.1.1] at e1
    rw [Int.toNat_of_nonneg e.2.1.1] at e2
    rw [lkA_ext hch hc hd h k (by omega), e1, e2]
/-- all sets below s looked at: lk: one lacks something -/
def LC (N : Net) (s : Nat) (lk : Bool) : Prop := lk = true ↔ ∃ t, t < s ∧ 0 < lkV N (bitC t N.sup.length)
theorem LC.start (N : Net) : LC N 0 false := ⟨fun h => (by cases h), fun ⟨_, h, _⟩ => absurd h (Nat.not_lt_zero _)⟩
theorem LC.next {N : Net} {s : Nat} {lk : Bool} (h : LC N s lk) : LC N (s + 1) (lk || decide (0 < lkV N (bitC s N.sup.length))) := by
  unfold LC at *
  rw [Bool.or_eq_true, h, decide_eq_true_eq]
  refine ⟨fun e => ?_, fun ⟨t, h1, h2⟩ => ?_⟩
  · rcases e with ⟨t, h1, h2⟩ | h2
    · exact ⟨t, by omega, h2⟩
    · exact ⟨s, by omega, h2⟩
  · by_cases e : t = s
    · subst e; exact .inr h2
    · exact .inl ⟨t, by omega, h2⟩
theorem bit_ok {N : Net} (h : chE N = 0) (s : Nat) : lkE N (bitC s N.sup.length) = 0 := (lk_yes h cutL_ok).1
theorem bit_v {N : Net} (h : chE N = 0) (s : Nat) : lkV N (bitC s N.sup.length) = max 0 (lkA N (bitC s N.sup.length) N.arcs.length) := (lk_yes h cutL_ok).2
theorem LC.flow {N : Net} {s : Nat} {lk : Bool} (h : LC N s lk) (hch : chE N = 0) {g : List Int} (hg : isFlow N g = true) : lk = false := by
  cases lk
  · rfl
  · obtain ⟨t, _, ht⟩ := h.1 rfl
    rw [bit_v hch] at ht
    have := cut_none hch (c := bitC t N.sup.length) cutL_ok (by omega) g
    rw [hg] at this
    cases this
theorem LC.cut {N : Net} {lk : Bool} (h : LC N (2 ^ N.sup.length) lk) (hch : chE N = 0) {c : List Int} (hc : ∀ k, k < c.length → cutAt N.sup.length c k = true) (hl : 0 < lkA N c N.arcs.length) : lk = true := by
  obtain ⟨s, h1, h2⟩ := set_of (fun v => inK c c.length (v : Int)) N.sup.length
  refine h.2 ⟨s, h1, ?_⟩
  have e := lkA_ext hch hc (d := bitC s N.sup.length) cutL_ok (fun v hv => by
    have := cutL_in (n := N.sup.length) (C := fun v => s.testBit v) hv
    unfold bitC
    rw [this, h2 v hv]) N.arcs.length (Nat.le_refl _)
  rw [bit_v hch, ← e]
  omega
end Dp
end Go.Proofs.Ytmebpglkeedaoaa
