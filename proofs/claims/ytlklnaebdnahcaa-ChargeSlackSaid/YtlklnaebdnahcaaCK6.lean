/- Contracts that the claim leans on, part 6: V27 V28 V29 V30 V31 V32 V33a V33 V34 V35 V36 J1 JS -/
import Derived.Test.YtlklnaebdnahcaaCK5
set_option linter.unusedVariables false
set_option linter.unusedSimpArgs false
set_option linter.unnecessarySimpa false
namespace Go.Proofs.Ytlklnaebdnahcaa
open Go.RowKit Nw
structure OkA (K : Int) (D : Dl) (S : St) : Prop where
  n : OkN K D S
  d : ∀ c ∈ D.cn, ∀ q ∈ c.ps, 0 ≤ q
  c16 : D.cn.length ≤ 16
  ac : S.ac.length ≤ 1000000
  cs : ∃ K2 : Int, K2 < 100000 ∧ ∀ c ∈ S.cs, Sx.OkC K2 c
  cl : S.cs.length ≤ 32
  fl : S.fl.length ≤ 1000000
theorem doS_no {D : Dl} {S : St} {k a b c e : Int} (h : doE D S k a b c = e) (he : e ≠ 0) : doS D S k a b c = S := if_pos (by rw [h]; exact he)
theorem lastO_snoc : ∀ (l : List Ac) (x : Ac) (z : Int), lastO (l ++ [x]) z = if x.op then x.bl.s else lastO l z
  | [], x, z => rfl
  | y :: l, x, z => lastO_snoc l x _
theorem lastO_succ {l : List Ac} {k : Nat} {x : Ac} (h : l[k]? = some x) (z : Int) : lastO (l.take (k + 1)) z = if x.op then x.bl.s else lastO (l.take k) z := by
  obtain ⟨hk, rfl⟩ := List.getElem?_eq_some_iff.1 h
  rw [List.take_succ_eq_append_getElem hk, lastO_snoc]
def payB (S : St) (c k : Int) (e : Int × Bl) : Bool := decide (e.1 = k ∧ (mget e.1 S.pc).getD 0 = c)
theorem mget_mput' {β : Type} (k q : Int) (v : β) : ∀ l : List (Int × β), mget q (mput k v l) = if q = k then some v else mget q l
  | [] => by unfold mput mget; by_cases h : k = q <;> simp [h, mget, eq_comm]
  | e :: l => by
    unfold mput
    by_cases h1 : e.1 = k
    · rw [if_pos h1]
      unfold mget
      by_cases h2 : q = k
      · subst h2; simp
      · have h3 : ¬ k = q := fun e => h2 e.symm
        have h4 : ¬ e.1 = q := fun e2 => h3 (h1.symm.trans e2)
        simp only [if_neg h3, if_neg h2, if_neg h4]
    · rw [if_neg h1]
      unfold mget
      rw [mget_mput' k q v l]
      by_cases h2 : e.1 = q
      · rw [if_pos h2, if_pos h2, if_neg (fun e3 => h1 (h2.trans e3))]
      · rw [if_neg h2, if_neg h2]
theorem payL_like (S : St) (c k : Int) : ∀ (l : List (Int × Bl)) (pd : List (Int × Bool)), (mget k (payL S c l pd)).getD false = ((mget k pd).getD false || l.any (payB S c k))
  | [], pd => by simp [payL]
  | e :: l, pd => by
    unfold payL
    rw [payL_like S c k l]
    rw [List.any_cons]
    by_cases h1 : (mget e.1 S.pc).getD 0 = c
    · rw [if_pos h1, mget_mput']
      by_cases h2 : k = e.1
      · subst h2; simp [payB, h1]
      · rw [if_neg h2]
        have : payB S c k e = false := by unfold payB; simp only [decide_eq_false_iff_not]; exact fun x => h2 x.1.symm
        rw [this]; simp
    · rw [if_neg h1]
      have : payB S c k e = false := by unfold payB; simp only [decide_eq_false_iff_not]; exact fun x => h1 x.2
      rw [this]; simp
theorem any_perm {α : Type} {f : α → Bool} {l l' : List α} (h : l.Perm l') : l.any f = l'.any f := by
  induction h with
  | nil => rfl
  | cons x _ ih => simp [ih]
  | swap x y l => simp [Bool.or_left_comm]
  | trans _ _ h1 h2 => exact h1.trans h2
set_option maxRecDepth 100000 in
set_option maxHeartbeats 8000000 in
theorem do_1 {w : World} {B n base : Nat} {col : Nat → Nat} {D : Dl} {M : Mem} {S : St} (h : NetAt w B n col base D M S) (hB : B ≤ w.heap.size) (hfr : ∀ k, w.heap.size ≤ k → ¬ NetOwn col base k) {K : Int} (ho : OkA K D S) (a b c : Int)  :
    Calls Try.prog 6 #[.pointer (some ⟨n, 0, none⟩), .agg #[.int .i64 1, .int .i64 a, .int .i64 b, .int .i64 c]] w fun e w' => e = .returned (.int .i64 (doE D S 1 a b c)) ∧ NetTo w B n col base D (doS D S 1 a b c) w' := by
  have HFR := Lib.hid hfr
  have HO := Lib.hid ho
  have HW := Lib.hid h
  have al := (Below.refl w.heap.size w).alloc (Nat.le_refl _) (.cells #[.int .i64 1, .int .i64 a, .int .i64 b, .int .i64 c] 35)
  have HX := Lib.hid (Blk.new' w #[.int .i64 1, .int .i64 a, .int .i64 b, .int .i64 c] 35)
  have H1 := Lib.hid (h.below al)
  have HA := Lib.hid al
  have HB1 := Lib.hid (Nat.le_trans hB al.size)
  have HS0 := Lib.hid (NetTo.same HW.out HA.out)
  clear hfr ho h hB al
  have HE := Lib.hid (show doE D S 1 a b c = plugE D S a b from rfl)
  have HS := Lib.hid (show doS D S 1 a b c = plugF D S a b by
    unfold doS plugF
    rw [HE.out]
    by_cases h0 : plugE D S a b = 0
    · rw [if_neg (by rw [h0]; simp), if_pos h0]; rfl
    · rw [if_pos h0, if_neg h0])
  rw [HE.out, HS.out]
  go_enter Try.func6, Try.ntmps6
  go_upto_region 1 with fail
  generalize w.alloc (.cells #[.int .i64 1, .int .i64 a, .int .i64 b, .int .i64 c] 35) = w1 at *
  obtain ⟨gx, hgx⟩ : ∃ gx, gx = w.heap.size := ⟨_, rfl⟩
  rw [← hgx] at HX ⊢
  have HGX := Lib.hid hgx
  clear hgx
  have x0 := HX.out.cell 0 rfl
  have x1 := HX.out.cell 1 rfl
  have x2 := HX.out.cell 2 rfl
  have x3 := HX.out.cell 3 rfl
  have xl := HX.out.lt
  have nl := H1.out.lt
  go_wp2_with (first | (go_at_call 20; refine (validN_c H1.out).mono ?_; rintro e w2 ⟨rfl, rfl⟩) | (go_at_call 21; refine (doPlug_c H1.out HB1.out HO.out.d HO.out.c16 a b c).mono ?_; rintro e w2 ⟨rfl, hn⟩; have HN := Lib.hid hn; clear hn))
  exact bodyPost_ret (v := .int .i64 (plugE D S a b)) (by simp [results, Try.results6, go_sem]) rfl ⟨rfl, NetTo.before (Touch.of_below HA.out) HN.out⟩
set_option maxRecDepth 100000 in
set_option maxHeartbeats 8000000 in
theorem do_8 {w : World} {B n base : Nat} {col : Nat → Nat} {D : Dl} {M : Mem} {S : St} (h : NetAt w B n col base D M S) (hB : B ≤ w.heap.size) (hfr : ∀ k, w.heap.size ≤ k → ¬ NetOwn col base k) {K : Int} (ho : OkA K D S) (a b c : Int)  :
    Calls Try.prog 6 #[.pointer (some ⟨n, 0, none⟩), .agg #[.int .i64 8, .int .i64 a, .int .i64 b, .int .i64 c]] w fun e w' => e = .returned (.int .i64 (doE D S 8 a b c)) ∧ NetTo w B n col base D (doS D S 8 a b c) w' := by
  have HFR := Lib.hid hfr
  have HO := Lib.hid ho
  have HW := Lib.hid h
  have al := (Below.refl w.heap.size w).alloc (Nat.le_refl _) (.cells #[.int .i64 8, .int .i64 a, .int .i64 b, .int .i64 c] 35)
  have HX := Lib.hid (Blk.new' w #[.int .i64 8, .int .i64 a, .int .i64 b, .int .i64 c] 35)
  have H1 := Lib.hid (h.below al)
  have HA := Lib.hid al
  have HB1 := Lib.hid (Nat.le_trans hB al.size)
  have HS0 := Lib.hid (NetTo.same HW.out HA.out)
  clear hfr ho h hB al
  have HE := Lib.hid (show doE D S 8 a b c = leaseE D S a b c from rfl)
  have HS := Lib.hid (show doS D S 8 a b c = leaseF D S a b c by
    unfold doS leaseF
    rw [HE.out]
    by_cases h0 : leaseE D S a b c = 0
    · rw [if_neg (by rw [h0]; simp), if_pos h0]; rfl
    · rw [if_pos h0, if_neg h0])
  obtain ⟨K2, hk2, hok⟩ := HO.out.cs
  have HK2 := Lib.hid hk2
  have HOK := Lib.hid hok
  clear hk2 hok
  rw [HE.out, HS.out]
  go_enter Try.func6, Try.ntmps6
  go_upto_region 1 with fail
  generalize w.alloc (.cells #[.int .i64 8, .int .i64 a, .int .i64 b, .int .i64 c] 35) = w1 at *
  obtain ⟨gx, hgx⟩ : ∃ gx, gx = w.heap.size := ⟨_, rfl⟩
  rw [← hgx] at HX ⊢
  have HGX := Lib.hid hgx
  clear hgx
  have x0 := HX.out.cell 0 rfl
  have x1 := HX.out.cell 1 rfl
  have x2 := HX.out.cell 2 rfl
  have x3 := HX.out.cell 3 rfl
  have xl := HX.out.lt
  have nl := H1.out.lt
  go_wp2_with (first | (go_at_call 20; refine (validN_c H1.out).mono ?_; rintro e w2 ⟨rfl, rfl⟩) | (go_at_call 29; refine (doLease_c H1.out HB1.out HK2.out HOK.out HO.out.cl 8 a b c).mono ?_; rintro e w2 ⟨rfl, hn⟩; have HN := Lib.hid hn; clear hn))
  exact bodyPost_ret (v := .int .i64 (leaseE D S a b c)) (by simp [results, Try.results6, go_sem]) rfl ⟨rfl, NetTo.before (Touch.of_below HA.out) HN.out⟩
set_option maxRecDepth 100000 in
set_option maxHeartbeats 8000000 in
theorem do_2 {w : World} {B n base : Nat} {col : Nat → Nat} {D : Dl} {M : Mem} {S : St} (h : NetAt w B n col base D M S) (hB : B ≤ w.heap.size) (hfr : ∀ k, w.heap.size ≤ k → ¬ NetOwn col base k) {K : Int} (ho : OkA K D S) (a b c : Int)  :
    Calls Try.prog 6 #[.pointer (some ⟨n, 0, none⟩), .agg #[.int .i64 2, .int .i64 a, .int .i64 b, .int .i64 c]] w fun e w' => e = .returned (.int .i64 (doE D S 2 a b c)) ∧ NetTo w B n col base D (doS D S 2 a b c) w' := by
  have HFR := Lib.hid hfr
  have HO := Lib.hid ho
  have HW := Lib.hid h
  have al := (Below.refl w.heap.size w).alloc (Nat.le_refl _) (.cells #[.int .i64 2, .int .i64 a, .int .i64 b, .int .i64 c] 35)
  have HX := Lib.hid (Blk.new' w #[.int .i64 2, .int .i64 a, .int .i64 b, .int .i64 c] 35)
  have H1 := Lib.hid (h.below al)
  have HA := Lib.hid al
  have HB1 := Lib.hid (Nat.le_trans hB al.size)
  have HS0 := Lib.hid (NetTo.same HW.out HA.out)
  clear hfr ho h hB al
  have HE := Lib.hid (show doE D S 2 a b c = (if S.inn then 0 else 10) from rfl)
  have HS := Lib.hid (show doS D S 2 a b c = (if S.inn then unplugS S else S) by
    unfold doS
    rw [HE.out]
    cases S.inn <;> rfl)
  have PU := Lib.hid (doUnplug_c H1.out HB1.out)
  rw [HE.out, HS.out]
  generalize (if S.inn then 0 else 10 : Int) = e2 at PU ⊢
  generalize (if S.inn then unplugS S else S) = S2 at PU ⊢
  clear HE HS
  go_enter Try.func6, Try.ntmps6
  go_upto_region 1 with fail
  generalize w.alloc (.cells #[.int .i64 2, .int .i64 a, .int .i64 b, .int .i64 c] 35) = w1 at *
  obtain ⟨gx, hgx⟩ : ∃ gx, gx = w.heap.size := ⟨_, rfl⟩
  rw [← hgx] at HX ⊢
  have HGX := Lib.hid hgx
  clear hgx
  have x0 := HX.out.cell 0 rfl
  have x1 := HX.out.cell 1 rfl
  have x2 := HX.out.cell 2 rfl
  have x3 := HX.out.cell 3 rfl
  have xl := HX.out.lt
  have nl := H1.out.lt
  go_wp2_with (first | (go_at_call 20; refine (validN_c H1.out).mono ?_; rintro e w2 ⟨rfl, rfl⟩) | (go_at_call 22; refine (PU.out).mono ?_; rintro e w2 ⟨rfl, hn⟩; have HN := Lib.hid hn; clear hn))
  exact bodyPost_ret (v := .int .i64 e2) (by simp [results, Try.results6, go_sem]) rfl ⟨rfl, NetTo.before (Touch.of_below HA.out) HN.out⟩
set_option maxRecDepth 100000 in
set_option maxHeartbeats 8000000 in
theorem do_3 {w : World} {B n base : Nat} {col : Nat → Nat} {D : Dl} {M : Mem} {S : St} (h : NetAt w B n col base D M S) (hB : B ≤ w.heap.size) (hfr : ∀ k, w.heap.size ≤ k → ¬ NetOwn col base k) {K : Int} (ho : OkA K D S) (a b c : Int)  :
    Calls Try.prog 6 #[.pointer (some ⟨n, 0, none⟩), .agg #[.int .i64 3, .int .i64 a, .int .i64 b, .int .i64 c]] w fun e w' => e = .returned (.int .i64 (doE D S 3 a b c)) ∧ NetTo w B n col base D (doS D S 3 a b c) w' := by
  have HFR := Lib.hid hfr
  have HO := Lib.hid ho
  have HW := Lib.hid h
  have al := (Below.refl w.heap.size w).alloc (Nat.le_refl _) (.cells #[.int .i64 3, .int .i64 a, .int .i64 b, .int .i64 c] 35)
  have HX := Lib.hid (Blk.new' w #[.int .i64 3, .int .i64 a, .int .i64 b, .int .i64 c] 35)
  have H1 := Lib.hid (h.below al)
  have HA := Lib.hid al
  have HB1 := Lib.hid (Nat.le_trans hB al.size)
  have HS0 := Lib.hid (NetTo.same HW.out HA.out)
  clear hfr ho h hB al
  cases hib : Cv.inB a (-1073741824) 1073741824 with
  | false =>
    have HE := Lib.hid (show doE D S 3 a b c = 3 by show (if Cv.inB a (-1073741824) 1073741824 = false then (3 : Int) else _) = 3; rw [hib]; rfl)
    have P48 : ∀ V, Calls Try.prog 23 #[.int .i64 a, .int .i64 (-1073741824), .int .i64 1073741824] V fun e w' => e = .returned (.bool false) ∧ V = w' := fun V => by have := within_c a (-1073741824) 1073741824 V; rwa [hib] at this
    clear hib
    go_enter Try.func6, Try.ntmps6
    go_upto_region 1 with fail
    generalize w.alloc (.cells #[.int .i64 3, .int .i64 a, .int .i64 b, .int .i64 c] 35) = w1 at *
    obtain ⟨gx, hgx⟩ : ∃ gx, gx = w.heap.size := ⟨_, rfl⟩
    rw [← hgx] at HX ⊢
    have HGX := Lib.hid hgx
    clear hgx
    have x0 := HX.out.cell 0 rfl
    have x1 := HX.out.cell 1 rfl
    have x2 := HX.out.cell 2 rfl
    have x3 := HX.out.cell 3 rfl
    have xl := HX.out.lt
    have nl := H1.out.lt
    go_wp2_with (first | (go_at_call 20; refine (validN_c H1.out).mono ?_; rintro e w2 ⟨rfl, rfl⟩) | (go_at_call 23; refine (P48 _).mono ?_; rintro e w2 ⟨rfl, rfl⟩))
    exact bodyPost_ret (v := .int .i64 3) (by simp [results, Try.results6, go_sem]) rfl ⟨by rw [HE.out], by rw [doS_no HE.out (by decide)]; exact HS0.out⟩
  | true =>
    have P48 : ∀ V, Calls Try.prog 23 #[.int .i64 a, .int .i64 (-1073741824), .int .i64 1073741824] V fun e w' => e = .returned (.bool true) ∧ V = w' := fun V => by have := within_c a (-1073741824) 1073741824 V; rwa [hib] at this
    have HE0 := Lib.hid (show doE D S 3 a b c = if 1099511627776 ≤ S.now then 4 else 0 by show (if Cv.inB a (-1073741824) 1073741824 = false then (3 : Int) else _) = _; rw [hib]; rfl)
    clear hib
    by_cases hnow : 1099511627776 ≤ S.now
    · have HE := Lib.hid (show doE D S 3 a b c = 4 by rw [HE0.out, if_pos hnow])
      have d1 : decide (1099511627776 ≤ S.now) = true := decide_eq_true hnow
      clear hnow
      go_enter Try.func6, Try.ntmps6
      go_upto_region 1 with fail
      generalize w.alloc (.cells #[.int .i64 3, .int .i64 a, .int .i64 b, .int .i64 c] 35) = w1 at *
      obtain ⟨gx, hgx⟩ : ∃ gx, gx = w.heap.size := ⟨_, rfl⟩
      rw [← hgx] at HX ⊢
      have HGX := Lib.hid hgx
      clear hgx
      have x0 := HX.out.cell 0 rfl
      have x1 := HX.out.cell 1 rfl
      have x2 := HX.out.cell 2 rfl
      have x3 := HX.out.cell 3 rfl
      have xl := HX.out.lt
      have nl := H1.out.lt
      have c10 := H1.out.blk.cell 10 rfl
      go_wp2_with (first | (go_at_call 20; refine (validN_c H1.out).mono ?_; rintro e w2 ⟨rfl, rfl⟩) | (go_at_call 23; refine (P48 _).mono ?_; rintro e w2 ⟨rfl, rfl⟩))
      exact bodyPost_ret (v := .int .i64 4) (by simp [results, Try.results6, go_sem]) rfl ⟨by rw [HE.out], by rw [doS_no HE.out (by decide)]; exact HS0.out⟩
    · have HE := Lib.hid (show doE D S 3 a b c = 0 by rw [HE0.out, if_neg hnow])
      have d1 : decide (1099511627776 ≤ S.now) = false := decide_eq_false hnow
      clear hnow
      go_enter Try.func6, Try.ntmps6
      go_upto_region 1 with fail
      generalize w.alloc (.cells #[.int .i64 3, .int .i64 a, .int .i64 b, .int .i64 c] 35) = w1 at *
      obtain ⟨gx, hgx⟩ : ∃ gx, gx = w.heap.size := ⟨_, rfl⟩
      rw [← hgx] at HX ⊢
      have HGX := Lib.hid hgx
      clear hgx
      have x0 := HX.out.cell 0 rfl
      have x1 := HX.out.cell 1 rfl
      have x2 := HX.out.cell 2 rfl
      have x3 := HX.out.cell 3 rfl
      have xl := HX.out.lt
      have nl := H1.out.lt
      have c10 := H1.out.blk.cell 10 rfl
      go_wp2_with (first | (go_at_call 20; refine (validN_c H1.out).mono ?_; rintro e w2 ⟨rfl, rfl⟩) | (go_at_call 23; refine (P48 _).mono ?_; rintro e w2 ⟨rfl, rfl⟩) | (go_at_call 24; refine (tick_c H1.out HB1.out a HO.out.n HO.out.fl).mono ?_; rintro e w2 ⟨rfl, hn⟩; have HN := Lib.hid hn; clear hn))
      exact bodyPost_ret (v := .int .i64 0) (by simp [results, Try.results6, go_sem]) rfl ⟨by rw [HE.out], by
            rw [show doS D S 3 a b c = Nw.tick D S a from if_neg (by rw [HE.out]; simp)]
            exact NetTo.before (Touch.of_below HA.out) HN.out⟩
set_option maxRecDepth 100000 in
set_option maxHeartbeats 8000000 in
theorem do_4 {w : World} {B n base : Nat} {col : Nat → Nat} {D : Dl} {M : Mem} {S : St} (h : NetAt w B n col base D M S) (hB : B ≤ w.heap.size) (hfr : ∀ k, w.heap.size ≤ k → ¬ NetOwn col base k) {K : Int} (ho : OkA K D S) (a b c : Int)  :
    Calls Try.prog 6 #[.pointer (some ⟨n, 0, none⟩), .agg #[.int .i64 4, .int .i64 a, .int .i64 b, .int .i64 c]] w fun e w' => e = .returned (.int .i64 (doE D S 4 a b c)) ∧ NetTo w B n col base D (doS D S 4 a b c) w' := by
  have HFR := Lib.hid hfr
  have HO := Lib.hid ho
  have HW := Lib.hid h
  have al := (Below.refl w.heap.size w).alloc (Nat.le_refl _) (.cells #[.int .i64 4, .int .i64 a, .int .i64 b, .int .i64 c] 35)
  have HX := Lib.hid (Blk.new' w #[.int .i64 4, .int .i64 a, .int .i64 b, .int .i64 c] 35)
  have H1 := Lib.hid (h.below al)
  have HA := Lib.hid al
  have HB1 := Lib.hid (Nat.le_trans hB al.size)
  have HS0 := Lib.hid (NetTo.same HW.out HA.out)
  clear hfr ho h hB al
  obtain ⟨m, hm⟩ : ∃ m, m = S.fl.length := ⟨_, rfl⟩
  have HM := Lib.hid hm
  have hm6 : m ≤ 1000000 := by rw [hm]; exact HO.out.fl
  have hwr : IntKind.i64.wrap ((m : Int) - 1) = (m : Int) - 1 := IntWalk.i64_in _ (by omega)
  have hwr2 : wrap64 ((m : Int) - 1) = (m : Int) - 1 := by rw [← IntWalk.i64_left]; exact hwr
  clear hm
  have HE0 := Lib.hid (show doE D S 4 a b c = if Cv.inB a 0 ((m : Int) - 1) = false then 3 else 0 by rw [HM.out]; rfl)
  cases hib : Cv.inB a 0 ((m : Int) - 1) with
  | false =>
    have HE := Lib.hid (show doE D S 4 a b c = 3 by rw [HE0.out, hib]; rfl)
    have P48 : ∀ V, Calls Try.prog 23 #[.int .i64 a, .int .i64 0, .int .i64 ((m : Int) - 1)] V fun e w' => e = .returned (.bool false) ∧ V = w' := fun V => by have := within_c a 0 ((m : Int) - 1) V; rwa [hib] at this
    clear hib
    go_enter Try.func6, Try.ntmps6
    go_upto_region 1 with fail
    generalize w.alloc (.cells #[.int .i64 4, .int .i64 a, .int .i64 b, .int .i64 c] 35) = w1 at *
    obtain ⟨gx, hgx⟩ : ∃ gx, gx = w.heap.size := ⟨_, rfl⟩
    rw [← hgx] at HX ⊢
    have HGX := Lib.hid hgx
    clear hgx
    have x0 := HX.out.cell 0 rfl
    have x1 := HX.out.cell 1 rfl
    have x2 := HX.out.cell 2 rfl
    have x3 := HX.out.cell 3 rfl
    have xl := HX.out.lt
    have nl := H1.out.lt
    go_upto_region 18 with (go_at_call 20; refine (validN_c H1.out).mono ?_; rintro e w2 ⟨rfl, rfl⟩)
    have c17 := H1.out.blk.cell 17 rfl
    rw [← HM.out] at c17
    refine wp_region_past (by kernel_rfl) (by kernel_rfl) ?_
    repeat (go_big_quiet_step ((go_at_call 23; exact past_same (P48 _))))
    refine wpQuiet_nil ?_
    intro xx
    have H2 := Lib.hid (H1.out.below xx.far)
    have HX2 := Lib.hid (HX.out.below xx.far HX.out.lt)
    have HA2 := Lib.hid (HA.out.trans (xx.far.mono HA.out.size))
    have HB2 := Lib.hid (Nat.le_trans HB1.out xx.far.size)
    have HS2 := Lib.hid (NetTo.same HW.out HA2.out)
    generalize xx.w = w2 at H2 HX2 HA2 HB2 HS2 ⊢
    clear H1 HX HA HB1 HS0 c17 nl x0 x1 x2 x3 xl P48
    go_wp2_with fail
    have HS0 := HS2
    exact bodyPost_ret (v := .int .i64 3) (by simp [results, Try.results6, go_sem]) rfl ⟨by rw [HE.out], by rw [doS_no HE.out (by decide)]; exact HS0.out⟩
  | true =>
    have P48 : ∀ V, Calls Try.prog 23 #[.int .i64 a, .int .i64 0, .int .i64 ((m : Int) - 1)] V fun e w' => e = .returned (.bool true) ∧ V = w' := fun V => by have := within_c a 0 ((m : Int) - 1) V; rwa [hib] at this
    have HE := Lib.hid (show doE D S 4 a b c = 0 by rw [HE0.out, hib]; rfl)
    have hin := inB_yes hib
    clear hib
    obtain ⟨k, hk⟩ : ∃ k : Nat, a = k := ⟨a.toNat, by omega⟩
    subst hk
    have HKM := Lib.hid (show k < m by omega)
    have hki : (k : Int) < (m : Int) := by omega
    clear hin
    go_enter Try.func6, Try.ntmps6
    go_upto_region 1 with fail
    generalize w.alloc (.cells #[.int .i64 4, .int .i64 k, .int .i64 b, .int .i64 c] 35) = w1 at *
    obtain ⟨gx, hgx⟩ : ∃ gx, gx = w.heap.size := ⟨_, rfl⟩
    rw [← hgx] at HX ⊢
    have HGX := Lib.hid hgx
    clear hgx
    have x0 := HX.out.cell 0 rfl
    have x1 := HX.out.cell 1 rfl
    have x2 := HX.out.cell 2 rfl
    have x3 := HX.out.cell 3 rfl
    have xl := HX.out.lt
    have nl := H1.out.lt
    go_upto_region 18 with (go_at_call 20; refine (validN_c H1.out).mono ?_; rintro e w2 ⟨rfl, rfl⟩)
    have c17 := H1.out.blk.cell 17 rfl
    rw [← HM.out] at c17
    refine wp_region_past (by kernel_rfl) (by kernel_rfl) ?_
    repeat (go_big_quiet_step ((go_at_call 23; exact past_same (P48 _))))
    refine wpQuiet_nil ?_
    intro xx
    have H2 := Lib.hid (H1.out.below xx.far)
    have HX2 := Lib.hid (HX.out.below xx.far HX.out.lt)
    have HA2 := Lib.hid (HA.out.trans (xx.far.mono HA.out.size))
    have HB2 := Lib.hid (Nat.le_trans HB1.out xx.far.size)
    have HS2 := Lib.hid (NetTo.same HW.out HA2.out)
    generalize xx.w = w2 at H2 HX2 HA2 HB2 HS2 ⊢
    clear H1 HX HA HB1 HS0 c17 nl x0 x1 x2 x3 xl P48
    have x0 := HX2.out.cell 0 rfl
    have x1 := HX2.out.cell 1 rfl
    have xl := HX2.out.lt
    have nl := H2.out.lt
    obtain ⟨K2, hk2, hok⟩ := HO.out.cs
    have HK2 := Lib.hid (show K2 ≤ 100000 by omega)
    have HOK := Lib.hid hok
    clear hk2 hok
    go_wp2_with (go_at_call 25; refine (deliver_c H2.out HB2.out k (by have := HKM.out; have := HM.out; omega) HO.out.n HO.out.d HO.out.ac HK2.out HOK.out).mono ?_; rintro e w3 ⟨rfl, hn⟩; have HN := Lib.hid hn; clear hn)
    exact bodyPost_ret (v := .int .i64 0) (by simp [results, Try.results6, go_sem]) rfl ⟨by rw [HE.out], by
        rw [show doS D S 4 (k : Int) b c = Nw.deliver D S k from if_neg (by rw [HE.out]; simp)]
        exact NetTo.before (Touch.of_below HA2.out) HN.out⟩
set_option maxRecDepth 100000 in
set_option maxHeartbeats 8000000 in
theorem do_5 {w : World} {B n base : Nat} {col : Nat → Nat} {D : Dl} {M : Mem} {S : St} (h : NetAt w B n col base D M S) (hB : B ≤ w.heap.size) (hfr : ∀ k, w.heap.size ≤ k → ¬ NetOwn col base k) {K : Int} (ho : OkA K D S) (a b c : Int)  :
    Calls Try.prog 6 #[.pointer (some ⟨n, 0, none⟩), .agg #[.int .i64 5, .int .i64 a, .int .i64 b, .int .i64 c]] w fun e w' => e = .returned (.int .i64 (doE D S 5 a b c)) ∧ NetTo w B n col base D (doS D S 5 a b c) w' := by
  have HFR := Lib.hid hfr
  have HO := Lib.hid ho
  have HW := Lib.hid h
  have al := (Below.refl w.heap.size w).alloc (Nat.le_refl _) (.cells #[.int .i64 5, .int .i64 a, .int .i64 b, .int .i64 c] 35)
  have HX := Lib.hid (Blk.new' w #[.int .i64 5, .int .i64 a, .int .i64 b, .int .i64 c] 35)
  have H1 := Lib.hid (h.below al)
  have HA := Lib.hid al
  have HB1 := Lib.hid (Nat.le_trans hB al.size)
  have HS0 := Lib.hid (NetTo.same HW.out HA.out)
  clear hfr ho h hB al
  obtain ⟨m, hm⟩ : ∃ m, m = S.fl.length := ⟨_, rfl⟩
  have HM := Lib.hid hm
  have hm6 : m ≤ 1000000 := by rw [hm]; exact HO.out.fl
  have hwr : IntKind.i64.wrap ((m : Int) - 1) = (m : Int) - 1 := IntWalk.i64_in _ (by omega)
  have hwr2 : wrap64 ((m : Int) - 1) = (m : Int) - 1 := by rw [← IntWalk.i64_left]; exact hwr
  clear hm
  have HE0 := Lib.hid (show doE D S 5 a b c = if Cv.inB a 0 ((m : Int) - 1) = false then 3 else 0 by rw [HM.out]; rfl)
  cases hib : Cv.inB a 0 ((m : Int) - 1) with
  | false =>
    have HE := Lib.hid (show doE D S 5 a b c = 3 by rw [HE0.out, hib]; rfl)
    have P48 : ∀ V, Calls Try.prog 23 #[.int .i64 a, .int .i64 0, .int .i64 ((m : Int) - 1)] V fun e w' => e = .returned (.bool false) ∧ V = w' := fun V => by have := within_c a 0 ((m : Int) - 1) V; rwa [hib] at this
    clear hib
    go_enter Try.func6, Try.ntmps6
    go_upto_region 1 with fail
    generalize w.alloc (.cells #[.int .i64 5, .int .i64 a, .int .i64 b, .int .i64 c] 35) = w1 at *
    obtain ⟨gx, hgx⟩ : ∃ gx, gx = w.heap.size := ⟨_, rfl⟩
    rw [← hgx] at HX ⊢
    have HGX := Lib.hid hgx
    clear hgx
    have x0 := HX.out.cell 0 rfl
    have x1 := HX.out.cell 1 rfl
    have x2 := HX.out.cell 2 rfl
    have x3 := HX.out.cell 3 rfl
    have xl := HX.out.lt
    have nl := H1.out.lt
    go_upto_region 18 with (go_at_call 20; refine (validN_c H1.out).mono ?_; rintro e w2 ⟨rfl, rfl⟩)
    have c17 := H1.out.blk.cell 17 rfl
    rw [← HM.out] at c17
    refine wp_region_past (by kernel_rfl) (by kernel_rfl) ?_
    repeat (go_big_quiet_step ((go_at_call 23; exact past_same (P48 _))))
    refine wpQuiet_nil ?_
    intro xx
    have H2 := Lib.hid (H1.out.below xx.far)
    have HX2 := Lib.hid (HX.out.below xx.far HX.out.lt)
    have HA2 := Lib.hid (HA.out.trans (xx.far.mono HA.out.size))
    have HB2 := Lib.hid (Nat.le_trans HB1.out xx.far.size)
    have HS2 := Lib.hid (NetTo.same HW.out HA2.out)
    generalize xx.w = w2 at H2 HX2 HA2 HB2 HS2 ⊢
    clear H1 HX HA HB1 HS0 c17 nl x0 x1 x2 x3 xl P48
    go_wp2_with fail
    have HS0 := HS2
    exact bodyPost_ret (v := .int .i64 3) (by simp [results, Try.results6, go_sem]) rfl ⟨by rw [HE.out], by rw [doS_no HE.out (by decide)]; exact HS0.out⟩
  | true =>
    have P48 : ∀ V, Calls Try.prog 23 #[.int .i64 a, .int .i64 0, .int .i64 ((m : Int) - 1)] V fun e w' => e = .returned (.bool true) ∧ V = w' := fun V => by have := within_c a 0 ((m : Int) - 1) V; rwa [hib] at this
    have HE := Lib.hid (show doE D S 5 a b c = 0 by rw [HE0.out, hib]; rfl)
    have hin := inB_yes hib
    clear hib
    obtain ⟨k, hk⟩ : ∃ k : Nat, a = k := ⟨a.toNat, by omega⟩
    subst hk
    have HKM := Lib.hid (show k < m by omega)
    have hki : (k : Int) < (m : Int) := by omega
    clear hin
    go_enter Try.func6, Try.ntmps6
    go_upto_region 1 with fail
    generalize w.alloc (.cells #[.int .i64 5, .int .i64 k, .int .i64 b, .int .i64 c] 35) = w1 at *
    obtain ⟨gx, hgx⟩ : ∃ gx, gx = w.heap.size := ⟨_, rfl⟩
    rw [← hgx] at HX ⊢
    have HGX := Lib.hid hgx
    clear hgx
    have x0 := HX.out.cell 0 rfl
    have x1 := HX.out.cell 1 rfl
    have x2 := HX.out.cell 2 rfl
    have x3 := HX.out.cell 3 rfl
    have xl := HX.out.lt
    have nl := H1.out.lt
    go_upto_region 18 with (go_at_call 20; refine (validN_c H1.out).mono ?_; rintro e w2 ⟨rfl, rfl⟩)
    have c17 := H1.out.blk.cell 17 rfl
    rw [← HM.out] at c17
    refine wp_region_past (by kernel_rfl) (by kernel_rfl) ?_
    repeat (go_big_quiet_step ((go_at_call 23; exact past_same (P48 _))))
    refine wpQuiet_nil ?_
    intro xx
    have H2 := Lib.hid (H1.out.below xx.far)
    have HX2 := Lib.hid (HX.out.below xx.far HX.out.lt)
    have HA2 := Lib.hid (HA.out.trans (xx.far.mono HA.out.size))
    have HB2 := Lib.hid (Nat.le_trans HB1.out xx.far.size)
    have HS2 := Lib.hid (NetTo.same HW.out HA2.out)
    generalize xx.w = w2 at H2 HX2 HA2 HB2 HS2 ⊢
    clear H1 HX HA HB1 HS0 c17 nl x0 x1 x2 x3 xl P48
    have x0 := HX2.out.cell 0 rfl
    have x1 := HX2.out.cell 1 rfl
    have xl := HX2.out.lt
    have nl := H2.out.lt
    go_wp2_with (go_at_call 26; refine (take_c H2.out HB2.out k (by have := HKM.out; have := HM.out; omega)).mono ?_; rintro e w3 ⟨rfl, hn⟩; have HN := Lib.hid hn; clear hn)
    exact bodyPost_ret (v := .int .i64 0) (by simp [results, Try.results6, go_sem]) rfl ⟨by rw [HE.out], by
        rw [show doS D S 5 (k : Int) b c = Nw.take S k from if_neg (by rw [HE.out]; simp)]
        exact NetTo.before (Touch.of_below HA2.out) HN.out⟩
set_option maxRecDepth 100000 in
set_option maxHeartbeats 8000000 in
theorem do_6 {w : World} {B n base : Nat} {col : Nat → Nat} {D : Dl} {M : Mem} {S : St} (h : NetAt w B n col base D M S) (hB : B ≤ w.heap.size) (hfr : ∀ k, w.heap.size ≤ k → ¬ NetOwn col base k) {K : Int} (ho : OkA K D S) (a b c : Int)  :
    Calls Try.prog 6 #[.pointer (some ⟨n, 0, none⟩), .agg #[.int .i64 6, .int .i64 a, .int .i64 b, .int .i64 c]] w fun e w' => e = .returned (.int .i64 (doE D S 6 a b c)) ∧ NetTo w B n col base D (doS D S 6 a b c) w' := by
  have HFR := Lib.hid hfr
  have HO := Lib.hid ho
  have HW := Lib.hid h
  have al := (Below.refl w.heap.size w).alloc (Nat.le_refl _) (.cells #[.int .i64 6, .int .i64 a, .int .i64 b, .int .i64 c] 35)
  have HX := Lib.hid (Blk.new' w #[.int .i64 6, .int .i64 a, .int .i64 b, .int .i64 c] 35)
  have H1 := Lib.hid (h.below al)
  have HA := Lib.hid al
  have HB1 := Lib.hid (Nat.le_trans hB al.size)
  have HS0 := Lib.hid (NetTo.same HW.out HA.out)
  clear hfr ho h hB al
  obtain ⟨m, hm⟩ : ∃ m, m = S.fl.length := ⟨_, rfl⟩
  have HM := Lib.hid hm
  have hm6 : m ≤ 1000000 := by rw [hm]; exact HO.out.fl
  have hwr : IntKind.i64.wrap ((m : Int) - 1) = (m : Int) - 1 := IntWalk.i64_in _ (by omega)
  have hwr2 : wrap64 ((m : Int) - 1) = (m : Int) - 1 := by rw [← IntWalk.i64_left]; exact hwr
  clear hm
  have HE0 := Lib.hid (show doE D S 6 a b c = if Cv.inB a 0 ((m : Int) - 1) = false then 3 else 0 by rw [HM.out]; rfl)
  cases hib : Cv.inB a 0 ((m : Int) - 1) with
  | false =>
    have HE := Lib.hid (show doE D S 6 a b c = 3 by rw [HE0.out, hib]; rfl)
    have P48 : ∀ V, Calls Try.prog 23 #[.int .i64 a, .int .i64 0, .int .i64 ((m : Int) - 1)] V fun e w' => e = .returned (.bool false) ∧ V = w' := fun V => by have := within_c a 0 ((m : Int) - 1) V; rwa [hib] at this
    clear hib
    go_enter Try.func6, Try.ntmps6
    go_upto_region 1 with fail
    generalize w.alloc (.cells #[.int .i64 6, .int .i64 a, .int .i64 b, .int .i64 c] 35) = w1 at *
    obtain ⟨gx, hgx⟩ : ∃ gx, gx = w.heap.size := ⟨_, rfl⟩
    rw [← hgx] at HX ⊢
    have HGX := Lib.hid hgx
    clear hgx
    have x0 := HX.out.cell 0 rfl
    have x1 := HX.out.cell 1 rfl
    have x2 := HX.out.cell 2 rfl
    have x3 := HX.out.cell 3 rfl
    have xl := HX.out.lt
    have nl := H1.out.lt
    go_upto_region 18 with (go_at_call 20; refine (validN_c H1.out).mono ?_; rintro e w2 ⟨rfl, rfl⟩)
    have c17 := H1.out.blk.cell 17 rfl
    rw [← HM.out] at c17
    refine wp_region_past (by kernel_rfl) (by kernel_rfl) ?_
    repeat (go_big_quiet_step ((go_at_call 23; exact past_same (P48 _))))
    refine wpQuiet_nil ?_
    intro xx
    have H2 := Lib.hid (H1.out.below xx.far)
    have HX2 := Lib.hid (HX.out.below xx.far HX.out.lt)
    have HA2 := Lib.hid (HA.out.trans (xx.far.mono HA.out.size))
    have HB2 := Lib.hid (Nat.le_trans HB1.out xx.far.size)
    have HS2 := Lib.hid (NetTo.same HW.out HA2.out)
    generalize xx.w = w2 at H2 HX2 HA2 HB2 HS2 ⊢
    clear H1 HX HA HB1 HS0 c17 nl x0 x1 x2 x3 xl P48
    go_wp2_with fail
    have HS0 := HS2
    exact bodyPost_ret (v := .int .i64 3) (by simp [results, Try.results6, go_sem]) rfl ⟨by rw [HE.out], by rw [doS_no HE.out (by decide)]; exact HS0.out⟩
  | true =>
    have P48 : ∀ V, Calls Try.prog 23 #[.int .i64 a, .int .i64 0, .int .i64 ((m : Int) - 1)] V fun e w' => e = .returned (.bool true) ∧ V = w' := fun V => by have := within_c a 0 ((m : Int) - 1) V; rwa [hib] at this
    have HE := Lib.hid (show doE D S 6 a b c = 0 by rw [HE0.out, hib]; rfl)
    have hin := inB_yes hib
    clear hib
    obtain ⟨k, hk⟩ : ∃ k : Nat, a = k := ⟨a.toNat, by omega⟩
    subst hk
    have HKM := Lib.hid (show k < m by omega)
    have hki : (k : Int) < (m : Int) := by omega
    clear hin
    by_cases h200 : m < 200
    · have d2 : decide ((m : Int) < 200) = true := decide_eq_true (by omega)
      have H200 := Lib.hid h200
      clear h200
      go_enter Try.func6, Try.ntmps6
      go_upto_region 1 with fail
      generalize w.alloc (.cells #[.int .i64 6, .int .i64 k, .int .i64 b, .int .i64 c] 35) = w1 at *
      obtain ⟨gx, hgx⟩ : ∃ gx, gx = w.heap.size := ⟨_, rfl⟩
      rw [← hgx] at HX ⊢
      have HGX := Lib.hid hgx
      clear hgx
      have x0 := HX.out.cell 0 rfl
      have x1 := HX.out.cell 1 rfl
      have x2 := HX.out.cell 2 rfl
      have x3 := HX.out.cell 3 rfl
      have xl := HX.out.lt
      have nl := H1.out.lt
      go_upto_region 18 with (go_at_call 20; refine (validN_c H1.out).mono ?_; rintro e w2 ⟨rfl, rfl⟩)
      have c17 := H1.out.blk.cell 17 rfl
      rw [← HM.out] at c17
      refine wp_region_past (by kernel_rfl) (by kernel_rfl) ?_
      repeat (go_big_quiet_step ((go_at_call 23; exact past_same (P48 _))))
      refine wpQuiet_nil ?_
      intro xx
      have H2 := Lib.hid (H1.out.below xx.far)
      have HX2 := Lib.hid (HX.out.below xx.far HX.out.lt)
      have HA2 := Lib.hid (HA.out.trans (xx.far.mono HA.out.size))
      have HB2 := Lib.hid (Nat.le_trans HB1.out xx.far.size)
      have HS2 := Lib.hid (NetTo.same HW.out HA2.out)
      generalize xx.w = w2 at H2 HX2 HA2 HB2 HS2 ⊢
      clear H1 HX HA HB1 HS0 c17 nl x0 x1 x2 x3 xl P48
      have x0 := HX2.out.cell 0 rfl
      have x1 := HX2.out.cell 1 rfl
      have xl := HX2.out.lt
      have nl := H2.out.lt
      have c17 := H2.out.blk.cell 17 rfl
      rw [← HM.out] at c17
      go_upto_region 26 with fail
      clear c17 x0 x1 xl nl d2
      obtain ⟨s, hs⟩ : ∃ s, s = S.fl.getD k default := ⟨_, rfl⟩
      have hka := getElem_D S.fl k default (show k < S.fl.length by have := HKM.out; have := HM.out; omega)
      rw [← hs] at hka
      have HS := Lib.hid hs
      have HKA := Lib.hid hka
      obtain ⟨g, hA, hBg, hgl, hcap, hcm⟩ := HW.out.flR.form (by have := HKM.out; have := HM.out; omega)
      have HFA := Lib.hid hA
      have hmc : m ≤ M.fc := by rw [HM.out]; exact hcap
      clear hs hka hA hBg hgl hcap
      obtain ⟨i0, hi0, hz0, hz1, hz2⟩ := info_parts info180
      have HI := Lib.hid hi0
      have HZ0 := Lib.hid hz0
      have HZ1 := Lib.hid hz1
      have HZ2 := Lib.hid hz2
      clear hi0 hz0 hz1 hz2
      refine wp_region_spine 12 [true, false] [0] ?af10 (fun V => NetAt V B n col base D M S ∧ Below w2.heap.size w2 V) (by kernel_rfl) (by kernel_rfl) ⟨H2.out.below ((Below.refl _ _).drew), (Below.refl _ _).drew⟩ ?walk10 ?spine10
      case walk10 =>
        rintro V ⟨h1, _⟩
        have c17 := h1.blk.cell 17 rfl
        rw [← HM.out, HFA.out] at c17
        have nl := h1.lt
        have hf := h1.flR
        rw [HFA.out] at hf
        obtain ⟨e0, e1, e2, e3, e4, e5, e6, e7, e8⟩ := snC hf HKA.out
        have gl := hf.lt.2
        clear hf h1
        simp only [List.take_succ_cons, List.take_zero]
        repeat (go_big_quiet_step (fail))
        refine wpQuiet_nil ?_
        rfl
      case spine10 =>
        rintro V ⟨h1, h3⟩
        have HV := Lib.hid h1
        have HWV := Lib.hid h3
        clear h1 h3
        refine spineV_cons ?_
        refine stepV_new (.cells #[.int .i64 s.l, .bool s.p.has, .int .i64 s.p.nu, .int .i64 s.p.nt.k, .int .i64 s.p.nt.s, .int .i64 s.p.nt.a, .int .i64 s.p.nt.b, .int .i64 s.p.nt.c, .int .i64 s.p.ak] 95) (fun b => .slice (some ⟨b, 0, none⟩) 1 1) (fun _ => by kernel_rfl) ?_
        have al := (Below.refl V.heap.size V).alloc (Nat.le_refl _) (.cells #[.int .i64 s.l, .bool s.p.has, .int .i64 s.p.nu, .int .i64 s.p.nt.k, .int .i64 s.p.nt.s, .int .i64 s.p.nt.a, .int .i64 s.p.nt.b, .int .i64 s.p.nt.c, .int .i64 s.p.ak] 95)
        have HV2 := Lib.hid (HV.out.below al)
        have HW2 := Lib.hid (HWV.out.trans (al.mono HWV.out.size))
        have HR := Lib.hid (Blk.new' V #[.int .i64 s.l, .bool s.p.has, .int .i64 s.p.nu, .int .i64 s.p.nt.k, .int .i64 s.p.nt.s, .int .i64 s.p.nt.a, .int .i64 s.p.nt.b, .int .i64 s.p.nt.c, .int .i64 s.p.ak] 95)
        refine ⟨fun _ => ⟨HV2.out, HW2.out⟩, ?_⟩
        generalize V.alloc (.cells #[.int .i64 s.l, .bool s.p.has, .int .i64 s.p.nu, .int .i64 s.p.nt.k, .int .i64 s.p.nt.s, .int .i64 s.p.nt.a, .int .i64 s.p.nt.b, .int .i64 s.p.nt.c, .int .i64 s.p.ak] 95) = V2 at HV2 HW2 HR ⊢
        generalize V.heap.size = ga at *
        clear al HV HWV
        (try simp only [Act.put, List.setIfInBounds_toArray, List.set_cons_zero, List.set_cons_succ])
        refine spineV_cons ?_
        refine stepV_append (.tmp 80) (.tmp 88) 40 rfl B 95 i0 (.agg #[.int .i64 0, .bool false, .int .i64 0, .int .i64 0, .int .i64 0, .int .i64 0, .int .i64 0, .int .i64 0, .int .i64 0]) 9 72 Try.underlying40 HI.out HZ0.out HZ1.out HZ2.out rfl (by decide) (some ⟨g, 0, none⟩) m M.fc (flatS S.fl) (by rfl) (by rw [HM.out, ← HFA.out]; exact HV2.out.fl) (some ⟨ga, 0, none⟩) 1 1 [.int .i64 s.l, .bool s.p.has, .int .i64 s.p.nu, .int .i64 s.p.nt.k, .int .i64 s.p.nt.s, .int .i64 s.p.nt.a, .int .i64 s.p.nt.b, .int .i64 s.p.nt.c, .int .i64 s.p.ak] (by rfl) (by rfl) (.inr ⟨_, rfl, ?_⟩) (by simp [Value.oneCell']) (by have := H200.out; unfold maxLen; omega) (by have := H200.out; omega) (Nat.le_trans HV2.out.bB (Nat.le_of_lt HV2.out.lt)) ?_
        · intro j u hu
          have := HR.out.cell j hu
          rwa [show ((⟨ga, 0, none⟩ : Addr).add j) = ⟨ga, j, none⟩ from (by unfold Addr.add; split <;> simp_all)]
        intro A' cap' w' hown hgr hnr
        rw [← HFA.out] at hgr hnr
        refine ⟨fun h => absurd h (by decide), ?_⟩
        have hTg := grown_touch hgr
        have hne : ¬ OwnB M.fA n := fun e => by have h1 := H2.out.fc n e; rw [H2.out.c0] at h1; omega
        have HBn := Lib.hid (HV2.out.blk.touch hTg hne)
        have HTn := Lib.hid ((Touch.of_below (S := fun k => k = n ∨ OwnB M.fA k) HW2.out).then hTg (fun k e => .inl (.inr e)))
        have HOn := Lib.hid (show OwnR Nw.Sn.vals 95 9 B w' A' cap' (S.fl ++ [s]) by
          unfold OwnR
          rw [List.length_append, ← HM.out, flatM_append]
          exact hown)
        have HNn := Lib.hid (fun k (hk : OwnB A' k) => (hnr k hk).imp id (fun (e : k = V2.heap.size) => (by rw [e]; exact HW2.out.size : w2.heap.size ≤ k)))
        have HNA := Lib.hid (show ¬ OwnB A' n from fun e => by
          rcases hnr n e with e | e
          · exact hne e
          · have := HV2.out.lt; omega)
        clear hown hgr hnr hTg hne HV2 HW2 HR
        refine spineV_nil ?_
        (try simp only [Act.put, List.setIfInBounds_toArray, List.set_cons_zero, List.set_cons_succ])
        have nl := HBn.out.lt
        have c17 := HBn.out.cell 17 rfl
        have f17 := HBn.out.free 17
        (try simp only [List.drop_succ_cons, List.drop_zero])
        have hN : NetTo w2 B n col base D { S with fl := S.fl ++ [s] } (w'.setCell ⟨n, 17, none⟩ (.slice A' (m + 1) cap')) := by
          have HTf : Touch (fun k => k = n) w' (w'.setCell ⟨n, 17, none⟩ (.slice A' (m + 1) cap')) := (Touch.refl _ _).put 17 _
          refine H2.out.toFl (OwnR.touch HOn.out HTf (fun k hk e => HNA.out (e ▸ hk))) (HTn.out.then HTf (fun k e => .inl (.inl e))) (by
            have := HBn.out.setCell 17 (.slice A' (m + 1) cap')
            rw [List.length_append, ← HM.out]
            exact this) HNn.out
        have HN := Lib.hid hN
        clear hN
        go_wp2_with fail
        exact bodyPost_ret (v := .int .i64 0) (by simp [results, Try.results6, go_sem]) rfl ⟨by rw [HE.out], by
              rw [show doS D S 6 (k : Int) b c = { S with fl := S.fl ++ [s] } from (if_neg (by rw [HE.out]; simp)).trans ((show _ = if S.fl.length < 200 then ({ S with fl := S.fl ++ [S.fl.getD ((k : Int)).toNat default] } : St) else S from rfl).trans (by rw [if_pos (by have := HM.out; have := H200.out; omega), Int.toNat_natCast, ← HS.out]))]
              exact NetTo.before (Touch.of_below HA2.out) HN.out⟩
    · have d2 : decide ((m : Int) < 200) = false := decide_eq_false (by omega)
      have H200 := Lib.hid h200
      clear h200
      go_enter Try.func6, Try.ntmps6
      go_upto_region 1 with fail
      generalize w.alloc (.cells #[.int .i64 6, .int .i64 k, .int .i64 b, .int .i64 c] 35) = w1 at *
      obtain ⟨gx, hgx⟩ : ∃ gx, gx = w.heap.size := ⟨_, rfl⟩
      rw [← hgx] at HX ⊢
      have HGX := Lib.hid hgx
      clear hgx
      have x0 := HX.out.cell 0 rfl
      have x1 := HX.out.cell 1 rfl
      have x2 := HX.out.cell 2 rfl
      have x3 := HX.out.cell 3 rfl
      have xl := HX.out.lt
      have nl := H1.out.lt
      go_upto_region 18 with (go_at_call 20; refine (validN_c H1.out).mono ?_; rintro e w2 ⟨rfl, rfl⟩)
      have c17 := H1.out.blk.cell 17 rfl
      rw [← HM.out] at c17
      refine wp_region_past (by kernel_rfl) (by kernel_rfl) ?_
      repeat (go_big_quiet_step ((go_at_call 23; exact past_same (P48 _))))
      refine wpQuiet_nil ?_
      intro xx
      have H2 := Lib.hid (H1.out.below xx.far)
      have HX2 := Lib.hid (HX.out.below xx.far HX.out.lt)
      have HA2 := Lib.hid (HA.out.trans (xx.far.mono HA.out.size))
      have HB2 := Lib.hid (Nat.le_trans HB1.out xx.far.size)
      have HS2 := Lib.hid (NetTo.same HW.out HA2.out)
      generalize xx.w = w2 at H2 HX2 HA2 HB2 HS2 ⊢
      clear H1 HX HA HB1 HS0 c17 nl x0 x1 x2 x3 xl P48
      have x0 := HX2.out.cell 0 rfl
      have x1 := HX2.out.cell 1 rfl
      have xl := HX2.out.lt
      have nl := H2.out.lt
      have c17 := H2.out.blk.cell 17 rfl
      rw [← HM.out] at c17
      go_wp2_with fail
      exact bodyPost_ret (v := .int .i64 0) (by simp [results, Try.results6, go_sem]) rfl ⟨by rw [HE.out], by
            rw [show doS D S 6 (k : Int) b c = S from (if_neg (by rw [HE.out]; simp)).trans ((show _ = if S.fl.length < 200 then ({ S with fl := S.fl ++ [S.fl.getD ((k : Int)).toNat default] } : St) else S from rfl).trans (if_neg (by have := HM.out; have := H200.out; omega)))]
            exact HS2.out⟩
set_option maxRecDepth 100000 in
set_option maxHeartbeats 8000000 in
theorem do_7 {w : World} {B n base : Nat} {col : Nat → Nat} {D : Dl} {M : Mem} {S : St} (h : NetAt w B n col base D M S) (hB : B ≤ w.heap.size) (hfr : ∀ k, w.heap.size ≤ k → ¬ NetOwn col base k) {K : Int} (ho : OkA K D S) (a b c : Int)  :
    Calls Try.prog 6 #[.pointer (some ⟨n, 0, none⟩), .agg #[.int .i64 7, .int .i64 a, .int .i64 b, .int .i64 c]] w fun e w' => e = .returned (.int .i64 (doE D S 7 a b c)) ∧ NetTo w B n col base D (doS D S 7 a b c) w' := by
  have HFR := Lib.hid hfr
  have HO := Lib.hid ho
  have HW := Lib.hid h
  have al := (Below.refl w.heap.size w).alloc (Nat.le_refl _) (.cells #[.int .i64 7, .int .i64 a, .int .i64 b, .int .i64 c] 35)
  have HX := Lib.hid (Blk.new' w #[.int .i64 7, .int .i64 a, .int .i64 b, .int .i64 c] 35)
  have H1 := Lib.hid (h.below al)
  have HA := Lib.hid al
  have HB1 := Lib.hid (Nat.le_trans hB al.size)
  have HS0 := Lib.hid (NetTo.same HW.out HA.out)
  clear hfr ho h hB al
  go_enter Try.func6, Try.ntmps6
  go_upto_region 1 with fail
  generalize w.alloc (.cells #[.int .i64 7, .int .i64 a, .int .i64 b, .int .i64 c] 35) = w1 at *
  obtain ⟨gx, hgx⟩ : ∃ gx, gx = w.heap.size := ⟨_, rfl⟩
  rw [← hgx] at HX ⊢
  have HGX := Lib.hid hgx
  clear hgx
  have x0 := HX.out.cell 0 rfl
  have x1 := HX.out.cell 1 rfl
  have x2 := HX.out.cell 2 rfl
  have x3 := HX.out.cell 3 rfl
  have xl := HX.out.lt
  have nl := H1.out.lt
  obtain ⟨m, hm⟩ : ∃ m, m = S.ac.length := ⟨_, rfl⟩
  have HM := Lib.hid hm
  have hm6 : m ≤ 1000000 := by rw [hm]; exact HO.out.ac
  clear hm
  have HR := Lib.hid H1.out.acR
  have c54 := H1.out.blk.cell 54 rfl
  rw [← HM.out] at c54
  go_upto_region 30 with (go_at_call 20; refine (validN_c H1.out).mono ?_; rintro e w2 ⟨rfl, rfl⟩)
  obtain ⟨lo, hlo⟩ : ∃ lo, lo = lastO S.ac 0 := ⟨_, rfl⟩
  have HLO := Lib.hid hlo
  have HE0 := Lib.hid (show doE D S 7 a b c = if lo = 0 then 10 else if Nw.busy S 3 then 11 else 0 by rw [hlo]; rfl)
  clear hlo
  go_loopw [6, 100] (fun v6 v100 wr => ∃ k : Nat, k ≤ m ∧ v6 = .int .i64 (lastO (S.ac.take k) 0) ∧ v100 = .int .i64 k ∧ Hid (Below w1.heap.size w1 wr)) (fun _ v _ => m - (intOf v).toNat)
  case atStart => exact ⟨0, Nat.zero_le _, rfl, rfl, Lib.hid (Below.refl _ _)⟩
  case round =>
    obtain ⟨k, hk, rfl, rfl, HBR⟩ := hrel
    have H2 := Lib.hid (H1.out.below HBR.out)
    have HX2 := Lib.hid (HX.out.below HBR.out HX.out.lt)
    have HA2 := Lib.hid (HA.out.trans (HBR.out.mono HA.out.size))
    have HB2 := Lib.hid (Nat.le_trans HB1.out HBR.out.size)
    have HR2 := Lib.hid H2.out.acR
    clear c54 nl x0 x1 x2 x3 xl
    obtain ⟨lk, hlk⟩ : ∃ lk, lk = lastO (S.ac.take k) 0 := ⟨_, rfl⟩
    rw [← hlk]
    have HLK := Lib.hid hlk
    clear hlk
    by_cases hlt : k < m
    · obtain ⟨g, hA, hBg, hgl, hcap, hcm⟩ := HR.out.form (by have := HM.out; omega)
      rw [hA] at HR2 ⊢
      have hka : S.ac[k]? = some (S.ac.getD k default) := getElem_D S.ac k default (by have := HM.out; omega)
      obtain ⟨a0, a1, a2, a3, a4, a5⟩ := acC HR2.out hka
      have gl := HR2.out.lt.2
      generalize hx : S.ac.getD k default = x at a0 a1 a2 a3 a4 a5 hka
      have HNX := Lib.hid (show lastO (S.ac.take (k + 1)) 0 = if x.op then x.bl.s else lk by rw [HLK.out]; exact lastO_succ hka 0)
      have hmc : m ≤ M.ac := by rw [HM.out]; exact hcap
      have hki : (k : Int) < (m : Int) := by omega
      clear hx hka hA hBg hcap hgl
      generalize hxo : x.op = xo at a4 HNX
      clear hxo
      go_upto_region 32 with fail
      have HY := Lib.hid (Blk.new' wr #[.int .i64 x.bl.s, .int .i64 x.bl.i, .int .i64 x.bl.b, .int .i64 x.bl.a, .bool xo, .bool x.dn] 100)
      have HB3 := Lib.hid (HBR.out.alloc HBR.out.size (.cells #[.int .i64 x.bl.s, .int .i64 x.bl.i, .int .i64 x.bl.b, .int .i64 x.bl.a, .bool xo, .bool x.dn] 100))
      clear a0 a1 a2 a3 a4 a5 gl
      generalize wr.alloc (.cells #[.int .i64 x.bl.s, .int .i64 x.bl.i, .int .i64 x.bl.b, .int .i64 x.bl.a, .bool xo, .bool x.dn] 100) = w3 at HY HB3 ⊢
      generalize wr.heap.size = gy at HY ⊢
      have y0 := HY.out.cell 0 rfl
      have y4 := HY.out.cell 4 rfl
      have yl := HY.out.lt
      cases xo with
      | true =>
        go_wp2_with fail
        exact ⟨⟨k + 1, by omega, by rw [HNX.out]; rfl, by simp, HB3⟩, by simp only [intOf]; omega⟩
      | false =>
        go_wp2_with fail
        exact ⟨⟨k + 1, by omega, by rw [HNX.out]; rfl, by simp, HB3⟩, by simp only [intOf]; omega⟩
    · obtain rfl : k = m := by omega
      have HLL := Lib.hid (show lk = lo by rw [HLK.out, HLO.out, HM.out, List.take_length])
      rw [HLL.out]
      clear hlt
      have nl := H2.out.lt
      have xl := HX2.out.lt
      have HS2 := Lib.hid (NetTo.same HW.out HA2.out)
      by_cases h0 : lo = 0
      · have HE := Lib.hid (show doE D S 7 a b c = 10 by rw [HE0.out, if_pos h0])
        have d0 : (lo == 0) = true := by simpa using h0
        clear h0
        go_wp2_with fail
        have HS0 := HS2
        exact bodyPost_ret (v := .int .i64 10) (by simp [results, Try.results6, go_sem]) rfl ⟨by rw [HE.out], by rw [doS_no HE.out (by decide)]; exact HS0.out⟩
      · have d0 : (lo == 0) = false := by simpa using h0
        have d1 : decide (lo = 0) = false := decide_eq_false h0
        have PB := Lib.hid (busy_c H2.out 3 (by omega))
        cases hb : Nw.busy S 3 with
        | true =>
          have HE := Lib.hid (show doE D S 7 a b c = 11 by rw [HE0.out, if_neg h0, hb]; rfl)
          rw [hb] at PB
          clear hb h0
          go_wp2_with (go_at_call 27; refine PB.out.mono ?_; rintro e w2 ⟨rfl, rfl⟩)
          have HS0 := HS2
          exact bodyPost_ret (v := .int .i64 11) (by simp [results, Try.results6, go_sem]) rfl ⟨by rw [HE.out], by rw [doS_no HE.out (by decide)]; exact HS0.out⟩
        | false =>
          have HE := Lib.hid (show doE D S 7 a b c = 0 by rw [HE0.out, if_neg h0, hb]; rfl)
          rw [hb] at PB
          clear hb h0
          go_wp2_with (first | (go_at_call 27; refine PB.out.mono ?_; rintro e w2 ⟨rfl, rfl⟩) | (go_at_call 28; refine (tell_c H2.out HB2.out 3 (by omega) ⟨13, lo, 0, 0, 0⟩).mono ?_; rintro e w4 ⟨rfl, hn⟩; have HN := Lib.hid hn; clear hn))
          exact bodyPost_ret (v := .int .i64 0) (by simp [results, Try.results6, go_sem]) rfl ⟨by rw [HE.out], by
            rw [show doS D S 7 a b c = Nw.tell S 3 ⟨13, lo, 0, 0, 0⟩ from (if_neg (by rw [HE.out]; simp)).trans (by rw [HLO.out]; rfl)]
            exact NetTo.before (Touch.of_below HA2.out) HN.out⟩
set_option maxRecDepth 100000 in
set_option maxHeartbeats 8000000 in
theorem do_x {w : World} {B n base : Nat} {col : Nat → Nat} {D : Dl} {M : Mem} {S : St} (h : NetAt w B n col base D M S) (hB : B ≤ w.heap.size) (hfr : ∀ k, w.heap.size ≤ k → ¬ NetOwn col base k) {K : Int} (ho : OkA K D S) (k a b c : Int) (h1 : k ≠ 1) (h2 : k ≠ 2) (h3 : k ≠ 3) (h4 : k ≠ 4) (h5 : k ≠ 5) (h6 : k ≠ 6) (h7 : k ≠ 7) (h8 : k ≠ 8) (h9 : k ≠ 9) :
    Calls Try.prog 6 #[.pointer (some ⟨n, 0, none⟩), .agg #[.int .i64 k, .int .i64 a, .int .i64 b, .int .i64 c]] w fun e w' => e = .returned (.int .i64 (doE D S k a b c)) ∧ NetTo w B n col base D (doS D S k a b c) w' := by
  have HE := Lib.hid (show doE D S k a b c = 2 by unfold doE; simp only [h1, h2, h3, h4, h5, h6, h7, h8, h9, if_false, or_self])
  have b1 : (k == 1) = false := by simpa using h1
  have b2 : (k == 2) = false := by simpa using h2
  have b3 : (k == 3) = false := by simpa using h3
  have b4 : (k == 4) = false := by simpa using h4
  have b5 : (k == 5) = false := by simpa using h5
  have b6 : (k == 6) = false := by simpa using h6
  have b7 : (k == 7) = false := by simpa using h7
  have b8 : (k == 8) = false := by simpa using h8
  have b9 : (k == 9) = false := by simpa using h9
  clear h1 h2 h3 h4 h5 h6 h7 h8 h9
  have HFR := Lib.hid hfr
  have HO := Lib.hid ho
  have HW := Lib.hid h
  have al := (Below.refl w.heap.size w).alloc (Nat.le_refl _) (.cells #[.int .i64 k, .int .i64 a, .int .i64 b, .int .i64 c] 35)
  have HX := Lib.hid (Blk.new' w #[.int .i64 k, .int .i64 a, .int .i64 b, .int .i64 c] 35)
  have H1 := Lib.hid (h.below al)
  have HA := Lib.hid al
  have HB1 := Lib.hid (Nat.le_trans hB al.size)
  have HS0 := Lib.hid (NetTo.same HW.out HA.out)
  clear hfr ho h hB al
  go_enter Try.func6, Try.ntmps6
  go_upto_region 1 with fail
  generalize w.alloc (.cells #[.int .i64 k, .int .i64 a, .int .i64 b, .int .i64 c] 35) = w1 at *
  obtain ⟨gx, hgx⟩ : ∃ gx, gx = w.heap.size := ⟨_, rfl⟩
  rw [← hgx] at HX ⊢
  have HGX := Lib.hid hgx
  clear hgx
  have x0 := HX.out.cell 0 rfl
  have x1 := HX.out.cell 1 rfl
  have x2 := HX.out.cell 2 rfl
  have x3 := HX.out.cell 3 rfl
  have xl := HX.out.lt
  have nl := H1.out.lt
  go_wp2_with (go_at_call 20; refine (validN_c H1.out).mono ?_; rintro e w2 ⟨rfl, rfl⟩)
  exact bodyPost_ret (v := .int .i64 2) (by simp [results, Try.results6, go_sem]) rfl ⟨by rw [HE.out], by rw [doS_no HE.out (by decide)]; exact HS0.out⟩
set_option maxRecDepth 100000 in
set_option maxHeartbeats 8000000 in
theorem do_9 {w : World} {B n base : Nat} {col : Nat → Nat} {D : Dl} {M : Mem} {S : St} (h : NetAt w B n col base D M S) (hB : B ≤ w.heap.size) (hfr : ∀ k, w.heap.size ≤ k → ¬ NetOwn col base k) {K : Int} (ho : OkA K D S) (a b c : Int)  :
    Calls Try.prog 6 #[.pointer (some ⟨n, 0, none⟩), .agg #[.int .i64 9, .int .i64 a, .int .i64 b, .int .i64 c]] w fun e w' => e = .returned (.int .i64 (doE D S 9 a b c)) ∧ NetTo w B n col base D (doS D S 9 a b c) w' := by
  have HFR := Lib.hid hfr
  have HO := Lib.hid ho
  have HW := Lib.hid h
  have al := (Below.refl w.heap.size w).alloc (Nat.le_refl _) (.cells #[.int .i64 9, .int .i64 a, .int .i64 b, .int .i64 c] 35)
  have HX := Lib.hid (Blk.new' w #[.int .i64 9, .int .i64 a, .int .i64 b, .int .i64 c] 35)
  have H1 := Lib.hid (h.below al)
  have HA := Lib.hid al
  have HB1 := Lib.hid (Nat.le_trans hB al.size)
  have HS0 := Lib.hid (NetTo.same HW.out HA.out)
  clear hfr ho h hB al
  obtain ⟨m, hm⟩ : ∃ m, m = M.ct.length := ⟨_, rfl⟩
  have HM := Lib.hid hm
  have hmD : D.cn.length = m := by rw [hm, ← HW.out.cn, List.length_map]
  have hm16 : m ≤ 16 := by have := HO.out.c16; omega
  have HE0 := Lib.hid (show doE D S 9 a b c = if Cv.inB a 0 ((m : Int) - 1) = false then 3 else 0 by rw [← hmD]; rfl)
  have hwr : IntKind.i64.wrap ((m : Int) - 1) = (m : Int) - 1 := IntWalk.i64_in _ (by omega)
  have hwr2 : wrap64 ((m : Int) - 1) = (m : Int) - 1 := by rw [← IntWalk.i64_left]; exact hwr
  clear hm hmD hm16
  cases hib : Cv.inB a 0 ((m : Int) - 1) with
  | false =>
    have HE := Lib.hid (show doE D S 9 a b c = 3 by rw [HE0.out, hib]; rfl)
    have P48 : ∀ V, Calls Try.prog 23 #[.int .i64 a, .int .i64 0, .int .i64 ((m : Int) - 1)] V fun e w' => e = .returned (.bool false) ∧ V = w' := fun V => by have := within_c a 0 ((m : Int) - 1) V; rwa [hib] at this
    clear hib
    go_enter Try.func6, Try.ntmps6
    go_upto_region 1 with fail
    generalize w.alloc (.cells #[.int .i64 9, .int .i64 a, .int .i64 b, .int .i64 c] 35) = w1 at *
    obtain ⟨gx, hgx⟩ : ∃ gx, gx = w.heap.size := ⟨_, rfl⟩
    rw [← hgx] at HX ⊢
    have HGX := Lib.hid hgx
    clear hgx
    have x0 := HX.out.cell 0 rfl
    have x1 := HX.out.cell 1 rfl
    have x2 := HX.out.cell 2 rfl
    have x3 := HX.out.cell 3 rfl
    have xl := HX.out.lt
    have nl := H1.out.lt
    go_upto_region 43 with (go_at_call 20; refine (validN_c H1.out).mono ?_; rintro e w2 ⟨rfl, rfl⟩)
    have c4 := H1.out.blk.cell 4 rfl
    rw [← HM.out] at c4
    refine wp_region_past (by kernel_rfl) (by kernel_rfl) ?_
    repeat (go_big_quiet_step ((go_at_call 23; exact past_same (P48 _))))
    refine wpQuiet_nil ?_
    intro xx
    have H2 := Lib.hid (H1.out.below xx.far)
    have HX2 := Lib.hid (HX.out.below xx.far HX.out.lt)
    have HA2 := Lib.hid (HA.out.trans (xx.far.mono HA.out.size))
    have HB2 := Lib.hid (Nat.le_trans HB1.out xx.far.size)
    have HS2 := Lib.hid (NetTo.same HW.out HA2.out)
    generalize xx.w = w2 at H2 HX2 HA2 HB2 HS2 ⊢
    clear H1 HX HA HB1 HS0 c4 nl x0 x1 x2 x3 xl P48
    go_wp2_with fail
    have HS0 := HS2
    exact bodyPost_ret (v := .int .i64 3) (by simp [results, Try.results6, go_sem]) rfl ⟨by rw [HE.out], by rw [doS_no HE.out (by decide)]; exact HS0.out⟩
  | true =>
    have HE := Lib.hid (show doE D S 9 a b c = 0 by rw [HE0.out, hib]; rfl)
    have HSD := Lib.hid (show doS D S 9 a b c = { S with pd := payL S a S.pb S.pd } from if_neg (by rw [HE.out]; simp))
    cases hbk : M.pb with
    | none =>
      have hl : S.pb = [] := by have := HW.out.pb; rw [hbk] at this; exact this
      have HS3 := Lib.hid (show doS D S 9 a b c = S by
        have e : payL S a S.pb S.pd = S.pd := by rw [hl]; rfl
        rw [HSD.out, e])
      have HBK := Lib.hid hbk
      clear hl hbk
      have P48 : ∀ V, Calls Try.prog 23 #[.int .i64 a, .int .i64 0, .int .i64 ((m : Int) - 1)] V fun e w' => e = .returned (.bool true) ∧ V = w' := fun V => by have := within_c a 0 ((m : Int) - 1) V; rwa [hib] at this
      clear hib
      go_enter Try.func6, Try.ntmps6
      go_upto_region 1 with fail
      generalize w.alloc (.cells #[.int .i64 9, .int .i64 a, .int .i64 b, .int .i64 c] 35) = w1 at *
      obtain ⟨gx, hgx⟩ : ∃ gx, gx = w.heap.size := ⟨_, rfl⟩
      rw [← hgx] at HX ⊢
      have HGX := Lib.hid hgx
      clear hgx
      have x0 := HX.out.cell 0 rfl
      have x1 := HX.out.cell 1 rfl
      have x2 := HX.out.cell 2 rfl
      have x3 := HX.out.cell 3 rfl
      have xl := HX.out.lt
      have nl := H1.out.lt
      go_upto_region 43 with (go_at_call 20; refine (validN_c H1.out).mono ?_; rintro e w2 ⟨rfl, rfl⟩)
      have c4 := H1.out.blk.cell 4 rfl
      rw [← HM.out] at c4
      refine wp_region_past (by kernel_rfl) (by kernel_rfl) ?_
      repeat (go_big_quiet_step ((go_at_call 23; exact past_same (P48 _))))
      refine wpQuiet_nil ?_
      intro xx
      have H2 := Lib.hid (H1.out.below xx.far)
      have HX2 := Lib.hid (HX.out.below xx.far HX.out.lt)
      have HA2 := Lib.hid (HA.out.trans (xx.far.mono HA.out.size))
      have HB2 := Lib.hid (Nat.le_trans HB1.out xx.far.size)
      have HS2 := Lib.hid (NetTo.same HW.out HA2.out)
      generalize xx.w = w2 at H2 HX2 HA2 HB2 HS2 ⊢
      clear H1 HX HA HB1 HS0 c4 nl x0 x1 x2 x3 xl P48
      have c56 := H2.out.blk.cell 56 rfl
      rw [HBK.out] at c56
      have nl := H2.out.lt
      have qr : (Instr.range 58 (.map none)).run Try.prog w2 = .ok (.pointer (some ⟨w2.heap.size, 0, none⟩)) (w2.alloc (.mapIter none 0 #[] 0)) := run_range_nilMap w2 58 3 98 Try.underlying58
      have qn : ∀ ty, (Instr.next (.pointer (some ⟨w2.heap.size, 0, none⟩)) false ty).run Try.prog (w2.alloc (.mapIter none 0 #[] 0)) = .ok (.tuple #[.bool false]) (w2.alloc (.mapIter none 0 #[] 0)) := fun ty => run_next_nilMap w2 ty 0 0 #[]
      go_wp2_with fail
      refine wp_loop_rounds 1 ?_
      rw [rounds_succ]
      go_wp2_with fail
      exact bodyPost_ret (v := .int .i64 0) (by simp [results, Try.results6, go_sem]) rfl ⟨by rw [HE.out], by rw [HS3.out]; exact HS2.out.below ((Below.refl _ _).alloc (Nat.le_refl _) _)⟩
    | some bk =>
      have HM0 := Lib.hid (show MpAt kI Nw.Bl.v w bk S.pb by have := HW.out.pb; rw [hbk] at this; exact this)
      have HBK := Lib.hid hbk
      have HCB := Lib.hid (HW.out.pbc bk hbk)
      clear hbk
      have P48 : ∀ V, Calls Try.prog 23 #[.int .i64 a, .int .i64 0, .int .i64 ((m : Int) - 1)] V fun e w' => e = .returned (.bool true) ∧ V = w' := fun V => by have := within_c a 0 ((m : Int) - 1) V; rwa [hib] at this
      clear hib
      go_enter Try.func6, Try.ntmps6
      go_upto_region 1 with fail
      generalize w.alloc (.cells #[.int .i64 9, .int .i64 a, .int .i64 b, .int .i64 c] 35) = w1 at *
      obtain ⟨gx, hgx⟩ : ∃ gx, gx = w.heap.size := ⟨_, rfl⟩
      rw [← hgx] at HX ⊢
      have HGX := Lib.hid hgx
      clear hgx
      have x0 := HX.out.cell 0 rfl
      have x1 := HX.out.cell 1 rfl
      have x2 := HX.out.cell 2 rfl
      have x3 := HX.out.cell 3 rfl
      have xl := HX.out.lt
      have nl := H1.out.lt
      go_upto_region 43 with (go_at_call 20; refine (validN_c H1.out).mono ?_; rintro e w2 ⟨rfl, rfl⟩)
      have c4 := H1.out.blk.cell 4 rfl
      rw [← HM.out] at c4
      refine wp_region_past (by kernel_rfl) (by kernel_rfl) ?_
      repeat (go_big_quiet_step ((go_at_call 23; exact past_same (P48 _))))
      refine wpQuiet_nil ?_
      intro xx
      have H2 := Lib.hid (H1.out.below xx.far)
      have HX2 := Lib.hid (HX.out.below xx.far HX.out.lt)
      have HA2 := Lib.hid (HA.out.trans (xx.far.mono HA.out.size))
      have HB2 := Lib.hid (Nat.le_trans HB1.out xx.far.size)
      have HS2 := Lib.hid (NetTo.same HW.out HA2.out)
      generalize xx.w = w2 at H2 HX2 HA2 HB2 HS2 ⊢
      clear H1 HX HA HB1 HS0 c4 nl x0 x1 x2 x3 xl P48
      have HM2 := Lib.hid (show MpAt kI Nw.Bl.v w2 bk S.pb by have := H2.out.pb; rw [HBK.out] at this; exact this)
      have c56 := H2.out.blk.cell 56 rfl
      rw [HBK.out] at c56
      have nl := H2.out.lt
      go_wp2_with (at_range; refine wpList_mrange _ rfl _ 58 rfl Try.underlying58 HM2.out rfl ?_; intro w0 hrg ht hs)
      go_frame
      have HR := Lib.hid hrg
      have HA3 := Lib.hid (show Below w2.heap.size w2 w0 from ⟨ht.os, ht.tape, ht.output, ht.size, fun k hk => ht.block k hk (fun e => e)⟩)
      have HZR := Lib.hid hs
      clear hrg ht hs c56 nl
      have HSZ := Lib.hid HA2.out.size
      have HGR := Lib.hid HX2.out.lt
      generalize hrr : w2.heap.size = r at HR HZR HSZ HGR ⊢
      have HRR0 := Lib.hid hrr
      clear hrr
      have HRN := Lib.hid (show ¬ NetOwn col base r from HFR.out r HSZ.out)
      have HGN := Lib.hid (show ¬ NetOwn col base gx from by rw [HGX.out]; exact HFR.out _ (Nat.le_refl _))
      have HPR := Lib.hid (show M.pd ≠ r from fun e => HRN.out (by have := HW.out.pdc; unfold NetOwn; rw [← e]; omega))
      have HPB := Lib.hid (show M.pd ≠ bk from fun e => by have h1 := HW.out.pdc; have h2 := HCB.out; rw [e] at h1; omega)
      have HTO := Lib.hid (show ∀ (pd1 pd2 : List (Int × Bool)) (W : World), NetAt W B n col base D M { S with pd := pd1 } → (∀ q, (mget q pd1).getD false = (mget q pd2).getD false) → NetAt W B n col base D M { S with pd := pd2 } from fun pd1 pd2 W h0 hq => by
        obtain ⟨l2, h1, h2⟩ := h0.pd
        exact h0.setPd (fun _ _ => rfl) (l' := pd2) ⟨l2, h1, fun q => (h2 q).trans (hq q)⟩ (Touch.refl _ _) h0.blk)
      go_loopw [9] (fun v9 wr => ∃ (l' : List (Int × Bool)) (rem : List (Int × Nw.Bl)), Hid (RgAt kI Nw.Bl.v wr bk r S.pb rem ∧ NetAt wr B n col base D M { S with pd := l' } ∧ Touch (NetOwn col base) w2 wr ∧ ∀ q, ((mget q l').getD false || rem.any (payB S a q)) = ((mget q S.pd).getD false || S.pb.any (payB S a q)))) (fun _ wr => wr.rangeLeft bk r)
      case atStart => exact ⟨S.pd, S.pb, Lib.hid ⟨HR.out, H2.out.below HA3.out, Touch.of_below HA3.out, fun _ => rfl⟩⟩
      case round =>
        obtain ⟨l', rem, HZ⟩ := hrel
        have HRR := Lib.hid HZ.out.1
        have HNN := Lib.hid HZ.out.2.1
        have HTT := Lib.hid HZ.out.2.2.1
        have HQQ := Lib.hid HZ.out.2.2.2
        have HRL := Lib.hid HRR.out.left
        clear HZ
        go_upto_region 47 with (at_next; refine wpList_mnext _ rfl _ rfl keyI vInj rfl HRR.out ?_ ?_)
        · intro hrem
          have HF := Lib.hid (HTO.out l' (payL S a S.pb S.pd) _ HNN.out (fun q => by
            have := HQQ.out q
            rw [hrem] at this
            rw [payL_like, ← this]
            simp))
          clear hrem
          go_wp2_with fail
          exact bodyPost_ret (v := .int .i64 0) (by simp [results, Try.results6, go_sem]) rfl ⟨by rw [HE.out], by rw [HSD.out]; exact ⟨col, M, fun _ _ => rfl, HF.out, (Touch.of_below HA2.out).trans HTT.out⟩⟩
        · intro p1 p2 rem' w3 hp hrg ht hs hen
          simp only [kI, Nw.Bl.v] at hen ⊢
          have HP := Lib.hid hp
          have HR3 := Lib.hid hrg
          have HN3 := Lib.hid (HNN.out.touch ht (fun k hk e => HRN.out (e ▸ hk)))
          have HT3 := Lib.hid (HTT.out.then ht (fun k e => .inr (by subst e; have := HRR0.out; omega)))
          have HX3 := Lib.hid (HX2.out.touch HT3.out HGN.out)
          clear hp hrg ht hs HRR HNN HTT
          go_upto_region 48 with fail
          clear hen
          have c57 := HN3.out.blk.cell 57 rfl
          have nl := HN3.out.lt
          have x1 := HX3.out.cell 1 rfl
          have xl := HX3.out.lt
          obtain ⟨pc, hpc⟩ : ∃ pc, pc = (mget p1 S.pc).getD 0 := ⟨_, rfl⟩
          have hq : ∀ y : Past w3, (Instr.lookup 76 (.map (some M.pc)) (.int .i64 p1) false).run Try.prog y.w = .ok (.int .i64 pc) y.w := fun y => by
            have := lookPc (HN3.out.below y.far).pc p1
            rw [show ({ S with pd := l' } : St).pc = S.pc from rfl, ← hpc] at this
            exact this
          have HPC := Lib.hid hpc
          clear hpc
          have HLEN : ∀ W, RgAt kI Nw.Bl.v W bk r S.pb rem' → W.rangeLeft bk r < wr.rangeLeft bk r := fun W hW => by
            rw [hW.left, HRL.out, HP.out.length_eq]
            exact Nat.lt_succ_self _
          have HLN := Lib.hid HLEN
          clear HLEN
          by_cases hc : pc = a
          · have k1 : (pc == a) = true := by simpa using hc
            have HC := Lib.hid hc
            clear hc
            refine wp_region_past (by kernel_rfl) (by kernel_rfl) ?_
            repeat (go_big_quiet_step (fail))
            refine wpQuiet_nil ?_
            intro xx
            have H4 := Lib.hid (HN3.out.below xx.far)
            have HT4 := Lib.hid (HT3.out.below xx.far)
            have HR4 := Lib.hid (HR3.out.touch (S := fun _ => False) (Touch.of_below xx.far) (fun e => e) (fun e => e))
            generalize xx.w = w4 at H4 HT4 HR4 ⊢
            clear HN3 HT3 HX3 HR3 c57 nl x1 xl hq
            obtain ⟨l2, hm2, hl2⟩ := H4.out.pd
            have HM5 := Lib.hid hm2
            have HL2 := Lib.hid hl2
            clear hm2 hl2
            have c58 := H4.out.blk.cell 58 rfl
            have nl := H4.out.lt
            go_wp2_with (at_mapUpdate; refine wpList_mput _ rfl _ _ _ 77 rfl keyI Try.underlying77 HM5.out rfl p1 rfl true rfl ?_; intro w5 hm5 ht5 hs5; have HM6 := Lib.hid hm5; have HT5 := Lib.hid ht5; clear hm5 ht5 hs5)
            have hNT : ∀ k, k = M.pd → col k = base + 17 := fun k e => by rw [e]; exact H4.out.pdc
            have HR5 := HR4.out.touch HT5.out (fun e => HPB.out e.symm) (fun e => HPR.out e.symm)
            refine ⟨⟨mput p1 true l', rem', Lib.hid ⟨HR5, ?_, HT4.out.trans (HT5.out.mono (fun k e => by have := hNT k e; unfold NetOwn; omega)), fun q => ?_⟩⟩, HLN.out _ HR5⟩
            · refine H4.out.setPd (S := { S with pd := l' }) (fun _ _ => rfl) (l' := mput p1 true l') ⟨mput p1 true l2, HM6.out, fun q => ?_⟩ (HT5.out.mono (fun k e => .inr (hNT k e))) (H4.out.blk.touch HT5.out (fun e => by have := hNT n e; rw [H4.out.c0] at this; omega))
              rw [mget_mput', mget_mput']
              split
              · rfl
              · exact HL2.out q
            · rw [← HQQ.out q, any_perm HP.out, List.any_cons, mget_mput']
              by_cases h2 : q = p1
              · rw [if_pos h2]
                have : payB S a q (p1, p2) = true := by unfold payB; exact decide_eq_true ⟨h2.symm, by rw [← HPC.out]; exact HC.out⟩
                rw [this]; simp
              · rw [if_neg h2]
                have : payB S a q (p1, p2) = false := by unfold payB; exact decide_eq_false (fun x => h2 x.1.symm)
                rw [this]; simp
          · have k1 : (pc == a) = false := by simpa using hc
            have HC := Lib.hid hc
            clear hc
            refine wp_region_past (by kernel_rfl) (by kernel_rfl) ?_
            repeat (go_big_quiet_step (fail))
            refine wpQuiet_nil ?_
            intro xx
            have H4 := Lib.hid (HN3.out.below xx.far)
            have HT4 := Lib.hid (HT3.out.below xx.far)
            have HR4 := Lib.hid (HR3.out.touch (S := fun _ => False) (Touch.of_below xx.far) (fun e => e) (fun e => e))
            generalize xx.w = w4 at H4 HT4 HR4 ⊢
            clear HN3 HT3 HX3 HR3 c57 nl x1 xl hq
            go_wp2_with fail
            refine ⟨⟨l', rem', Lib.hid ⟨HR4.out, H4.out, HT4.out, fun q => ?_⟩⟩, HLN.out _ HR4.out⟩
            rw [← HQQ.out q, any_perm HP.out, List.any_cons]
            have : payB S a q (p1, p2) = false := by unfold payB; exact decide_eq_false (fun x => HC.out (by rw [HPC.out]; exact x.2))
            rw [this]; simp
theorem Do_0 {w : World} {B n base : Nat} {col : Nat → Nat} {D : Dl} {M : Mem} {S : St} (h : NetAt w B n col base D M S) (hB : B ≤ w.heap.size) (hfr : ∀ k, w.heap.size ≤ k → ¬ NetOwn col base k) {K : Int} (ho : OkA K D S) (k a b c : Int) :
    Calls Try.prog 6 #[.pointer (some ⟨n, 0, none⟩), .agg #[.int .i64 k, .int .i64 a, .int .i64 b, .int .i64 c]] w fun e w' => e = .returned (.int .i64 (doE D S k a b c)) ∧ NetTo w B n col base D (doS D S k a b c) w' := by
  by_cases h1 : k = 1
  · subst h1; exact do_1 h hB hfr ho a b c
  by_cases h2 : k = 2
  · subst h2; exact do_2 h hB hfr ho a b c
  by_cases h3 : k = 3
  · subst h3; exact do_3 h hB hfr ho a b c
  by_cases h4 : k = 4
  · subst h4; exact do_4 h hB hfr ho a b c
  by_cases h5 : k = 5
  · subst h5; exact do_5 h hB hfr ho a b c
  by_cases h6 : k = 6
  · subst h6; exact do_6 h hB hfr ho a b c
  by_cases h7 : k = 7
  · subst h7; exact do_7 h hB hfr ho a b c
  by_cases h8 : k = 8
  · subst h8; exact do_8 h hB hfr ho a b c
  by_cases h9 : k = 9
  · subst h9; exact do_9 h hB hfr ho a b c
  exact do_x h hB hfr ho k a b c h1 h2 h3 h4 h5 h6 h7 h8 h9
theorem Do_c {w : World} {B n base : Nat} {col : Nat → Nat} {D : Dl} {M : Mem} {S : St} (h : NetAt w B n col base D M S) (hB : B ≤ w.heap.size) {K : Int} (ho : OkA K D S) (k a b c : Int) :
    Calls Try.prog 6 #[.pointer (some ⟨n, 0, none⟩), .agg #[.int .i64 k, .int .i64 a, .int .i64 b, .int .i64 c]] w fun e w' => e = .returned (.int .i64 (doE D S k a b c)) ∧ NetTo w B n col base D (doS D S k a b c) w' :=
  (Do_0 h.recol hB (fun k hk => fresh_not hk) ho k a b c).mono fun e w2 ⟨he, hn⟩ => ⟨he, hn.recol⟩
end Go.Proofs.Ytlklnaebdnahcaa
namespace Go.Proofs.Ytlklnaebdnahcaa
open Go.RowKit Nw
namespace Sx
theorem okC_ack0 {K : Int} {c : Cl} (h : OkC K c) {nu : Int} (hn : nu ≤ c.last) : OkC K (aI c nu) := by
  unfold aI
  split
  · rename_i hk
    exact ⟨by have := h.k0; show 0 ≤ nu; omega, hn, h.l1, fun y hy => h.ls y (List.mem_filter.1 hy).1, by
      have := h.ln
      have h2 := List.length_filter_le (fun l => !decide (l.n < nu)) c.L
      show ((c.L.filter (fun l => !decide (l.n < nu))).length : Int) ≤ K
      omega⟩
  · exact h
theorem oks_akS {K : Int} {cs : List Cl} (h : ∀ c ∈ cs, OkC K c) (s nu : Int) : ∀ c ∈ akS cs s nu, OkC K c := by
  unfold akS
  split
  · rename_i h0
    unfold akE at h0
    split at h0
    · rename_i hs
      unfold aE at h0
      split at h0
      · rename_i hn
        intro c hc
        rcases List.mem_or_eq_of_mem_set hc with hc | rfl
        · exact h c hc
        · exact okC_ack0 (h _ (by rw [List.getD_eq_getElem?_getD, List.getElem?_eq_getElem (by omega)]; exact List.getElem_mem _)) hn.2
      · cases h0
    · cases h0
  · exact h
theorem len_akS (cs : List Cl) (s nu : Int) : (akS cs s nu).length = cs.length := by unfold akS; split <;> simp
theorem oks_grS {K : Int} {cs : List Cl} (h : ∀ c ∈ cs, OkC K c) (D B N s dr bk un now : Int) : ∀ c ∈ grS cs D B N s dr bk un now, OkC (K + 1) c := by
  have hup : ∀ c ∈ cs, OkC (K + 1) c := fun c hc => by
    have := h c hc
    exact ⟨this.k0, this.k1, by have := this.l1; omega, this.ls, by have := this.ln; omega⟩
  unfold grS
  split
  · rename_i h0
    unfold grE at h0
    split at h0
    · rename_i hs
      unfold gE at h0
      split at h0
      · rename_i ha
        intro c hc
        unfold gS at hc
        rcases List.mem_or_eq_of_mem_set hc with hc | rfl
        · exact hup c hc
        · have hc0 := h (cs.getD s.toNat default) (by rw [List.getD_eq_getElem?_getD, List.getElem?_eq_getElem (by omega)]; exact List.getElem_mem _)
          exact ⟨hc0.k0, by have := hc0.k1; show (cs.getD s.toNat default).kn ≤ (cs.getD s.toNat default).last + 1; omega, by have := hc0.l1; show (cs.getD s.toNat default).last + 1 ≤ K + 1; omega, fun y hy => by
            rcases List.mem_append.1 hy with hy | hy
            · exact hc0.ls y hy
            · obtain rfl : y = _ := by simpa using hy
              exact ⟨ha.1, ha.2.1⟩, by have := hc0.ln; show ((((cs.getD s.toNat default).L ++ [_]).length : Nat) : Int) ≤ K + 1; rw [List.length_append]; simp only [List.length_cons, List.length_nil]; omega⟩
      · cases h0
    · cases h0
  · exact hup
theorem len_grS (cs : List Cl) (D B N s dr bk un now : Int) : (grS cs D B N s dr bk un now).length = cs.length := by unfold grS gS; split <;> simp
end Sx
structure Kp (S S' : St) : Prop where
  n : ∀ {K D}, OkN K D S → OkN K D S'
  fl : S'.fl = S.fl
  ac : S'.ac.length ≤ S.ac.length + 1
  cs : ∀ {K : Int}, (∀ c ∈ S.cs, Sx.OkC K c) → ∀ c ∈ S'.cs, Sx.OkC K c
  cl : S'.cs.length = S.cs.length
theorem Kp.same {S S' : St} (hL : S'.L = S.L) (hf : S'.fl = S.fl) (ha : S'.ac.length ≤ S.ac.length + 1) (hc : S'.cs = S.cs) : Kp S S' :=
  ⟨fun h => h.same hL hf, hf, ha, fun h => by rw [hc]; exact h, by rw [hc]⟩
theorem Kp.refl (S : St) : Kp S S := Kp.same rfl rfl (Nat.le_succ _) rfl
theorem Kp.tell {S S1 : St} (hL : S1.L = S.L) (hf : S1.fl = S.fl) (ha : S1.ac.length ≤ S.ac.length + 1) (hc : S1.cs = S.cs) (i : Nat) (x : Nt) : Kp S (Nw.tell S1 i x) :=
  ⟨fun h => (OkN.same (S' := S1) h hL hf).tell i x, hf, ha, fun h => by show ∀ c ∈ S1.cs, _; rw [hc]; exact h, by show S1.cs.length = _; rw [hc]⟩
theorem Kp.tell2 {S S1 : St} (hL : S1.L = S.L) (hf : S1.fl = S.fl) (ha : S1.ac.length ≤ S.ac.length + 1) (hc : S1.cs = S.cs) (i j : Nat) (x y : Nt) : Kp S (Nw.tell (Nw.tell S1 i x) j y) :=
  ⟨fun h => ((OkN.same (S' := S1) h hL hf).tell i x).tell j y, hf, ha, fun h => by show ∀ c ∈ S1.cs, _; rw [hc]; exact h, by show S1.cs.length = _; rw [hc]⟩
theorem Kp.fin (S : St) : Kp S (Nw.fin S) :=
  ⟨fun h => (OkN.record h 11).same rfl rfl, rfl, Nat.le_succ _, fun h => h, rfl⟩
theorem Kp.heard (D : Dl) (S : St) (i : Int) (x : Nt) : Kp S (Nw.heard D S i x) := by
  have R := Kp.refl S
  have L := Nat.le_succ S.ac.length
  unfold Nw.heard
  split
  · split
    · unfold offered; split
      · (refine Kp.same ?_ ?_ ?_ ?_ <;> first | rfl | exact L)
      · exact R
    split
    · unfold rejected; split
      · (refine Kp.same ?_ ?_ ?_ ?_ <;> first | rfl | exact L)
      · exact R
    split
    · (refine Kp.same ?_ ?_ ?_ ?_ <;> first | rfl | exact L)
    · exact R
  split
  · split
    · unfold plugged; split
      · (refine Kp.tell ?_ ?_ ?_ ?_ _ _ <;> first | rfl | exact L)
      · (refine Kp.tell ?_ ?_ ?_ ?_ _ _ <;> first | rfl | exact L)
    · exact R
  split
  · split
    · unfold refused; split
      · (refine Kp.tell ?_ ?_ ?_ ?_ _ _ <;> first | rfl | exact L)
      · exact R
    split
    · unfold started; split
      · split
        · exact Kp.fin S
        · (refine Kp.tell ?_ ?_ ?_ ?_ _ _ <;> first | rfl | exact L)
      · exact R
    split
    · unfold acked; split
      · (refine Kp.same ?_ ?_ ?_ ?_ <;> first | rfl | exact L)
      · exact R
    split
    · unfold halted; split
      · exact Kp.fin S
      · exact R
    split
    · unfold closed; split
      · (refine Kp.tell ?_ ?_ ?_ ?_ _ _ <;> first | rfl | exact L)
      · exact R
    split
    · (refine Kp.tell ?_ ?_ ?_ ?_ _ _ <;> first | rfl | exact L)
    · exact R
  split
  · split
    · unfold asked; split
      · (refine Kp.tell ?_ ?_ ?_ ?_ _ _ <;> first | rfl | (show (S.ac ++ [_]).length ≤ _; simp))
      · (refine Kp.tell ?_ ?_ ?_ ?_ _ _ <;> first | rfl | exact L)
    split
    · unfold recorded
      split
      · exact R
      · split
        · (refine Kp.tell ?_ ?_ ?_ ?_ _ _ <;> first | rfl | (show (S.ac.set _ _).length ≤ _; simp))
        · (refine Kp.tell2 ?_ ?_ ?_ ?_ _ _ _ _ <;> first | rfl | (show (S.ac.set _ _).length ≤ _; simp))
    split
    · exact ⟨fun h => h.same rfl rfl, rfl, L, fun h => Sx.oks_akS h 0 _, Sx.len_akS _ _ _⟩
    · exact R
  split
  · split
    · (refine Kp.tell ?_ ?_ ?_ ?_ _ _ <;> first | rfl | exact L)
    split
    · unfold denied
      split
      · (refine Kp.tell ?_ ?_ ?_ ?_ _ _ <;> first | rfl | exact L)
      · (refine Kp.tell ?_ ?_ ?_ ?_ _ _ <;> first | rfl | (show (S.ac.set _ _).length ≤ _; simp))
    · exact R
  split
  · split
    · unfold checked; split
      · (refine Kp.tell ?_ ?_ ?_ ?_ _ _ <;> first | rfl | exact L)
      · (refine Kp.tell ?_ ?_ ?_ ?_ _ _ <;> first | rfl | exact L)
    split
    · unfold noted; split
      · (refine Kp.same ?_ ?_ ?_ ?_ <;> first | rfl | exact L)
      · exact R
    · exact R
  · exact R
structure OkB (K : Int) (A L : Nat) (D : Dl) (S : St) : Prop where
  n : OkN K D S
  d : ∀ c ∈ D.cn, ∀ q ∈ c.ps, 0 ≤ q
  c16 : D.cn.length ≤ 16
  ac : S.ac.length ≤ A
  cs : ∀ c ∈ S.cs, Sx.OkC (L : Int) c
  cl : S.cs.length ≤ 32
  fl : S.fl.length ≤ 200
theorem OkN.up {K K' : Int} {D : Dl} {S : St} (h : OkN K D S) (h1 : K ≤ K') (h2 : K' ≤ 4611686018427387904) : OkN K' D S :=
  ⟨⟨by have := h.k.1; omega, h2⟩, fun i hi => Lx.ok_mono (h.ln i hi) h1, h.fl⟩
theorem OkB.a {K : Int} {A L : Nat} {D : Dl} {S : St} (h : OkB K A L D S) (hA : A ≤ 1000000) (hL : L < 100000) : OkA K D S :=
  ⟨h.n, h.d, h.c16, Nat.le_trans h.ac hA, ⟨L, by omega, h.cs⟩, h.cl, by have := h.fl; omega⟩
theorem OkB.up {K K' : Int} {A A' L L' : Nat} {D : Dl} {S : St} (h : OkB K A L D S) (h1 : K ≤ K') (h2 : K' ≤ 4611686018427387904) (h3 : A ≤ A') (h4 : L ≤ L') : OkB K' A' L' D S :=
  ⟨h.n.up h1 h2, h.d, h.c16, Nat.le_trans h.ac h3, fun c hc => by
    have := h.cs c hc
    exact ⟨this.k0, this.k1, by have := this.l1; omega, this.ls, by have := this.ln; omega⟩, h.cl, h.fl⟩
theorem OkN.take {K : Int} {D : Dl} {S : St} (h : OkN K D S) (k : Nat) : OkN K D (Nw.take S k) := ⟨h.k, h.ln, fun s hs => h.fl s (List.mem_of_mem_eraseIdx hs)⟩
theorem arrive_kp (D : Dl) (S : St) (s : Sn) : ∃ S1 : St, S1 = { S with L := S.L.set (toL s.l) (Lx.recvL (ln S (toL s.l)) s.p) } ∧ Kp S1 (Nw.arrive D S s) := by
  refine ⟨_, rfl, ?_⟩
  unfold Nw.arrive
  split
  · exact Kp.heard D _ _ _
  · exact Kp.refl _
theorem OkB.deliver {K : Int} {A L : Nat} {D : Dl} {S : St} (h : OkB K A L D S) (hK : K + 64 ≤ 4611686018427387904) (k : Nat) : OkB (K + 64) (A + 1) L D (Nw.deliver D S k) := by
  obtain ⟨S1, hS1, q⟩ := arrive_kp D (Nw.take S k) (S.fl.getD k default)
  have h1 : OkN (K + 64) D S1 := by
    rw [hS1]
    exact ((h.n.take k).up (by omega) hK).setL _ (fun hi => Lx.ok_recv ((h.n.take k).ln _ hi))
  have ea : S1.ac = S.ac := by rw [hS1]; rfl
  have ec : S1.cs = S.cs := by rw [hS1]; rfl
  have ef : S1.fl = S.fl.eraseIdx k := by rw [hS1]; rfl
  exact ⟨q.n h1, h.d, h.c16, by have := q.ac; have := h.ac; rw [ea] at *; show (Nw.arrive D (Nw.take S k) (S.fl.getD k default)).ac.length ≤ _; omega,
    q.cs (by rw [ec]; exact h.cs), by have := q.cl; have := h.cl; rw [ec] at *; show (Nw.arrive D (Nw.take S k) (S.fl.getD k default)).cs.length ≤ _; omega, by
      have e : (Nw.deliver D S k).fl = S.fl.eraseIdx k := by show (Nw.arrive D (Nw.take S k) (S.fl.getD k default)).fl = _; rw [q.fl, ef]
      rw [e]
      have := h.fl
      have := List.length_eraseIdx_le S.fl k
      omega⟩
theorem deliver_fl (D : Dl) (S : St) (k : Nat) : (Nw.deliver D S k).fl = S.fl.eraseIdx k := by
  obtain ⟨S1, hS1, q⟩ := arrive_kp D (Nw.take S k) (S.fl.getD k default)
  show (Nw.arrive D (Nw.take S k) (S.fl.getD k default)).fl = _
  rw [q.fl, hS1]
  rfl
theorem polls_eq (S : St) : ∀ i, (polls i S).ac = S.ac ∧ (polls i S).cs = S.cs
  | 0 => ⟨rfl, rfl⟩
  | i + 1 => polls_eq S i
theorem cutF_is (S : St) : ∃ F : List Sn, cutF S = { S with fl := F } ∧ F.length ≤ 200 ∧ ∀ s ∈ F, s ∈ S.fl :=
  ⟨_, rfl, by rw [List.length_drop]; omega, fun s hs => List.mem_of_mem_drop hs⟩
theorem OkB.tick {K : Int} {A L : Nat} {D : Dl} {S : St} (h : OkB K A L D S) (p : Int) : OkB K A L D (Nw.tick D S p) := by
  have h1 : ∃ S2 : St, OkN K D S2 ∧ S2.ac = S.ac ∧ S2.cs = S.cs ∧ Nw.tick D S p = cutF (polls 6 { S2 with now := wr (S2.now + 1) }) := by
    have ha : (Nw.tick1 D S p).ac = S.ac ∧ (Nw.tick1 D S p).cs = S.cs := by unfold Nw.tick1; split <;> exact ⟨rfl, rfl⟩
    have hb : ∀ T : St, (Nw.tick2 D T).ac = T.ac ∧ (Nw.tick2 D T).cs = T.cs := fun T => by unfold Nw.tick2; split <;> exact ⟨rfl, rfl⟩
    refine ⟨if going D S then tick2 D (tick1 D S p) else tick1 D S p, ?_, ?_, ?_, rfl⟩
    · split
      · exact (h.n.tick1 p).tick2
      · exact h.n.tick1 p
    · split
      · rw [(hb _).1, ha.1]
      · exact ha.1
    · split
      · rw [(hb _).2, ha.2]
      · exact ha.2
  obtain ⟨S2, h2, e1, e2, e3⟩ := h1
  have h3 : OkN K D (polls 6 { S2 with now := wr (S2.now + 1) }) := OkN.polls (OkN.same (S' := { S2 with now := wr (S2.now + 1) }) h2 rfl rfl) 6 (Nat.le_refl _)
  have q := polls_eq { S2 with now := wr (S2.now + 1) } 6
  rw [e3]
  have q1 : (polls 6 { S2 with now := wr (S2.now + 1) }).ac = S.ac := q.1.trans e1
  have q2 : (polls 6 { S2 with now := wr (S2.now + 1) }).cs = S.cs := q.2.trans e2
  generalize polls 6 { S2 with now := wr (S2.now + 1) } = S3 at h3 q1 q2 ⊢
  obtain ⟨F, hF, hl, hm⟩ := cutF_is S3
  rw [hF]
  exact ⟨⟨h3.k, h3.ln, fun s hs => h3.fl s (hm s hs)⟩, h.d, h.c16, by show S3.ac.length ≤ A; rw [q1]; exact h.ac, by show ∀ c ∈ S3.cs, _; rw [q2]; exact h.cs, by show S3.cs.length ≤ 32; rw [q2]; exact h.cl, hl⟩
theorem OkB.doS {K : Int} {A L : Nat} {D : Dl} {S : St} (h : OkB K A L D S) (hK : K + 64 ≤ 4611686018427387904) (k a b c : Int) : OkB (K + 64) (A + 1) (L + 1) D (Nw.doS D S k a b c) := by
  have R : OkB (K + 64) (A + 1) (L + 1) D S := h.up (by omega) hK (by omega) (by omega)
  have HT : ∀ (S1 : St) (i : Nat) (x : Nt), S1.L = S.L → S1.fl = S.fl → S1.ac = S.ac → S1.cs = S.cs → OkB (K + 64) (A + 1) (L + 1) D (Nw.tell S1 i x) := fun S1 i x e1 e2 e3 e4 =>
    ⟨(OkN.same (S' := S1) R.n e1 e2).tell i x, R.d, R.c16, by show S1.ac.length ≤ _; rw [e3]; exact R.ac, by show ∀ c ∈ S1.cs, _; rw [e4]; exact R.cs, by show S1.cs.length ≤ _; rw [e4]; exact R.cl, by show S1.fl.length ≤ _; rw [e2]; exact R.fl⟩
  have HS : ∀ (S1 : St), S1.L = S.L → S1.fl = S.fl → S1.ac = S.ac → S1.cs = S.cs → OkB (K + 64) (A + 1) (L + 1) D S1 := fun S1 e1 e2 e3 e4 =>
    ⟨OkN.same (S' := S1) R.n e1 e2, R.d, R.c16, by rw [e3]; exact R.ac, by rw [e4]; exact R.cs, by rw [e4]; exact R.cl, by rw [e2]; exact R.fl⟩
  unfold Nw.doS
  split
  · exact R
  split
  · (refine HT _ _ _ ?_ ?_ ?_ ?_ <;> rfl)
  split
  · unfold unplugS
    split
    · (refine HS _ ?_ ?_ ?_ ?_ <;> rfl)
    split
    · have q := Kp.fin { S with inn := false, vph := 4 }
      exact ⟨q.n (R.n.same rfl rfl), R.d, R.c16, R.ac, R.cs, R.cl, R.fl⟩
    · (refine HS _ ?_ ?_ ?_ ?_ <;> rfl)
  split
  · exact (h.tick a).up (by omega) hK (by omega) (by omega)
  split
  · exact (h.deliver hK _).up (Int.le_refl _) hK (Nat.le_refl _) (by omega)
  split
  · exact ⟨R.n.take _, R.d, R.c16, R.ac, R.cs, R.cl, by have := List.length_eraseIdx_le S.fl a.toNat; have := R.fl; show (S.fl.eraseIdx a.toNat).length ≤ 200; omega⟩
  split
  · split
    · rename_i h0 _ _ _ _ _ h6 h200
      have hr : Cv.inB a 0 ((S.fl.length : Int) - 1) = true := by
        cases hb : Cv.inB a 0 ((S.fl.length : Int) - 1) with
        | true => rfl
        | false =>
          exfalso; apply h0
          unfold doE
          rw [h6]
          simp [hb]
      have hin := (Cv.inB_iff.1 hr)
      refine ⟨⟨R.n.k, R.n.ln, fun s hs => ?_⟩, R.d, R.c16, R.ac, R.cs, R.cl, ?_⟩
      · rcases List.mem_append.1 hs with hs | hs
        · exact R.n.fl s hs
        · obtain rfl := List.mem_singleton.1 hs
          exact R.n.fl _ (by rw [List.getD_eq_getElem?_getD, List.getElem?_eq_getElem (by omega)]; exact List.getElem_mem _)
      · show (S.fl ++ [_]).length ≤ 200
        rw [List.length_append]; simp; omega
    · exact R
  split
  · (refine HT _ _ _ ?_ ?_ ?_ ?_ <;> rfl)
  split
  · unfold leaseS
    refine ⟨OkN.tell (OkN.same (S' := { S with cs := Sx.grS S.cs D.dr D.bk S.sN 0 a b (wr (S.now + c)) S.now, sN := Sx.grN S.cs D.dr D.bk S.sN 0 a b (wr (S.now + c)) S.now }) R.n rfl rfl) 3 _, R.d, R.c16, R.ac, ?_, ?_, R.fl⟩
    · show ∀ q ∈ Sx.grS S.cs D.dr D.bk S.sN 0 a b (wr (S.now + c)) S.now, _
      exact Sx.oks_grS h.cs _ _ _ _ _ _ _ _
    · show (Sx.grS S.cs D.dr D.bk S.sN 0 a b (wr (S.now + c)) S.now).length ≤ 32
      rw [Sx.len_grS]; exact h.cl
  · (refine HS _ ?_ ?_ ?_ ?_ <;> rfl)
theorem OkB.drain {A L : Nat} {D : Dl} : ∀ (n : Nat) {K : Int} {A : Nat} {S : St}, OkB K A L D S → K + 64 * n ≤ 4611686018427387904 → OkB (K + 64 * n) (A + n) L D (Nw.drain D n S)
  | 0, K, A, S, h, hK => by
    have e : K + 64 * ((0 : Nat) : Int) = K := by omega
    rw [e]; exact h
  | n + 1, K, A, S, h, hK => by
    have h1 := OkB.drain (A := A) n (h.deliver (by omega) 0) (by omega)
    have e1 : K + 64 + 64 * (n : Int) = K + 64 * ((n + 1 : Nat) : Int) := by omega
    have e2 : A + 1 + n = A + (n + 1) := by omega
    rw [e1, e2] at h1
    exact h1
theorem drain_fl (D : Dl) : ∀ (n : Nat) (S : St), (Nw.drain D n S).fl = S.fl.drop n
  | 0, S => rfl
  | n + 1, S => by
    show (Nw.drain D n (Nw.deliver D S 0)).fl = _
    rw [drain_fl D n, deliver_fl]
    cases S.fl <;> simp
theorem OkB.beat {K : Int} {A L : Nat} {D : Dl} {S : St} (h : OkB K A L D S) (hK : K + 12800 ≤ 4611686018427387904) : OkB (K + 12800) (A + 200) L D (Nw.beat D S) := by
  have h1 := h.tick 0
  have h2 := h1.fl
  exact (OkB.drain (A := A) _ h1 (by omega)).up (by omega) hK (by omega) (Nat.le_refl _)
end Go.Proofs.Ytlklnaebdnahcaa
namespace Go.Proofs.Ytlklnaebdnahcaa
open Go.RowKit Nw
theorem waits_at {S : St} (hl : S.L.length = 6) {k : Nat} (hk : k < 6) (h : 0 < (Nw.ln S k).L.length) : waits S = true := by
  unfold waits
  rw [List.any_eq_true]
  refine ⟨Nw.ln S k, ?_, decide_eq_true h⟩
  unfold Nw.ln
  rw [List.getD_eq_getElem?_getD, List.getElem?_eq_getElem (by omega)]
  exact List.getElem_mem _
theorem waitsF_ {S : St} (hl : S.L.length = 6) (h : ∀ i, i < 6 → (Nw.ln S i).L.length = 0) : waits S = false := by
  unfold waits
  rw [List.any_eq_false]
  intro l hm
  obtain ⟨i, hi, rfl⟩ := List.mem_iff_getElem.1 hm
  have := h i (by omega)
  unfold Nw.ln at this
  rw [List.getD_eq_getElem?_getD, List.getElem?_eq_getElem hi] at this
  simp only [Option.getD_some] at this
  simp [this]
theorem waitB_c {w : World} {B n base : Nat} {col : Nat → Nat} {D : Dl} {M : Mem} {S : St} (h : NetAt w B n col base D M S) {i : Nat} (hi : i < 6) :
    Calls Try.prog 31 #[.pointer (some ⟨M.g i, 0, none⟩)] w fun e w' => e = .returned (.bool (decide (0 < (Nw.ln S i).L.length))) ∧ w = w' := by
  have HL := Lib.hid (h.ln i hi)
  obtain ⟨q, hq⟩ : ∃ q, q = (Nw.ln S i).L.length := ⟨_, rfl⟩
  have P10 : ∀ W, w = W → Calls Try.prog 32 #[.pointer (some ⟨M.g i, 0, none⟩)] W fun e w' => e = .returned (.int .i64 q) ∧ W = w' := fun W e => by
    subst e
    have := WaitingL_c _ _ _ _ _ _ HL.out
    rwa [← hq] at this
  have HP := Lib.hid P10
  rw [← hq]
  clear P10 hq h
  go_enter Try.func31, Try.ntmps31
  go_wp2_with (go_at_call 32; refine (HP.out _ rfl).mono ?_; rintro e w' ⟨rfl, rfl⟩)
  go_ret
  exact ⟨rfl, rfl⟩
set_option maxRecDepth 100000 in
set_option maxHeartbeats 4000000 in
theorem indexW_c {w : World} {B n base : Nat} {col : Nat → Nat} {D : Dl} {M : Mem} {S : St} (h : NetAt w B n col base D M S) :
    Calls Try.prog 51 #[.slice (some ⟨n, 11, none⟩) 6 6, .func (.func 31) #[] #[]] w fun e w' => ∃ j : Int, e = .returned (.int .i64 j) ∧ decide (0 ≤ j) = waits S ∧ w = w' := by
  have H := Lib.hid h
  clear h
  go_enter Try.func51, Try.ntmps51
  go_wp2_with fail
  go_loopw [8] (fun i wr => ∃ k : Nat, k ≤ 6 ∧ i = .int .i64 k ∧ Hid (∀ j, j < k → (Nw.ln S j).L.length = 0) ∧ w = wr) (fun i _ => 6 - (intOf i).toNat)
  case atStart => exact ⟨0, Nat.zero_le _, rfl, Lib.hid (fun j hj => absurd hj (Nat.not_lt_zero _)), rfl⟩
  case round =>
    obtain ⟨k, hk, rfl, HN, rfl⟩ := hrel
    by_cases hlt : k < 6
    · have c0 := lineP H.out hlt
      have nl := H.out.lt
      have k0 : (0 : Int) ≤ (k : Int) := by omega
      have k1 : (k : Int) < 6 := by omega
      have PW := Lib.hid (waitB_c H.out hlt)
      by_cases hw : 0 < (Nw.ln S k).L.length
      · have HW := Lib.hid (waits_at H.out.ll hlt hw)
        rw [decide_eq_true hw] at PW
        clear hw
        go_wp2_with (go_at_call 31; refine PW.out.mono ?_; rintro e w1 ⟨rfl, rfl⟩)
        go_ret
        exact ⟨k, rfl, by rw [HW.out]; exact decide_eq_true k0, rfl⟩
      · have HW := Lib.hid hw
        rw [decide_eq_false hw] at PW
        clear hw
        go_wp2_with (go_at_call 31; refine PW.out.mono ?_; rintro e w1 ⟨rfl, rfl⟩)
        exact ⟨⟨k + 1, by omega, by simp, Lib.hid (fun j hj => by
          by_cases e : j = k
          · subst e; have := HW.out; omega
          · exact HN.out j (by omega)), trivial⟩, by simp only [intOf]; omega⟩
    · obtain rfl : k = 6 := by omega
      go_wp2_with fail
      go_ret
      exact ⟨-1, rfl, by rw [waitsF_ H.out.ll HN.out]; rfl, rfl⟩
set_option maxRecDepth 100000 in
set_option maxHeartbeats 4000000 in
theorem anyW_c {w : World} {B n base : Nat} {col : Nat → Nat} {D : Dl} {M : Mem} {S : St} (h : NetAt w B n col base D M S) :
    Calls Try.prog 30 #[.slice (some ⟨n, 11, none⟩) 6 6, .func (.func 31) #[] #[]] w fun e w' => e = .returned (.bool (waits S)) ∧ w = w' := by
  have P := Lib.hid (indexW_c h)
  clear h
  go_enter Try.func30, Try.ntmps30
  go_wp2_with (go_at_call 51; refine P.out.mono ?_; rintro e w1 ⟨j, rfl, hj, rfl⟩; have HJ := Lib.hid hj; clear hj)
  go_ret
  exact ⟨by rw [← HJ.out]; rfl, rfl⟩
end Go.Proofs.Ytlklnaebdnahcaa
namespace Go.Proofs.Ytlklnaebdnahcaa
open Go.RowKit Nw
noncomputable def setlV (D : Dl) (S : St) (m : Int) : Int := if m < 0 ∨ 2000 < m then 0 else ((Nw.settle D m.toNat 0 S).2 : Int)
noncomputable def setlS (D : Dl) (S : St) (m : Int) : St := if m < 0 ∨ 2000 < m then S else (Nw.settle D m.toNat 0 S).1
def setlE (m : Int) : Int := if m < 0 ∨ 2000 < m then 3 else 0
def flAt (w : World) (n : Nat) : Nat := match w.cell? ⟨n, 17, none⟩ with | some (.slice _ l _) => l | _ => 0
theorem flAt_eq {w : World} {B n base : Nat} {col : Nat → Nat} {D : Dl} {M : Mem} {S : St} (h : NetAt w B n col base D M S) : flAt w n = S.fl.length := by
  unfold flAt
  rw [h.blk.cell 17 rfl]
set_option maxRecDepth 100000 in
set_option maxHeartbeats 8000000 in
theorem Settle_c {w : World} {B n base : Nat} {col : Nat → Nat} {D : Dl} {M : Mem} {S : St} (h : NetAt w B n col base D M S) (hB : B ≤ w.heap.size) {K : Int} {A L : Nat} (ho : OkB K A L D S) (hK : K + 25600000 ≤ 4611686018427387904) (hA : A + 400000 ≤ 1000000) (hL : L < 100000) (m : Int) :
    Calls Try.prog 7 #[.pointer (some ⟨n, 0, none⟩), .int .i64 m] w fun e w' => e = .returned (.tuple #[.int .i64 (setlV D S m), .int .i64 (setlE m)]) ∧ NetTo w B n col base D (setlS D S m) w' := by
  have H := Lib.hid h
  have HBB := Lib.hid hB
  have HO := Lib.hid ho
  have HK := Lib.hid hK
  have HA := Lib.hid hA
  have HL := Lib.hid hL
  clear h hB ho hK hA hL
  by_cases h1 : m < 0
  · have HV := Lib.hid (show setlV D S m = 0 from if_pos (.inl h1))
    have HS := Lib.hid (show setlS D S m = S from if_pos (.inl h1))
    have HE := Lib.hid (show setlE m = 3 from if_pos (.inl h1))
    have d1 : decide (m < 0) = true := decide_eq_true h1
    clear h1
    go_enter Try.func7, Try.ntmps7
    go_wp2_with (go_at_call 20; refine (validN_c H.out).mono ?_; rintro e w2 ⟨rfl, rfl⟩)
    exact bodyPost_ret (v := .tuple #[.int .i64 0, .int .i64 3]) (by simp [results, Try.results7, go_sem]) rfl ⟨by rw [HV.out, HE.out], by rw [HS.out]; exact NetTo.refl H.out⟩
  by_cases h2 : 2000 < m
  · have HV := Lib.hid (show setlV D S m = 0 from if_pos (.inr h2))
    have HS := Lib.hid (show setlS D S m = S from if_pos (.inr h2))
    have HE := Lib.hid (show setlE m = 3 from if_pos (.inr h2))
    have d1 : decide (m < 0) = false := decide_eq_false h1
    have d2 : decide (2000 < m) = true := decide_eq_true h2
    clear h1 h2
    go_enter Try.func7, Try.ntmps7
    go_wp2_with (go_at_call 20; refine (validN_c H.out).mono ?_; rintro e w2 ⟨rfl, rfl⟩)
    exact bodyPost_ret (v := .tuple #[.int .i64 0, .int .i64 3]) (by simp [results, Try.results7, go_sem]) rfl ⟨by rw [HV.out, HE.out], by rw [HS.out]; exact NetTo.refl H.out⟩
  obtain ⟨k, rfl⟩ : ∃ k : Nat, m = k := ⟨m.toNat, by omega⟩
  have hk2 : k ≤ 2000 := by omega
  have hno : ¬ ((k : Int) < 0 ∨ 2000 < (k : Int)) := by omega
  have HV := Lib.hid (show setlV D S k = ((Nw.settle D k 0 S).2 : Int) from if_neg hno)
  have HS := Lib.hid (show setlS D S k = (Nw.settle D k 0 S).1 from if_neg hno)
  have HE := Lib.hid (show setlE k = 0 from if_neg hno)
  have d1 : decide ((k : Int) < 0) = false := decide_eq_false h1
  have d2 : decide (2000 < (k : Int)) = false := decide_eq_false h2
  clear h1 h2 hno
  rw [HV.out, HS.out, HE.out]
  go_enter Try.func7, Try.ntmps7
  go_upto_region 6 with (go_at_call 20; refine (validN_c H.out).mono ?_; rintro e w2 ⟨rfl, rfl⟩)
  clear d1 d2
  go_loopw [17] (fun v17 wr => ∃ (i : Nat) (Si : St), i ≤ k ∧ v17 = .int .i64 i ∧ Hid (NetTo w B n col base D Si wr ∧ OkB (K + 12800 * i) (A + 200 * i) L D Si ∧ Nw.settle D k 0 S = Nw.settle D (k - i) i Si)) (fun v _ => k - (intOf v).toNat)
  case atStart => exact ⟨0, S, Nat.zero_le _, rfl, Lib.hid ⟨NetTo.refl H.out, by simpa using HO.out, rfl⟩⟩
  case round =>
    obtain ⟨i, Si, hi, rfl, HZ⟩ := hrel
    have HN := Lib.hid HZ.out.1
    have HOi := Lib.hid HZ.out.2.1
    have HEQ := Lib.hid HZ.out.2.2
    clear HZ
    by_cases hlt : i < k
    · have hki : (i : Int) < (k : Int) := by omega
      have HLT := Lib.hid hlt
      have hiw : IntKind.i64.wrap ((i : Int) + 1) = (i : Int) + 1 := IntWalk.i64_in _ (by omega)
      have hiw2 : wrap64 ((i : Int) + 1) = (i : Int) + 1 := by rw [← IntWalk.i64_left]; exact hiw
      obtain ⟨cl, Ml, hcl, hNl, htl⟩ := HN.out
      have HC := Lib.hid hcl
      have H1 := Lib.hid hNl
      have HT1 := Lib.hid htl
      have HB1 := Lib.hid (Nat.le_trans HBB.out htl.size)
      clear hcl hNl htl hlt
      have c10 := H1.out.blk.cell 10 rfl
      have nl := H1.out.lt
      by_cases hnow : 1099511627776 ≤ Si.now
      · have HR := Lib.hid (show Nw.settle D k 0 S = (Si, i) by
          rw [HEQ.out]
          obtain ⟨q, hq⟩ : ∃ q, k - i = q + 1 := ⟨k - i - 1, by have := HLT.out; omega⟩
          rw [hq]
          unfold Nw.settle
          rw [if_pos hnow])
        have d1 : decide (1099511627776 ≤ Si.now) = true := decide_eq_true hnow
        clear hnow
        go_wp2_with fail
        exact bodyPost_ret (v := .tuple #[.int .i64 i, .int .i64 0]) (by simp [results, Try.results7, go_sem]) rfl ⟨by rw [HR.out], by rw [HR.out]; exact HN.out⟩
      · have d1 : decide (1099511627776 ≤ Si.now) = false := decide_eq_false hnow
        have HSU := Lib.hid (show Nw.settle D k 0 S = if waits (beat D Si) then Nw.settle D (k - (i + 1)) (i + 1) (beat D Si) else (beat D Si, i + 1) by
          rw [HEQ.out]
          obtain ⟨q, hq⟩ : ∃ q, k - i = q + 1 := ⟨k - i - 1, by have := HLT.out; omega⟩
          have hq2 : k - (i + 1) = q := by omega
          rw [hq, hq2]
          conv => lhs; unfold Nw.settle
          rw [if_neg hnow])
        clear hnow
        have HOB := Lib.hid (show OkB (K + 12800 * ((i + 1 : Nat) : Int)) (A + 200 * (i + 1)) L D (beat D Si) by
          have := (HOi.out.beat (by have := HK.out; omega))
          have e1 : K + 12800 * (i : Int) + 12800 = K + 12800 * ((i + 1 : Nat) : Int) := by omega
          have e2 : A + 200 * i + 200 = A + 200 * (i + 1) := by omega
          rwa [e1, e2] at this)
        have HOT := Lib.hid (HOi.out.tick 0)
        obtain ⟨T, hT⟩ : ∃ T, T = Nw.tick D Si 0 := ⟨_, rfl⟩
        have HTT := Lib.hid hT
        have HBT := Lib.hid (show beat D Si = Nw.drain D T.fl.length T by rw [hT]; rfl)
        rw [← hT] at HOT
        clear hT
        have PT := Lib.hid (tick_c H1.out HB1.out 0 HOi.out.n (by have := HOi.out.fl; omega))
        rw [← HTT.out] at PT
        clear c10 nl
        have c10 := H1.out.blk.cell 10 rfl
        have nl := H1.out.lt
        go_upto_region 11 with (go_at_call 24; refine (PT.out).mono ?_; rintro e w2 ⟨rfl, hn⟩; have HN2 := Lib.hid (NetTo.next HC.out HT1.out hn); clear hn)
        clear c10 nl d1
        go_loopw [28] (fun v28 wr2 => ∃ j : Nat, j ≤ T.fl.length ∧ Hid (NetTo w B n col base D (Nw.drain D j T) wr2)) (fun _ wr2 => flAt wr2 n)
        case atStart => exact ⟨0, Nat.zero_le _, HN2⟩
        case round =>
          obtain ⟨j, hj, HNJ⟩ := hrel
          obtain ⟨c2, M2, hc2, hN2, ht2⟩ := HNJ.out
          have HC2 := Lib.hid hc2
          have H2 := Lib.hid hN2
          have HT2 := Lib.hid ht2
          have HB2 := Lib.hid (Nat.le_trans HBB.out ht2.size)
          clear hc2 hN2 ht2
          obtain ⟨U, hU⟩ : ∃ U, U = Nw.drain D j T := ⟨_, rfl⟩
          rw [← hU] at H2 HNJ
          have HU := Lib.hid hU
          have hul : U.fl.length = T.fl.length - j := by rw [hU, drain_fl, List.length_drop]
          have HUL := Lib.hid hul
          have HOU := Lib.hid (show OkB (K + 12800 * i + 64 * j) (A + 200 * i + j) L D U by
            rw [hU]
            have := HOT.out.fl
            exact OkB.drain (A := A) j HOT.out (by have := HK.out; omega))
          have HFA := Lib.hid (flAt_eq H2.out)
          clear hU hul
          have c17 := H2.out.blk.cell 17 rfl
          have nl := H2.out.lt
          obtain ⟨u, hu⟩ : ∃ u, u = U.fl.length := ⟨_, rfl⟩
          rw [← hu] at c17
          have HUU := Lib.hid hu
          clear hu
          by_cases hj0 : 0 < u
          · have d1 : decide (0 < u) = true := decide_eq_true hj0
            have HJ0 := Lib.hid hj0
            clear hj0
            have PD := Lib.hid (deliver_c H2.out HB2.out 0 (by have := HUU.out; have := HJ0.out; omega) HOU.out.n HOU.out.d (by have := HOU.out.ac; have := HOT.out.fl; have := HA.out; omega) (K2 := L) (by have := HL.out; omega) HOU.out.cs)
            go_wp2_with (go_at_call 25; refine (PD.out).mono ?_; rintro e w3 ⟨rfl, hn⟩; have HN3 := Lib.hid hn; clear hn)
            have hDR : Nw.deliver D U 0 = Nw.drain D (j + 1) T := by
              rw [HU.out]
              have : ∀ (q : Nat) (X : St), Nw.deliver D (Nw.drain D q X) 0 = Nw.drain D (q + 1) X := fun q => by
                induction q with
                | zero => intro X; rfl
                | succ q ih => intro X; exact ih _
              exact this j T
            have hN3 := NetTo.next HC2.out HT2.out HN3.out
            refine ⟨⟨j + 1, by have := HUL.out; have := HUU.out; have := HJ0.out; omega, Lib.hid (hDR ▸ hN3)⟩, ?_⟩
            obtain ⟨c3, M3, _, hN4, _⟩ := HN3.out
            rw [flAt_eq hN4, HFA.out, deliver_fl]
            have := HUU.out
            have := HJ0.out
            rw [List.length_eraseIdx]
            split <;> omega
          · have d1 : decide (0 < u) = false := decide_eq_false hj0
            have HJE := Lib.hid (show U = beat D Si by
              rw [HBT.out, HU.out]
              congr 1
              have := HUL.out
              have := HUU.out
              omega)
            clear hj0
            have PW := Lib.hid (anyW_c H2.out)
            have HSE := HSU
            rw [← HJE.out] at HSE HOB
            cases hw : waits U with
            | true =>
              rw [hw] at PW HSE
              clear hw
              have c0 := lineP H2.out (show 0 < 6 by omega)
              go_wp2_with (go_at_call 30; refine (PW.out).mono ?_; rintro e w3 ⟨rfl, rfl⟩)
              exact ⟨⟨i + 1, U, by have := HLT.out; omega, rfl, Lib.hid ⟨HNJ.out, HOB.out, HSE.out⟩⟩, by simp only [intOf]; have := HLT.out; omega⟩
            | false =>
              rw [hw] at PW HSE
              clear hw
              have HR := Lib.hid (show Nw.settle D k 0 S = (U, i + 1) from HSE.out)
              go_wp2_with (go_at_call 30; refine (PW.out).mono ?_; rintro e w3 ⟨rfl, rfl⟩)
              exact bodyPost_ret (v := .tuple #[.int .i64 ((i : Int) + 1), .int .i64 0]) (by simp [results, Try.results7, go_sem]) rfl ⟨by rw [HR.out]; rfl, by rw [HR.out]; exact HNJ.out⟩
    · obtain rfl : i = k := by omega
      have HR := Lib.hid (show Nw.settle D i 0 S = (Si, i) by rw [HEQ.out, Nat.sub_self]; rfl)
      clear hlt
      go_wp2_with fail
      exact bodyPost_ret (v := .tuple #[.int .i64 i, .int .i64 0]) (by simp [results, Try.results7, go_sem]) rfl ⟨by rw [HR.out], by rw [HR.out]; exact HN.out⟩
end Go.Proofs.Ytlklnaebdnahcaa
namespace Go.Proofs.Ytlklnaebdnahcaa
open Go.RowKit Nw
theorem Flowing_c {w : World} {B n base : Nat} {col : Nat → Nat} {D : Dl} {M : Mem} {S : St} (h : NetAt w B n col base D M S) :
    Calls Try.prog 9 #[.pointer (some ⟨n, 0, none⟩)] w fun e w' => e = .returned (.int .i64 S.flow) ∧ w = w' := by
  have H := Lib.hid h
  clear h
  have c35 := H.out.blk.cell 35 rfl
  have nl := H.out.lt
  go_enter Try.func9, Try.ntmps9
  go_wp2_with (go_at_call 20; refine (validN_c H.out).mono ?_; rintro e w2 ⟨rfl, rfl⟩)
  go_ret
  exact ⟨rfl, rfl⟩
theorem Phase_c {w : World} {B n base : Nat} {col : Nat → Nat} {D : Dl} {M : Mem} {S : St} (h : NetAt w B n col base D M S) (q : Int) :
    Calls Try.prog 8 #[.pointer (some ⟨n, 0, none⟩), .int .i64 q] w fun e w' => e = .returned (.int .i64 (Nw.phase S q)) ∧ w = w' := by
  have H := Lib.hid h
  clear h
  have c37 := H.out.blk.cell 37 rfl
  have c43 := H.out.blk.cell 43 rfl
  have nl := H.out.lt
  by_cases h0 : q = 0
  · subst h0
    go_enter Try.func8, Try.ntmps8
    go_wp2_with (go_at_call 20; refine (validN_c H.out).mono ?_; rintro e w2 ⟨rfl, rfl⟩)
    go_ret
    exact ⟨rfl, rfl⟩
  by_cases h1 : q = 1
  · subst h1
    go_enter Try.func8, Try.ntmps8
    go_wp2_with (go_at_call 20; refine (validN_c H.out).mono ?_; rintro e w2 ⟨rfl, rfl⟩)
    go_ret
    exact ⟨rfl, rfl⟩
  have HE := Lib.hid (show Nw.phase S q = 0 by unfold Nw.phase; rw [if_neg h0, if_neg h1])
  rw [HE.out]
  have b0 : (q == 0) = false := by simpa using h0
  have b1 : (q == 1) = false := by simpa using h1
  clear h0 h1
  go_enter Try.func8, Try.ntmps8
  go_wp2_with (go_at_call 20; refine (validN_c H.out).mono ?_; rintro e w2 ⟨rfl, rfl⟩)
  go_ret
  exact ⟨rfl, rfl⟩
end Go.Proofs.Ytlklnaebdnahcaa
namespace Go.Proofs.Ytlklnaebdnahcaa
open Go.RowKit Nw
theorem info203 : (Try.prog.info? 52).map (fun i => (i.zero, i.size, i.bytes)) = some (some (.agg #[.int .i64 0, .int .i64 0, .int .i64 0]), 3, 24) := by kernel_rfl
theorem info199 : (Try.prog.info? 48).map (fun i => (i.zero, i.size, i.bytes)) = some (some (.agg #[.int .u64 0, .slice none 0 0]), 2, 32) := by kernel_rfl
theorem info196 : (Try.prog.info? 45).map (fun i => (i.zero, i.size, i.bytes)) = some (some (.int .u64 0), 1, 8) := by kernel_rfl
def CloneE (T k : Nat) (w : World) (n : Nat) (L : List Value) (e : Ending) (w' : World) : Prop := ∃ A' cap', e = .returned (.slice A' n cap') ∧ w'.ownsRow w.heap.size T k (.slice A' n cap') n L ∧ Below w.heap.size w w'
set_option maxHeartbeats 1000000 in
theorem CloneBd_c (A : Option Addr) (n c : Nat) (L : List Value) (w : World) (hs : SrcRow w A n L) (hn : L.length = n * 3) (hone : ∀ u ∈ L, u.oneCell' = true) (hnil : A = none → n = 0) (hl : n ≤ 1000000) :
    Calls Try.prog 14 #[.slice A n c] w (CloneE 52 3 w n L) := by
  have q36 : ∀ (w : World) (a : Option Addr) (n c n' c' : Nat), (binOp .eql 22 (.slice a n c) (.slice none n' c')).run Try.prog w = .ok (.bool a.isNone) w := fun w a n c n' c' => Lib.run_eql_slice_nil w _ _ a n c n' c' Try.underlying22
  cases A with
  | none =>
    have hn0 := hnil rfl
    subst hn0
    have hL : L = [] := List.eq_nil_of_length_eq_zero (by omega)
    subst hL
    clear hs hnil hone hn
    go_enter Try.func14, Try.ntmps14
    go_wp2
    go_ret
    exact ⟨none, 0, rfl, World.ownsRow_nil _ _ _ _, Below.refl _ _⟩
  | some a =>
    clear hnil
    obtain ⟨i0, hi, hz0, hz1, hz2⟩ := info_parts info203
    have HC := Lib.hid (show SrcRow (w.alloc (.cells #[] 52)) (some a) n L from by
      rcases hs with ⟨h, _⟩ | ⟨a', h, hc⟩
      · cases h
      · exact .inr ⟨a', h, fun j u hu => ((World.grownBy_alloc w _ none).cell (hc j u hu) (by simp))⟩)
    have HL := Lib.hid hl
    have HN := Lib.hid hn
    have H1 := Lib.hid hone
    clear hs hl hn hone
    go_enter Try.func14, Try.ntmps14
    go_wp2_with (at_builtin; refine wpList_append_any (.tmp 5) (.tmp 6) 22 rfl rfl w.heap.size 52 i0 (.agg #[.int .i64 0, .int .i64 0, .int .i64 0]) 3 24 Try.underlying22 hi hz0 hz1 hz2 rfl (by decide) (some ⟨w.heap.size, 0, none⟩) 0 0 [] (by rfl) (World.ownsRow_made w #[] 0 (Nat.le_refl _) (by decide) (by simp)) (some a) n c L (by rfl) HN.out HC.out H1.out (by have := HL.out; unfold maxLen; omega) (by have := HL.out; omega) (by simp) ?_; intro A' cap' w1 hown hgr hnr; have HOw := Lib.hid hown; have HG := Lib.hid hgr; clear hown hgr hnr)
    go_ret
    have hown := HOw.out
    refine ⟨A', cap', ?_, ?_, Below.grown ((Below.refl _ _).alloc (Nat.le_refl _) _) HG.out (by simp) (fun k hk => by simp [Value.ownBlock] at hk; omega)⟩
    · simp
    · simpa using hown
set_option maxHeartbeats 1000000 in
theorem CloneCt_c (A : Option Addr) (n c : Nat) (L : List Value) (w : World) (hs : SrcRow w A n L) (hn : L.length = n * 2) (hone : ∀ u ∈ L, u.oneCell' = true) (hnil : A = none → n = 0) (hl : n ≤ 1000000) :
    Calls Try.prog 15 #[.slice A n c] w (CloneE 48 2 w n L) := by
  have q36 : ∀ (w : World) (a : Option Addr) (n c n' c' : Nat), (binOp .eql 25 (.slice a n c) (.slice none n' c')).run Try.prog w = .ok (.bool a.isNone) w := fun w a n c n' c' => Lib.run_eql_slice_nil w _ _ a n c n' c' Try.underlying25
  cases A with
  | none =>
    have hn0 := hnil rfl
    subst hn0
    have hL : L = [] := List.eq_nil_of_length_eq_zero (by omega)
    subst hL
    clear hs hnil hone hn
    go_enter Try.func15, Try.ntmps15
    go_wp2
    go_ret
    exact ⟨none, 0, rfl, World.ownsRow_nil _ _ _ _, Below.refl _ _⟩
  | some a =>
    clear hnil
    obtain ⟨i0, hi, hz0, hz1, hz2⟩ := info_parts info199
    have HC := Lib.hid (show SrcRow (w.alloc (.cells #[] 48)) (some a) n L from by
      rcases hs with ⟨h, _⟩ | ⟨a', h, hc⟩
      · cases h
      · exact .inr ⟨a', h, fun j u hu => ((World.grownBy_alloc w _ none).cell (hc j u hu) (by simp))⟩)
    have HL := Lib.hid hl
    have HN := Lib.hid hn
    have H1 := Lib.hid hone
    clear hs hl hn hone
    go_enter Try.func15, Try.ntmps15
    go_wp2_with (at_builtin; refine wpList_append_any (.tmp 5) (.tmp 6) 25 rfl rfl w.heap.size 48 i0 (.agg #[.int .u64 0, .slice none 0 0]) 2 32 Try.underlying25 hi hz0 hz1 hz2 rfl (by decide) (some ⟨w.heap.size, 0, none⟩) 0 0 [] (by rfl) (World.ownsRow_made w #[] 0 (Nat.le_refl _) (by decide) (by simp)) (some a) n c L (by rfl) HN.out HC.out H1.out (by have := HL.out; unfold maxLen; omega) (by have := HL.out; omega) (by simp) ?_; intro A' cap' w1 hown hgr hnr; have HOw := Lib.hid hown; have HG := Lib.hid hgr; clear hown hgr hnr)
    go_ret
    have hown := HOw.out
    refine ⟨A', cap', ?_, ?_, Below.grown ((Below.refl _ _).alloc (Nat.le_refl _) _) HG.out (by simp) (fun k hk => by simp [Value.ownBlock] at hk; omega)⟩
    · simp
    · simpa using hown
set_option maxHeartbeats 1000000 in
theorem ClonePd_c (A : Option Addr) (n c : Nat) (L : List Value) (w : World) (hs : SrcRow w A n L) (hn : L.length = n * 1) (hone : ∀ u ∈ L, u.oneCell' = true) (hnil : A = none → n = 0) (hl : n ≤ 1000000) :
    Calls Try.prog 16 #[.slice A n c] w (CloneE 45 1 w n L) := by
  have q36 : ∀ (w : World) (a : Option Addr) (n c n' c' : Nat), (binOp .eql 46 (.slice a n c) (.slice none n' c')).run Try.prog w = .ok (.bool a.isNone) w := fun w a n c n' c' => Lib.run_eql_slice_nil w _ _ a n c n' c' Try.underlying46
  cases A with
  | none =>
    have hn0 := hnil rfl
    subst hn0
    have hL : L = [] := List.eq_nil_of_length_eq_zero (by omega)
    subst hL
    clear hs hnil hone hn
    go_enter Try.func16, Try.ntmps16
    go_wp2
    go_ret
    exact ⟨none, 0, rfl, World.ownsRow_nil _ _ _ _, Below.refl _ _⟩
  | some a =>
    clear hnil
    obtain ⟨i0, hi, hz0, hz1, hz2⟩ := info_parts info196
    have HC := Lib.hid (show SrcRow (w.alloc (.cells #[] 45)) (some a) n L from by
      rcases hs with ⟨h, _⟩ | ⟨a', h, hc⟩
      · cases h
      · exact .inr ⟨a', h, fun j u hu => ((World.grownBy_alloc w _ none).cell (hc j u hu) (by simp))⟩)
    have HL := Lib.hid hl
    have HN := Lib.hid hn
    have H1 := Lib.hid hone
    clear hs hl hn hone
    go_enter Try.func16, Try.ntmps16
    go_wp2_with (at_builtin; refine wpList_append_any (.tmp 5) (.tmp 6) 46 rfl rfl w.heap.size 45 i0 (.int .u64 0) 1 8 Try.underlying46 hi hz0 hz1 hz2 rfl (by decide) (some ⟨w.heap.size, 0, none⟩) 0 0 [] (by rfl) (World.ownsRow_made w #[] 0 (Nat.le_refl _) (by decide) (by simp)) (some a) n c L (by rfl) HN.out HC.out H1.out (by have := HL.out; unfold maxLen; omega) (by have := HL.out; omega) (by simp) ?_; intro A' cap' w1 hown hgr hnr; have HOw := Lib.hid hown; have HG := Lib.hid hgr; clear hown hgr hnr)
    go_ret
    have hown := HOw.out
    refine ⟨A', cap', ?_, ?_, Below.grown ((Below.refl _ _).alloc (Nat.le_refl _) _) HG.out (by simp) (fun k hk => by simp [Value.ownBlock] at hk; omega)⟩
    · simp
    · simpa using hown
set_option maxHeartbeats 1000000 in
theorem CloneSn_c (A : Option Addr) (n c : Nat) (L : List Value) (w : World) (hs : SrcRow w A n L) (hn : L.length = n * 9) (hone : ∀ u ∈ L, u.oneCell' = true) (hnil : A = none → n = 0) (hl : n ≤ 1000000) :
    Calls Try.prog 33 #[.slice A n c] w (CloneE 95 9 w n L) := by
  have q36 : ∀ (w : World) (a : Option Addr) (n c n' c' : Nat), (binOp .eql 40 (.slice a n c) (.slice none n' c')).run Try.prog w = .ok (.bool a.isNone) w := fun w a n c n' c' => Lib.run_eql_slice_nil w _ _ a n c n' c' Try.underlying40
  cases A with
  | none =>
    have hn0 := hnil rfl
    subst hn0
    have hL : L = [] := List.eq_nil_of_length_eq_zero (by omega)
    subst hL
    clear hs hnil hone hn
    go_enter Try.func33, Try.ntmps33
    go_wp2
    go_ret
    exact ⟨none, 0, rfl, World.ownsRow_nil _ _ _ _, Below.refl _ _⟩
  | some a =>
    clear hnil
    obtain ⟨i0, hi, hz0, hz1, hz2⟩ := info_parts info180
    have HC := Lib.hid (show SrcRow (w.alloc (.cells #[] 95)) (some a) n L from by
      rcases hs with ⟨h, _⟩ | ⟨a', h, hc⟩
      · cases h
      · exact .inr ⟨a', h, fun j u hu => ((World.grownBy_alloc w _ none).cell (hc j u hu) (by simp))⟩)
    have HL := Lib.hid hl
    have HN := Lib.hid hn
    have H1 := Lib.hid hone
    clear hs hl hn hone
    go_enter Try.func33, Try.ntmps33
    go_wp2_with (at_builtin; refine wpList_append_any (.tmp 5) (.tmp 6) 40 rfl rfl w.heap.size 95 i0 (.agg #[.int .i64 0, .bool false, .int .i64 0, .int .i64 0, .int .i64 0, .int .i64 0, .int .i64 0, .int .i64 0, .int .i64 0]) 9 72 Try.underlying40 hi hz0 hz1 hz2 rfl (by decide) (some ⟨w.heap.size, 0, none⟩) 0 0 [] (by rfl) (World.ownsRow_made w #[] 0 (Nat.le_refl _) (by decide) (by simp)) (some a) n c L (by rfl) HN.out HC.out H1.out (by have := HL.out; unfold maxLen; omega) (by have := HL.out; omega) (by simp) ?_; intro A' cap' w1 hown hgr hnr; have HOw := Lib.hid hown; have HG := Lib.hid hgr; clear hown hgr hnr)
    go_ret
    have hown := HOw.out
    refine ⟨A', cap', ?_, ?_, Below.grown ((Below.refl _ _).alloc (Nat.le_refl _) _) HG.out (by simp) (fun k hk => by simp [Value.ownBlock] at hk; omega)⟩
    · simp
    · simpa using hown
end Go.Proofs.Ytlklnaebdnahcaa
namespace Go.Proofs.Ytlklnaebdnahcaa
open Go.RowKit Nw
def bdV (b : Bd) : List Value := [.int .i64 b.fr, .int .i64 b.inn, .int .i64 b.bk]
def ctV (c : Ct) : List Value := [.int .u64 c.pt, .slice c.A c.ps.length c.cap]
def pdV (p : Int) : List Value := [.int .u64 p]
theorem bd_len (x : Bd) : (bdV x).length = 3 := rfl
theorem ct_len (x : Ct) : (ctV x).length = 2 := rfl
theorem pd_len (x : Int) : (pdV x).length = 1 := rfl
theorem add_next (a : Addr) (x j : Nat) (hj : 0 < j) : (⟨(a.add x).block, (a.add x).off + j, none⟩ : Addr) = a.add (x + j) := by
  unfold Addr.add
  by_cases hx : x = 0
  · subst hx
    rw [if_pos rfl, if_neg (by omega)]
    simp
  · rw [if_neg hx, if_neg (by omega)]
    simp only [Nat.add_assoc]
theorem flat_at {α : Type} {f : α → List Value} {s : Nat} (hf : ∀ x, (f x).length = s) (hs : 0 < s) (l : List α) (j : Nat) (u : Value) (h : (flatM f l)[j]? = some u) : ∃ x, l[j / s]? = some x ∧ (f x)[j % s]? = some u := by
  have hl : j < (flatM f l).length := (List.getElem?_eq_some_iff.1 h).1
  rw [flatM_length hf] at hl
  have hq : j / s < l.length := Nat.div_lt_of_lt_mul (by rw [Nat.mul_comm]; exact hl)
  have hx : l[j / s]? = some l[j / s] := List.getElem?_eq_getElem hq
  have hm := flatM_get hf l (j / s) (j % s) _ hx (Nat.mod_lt _ hs)
  rw [Nat.mul_comm, Nat.div_add_mod] at hm
  exact ⟨_, hx, hm.symm.trans h⟩
theorem bands_src {w : World} {A : Option Addr} {bs : List Bd} (h : BandsAt w A bs) : SrcRow w A bs.length (flatM bdV bs) ∧ (A = none → bs.length = 0) := by
  have hn : A = none → bs.length = 0 := fun e => by
    by_cases h0 : 0 < bs.length
    · obtain ⟨ad, h1, _⟩ := h 0 h0
      rw [e] at h1; cases h1
    · omega
  refine ⟨?_, hn⟩
  cases A with
  | none => exact .inl ⟨rfl, hn rfl⟩
  | some a =>
    refine .inr ⟨a, rfl, fun j u hu => ?_⟩
    obtain ⟨x, hx, hc⟩ := flat_at bd_len (by decide) bs j u hu
    have hi : j / 3 < bs.length := (List.getElem?_eq_some_iff.1 hx).1
    obtain ⟨ad, h1, _, c0, c1, c2⟩ := h (j / 3) hi
    cases h1
    have hg : bs.getD (j / 3) default = x := by rw [List.getD_eq_getElem?_getD, hx]; rfl
    unfold Cv.fr at c0
    unfold Cv.inn at c1
    unfold Cv.bk at c2
    rw [hg] at c0 c1 c2
    rw [add_next _ _ _ (by decide)] at c1 c2
    have h3 : j % 3 = 0 ∨ j % 3 = 1 ∨ j % 3 = 2 := by omega
    rcases h3 with e | e | e
    · rw [e] at hc
      simp only [bdV, List.getElem?_cons_zero, Option.some.injEq] at hc
      rw [← hc]
      rw [show j / 3 * 3 = j by omega] at c0
      exact c0
    · rw [e] at hc
      simp only [bdV, List.getElem?_cons_succ, List.getElem?_cons_zero, Option.some.injEq] at hc
      rw [← hc]
      rw [show j / 3 * 3 + 1 = j by omega] at c1
      exact c1
    · rw [e] at hc
      simp only [bdV, List.getElem?_cons_succ, List.getElem?_cons_zero, Option.some.injEq] at hc
      rw [← hc]
      rw [show j / 3 * 3 + 2 = j by omega] at c2
      exact c2
theorem cts_src {w : World} {A : Option Addr} {cs : List Ct} (h : CtsAt w A cs) : SrcRow w A cs.length (flatM ctV cs) ∧ (A = none → cs.length = 0) := by
  have hn : A = none → cs.length = 0 := fun e => by
    by_cases h0 : 0 < cs.length
    · obtain ⟨ad, h1, _⟩ := h 0 h0
      rw [e] at h1; cases h1
    · omega
  refine ⟨?_, hn⟩
  cases A with
  | none => exact .inl ⟨rfl, hn rfl⟩
  | some a =>
    refine .inr ⟨a, rfl, fun j u hu => ?_⟩
    obtain ⟨x, hx, hc⟩ := flat_at ct_len (by decide) cs j u hu
    have hi : j / 2 < cs.length := (List.getElem?_eq_some_iff.1 hx).1
    obtain ⟨ad, h1, _, c0, c1, _⟩ := h (j / 2) hi
    cases h1
    have hg : cs.getD (j / 2) default = x := by rw [List.getD_eq_getElem?_getD, hx]; rfl
    rw [hg] at c0 c1
    rw [add_next _ _ _ (by decide)] at c1
    have h3 : j % 2 = 0 ∨ j % 2 = 1 := by omega
    rcases h3 with e | e
    · rw [e] at hc
      simp only [ctV, List.getElem?_cons_zero, Option.some.injEq] at hc
      rw [← hc]
      rw [show j / 2 * 2 = j by omega] at c0
      exact c0
    · rw [e] at hc
      simp only [ctV, List.getElem?_cons_succ, List.getElem?_cons_zero, Option.some.injEq] at hc
      rw [← hc]
      rw [show j / 2 * 2 + 1 = j by omega] at c1
      exact c1
theorem pads_src {w : World} {A : Option Addr} {ps : List Int} (h : PadsAt w A ps) : SrcRow w A ps.length (flatM pdV ps) ∧ (A = none → ps.length = 0) := by
  have hn : A = none → ps.length = 0 := fun e => by
    by_cases h0 : 0 < ps.length
    · obtain ⟨ad, h1, _⟩ := h 0 h0
      rw [e] at h1; cases h1
    · omega
  refine ⟨?_, hn⟩
  cases A with
  | none => exact .inl ⟨rfl, hn rfl⟩
  | some a =>
    refine .inr ⟨a, rfl, fun j u hu => ?_⟩
    obtain ⟨x, hx, hc⟩ := flat_at pd_len (by decide) ps j u hu
    rw [Nat.div_one] at hx
    rw [Nat.mod_one] at hc
    have hi : j < ps.length := (List.getElem?_eq_some_iff.1 hx).1
    obtain ⟨ad, h1, _, c0⟩ := h j hi
    cases h1
    have hg : ps.getD j 0 = x := by rw [List.getD_eq_getElem?_getD, hx]; rfl
    rw [hg] at c0
    simp only [pdV, List.getElem?_cons_zero, Option.some.injEq] at hc
    rw [← hc]
    exact c0
theorem flatM_one1 {α : Type} {f : α → List Value} (hf : ∀ x, ∀ u ∈ f x, u.oneCell' = true) (l : List α) : ∀ u ∈ flatM f l, u.oneCell' = true := fun u hu => by
  unfold flatM at hu
  obtain ⟨x, _, hx⟩ := List.mem_flatMap.1 hu
  exact hf x u hx
theorem bd_one (x : Bd) : ∀ u ∈ bdV x, u.oneCell' = true := by intro u hu; simp only [bdV, List.mem_cons, List.not_mem_nil, or_false] at hu; rcases hu with rfl | rfl | rfl <;> rfl
theorem ct_one (x : Ct) : ∀ u ∈ ctV x, u.oneCell' = true := by intro u hu; simp only [ctV, List.mem_cons, List.not_mem_nil, or_false] at hu; rcases hu with rfl | rfl <;> rfl
theorem pd_one (x : Int) : ∀ u ∈ pdV x, u.oneCell' = true := by intro u hu; simp only [pdV, List.mem_cons, List.not_mem_nil, or_false] at hu; rcases hu with rfl <;> rfl
theorem row_bands {W : World} {B c : Nat} {A : Option Addr} {bs : List Bd} (h : OwnR bdV 52 3 B W A c bs) : BandsAt W A bs := by
  intro i hi
  obtain ⟨g, rfl, _, hg, _⟩ := h.form (by omega)
  have hx := getElem_D bs i default hi
  have c0 := h.cell bd_len i 0 _ hx (by decide)
  have c1 := h.cell bd_len i 1 _ hx (by decide)
  have c2 := h.cell bd_len i 2 _ hx (by decide)
  have e : (⟨g, 0, none⟩ : Addr).add (i * 3) = ⟨g, i * 3, none⟩ := by unfold Addr.add; split <;> simp_all
  refine ⟨_, rfl, hg, ?_, ?_, ?_⟩
  · rw [e]; exact c0
  · rw [e]; exact c1
  · rw [e]; exact c2
theorem row_pads {W : World} {B c : Nat} {A : Option Addr} {ps : List Int} (h : OwnR pdV 45 1 B W A c ps) : PadsAt W A ps := by
  intro i hi
  obtain ⟨g, rfl, _, hg, _⟩ := h.form (by omega)
  have hx := getElem_D ps i 0 hi
  have c0 := h.cell pd_len i 0 _ hx (by decide)
  have e : (⟨g, 0, none⟩ : Addr).add i = ⟨g, i, none⟩ := by unfold Addr.add; split <;> simp_all
  refine ⟨_, rfl, hg, ?_⟩
  rw [e]
  rw [Nat.mul_one] at c0
  exact c0
theorem row_cts {W : World} {B c : Nat} {A : Option Addr} {cs : List Ct} (h : OwnR ctV 48 2 B W A c cs) (hp : ∀ i, i < cs.length → Ct.At W (cs.getD i default)) : CtsAt W A cs := by
  intro i hi
  obtain ⟨g, rfl, _, hg, _⟩ := h.form (by omega)
  have hx := getElem_D cs i default hi
  have c0 := h.cell ct_len i 0 _ hx (by decide)
  have c1 := h.cell ct_len i 1 _ hx (by decide)
  have e : (⟨g, 0, none⟩ : Addr).add (i * 2) = ⟨g, i * 2, none⟩ := by unfold Addr.add; split <;> simp_all
  refine ⟨_, rfl, hg, ?_, ?_, hp i hi⟩
  · rw [e]; exact c0
  · rw [e]; exact c1
theorem cap_of {α : Type} {f : α → List Value} {T s B c : Nat} {W : World} {A : Option Addr} {l : List α} (h : W.ownsRow B T s (.slice A l.length c) l.length (flatM f l)) : l.length ≤ c ∧ c ≤ 9223372036854775807 := by
  rcases h.2 with ⟨h2, hx⟩ | ⟨g, c', cur, hv, hb, hg, hnc, hcm, hcs, htk⟩
  · injection h2 with e1 e2 e3
    omega
  · cases hv
    unfold maxLen at hcm
    exact ⟨hnc, by omega⟩
end Go.Proofs.Ytlklnaebdnahcaa
namespace Go.Proofs.Ytlklnaebdnahcaa
open Go.RowKit Nw
theorem nsE_mk {dr bk : Int} (h : Cv.inB dr 0 1073741824 = true ∧ Cv.inB bk 0 1073741824 = true) : Sx.nsE ((1 : Nat) : Int) dr bk = 0 := by
  have h1 := Cv.inB_iff.1 h.1
  have h2 := Cv.inB_iff.1 h.2
  unfold Sx.nsE
  simp [h1, h2]
namespace Cv
theorem deE_ok {te : Int} {n : Nat} {ok : Bool} {cr ev sl dr bk : Int} (h : deE te n ok cr ev sl dr bk = 0) : te = 0 ∧ 1 ≤ n ∧ n ≤ 16 ∧ ok = true ∧ inB cr 0 1099511627776 = true ∧ 1 ≤ ev ∧ ev ≤ 1000 ∧ 1 ≤ sl ∧ sl ≤ 20 ∧ inB dr 0 1073741824 = true ∧ inB bk 0 1073741824 = true := by
  unfold deE at h
  split at h
  · assumption
  · cases h
theorem tarE_is {day fee : Int} {bs : List Bd} (h : tarE day fee bs = 0) : TarOk day fee bs := Classical.byContradiction fun hn => by rw [tarE_no hn] at h; cases h
end Cv
def toCn (c : Ct) : Cn := ⟨c.pt, c.ps⟩
def newCol (B : Nat) (col0 : Nat → Nat) (base N k : Nat) : Nat :=
  if k < B then col0 k else if k = N then base else if k = N + 1 then base + 9 else if k = N + 2 then base + 11 else if k = N + 3 then base + 12 else if k = N + 4 ∨ k = N + 5 then base + 14
  else if k = N + 6 then base + 16 else if k = N + 7 then base + 17 else if N + 8 ≤ k ∧ k < N + 14 then base + 1 + (k - (N + 8)) else base + 18
def lnC (N : Nat) : Nat → List Value → List Value
  | 0, l => l
  | i + 1, l => (lnC N i l).set (11 + i) (.pointer (some ⟨N + 8 + i, 0, none⟩))
theorem lnC_len (N : Nat) (l : List Value) : ∀ i, (lnC N i l).length = l.length
  | 0 => rfl
  | i + 1 => by unfold lnC; rw [List.length_set]; exact lnC_len N l i
theorem lnC_get (N : Nat) {i : Nat} (hi : i < 6) (l : List Value) (hl : l.length = 59) : ∃ v, (lnC N i l)[11 + i]? = some v := ⟨_, List.getElem?_eq_getElem (by rw [lnC_len, hl]; omega)⟩
def newM (A1 : Option Addr) (c1 : Nat) (C1 : Option Addr) (c2 : Nat) (ctk : List Ct) (N : Nat) : Mem := ⟨A1, c1, C1, c2, ctk, fun i => N + 8 + i, fun _ => none, fun _ => 0, none, 0, none, N + 1, none, N + 2, N + 3, none, 0, N + 4 + 1, N + 4, 1, fun _ => none, fun _ => 0, none, N + 6, N + 6 + 1⟩
theorem net_new {w wr : World} {N : Nat} {col0 : Nat → Nat} {base : Nat} {day fee : Int} {bs : List Bd} {A1 : Option Addr} {c1 : Nat} {C1 : Option Addr} {c2 : Nat} {cr ev sl dr bk : Int} {cs ctk : List Ct} (hN : w.heap.size ≤ N) (hs : wr.heap.size = N + 8 + 6)
    (hK : Blk wr N 81 (lnC N 6 [.bool true, .int .i64 day, .slice A1 bs.length c1, .int .i64 fee, .slice C1 ctk.length c2, .int .i64 cr, .int .i64 ev, .int .i64 sl, .int .i64 dr, .int .i64 bk, .int .i64 0, .pointer none, .pointer none, .pointer none, .pointer none, .pointer none, .pointer none, .slice none 0 0, .int .i64 0, .int .i64 0, .int .i64 0, .int .i64 0, .int .i64 0, .int .i64 0, .int .i64 0, .int .i64 0, .int .i64 0, .int .i64 0, .int .i64 0, .int .i64 0, .int .i64 0, .int .i64 0, .int .i64 0, .int .i64 0, .bool false, .int .i64 0, .map none, .int .i64 0, .int .i64 0, .int .i64 0, .int .i64 0, .map (some (N + 1)), .map none, .int .i64 0, .int .i64 0, .int .i64 0, .int .i64 0, .bool false, .int .i64 0, .int .i64 0, .int .i64 0, .int .i64 0, .pointer (some ⟨N + 2, 0, none⟩), .map (some (N + 3)), .slice none 0 0, .pointer (some ⟨N + 4 + 1, 0, none⟩), .map none, .map (some (N + 6)), .map (some (N + 6 + 1))])) (hvc : MpAt kI Nw.En.v wr (N + 1) []) (hpo : PostAt wr (N + 2) ⟨0, 0, 0, 0⟩) (hus : MpAt kP vB wr (N + 3) [])
    (hsi : SiteAt wr w.heap.size (N + 4 + 1) (N + 4) 1 (fun _ => none) (fun _ => 0) (Sx.cs0 1) dr bk 0) (hpc : MpAt kI kI wr (N + 6) []) (hpd : MpAt kI vB wr (N + 6 + 1) []) (hln : ∀ i, i < 6 → LineAt wr w.heap.size (N + 8 + i) none 0 Lx.ln0)
    (hbd : BandsAt wr A1 bs) (hct : CtsAt wr C1 ctk) (hde : ∀ q, (OwnB A1 q ∨ OwnB C1 q ∨ ∃ c ∈ ctk, OwnB c.A q) → w.heap.size ≤ q ∧ q < N) (hcap : bs.length ≤ c1 ∧ c1 ≤ 9223372036854775807 ∧ ctk.length ≤ c2 ∧ c2 ≤ 9223372036854775807) (hcn : ctk.map toCn = cs.map toCn) :
    NetAt wr w.heap.size N (newCol w.heap.size col0 base N) base ⟨day, fee, bs, cs.map toCn, cr, ev, sl, dr, bk⟩ (newM A1 c1 C1 c2 ctk N) st0 where
  blk := hK
  bB := hN
  c0 := by unfold newCol; rw [if_neg (by omega), if_pos rfl]
  ln := fun i hi => by
    have e : Nw.ln st0 i = Lx.ln0 := by
      match i, hi with
      | 0, _ => rfl
      | 1, _ => rfl
      | 2, _ => rfl
      | 3, _ => rfl
      | 4, _ => rfl
      | 5, _ => rfl
    rw [e]
    exact hln i hi
  lc := fun i hi => ⟨by
    show newCol w.heap.size col0 base N (N + 8 + i) = base + 1 + i
    unfold newCol
    rw [if_neg (by omega), if_neg (by omega), if_neg (by omega), if_neg (by omega), if_neg (by omega), if_neg (by omega), if_neg (by omega), if_neg (by omega), if_pos (by omega)]
    omega, fun k hk => (by obtain ⟨a, ea, _⟩ := hk; cases ea)⟩
  ll := rfl
  fl := World.ownsRow_nil _ _ _ _
  fc := fun k hk => (by obtain ⟨a, ea, _⟩ := hk; cases ea)
  pg := rfl
  vb := rfl
  vbc := fun k e => (by cases e)
  vc := hvc
  vcc := by
    show newCol w.heap.size col0 base N (N + 1) = base + 9
    unfold newCol
    rw [if_neg (by omega), if_neg (by omega), if_pos rfl]
  sb := rfl
  sbc := fun k e => (by cases e)
  po := hpo
  poc := by
    show newCol w.heap.size col0 base N (N + 2) = base + 11
    unfold newCol
    rw [if_neg (by omega), if_neg (by omega), if_neg (by omega), if_pos rfl]
  us := hus
  usc := by
    show newCol w.heap.size col0 base N (N + 3) = base + 12
    unfold newCol
    rw [if_neg (by omega), if_neg (by omega), if_neg (by omega), if_neg (by omega), if_pos rfl]
  ac := World.ownsRow_nil _ _ _ _
  acc := fun k hk => (by obtain ⟨a, ea, _⟩ := hk; cases ea)
  si := hsi
  sic := fun k hk => by
    have hc : newCol w.heap.size col0 base N (N + 4) = base + 14 ∧ newCol w.heap.size col0 base N (N + 4 + 1) = base + 14 := by
      unfold newCol
      rw [if_neg (by omega), if_neg (by omega), if_neg (by omega), if_neg (by omega), if_neg (by omega), if_pos (by omega), if_neg (by omega), if_neg (by omega), if_neg (by omega), if_neg (by omega), if_neg (by omega), if_pos (by omega)]
      exact ⟨rfl, rfl⟩
    rcases hk with rfl | rfl | ⟨i, _, ⟨a, ea, _⟩⟩
    · exact hc.2
    · exact hc.1
    · cases ea
  pb := rfl
  pbc := fun k e => (by cases e)
  pc := hpc
  pcc := by
    show newCol w.heap.size col0 base N (N + 6) = base + 16
    unfold newCol
    rw [if_neg (by omega), if_neg (by omega), if_neg (by omega), if_neg (by omega), if_neg (by omega), if_neg (by omega), if_pos rfl]
  pd := ⟨[], hpd, fun _ => rfl⟩
  pdc := by
    show newCol w.heap.size col0 base N (N + 6 + 1) = base + 17
    unfold newCol
    rw [if_neg (by omega), if_neg (by omega), if_neg (by omega), if_neg (by omega), if_neg (by omega), if_neg (by omega), if_neg (by omega), if_pos (by omega)]
  de := ⟨hbd, hct⟩
  dec := fun q hq => by
    have h1 := hde q hq
    refine ⟨by omega, ?_⟩
    unfold newCol
    rw [if_neg (by omega), if_neg (by omega), if_neg (by omega), if_neg (by omega), if_neg (by omega), if_neg (by omega), if_neg (by omega), if_neg (by omega), if_neg (by omega)]
  cap := hcap
  cn := hcn
structure LoopP (w W : World) (gd s2 s3 s4 : Nat) (day fee : Int) (bs : List Bd) (A1 : Option Addr) (c1 : Nat) (C1 : Option Addr) (c2 m : Nat) (cr ev sl dr bk : Int) (cs ctk : List Ct) (k : Nat) : Prop where
  b : Below w.heap.size w W
  g : Blk W gd 27 [.int .i64 day, .slice A1 bs.length c1, .int .i64 fee, .slice C1 m c2, .int .i64 cr, .int .i64 ev, .int .i64 sl, .int .i64 dr, .int .i64 bk]
  r1 : OwnR bdV 52 3 s2 W A1 c1 bs
  r2 : OwnR ctV 48 2 s3 W C1 c2 ctk
  l : ctk.length = m ∧ ctk.map toCn = cs.map toCn
  p : ∀ i, i < k → OwnR pdV 45 1 s4 W (ctk.getD i default).A (ctk.getD i default).cap (ctk.getD i default).ps
  o : ∀ i, k ≤ i → ctk.getD i default = cs.getD i default
  s : s4 ≤ W.heap.size
theorem LoopP.below {w W W' : World} {gd s2 s3 s4 : Nat} {day fee : Int} {bs : List Bd} {A1 : Option Addr} {c1 : Nat} {C1 : Option Addr} {c2 m : Nat} {cr ev sl dr bk : Int} {cs ctk : List Ct} {k : Nat} (h : LoopP w W gd s2 s3 s4 day fee bs A1 c1 C1 c2 m cr ev sl dr bk cs ctk k) (hb : Below W.heap.size W W') : LoopP w W' gd s2 s3 s4 day fee bs A1 c1 C1 c2 m cr ev sl dr bk cs ctk k :=
  ⟨h.b.trans (hb.mono h.b.size), h.g.below hb h.g.lt, h.r1.below hb, h.r2.below hb, h.l, fun i hi => (h.p i hi).below hb, h.o, Nat.le_trans h.s hb.size⟩
set_option maxRecDepth 100000 in
set_option maxHeartbeats 8000000 in
theorem NewNet_0 (day fee : Int) (A : Option Addr) (bs : List Bd) (cap : Nat) (C : Option Addr) (cs : List Ct) (cc : Nat) (cr ev sl dr bk : Int) (w : World) (hcap : bs.length ≤ cap) (hl : cap ≤ 9223372036854775807) (hw : BandsAt w A bs) (hcc : cs.length ≤ cc) (hl2 : cc ≤ 9223372036854775807) (hw2 : CtsAt w C cs)
    (he : Cv.deE (Cv.tarE day fee bs) cs.length (Cv.ctsOk cs) cr ev sl dr bk = 0) (col0 : Nat → Nat) (base : Nat) :
    Calls Try.prog 5 #[dealV day fee A bs cap C cs cc cr ev sl dr bk] w fun e w' => ∃ n col M, e = .returned (.tuple #[.pointer (some ⟨n, 0, none⟩), .int .i64 0]) ∧ NetAt w' w.heap.size n col base ⟨day, fee, bs, cs.map toCn, cr, ev, sl, dr, bk⟩ M st0 ∧ (∀ k, k < w.heap.size → col k = col0 k) ∧ Below w.heap.size w w' := by
  have hok := Cv.deE_ok he
  have hm48 : bs.length ≤ 48 := (Cv.tarE_is hok.1).2.1.2
  have hct := Cv.ctsOk_iff.1 hok.2.2.2.1
  have hp5 : ∀ i, i < cs.length → (cs.getD i default).ps.length ≤ 5000 := fun i hi => by
    have := hct i hi
    unfold Cv.ctOk at this
    simp only [Bool.and_eq_true, decide_eq_true_eq] at this
    exact this.1.2.2
  obtain ⟨m, hm⟩ : ∃ m, m = cs.length := ⟨_, rfl⟩
  have HM := Lib.hid hm
  have hm16 : m ≤ 16 := by rw [hm]; exact hok.2.2.1
  have HM16 := Lib.hid hm16
  have H48 := Lib.hid hm48
  have HP5 := Lib.hid hp5
  have HDR := Lib.hid hok.2.2.2.2.2.2.2.2.2
  have HNS := Lib.hid (show Sx.nsE ((1 : Nat) : Int) dr bk = 0 from nsE_mk hok.2.2.2.2.2.2.2.2.2)
  have PC := Lib.hid (fun V (hV : Below w.heap.size w V) => CheckDeal_c day fee A bs cap C cs cc cr ev sl dr bk V hcap hl (hw.below hV) hcc hl2 (hw2.below hV))
  rw [he] at PC
  have PB := Lib.hid (fun V (hV : Below w.heap.size w V) => CloneBd_c A bs.length cap (flatM bdV bs) V (src_below (bands_src hw).1 hV) (flatM_length bd_len bs) (flatM_one1 bd_one bs) (bands_src hw).2 (by omega))
  have PT := Lib.hid (fun V (hV : Below w.heap.size w V) => CloneCt_c C cs.length cc (flatM ctV cs) V (src_below (cts_src hw2).1 hV) (flatM_length ct_len cs) (flatM_one1 ct_one cs) (cts_src hw2).2 (by omega))
  have HCA := Lib.hid (show ∀ i, i < cs.length → Ct.At w (cs.getD i default) from fun i hi => by obtain ⟨_, _, _, _, _, h⟩ := hw2 i hi; exact h)
  have HA := Lib.hid ((Below.refl w.heap.size w).alloc (Nat.le_refl _) (.cells #[.int .i64 day, .slice A bs.length cap, .int .i64 fee, .slice C cs.length cc, .int .i64 cr, .int .i64 ev, .int .i64 sl, .int .i64 dr, .int .i64 bk] 27))
  have HX := Lib.hid (Blk.new' w #[.int .i64 day, .slice A bs.length cap, .int .i64 fee, .slice C cs.length cc, .int .i64 cr, .int .i64 ev, .int .i64 sl, .int .i64 dr, .int .i64 bk] 27)
  clear hok hm48 hct hp5 hm hm16 he hw hw2
  go_enter Try.func5, Try.ntmps5
  go_upto_region 1 with fail
  generalize w.alloc (.cells #[.int .i64 day, .slice A bs.length cap, .int .i64 fee, .slice C cs.length cc, .int .i64 cr, .int .i64 ev, .int .i64 sl, .int .i64 dr, .int .i64 bk] 27) = w1 at HA HX ⊢
  obtain ⟨gd, hgd⟩ : ∃ gd, gd = w.heap.size := ⟨_, rfl⟩
  rw [← hgd] at HX ⊢
  have HGD := Lib.hid hgd
  clear hgd
  have x0 := HX.out.cell 0 rfl
  have x1 := HX.out.cell 1 rfl
  have x2 := HX.out.cell 2 rfl
  have x3 := HX.out.cell 3 rfl
  have x4 := HX.out.cell 4 rfl
  have x5 := HX.out.cell 5 rfl
  have x6 := HX.out.cell 6 rfl
  have x7 := HX.out.cell 7 rfl
  have x8 := HX.out.cell 8 rfl
  have xl := HX.out.lt
  go_upto_region 4 with (go_at_call 13; refine (PC.out _ HA.out).mono ?_; rintro e w2 ⟨rfl, hb2⟩; have HB2 := Lib.hid hb2; clear hb2)
  have HX2 := Lib.hid (HX.out.below HB2.out HX.out.lt)
  have HA2 := Lib.hid (HA.out.trans (HB2.out.mono HA.out.size))
  clear HX HA HB2 PC
  clear x0 x1 x2 x3 x4 x5 x6 x7 x8 xl
  have x1 := HX2.out.cell 1 rfl
  have x3 := HX2.out.cell 3 rfl
  have xl := HX2.out.lt
  have HCC := Lib.hid (fun W (hW : Below w2.heap.size w2 W) => (show W.cell? ⟨gd, 1, none⟩ = some (.slice A bs.length cap) ∧ W.cell? ⟨gd, 3, none⟩ = some (.slice C cs.length cc) from ⟨(HX2.out.below hW HX2.out.lt).cell 1 rfl, (HX2.out.below hW HX2.out.lt).cell 3 rfl⟩))
  refine lBegin (S := fun L W => (True) ∧ (L.getD 9 false = true ∨ (W.cell? ⟨gd, 1, none⟩ = some (.slice A bs.length cap) ∧ W.cell? ⟨gd, 3, none⟩ = some (.slice C cs.length cc)))) (by kernel_rfl) ?_ (fun hHeld => ?_)
  · (try dsimp only); refine ⟨?_, Or.inr ?_⟩
    · (first | trivial | with_reducible assumption)
    · (first | with_reducible exact HCC.out _ (Below.refl _ _).drew | with_reducible exact HCC.out _ HB4.out | with_reducible exact HCC.out _ HB3.out)
  refine lTake (i := 0) (v := ?_) rfl (by kernel_rfl) (by kernel_rfl) (by kernel_rfl) (fun _ _ _ h => h) (by rfl) (fun _ _ h => by simpa only [getD_set_ne false (show 0 ≠ 9 by decide)] using h) (fun _ _ h => by simpa only [getD_set_ne false (show 0 ≠ 9 by decide)] using h) ?_ (by assumption) (fun hHeld2 => ?_)
  rotate_left 1
  · (intro _ _ _ _ _; first | (go_simp; done) | (go_simp; with_reducible rfl))
  clear hHeld; have hHeld := hHeld2; clear hHeld2
  (try simp only [Act.put, List.setIfInBounds_toArray, List.set_cons_zero, List.set_cons_succ])
  refine lTake (i := 1) (v := ?_) rfl (by kernel_rfl) (by kernel_rfl) (by kernel_rfl) (fun _ _ _ h => h) (by rfl) (fun _ _ h => by simpa only [getD_set_ne false (show 1 ≠ 9 by decide)] using h) (fun _ _ h => by simpa only [getD_set_ne false (show 1 ≠ 9 by decide)] using h) ?_ (by assumption) (fun hHeld2 => ?_)
  rotate_left 1
  · (intro _ _ _ _ _; first | (go_simp; done) | (go_simp; with_reducible rfl))
  clear hHeld; have hHeld := hHeld2; clear hHeld2
  (try simp only [Act.put, List.setIfInBounds_toArray, List.set_cons_zero, List.set_cons_succ])
  refine lTake (i := 2) (v := ?_) rfl (by kernel_rfl) (by kernel_rfl) (by kernel_rfl) (fun _ _ _ h => h) (by rfl) (fun _ _ h => by simpa only [getD_set_ne false (show 2 ≠ 9 by decide)] using h) (fun _ _ h => by simpa only [getD_set_ne false (show 2 ≠ 9 by decide)] using h) ?_ (by assumption) (fun hHeld2 => ?_)
  rotate_left 1
  · (intro L W hL hK hSw; (try dsimp only at hSw); obtain ⟨h0, h1⟩ := hSw; replace h1 := still [] hK hL (by kernel_rfl) h1; clear hL hK; first | (go_simp; done) | (go_simp; with_reducible rfl))
  clear hHeld; have hHeld := hHeld2; clear hHeld2
  (try simp only [Act.put, List.setIfInBounds_toArray, List.set_cons_zero, List.set_cons_succ])
  refine lTake (i := 4) (v := ?_) rfl (by kernel_rfl) (by kernel_rfl) (by kernel_rfl) (fun _ _ _ h => h) (by rfl) (fun _ _ h => by simpa only [getD_set_ne false (show 4 ≠ 9 by decide)] using h) (fun _ _ h => by simpa only [getD_set_ne false (show 4 ≠ 9 by decide)] using h) ?_ (by assumption) (fun hHeld2 => ?_)
  rotate_left 1
  · (intro _ _ _ _ _; first | (go_simp; done) | (go_simp; with_reducible rfl))
  clear hHeld; have hHeld := hHeld2; clear hHeld2
  (try simp only [Act.put, List.setIfInBounds_toArray, List.set_cons_zero, List.set_cons_succ])
  refine lTake (i := 5) (v := ?_) rfl (by kernel_rfl) (by kernel_rfl) (by kernel_rfl) (fun _ _ _ h => h) (by rfl) (fun _ _ h => by simpa only [getD_set_ne false (show 5 ≠ 9 by decide)] using h) (fun _ _ h => by simpa only [getD_set_ne false (show 5 ≠ 9 by decide)] using h) ?_ (by assumption) (fun hHeld2 => ?_)
  rotate_left 1
  · (intro L W hL hK hSw; (try dsimp only at hSw); obtain ⟨h0, h1⟩ := hSw; replace h1 := still [] hK hL (by kernel_rfl) h1; clear hL hK; first | (go_simp; done) | (go_simp; with_reducible rfl))
  clear hHeld; have hHeld := hHeld2; clear hHeld2
  (try simp only [Act.put, List.setIfInBounds_toArray, List.set_cons_zero, List.set_cons_succ])
  refine lReady (rs := [3]) (by kernel_rfl) (by simp) ?_
  refine AllL.cons (i := 3) rfl (fun K hK => ?_) ?_
  · go_simp; (refine (PB.out _ (HA2.out.drew)).mono ?_; rintro e w3 ⟨A1, c1, rfl, hr3, hb3⟩; have HR3 := Lib.hid hr3; have HB3 := Lib.hid (show Below w2.heap.size w2 w3 from ((Below.refl _ _).drew).trans hb3); have HA3 := Lib.hid (show Below w.heap.size w w3 from HA2.out.drew.trans (hb3.mono HA2.out.size)); clear hr3 hb3)
    (try go_wp2_with fail)
    refine hK.out _ _ ?_ (fun hHeld2 => ?_)
    · (try dsimp only); refine ⟨?_, Or.inr ?_⟩
      · (first | trivial | with_reducible assumption)
      · (first | with_reducible exact HCC.out _ (Below.refl _ _).drew | with_reducible exact HCC.out _ HB4.out | with_reducible exact HCC.out _ HB3.out)
    clear hK K
    clear hHeld; have hHeld := hHeld2; clear hHeld2
    (try simp only [Act.put, List.setIfInBounds_toArray, List.set_cons_zero, List.set_cons_succ])
    refine lTake (i := 7) (v := ?_) rfl (by kernel_rfl) (by kernel_rfl) (by kernel_rfl) (fun _ _ _ h => h) (by rfl) (fun _ _ h => by simpa only [getD_set_ne false (show 7 ≠ 9 by decide)] using h) (fun _ _ h => by simpa only [getD_set_ne false (show 7 ≠ 9 by decide)] using h) ?_ (by assumption) (fun hHeld2 => ?_)
    rotate_left 1
    · (intro _ _ _ _ _; first | (go_simp; done) | (go_simp; with_reducible rfl))
    clear hHeld; have hHeld := hHeld2; clear hHeld2
    (try simp only [Act.put, List.setIfInBounds_toArray, List.set_cons_zero, List.set_cons_succ])
    refine lTake (i := 8) (v := ?_) rfl (by kernel_rfl) (by kernel_rfl) (by kernel_rfl) (fun _ _ _ h => h) (by rfl) (fun _ _ h => by simpa only [getD_set_ne false (show 8 ≠ 9 by decide)] using h) (fun _ _ h => by simpa only [getD_set_ne false (show 8 ≠ 9 by decide)] using h) ?_ (by assumption) (fun hHeld2 => ?_)
    rotate_left 1
    · (intro _ _ _ _ _; first | (go_simp; done) | (go_simp; with_reducible rfl))
    clear hHeld; have hHeld := hHeld2; clear hHeld2
    (try simp only [Act.put, List.setIfInBounds_toArray, List.set_cons_zero, List.set_cons_succ])
    refine lReady (rs := [6]) (by kernel_rfl) (by simp) ?_
    refine AllL.cons (i := 6) rfl (fun K hK => ?_) ?_
    · go_simp; (refine (PT.out _ HA3.out).mono ?_; rintro e w4 ⟨C1, c2, rfl, hr4, hb4⟩; have HR4 := Lib.hid hr4; have HB4 := Lib.hid (show Below w2.heap.size w2 w4 from HB3.out.trans (hb4.mono HB3.out.size)); have HB34 := Lib.hid hb4; clear hr4 hb4; have HX4 := Lib.hid (HX2.out.below HB4.out HX2.out.lt); have f1 := HX4.out.free 1; have f3 := HX4.out.free 3; have x1 := HX4.out.cell 1 rfl; have x3 := HX4.out.cell 3 rfl; have xl4 := HX4.out.lt)
      (try go_wp2_with fail)
      refine hK.out _ _ ?_ (fun hHeld2 => ?_)
      · (try dsimp only); refine ⟨?_, Or.inr ?_⟩
        · (first | trivial | with_reducible assumption)
        · (first | with_reducible exact HCC.out _ (Below.refl _ _).drew | with_reducible exact HCC.out _ HB4.out | with_reducible exact HCC.out _ HB3.out)
      clear hK K
      clear hHeld; have hHeld := hHeld2; clear hHeld2
      (try simp only [Act.put, List.setIfInBounds_toArray, List.set_cons_zero, List.set_cons_succ])
      refine lReady (rs := [9]) (by kernel_rfl) (by simp) ?_
      refine AllL.cons (i := 9) rfl (fun K hK => ?_) ?_
      · go_simp
        (try go_wp2_with fail)
        refine hK.out _ _ ?_ (fun hHeld2 => ?_)
        · (try dsimp only); refine ⟨?_, Or.inl (by rfl)⟩
          · (first | trivial | with_reducible assumption)
        clear hK K
        clear hHeld; have hHeld := hHeld2; clear hHeld2
        (try simp only [Act.put, List.setIfInBounds_toArray, List.set_cons_zero, List.set_cons_succ])
        refine lTake (i := 10) (v := ?_) rfl (by kernel_rfl) (by kernel_rfl) (by kernel_rfl) (fun _ _ _ h => h) (by rfl) (fun _ _ h => by simpa only [getD_set_ne false (show 10 ≠ 9 by decide)] using h) (fun _ _ h => by simpa only [getD_set_ne false (show 10 ≠ 9 by decide)] using h) ?_ (by assumption) (fun hHeld2 => ?_)
        rotate_left 1
        · (intro _ _ _ _ _; first | (go_simp; done) | (go_simp; with_reducible rfl))
        clear hHeld; have hHeld := hHeld2; clear hHeld2
        (try simp only [Act.put, List.setIfInBounds_toArray, List.set_cons_zero, List.set_cons_succ])
        refine lReady (rs := [11]) (by kernel_rfl) (by simp) ?_
        refine AllL.cons (i := 11) rfl (fun K hK => ?_) ?_
        · go_simp
          (try go_wp2_with fail)
          refine hK.out _ _ ?_ (fun hHeld2 => ?_)
          · (try dsimp only); refine ⟨?_, Or.inl (by rfl)⟩
            · (first | trivial | with_reducible assumption)
          clear hK K
          clear hHeld; have hHeld := hHeld2; clear hHeld2
          (try simp only [Act.put, List.setIfInBounds_toArray, List.set_cons_zero, List.set_cons_succ])
          refine lDone (by kernel_rfl) ?_ _
          have HTG : Touch (fun k => k = gd) w4 ((w4.setCell ⟨gd, 1, none⟩ (.slice A1 bs.length c1)).setCell ⟨gd, 3, none⟩ (.slice C1 cs.length c2)) := ((Touch.refl _ _).put 1 _).put 3 _
          have HG2 := Lib.hid HX2.out.lt
          have hr3 : OwnR bdV 52 3 w2.heap.size w3 A1 c1 bs := HR3.out
          have hr4 : OwnR ctV 48 2 w3.heap.size w4 C1 c2 cs := HR4.out
          have HS23 := Lib.hid HB3.out.size
          have HS34 := Lib.hid HB34.out.size
          obtain ⟨s3, hs3⟩ : ∃ s3, s3 = w3.heap.size := ⟨_, rfl⟩
          obtain ⟨s4, hs4⟩ : ∃ s4, s4 = w4.heap.size := ⟨_, rfl⟩
          have HLP : Hid (LoopP w ((w4.setCell ⟨gd, 1, none⟩ (.slice A1 bs.length c1)).setCell ⟨gd, 3, none⟩ (.slice C1 cs.length c2)) gd w2.heap.size s3 s4 day fee bs A1 c1 C1 c2 m cr ev sl dr bk cs cs 0) := by
            refine Lib.hid ?_
            refine LoopP.mk ?zb ?zg ?zr1 ?zr2 ?zl ?zp ?zo ?zs
            case zb => exact Below.touch (HA2.out.trans (HB4.out.mono HA2.out.size)) (Nat.le_trans HA2.out.size HB4.out.size) HTG (fun k e => by rw [e, HGD.out]; exact Nat.le_refl _)
            case zg => rw [HM.out]; exact ((HX4.out).setCell 1 _).setCell 3 _
            case zr1 => exact (hr3.below HB34.out).touch HTG (fun k hk e => by have := (rowE_lt HR3.out hk).1; have h0 : w2.heap.size ≤ k := this; have := HG2.out; omega)
            case zr2 => rw [hs3]; exact hr4.touch HTG (fun k hk e => by have := (rowE_lt HR4.out hk).1; have := HG2.out; have := HS23.out; omega)
            case zl => exact ⟨HM.out.symm, rfl⟩
            case zp => exact fun i hi => absurd hi (Nat.not_lt_zero _)
            case zo => exact fun _ _ => rfl
            case zs => rw [hs4]; exact HTG.size
          have HA1 := Lib.hid (show ∀ k, OwnB A1 k → k < s3 from fun k hk => by rw [hs3]; exact (rowE_lt HR3.out hk).2)
          have HC1 := Lib.hid (show ∀ k, OwnB C1 k → k < s4 from fun k hk => by rw [hs4]; exact (rowE_lt HR4.out hk).2)
          rw [← hs3] at HS23 HS34
          rw [← hs4] at HS34
          clear hs3 hs4 hr3 hr4 HTG x1 x3 xl4 f1 f3 xl HX4 HB4 HB34 HR4 HB3 HR3 HA3
          generalize (w4.setCell ⟨gd, 1, none⟩ (.slice A1 bs.length c1)).setCell ⟨gd, 3, none⟩ (.slice C1 cs.length c2) = W at HLP ⊢
          rw [← HM.out]
          obtain ⟨s2, hs2⟩ : ∃ s2, s2 = w2.heap.size := ⟨_, rfl⟩
          rw [← hs2] at HLP HG2 HS23
          clear hs2 HCC PB PT HX2 HA2
          have g3 := HLP.out.g.cell 3 rfl
          have gl := HLP.out.g.lt
          go_upto_region 6 with fail
          clear g3 gl
          go_loopw [26] (fun v wr => ∃ (k : Nat) (ctk : List Ct), k ≤ m ∧ v = .int .i64 k ∧ Hid (LoopP w wr gd s2 s3 s4 day fee bs A1 c1 C1 c2 m cr ev sl dr bk cs ctk k)) (fun v _ => m - (intOf v).toNat)
          case atStart => exact ⟨0, cs, Nat.zero_le _, rfl, HLP⟩
          case round =>
            obtain ⟨k, ctk, hk, rfl, HL⟩ := hrel
            by_cases hlt : k < m
            · have hki : (k : Int) < (m : Int) := by omega
              have hm16 : m ≤ 16 := HM16.out
              have HLT := Lib.hid hlt
              have hlk : ctk.length = m := HL.out.l.1
              obtain ⟨gc, hgc, hgb, hgl, hgcap, hgcm⟩ := HL.out.r2.form (by omega)
              have HGC := Lib.hid hgc
              have hmc : m ≤ c2 := by rw [← hlk]; exact hgcap
              have HGL := Lib.hid (show gc < s4 from HC1.out gc (by rw [hgc]; exact ⟨_, rfl, rfl⟩))
              have HGB := Lib.hid (show s3 ≤ gc from hgb)
              have HKA := Lib.hid (getElem_D ctk k default (show k < ctk.length by omega))
              obtain ⟨x, hx⟩ : ∃ x, x = ctk.getD k default := ⟨_, rfl⟩
              rw [← hx] at HKA
              have HXC := Lib.hid (show x = cs.getD k default by rw [hx]; exact HL.out.o k (Nat.le_refl _))
              have HXX := Lib.hid hx
              have HLK := Lib.hid hlk
              clear hlt hlk hgc hgb hgl hgcap hgcm hx
              go_upto_region 8 with fail
              refine wp_region_spine 9 [true] [] ?af8 (fun V => LoopP w V gd s2 s3 s4 day fee bs A1 c1 C1 c2 m cr ev sl dr bk cs ctk k ∧ Below wr.heap.size wr V) (by kernel_rfl) (by kernel_rfl) ⟨HL.out.below ((Below.refl _ _).drew), (Below.refl _ _).drew⟩ ?walk8 ?spine8
              case walk8 =>
                rintro V ⟨h1, _⟩
                have g3 := h1.g.cell 3 rfl
                have gl := h1.g.lt
                rw [HGC.out] at g3
                have hr := h1.r2
                rw [HGC.out] at hr
                have q0 := hr.cell ct_len k 0 x HKA.out (by decide)
                have q1 := hr.cell ct_len k 1 x HKA.out (by decide)
                simp only [ctV, List.getElem?_cons_zero, List.getElem?_cons_succ, Nat.add_zero] at q0 q1
                have ql := hr.lt.2
                clear hr h1
                simp only [List.take_succ_cons, List.take_zero]
                repeat (go_big_quiet_step (fail))
                refine wpQuiet_nil ?_
                rfl
              case spine8 =>
                rintro V ⟨h1, h2⟩
                have HV := Lib.hid h1
                have HWV := Lib.hid h2
                clear h1 h2
                have hpa : PadsAt V x.A x.ps := by
                  have := (HCA.out k (by have := HLT.out; have := HM.out; omega)).1
                  rw [← HXC.out] at this
                  exact this.below HV.out.b
                have hpl : x.ps.length ≤ 1000000 := by
                  have := HP5.out k (by have := HLT.out; have := HM.out; omega)
                  rw [← HXC.out] at this
                  omega
                have PP := Lib.hid (ClonePd_c x.A x.ps.length x.cap (flatM pdV x.ps) V (pads_src hpa).1 (by rw [flatM_length pd_len]) (flatM_one1 pd_one x.ps) (pads_src hpa).2 hpl)
                clear hpa hpl
                refine spineV_cons ?_
                refine stepV_call (f := 16) (args := #[.slice x.A x.ps.length x.cap]) (fun _ => by kernel_rfl) ?_
                refine PP.out.mono ?_
                rintro e w5 ⟨A2, cp2, rfl, hr5, hb5⟩
                refine ⟨_, rfl, fun _ => ⟨HV.out.below hb5, HWV.out.trans (hb5.mono HWV.out.size)⟩, ?_⟩
                have HV5 := Lib.hid (HV.out.below hb5)
                have HR5 := Lib.hid (show OwnR pdV 45 1 V.heap.size w5 A2 cp2 x.ps from hr5)
                have HB5 := Lib.hid hb5
                clear hr5 hb5 PP
                refine spineV_nil ?_
                (try simp only [Act.put, List.setIfInBounds_toArray, List.set_cons_zero, List.set_cons_succ])
                (try simp only [List.drop_succ_cons, List.drop_zero, List.length_cons, List.length_nil])
                have hr := HV5.out.r2
                rw [HGC.out] at hr
                have q1 := hr.cell ct_len k 1 x HKA.out (by decide)
                simp only [ctV, List.getElem?_cons_zero, List.getElem?_cons_succ] at q1
                have ql := hr.lt.2
                have qf := hr.free (k * 2 + 1)
                clear hr
                go_wp2_with fail
                obtain ⟨x', hx'⟩ : ∃ x' : Ct, x' = { x with A := A2, cap := cp2 } := ⟨_, rfl⟩
                have HTG : Touch (fun k => k = gc) w5 (w5.setCell ⟨gc, k * 2 + 1, none⟩ (.slice A2 x.ps.length cp2)) := (Touch.refl _ _).put (k * 2 + 1) _
                have hgl := HGL.out
                have hgb := HGB.out
                have hg2 := HG2.out
                have hs23 := HS23.out
                have hs4 := HV.out.s
                have hlk := HLK.out
                have hlt := HLT.out
                have hnew : LoopP w (w5.setCell ⟨gc, k * 2 + 1, none⟩ (.slice A2 x.ps.length cp2)) gd s2 s3 s4 day fee bs A1 c1 C1 c2 m cr ev sl dr bk cs (ctk.set k x') (k + 1) := by
                  refine LoopP.mk ?zb ?zg ?zr1 ?zr2 ?zl ?zp ?zo ?zs
                  case zb => exact Below.touch HV5.out.b HV5.out.b.size HTG (fun q e => by rw [e, ← HGD.out]; omega)
                  case zg => exact HV5.out.g.touch HTG (by omega)
                  case zr1 => exact HV5.out.r1.touch HTG (fun q hq e => by have := HA1.out q hq; omega)
                  case zr2 =>
                    have hr := HV5.out.r2
                    rw [HGC.out] at hr ⊢
                    exact hr.put ct_len k 1 x' x _ HKA.out (by decide) (by rw [hx']; rfl)
                  case zl =>
                    refine ⟨by rw [List.length_set]; exact hlk, ?_⟩
                    rw [List.map_set, ← HL.out.l.2]
                    have : toCn x' = toCn x := by rw [hx']; rfl
                    rw [this]
                    refine List.ext_getElem? (fun i => ?_)
                    rw [List.getElem?_set]
                    split
                    · rename_i e
                      subst e
                      rw [if_pos (by rw [List.length_map]; omega), List.getElem?_map, HKA.out]
                      rfl
                    · rfl
                  case zp =>
                    intro i hi
                    by_cases e : i = k
                    · subst e
                      have hg : (ctk.set i x').getD i default = x' := by rw [List.getD_eq_getElem?_getD, List.getElem?_set_self (by omega)]; rfl
                      rw [hg, hx']
                      exact (HR5.out.mono hs4).touch HTG (fun q hq e => by have h1 := (rowE_lt HR5.out hq).1; omega)
                    · have hg : (ctk.set k x').getD i default = ctk.getD i default := by rw [List.getD_eq_getElem?_getD, List.getElem?_set_ne (fun e2 => e e2.symm), ← List.getD_eq_getElem?_getD]
                      rw [hg]
                      exact (HV5.out.p i (by omega)).touch HTG (fun q hq e2 => by have h1 := (rowE_lt (HV5.out.p i (by omega)) hq).1; omega)
                  case zo =>
                    intro i hi
                    have hg : (ctk.set k x').getD i default = ctk.getD i default := by rw [List.getD_eq_getElem?_getD, List.getElem?_set_ne (by omega), ← List.getD_eq_getElem?_getD]
                    rw [hg]
                    exact HV5.out.o i (by omega)
                  case zs => exact Nat.le_trans HV5.out.s HTG.size
                exact ⟨⟨k + 1, ctk.set k x', by omega, by simp, Lib.hid hnew⟩, by simp only [intOf]; omega⟩
            · obtain rfl : m = k := by omega
              clear hlt
              have HBD := Lib.hid (row_bands HL.out.r1)
              have HCT := Lib.hid (row_cts HL.out.r2 (fun i hi => ⟨row_pads (HL.out.p i (by have := HL.out.l.1; omega)), cap_of (HL.out.p i (by have := HL.out.l.1; omega))⟩))
              have HC1B := Lib.hid (cap_of HL.out.r1)
              have HC2B := Lib.hid (show m ≤ c2 ∧ c2 ≤ 9223372036854775807 by have := cap_of HL.out.r2; rwa [HL.out.l.1] at this)
              have HDE := Lib.hid (show ∀ q, (OwnB A1 q ∨ OwnB C1 q ∨ ∃ c ∈ ctk, OwnB c.A q) → w.heap.size ≤ q ∧ q < wr.heap.size from fun q hq => by
                have hgd := HGD.out
                have hg2 := HG2.out
                have hs23 := HS23.out
                have hs34 := HS34.out
                rcases hq with hq | hq | ⟨c, hc, hq⟩
                · have := rowE_lt HL.out.r1 hq; omega
                · have := rowE_lt HL.out.r2 hq; omega
                · obtain ⟨i, hi, rfl⟩ := List.mem_iff_getElem.1 hc
                  have e : ctk.getD i default = ctk[i] := by rw [List.getD_eq_getElem?_getD, List.getElem?_eq_getElem hi]; rfl
                  have := rowE_lt (HL.out.p i (by have := HL.out.l.1; omega)) (by rw [e]; exact hq)
                  omega)
              have HLL := Lib.hid HL.out.l
              have HBW := Lib.hid HL.out.b
              have q0 := HL.out.g
              have g0 := q0.cell 0 rfl
              have g1 := q0.cell 1 rfl
              have g2 := q0.cell 2 rfl
              have g3 := q0.cell 3 rfl
              have g4 := q0.cell 4 rfl
              have g5 := q0.cell 5 rfl
              have g6 := q0.cell 6 rfl
              have g7 := q0.cell 7 rfl
              have g8 := q0.cell 8 rfl
              have gl := q0.lt
              clear q0
              go_upto_region 11 with fail
              clear g0 g1 g2 g3 g4 g5 g6 g7 g8 gl
              obtain ⟨N, hN⟩ : ∃ N, N = wr.heap.size := ⟨_, rfl⟩
              have HN := Lib.hid hN
              have HB1 := Lib.hid ((Below.refl wr.heap.size wr).alloc (Nat.le_refl _) (.cells #[.bool true, .int .i64 day, .slice A1 bs.length c1, .int .i64 fee, .slice C1 m c2, .int .i64 cr, .int .i64 ev, .int .i64 sl, .int .i64 dr, .int .i64 bk, .int .i64 0, .pointer none, .pointer none, .pointer none, .pointer none, .pointer none, .pointer none, .slice none 0 0, .int .i64 0, .int .i64 0, .int .i64 0, .int .i64 0, .int .i64 0, .int .i64 0, .int .i64 0, .int .i64 0, .int .i64 0, .int .i64 0, .int .i64 0, .int .i64 0, .int .i64 0, .int .i64 0, .int .i64 0, .int .i64 0, .bool false, .int .i64 0, .map none, .int .i64 0, .int .i64 0, .int .i64 0, .int .i64 0, .map none, .map none, .int .i64 0, .int .i64 0, .int .i64 0, .int .i64 0, .bool false, .int .i64 0, .int .i64 0, .int .i64 0, .int .i64 0, .pointer none, .map none, .slice none 0 0, .pointer none, .map none, .map none, .map none] 81))
              have HK1 := Lib.hid (show Blk (wr.alloc (.cells #[.bool true, .int .i64 day, .slice A1 bs.length c1, .int .i64 fee, .slice C1 m c2, .int .i64 cr, .int .i64 ev, .int .i64 sl, .int .i64 dr, .int .i64 bk, .int .i64 0, .pointer none, .pointer none, .pointer none, .pointer none, .pointer none, .pointer none, .slice none 0 0, .int .i64 0, .int .i64 0, .int .i64 0, .int .i64 0, .int .i64 0, .int .i64 0, .int .i64 0, .int .i64 0, .int .i64 0, .int .i64 0, .int .i64 0, .int .i64 0, .int .i64 0, .int .i64 0, .int .i64 0, .int .i64 0, .bool false, .int .i64 0, .map none, .int .i64 0, .int .i64 0, .int .i64 0, .int .i64 0, .map none, .map none, .int .i64 0, .int .i64 0, .int .i64 0, .int .i64 0, .bool false, .int .i64 0, .int .i64 0, .int .i64 0, .int .i64 0, .pointer none, .map none, .slice none 0 0, .pointer none, .map none, .map none, .map none] 81)) N 81 [.bool true, .int .i64 day, .slice A1 bs.length c1, .int .i64 fee, .slice C1 m c2, .int .i64 cr, .int .i64 ev, .int .i64 sl, .int .i64 dr, .int .i64 bk, .int .i64 0, .pointer none, .pointer none, .pointer none, .pointer none, .pointer none, .pointer none, .slice none 0 0, .int .i64 0, .int .i64 0, .int .i64 0, .int .i64 0, .int .i64 0, .int .i64 0, .int .i64 0, .int .i64 0, .int .i64 0, .int .i64 0, .int .i64 0, .int .i64 0, .int .i64 0, .int .i64 0, .int .i64 0, .int .i64 0, .bool false, .int .i64 0, .map none, .int .i64 0, .int .i64 0, .int .i64 0, .int .i64 0, .map none, .map none, .int .i64 0, .int .i64 0, .int .i64 0, .int .i64 0, .bool false, .int .i64 0, .int .i64 0, .int .i64 0, .int .i64 0, .pointer none, .map none, .slice none 0 0, .pointer none, .map none, .map none, .map none] by rw [hN]; exact Blk.new' wr #[.bool true, .int .i64 day, .slice A1 bs.length c1, .int .i64 fee, .slice C1 m c2, .int .i64 cr, .int .i64 ev, .int .i64 sl, .int .i64 dr, .int .i64 bk, .int .i64 0, .pointer none, .pointer none, .pointer none, .pointer none, .pointer none, .pointer none, .slice none 0 0, .int .i64 0, .int .i64 0, .int .i64 0, .int .i64 0, .int .i64 0, .int .i64 0, .int .i64 0, .int .i64 0, .int .i64 0, .int .i64 0, .int .i64 0, .int .i64 0, .int .i64 0, .int .i64 0, .int .i64 0, .int .i64 0, .bool false, .int .i64 0, .map none, .int .i64 0, .int .i64 0, .int .i64 0, .int .i64 0, .map none, .map none, .int .i64 0, .int .i64 0, .int .i64 0, .int .i64 0, .bool false, .int .i64 0, .int .i64 0, .int .i64 0, .int .i64 0, .pointer none, .map none, .slice none 0 0, .pointer none, .map none, .map none, .map none] 81)
              have HS1 := Lib.hid (show (wr.alloc (.cells #[.bool true, .int .i64 day, .slice A1 bs.length c1, .int .i64 fee, .slice C1 m c2, .int .i64 cr, .int .i64 ev, .int .i64 sl, .int .i64 dr, .int .i64 bk, .int .i64 0, .pointer none, .pointer none, .pointer none, .pointer none, .pointer none, .pointer none, .slice none 0 0, .int .i64 0, .int .i64 0, .int .i64 0, .int .i64 0, .int .i64 0, .int .i64 0, .int .i64 0, .int .i64 0, .int .i64 0, .int .i64 0, .int .i64 0, .int .i64 0, .int .i64 0, .int .i64 0, .int .i64 0, .int .i64 0, .bool false, .int .i64 0, .map none, .int .i64 0, .int .i64 0, .int .i64 0, .int .i64 0, .map none, .map none, .int .i64 0, .int .i64 0, .int .i64 0, .int .i64 0, .bool false, .int .i64 0, .int .i64 0, .int .i64 0, .int .i64 0, .pointer none, .map none, .slice none 0 0, .pointer none, .map none, .map none, .map none] 81)).heap.size = N + 1 by rw [hN]; simp)
              rw [← hN]
              generalize wr.alloc (.cells #[.bool true, .int .i64 day, .slice A1 bs.length c1, .int .i64 fee, .slice C1 m c2, .int .i64 cr, .int .i64 ev, .int .i64 sl, .int .i64 dr, .int .i64 bk, .int .i64 0, .pointer none, .pointer none, .pointer none, .pointer none, .pointer none, .pointer none, .slice none 0 0, .int .i64 0, .int .i64 0, .int .i64 0, .int .i64 0, .int .i64 0, .int .i64 0, .int .i64 0, .int .i64 0, .int .i64 0, .int .i64 0, .int .i64 0, .int .i64 0, .int .i64 0, .int .i64 0, .int .i64 0, .int .i64 0, .bool false, .int .i64 0, .map none, .int .i64 0, .int .i64 0, .int .i64 0, .int .i64 0, .map none, .map none, .int .i64 0, .int .i64 0, .int .i64 0, .int .i64 0, .bool false, .int .i64 0, .int .i64 0, .int .i64 0, .int .i64 0, .pointer none, .map none, .slice none 0 0, .pointer none, .map none, .map none, .map none] 81) = W1 at HB1 HK1 HS1 ⊢
              clear hN
              have qm81 : ∀ w : World, (Instr.makeMap 63 none).run Try.prog w = .ok (.map (some w.heap.size)) (w.alloc (.map #[] 0)) := fun w => by kernel_rfl
              have qm88 : ∀ w : World, (Instr.makeMap 71 none).run Try.prog w = .ok (.map (some w.heap.size)) (w.alloc (.map #[] 0)) := fun w => by kernel_rfl
              have qm92 : ∀ w : World, (Instr.makeMap 76 none).run Try.prog w = .ok (.map (some w.heap.size)) (w.alloc (.map #[] 0)) := fun w => by kernel_rfl
              have qm93 : ∀ w : World, (Instr.makeMap 77 none).run Try.prog w = .ok (.map (some w.heap.size)) (w.alloc (.map #[] 0)) := fun w => by kernel_rfl
              have nl : N < W1.heap.size := HK1.out.lt
              have c41 := HK1.out.cell 41 rfl
              have f41 := HK1.out.free 41
              go_upto_region 12 with (fail)
              clear nl c41 f41
              (try rw [show W1.heap.size = N + 1 from HS1.out])
              refine gen_world' (fun W => Touch (fun k => k = N) W1 W ∧ Blk W N 81 [.bool true, .int .i64 day, .slice A1 bs.length c1, .int .i64 fee, .slice C1 m c2, .int .i64 cr, .int .i64 ev, .int .i64 sl, .int .i64 dr, .int .i64 bk, .int .i64 0, .pointer none, .pointer none, .pointer none, .pointer none, .pointer none, .pointer none, .slice none 0 0, .int .i64 0, .int .i64 0, .int .i64 0, .int .i64 0, .int .i64 0, .int .i64 0, .int .i64 0, .int .i64 0, .int .i64 0, .int .i64 0, .int .i64 0, .int .i64 0, .int .i64 0, .int .i64 0, .int .i64 0, .int .i64 0, .bool false, .int .i64 0, .map none, .int .i64 0, .int .i64 0, .int .i64 0, .int .i64 0, .map (some (N + 1)), .map none, .int .i64 0, .int .i64 0, .int .i64 0, .int .i64 0, .bool false, .int .i64 0, .int .i64 0, .int .i64 0, .int .i64 0, .pointer none, .map none, .slice none 0 0, .pointer none, .map none, .map none, .map none] ∧ W.heap.size = N + 2 ∧ MpAt kI Nw.En.v W (N + 1) []) ⟨?_, ?_, ?_, ?_⟩ ?_
              · exact (((Touch.refl _ _).put 41 _).alloc _)
              · exact ((HK1.out.setCell 41 _)).below ((Below.refl _ _).alloc (by first | exact Nat.le_refl _ | simp) _) ((HK1.out.setCell 41 _)).lt
              · have := HS1.out; simp; omega
              · have := MpAt.made (K := kI) (V := Nw.En.v) (W1.setCell ⟨N, 41, none⟩ (.map (some (N + 1)))); rw [(show (W1.setCell ⟨N, 41, none⟩ (.map (some (N + 1)))).heap.size = N + 1 by have := HS1.out; simp; omega)] at this; exact this
              rintro W2 ⟨ht, hk, hs, hf⟩
              have HT2 := Lib.hid ht
              have HK2 := Lib.hid hk
              have HS2 := Lib.hid hs
              have HF2 := Lib.hid hf
              clear ht hk hs hf
              have nl : N < W2.heap.size := HK2.out.lt
              have c52 := HK2.out.cell 52 rfl
              have f52 := HK2.out.free 52
              go_upto_region 13 with (go_at_call 17; refine (NewPost_c _).mono ?_; rintro e w9 ⟨rfl, rfl⟩)
              clear nl c52 f52
              (try rw [show W2.heap.size = N + 2 from HS2.out])
              refine gen_world' (fun W => Touch (fun k => k = N) W2 W ∧ Blk W N 81 [.bool true, .int .i64 day, .slice A1 bs.length c1, .int .i64 fee, .slice C1 m c2, .int .i64 cr, .int .i64 ev, .int .i64 sl, .int .i64 dr, .int .i64 bk, .int .i64 0, .pointer none, .pointer none, .pointer none, .pointer none, .pointer none, .pointer none, .slice none 0 0, .int .i64 0, .int .i64 0, .int .i64 0, .int .i64 0, .int .i64 0, .int .i64 0, .int .i64 0, .int .i64 0, .int .i64 0, .int .i64 0, .int .i64 0, .int .i64 0, .int .i64 0, .int .i64 0, .int .i64 0, .int .i64 0, .bool false, .int .i64 0, .map none, .int .i64 0, .int .i64 0, .int .i64 0, .int .i64 0, .map (some (N + 1)), .map none, .int .i64 0, .int .i64 0, .int .i64 0, .int .i64 0, .bool false, .int .i64 0, .int .i64 0, .int .i64 0, .int .i64 0, .pointer (some ⟨N + 2, 0, none⟩), .map none, .slice none 0 0, .pointer none, .map none, .map none, .map none] ∧ W.heap.size = N + 3 ∧ PostAt W (N + 2) ⟨0, 0, 0, 0⟩) ⟨?_, ?_, ?_, ?_⟩ ?_
              · exact (((Touch.refl _ _).put 52 _).alloc _)
              · exact ((HK2.out.setCell 52 _)).below ((Below.refl _ _).alloc (by first | exact Nat.le_refl _ | simp) _) ((HK2.out.setCell 52 _)).lt
              · have := HS2.out; simp; omega
              · have := Blk.new' (W2.setCell ⟨N, 52, none⟩ (.pointer (some ⟨N + 2, 0, none⟩))) #[.bool true, .int .i64 0, .int .i64 0, .int .i64 0, .int .i64 0] 118; rw [(show (W2.setCell ⟨N, 52, none⟩ (.pointer (some ⟨N + 2, 0, none⟩))).heap.size = N + 2 by have := HS2.out; simp; omega)] at this; exact this
              rintro W3 ⟨ht, hk, hs, hf⟩
              have HT3 := Lib.hid ht
              have HK3 := Lib.hid hk
              have HS3 := Lib.hid hs
              have HF3 := Lib.hid hf
              clear ht hk hs hf
              have nl : N < W3.heap.size := HK3.out.lt
              have c53 := HK3.out.cell 53 rfl
              have f53 := HK3.out.free 53
              go_upto_region 14 with (fail)
              clear nl c53 f53
              (try rw [show W3.heap.size = N + 3 from HS3.out])
              refine gen_world' (fun W => Touch (fun k => k = N) W3 W ∧ Blk W N 81 [.bool true, .int .i64 day, .slice A1 bs.length c1, .int .i64 fee, .slice C1 m c2, .int .i64 cr, .int .i64 ev, .int .i64 sl, .int .i64 dr, .int .i64 bk, .int .i64 0, .pointer none, .pointer none, .pointer none, .pointer none, .pointer none, .pointer none, .slice none 0 0, .int .i64 0, .int .i64 0, .int .i64 0, .int .i64 0, .int .i64 0, .int .i64 0, .int .i64 0, .int .i64 0, .int .i64 0, .int .i64 0, .int .i64 0, .int .i64 0, .int .i64 0, .int .i64 0, .int .i64 0, .int .i64 0, .bool false, .int .i64 0, .map none, .int .i64 0, .int .i64 0, .int .i64 0, .int .i64 0, .map (some (N + 1)), .map none, .int .i64 0, .int .i64 0, .int .i64 0, .int .i64 0, .bool false, .int .i64 0, .int .i64 0, .int .i64 0, .int .i64 0, .pointer (some ⟨N + 2, 0, none⟩), .map (some (N + 3)), .slice none 0 0, .pointer none, .map none, .map none, .map none] ∧ W.heap.size = N + 4 ∧ MpAt kP vB W (N + 3) []) ⟨?_, ?_, ?_, ?_⟩ ?_
              · exact (((Touch.refl _ _).put 53 _).alloc _)
              · exact ((HK3.out.setCell 53 _)).below ((Below.refl _ _).alloc (by first | exact Nat.le_refl _ | simp) _) ((HK3.out.setCell 53 _)).lt
              · have := HS3.out; simp; omega
              · have := MpAt.made (K := kP) (V := vB) (W3.setCell ⟨N, 53, none⟩ (.map (some (N + 3)))); rw [(show (W3.setCell ⟨N, 53, none⟩ (.map (some (N + 3)))).heap.size = N + 3 by have := HS3.out; simp; omega)] at this; exact this
              rintro W4 ⟨ht, hk, hs, hf⟩
              have HT4 := Lib.hid ht
              have HK4 := Lib.hid hk
              have HS4 := Lib.hid hs
              have HF4 := Lib.hid hf
              clear ht hk hs hf
              have HG4 := Lib.hid ((HL.out.g.below HB1.out HL.out.g.lt).touch ((HT2.out.trans HT3.out).trans HT4.out) (show gd ≠ N from by have := HL.out.g.lt; have := HN.out; omega))
              have hns := HNS.out
              have g7 := HG4.out.cell 7 rfl
              have g8 := HG4.out.cell 8 rfl
              have gl := HG4.out.lt
              have nl : N < W4.heap.size := HK4.out.lt
              have c55 := HK4.out.cell 55 rfl
              have f55 := HK4.out.free 55
              go_upto_region 15 with (go_at_call 18; refine (NewSite_c 1 dr bk _ hns).mono ?_; rintro e w9 ⟨rfl, rfl⟩)
              clear nl c55 f55
              (try rw [show W4.heap.size = N + 4 from HS4.out])
              refine gen_world' (fun W => Touch (fun k => k = N) W4 W ∧ Blk W N 81 [.bool true, .int .i64 day, .slice A1 bs.length c1, .int .i64 fee, .slice C1 m c2, .int .i64 cr, .int .i64 ev, .int .i64 sl, .int .i64 dr, .int .i64 bk, .int .i64 0, .pointer none, .pointer none, .pointer none, .pointer none, .pointer none, .pointer none, .slice none 0 0, .int .i64 0, .int .i64 0, .int .i64 0, .int .i64 0, .int .i64 0, .int .i64 0, .int .i64 0, .int .i64 0, .int .i64 0, .int .i64 0, .int .i64 0, .int .i64 0, .int .i64 0, .int .i64 0, .int .i64 0, .int .i64 0, .bool false, .int .i64 0, .map none, .int .i64 0, .int .i64 0, .int .i64 0, .int .i64 0, .map (some (N + 1)), .map none, .int .i64 0, .int .i64 0, .int .i64 0, .int .i64 0, .bool false, .int .i64 0, .int .i64 0, .int .i64 0, .int .i64 0, .pointer (some ⟨N + 2, 0, none⟩), .map (some (N + 3)), .slice none 0 0, .pointer (some ⟨N + 4 + 1, 0, none⟩), .map none, .map none, .map none] ∧ W.heap.size = N + 6 ∧ SiteAt W w.heap.size (N + 4 + 1) (N + 4) 1 (fun _ => none) (fun _ => 0) (Sx.cs0 1) dr bk 0) ⟨?_, ?_, ?_, ?_⟩ ?_
              · exact ((((Touch.refl _ _).put 55 _).alloc _).alloc _)
              · exact ((HK4.out.setCell 55 _)).below (((Below.refl _ _).alloc (by first | exact Nat.le_refl _ | simp) _).alloc (by first | exact Nat.le_refl _ | simp) _) ((HK4.out.setCell 55 _)).lt
              · have := HS4.out; simp; omega
              · have hwb := HBW.out.size; have hnn := HN.out; have := site_new (W := (W4.setCell ⟨N, 55, none⟩ (.pointer (some ⟨N + 4 + 1, 0, none⟩)))) (n := 1) (D := dr) (Bk := bk) w.heap.size (by rw [(show (W4.setCell ⟨N, 55, none⟩ (.pointer (some ⟨N + 4 + 1, 0, none⟩))).heap.size = N + 4 by have := HS4.out; simp; omega)]; omega) (by omega); rw [(show (W4.setCell ⟨N, 55, none⟩ (.pointer (some ⟨N + 4 + 1, 0, none⟩))).heap.size = N + 4 by have := HS4.out; simp; omega)] at this; exact this
              rintro W5 ⟨ht, hk, hs, hf⟩
              have HT5 := Lib.hid ht
              have HK5 := Lib.hid hk
              have HS5 := Lib.hid hs
              have HF5 := Lib.hid hf
              clear ht hk hs hf
              have nl : N < W5.heap.size := HK5.out.lt
              have c57 := HK5.out.cell 57 rfl
              have f57 := HK5.out.free 57
              have c58 := HK5.out.cell 58 rfl
              have f58 := HK5.out.free 58
              go_upto_region 17 with (fail)
              clear nl c57 f57 c58 f58
              (try rw [show W5.heap.size = N + 6 from HS5.out])
              refine gen_world' (fun W => Touch (fun k => k = N) W5 W ∧ Blk W N 81 [.bool true, .int .i64 day, .slice A1 bs.length c1, .int .i64 fee, .slice C1 m c2, .int .i64 cr, .int .i64 ev, .int .i64 sl, .int .i64 dr, .int .i64 bk, .int .i64 0, .pointer none, .pointer none, .pointer none, .pointer none, .pointer none, .pointer none, .slice none 0 0, .int .i64 0, .int .i64 0, .int .i64 0, .int .i64 0, .int .i64 0, .int .i64 0, .int .i64 0, .int .i64 0, .int .i64 0, .int .i64 0, .int .i64 0, .int .i64 0, .int .i64 0, .int .i64 0, .int .i64 0, .int .i64 0, .bool false, .int .i64 0, .map none, .int .i64 0, .int .i64 0, .int .i64 0, .int .i64 0, .map (some (N + 1)), .map none, .int .i64 0, .int .i64 0, .int .i64 0, .int .i64 0, .bool false, .int .i64 0, .int .i64 0, .int .i64 0, .int .i64 0, .pointer (some ⟨N + 2, 0, none⟩), .map (some (N + 3)), .slice none 0 0, .pointer (some ⟨N + 4 + 1, 0, none⟩), .map none, .map (some (N + 6)), .map (some (N + 6 + 1))] ∧ W.heap.size = N + 8 ∧ MpAt kI kI W (N + 6) [] ∧ MpAt kI vB W (N + 6 + 1) []) ⟨?_, ?_, ?_, ?_⟩ ?_
              · exact (((((Touch.refl _ _).put 57 _).put 58 _).alloc _).alloc _)
              · exact (((HK5.out.setCell 57 _).setCell 58 _)).below (((Below.refl _ _).alloc (by first | exact Nat.le_refl _ | simp) _).alloc (by first | exact Nat.le_refl _ | simp) _) (((HK5.out.setCell 57 _).setCell 58 _)).lt
              · have := HS5.out; simp; omega
              · have h1 := MpAt.made (K := kI) (V := kI) ((W5.setCell ⟨N, 57, none⟩ (.map (some (N + 6)))).setCell ⟨N, 58, none⟩ (.map (some (N + 6 + 1)))); have h2 := MpAt.made (K := kI) (V := vB) (((W5.setCell ⟨N, 57, none⟩ (.map (some (N + 6)))).setCell ⟨N, 58, none⟩ (.map (some (N + 6 + 1)))).alloc (.map #[] 0)); have h3 := h1.below ((Below.refl _ _).alloc (Nat.le_refl _) (.map #[] 0)); rw [World.size_alloc] at h2; rw [(show ((W5.setCell ⟨N, 57, none⟩ (.map (some (N + 6)))).setCell ⟨N, 58, none⟩ (.map (some (N + 6 + 1)))).heap.size = N + 6 by have := HS5.out; simp; omega)] at h2 h3; exact ⟨h3, h2⟩
              rintro W6 ⟨ht, hk, hs, hf⟩
              have HT6 := Lib.hid ht
              have HK6 := Lib.hid hk
              have HS6 := Lib.hid hs
              have HF6 := Lib.hid hf
              clear ht hk hs hf
              clear g7 g8 gl
              have nl : N < W6.heap.size := HK6.out.lt
              clear nl
              go_loopw [82] (fun v wr2 => ∃ i : Nat, i ≤ 6 ∧ v = .int .i64 i ∧ Hid (Touch (fun k => k = N) W6 wr2 ∧ Blk wr2 N 81 (lnC N i [.bool true, .int .i64 day, .slice A1 bs.length c1, .int .i64 fee, .slice C1 m c2, .int .i64 cr, .int .i64 ev, .int .i64 sl, .int .i64 dr, .int .i64 bk, .int .i64 0, .pointer none, .pointer none, .pointer none, .pointer none, .pointer none, .pointer none, .slice none 0 0, .int .i64 0, .int .i64 0, .int .i64 0, .int .i64 0, .int .i64 0, .int .i64 0, .int .i64 0, .int .i64 0, .int .i64 0, .int .i64 0, .int .i64 0, .int .i64 0, .int .i64 0, .int .i64 0, .int .i64 0, .int .i64 0, .bool false, .int .i64 0, .map none, .int .i64 0, .int .i64 0, .int .i64 0, .int .i64 0, .map (some (N + 1)), .map none, .int .i64 0, .int .i64 0, .int .i64 0, .int .i64 0, .bool false, .int .i64 0, .int .i64 0, .int .i64 0, .int .i64 0, .pointer (some ⟨N + 2, 0, none⟩), .map (some (N + 3)), .slice none 0 0, .pointer (some ⟨N + 4 + 1, 0, none⟩), .map none, .map (some (N + 6)), .map (some (N + 6 + 1))]) ∧ wr2.heap.size = N + 8 + i ∧ ∀ j, j < i → LineAt wr2 w.heap.size (N + 8 + j) none 0 Lx.ln0)) (fun v _ => 6 - (intOf v).toNat)
              case atStart => exact ⟨0, Nat.zero_le _, rfl, Lib.hid ⟨Touch.refl _ _, HK6.out, HS6.out, fun j hj => absurd hj (Nat.not_lt_zero _)⟩⟩
              case round =>
                obtain ⟨i, hi, rfl, HZ⟩ := hrel
                have HTT := Lib.hid HZ.out.1
                have HKK := Lib.hid HZ.out.2.1
                have HSS := Lib.hid HZ.out.2.2.1
                have HLN := Lib.hid HZ.out.2.2.2
                clear HZ
                by_cases hlt : i < 6
                · have hii : (i : Int) < 6 := by omega
                  have hi0 : (0 : Int) ≤ (i : Int) := by omega
                  have HLT := Lib.hid hlt
                  obtain ⟨v, hv⟩ := lnC_get N hlt [.bool true, .int .i64 day, .slice A1 bs.length c1, .int .i64 fee, .slice C1 m c2, .int .i64 cr, .int .i64 ev, .int .i64 sl, .int .i64 dr, .int .i64 bk, .int .i64 0, .pointer none, .pointer none, .pointer none, .pointer none, .pointer none, .pointer none, .slice none 0 0, .int .i64 0, .int .i64 0, .int .i64 0, .int .i64 0, .int .i64 0, .int .i64 0, .int .i64 0, .int .i64 0, .int .i64 0, .int .i64 0, .int .i64 0, .int .i64 0, .int .i64 0, .int .i64 0, .int .i64 0, .int .i64 0, .bool false, .int .i64 0, .map none, .int .i64 0, .int .i64 0, .int .i64 0, .int .i64 0, .map (some (N + 1)), .map none, .int .i64 0, .int .i64 0, .int .i64 0, .int .i64 0, .bool false, .int .i64 0, .int .i64 0, .int .i64 0, .int .i64 0, .pointer (some ⟨N + 2, 0, none⟩), .map (some (N + 3)), .slice none 0 0, .pointer (some ⟨N + 4 + 1, 0, none⟩), .map none, .map (some (N + 6)), .map (some (N + 6 + 1))] (by rfl)
                  have ci := HKK.out.cell (11 + i) hv
                  have fi := HKK.out.free (11 + i)
                  have nl : N < wr.heap.size := HKK.out.lt
                  clear hv hlt
                  go_upto_region 19 with fail
                  refine lBegin (S := fun _ W => (True)) (by kernel_rfl) ?_ (fun hHeld => ?_)
                  · trivial
                  refine lTake (i := 0) (v := ?_) rfl (by kernel_rfl) (by kernel_rfl) (by kernel_rfl) (fun _ _ _ h => h) (by rfl) (fun _ _ h => h) (fun _ _ h => h) ?_ (by assumption) (fun hHeld2 => ?_)
                  rotate_left 1
                  · (intro _ _ _ _ _; first | (go_simp; done) | (go_simp; with_reducible rfl))
                  clear hHeld; have hHeld := hHeld2; clear hHeld2
                  (try simp only [Act.put, List.setIfInBounds_toArray, List.set_cons_zero, List.set_cons_succ])
                  refine lTake (i := 1) (v := ?_) rfl (by kernel_rfl) (by kernel_rfl) (by kernel_rfl) (fun _ _ _ h => h) (by rfl) (fun _ _ h => h) (fun _ _ h => h) ?_ (by assumption) (fun hHeld2 => ?_)
                  rotate_left 1
                  · (intro _ _ _ _ _; first | (go_simp; done) | (go_simp; with_reducible rfl))
                  clear hHeld; have hHeld := hHeld2; clear hHeld2
                  (try simp only [Act.put, List.setIfInBounds_toArray, List.set_cons_zero, List.set_cons_succ])
                  refine lTake (i := 3) (v := ?_) rfl (by kernel_rfl) (by kernel_rfl) (by kernel_rfl) (fun _ _ _ h => h) (by rfl) (fun _ _ h => h) (fun _ _ h => h) ?_ (by assumption) (fun hHeld2 => ?_)
                  rotate_left 1
                  · (intro _ _ _ _ _; first | (go_simp; done) | (go_simp; with_reducible rfl))
                  clear hHeld; have hHeld := hHeld2; clear hHeld2
                  (try simp only [Act.put, List.setIfInBounds_toArray, List.set_cons_zero, List.set_cons_succ])
                  refine lTake (i := 4) (v := ?_) rfl (by kernel_rfl) (by kernel_rfl) (by kernel_rfl) (fun _ _ _ h => h) (by rfl) (fun _ _ h => h) (fun _ _ h => h) ?_ (by assumption) (fun hHeld2 => ?_)
                  rotate_left 1
                  · (intro _ _ _ _ _; first | (go_simp; done) | (go_simp; with_reducible rfl))
                  clear hHeld; have hHeld := hHeld2; clear hHeld2
                  (try simp only [Act.put, List.setIfInBounds_toArray, List.set_cons_zero, List.set_cons_succ])
                  refine lReady (rs := [2]) (by kernel_rfl) (by simp) ?_
                  refine AllL.cons (i := 2) rfl (fun K hK => ?_) ?_
                  · go_simp; (refine (NewLine_c _).mono ?_; rintro e w9 ⟨rfl, rfl⟩)
                    (try go_wp2_with fail)
                    refine hK.out _ _ ?_ (fun hHeld2 => ?_)
                    · trivial
                    clear hK K
                    clear hHeld; have hHeld := hHeld2; clear hHeld2
                    (try simp only [Act.put, List.setIfInBounds_toArray, List.set_cons_zero, List.set_cons_succ])
                    refine lTake (i := 5) (v := ?_) rfl (by kernel_rfl) (by kernel_rfl) (by kernel_rfl) (fun _ _ _ h => h) (by rfl) (fun _ _ h => h) (fun _ _ h => h) ?_ (by assumption) (fun hHeld2 => ?_)
                    rotate_left 1
                    · (intro _ _ _ _ _; first | (go_simp; done) | (go_simp; with_reducible rfl))
                    clear hHeld; have hHeld := hHeld2; clear hHeld2
                    (try simp only [Act.put, List.setIfInBounds_toArray, List.set_cons_zero, List.set_cons_succ])
                    refine lReady (rs := [6]) (by kernel_rfl) (by simp) ?_
                    refine AllL.cons (i := 6) rfl (fun K hK => ?_) ?_
                    · go_simp
                      (try go_wp2_with fail)
                      refine hK.out _ _ ?_ (fun hHeld2 => ?_)
                      · trivial
                      clear hK K
                      clear hHeld; have hHeld := hHeld2; clear hHeld2
                      (try simp only [Act.put, List.setIfInBounds_toArray, List.set_cons_zero, List.set_cons_succ])
                      refine lDone (by kernel_rfl) ?_ _
                      rw [show wr.heap.size = N + 8 + i from HSS.out]
                      go_wp2_with fail
                      have hlt := HLT.out
                      have hss := HSS.out
                      refine ⟨⟨i + 1, by omega, by simp, Lib.hid ⟨HTT.out.trans (((Touch.refl _ _).put (11 + i) _).alloc _).drew, ((HKK.out.setCell (11 + i) _).below ((Below.refl _ _).alloc (Nat.le_refl _) _) (HKK.out.setCell (11 + i) _).lt).drew, by simp; omega, fun j hj => ?_⟩⟩, by simp only [intOf]; omega⟩
                      by_cases e : j = i
                      · subst e
                        refine ⟨?_, World.ownsRow_nil _ _ _ _, by have := HBW.out.size; have := HN.out; omega, fun ⟨a, ea, _⟩ => by cases ea⟩
                        have h0 := (Blk.new' (wr.setCell ⟨N, 11 + j, none⟩ (.pointer (some ⟨N + 8 + j, 0, none⟩))) #[.bool true, .slice none 0 0, .int .i64 0, .int .i64 0, .bool false] 128).drew
                        rw [show (wr.setCell ⟨N, 11 + j, none⟩ (.pointer (some ⟨N + 8 + j, 0, none⟩))).heap.size = N + 8 + j by simp; omega] at h0
                        exact h0
                      · exact (HLN.out j (by omega)).touch (S := fun k => k = N) (((Touch.refl _ _).put (11 + i) _).alloc _).drew (by omega) (fun k hk => by obtain ⟨a, ea, _⟩ := hk; cases ea)
                    exact AllL.nil
                  exact AllL.nil
                · obtain rfl : i = 6 := by omega
                  clear hlt
                  have hcm : ctk.length = m := HLL.out.1
                  have hB0 := HBW.out.size
                  have hN0 := HN.out
                  have T2 := ((HT3.out.trans HT4.out).trans (HT5.out.trans HT6.out)).trans HTT.out
                  have T3 := (HT4.out.trans (HT5.out.trans HT6.out)).trans HTT.out
                  have T4 := (HT5.out.trans HT6.out).trans HTT.out
                  have T5 := HT6.out.trans HTT.out
                  have T1 := HT2.out.trans T2
                  have hss := HSS.out
                  have hfin := net_new (w := w) (wr := wr) (N := N) (col0 := col0) (base := base) (day := day) (fee := fee) (bs := bs) (A1 := A1) (c1 := c1) (C1 := C1) (c2 := c2) (cr := cr) (ev := ev) (sl := sl) (dr := dr) (bk := bk) (cs := cs) (ctk := ctk) (by omega) hss (by have h0 := HKK.out; rw [← hcm] at h0; exact h0) (HF2.out.touch T2 (by omega)) (Blk.touch HF3.out T3 (by omega)) (HF4.out.touch T4 (by omega))
                    (HF5.out.touch T5 (fun k hk e => by rcases hk with rfl | rfl | ⟨i, _, ⟨a, ea, _⟩⟩ <;> first | omega | cases ea)) (HF6.out.1.touch HTT.out (by omega)) (HF6.out.2.touch HTT.out (by omega)) HLN.out
                    ((HBD.out.below HB1.out).touch T1 (fun k hk e => by have := (HDE.out k (.inl hk)).2; omega)) ((HCT.out.below HB1.out).touch T1 (fun k hk e => by have := (HDE.out k (.inr (.inl hk))).2; omega) (fun c hc k hk e => by have := (HDE.out k (.inr (.inr ⟨c, hc, hk⟩))).2; omega))
                    (fun q hq => by have := HDE.out q hq; omega) ⟨HC1B.out.1, HC1B.out.2, by rw [hcm]; exact HC2B.out.1, HC2B.out.2⟩ HLL.out.2
                  have hbel : Below w.heap.size w wr := Below.touch (HBW.out.trans (HB1.out.mono HBW.out.size)) (Nat.le_trans HBW.out.size HB1.out.size) T1 (fun k e => by omega)
                  have HFIN := Lib.hid hfin
                  have HBEL := Lib.hid hbel
                  clear hfin hbel hcm hB0 hN0 T1 T2 T3 T4 T5 hss
                  go_wp2_with fail
                  exact bodyPost_ret (v := .tuple #[.pointer (some ⟨N, 0, none⟩), .int .i64 0]) (by simp [results, Try.results5, go_sem]) rfl ⟨N, rfl, _, ⟨_, HFIN.out⟩, fun k hk => if_pos hk, HBEL.out⟩
        exact AllL.nil
      exact AllL.nil
    exact AllL.nil
  exact AllL.nil
end Go.Proofs.Ytlklnaebdnahcaa
namespace Go.Proofs.Ytlklnaebdnahcaa
open Go.RowKit Nw
def ct0 (gp : Nat) : Ct := { pt := 11, A := some ⟨gp, 0, none⟩, cap := 4, ps := [1, 2, 3, 4] }
def DV (ge : Nat) (A : Option Addr) (n c : Nat) (cr ev sl dr bk : Int) : List Value := [.int .i64 100, .slice (some ⟨ge, 0, none⟩) 2 2, .int .i64 10, .slice A n c, .int .i64 cr, .int .i64 ev, .int .i64 sl, .int .i64 dr, .int .i64 bk]
theorem Example_c2 (w : World) : Calls Try.prog 35 #[] w fun e w' => (∃ g, e = .returned (.agg #[.int .i64 100, .slice (some ⟨g, 0, none⟩) 2 2, .int .i64 10]) ∧ w.heap.size ≤ g ∧ BandsAt w' (some ⟨g, 0, none⟩) exBs) ∧ Below w.heap.size w w' := by
  go_enter Try.func35, Try.ntmps35
  go_wp2
  refine bodyPost_ret (v := .agg #[.int .i64 100, .slice (some ⟨w.heap.size + 1, 0, none⟩) 2 2, .int .i64 10]) (by simp [results, Try.results35, go_sem]) rfl ⟨⟨w.heap.size + 1, rfl, Nat.le_succ _, ?_⟩, ((Below.refl _ _).alloc (Nat.le_refl _) _).alloc (by simp) _⟩
  intro i hi
  have hi2 : i < 2 := hi
  have h01 : i = 0 ∨ i = 1 := by omega
  rcases h01 with rfl | rfl
  · exact ⟨_, rfl, by simp, by simp [Addr.add, go_sem, Cv.fr, exBs], by simp [Addr.add, go_sem, Cv.inn, exBs], by simp [Addr.add, go_sem, Cv.bk, exBs]⟩
  · exact ⟨_, rfl, by simp, by simp [Addr.add, go_sem, Cv.fr, exBs], by simp [Addr.add, go_sem, Cv.inn, exBs], by simp [Addr.add, go_sem, Cv.bk, exBs]⟩
set_option maxRecDepth 100000 in
set_option maxHeartbeats 4000000 in
theorem Deal_c (w : World) : Calls Try.prog 12 #[] w fun e w' => ∃ ge gc gp, e = .returned (.agg (DV ge (some ⟨gc, 0, none⟩) 1 1 1000 2 3 100 100).toArray) ∧ BandsAt w' (some ⟨ge, 0, none⟩) exBs ∧ OwnR ctV 48 2 w.heap.size w' (some ⟨gc, 0, none⟩) 1 [ct0 gp] ∧ ge < gc ∧ Below w.heap.size w w' ∧ w.heap.size ≤ ge := by
  have HA := Lib.hid ((Below.refl w.heap.size w).alloc (Nat.le_refl _) (.cells #[.int .i64 0, .slice none 0 0, .int .i64 0, .slice none 0 0, .int .i64 0, .int .i64 0, .int .i64 0, .int .i64 0, .int .i64 0] 27))
  have HX := Lib.hid (Blk.new' w #[.int .i64 0, .slice none 0 0, .int .i64 0, .slice none 0 0, .int .i64 0, .int .i64 0, .int .i64 0, .int .i64 0, .int .i64 0] 27)
  go_enter Try.func12, Try.ntmps12
  go_upto_region 1 with fail
  generalize w.alloc (.cells #[.int .i64 0, .slice none 0 0, .int .i64 0, .slice none 0 0, .int .i64 0, .int .i64 0, .int .i64 0, .int .i64 0, .int .i64 0] 27) = w1 at HA HX ⊢
  obtain ⟨gx, hgx⟩ : ∃ gx, gx = w.heap.size := ⟨_, rfl⟩
  rw [← hgx] at HX ⊢
  have HGX := Lib.hid hgx
  clear hgx
  go_wp2_with (go_at_call 35; refine (Example_c2 _).mono ?_; rintro e w2 ⟨⟨ge, rfl, hge, hb⟩, hbl⟩; have HGE := Lib.hid hge; clear hge; have HBD := Lib.hid hb; have HB2 := Lib.hid hbl; have HX2 := Lib.hid (HX.out.below hbl HX.out.lt); clear hb hbl; have f0 := HX2.out.free 0; have x0 := HX2.out.cell 0 rfl; have f1 := HX2.out.free 1; have x1 := HX2.out.cell 1 rfl; have f2 := HX2.out.free 2; have x2 := HX2.out.cell 2 rfl; have f3 := HX2.out.free 3; have x3 := HX2.out.cell 3 rfl; have f4 := HX2.out.free 4; have x4 := HX2.out.cell 4 rfl; have f5 := HX2.out.free 5; have x5 := HX2.out.cell 5 rfl; have f6 := HX2.out.free 6; have x6 := HX2.out.cell 6 rfl; have f7 := HX2.out.free 7; have x7 := HX2.out.cell 7 rfl; have f8 := HX2.out.free 8; have x8 := HX2.out.cell 8 rfl; have xl := HX2.out.lt)
  have HT : Touch (fun k => k = gx) w2 (((((((((w2.setCell ⟨gx, 0, none⟩ (.int .i64 100)).setCell ⟨gx, 1, none⟩ (.slice (some ⟨ge, 0, none⟩) 2 2)).setCell ⟨gx, 2, none⟩ (.int .i64 10)).setCell ⟨gx, 3, none⟩ (.slice (some ⟨w2.heap.size + 1, 0, none⟩) 1 1)).setCell ⟨gx, 4, none⟩ (.int .i64 1000)).setCell ⟨gx, 5, none⟩ (.int .i64 2)).setCell ⟨gx, 6, none⟩ (.int .i64 3)).setCell ⟨gx, 7, none⟩ (.int .i64 100)).setCell ⟨gx, 8, none⟩ (.int .i64 100)) := ((((((((((Touch.refl _ _).put 0 _).put 1 _).put 2 _).put 3 _).put 4 _).put 5 _).put 6 _).put 7 _).put 8 _)
  have HBL : Blk (((((((((w2.setCell ⟨gx, 0, none⟩ (.int .i64 100)).setCell ⟨gx, 1, none⟩ (.slice (some ⟨ge, 0, none⟩) 2 2)).setCell ⟨gx, 2, none⟩ (.int .i64 10)).setCell ⟨gx, 3, none⟩ (.slice (some ⟨w2.heap.size + 1, 0, none⟩) 1 1)).setCell ⟨gx, 4, none⟩ (.int .i64 1000)).setCell ⟨gx, 5, none⟩ (.int .i64 2)).setCell ⟨gx, 6, none⟩ (.int .i64 3)).setCell ⟨gx, 7, none⟩ (.int .i64 100)).setCell ⟨gx, 8, none⟩ (.int .i64 100)) gx 27 [.int .i64 100, .slice (some ⟨ge, 0, none⟩) 2 2, .int .i64 10, .slice (some ⟨w2.heap.size + 1, 0, none⟩) 1 1, .int .i64 1000, .int .i64 2, .int .i64 3, .int .i64 100, .int .i64 100] := (((((((((HX2.out.setCell 0 _).setCell 1 _).setCell 2 _).setCell 3 _).setCell 4 _).setCell 5 _).setCell 6 _).setCell 7 _).setCell 8 _)
  have HSU : (((((((((w2.setCell ⟨gx, 0, none⟩ (.int .i64 100)).setCell ⟨gx, 1, none⟩ (.slice (some ⟨ge, 0, none⟩) 2 2)).setCell ⟨gx, 2, none⟩ (.int .i64 10)).setCell ⟨gx, 3, none⟩ (.slice (some ⟨w2.heap.size + 1, 0, none⟩) 1 1)).setCell ⟨gx, 4, none⟩ (.int .i64 1000)).setCell ⟨gx, 5, none⟩ (.int .i64 2)).setCell ⟨gx, 6, none⟩ (.int .i64 3)).setCell ⟨gx, 7, none⟩ (.int .i64 100)).setCell ⟨gx, 8, none⟩ (.int .i64 100)).heap.size = w2.heap.size := by simp
  generalize (((((((((w2.setCell ⟨gx, 0, none⟩ (.int .i64 100)).setCell ⟨gx, 1, none⟩ (.slice (some ⟨ge, 0, none⟩) 2 2)).setCell ⟨gx, 2, none⟩ (.int .i64 10)).setCell ⟨gx, 3, none⟩ (.slice (some ⟨w2.heap.size + 1, 0, none⟩) 1 1)).setCell ⟨gx, 4, none⟩ (.int .i64 1000)).setCell ⟨gx, 5, none⟩ (.int .i64 2)).setCell ⟨gx, 6, none⟩ (.int .i64 3)).setCell ⟨gx, 7, none⟩ (.int .i64 100)).setCell ⟨gx, 8, none⟩ (.int .i64 100)) = U at HT HBL HSU ⊢
  have hgw := HGX.out
  have hge := HGE.out
  have h12 := HB2.out.size
  have hA := HA.out.size
  have hxl := HX.out.lt
  have hel : ge < w2.heap.size := by
    obtain ⟨ad, e, hlt, _⟩ := HBD.out 0 (by decide)
    cases e
    exact hlt
  have al1 := (Below.refl U.heap.size U).alloc (Nat.le_refl _) (.cells #[.int .u64 1, .int .u64 2, .int .u64 3, .int .u64 4] 45)
  have al2 := al1.alloc (by simp) (.cells #[.int .u64 11, .slice (some ⟨w2.heap.size, 0, none⟩) 4 4] 48)
  have HF := HBL.below al2 HBL.lt
  have hbd := (HBD.out.touch HT (fun k hk e => by obtain ⟨a, ea, eb⟩ := hk; cases ea; have h0 : ge = k := eb; omega)).below (w1 := (U.alloc (.cells #[.int .u64 1, .int .u64 2, .int .u64 3, .int .u64 4] 45)).alloc (.cells #[.int .u64 11, .slice (some ⟨w2.heap.size, 0, none⟩) 4 4] 48)) al2
  have hbel := (Below.touch (HA.out.trans (HB2.out.mono hA)) (by omega) HT (fun k e => by omega)).trans (al2.mono (by omega))
  have hown : OwnR ctV 48 2 w.heap.size ((U.alloc (.cells #[.int .u64 1, .int .u64 2, .int .u64 3, .int .u64 4] 45)).alloc (.cells #[.int .u64 11, .slice (some ⟨w2.heap.size, 0, none⟩) 4 4] 48)) (some ⟨w2.heap.size + 1, 0, none⟩) 1 [ct0 w2.heap.size] := by
    have e1 : (U.alloc (.cells #[.int .u64 1, .int .u64 2, .int .u64 3, .int .u64 4] 45)).heap.size = w2.heap.size + 1 := by simp [HSU]
    have h2 := heap_alloc_new (U.alloc (.cells #[.int .u64 1, .int .u64 2, .int .u64 3, .int .u64 4] 45)) (.cells #[.int .u64 11, .slice (some ⟨w2.heap.size, 0, none⟩) 4 4] 48)
    rw [e1] at h2
    exact ⟨rfl, .inr ⟨_, 1, _, rfl, by omega, h2, Nat.le_refl 1, by decide, rfl, rfl⟩⟩
  generalize (U.alloc (.cells #[.int .u64 1, .int .u64 2, .int .u64 3, .int .u64 4] 45)).alloc (.cells #[.int .u64 11, .slice (some ⟨w2.heap.size, 0, none⟩) 4 4] 48) = V at HF hbd hbel hown ⊢
  clear al1 al2 HT HBL
  have r0 := HF.cell 0 rfl
  have r1 := HF.cell 1 rfl
  have r2 := HF.cell 2 rfl
  have r3 := HF.cell 3 rfl
  have r4 := HF.cell 4 rfl
  have r5 := HF.cell 5 rfl
  have r6 := HF.cell 6 rfl
  have r7 := HF.cell 7 rfl
  have r8 := HF.cell 8 rfl
  have rl := HF.lt
  exact bodyPost_ret (v := .agg #[.int .i64 100, .slice (some ⟨ge, 0, none⟩) 2 2, .int .i64 10, .slice (some ⟨w2.heap.size + 1, 0, none⟩) 1 1, .int .i64 1000, .int .i64 2, .int .i64 3, .int .i64 100, .int .i64 100]) (by simp [results, Try.results12, go_sem, r0, r1, r2, r3, r4, r5, r6, r7, r8]) rfl ⟨ge, w2.heap.size + 1, w2.heap.size, rfl, hbd, hown, by omega, hbel, by omega⟩
end Go.Proofs.Ytlklnaebdnahcaa
namespace Go.Proofs.Ytlklnaebdnahcaa
open Go.RowKit Nw
def padF (i k : Nat) : Int := ((((k + 3) * (k + i + 5) * 123457) % 2147483647 : Nat) : Int)
def padL (i n : Nat) : List Int := (List.range n).map (padF i)
theorem padL_len (i n : Nat) : (padL i n).length = n := by simp [padL]
theorem padL_succ (i n : Nat) : padL i (n + 1) = padL i n ++ [padF i n] := by simp [padL, List.range_succ]
def intOfU : Value → Int
  | .int _ x => x
  | _ => 0
def xCn : List Cn := [⟨1000, padL 0 20⟩, ⟨1077, padL 1 20⟩]
theorem OwnR.cut {α : Type} {f : α → List Value} {s e B c : Nat} {W : World} {A : Option Addr} {l : List α} (hf : ∀ x, (f x).length = s) (h : OwnR f e s B W A c l) (k : Nat) (hk : k ≤ l.length) (hA : A ≠ none) : OwnR f e s B W A c (l.take k) := by
  have hlt : (l.take k).length = k := by rw [List.length_take]; omega
  rcases h.2 with ⟨h2, hx⟩ | ⟨g, c', cur, hv, hb, hg, hnc, hcm, hcs, htk⟩
  · injection h2 with e1 e2 e3
    exact absurd e1 hA
  · cases hv
    refine ⟨by rw [flatM_length hf], .inr ⟨g, c, cur, by rw [hlt], hb, hg, by omega, hcm, hcs, ?_⟩⟩
    rw [← flatM_take hf, ← htk, hlt, List.take_take]
    congr 1
    exact (Nat.min_eq_left (Nat.mul_le_mul_right _ hk)).symm
structure DealS (w W : World) (g6 g7 ge : Nat) (Ar : Option Addr) (cr n : Nat) (l q : List Ct) : Prop where
  b : Below w.heap.size w W
  h6 : Blk W g6 27 [.int .i64 0, .slice none 0 0, .int .i64 0, .slice none 0 0, .int .i64 0, .int .i64 0, .int .i64 0, .int .i64 0, .int .i64 0]
  h7 : Blk W g7 27 (DV ge Ar n cr 1000 2 3 100 100)
  e : BandsAt W (some ⟨ge, 0, none⟩) exBs
  r : OwnR ctV 48 2 w.heap.size W Ar cr l
  n : l.length = n
  o : ∀ k, OwnB Ar k → k ≠ g6 ∧ k ≠ g7 ∧ ge < k
  p : ∀ c ∈ q, OwnR pdV 45 1 w.heap.size W c.A c.cap c.ps ∧ ∀ k, OwnB c.A k → g7 < k
  z : w.heap.size ≤ g6 ∧ g6 ≠ g7 ∧ w.heap.size ≤ g7 ∧ ge < g7
theorem DealS.touch {w W W' : World} {g6 g7 ge : Nat} {Ar : Option Addr} {cr n : Nat} {l q : List Ct} (h : DealS w W g6 g7 ge Ar cr n l q) {s : Nat} (ht : Touch (fun k => s ≤ k) W W') (hs : W.heap.size ≤ s) : DealS w W' g6 g7 ge Ar cr n l q where
  b := Below.touch h.b h.b.size ht (fun k e => by have := h.b.size; omega)
  h6 := h.h6.touch ht (by have := h.h6.lt; omega)
  h7 := h.h7.touch ht (by have := h.h7.lt; omega)
  e := h.e.touch ht (fun k hk => by
    obtain ⟨ad, e, hlt, _⟩ := h.e 0 (by decide)
    obtain ⟨a, ea, eb⟩ := hk
    cases e
    cases ea
    have h1 : ge < W.heap.size := hlt
    have h2 : ge = k := eb
    omega)
  r := h.r.touch ht (fun k hk => by have := (rowE_lt h.r hk).2; omega)
  n := h.n
  o := h.o
  p := fun c hc => ⟨(h.p c hc).1.touch ht (fun k hk => by have := (rowE_lt (h.p c hc).1 hk).2; omega), (h.p c hc).2⟩
  z := h.z
set_option maxRecDepth 100000 in
set_option maxHeartbeats 8000000 in
theorem deal_c (ev sl cr : Int) (hev : 0 ≤ ev ∧ ev ≤ 255) (hsl : 0 ≤ sl ∧ sl ≤ 255) (hcr : 0 ≤ cr ∧ cr ≤ 255) (w : World) : Calls Try.prog 4 #[.int .u8 ev, .int .u8 sl, .int .u8 cr] w fun e w' => ∃ ge A c cts, e = .returned (.agg (DV ge A 2 c cr (1 + ev % 5) (1 + sl % 6) 1000000 1000000).toArray) ∧ BandsAt w' (some ⟨ge, 0, none⟩) exBs ∧ CtsAt w' A cts ∧ cts.map toCn = xCn ∧ cts.length = 2 ∧ 2 ≤ c ∧ c ≤ 9223372036854775807 ∧ Below w.heap.size w w' := by
  have HEV := Lib.hid hev
  have HSL := Lib.hid hsl
  have HCR := Lib.hid hcr
  clear hev hsl hcr
  have HA := Lib.hid ((Below.refl w.heap.size w).alloc (Nat.le_refl _) (.cells #[.int .i64 0, .slice none 0 0, .int .i64 0, .slice none 0 0, .int .i64 0, .int .i64 0, .int .i64 0, .int .i64 0, .int .i64 0] 27))
  have HX := Lib.hid (Blk.new' w #[.int .i64 0, .slice none 0 0, .int .i64 0, .slice none 0 0, .int .i64 0, .int .i64 0, .int .i64 0, .int .i64 0, .int .i64 0] 27)
  go_enter Try.func4, Try.ntmps4
  go_upto_region 1 with fail
  generalize w.alloc (.cells #[.int .i64 0, .slice none 0 0, .int .i64 0, .slice none 0 0, .int .i64 0, .int .i64 0, .int .i64 0, .int .i64 0, .int .i64 0] 27) = w1 at HA HX ⊢
  obtain ⟨g6, hg6⟩ : ∃ g6, g6 = w.heap.size := ⟨_, rfl⟩
  rw [← hg6] at HX ⊢
  have HG6 := Lib.hid hg6
  clear hg6
  have PD := Lib.hid (Deal_c w1)
  unfold DV at PD
  go_upto_region 2 with (go_at_call 12; refine (PD.out).mono ?_; rintro e w2 ⟨ge, gc, gp, rfl, hbd, hr, hlt, hb, hgel⟩; have HGEL := Lib.hid hgel; clear hgel; have HBD := Lib.hid hbd; have HR := Lib.hid hr; have HLT := Lib.hid hlt; have HB2 := Lib.hid hb; clear hbd hr hlt hb)
  obtain ⟨g7, hg7⟩ : ∃ g7, g7 = w2.heap.size := ⟨_, rfl⟩
  have HDS : Hid (DealS w (w2.alloc (.cells (DV ge (some ⟨gc, 0, none⟩) 1 1 1000 2 3 100 100).toArray 27)) g6 g7 ge (some ⟨gc, 0, none⟩) 1 1 [ct0 gp] []) := by
    have al := (Below.refl w2.heap.size w2).alloc (Nat.le_refl _) (.cells (DV ge (some ⟨gc, 0, none⟩) 1 1 1000 2 3 100 100).toArray 27)
    have h16 := HG6.out
    have h12 := HB2.out.size
    have hA := HA.out.size
    have hxl := HX.out.lt
    have hro := HR.out.lt
    refine Lib.hid ⟨(HA.out.trans (HB2.out.mono hA)).trans (al.mono (by omega)), (HX.out.below HB2.out HX.out.lt).below al (by omega), ?_, HBD.out.below al, ?_, rfl, fun k hk => ?_, fun c hc => (by cases hc), by have := HLT.out; omega⟩
    · rw [hg7]; exact Blk.new' w2 _ 27
    · exact (HR.out.mono hA).below al
    · obtain ⟨a, ea, eb⟩ := hk
      cases ea
      have h0 : gc = k := eb
      have := HLT.out
      omega
  have HG7 := Lib.hid hg7
  have HGG := Lib.hid (show g6 < ge from by
    have h1 := HX.out.lt
    have h2 := HGEL.out
    omega)
  clear HX HA HB2 HBD HR PD
  unfold DV at HDS
  rw [← hg7]
  clear hg7
  generalize w2.alloc _ = W0 at HDS ⊢
  go_wp2_with fail
  refine wp_loop_rounds 3 ?_
  rw [rounds_succ]
  go_upto_region 6 with fail
  have al := (Touch.refl (fun k => W0.heap.size ≤ k) W0).alloc (.cells #[.int .u64 1000, .slice none 0 0] 48)
  have HAW := Lib.hid al
  have HDL := Lib.hid (show W0.heap.size ≤ W0.heap.size from Nat.le_refl _)
  have HK := Lib.hid (Blk.new' W0 #[.int .u64 1000, .slice none 0 0] 48)
  obtain ⟨gk0, hgk⟩ : ∃ gk0, gk0 = W0.heap.size := ⟨_, rfl⟩
  rw [← hgk] at HK ⊢
  have HGK := Lib.hid hgk
  clear al hgk
  generalize W0.alloc (.cells #[.int .u64 1000, .slice none 0 0] 48) = V0 at HAW HK ⊢
  go_wp2_with fail
  obtain ⟨s0, hs0⟩ : ∃ s0, s0 = V0.heap.size := ⟨_, rfl⟩
  have HSI := Lib.hid hs0
  have HKL := Lib.hid (show gk0 < s0 by rw [hs0]; exact HK.out.lt)
  clear hs0
  go_loopw [10] (fun v wr => ∃ (k : Nat) (Ap : Option Addr) (cp : Nat), k ≤ 20 ∧ v = .int .u64 k ∧ Hid (Touch (fun k => k = gk0) V0 wr ∧ Blk wr gk0 48 [.int .u64 1000, .slice Ap k cp] ∧ OwnR pdV 45 1 s0 wr Ap cp (padL 0 k))) (fun v _ => 20 - (intOfU v).toNat)
  case atStart => exact ⟨0, none, 0, Nat.zero_le _, rfl, Lib.hid ⟨Touch.refl _ _, HK.out, World.ownsRow_nil _ _ _ _⟩⟩
  case round =>
    obtain ⟨k, Ap, cp, hk, rfl, HZ⟩ := hrel
    have HT := Lib.hid HZ.out.1
    have HKK := Lib.hid HZ.out.2.1
    have HPP := Lib.hid HZ.out.2.2
    clear HZ
    by_cases hlt : k < 20
    · have hki : (k : Int) < 20 := by omega
      have HLT := Lib.hid hlt
      have k1 := HKK.out.cell 1 rfl
      have kl := HKK.out.lt
      have kf := HKK.out.free 1
      have hpf : (IntKind.u64.wrap (IntKind.u64.wrap (((k : Int) + 3) * ((k : Int) + 5)) * 123457)).tmod 2147483647 = padF 0 k := by
        have hb := Pf.mul_pos_bd (x := (k : Int) + 3) (y := ((k : Int) + 5)) (A := 22) (B := 25) (by omega) (by omega)
        have h4 : IntKind.u64.wrap (((k : Int) + 3) * ((k : Int) + 5)) = ((k : Int) + 3) * ((k : Int) + 5) := IntWalk.u64_in _ (by omega)
        have h5 : IntKind.u64.wrap (((k : Int) + 3) * ((k : Int) + 5) * 123457) = ((k : Int) + 3) * ((k : Int) + 5) * 123457 := IntWalk.u64_in _ (by omega)
        rw [h4, h5]
        have e1 : (((k + 3) * (k + 0 + 5) : Nat) : Int) = ((k : Int) + 3) * ((k : Int) + 5) := by rw [Int.natCast_mul]; congr 1
        unfold padF
        rw [← e1]
        generalize (k + 3) * (k + 0 + 5) = P
        rw [Int.tmod_eq_emod_of_nonneg (by omega)]
        omega
      obtain ⟨i0, hi0, hz0, hz1, hz2⟩ := info_parts info196
      have HI := Lib.hid hi0
      have HZ0 := Lib.hid hz0
      have HZ1 := Lib.hid hz1
      have HZ2 := Lib.hid hz2
      clear hi0 hz0 hz1 hz2
      have HSZ := Lib.hid (show s0 ≤ wr.heap.size by rw [HSI.out]; exact HT.out.size)
      have HOWN := Lib.hid (show (wr.alloc (.cells #[.int .u64 (padF 0 k)] 45)).ownsRow s0 45 1 (.slice Ap k cp) k (flatM pdV (padL 0 k)) from by
        have h0 := HPP.out.below ((Below.refl wr.heap.size wr).alloc (Nat.le_refl _) (.cells #[.int .u64 (padF 0 k)] 45))
        unfold OwnR at h0
        rw [padL_len] at h0
        exact h0)
      have HSB := Lib.hid (show s0 ≤ (wr.alloc (.cells #[.int .u64 (padF 0 k)] 45)).heap.size by have := HSZ.out; simp; omega)
      have al := (Below.refl wr.heap.size wr).alloc (Nat.le_refl _) (.cells #[.int .u64 (padF 0 k)] 45)
      have HKA := Lib.hid (HKK.out.below al kl)
      have HAL := Lib.hid al
      have HNG := Lib.hid (show ¬ OwnB Ap gk0 from fun e => by have := (rowE_lt HPP.out e).1; have := HKL.out; omega)
      clear al
      go_upto_region 8 with (at_builtin; (try rw [hpf]); refine wpList_append_any (.tmp 25) (.tmp 35) 46 rfl rfl s0 45 i0 (.int .u64 0) 1 8 Try.underlying46 HI.out HZ0.out HZ1.out HZ2.out rfl (by decide) Ap k cp (flatM pdV (padL 0 k)) (by rfl) HOWN.out (some ⟨wr.heap.size, 0, none⟩) 1 1 [.int .u64 (padF 0 k)] (by rfl) (by rfl) (src_blk (Blk.new' wr #[.int .u64 (padF 0 k)] 45) 1) (by simp [Value.oneCell']) (by unfold maxLen; omega) (by omega) HSB.out ?_; intro A' cap' w' hown hgr hnr; have HOW := Lib.hid hown; have HGR := Lib.hid (grown_touch hgr); have HNR := Lib.hid hnr; have HK5 := Lib.hid (HKA.out.touch HGR.out HNG.out); clear hown hgr hnr k1 kf kl; have k1 := HK5.out.cell 1 rfl; have kf := HK5.out.free 1; have kl := HK5.out.lt)
      clear k1 kf kl
      have HTF := Lib.hid (show Touch (fun k => k = gk0) V0 (w'.setCell ⟨gk0, 1, none⟩ (.slice A' (k + 1) cap')) from (HT.out.then ((Touch.of_below (S := fun k => s0 ≤ k) HAL.out).then HGR.out (fun q e => .inl ((rowE_lt HPP.out e).1))) (fun q e => .inr (by rw [← HSI.out]; exact e))).then (show Touch (fun k => k = gk0) w' _ from (Touch.refl _ _).put 1 _) (fun q e => .inl e))
      have HKF := Lib.hid (HK5.out.setCell 1 (.slice A' (k + 1) cap'))
      have HOF := Lib.hid (show OwnR pdV 45 1 s0 (w'.setCell ⟨gk0, 1, none⟩ (.slice A' (k + 1) cap')) A' cap' (padL 0 (k + 1)) from by
        have h0 : OwnR pdV 45 1 s0 w' A' cap' (padL 0 (k + 1)) := by
          unfold OwnR
          rw [padL_len, padL_succ, flatM_append]
          exact HOW.out
        refine h0.touch (show Touch (fun k => k = gk0) w' _ from (Touch.refl _ _).put 1 _) (fun q hq e => ?_)
        subst e
        rcases HNR.out _ hq with e | e
        · exact HNG.out e
        · have := HKA.out.lt; omega)
      go_wp2_with fail
      exact ⟨⟨k + 1, A', cap', by omega, by simp, Lib.hid ⟨HTF.out, HKF.out, HOF.out⟩⟩, by simp only [intOfU]; omega⟩
    · obtain rfl : k = 20 := by omega
      clear hlt
      have HW2 := Lib.hid (HAW.out.then HT.out (fun q e => .inl (by rw [e, HGK.out]; exact Nat.le_refl _)))
      have HD2 := Lib.hid (HDS.out.touch HW2.out (Nat.le_refl _))
      have HPM := Lib.hid (show OwnR pdV 45 1 w.heap.size wr Ap cp (padL 0 20) ∧ ∀ k, OwnB Ap k → g7 < k from ⟨HPP.out.mono (by have h1 := HDS.out.b.size; have h2 := HAW.out.size; have h3 := HSI.out; omega), fun q hq => by have h1 := (rowE_lt HPP.out hq).1; have h2 := HDS.out.h7.lt; have h3 := HAW.out.size; have h4 := HSI.out; omega⟩)
      have HKW := Lib.hid HKK.out
      obtain ⟨cta, hct⟩ : ∃ cta : Ct, cta = { pt := 1000, A := Ap, cap := cp, ps := padL 0 20 } := ⟨_, rfl⟩
      have HCTa := Lib.hid hct
      clear hct HPP HT HKK HDS HAW HDL
      go_upto_region 10 with fail
      obtain ⟨i0, hi0, hz0, hz1, hz2⟩ := info_parts info199
      have HI := Lib.hid hi0
      have HZ0 := Lib.hid hz0
      have HZ1 := Lib.hid hz1
      have HZ2 := Lib.hid hz2
      clear hi0 hz0 hz1 hz2
      refine wp_region_spine 10 [true, false] [] ?af10_0 (fun V => Below wr.heap.size wr V) (by kernel_rfl) (by kernel_rfl) ((Below.refl _ _).drew) ?walk10_0 ?spine10_0
      case walk10_0 =>
        intro V hV
        have g3 := (HD2.out.h7.below hV HD2.out.h7.lt).cell 3 rfl
        have gl := (HD2.out.h7.below hV HD2.out.h7.lt).lt
        have k0 := (HKW.out.below hV HKW.out.lt).cell 0 rfl
        have k1 := (HKW.out.below hV HKW.out.lt).cell 1 rfl
        have kl := (HKW.out.below hV HKW.out.lt).lt
        clear hV
        simp only [List.take_succ_cons, List.take_zero]
        repeat (go_big_quiet_step (fail))
        refine wpQuiet_nil ?_
        rfl
      case spine10_0 =>
        intro V hV
        have HV := Lib.hid hV
        clear hV
        refine spineV_cons ?_
        refine stepV_new (.cells #[.int .u64 1000, .slice Ap 20 cp] 48) (fun b => .slice (some ⟨b, 0, none⟩) 1 1) (fun _ => by kernel_rfl) ?_
        have al := (Below.refl V.heap.size V).alloc (Nat.le_refl _) (.cells #[.int .u64 1000, .slice Ap 20 cp] 48)
        have HW2 := Lib.hid (HV.out.trans (al.mono HV.out.size))
        have HR := Lib.hid (Blk.new' V #[.int .u64 1000, .slice Ap 20 cp] 48)
        refine ⟨fun _ => HW2.out, ?_⟩
        generalize V.alloc (.cells #[.int .u64 1000, .slice Ap 20 cp] 48) = V2 at HW2 HR ⊢
        generalize V.heap.size = ga at *
        clear al HV
        (try simp only [Act.put, List.setIfInBounds_toArray, List.set_cons_zero, List.set_cons_succ])
        have hcut : V2.ownsRow w.heap.size 48 2 (.slice (some ⟨gc, 0, none⟩) 0 1) 0 (flatM ctV ([ct0 gp].take 0)) := by
          have h0 := (HD2.out.r.cut ct_len 0 (by simp) (by simp)).below HW2.out
          exact h0
        refine spineV_cons ?_
        refine stepV_append (.tmp 46) (.tmp 48) 25 rfl w.heap.size 48 i0 (.agg #[.int .u64 0, .slice none 0 0]) 2 32 Try.underlying25 HI.out HZ0.out HZ1.out HZ2.out rfl (by decide) (some ⟨gc, 0, none⟩) 0 1 (flatM ctV ([ct0 gp].take 0)) (by rfl) hcut (some ⟨ga, 0, none⟩) 1 1 [.int .u64 1000, .slice Ap 20 cp] (by rfl) (by rfl) (.inr ⟨_, rfl, ?_⟩) (by simp [Value.oneCell']) (by decide) (by decide) (by have := HD2.out.b.size; have := HW2.out.size; omega) ?_
        · intro j u hu
          have := HR.out.cell j hu
          rwa [show ((⟨ga, 0, none⟩ : Addr).add j) = ⟨ga, j, none⟩ from (by unfold Addr.add; split <;> simp_all)]
        intro Aq0 cq0 w' hown hgr hnr
        refine ⟨fun h => absurd h (by decide), ?_⟩
        have HTG := Lib.hid ((Touch.of_below (S := fun k => OwnB ((some ⟨gc, 0, none⟩)) k) HW2.out).then (grown_touch hgr) (fun q e => .inl e))
        have HOW := Lib.hid hown
        have HNR := Lib.hid hnr
        have HZV := Lib.hid HW2.out.size
        have H7 := Lib.hid (HD2.out.h7.touch HTG.out (fun e => (HD2.out.o _ e).2.1 rfl))
        clear hown hgr hnr hcut HR HW2
        refine spineV_nil ?_
        (try simp only [Act.put, List.setIfInBounds_toArray, List.set_cons_zero, List.set_cons_succ])
        (try simp only [List.drop_succ_cons, List.drop_zero, List.length_cons, List.length_nil])
        have g3 := H7.out.cell 3 rfl
        have f3 := H7.out.free 3
        have gl := H7.out.lt
        have HT7 : Touch (fun k => k = g7) w' (w'.setCell ⟨g7, 3, none⟩ (.slice Aq0 (0 + 1) cq0)) := (Touch.refl _ _).put 3 _
        have HNEW : Hid (DealS w (w'.setCell ⟨g7, 3, none⟩ (.slice Aq0 (0 + 1) cq0)) g6 g7 ge Aq0 cq0 (0 + 1) ([ct0 gp].take 0 ++ [cta]) ([] ++ [cta])) := by
          have hd := HD2.out
          have hz := hd.z
          have h7l := hd.h7.lt
          have h6l := hd.h6.lt
          have hzv := HZV.out
          have hbs := hd.b.size
          have hoA : ∀ k, OwnB Aq0 k → k ≠ g6 ∧ k ≠ g7 ∧ ge < k := fun k hk => by
            rcases HNR.out k hk with e | e
            · exact hd.o k e
            · omega
          refine Lib.hid ⟨?_, ?_, ?_, ?_, ?_, by simp, hoA, ?_, hz⟩
          · exact Below.touch (Below.touch hd.b hbs HTG.out (fun q hq => (rowE_lt hd.r hq).1)) (by have := HTG.out.size; omega) HT7 (fun q e => by omega)
          · exact (hd.h6.touch HTG.out (fun e => (hd.o _ e).1 rfl)).touch HT7 hz.2.1
          · exact H7.out.setCell 3 _
          · exact (hd.e.touch HTG.out (fun k hk e => by obtain ⟨a, ea, eb⟩ := hk; cases ea; have h2 : ge = k := eb; have := (hd.o _ e).2.2; omega)).touch HT7 (fun k hk e => by obtain ⟨a, ea, eb⟩ := hk; cases ea; have h2 : ge = k := eb; omega)
          · have h0 : OwnR ctV 48 2 w.heap.size w' Aq0 cq0 ([ct0 gp].take 0 ++ [cta]) := by
              unfold OwnR
              rw [flatM_append, HCTa.out]
              exact HOW.out
            exact h0.touch HT7 (fun k hk e => (hoA k hk).2.1 e)
          · intro c hc
            rcases List.mem_append.1 hc with hc | hc
            · exact ⟨((hd.p c hc).1.touch HTG.out (fun k hk e => rowE_ne (hd.p c hc).1 hd.r (by decide) hk e)).touch HT7 (fun k hk e => by have := (hd.p c hc).2 k hk; omega), (hd.p c hc).2⟩
            · obtain rfl := List.mem_singleton.1 hc
              rw [HCTa.out]
              exact ⟨(HPM.out.1.touch HTG.out (fun k hk e => rowE_ne HPM.out.1 hd.r (by decide) hk e)).touch HT7 (fun k hk e => by have := HPM.out.2 k hk; omega), HPM.out.2⟩
        clear HT7
        go_upto_region 4 with fail
        clear g3 f3 gl
        generalize w'.setCell ⟨g7, 3, none⟩ (.slice Aq0 (0 + 1) cq0) = U0 at HNEW ⊢
        clear HD2 HPM HKW HTG HOW HNR HZV H7 HW2
        have HDS := HNEW
        clear HNEW
        go_wp2_with fail
        obtain ⟨gr, hgr, _, _, hcl, hcm⟩ := HDS.out.r.form (by simp)
        subst hgr
        have hc1 : 1 ≤ cq0 := hcl
        have HDS := Lib.hid (show DealS w U0 g6 g7 ge (some ⟨gr, 0, none⟩) cq0 1 [cta] [cta] from HDS.out)
        clear hcl
        rw [rounds_succ]
        go_upto_region 6 with fail
        have al := (Touch.refl (fun k => U0.heap.size ≤ k) U0).alloc (.cells #[.int .u64 1077, .slice none 0 0] 48)
        have HAW := Lib.hid al
        have HDL := Lib.hid (show U0.heap.size ≤ U0.heap.size from Nat.le_refl _)
        have HK := Lib.hid (Blk.new' U0 #[.int .u64 1077, .slice none 0 0] 48)
        obtain ⟨gk1, hgk⟩ : ∃ gk1, gk1 = U0.heap.size := ⟨_, rfl⟩
        rw [← hgk] at HK ⊢
        have HGK := Lib.hid hgk
        clear al hgk
        generalize U0.alloc (.cells #[.int .u64 1077, .slice none 0 0] 48) = V1 at HAW HK ⊢
        go_wp2_with fail
        obtain ⟨s1, hs1⟩ : ∃ s1, s1 = V1.heap.size := ⟨_, rfl⟩
        have HSI := Lib.hid hs1
        have HKL := Lib.hid (show gk1 < s1 by rw [hs1]; exact HK.out.lt)
        clear hs1
        go_loopw [10] (fun v wr => ∃ (k : Nat) (Ap : Option Addr) (cp : Nat), k ≤ 20 ∧ v = .int .u64 k ∧ Hid (Touch (fun k => k = gk1) V1 wr ∧ Blk wr gk1 48 [.int .u64 1077, .slice Ap k cp] ∧ OwnR pdV 45 1 s1 wr Ap cp (padL 1 k))) (fun v _ => 20 - (intOfU v).toNat)
        case atStart => exact ⟨0, none, 0, Nat.zero_le _, rfl, Lib.hid ⟨Touch.refl _ _, HK.out, World.ownsRow_nil _ _ _ _⟩⟩
        case round =>
          obtain ⟨k, Ap, cp, hk, rfl, HZ⟩ := hrel
          have HT := Lib.hid HZ.out.1
          have HKK := Lib.hid HZ.out.2.1
          have HPP := Lib.hid HZ.out.2.2
          clear HZ
          by_cases hlt : k < 20
          · have hki : (k : Int) < 20 := by omega
            have HLT := Lib.hid hlt
            have k1 := HKK.out.cell 1 rfl
            have kl := HKK.out.lt
            have kf := HKK.out.free 1
            have hpf : (IntKind.u64.wrap (IntKind.u64.wrap (((k : Int) + 3) * ((k : Int) + 1 + 5)) * 123457)).tmod 2147483647 = padF 1 k := by
              have hb := Pf.mul_pos_bd (x := (k : Int) + 3) (y := ((k : Int) + 1 + 5)) (A := 22) (B := 25) (by omega) (by omega)
              have h4 : IntKind.u64.wrap (((k : Int) + 3) * ((k : Int) + 1 + 5)) = ((k : Int) + 3) * ((k : Int) + 1 + 5) := IntWalk.u64_in _ (by omega)
              have h5 : IntKind.u64.wrap (((k : Int) + 3) * ((k : Int) + 1 + 5) * 123457) = ((k : Int) + 3) * ((k : Int) + 1 + 5) * 123457 := IntWalk.u64_in _ (by omega)
              rw [h4, h5]
              have e1 : (((k + 3) * (k + 1 + 5) : Nat) : Int) = ((k : Int) + 3) * ((k : Int) + 1 + 5) := by rw [Int.natCast_mul]; congr 1
              unfold padF
              rw [← e1]
              generalize (k + 3) * (k + 1 + 5) = P
              rw [Int.tmod_eq_emod_of_nonneg (by omega)]
              omega
            obtain ⟨i0, hi0, hz0, hz1, hz2⟩ := info_parts info196
            have HI := Lib.hid hi0
            have HZ0 := Lib.hid hz0
            have HZ1 := Lib.hid hz1
            have HZ2 := Lib.hid hz2
            clear hi0 hz0 hz1 hz2
            have HSZ := Lib.hid (show s1 ≤ wr.heap.size by rw [HSI.out]; exact HT.out.size)
            have HOWN := Lib.hid (show (wr.alloc (.cells #[.int .u64 (padF 1 k)] 45)).ownsRow s1 45 1 (.slice Ap k cp) k (flatM pdV (padL 1 k)) from by
              have h0 := HPP.out.below ((Below.refl wr.heap.size wr).alloc (Nat.le_refl _) (.cells #[.int .u64 (padF 1 k)] 45))
              unfold OwnR at h0
              rw [padL_len] at h0
              exact h0)
            have HSB := Lib.hid (show s1 ≤ (wr.alloc (.cells #[.int .u64 (padF 1 k)] 45)).heap.size by have := HSZ.out; simp; omega)
            have al := (Below.refl wr.heap.size wr).alloc (Nat.le_refl _) (.cells #[.int .u64 (padF 1 k)] 45)
            have HKA := Lib.hid (HKK.out.below al kl)
            have HAL := Lib.hid al
            have HNG := Lib.hid (show ¬ OwnB Ap gk1 from fun e => by have := (rowE_lt HPP.out e).1; have := HKL.out; omega)
            clear al
            go_upto_region 8 with (at_builtin; (try rw [hpf]); refine wpList_append_any (.tmp 25) (.tmp 35) 46 rfl rfl s1 45 i0 (.int .u64 0) 1 8 Try.underlying46 HI.out HZ0.out HZ1.out HZ2.out rfl (by decide) Ap k cp (flatM pdV (padL 1 k)) (by rfl) HOWN.out (some ⟨wr.heap.size, 0, none⟩) 1 1 [.int .u64 (padF 1 k)] (by rfl) (by rfl) (src_blk (Blk.new' wr #[.int .u64 (padF 1 k)] 45) 1) (by simp [Value.oneCell']) (by unfold maxLen; omega) (by omega) HSB.out ?_; intro A' cap' w' hown hgr hnr; have HOW := Lib.hid hown; have HGR := Lib.hid (grown_touch hgr); have HNR := Lib.hid hnr; have HK5 := Lib.hid (HKA.out.touch HGR.out HNG.out); clear hown hgr hnr k1 kf kl; have k1 := HK5.out.cell 1 rfl; have kf := HK5.out.free 1; have kl := HK5.out.lt)
            clear k1 kf kl
            have HTF := Lib.hid (show Touch (fun k => k = gk1) V1 (w'.setCell ⟨gk1, 1, none⟩ (.slice A' (k + 1) cap')) from (HT.out.then ((Touch.of_below (S := fun k => s1 ≤ k) HAL.out).then HGR.out (fun q e => .inl ((rowE_lt HPP.out e).1))) (fun q e => .inr (by rw [← HSI.out]; exact e))).then (show Touch (fun k => k = gk1) w' _ from (Touch.refl _ _).put 1 _) (fun q e => .inl e))
            have HKF := Lib.hid (HK5.out.setCell 1 (.slice A' (k + 1) cap'))
            have HOF := Lib.hid (show OwnR pdV 45 1 s1 (w'.setCell ⟨gk1, 1, none⟩ (.slice A' (k + 1) cap')) A' cap' (padL 1 (k + 1)) from by
              have h0 : OwnR pdV 45 1 s1 w' A' cap' (padL 1 (k + 1)) := by
                unfold OwnR
                rw [padL_len, padL_succ, flatM_append]
                exact HOW.out
              refine h0.touch (show Touch (fun k => k = gk1) w' _ from (Touch.refl _ _).put 1 _) (fun q hq e => ?_)
              subst e
              rcases HNR.out _ hq with e | e
              · exact HNG.out e
              · have := HKA.out.lt; omega)
            go_wp2_with fail
            exact ⟨⟨k + 1, A', cap', by omega, by simp, Lib.hid ⟨HTF.out, HKF.out, HOF.out⟩⟩, by simp only [intOfU]; omega⟩
          · obtain rfl : k = 20 := by omega
            clear hlt
            have HW2 := Lib.hid (HAW.out.then HT.out (fun q e => .inl (by rw [e, HGK.out]; exact Nat.le_refl _)))
            have HD2 := Lib.hid (HDS.out.touch HW2.out (Nat.le_refl _))
            have HPM := Lib.hid (show OwnR pdV 45 1 w.heap.size wr Ap cp (padL 1 20) ∧ ∀ k, OwnB Ap k → g7 < k from ⟨HPP.out.mono (by have h1 := HDS.out.b.size; have h2 := HAW.out.size; have h3 := HSI.out; omega), fun q hq => by have h1 := (rowE_lt HPP.out hq).1; have h2 := HDS.out.h7.lt; have h3 := HAW.out.size; have h4 := HSI.out; omega⟩)
            have HKW := Lib.hid HKK.out
            obtain ⟨ctb, hct⟩ : ∃ ctb : Ct, ctb = { pt := 1077, A := Ap, cap := cp, ps := padL 1 20 } := ⟨_, rfl⟩
            have HCTb := Lib.hid hct
            clear hct HPP HT HKK HDS HAW HDL
            go_upto_region 10 with fail
            obtain ⟨i0, hi0, hz0, hz1, hz2⟩ := info_parts info199
            have HI := Lib.hid hi0
            have HZ0 := Lib.hid hz0
            have HZ1 := Lib.hid hz1
            have HZ2 := Lib.hid hz2
            clear hi0 hz0 hz1 hz2
            refine wp_region_spine 10 [true, false] [] ?af10_1 (fun V => Below wr.heap.size wr V) (by kernel_rfl) (by kernel_rfl) ((Below.refl _ _).drew) ?walk10_1 ?spine10_1
            case walk10_1 =>
              intro V hV
              have g3 := (HD2.out.h7.below hV HD2.out.h7.lt).cell 3 rfl
              have gl := (HD2.out.h7.below hV HD2.out.h7.lt).lt
              have k0 := (HKW.out.below hV HKW.out.lt).cell 0 rfl
              have k1 := (HKW.out.below hV HKW.out.lt).cell 1 rfl
              have kl := (HKW.out.below hV HKW.out.lt).lt
              clear hV
              simp only [List.take_succ_cons, List.take_zero]
              repeat (go_big_quiet_step (fail))
              refine wpQuiet_nil ?_
              rfl
            case spine10_1 =>
              intro V hV
              have HV := Lib.hid hV
              clear hV
              refine spineV_cons ?_
              refine stepV_new (.cells #[.int .u64 1077, .slice Ap 20 cp] 48) (fun b => .slice (some ⟨b, 0, none⟩) 1 1) (fun _ => by kernel_rfl) ?_
              have al := (Below.refl V.heap.size V).alloc (Nat.le_refl _) (.cells #[.int .u64 1077, .slice Ap 20 cp] 48)
              have HW2 := Lib.hid (HV.out.trans (al.mono HV.out.size))
              have HR := Lib.hid (Blk.new' V #[.int .u64 1077, .slice Ap 20 cp] 48)
              refine ⟨fun _ => HW2.out, ?_⟩
              generalize V.alloc (.cells #[.int .u64 1077, .slice Ap 20 cp] 48) = V2 at HW2 HR ⊢
              generalize V.heap.size = ga at *
              clear al HV
              (try simp only [Act.put, List.setIfInBounds_toArray, List.set_cons_zero, List.set_cons_succ])
              have hcut : V2.ownsRow w.heap.size 48 2 (.slice (some ⟨gr, 0, none⟩) 1 cq0) 1 (flatM ctV ([cta].take 1)) := by
                have h0 := (HD2.out.r.cut ct_len 1 (by simp) (by simp)).below HW2.out
                exact h0
              refine spineV_cons ?_
              refine stepV_append (.tmp 46) (.tmp 48) 25 rfl w.heap.size 48 i0 (.agg #[.int .u64 0, .slice none 0 0]) 2 32 Try.underlying25 HI.out HZ0.out HZ1.out HZ2.out rfl (by decide) (some ⟨gr, 0, none⟩) 1 cq0 (flatM ctV ([cta].take 1)) (by rfl) hcut (some ⟨ga, 0, none⟩) 1 1 [.int .u64 1077, .slice Ap 20 cp] (by rfl) (by rfl) (.inr ⟨_, rfl, ?_⟩) (by simp [Value.oneCell']) (by decide) (by decide) (by have := HD2.out.b.size; have := HW2.out.size; omega) ?_
              · intro j u hu
                have := HR.out.cell j hu
                rwa [show ((⟨ga, 0, none⟩ : Addr).add j) = ⟨ga, j, none⟩ from (by unfold Addr.add; split <;> simp_all)]
              intro Aq1 cq1 w' hown hgr hnr
              refine ⟨fun h => absurd h (by decide), ?_⟩
              have HTG := Lib.hid ((Touch.of_below (S := fun k => OwnB ((some ⟨gr, 0, none⟩)) k) HW2.out).then (grown_touch hgr) (fun q e => .inl e))
              have HOW := Lib.hid hown
              have HNR := Lib.hid hnr
              have HZV := Lib.hid HW2.out.size
              have H7 := Lib.hid (HD2.out.h7.touch HTG.out (fun e => (HD2.out.o _ e).2.1 rfl))
              clear hown hgr hnr hcut HR HW2
              refine spineV_nil ?_
              (try simp only [Act.put, List.setIfInBounds_toArray, List.set_cons_zero, List.set_cons_succ])
              (try simp only [List.drop_succ_cons, List.drop_zero, List.length_cons, List.length_nil])
              have g3 := H7.out.cell 3 rfl
              have f3 := H7.out.free 3
              have gl := H7.out.lt
              have HT7 : Touch (fun k => k = g7) w' (w'.setCell ⟨g7, 3, none⟩ (.slice Aq1 (1 + 1) cq1)) := (Touch.refl _ _).put 3 _
              have HNEW : Hid (DealS w (w'.setCell ⟨g7, 3, none⟩ (.slice Aq1 (1 + 1) cq1)) g6 g7 ge Aq1 cq1 (1 + 1) ([cta].take 1 ++ [ctb]) ([cta] ++ [ctb])) := by
                have hd := HD2.out
                have hz := hd.z
                have h7l := hd.h7.lt
                have h6l := hd.h6.lt
                have hzv := HZV.out
                have hbs := hd.b.size
                have hoA : ∀ k, OwnB Aq1 k → k ≠ g6 ∧ k ≠ g7 ∧ ge < k := fun k hk => by
                  rcases HNR.out k hk with e | e
                  · exact hd.o k e
                  · omega
                refine Lib.hid ⟨?_, ?_, ?_, ?_, ?_, by simp, hoA, ?_, hz⟩
                · exact Below.touch (Below.touch hd.b hbs HTG.out (fun q hq => (rowE_lt hd.r hq).1)) (by have := HTG.out.size; omega) HT7 (fun q e => by omega)
                · exact (hd.h6.touch HTG.out (fun e => (hd.o _ e).1 rfl)).touch HT7 hz.2.1
                · exact H7.out.setCell 3 _
                · exact (hd.e.touch HTG.out (fun k hk e => by obtain ⟨a, ea, eb⟩ := hk; cases ea; have h2 : ge = k := eb; have := (hd.o _ e).2.2; omega)).touch HT7 (fun k hk e => by obtain ⟨a, ea, eb⟩ := hk; cases ea; have h2 : ge = k := eb; omega)
                · have h0 : OwnR ctV 48 2 w.heap.size w' Aq1 cq1 ([cta].take 1 ++ [ctb]) := by
                    unfold OwnR
                    rw [flatM_append, HCTb.out]
                    exact HOW.out
                  exact h0.touch HT7 (fun k hk e => (hoA k hk).2.1 e)
                · intro c hc
                  rcases List.mem_append.1 hc with hc | hc
                  · exact ⟨((hd.p c hc).1.touch HTG.out (fun k hk e => rowE_ne (hd.p c hc).1 hd.r (by decide) hk e)).touch HT7 (fun k hk e => by have := (hd.p c hc).2 k hk; omega), (hd.p c hc).2⟩
                  · obtain rfl := List.mem_singleton.1 hc
                    rw [HCTb.out]
                    exact ⟨(HPM.out.1.touch HTG.out (fun k hk e => rowE_ne HPM.out.1 hd.r (by decide) hk e)).touch HT7 (fun k hk e => by have := HPM.out.2 k hk; omega), HPM.out.2⟩
              clear HT7
              go_upto_region 4 with fail
              clear g3 f3 gl
              generalize w'.setCell ⟨g7, 3, none⟩ (.slice Aq1 (1 + 1) cq1) = U1 at HNEW ⊢
              clear HD2 HPM HKW HTG HOW HNR HZV H7 HW2
              have HDS := HNEW
              clear HNEW
              go_wp2_with fail
              rw [rounds_succ]
              have HDS := Lib.hid (show DealS w U1 g6 g7 ge Aq1 cq1 2 [cta, ctb] [cta, ctb] from HDS.out)
              have q0 := HDS.out.h7
              have d0 := q0.cell 0 rfl
              have d1 := q0.cell 1 rfl
              have d2 := q0.cell 2 rfl
              have d3 := q0.cell 3 rfl
              have d4 := q0.cell 4 rfl
              have d5 := q0.cell 5 rfl
              have d6 := q0.cell 6 rfl
              have d7 := q0.cell 7 rfl
              have d8 := q0.cell 8 rfl
              have f4 := q0.free 4
              have f5 := q0.free 5
              have f6 := q0.free 6
              have f7 := q0.free 7
              have f8 := q0.free 8
              have gl := q0.lt
              clear q0
              have hev := HEV.out
              have hsl := HSL.out
              have hcr := HCR.out
              have w1 : IntKind.i64.wrap ev = ev := IntWalk.i64_in _ (by omega)
              have w2 : wrap64 ev = ev := by rw [← IntWalk.i64_left]; exact w1
              have w3 : IntKind.i64.wrap sl = sl := IntWalk.i64_in _ (by omega)
              have w4 : wrap64 sl = sl := by rw [← IntWalk.i64_left]; exact w3
              have w5 : IntKind.i64.wrap cr = cr := IntWalk.i64_in _ (by omega)
              have w6 : wrap64 cr = cr := by rw [← IntWalk.i64_left]; exact w5
              have w7 : wrap64 (1 + ev % 5) = 1 + ev % 5 := by rw [← IntWalk.i64_left]; exact IntWalk.i64_in _ (by omega)
              have w8 : wrap64 (1 + sl % 6) = 1 + sl % 6 := by rw [← IntWalk.i64_left]; exact IntWalk.i64_in _ (by omega)
              have e0 : 0 ≤ ev := hev.1
              have e1 : 0 ≤ sl := hsl.1
              go_upto_region 13 with fail
              refine gen_world' (fun W => Touch (fun k => k = g7) U1 W ∧ Blk W g7 27 [.int .i64 100, .slice (some ⟨ge, 0, none⟩) 2 2, .int .i64 10, .slice Aq1 2 cq1, .int .i64 cr, .int .i64 (1 + ev % 5), .int .i64 (1 + sl % 6), .int .i64 1000000, .int .i64 1000000]) ⟨((((((Touch.refl _ _).put 5 _).put 6 _).put 4 _).put 7 _).put 8 _), (((((HDS.out.h7.setCell 5 (.int .i64 (1 + ev % 5))).setCell 6 (.int .i64 (1 + sl % 6))).setCell 4 (.int .i64 cr)).setCell 7 (.int .i64 1000000)).setCell 8 (.int .i64 1000000))⟩ ?_
              rintro U2 ⟨ht, hk⟩
              have HT2 := Lib.hid ht
              have HK2 := Lib.hid hk
              clear ht hk d0 d1 d2 d3 d4 d5 d6 d7 d8 f4 f5 f6 f7 f8 gl hev hsl hcr
              have q0 := HK2.out
              have d0 := q0.cell 0 rfl
              have d1 := q0.cell 1 rfl
              have d2 := q0.cell 2 rfl
              have d3 := q0.cell 3 rfl
              have d4 := q0.cell 4 rfl
              have d5 := q0.cell 5 rfl
              have d6 := q0.cell 6 rfl
              have d7 := q0.cell 7 rfl
              have d8 := q0.cell 8 rfl
              have gl := q0.lt
              clear q0
              have H6 := Lib.hid (HDS.out.h6.touch HT2.out HDS.out.z.2.1)
              have x0 := H6.out.cell 0 rfl
              have y0 := H6.out.free 0
              have x1 := H6.out.cell 1 rfl
              have y1 := H6.out.free 1
              have x2 := H6.out.cell 2 rfl
              have y2 := H6.out.free 2
              have x3 := H6.out.cell 3 rfl
              have y3 := H6.out.free 3
              have x4 := H6.out.cell 4 rfl
              have y4 := H6.out.free 4
              have x5 := H6.out.cell 5 rfl
              have y5 := H6.out.free 5
              have x6 := H6.out.cell 6 rfl
              have y6 := H6.out.free 6
              have x7 := H6.out.cell 7 rfl
              have y7 := H6.out.free 7
              have x8 := H6.out.cell 8 rfl
              have y8 := H6.out.free 8
              have xl := H6.out.lt
              have HNE := Lib.hid HDS.out.z.2.1
              go_wp2_with fail
              have HT3 : Touch (fun k => k = g6) U2 (((((((((U2.setCell ⟨g6, 0, none⟩ (.int .i64 100)).setCell ⟨g6, 1, none⟩ (.slice (some ⟨ge, 0, none⟩) 2 2)).setCell ⟨g6, 2, none⟩ (.int .i64 10)).setCell ⟨g6, 3, none⟩ (.slice Aq1 2 cq1)).setCell ⟨g6, 4, none⟩ (.int .i64 cr)).setCell ⟨g6, 5, none⟩ (.int .i64 (1 + ev % 5))).setCell ⟨g6, 6, none⟩ (.int .i64 (1 + sl % 6))).setCell ⟨g6, 7, none⟩ (.int .i64 1000000)).setCell ⟨g6, 8, none⟩ (.int .i64 1000000)) := ((((((((((Touch.refl _ _).put 0 _).put 1 _).put 2 _).put 3 _).put 4 _).put 5 _).put 6 _).put 7 _).put 8 _)
              have HB6 : Blk (((((((((U2.setCell ⟨g6, 0, none⟩ (.int .i64 100)).setCell ⟨g6, 1, none⟩ (.slice (some ⟨ge, 0, none⟩) 2 2)).setCell ⟨g6, 2, none⟩ (.int .i64 10)).setCell ⟨g6, 3, none⟩ (.slice Aq1 2 cq1)).setCell ⟨g6, 4, none⟩ (.int .i64 cr)).setCell ⟨g6, 5, none⟩ (.int .i64 (1 + ev % 5))).setCell ⟨g6, 6, none⟩ (.int .i64 (1 + sl % 6))).setCell ⟨g6, 7, none⟩ (.int .i64 1000000)).setCell ⟨g6, 8, none⟩ (.int .i64 1000000)) g6 27 [.int .i64 100, .slice (some ⟨ge, 0, none⟩) 2 2, .int .i64 10, .slice Aq1 2 cq1, .int .i64 cr, .int .i64 (1 + ev % 5), .int .i64 (1 + sl % 6), .int .i64 1000000, .int .i64 1000000] := (((((((((H6.out.setCell 0 (.int .i64 100)).setCell 1 (.slice (some ⟨ge, 0, none⟩) 2 2)).setCell 2 (.int .i64 10)).setCell 3 (.slice Aq1 2 cq1)).setCell 4 (.int .i64 cr)).setCell 5 (.int .i64 (1 + ev % 5))).setCell 6 (.int .i64 (1 + sl % 6))).setCell 7 (.int .i64 1000000)).setCell 8 (.int .i64 1000000))
              generalize (((((((((U2.setCell ⟨g6, 0, none⟩ (.int .i64 100)).setCell ⟨g6, 1, none⟩ (.slice (some ⟨ge, 0, none⟩) 2 2)).setCell ⟨g6, 2, none⟩ (.int .i64 10)).setCell ⟨g6, 3, none⟩ (.slice Aq1 2 cq1)).setCell ⟨g6, 4, none⟩ (.int .i64 cr)).setCell ⟨g6, 5, none⟩ (.int .i64 (1 + ev % 5))).setCell ⟨g6, 6, none⟩ (.int .i64 (1 + sl % 6))).setCell ⟨g6, 7, none⟩ (.int .i64 1000000)).setCell ⟨g6, 8, none⟩ (.int .i64 1000000)) = U3 at HT3 HB6 ⊢
              have r0 := HB6.cell 0 rfl
              have r1 := HB6.cell 1 rfl
              have r2 := HB6.cell 2 rfl
              have r3 := HB6.cell 3 rfl
              have r4 := HB6.cell 4 rfl
              have r5 := HB6.cell 5 rfl
              have r6 := HB6.cell 6 rfl
              have r7 := HB6.cell 7 rfl
              have r8 := HB6.cell 8 rfl
              have rl := HB6.lt
              have hd := HDS.out
              have hz := hd.z
              have h7l := hd.h7.lt
              have h6l := hd.h6.lt
              have hrow : OwnR ctV 48 2 w.heap.size U3 Aq1 cq1 [cta, ctb] := (hd.r.touch HT2.out (fun k hk e => (hd.o k hk).2.1 e)).touch HT3 (fun k hk e => (hd.o k hk).1 e)
              have hpad : ∀ c ∈ [cta, ctb], OwnR pdV 45 1 w.heap.size U3 c.A c.cap c.ps := fun c hc => ((hd.p c hc).1.touch HT2.out (fun k hk e => by have := (hd.p c hc).2 k hk; omega)).touch HT3 (fun k hk e => by have h1 := (hd.p c hc).2 k hk; have h2 := HG6.out; have h3 := HG7.out; have h4 := hz.2.2.1; have h5 := (rowE_lt (hd.p c hc).1 hk).1; omega)
              have hcts : CtsAt U3 Aq1 [cta, ctb] := row_cts hrow (fun i hi => by
                match i, hi with
                | 0, _ => exact ⟨row_pads (hpad cta (by simp)), cap_of (hpad cta (by simp))⟩
                | 1, _ => exact ⟨row_pads (hpad ctb (by simp)), cap_of (hpad ctb (by simp))⟩)
              have hbd : BandsAt U3 (some ⟨ge, 0, none⟩) exBs := (hd.e.touch HT2.out (fun k hk e => by obtain ⟨a, ea, eb⟩ := hk; cases ea; have h2 : ge = k := eb; omega)).touch HT3 (fun k hk e => by obtain ⟨a, ea, eb⟩ := hk; cases ea; have h2 : ge = k := eb; have := HG6.out; have := HGG.out; omega)
              have hbel : Below w.heap.size w U3 := Below.touch (Below.touch hd.b hd.b.size HT2.out (fun k e => by omega)) (by have := hd.b.size; have := HT2.out.size; omega) HT3 (fun k e => by omega)
              have hcap := cap_of hrow
              exact bodyPost_ret (v := .agg #[.int .i64 100, .slice (some ⟨ge, 0, none⟩) 2 2, .int .i64 10, .slice Aq1 2 cq1, .int .i64 cr, .int .i64 (1 + ev % 5), .int .i64 (1 + sl % 6), .int .i64 1000000, .int .i64 1000000]) (by simp [results, Try.results4, go_sem, r0, r1, r2, r3, r4, r5, r6, r7, r8]) rfl ⟨ge, Aq1, cq1, [cta, ctb], rfl, hbd, hcts, by rw [HCTa.out, HCTb.out]; rfl, rfl, hcap.1, hcap.2, hbel⟩
end Go.Proofs.Ytlklnaebdnahcaa
namespace Go.Proofs.Ytlklnaebdnahcaa
open Go.RowKit Nw
def NetS (w W : World) (n : Nat) (D : Dl) (S : St) : Prop := ∃ col M B, NetAt W B n col 0 D M S ∧ B ≤ W.heap.size ∧ (∀ k, k < w.heap.size → ¬ NetOwn col 0 k) ∧ Below w.heap.size w W
theorem NetS.below {w W W' : World} {n : Nat} {D : Dl} {S : St} (h : NetS w W n D S) (hb : Below W.heap.size W W') : NetS w W' n D S := by
  obtain ⟨col, M, B, h1, h2, h3, h4⟩ := h
  exact ⟨col, M, B, h1.below hb, Nat.le_trans h2 hb.size, h3, h4.trans (hb.mono h4.size)⟩
theorem NetS.bel {w W : World} {n : Nat} {D : Dl} {S : St} (h : NetS w W n D S) : Below w.heap.size w W := by
  obtain ⟨col, M, B, h1, h2, h3, h4⟩ := h
  exact h4
theorem NetS.op {w W : World} {n : Nat} {D : Dl} {S S' : St} {f : FuncId} {args : Array Value} {E : Ending} (h : NetS w W n D S) (hc : ∀ col M B, NetAt W B n col 0 D M S → B ≤ W.heap.size → Calls Try.prog f args W fun e w' => e = E ∧ NetTo W B n col 0 D S' w') :
    Calls Try.prog f args W fun e w' => e = E ∧ NetS w w' n D S' := by
  obtain ⟨col, M, B, h1, h2, h3, h4⟩ := h
  refine (hc col M B h1 h2).mono fun e w' ⟨he, col', M', hcc, hN, ht⟩ => ⟨he, col', M', B, hN, Nat.le_trans h2 ht.size, fun k hk => ?_, Below.touch h4 h4.size ht (fun k hk => ?_)⟩
  · have e1 := hcc k (Nat.lt_of_lt_of_le hk h4.size)
    have := h3 k hk
    unfold NetOwn at this ⊢
    rw [e1]
    exact this
  · by_cases hlt : w.heap.size ≤ k
    · exact hlt
    · exact absurd hk (h3 k (by omega))
theorem settle_one (D : Dl) (n i : Nat) (S : St) : (Nw.settle D (n + 1) i S).1 = S ∨ (Nw.settle D (n + 1) i S).1 = beat D S ∨ (Nw.settle D (n + 1) i S).1 = (Nw.settle D n (i + 1) (beat D S)).1 := by
  have e : Nw.settle D (n + 1) i S = if 1099511627776 ≤ S.now then (S, i) else if waits (beat D S) then Nw.settle D n (i + 1) (beat D S) else (beat D S, i + 1) := by
    conv => lhs; unfold Nw.settle
  rw [e]
  generalize beat D S = T
  generalize (1099511627776 : Int) = mx
  split
  · exact .inl rfl
  · split
    · exact .inr (.inr rfl)
    · exact .inr (.inl rfl)
theorem OkB.settle {L : Nat} {D : Dl} (n : Nat) : ∀ {K : Int} {A : Nat} (i : Nat) {S : St}, OkB K A L D S → ∀ {K' : Int} {A' : Nat}, K' = K + 12800 * n → A' = A + 200 * n → K' ≤ 4611686018427387904 → OkB K' A' L D (Nw.settle D n i S).1 := by
  induction n with
  | zero =>
    intro K A i S h K' A' hK hA hle
    have e1 : K' = K := by omega
    have e2 : A' = A := by omega
    rw [e1, e2]
    exact h
  | succ n ih =>
    intro K A i S h K' A' hK hA hle
    have hb := h.beat (by omega)
    rcases settle_one D n i S with e | e | e
    · rw [e]; exact h.up (by omega) hle (by omega) (Nat.le_refl _)
    · rw [e]; exact hb.up (by omega) hle (by omega) (Nat.le_refl _)
    · rw [e]; exact ih (i + 1) hb (by omega) (by omega) hle
theorem OkB.new {D : Dl} (hd : ∀ c ∈ D.cn, ∀ q ∈ c.ps, 0 ≤ q) (hc : D.cn.length ≤ 16) : OkB 0 0 0 D st0 where
  n := ⟨⟨by decide, by decide⟩, fun i hi => by
    have e : Nw.ln st0 i = Lx.ln0 := by
      match i, hi with
      | 0, _ => rfl
      | 1, _ => rfl
      | 2, _ => rfl
      | 3, _ => rfl
      | 4, _ => rfl
      | 5, _ => rfl
    rw [e]
    exact ⟨⟨by decide, by decide⟩, ⟨by decide, by decide⟩, by decide⟩, fun s hs => (by cases hs)⟩
  d := hd
  c16 := hc
  ac := Nat.le_refl _
  cs := fun c hc => by
    obtain rfl := List.mem_singleton.1 hc
    exact ⟨by decide, by decide, by decide, fun l hl => (by cases hl), by decide⟩
  cl := by decide
  fl := by decide
theorem deal_ok {ev sl cr : Int} (hev : 1 ≤ ev ∧ ev ≤ 1000) (hsl : 1 ≤ sl ∧ sl ≤ 20) (hcr : 0 ≤ cr ∧ cr ≤ 255) {cts : List Ct} (hm : cts.map toCn = xCn) (hl : cts.length = 2) : Cv.deE (Cv.tarE 100 10 exBs) cts.length (Cv.ctsOk cts) cr ev sl 1000000 1000000 = 0 := by
  have h1 : Cv.ctsOk cts = xCn.all (fun c => Cv.ctOk c.pt c.ps) := by
    rw [← hm, List.all_map]
    rfl
  have h2 : xCn.all (fun c => Cv.ctOk c.pt c.ps) = true := by decide +kernel
  have h3 : Cv.tarE 100 10 exBs = 0 := Cv.tarE_ok ⟨by decide, by decide, by decide, fun i hi => by
    match i, hi with
    | 0, _ => unfold Cv.okAt; decide
    | 1, _ => unfold Cv.okAt; decide⟩
  refine Cv.deE_yes ⟨h3, by omega, by omega, by rw [h1, h2], Cv.inB_iff.2 (by omega), hev.1, hev.2, hsl.1, hsl.2, Cv.inB_iff.2 (by omega), Cv.inB_iff.2 (by omega)⟩
theorem xCn_pos : ∀ c ∈ xCn, ∀ q ∈ c.ps, 0 ≤ q := by
  intro c hc q hq
  have : xCn.all (fun c => c.ps.all (fun q => decide (0 ≤ q))) = true := by decide +kernel
  rw [List.all_eq_true] at this
  have h2 := this c hc
  rw [List.all_eq_true] at h2
  exact of_decide_eq_true (h2 q hq)
theorem new_n {ev sl cr : Int} (hev : 1 ≤ ev ∧ ev ≤ 1000) (hsl : 1 ≤ sl ∧ sl ≤ 20) (hcr : 0 ≤ cr ∧ cr ≤ 255) {ge : Nat} {A : Option Addr} {c : Nat} {cts : List Ct} {w W : World} (hb : Below w.heap.size w W) (hbd : BandsAt W (some ⟨ge, 0, none⟩) exBs) (hct : CtsAt W A cts) (hm : cts.map toCn = xCn) (hl : cts.length = 2) (hc : 2 ≤ c) (hc2 : c ≤ 9223372036854775807) :
    Calls Try.prog 5 #[.agg #[.int .i64 100, .slice (some ⟨ge, 0, none⟩) 2 2, .int .i64 10, .slice A 2 c, .int .i64 cr, .int .i64 ev, .int .i64 sl, .int .i64 1000000, .int .i64 1000000]] W fun e w' => ∃ n, e = .returned (.tuple #[.pointer (some ⟨n, 0, none⟩), .int .i64 0]) ∧ NetS w w' n ⟨100, 10, exBs, xCn, cr, ev, sl, 1000000, 1000000⟩ st0 := by
  have h0 := NewNet_0 100 10 (some ⟨ge, 0, none⟩) exBs 2 A cts c cr ev sl 1000000 1000000 W (by decide) (by decide) hbd (by omega) hc2 hct (deal_ok hev hsl hcr hm hl) (fun _ => 100) 0
  rw [hm] at h0
  unfold dealV at h0
  rw [hl] at h0
  refine h0.mono fun e w' ⟨n, col, M, he, hN, hcol, hbel⟩ => ⟨n, he, col, M, W.heap.size, hN, hbel.size, fun k hk => ?_, hb.trans (hbel.mono hb.size)⟩
  have e1 := hcol k (Nat.lt_of_lt_of_le hk hb.size)
  unfold NetOwn
  rw [e1]
  omega
end Go.Proofs.Ytlklnaebdnahcaa
namespace Go.Proofs.Ytlklnaebdnahcaa
open Go.RowKit Nw
theorem sn_src {w : World} {B n cap : Nat} {A : Option Addr} {L : List Sn} (h : w.ownsRow B 95 9 (.slice A n cap) n (flatS L)) : SrcRow w A n (flatS L) ∧ (A = none → n = 0) ∧ (flatS L).length = n * 9 := by
  rcases h.2 with ⟨h2, hn⟩ | ⟨g', c, cur, hv, hb, hg, hnc, hcm, hcs, htake⟩
  · cases h2
    exact ⟨.inl ⟨rfl, hn⟩, fun _ => hn, h.1⟩
  · cases hv
    refine ⟨.inr ⟨_, rfl, fun j u hu => ?_⟩, fun e => (by cases e), h.1⟩
    exact World.ownsRow.cells (g := g') h rfl j u hu
set_option maxRecDepth 100000 in
theorem Flying_c {w : World} {B n base : Nat} {col : Nat → Nat} {D : Dl} {M : Mem} {S : St} (h : NetAt w B n col base D M S) (hl : S.fl.length ≤ 1000000) :
    Calls Try.prog 10 #[.pointer (some ⟨n, 0, none⟩)] w fun e w' => ∃ A' cap', e = .returned (.slice A' S.fl.length cap') ∧ Below w.heap.size w w' := by
  have H := Lib.hid h
  have c17 := H.out.blk.cell 17 rfl
  have nl := H.out.lt
  have PC := Lib.hid (CloneSn_c M.fA S.fl.length M.fc (flatS S.fl) w (sn_src h.fl).1 (sn_src h.fl).2.2 (flatS_one S.fl) (sn_src h.fl).2.1 hl)
  generalize S.fl.length = m at c17 PC ⊢
  clear h hl
  go_enter Try.func10, Try.ntmps10
  go_wp2_with (first | (go_at_call 20; refine (validN_c H.out).mono ?_; rintro e w2 ⟨rfl, rfl⟩) | (go_at_call 33; refine (PC.out).mono ?_; rintro e w2 ⟨A', cap', rfl, _, hb⟩; have HB := Lib.hid hb; clear hb))
  go_ret
  exact ⟨A', cap', rfl, HB.out⟩
def NetX (w W : World) (n : Nat) (D : Dl) (S : St) (X : Nat → Prop) : Prop := ∃ col M B, NetAt W B n col 0 D M S ∧ B ≤ W.heap.size ∧ (∀ k, k < w.heap.size → ¬ NetOwn col 0 k) ∧ Below w.heap.size w W ∧ ∀ k, X k → k < W.heap.size ∧ ¬ NetOwn col 0 k
theorem NetX.bel {w W : World} {n : Nat} {D : Dl} {S : St} {X : Nat → Prop} (h : NetX w W n D S X) : Below w.heap.size w W := by
  obtain ⟨col, M, B, h1, h2, h3, h4, h5⟩ := h
  exact h4
theorem NetX.of {w W W' : World} {n : Nat} {D : Dl} {S : St} {X : Nat → Prop} (h : NetS w W n D S) (hb : Below W.heap.size W W') (hX : ∀ k, X k → W.heap.size ≤ k ∧ k < W'.heap.size) : ∃ w'', w'' = W' ∧ (∃ col M B, NetAt W' B n col 0 D M S ∧ B ≤ W.heap.size ∧ (∀ k, k < w.heap.size → ¬ NetOwn col 0 k) ∧ Below w.heap.size w W') := by
  obtain ⟨col, M, B, h1, h2, h3, h4⟩ := h
  exact ⟨W', rfl, col, M, B, h1.below hb, h2, h3, h4.trans (hb.mono h4.size)⟩
theorem NetX.op {w W : World} {n : Nat} {D : Dl} {S S' : St} {X : Nat → Prop} {f : FuncId} {args : Array Value} {E : Ending} (h : NetX w W n D S X) (hc : ∀ col M B, NetAt W B n col 0 D M S → B ≤ W.heap.size → Calls Try.prog f args W fun e w' => e = E ∧ NetTo W B n col 0 D S' w') :
    Calls Try.prog f args W fun e w' => e = E ∧ NetX w w' n D S' X ∧ Touch (fun k => ¬ X k) W w' := by
  obtain ⟨col, M, B, h1, h2, h3, h4, h5⟩ := h
  refine (hc col M B h1 h2).mono fun e w' ⟨he, col', M', hcc, hN, ht⟩ => ⟨he, ⟨col', M', B, hN, Nat.le_trans h2 ht.size, fun k hk => ?_, Below.touch h4 h4.size ht (fun k hk => ?_), fun k hk => ?_⟩, ht.mono (fun k hk hx => (h5 k hx).2 hk)⟩
  · have e1 := hcc k (Nat.lt_of_lt_of_le hk h4.size)
    have := h3 k hk
    unfold NetOwn at this ⊢
    rw [e1]
    exact this
  · by_cases hlt : w.heap.size ≤ k
    · exact hlt
    · exact absurd hk (h3 k (by omega))
  · have h6 := h5 k hk
    refine ⟨Nat.lt_of_lt_of_le h6.1 ht.size, ?_⟩
    have e1 := hcc k h6.1
    have := h6.2
    unfold NetOwn at this ⊢
    rw [e1]
    exact this
theorem NetX.below {w W W' : World} {n : Nat} {D : Dl} {S : St} {X : Nat → Prop} (h : NetX w W n D S X) (hb : Below W.heap.size W W') : NetX w W' n D S X := by
  obtain ⟨col, M, B, h1, h2, h3, h4, h5⟩ := h
  exact ⟨col, M, B, h1.below hb, Nat.le_trans h2 hb.size, h3, h4.trans (hb.mono h4.size), fun k hk => ⟨Nat.lt_of_lt_of_le (h5 k hk).1 hb.size, (h5 k hk).2⟩⟩
theorem NetX.touch {w W W' : World} {n : Nat} {D : Dl} {S : St} {X : Nat → Prop} (h : NetX w W n D S X) (ht : Touch X W W') (hX : ∀ k, X k → w.heap.size ≤ k) : NetX w W' n D S X := by
  obtain ⟨col, M, B, h1, h2, h3, h4, h5⟩ := h
  exact ⟨col, M, B, h1.touch ht (fun k hk hx => (h5 k hx).2 hk), Nat.le_trans h2 ht.size, h3, Below.touch h4 h4.size ht hX, fun k hk => ⟨Nat.lt_of_lt_of_le (h5 k hk).1 ht.size, (h5 k hk).2⟩⟩
theorem do_xx {w W : World} {n : Nat} {D : Dl} {S : St} {X : Nat → Prop} (h : NetX w W n D S X) {K : Int} (ho : OkA K D S) (k a b c : Int) : Calls Try.prog 6 #[.pointer (some ⟨n, 0, none⟩), .agg #[.int .i64 k, .int .i64 a, .int .i64 b, .int .i64 c]] W fun e w' => e = .returned (.int .i64 (doE D S k a b c)) ∧ NetX w w' n D (doS D S k a b c) X ∧ Touch (fun k => ¬ X k) W w' :=
  h.op fun col M B h1 h2 => Do_c h1 h2 ho k a b c
theorem flowing_x {w W : World} {n : Nat} {D : Dl} {S : St} {X : Nat → Prop} (h : NetX w W n D S X) : Calls Try.prog 9 #[.pointer (some ⟨n, 0, none⟩)] W fun e w' => e = .returned (.int .i64 S.flow) ∧ W = w' := by
  obtain ⟨col, M, B, h1, h2, h3, h4, h5⟩ := h
  exact Flowing_c h1
theorem flying_x {w W : World} {n : Nat} {D : Dl} {S : St} {X : Nat → Prop} (h : NetX w W n D S X) (hl : S.fl.length ≤ 1000000) : Calls Try.prog 10 #[.pointer (some ⟨n, 0, none⟩)] W fun e w' => ∃ A' cap', e = .returned (.slice A' S.fl.length cap') ∧ Below W.heap.size W w' := by
  obtain ⟨col, M, B, h1, h2, h3, h4, h5⟩ := h
  exact Flying_c h1 hl
end Go.Proofs.Ytlklnaebdnahcaa
namespace Go.Proofs.Ytlklnaebdnahcaa
open Go.RowKit Nw
theorem NetS.beh {w W W' : World} {n : Nat} {D : Dl} {S : St} (h : NetS W W' n D S) (hb : Below w.heap.size w W) {X : Nat → Prop} (hX : ∀ k, X k → k < W.heap.size) : NetX w W' n D S X := by
  obtain ⟨col, M, B, h1, h2, h3, h4⟩ := h
  exact ⟨col, M, B, h1, h2, fun k hk => h3 k (Nat.lt_of_lt_of_le hk hb.size), hb.trans (h4.mono hb.size), fun k hk => ⟨Nat.lt_of_lt_of_le (hX k hk) h4.size, h3 k (hX k hk)⟩⟩
theorem bs_deal (ev sl cr : Int) (hev : 0 ≤ ev ∧ ev ≤ 255) (hsl : 0 ≤ sl ∧ sl ≤ 255) (hcr : 0 ≤ cr ∧ cr ≤ 255) (w : World) : Calls Try.prog 4 #[.int .u8 ev, .int .u8 sl, .int .u8 cr] w fun e w' => ∃ ge A c cts, e = .returned (.agg #[.int .i64 100, .slice (some ⟨ge, 0, none⟩) 2 2, .int .i64 10, .slice A 2 c, .int .i64 cr, .int .i64 (1 + ev % 5), .int .i64 (1 + sl % 6), .int .i64 1000000, .int .i64 1000000]) ∧ BandsAt w' (some ⟨ge, 0, none⟩) exBs ∧ CtsAt w' A cts ∧ cts.map toCn = xCn ∧ cts.length = 2 ∧ 2 ≤ c ∧ c ≤ 9223372036854775807 ∧ Below w.heap.size w w' :=
  deal_c ev sl cr hev hsl hcr w
theorem phase_x {w W : World} {n : Nat} {D : Dl} {S : St} {X : Nat → Prop} (h : NetX w W n D S X) (q : Int) : Calls Try.prog 8 #[.pointer (some ⟨n, 0, none⟩), .int .i64 q] W fun e w' => e = .returned (.int .i64 (Nw.phase S q)) ∧ W = w' := by
  obtain ⟨col, M, B, h1, h2, h3, h4, h5⟩ := h
  exact Phase_c h1 q
theorem settle_x {w W : World} {n : Nat} {D : Dl} {S : St} {X : Nat → Prop} (h : NetX w W n D S X) {K : Int} {A L : Nat} (ho : OkB K A L D S) (hK : K + 25600000 ≤ 4611686018427387904) (hA : A + 400000 ≤ 1000000) (hL : L < 100000) (m : Int) : Calls Try.prog 7 #[.pointer (some ⟨n, 0, none⟩), .int .i64 m] W fun e w' => e = .returned (.tuple #[.int .i64 (setlV D S m), .int .i64 (setlE m)]) ∧ NetX w w' n D (setlS D S m) X ∧ Touch (fun k => ¬ X k) W w' :=
  h.op fun col M B h1 h2 => Settle_c h1 h2 ho hK hA hL m
end Go.Proofs.Ytlklnaebdnahcaa
