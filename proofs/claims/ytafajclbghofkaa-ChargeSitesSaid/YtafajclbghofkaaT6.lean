/- Copy of a site of charge. -/
import Derived.Test.YtafajclbghofkaaT4
namespace Go.Proofs.Ytafajclbghofkaa
open Go.RowKit
set_option linter.unusedVariables false
/-- slices.Clone of stations -/
def CloneCl (w : World) (n : Nat) (f : Nat → List Value) (e : Ending) (w' : World) : Prop := ∃ g c', e = .returned (.slice (some ⟨g, 0, none⟩) n c') ∧ w.heap.size ≤ g ∧ (n ≤ c' ∧ c' ≤ 9223372036854775807) ∧ ArrAt w' g 147 n f ∧ Below w.heap.size w w'
set_option maxRecDepth 100000 in
set_option maxHeartbeats 1000000 in
theorem CloneCl_c (g n cc : Nat) (f : Nat → List Value) (w : World) (h : ArrAt w g 147 n f) (h3 : ∀ i, (f i).length = 3) (h1 : ∀ i, ∀ u ∈ f i, u.oneCell' = true) (hn0 : 0 < n) (hn32 : n ≤ 32) :
    Calls Try.prog 69 #[.slice (some ⟨g, 0, none⟩) n cc] w (CloneCl w n f) := by
  have q139 : ∀ (w : World) (a : Option Addr) (n c n' c' : Nat), (binOp .eql 139 (.slice a n c) (.slice none n' c')).run Try.prog w = .ok (.bool a.isNone) w := fun w a n c n' c' => Lib.run_eql_slice_nil w _ _ a n c n' c' Try.underlying139
  obtain ⟨i0, hi, hz0, hz1, hzb⟩ := info_parts info147
  have HSr := Lib.hid (fun W (hW : Below w.heap.size w W) => arr_src h3 (h.below hW))
  have H3 := Lib.hid h3
  have H1 := Lib.hid h1
  clear h h3 h1
  go_enter Try.func69, Try.ntmps69
  go_wp2_with (at_builtin; refine wpList_append_any (.tmp 5) (.tmp 6) 139 rfl rfl w.heap.size 147 i0 (.agg #[.slice none 0 0, .int .i64 0, .int .i64 0]) 3 40 Try.underlying139 hi hz0 hz1 hzb rfl (by decide) (some ⟨w.heap.size, 0, none⟩) 0 0 [] (by rfl) (World.ownsRow_made w #[] 0 (Nat.le_refl _) (by decide) (by simp)) (some ⟨g, 0, none⟩) n cc (flat3 f n) (by rfl) (flat3_len H3.out n) (HSr.out _ ((Below.refl _ _).alloc (Nat.le_refl _) _)) (flat3_one H1.out n) (by unfold maxLen; omega) (by omega) (by simp) ?_; intro A' cap' w1 hown hgrow hat; have HOw := Lib.hid hown; have HT := Lib.hid (show Touch (OwnB (some ⟨w.heap.size, 0, none⟩)) _ w1 from (Touch.refl _ _).grown hgrow (fun k hk => .inl (ownB_iff.2 hk))); clear hown hgrow hat)
  go_ret
  simp only [Nat.zero_add, List.nil_append] at HOw
  obtain ⟨g', rfl, hBg, hncc, hcm, harr⟩ := row_arr H3.out HOw.out hn0
  have hb1 : Below w.heap.size w w1 := Below.touch ((Below.refl _ _).alloc (Nat.le_refl _) _) (by simp) HT.out (fun k e => by obtain ⟨a, ha, rfl⟩ := e; cases ha; exact Nat.le_refl _)
  unfold maxLen at hcm
  exact ⟨g', cap', by simp, hBg, ⟨hncc, by omega⟩, harr, hb1⟩
/-- a copy of a site: in blocks of its own -/
def CopyTo (w : World) (cs : List Sx.Cl) (D Bk N : Int) (e : Ending) (w' : World) : Prop := ∃ gs gc cc A q, e = .returned (.pointer (some ⟨gs, 0, none⟩)) ∧ SiteAt w' w.heap.size gs gc cc A q cs D Bk N ∧ Below w.heap.size w w'
/-- the stations while they are copied -/
structure CpI (w : World) (gs gc cc n : Nat) (A : Nat → Option Addr) (q : Nat → Nat) (cs : List Sx.Cl) (D Bk N : Int) (k : Nat) (A' : Nat → Option Addr) (q' : Nat → Nat) (W : World) : Prop where
  b : Below w.heap.size w W
  s : Blk W gs 141 [.int .i64 D, .int .i64 Bk, .int .i64 N, .slice (some ⟨gc, 0, none⟩) n cc]
  a : ArrAt W gc 147 n (fun i => clV (if i < k then A' i else A i) (if i < k then q' i else q i) (cs.getD i default))
  r : ∀ i, i < k → LRow w.heap.size (A' i) (q' i) (cs.getD i default).L W
  ne : ∀ i j, i < k → j < k → i ≠ j → ∀ x, OwnB (A' i) x → ¬ OwnB (A' j) x
theorem CpI.bel {w W W' : World} {gs gc cc n : Nat} {A : Nat → Option Addr} {q : Nat → Nat} {cs : List Sx.Cl} {D Bk N : Int} {k : Nat} {A' : Nat → Option Addr} {q' : Nat → Nat} (h : CpI w gs gc cc n A q cs D Bk N k A' q' W) (hb : Below W.heap.size W W') : CpI w gs gc cc n A q cs D Bk N k A' q' W' :=
  ⟨bel_bel h.b hb, blk_bel hb h.s, h.a.below hb, fun i hi => rowE_below (h.r i hi) hb, h.ne⟩
/-- one more station is copied -/
theorem CpI.next {w W W1 : World} {gs gc cc n : Nat} {A : Nat → Option Addr} {q : Nat → Nat} {cs : List Sx.Cl} {D Bk N : Int} {k : Nat} {A' : Nat → Option Addr} {q' : Nat → Nat} (h : CpI w gs gc cc n A q cs D Bk N k A' q' W) (hk : k < n) (hgs : w.heap.size ≤ gs) (hgc : w.heap.size ≤ gc) {A2 : Option Addr} {c2 : Nat} (hr : LRow W.heap.size A2 c2 (cs.getD k default).L W1) (hb : Below W.heap.size W W1) :
    CpI w gs gc cc n A q cs D Bk N (k + 1) (fun i => if i = k then A2 else A' i) (fun i => if i = k then c2 else q' i) (W1.setCell ⟨gc, k * 3, none⟩ (.slice A2 (cs.getD k default).L.length c2)) := by
  have h1 := h.bel hb
  have ht := (Touch.refl (fun x => x = gc) W1).put (k * 3) (.slice A2 (cs.getD k default).L.length c2)
  have hne : gs ≠ gc := fun e => by
    obtain ⟨vs, h2, _⟩ := h.a
    have h3 := h.s
    unfold Blk at h3
    rw [e, h2] at h3
    simp at h3
  have hrow : ∀ {B c : Nat} {A : Option Addr} {L : List Ls}, LRow B A c L W1 → ∀ x, OwnB A x → ¬ x = gc := fun hl x hx e => by
    subst e
    obtain ⟨vs, h2, _⟩ := h1.a
    exact lrow_ne hl h2 (by decide) hx
  refine ⟨h1.b.setCell hgc _, h1.s.touch ht hne, ?_, fun i hi => ?_, fun i j hi hj hij x h2 h3 => ?_⟩
  · refine ArrAt.congr (h1.a.set hk (show 0 < 3 by omega) (fun i hi => clV_len _ _ _) (.slice A2 (cs.getD k default).L.length c2)) (fun i hi => ?_)
    by_cases hik : i = k
    · subst hik; simp [clV]
    · have : (i < k + 1) = (i < k) := by simp; omega
      simp [hik, this]
  · by_cases hik : i = k
    · subst hik
      simp only [if_true]
      exact rowE_keep (rowLs_base hr h.b.size) ht (hrow hr)
    · simp only [hik, if_false]
      exact rowE_keep (h1.r i (by omega)) ht (hrow (h1.r i (by omega)))
  · have key : ∀ i, i < k → ∀ x, OwnB (A' i) x → ¬ OwnB A2 x := fun i hi x h2 h3 => by
      have := (rowE_lt (h.r i hi) h2).2
      have := (rowE_lt hr h3).1
      omega
    by_cases hik : i = k
    · have hjk : j ≠ k := by omega
      simp only [hik, hjk, if_true, if_false] at h2 h3
      exact key j (by omega) x h3 h2
    · by_cases hjk : j = k
      · simp only [hik, hjk, if_true, if_false] at h2 h3
        exact key i (by omega) x h2 h3
      · simp only [hik, hjk, if_false] at h2 h3
        exact h.ne i j (by omega) (by omega) hij x h2 h3
theorem cp_S {w W : World} {B gs gc cc gs' gc' cc' n k k' : Nat} {A : Nat → Option Addr} {q : Nat → Nat} {cs : List Sx.Cl} {D Bk N : Int} {A' : Nat → Option Addr} {q' : Nat → Nat} {ck : Sx.Cl} {Ak : Option Addr} {qk : Nat} (hs : SiteAt w B gs gc cc A q cs D Bk N) (h : CpI w gs' gc' cc' n A q cs D Bk N k' A' q' W) (hn : n = cs.length) (hk : k < cs.length) (h1 : ck = cs.getD k default) (h2 : Ak = A k) (h3 : qk = q k) :
    W.cell? ⟨gs', 3, none⟩ = some (.slice (some ⟨gc', 0, none⟩) n cc') ∧ W.cell? ⟨gs, 3, none⟩ = some (.slice (some ⟨gc, 0, none⟩) n cc) ∧ W.cell? ⟨gc, k * 3, none⟩ = some (.slice Ak ck.L.length qk) := by
  subst hn h1 h2 h3
  exact ⟨h.s.cell 3 rfl, (hs.below h.b).s.cell 3 rfl, (hs.below h.b).a.cell hk 0 rfl⟩
set_option maxRecDepth 100000 in
set_option maxHeartbeats 4000000 in
theorem CopyS_c {w : World} {B gs gc cc : Nat} {A : Nat → Option Addr} {q : Nat → Nat} {cs : List Sx.Cl} {D Bk N : Int} (h : SiteAt w B gs gc cc A q cs D Bk N) (hn0 : 0 < cs.length) (hn32 : cs.length ≤ 32) (hok : ∀ c ∈ cs, c.L.length ≤ 100000) :
    Calls Try.prog 43 #[.pointer (some ⟨gs, 0, none⟩)] w (CopyTo w cs D Bk N) := by
  have q139 : ∀ (w : World) (a : Option Addr) (n c n' c' : Nat), (binOp .eql 139 (.slice a n c) (.slice none n' c')).run Try.prog w = .ok (.bool a.isNone) w := fun w a n c n' c' => Lib.run_eql_slice_nil w _ _ a n c n' c' Try.underlying139
  have HS := Lib.hid h
  have HOK := Lib.hid hok
  have c0 := h.s.cell 0 rfl
  have c1 := h.s.cell 1 rfl
  have c2 := h.s.cell 2 rfl
  have c3 := h.s.cell 3 rfl
  have hz := h.s.lt
  have hz2 : gs ≠ w.heap.size := by omega
  have hz3 : gs < w.heap.size + 1 := by omega
  obtain ⟨n, hn⟩ : ∃ n, n = cs.length := ⟨_, rfl⟩
  rw [← hn] at c3 hn0 hn32
  have HN := Lib.hid hn
  have P69 := Lib.hid (fun W (hW : Below w.heap.size w W) => CloneCl_c gc n cc (fun i => clV (A i) (q i) (cs.getD i default)) W (by rw [hn]; exact (h.below hW).a) (fun i => clV_len _ _ _) (fun i => clV_one _ _ _) hn0 hn32)
  clear h hok hn
  go_enter Try.func43, Try.ntmps43
  go_upto_region 5 with (go_at_call 69; refine (P69.out _ ((Below.refl _ _).alloc (Nat.le_refl _) _)).mono ?_; rintro e w1 ⟨g, c', rfl, hg, hcc, harr, hb⟩; have HA := Lib.hid harr; have HB := Lib.hid hb; have HK := Lib.hid (blk_bel hb (Blk.new' w #[.int .i64 D, .int .i64 Bk, .int .i64 N, .slice (some ⟨gc, 0, none⟩) n cc] 141)); have y3 := HK.out.cell 3 rfl; have f3 := HK.out.free 3; have HL := Lib.hid (And.intro hg hcc); clear harr hb hg hcc)
  have hgn : w.heap.size < g := by have := HL.out.1; simp at this; omega
  refine gen_world' (fun W => CpI w w.heap.size g c' n A q cs D Bk N 0 (fun _ => none) (fun _ => 0) W) ⟨(bel_bel ((Below.refl _ _).alloc (Nat.le_refl _) _) HB.out).setCell (Nat.le_refl _) _, by simpa using HK.out.setCell 3 (.slice (some ⟨g, 0, none⟩) n c'), by simpa using HA.out.touch ((Touch.refl (fun k => k = w.heap.size) w1).put 3 _) (by omega), fun i hi => absurd hi (Nat.not_lt_zero _), fun i j hi => absurd hi (Nat.not_lt_zero _)⟩ ?_
  have hcc2 := HL.out.2
  clear y3 f3 HK HA HB HL c0 c1 c2 c3 P69
  rintro w2 hj2
  have HJ2 := Lib.hid hj2
  have y3 := hj2.s.cell 3 rfl
  clear hj2
  go_wp2_with fail
  clear y3
  go_loopw [26] (fun i wr => ∃ (k : Nat) (A' : Nat → Option Addr) (q' : Nat → Nat), k ≤ n ∧ i = .int .i64 k ∧ Hid (CpI w w.heap.size g c' n A q cs D Bk N k A' q' wr)) (fun i _ => n - (intOf i).toNat)
  case atStart => exact ⟨0, _, _, Nat.zero_le _, rfl, HJ2⟩
  case round =>
    obtain ⟨k, A', q', hk, rfl, HJ⟩ := hrel
    by_cases hlt : k < n
    · have hkc : k < cs.length := by have := HN.out; omega
      obtain ⟨ck, hck⟩ : ∃ c, c = cs.getD k default := ⟨_, rfl⟩
      obtain ⟨Ak, hAk⟩ : ∃ c, c = A k := ⟨_, rfl⟩
      obtain ⟨qk, hqk⟩ : ∃ c, c = q k := ⟨_, rfl⟩
      have HCk := Lib.hid hck
      have HAk := Lib.hid hAk
      have HQk := Lib.hid hqk
      have P70 := Lib.hid (fun W (hW : Below w.heap.size w W) => CloneLs_c (A k) (q k) B (cs.getD k default).L W (rowE_below (HS.out.r k hkc) hW) (by have := HOK.out (cs.getD k default) (by rw [List.getD_eq_getElem?_getD, List.getElem?_eq_getElem hkc]; exact List.getElem_mem hkc); omega))
      rw [← hck, ← hAk, ← hqk] at P70
      have HJd := Lib.hid (HJ.out.bel ((Below.refl _ _).drew))
      have k0 : (0 : Int) ≤ (k : Int) := by omega
      have k1 : (k : Int) < (n : Int) := by omega
      have zw := HJ.out.s.lt
      have zs : gs < wr.heap.size := Nat.lt_of_lt_of_le hz HJ.out.b.size
      clear hck hAk hqk
      go_wp2_with fail
      refine lBegin (S := fun _ W => (W.cell? ⟨w.heap.size, 3, none⟩ = some (.slice (some ⟨g, 0, none⟩) n c') ∧ W.cell? ⟨gs, 3, none⟩ = some (.slice (some ⟨gc, 0, none⟩) n cc) ∧ W.cell? ⟨gc, k * 3, none⟩ = some (.slice Ak ck.L.length qk))) (by kernel_rfl) ?_ (fun hHeld => ?_)
      · (try dsimp only); (first | with_reducible exact cp_S HS.out HJd.out HN.out hkc HCk.out HAk.out HQk.out | with_reducible exact cp_S HS.out HJ1.out HN.out hkc HCk.out HAk.out HQk.out | with_reducible exact cp_S HS.out HJn.out HN.out hkc HCk.out HAk.out HQk.out)
      refine lTake (i := 0) (v := ?_) rfl (by kernel_rfl) (by kernel_rfl) (by kernel_rfl) (fun _ _ _ h => h) (by rfl) (fun _ _ h => h) (fun _ _ h => h) ?_ (by assumption) (fun hHeld2 => ?_)
      rotate_left 1
      · (intro _ _ _ _ _; first | (go_simp; done) | (go_simp; with_reducible rfl))
      clear hHeld; have hHeld := hHeld2; clear hHeld2
      (try simp only [Act.put, List.setIfInBounds_toArray, List.set_cons_zero, List.set_cons_succ])
      refine lTake (i := 1) (v := ?_) rfl (by kernel_rfl) (by kernel_rfl) (by kernel_rfl) (fun _ _ _ h => h) (by rfl) (fun _ _ h => h) (fun _ _ h => h) ?_ (by assumption) (fun hHeld2 => ?_)
      rotate_left 1
      · (intro L W _ _ hSw; (try dsimp only at hSw); first | (go_simp; done) | (go_simp; with_reducible rfl))
      clear hHeld; have hHeld := hHeld2; clear hHeld2
      (try simp only [Act.put, List.setIfInBounds_toArray, List.set_cons_zero, List.set_cons_succ])
      refine lTake (i := 2) (v := ?_) rfl (by kernel_rfl) (by kernel_rfl) (by kernel_rfl) (fun _ _ _ h => h) (by rfl) (fun _ _ h => h) (fun _ _ h => h) ?_ (by assumption) (fun hHeld2 => ?_)
      rotate_left 1
      · (intro _ _ _ _ _; first | (go_simp; done) | (go_simp; with_reducible rfl))
      clear hHeld; have hHeld := hHeld2; clear hHeld2
      (try simp only [Act.put, List.setIfInBounds_toArray, List.set_cons_zero, List.set_cons_succ])
      refine lTake (i := 3) (v := ?_) rfl (by kernel_rfl) (by kernel_rfl) (by kernel_rfl) (fun _ _ _ h => h) (by rfl) (fun _ _ h => h) (fun _ _ h => h) ?_ (by assumption) (fun hHeld2 => ?_)
      rotate_left 1
      · (intro _ _ _ _ _; first | (go_simp; done) | (go_simp; with_reducible rfl))
      clear hHeld; have hHeld := hHeld2; clear hHeld2
      (try simp only [Act.put, List.setIfInBounds_toArray, List.set_cons_zero, List.set_cons_succ])
      refine lTake (i := 4) (v := ?_) rfl (by kernel_rfl) (by kernel_rfl) (by kernel_rfl) (fun _ _ _ h => h) (by rfl) (fun _ _ h => h) (fun _ _ h => h) ?_ (by assumption) (fun hHeld2 => ?_)
      rotate_left 1
      · (intro _ _ _ _ _; first | (go_simp; done) | (go_simp; with_reducible rfl))
      clear hHeld; have hHeld := hHeld2; clear hHeld2
      (try simp only [Act.put, List.setIfInBounds_toArray, List.set_cons_zero, List.set_cons_succ])
      refine lTake (i := 5) (v := ?_) rfl (by kernel_rfl) (by kernel_rfl) (by kernel_rfl) (fun _ _ _ h => h) (by rfl) (fun _ _ h => h) (fun _ _ h => h) ?_ (by assumption) (fun hHeld2 => ?_)
      rotate_left 1
      · (intro _ _ _ _ _; first | (go_simp; done) | (go_simp; with_reducible rfl))
      clear hHeld; have hHeld := hHeld2; clear hHeld2
      (try simp only [Act.put, List.setIfInBounds_toArray, List.set_cons_zero, List.set_cons_succ])
      refine lTake (i := 6) (v := ?_) rfl (by kernel_rfl) (by kernel_rfl) (by kernel_rfl) (fun _ _ _ h => h) (by rfl) (fun _ _ h => h) (fun _ _ h => h) ?_ (by assumption) (fun hHeld2 => ?_)
      rotate_left 1
      · (intro L W _ _ hSw; (try dsimp only at hSw); first | (go_simp; done) | (go_simp; with_reducible rfl))
      clear hHeld; have hHeld := hHeld2; clear hHeld2
      (try simp only [Act.put, List.setIfInBounds_toArray, List.set_cons_zero, List.set_cons_succ])
      refine lTake (i := 7) (v := ?_) rfl (by kernel_rfl) (by kernel_rfl) (by kernel_rfl) (fun _ _ _ h => h) (by rfl) (fun _ _ h => h) (fun _ _ h => h) ?_ (by assumption) (fun hHeld2 => ?_)
      rotate_left 1
      · (intro _ _ _ _ _; first | (go_simp; done) | (go_simp; with_reducible rfl))
      clear hHeld; have hHeld := hHeld2; clear hHeld2
      (try simp only [Act.put, List.setIfInBounds_toArray, List.set_cons_zero, List.set_cons_succ])
      refine lTake (i := 8) (v := ?_) rfl (by kernel_rfl) (by kernel_rfl) (by kernel_rfl) (fun _ _ _ h => h) (by rfl) (fun _ _ h => h) (fun _ _ h => h) ?_ (by assumption) (fun hHeld2 => ?_)
      rotate_left 1
      · (intro _ _ _ _ _; first | (go_simp; done) | (go_simp; with_reducible rfl))
      clear hHeld; have hHeld := hHeld2; clear hHeld2
      (try simp only [Act.put, List.setIfInBounds_toArray, List.set_cons_zero, List.set_cons_succ])
      refine lTake (i := 9) (v := ?_) rfl (by kernel_rfl) (by kernel_rfl) (by kernel_rfl) (fun _ _ _ h => h) (by rfl) (fun _ _ h => h) (fun _ _ h => h) ?_ (by assumption) (fun hHeld2 => ?_)
      rotate_left 1
      · (intro _ _ _ _ _; first | (go_simp; done) | (go_simp; with_reducible rfl))
      clear hHeld; have hHeld := hHeld2; clear hHeld2
      (try simp only [Act.put, List.setIfInBounds_toArray, List.set_cons_zero, List.set_cons_succ])
      refine lTake (i := 10) (v := ?_) rfl (by kernel_rfl) (by kernel_rfl) (by kernel_rfl) (fun _ _ _ h => h) (by rfl) (fun _ _ h => h) (fun _ _ h => h) ?_ (by assumption) (fun hHeld2 => ?_)
      rotate_left 1
      · (intro L W _ _ hSw; (try dsimp only at hSw); first | (go_simp; done) | (go_simp; with_reducible rfl))
      clear hHeld; have hHeld := hHeld2; clear hHeld2
      (try simp only [Act.put, List.setIfInBounds_toArray, List.set_cons_zero, List.set_cons_succ])
      refine lReady (rs := [11]) (by kernel_rfl) (by simp) ?_
      refine AllL.cons (i := 11) rfl (fun K hK => ?_) ?_
      · go_simp; (refine (P70.out _ HJd.out.b).mono ?_; rintro e w5 ⟨A2, c2, rfl, hr5, hb5⟩; have HJ1 := Lib.hid (HJd.out.bel hb5); have HJn := Lib.hid (show CpI w w.heap.size g c' n A q cs D Bk N (k + 1) (fun i => if i = k then A2 else A' i) (fun i => if i = k then c2 else q' i) (w5.setCell ⟨g, k * 3, none⟩ (.slice A2 ck.L.length c2)) from by have h := HJd.out.next hlt (Nat.le_refl _) (by omega) (A2 := A2) (c2 := c2) (by rw [← HCk.out]; exact hr5) hb5; rw [← HCk.out] at h; exact h); have g0 := HJ1.out.a.cell hlt 0 rfl; simp only [Nat.add_zero] at g0; have g1 := HJ1.out.a.free (k * 3); clear hr5 hb5)
        (try go_wp2_with fail)
        refine hK.out _ _ ?_ (fun hHeld2 => ?_)
        · (try dsimp only); (first | with_reducible exact cp_S HS.out HJd.out HN.out hkc HCk.out HAk.out HQk.out | with_reducible exact cp_S HS.out HJ1.out HN.out hkc HCk.out HAk.out HQk.out | with_reducible exact cp_S HS.out HJn.out HN.out hkc HCk.out HAk.out HQk.out)
        clear hK K
        clear hHeld; have hHeld := hHeld2; clear hHeld2
        (try simp only [Act.put, List.setIfInBounds_toArray, List.set_cons_zero, List.set_cons_succ])
        refine lTake (i := 12) (v := ?_) rfl (by kernel_rfl) (by kernel_rfl) (by kernel_rfl) (fun _ _ _ h => h) (by rfl) (fun _ _ h => h) (fun _ _ h => h) ?_ (by assumption) (fun hHeld2 => ?_)
        rotate_left 1
        · (intro _ _ _ _ _; first | (go_simp; done) | (go_simp; with_reducible rfl))
        clear hHeld; have hHeld := hHeld2; clear hHeld2
        (try simp only [Act.put, List.setIfInBounds_toArray, List.set_cons_zero, List.set_cons_succ])
        refine lTake (i := 13) (v := ?_) rfl (by kernel_rfl) (by kernel_rfl) (by kernel_rfl) (fun _ _ _ h => h) (by rfl) (fun _ _ h => h) (fun _ _ h => h) ?_ (by assumption) (fun hHeld2 => ?_)
        rotate_left 1
        · (intro _ _ _ _ _; first | (go_simp; done) | (go_simp; with_reducible rfl))
        clear hHeld; have hHeld := hHeld2; clear hHeld2
        (try simp only [Act.put, List.setIfInBounds_toArray, List.set_cons_zero, List.set_cons_succ])
        refine lReady (rs := [14]) (by kernel_rfl) (by simp) ?_
        refine AllL.cons (i := 14) rfl (fun K hK => ?_) ?_
        · go_simp
          (try go_wp2_with fail)
          refine hK.out _ _ ?_ (fun hHeld2 => ?_)
          · (try dsimp only); (first | with_reducible exact cp_S HS.out HJd.out HN.out hkc HCk.out HAk.out HQk.out | with_reducible exact cp_S HS.out HJ1.out HN.out hkc HCk.out HAk.out HQk.out | with_reducible exact cp_S HS.out HJn.out HN.out hkc HCk.out HAk.out HQk.out)
          clear hK K
          clear hHeld; have hHeld := hHeld2; clear hHeld2
          (try simp only [Act.put, List.setIfInBounds_toArray, List.set_cons_zero, List.set_cons_succ])
          refine lDone (by kernel_rfl) ?_ _
          clear hHeld
          go_wp2_with fail
          exact ⟨⟨k + 1, _, _, by omega, by go_num, HJn⟩, by simp [intOf]; omega⟩
        exact AllL.nil
      exact AllL.nil
    · have e : k = n := by omega
      subst e
      go_wp2_with fail
      go_ret
      have hN := HN.out
      refine ⟨w.heap.size, g, c', A', q', rfl, ⟨?_, ?_, fun i hi => HJ.out.r i (by omega), fun i j hi hj => HJ.out.ne i j (by omega) (by omega), ⟨Nat.le_refl _, by omega⟩, by omega⟩, HJ.out.b⟩
      · rw [← hN]; exact HJ.out.s
      · rw [← hN]
        exact ArrAt.congr HJ.out.a (fun i hi => by simp [hi])
end Go.Proofs.Ytafajclbghofkaa
