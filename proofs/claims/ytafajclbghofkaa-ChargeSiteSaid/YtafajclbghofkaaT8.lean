/- What is done with a site, on both sides. -/
import Derived.Test.YtafajclbghofkaaT5
import Derived.Test.YtafajclbghofkaaT7
namespace Go.Proofs.Ytafajclbghofkaa
open Go.RowKit
set_option linter.unusedVariables false
/-- what an operation of the reference's site leaves -/
def RPost (w : World) (rs rc : Nat) (A : Nat → Option Addr) (n : Nat) (cs2 : List Sx.Cl) (D Bk N2 : Int) (w' : World) : Prop :=
  ∃ rc2 rcc2 A2 q2, RefAt w' rs rc2 rcc2 A2 q2 cs2 D Bk N2 ∧ Touch (fun k => k = rs) w w' ∧ ∀ k, SOwn rs rc2 A2 n k → SOwn rs rc A n k ∨ w.heap.size ≤ k
theorem RTo.post {w w' : World} {rs rc : Nat} {A : Nat → Option Addr} {cs2 : List Sx.Cl} {n : Nat} {D Bk N2 : Int} (h : RTo w rs A cs2 D Bk N2 w') : RPost w rs rc A n cs2 D Bk N2 w' := by
  obtain ⟨⟨rc2, rcc2, A2, q2, hr, hrc, hA⟩, ht⟩ := h
  refine ⟨rc2, rcc2, A2, q2, hr, ht, fun k hk => ?_⟩
  rcases hk with hk | hk | ⟨i, hi, hk⟩
  · exact .inl (.inl hk)
  · exact .inr (by omega)
  · exact (hA i k hk).imp (fun h => .inr (.inr ⟨i, hi, h⟩)) id
theorem RefAt.post {w w' : World} {rs rc rcc : Nat} {A : Nat → Option Addr} {q : Nat → Nat} {cs : List Sx.Cl} {n : Nat} {D Bk N : Int} (h : RefAt w rs rc rcc A q cs D Bk N) (hb : Below w.heap.size w w') : RPost w rs rc A n cs D Bk N w' :=
  ⟨rc, rcc, A, q, h.below hb, Touch.of_below hb, fun k hk => .inl hk⟩
theorem Grant2_c {w : World} {B gs gc cc : Nat} {A : Nat → Option Addr} {q : Nat → Nat} {cs : List Sx.Cl} {D Bk N : Int} (h : SiteAt w B gs gc cc A q cs D Bk N) (hB : B ≤ w.heap.size) {K : Int} (hK : K < 100000) (hok : ∀ c ∈ cs, Sx.OkC K c) (hn32 : cs.length ≤ 32) (s dr bk un now : Int) {l : Ls} {er : Int} (hl : l = Sx.grL cs D Bk N s dr bk un now) (he : er = Sx.grE cs D Bk N s dr bk un now) :
    Calls Try.prog 48 #[.pointer (some ⟨gs, 0, none⟩), .int .i64 s, .int .i64 dr, .int .i64 bk, .int .i64 un, .int .i64 now] w fun e w' => e = .returned (.tuple #[.agg #[.int .i64 l.n, .int .i64 l.d, .int .i64 l.b, .int .i64 l.u], .int .i64 er]) ∧
      ∃ A2 q2, SiteAt w' B gs gc cc A2 q2 (Sx.grS cs D Bk N s dr bk un now) D Bk (Sx.grN cs D Bk N s dr bk un now) ∧ Touch (SOwn gs gc A cs.length) w w' ∧ ∀ i k, OwnB (A2 i) k → OwnB (A i) k ∨ w.heap.size ≤ k :=
  (Grant_c h hB hK hok hn32 s dr bk un now).mono fun e w' ⟨A2, q2, l', h1, h2, h3⟩ => by
    subst hl he h1
    exact ⟨h2, A2, q2, h3⟩
theorem GrantR2_c {w : World} {rs rc cc : Nat} {A : Nat → Option Addr} {q : Nat → Nat} {cs : List Sx.Cl} {D Bk N : Int} (h : RefAt w rs rc cc A q cs D Bk N) {K : Int} (hK : K < 100000) (hok : ∀ c ∈ cs, Sx.OkC K c) (hn32 : cs.length ≤ 32) (s dr bk un now : Int) {l : Ls} {er : Int} (hl : l = Sx.grL cs D Bk N s dr bk un now) (he : er = Sx.grE cs D Bk N s dr bk un now) (n : Nat) :
    Calls Try.prog 71 #[.pointer (some ⟨rs, 0, none⟩), .int .i64 s, .int .i64 dr, .int .i64 bk, .int .i64 un, .int .i64 now] w fun e w' => e = .returned (.tuple #[.agg #[.int .i64 l.n, .int .i64 l.d, .int .i64 l.b, .int .i64 l.u], .int .i64 er]) ∧ RPost w rs rc A n (Sx.grS cs D Bk N s dr bk un now) D Bk (Sx.grN cs D Bk N s dr bk un now) w' :=
  (GrantR_c h hK hok hn32 s dr bk un now).mono fun e w' ⟨l', h1, h2, h3, h4⟩ => by
    subst hl he h1
    refine ⟨h2, ?_⟩
    by_cases h0 : Sx.grE cs D Bk N s dr bk un now = 0
    · exact (h4 h0).post
    · have := h.post (n := n) (h3 h0)
      unfold Sx.grS Sx.grN
      rw [if_neg h0, if_neg h0]
      exact this
theorem Ack2_c {w : World} {B gs gc cc : Nat} {A : Nat → Option Addr} {q : Nat → Nat} {cs : List Sx.Cl} {D Bk N : Int} (h : SiteAt w B gs gc cc A q cs D Bk N) (hB : B ≤ w.heap.size) {K : Int} (hK : K ≤ 100000) (hok : ∀ c ∈ cs, Sx.OkC K c) (s nu : Int) {er : Int} (he : er = Sx.akE cs s nu) :
    Calls Try.prog 49 #[.pointer (some ⟨gs, 0, none⟩), .int .i64 s, .int .i64 nu] w fun e w' => e = .returned (.int .i64 er) ∧ ∃ A2 q2, SiteAt w' B gs gc cc A2 q2 (Sx.akS cs s nu) D Bk N ∧ Touch (SOwn gs gc A cs.length) w w' ∧ ∀ i k, OwnB (A2 i) k → OwnB (A i) k ∨ w.heap.size ≤ k :=
  (Ack_c h hB hK hok s nu).mono fun e w' ⟨A2, q2, h2, h3⟩ => by
    subst he
    exact ⟨h2, A2, q2, h3⟩
theorem AckR2_c {w : World} {rs rc cc : Nat} {A : Nat → Option Addr} {q : Nat → Nat} {cs : List Sx.Cl} {D Bk N : Int} (h : RefAt w rs rc cc A q cs D Bk N) (hn32 : cs.length ≤ 32) (s nu : Int) {er : Int} (he : er = Sx.akE cs s nu) (n : Nat) :
    Calls Try.prog 72 #[.pointer (some ⟨rs, 0, none⟩), .int .i64 s, .int .i64 nu] w fun e w' => e = .returned (.int .i64 er) ∧ RPost w rs rc A n (Sx.akSR cs s nu) D Bk N w' := by
  subst he
  by_cases h0 : Sx.akE cs s nu = 0
  · refine (AckR_yes h hn32 s nu h0).mono fun e w' ⟨h1, h2⟩ => ⟨by rw [h1, h0], h2.post⟩
  · refine (AckR_no h s nu h0).mono fun e w' ⟨h1, h2⟩ => ⟨h1, ?_⟩
    subst h2
    have := h.post (n := n) (Below.refl _ _)
    unfold Sx.akSR
    rw [if_neg h0]
    exact this
/-- the two sites in memory -/
structure TwP (W : World) (B gs gc cc : Nat) (A : Nat → Option Addr) (q : Nat → Nat) (cs : List Sx.Cl) (N : Int) (rs rc rcc : Nat) (A' : Nat → Option Addr) (q' : Nat → Nat) (cs' : List Sx.Cl) (N' : Int) (D Bk : Int) (n : Nat) : Prop where
  s : SiteAt W B gs gc cc A q cs D Bk N
  r : RefAt W rs rc rcc A' q' cs' D Bk N'
  n1 : cs.length = n
  n2 : cs'.length = n
  dj : ∀ k, SOwn gs gc A n k → ¬ SOwn rs rc A' n k
section
variable {W w1 : World} {B gs gc cc : Nat} {A : Nat → Option Addr} {q : Nat → Nat} {cs : List Sx.Cl} {N : Int} {rs rc rcc : Nat} {A' : Nat → Option Addr} {q' : Nat → Nat} {cs' : List Sx.Cl} {N' : Int} {D Bk : Int} {n : Nat}
theorem TwP.bel (h : TwP W B gs gc cc A q cs N rs rc rcc A' q' cs' N' D Bk n) (hb : Below W.heap.size W w1) : TwP w1 B gs gc cc A q cs N rs rc rcc A' q' cs' N' D Bk n := ⟨h.s.below hb, h.r.below hb, h.n1, h.n2, h.dj⟩
theorem TwP.site (h : TwP W B gs gc cc A q cs N rs rc rcc A' q' cs' N' D Bk n) {A2 : Nat → Option Addr} {q2 : Nat → Nat} {cs2 : List Sx.Cl} {N2 : Int} (hs : SiteAt w1 B gs gc cc A2 q2 cs2 D Bk N2) (hl : cs2.length = n) (ht : Touch (SOwn gs gc A cs.length) W w1) (hA : ∀ i k, OwnB (A2 i) k → OwnB (A i) k ∨ W.heap.size ≤ k) :
    TwP w1 B gs gc cc A2 q2 cs2 N2 rs rc rcc A' q' cs' N' D Bk n := by
  have hn1 := h.n1
  rw [hn1] at ht
  refine ⟨hs, h.r.touch ht (fun k hk e => h.dj k e (by rw [h.n2] at hk; exact hk)), hl, h.n2, fun k hk hr => ?_⟩
  have hlt := h.r.lt (by rw [h.n2]; exact hr)
  rcases hk with hk | hk | ⟨i, hi, hk⟩
  · exact h.dj k (.inl hk) hr
  · exact h.dj k (.inr (.inl hk)) hr
  · rcases hA i k hk with h1 | h1
    · exact h.dj k (.inr (.inr ⟨i, hi, h1⟩)) hr
    · omega
theorem TwP.ref (h : TwP W B gs gc cc A q cs N rs rc rcc A' q' cs' N' D Bk n) {cs2 : List Sx.Cl} {N2 : Int} (hl : cs2.length = n) (hr : RPost W rs rc A' n cs2 D Bk N2 w1) :
    ∃ rc2 rcc2 A2 q2, TwP w1 B gs gc cc A q cs N rs rc2 rcc2 A2 q2 cs2 N2 D Bk n := by
  obtain ⟨rc2, rcc2, A2, q2, hr2, ht, hA⟩ := hr
  refine ⟨rc2, rcc2, A2, q2, h.s.touch ht (fun k hk e => ?_), hr2, h.n1, hl, fun k hk hk2 => ?_⟩
  · subst e
    exact h.dj k (by rw [← h.n1]; exact hk) (.inl rfl)
  · rcases hA k hk2 with h1 | h1
    · exact h.dj k hk h1
    · have := h.s.lt (by rw [h.n1]; exact hk); omega
theorem SiteAt.own_ge (h : SiteAt W B gs gc cc A q cs D Bk N) {k : Nat} (hk : SOwn gs gc A cs.length k) : B ≤ k := by
  rcases hk with rfl | rfl | ⟨i, hi, hk⟩
  · exact h.b.1
  · exact h.b.2
  · exact (rowE_lt (h.r i hi) hk).1
end
/-- two sites that say the same -/
def ClS (B gs gc cc rs n : Nat) (D Bk K : Int) (W : World) : Prop := ∃ A q cs rc rcc A' q' cs' N, TwP W B gs gc cc A q cs N rs rc rcc A' q' cs' N D Bk n ∧ Sx.Rels cs cs' ∧ (∀ c ∈ cs, Sx.OkC K c) ∧ (∀ c ∈ cs', Sx.OkC K c)
theorem ClS.bel {B gs gc cc rs n : Nat} {D Bk K : Int} {W W' : World} (h : ClS B gs gc cc rs n D Bk K W) (hb : Below W.heap.size W W') : ClS B gs gc cc rs n D Bk K W' := by
  obtain ⟨A, q, cs, rc, rcc, A', q', cs', N, h1, h2⟩ := h
  exact ⟨A, q, cs, rc, rcc, A', q', cs', N, h1.bel hb, h2⟩
theorem rsV_form (cs : List Sx.Cl) (s t : Int) : ∃ a b e : Int, RsV cs s t = .tuple #[.int .i64 a, .int .i64 b, .int .i64 e] := by
  unfold RsV
  split
  · exact ⟨_, _, _, rfl⟩
  · exact ⟨0, 0, 3, rfl⟩
theorem Touch.up {S S' : Nat → Prop} {w w' : World} (h : Touch S w w') (hS : ∀ k, S k → S' k) : Touch S' w w' := h.mono hS
/-- a claim -/
structure Cm where
  d : Int
  s : Int
  nu : Int
  dr : Int
  bk : Int
  un : Int
  now : Int
instance : Inhabited Cm := ⟨⟨0, 0, 0, 0, 0, 0, 0⟩⟩
def Cm.vals (c : Cm) : List Value := [.int .u8 c.d, .int .i64 c.s, .int .i64 c.nu, .int .i64 c.dr, .int .i64 c.bk, .int .i64 c.un, .int .i64 c.now]
set_option maxRecDepth 100000 in
set_option maxHeartbeats 8000000 in
theorem claim_c {w : World} {B gs gc cc rs n : Nat} {D Bk Kq : Int} (h : ClS B gs gc cc rs n D Bk Kq w) (hB : B ≤ w.heap.size) (hrs : B ≤ rs) (hn32 : n ≤ 32) (hK0 : 0 ≤ Kq) (hK : Kq < 1000) (c : Cm) (hd : 0 ≤ c.d ∧ c.d ≤ 255) :
    Calls Try.prog 44 #[.pointer (some ⟨gs, 0, none⟩), .pointer (some ⟨rs, 0, none⟩), .agg #[.int .u8 c.d, .int .i64 c.s, .int .i64 c.nu, .int .i64 c.dr, .int .i64 c.bk, .int .i64 c.un, .int .i64 c.now]] w
      fun e w' => e = .returned (.bool true) ∧ ClS B gs gc cc rs n D Bk (Kq + 1) w' ∧ Touch (fun k => B ≤ k) w w' := by
  obtain ⟨A, q, cs, rc, rcc, A', q', cs', N, ht, hrel, ho1, ho2⟩ := h
  have HREL := Lib.hid hrel
  have HO1 := Lib.hid ho1
  have HO2 := Lib.hid ho2
  have HB0 : Below w.heap.size w (w.alloc (.cells #[.int .u8 c.d, .int .i64 c.s, .int .i64 c.nu, .int .i64 c.dr, .int .i64 c.bk, .int .i64 c.un, .int .i64 c.now] 103)) := (Below.refl _ _).alloc (Nat.le_refl _) _
  have HT := Lib.hid (ht.bel HB0)
  have HN := Lib.hid (Blk.new' w #[.int .u8 c.d, .int .i64 c.s, .int .i64 c.nu, .int .i64 c.dr, .int .i64 c.bk, .int .i64 c.un, .int .i64 c.now] 103)
  have HZ := Lib.hid (show (∀ k, SOwn gs gc A n k → k < w.heap.size) ∧ (∀ k, SOwn gs gc A n k → B ≤ k) ∧ rs < w.heap.size from ⟨fun k hk => ht.s.lt (by rw [ht.n1]; exact hk), fun k hk => ht.s.own_ge (by rw [ht.n1]; exact hk), ht.r.s.lt⟩)
  have HTo := Lib.hid (Touch.of_below (S := fun k => B ≤ k) HB0)
  obtain ⟨m, hm, hm3⟩ : ∃ m : Nat, c.d.tmod 3 = (m : Int) ∧ m < 3 := by
    have h1 := Int.emod_nonneg c.d (show (3 : Int) ≠ 0 by decide)
    have h2 := Int.emod_lt_of_pos c.d (show (0 : Int) < 3 by decide)
    have h3 : c.d.tmod 3 = c.d % 3 := Int.tmod_eq_emod_of_nonneg hd.1
    exact ⟨(c.d % 3).toNat, by omega, by omega⟩
  have hn1 := ht.n1
  have hn2 := ht.n2
  clear ht hrel ho1 ho2 HB0
  have h3 : m = 0 ∨ m = 1 ∨ m = 2 := by omega
  rcases h3 with rfl | rfl | rfl
  · obtain ⟨l, hl⟩ : ∃ l, l = Sx.grL cs D Bk N c.s c.dr c.bk c.un c.now := ⟨_, rfl⟩
    obtain ⟨er, her⟩ : ∃ er, er = Sx.grE cs D Bk N c.s c.dr c.bk c.un c.now := ⟨_, rfl⟩
    have P48 := Lib.hid (Grant2_c HT.out.s (by simp; omega) (K := Kq) (by omega) HO1.out (by omega) c.s c.dr c.bk c.un c.now hl her)
    have HRS := Lib.hid (Sx.gr_rels HREL.out HO2.out D Bk N c.s c.dr c.bk c.un c.now)
    have HK1 := Lib.hid (Sx.gr_oks HO1.out D Bk N c.s c.dr c.bk c.un c.now)
    have HK2 := Lib.hid (Sx.gr_oks HO2.out D Bk N c.s c.dr c.bk c.un c.now)
    have hl2 := hl.trans (Sx.grL_rel HREL.out D Bk N c.s c.dr c.bk c.un c.now)
    have her2 := her.trans (Sx.grE_rel HREL.out D Bk N c.s c.dr c.bk c.un c.now)
    have P71 := Lib.hid (fun W rc2 rcc2 A2 q2 (h : RefAt W rs rc2 rcc2 A2 q2 cs' D Bk N) => GrantR2_c h (K := Kq) (by omega) HO2.out (by omega) c.s c.dr c.bk c.un c.now hl2 her2 n)
    have hrl := fun w => runLs w l.n l.d l.b l.u
    clear hl her hl2 her2
    go_enter Try.func44, Try.ntmps44
    go_wp2_with (first
      | (go_at_call 48; refine P48.out.mono ?_; rintro e w1 ⟨rfl, A2, q2, hs1, ht1, hA1⟩; have HTo := Lib.hid (HTo.out.trans (ht1.mono (fun k hk => HT.out.s.own_ge hk))); have HN := Lib.hid (HN.out.touch ht1 (fun e => by rw [hn1] at e; have := HZ.out.1 _ e; omega)); have HT := Lib.hid (HT.out.site hs1 (HK1.out.2.trans hn1) ht1 hA1); have n1 := HN.out.cell 1 rfl; have n3 := HN.out.cell 3 rfl; have n4 := HN.out.cell 4 rfl; have n5 := HN.out.cell 5 rfl; have n6 := HN.out.cell 6 rfl; have zn := HN.out.lt; have zn2 : w.heap.size ≠ w1.heap.size := (by omega); clear hs1 ht1 hA1)
      | (go_at_call 71; refine (P71.out _ _ _ _ _ (HT.out.r.below ((Below.refl _ _).alloc (Nat.le_refl _) _))).mono ?_; rintro e w2 ⟨rfl, hp⟩; obtain ⟨rc2, rcc2, A3, q3, hx⟩ := (HT.out.bel ((Below.refl _ _).alloc (Nat.le_refl _) _)).ref (HK2.out.2.trans hn2) hp; have HT := Lib.hid hx; have HTr := Lib.hid (show Touch (fun k => k = rs) _ w2 from by obtain ⟨_, _, _, _, _, h, _⟩ := hp; exact h); have HTo := Lib.hid ((HTo.out.below ((Below.refl _ _).alloc (Nat.le_refl _) _)).trans (HTr.out.mono (fun k e => by omega))); have HL7 := Lib.hid (blk_tch HTr.out (Blk.new' w1 #[.int .i64 l.n, .int .i64 l.d, .int .i64 l.b, .int .i64 l.u] 43) (by have := HZ.out.2.2; omega)); have l0 := HL7.out.cell 0 rfl; have l1 := HL7.out.cell 1 rfl; have l2 := HL7.out.cell 2 rfl; have l3 := HL7.out.cell 3 rfl; have zl := HL7.out.lt; have zl2 : w1.heap.size ≠ w2.heap.size := (by omega); clear hp hx n1 n3 n4 n5 n6))
    go_ret
    refine ⟨rfl, ⟨A2, q2, _, rc2, rcc2, A3, q3, _, Sx.grN cs D Bk N c.s c.dr c.bk c.un c.now, ?_, HRS.out.1, HK1.out.1, HK2.out.1⟩, HTo.out.below ((Below.refl _ _).alloc (Nat.le_refl _) _)⟩
    have hx := HT.out.bel ((Below.refl _ _).alloc (Nat.le_refl _) (.cells #[.int .i64 l.n, .int .i64 l.d, .int .i64 l.b, .int .i64 l.u] 43))
    rw [← HRS.out.2] at hx
    exact hx
  · obtain ⟨er, her⟩ : ∃ er, er = Sx.akE cs c.s c.nu := ⟨_, rfl⟩
    have her2 := her.trans (Sx.akE_rel HREL.out c.s c.nu)
    have HER := Lib.hid (And.intro her her2)
    have HRS := Lib.hid (Sx.ak_rels HREL.out c.s c.nu)
    have HK1 := Lib.hid (Sx.ak_oks HO1.out c.s c.nu)
    have HK2 := Lib.hid (Sx.ak_oks HO2.out c.s c.nu)
    clear her her2
    go_enter Try.func44, Try.ntmps44
    go_upto_region 7 with fail
    have HT := Lib.hid (HT.out.bel ((Below.refl _ _).drew))
    have HN := Lib.hid HN.out.drew
    have HTo := Lib.hid HTo.out.drew
    refine lBegin (S := fun _ W => (W.cell? ⟨w.heap.size, 1, none⟩ = some (.int .i64 c.s) ∧ W.cell? ⟨w.heap.size, 2, none⟩ = some (.int .i64 c.nu))) (by kernel_rfl) ?_ (fun hHeld => ?_)
    · (try dsimp only); (exact ⟨HN.out.cell 1 rfl, HN.out.cell 2 rfl⟩)
    refine lTake (i := 0) (v := ?_) rfl (by kernel_rfl) (by kernel_rfl) (by kernel_rfl) (fun _ _ _ h => h) (by rfl) (fun _ _ h => h) (fun _ _ h => h) ?_ (by assumption) (fun hHeld2 => ?_)
    rotate_left 1
    · (intro _ _ _ _ _; first | (go_simp; done) | (go_simp; with_reducible rfl))
    clear hHeld; have hHeld := hHeld2; clear hHeld2
    (try simp only [Act.put, List.setIfInBounds_toArray, List.set_cons_zero, List.set_cons_succ])
    refine lTake (i := 1) (v := ?_) rfl (by kernel_rfl) (by kernel_rfl) (by kernel_rfl) (fun _ _ _ h => h) (by rfl) (fun _ _ h => h) (fun _ _ h => h) ?_ (by assumption) (fun hHeld2 => ?_)
    rotate_left 1
    · (intro _ _ _ _ _; first | (go_simp; done) | (go_simp; with_reducible rfl))
    clear hHeld; have hHeld := hHeld2; clear hHeld2
    (try simp only [Act.put, List.setIfInBounds_toArray, List.set_cons_zero, List.set_cons_succ])
    refine lTake (i := 2) (v := ?_) rfl (by kernel_rfl) (by kernel_rfl) (by kernel_rfl) (fun _ _ _ h => h) (by rfl) (fun _ _ h => h) (fun _ _ h => h) ?_ (by assumption) (fun hHeld2 => ?_)
    rotate_left 1
    · (intro L W _ _ hSw; (try dsimp only at hSw); first | (go_simp; done) | (go_simp; with_reducible rfl))
    clear hHeld; have hHeld := hHeld2; clear hHeld2
    (try simp only [Act.put, List.setIfInBounds_toArray, List.set_cons_zero, List.set_cons_succ])
    refine lTake (i := 3) (v := ?_) rfl (by kernel_rfl) (by kernel_rfl) (by kernel_rfl) (fun _ _ _ h => h) (by rfl) (fun _ _ h => h) (fun _ _ h => h) ?_ (by assumption) (fun hHeld2 => ?_)
    rotate_left 1
    · (intro _ _ _ _ _; first | (go_simp; done) | (go_simp; with_reducible rfl))
    clear hHeld; have hHeld := hHeld2; clear hHeld2
    (try simp only [Act.put, List.setIfInBounds_toArray, List.set_cons_zero, List.set_cons_succ])
    refine lTake (i := 4) (v := ?_) rfl (by kernel_rfl) (by kernel_rfl) (by kernel_rfl) (fun _ _ _ h => h) (by rfl) (fun _ _ h => h) (fun _ _ h => h) ?_ (by assumption) (fun hHeld2 => ?_)
    rotate_left 1
    · (intro L W _ _ hSw; (try dsimp only at hSw); first | (go_simp; done) | (go_simp; with_reducible rfl))
    clear hHeld; have hHeld := hHeld2; clear hHeld2
    (try simp only [Act.put, List.setIfInBounds_toArray, List.set_cons_zero, List.set_cons_succ])
    refine lTake (i := 6) (v := ?_) rfl (by kernel_rfl) (by kernel_rfl) (by kernel_rfl) (fun _ _ _ h => h) (by rfl) (fun _ _ h => h) (fun _ _ h => h) ?_ (by assumption) (fun hHeld2 => ?_)
    rotate_left 1
    · (intro _ _ _ _ _; first | (go_simp; done) | (go_simp; with_reducible rfl))
    clear hHeld; have hHeld := hHeld2; clear hHeld2
    (try simp only [Act.put, List.setIfInBounds_toArray, List.set_cons_zero, List.set_cons_succ])
    refine lTake (i := 7) (v := ?_) rfl (by kernel_rfl) (by kernel_rfl) (by kernel_rfl) (fun _ _ _ h => h) (by rfl) (fun _ _ h => h) (fun _ _ h => h) ?_ (by assumption) (fun hHeld2 => ?_)
    rotate_left 1
    · (intro _ _ _ _ _; first | (go_simp; done) | (go_simp; with_reducible rfl))
    clear hHeld; have hHeld := hHeld2; clear hHeld2
    (try simp only [Act.put, List.setIfInBounds_toArray, List.set_cons_zero, List.set_cons_succ])
    refine lTake (i := 8) (v := ?_) rfl (by kernel_rfl) (by kernel_rfl) (by kernel_rfl) (fun _ _ _ h => h) (by rfl) (fun _ _ h => h) (fun _ _ h => h) ?_ (by assumption) (fun hHeld2 => ?_)
    rotate_left 1
    · (intro L W _ _ hSw; (try dsimp only at hSw); first | (go_simp; done) | (go_simp; with_reducible rfl))
    clear hHeld; have hHeld := hHeld2; clear hHeld2
    (try simp only [Act.put, List.setIfInBounds_toArray, List.set_cons_zero, List.set_cons_succ])
    refine lTake (i := 9) (v := ?_) rfl (by kernel_rfl) (by kernel_rfl) (by kernel_rfl) (fun _ _ _ h => h) (by rfl) (fun _ _ h => h) (fun _ _ h => h) ?_ (by assumption) (fun hHeld2 => ?_)
    rotate_left 1
    · (intro _ _ _ _ _; first | (go_simp; done) | (go_simp; with_reducible rfl))
    clear hHeld; have hHeld := hHeld2; clear hHeld2
    (try simp only [Act.put, List.setIfInBounds_toArray, List.set_cons_zero, List.set_cons_succ])
    refine lTake (i := 10) (v := ?_) rfl (by kernel_rfl) (by kernel_rfl) (by kernel_rfl) (fun _ _ _ h => h) (by rfl) (fun _ _ h => h) (fun _ _ h => h) ?_ (by assumption) (fun hHeld2 => ?_)
    rotate_left 1
    · (intro L W _ _ hSw; (try dsimp only at hSw); first | (go_simp; done) | (go_simp; with_reducible rfl))
    clear hHeld; have hHeld := hHeld2; clear hHeld2
    (try simp only [Act.put, List.setIfInBounds_toArray, List.set_cons_zero, List.set_cons_succ])
    refine lReady (rs := [5]) (by kernel_rfl) (by simp) ?_
    refine AllL.cons (i := 5) rfl (fun K hK => ?_) ?_
    · go_simp; (refine (Ack2_c HT.out.s (by have := HTo.out.size; omega) (K := Kq) (by omega) HO1.out c.s c.nu HER.out.1).mono ?_; rintro e w1 ⟨rfl, A2, q2, hs1, ht1, hA1⟩; have HTo := Lib.hid (HTo.out.trans (ht1.mono (fun k hk => HT.out.s.own_ge hk))); have HN := Lib.hid (HN.out.touch ht1 (fun e => by rw [hn1] at e; have := HZ.out.1 _ e; omega)); have HT := Lib.hid (HT.out.site hs1 (HK1.out.1.2.trans hn1) ht1 hA1); clear hs1 ht1 hA1)
      (try go_wp2_with fail)
      refine hK.out _ _ ?_ (fun hHeld2 => ?_)
      · (try dsimp only); (exact ⟨HN.out.cell 1 rfl, HN.out.cell 2 rfl⟩)
      clear hK K
      clear hHeld; have hHeld := hHeld2; clear hHeld2
      (try simp only [Act.put, List.setIfInBounds_toArray, List.set_cons_zero, List.set_cons_succ])
      refine lReady (rs := [11]) (by kernel_rfl) (by simp) ?_
      refine AllL.cons (i := 11) rfl (fun K hK => ?_) ?_
      · go_simp; (refine (AckR2_c HT.out.r (by omega) c.s c.nu HER.out.2 n).mono ?_; rintro e w2 ⟨rfl, hp⟩; have HTr := Lib.hid (show Touch (fun k => k = rs) _ w2 from by obtain ⟨_, _, _, _, _, h, _⟩ := hp; exact h); have HTo := Lib.hid (HTo.out.trans (HTr.out.mono (fun k e => by omega))); have HN := Lib.hid (blk_tch HTr.out HN.out (by have := HZ.out.2.2; omega)); obtain ⟨rc2, rcc2, A3, q3, hx⟩ := HT.out.ref (HK2.out.2.2.trans hn2) hp; have HT := Lib.hid hx; clear hp hx)
        (try go_wp2_with fail)
        refine hK.out _ _ ?_ (fun hHeld2 => ?_)
        · (try dsimp only); (exact ⟨HN.out.cell 1 rfl, HN.out.cell 2 rfl⟩)
        clear hK K
        clear hHeld; have hHeld := hHeld2; clear hHeld2
        (try simp only [Act.put, List.setIfInBounds_toArray, List.set_cons_zero, List.set_cons_succ])
        refine lTake (i := 12) (v := ?_) rfl (by kernel_rfl) (by kernel_rfl) (by kernel_rfl) (fun _ _ _ h => h) (by rfl) (fun _ _ h => h) (fun _ _ h => h) ?_ (by assumption) (fun hHeld2 => ?_)
        rotate_left 1
        · (intro _ _ _ _ _; first | (go_simp; done) | (go_simp; with_reducible rfl))
        clear hHeld; have hHeld := hHeld2; clear hHeld2
        (try simp only [Act.put, List.setIfInBounds_toArray, List.set_cons_zero, List.set_cons_succ])
        refine lTake (i := 13) (v := ?_) rfl (by kernel_rfl) (by kernel_rfl) (by kernel_rfl) (fun _ _ _ h => h) (by rfl) (fun _ _ h => h) (fun _ _ h => h) ?_ (by assumption) (fun hHeld2 => ?_)
        rotate_left 1
        · (intro _ _ _ _ _; first | (go_simp; done) | (go_simp; with_reducible rfl))
        clear hHeld; have hHeld := hHeld2; clear hHeld2
        (try simp only [Act.put, List.setIfInBounds_toArray, List.set_cons_zero, List.set_cons_succ])
        refine lDone (by kernel_rfl) ?_ _
        clear hHeld
        go_wp2_with fail
        go_ret
        exact ⟨rfl, ⟨_, _, _, _, _, _, _, _, N, HT.out, HRS.out, HK1.out.1.1, HK2.out.2.1⟩, HTo.out⟩
      exact AllL.nil
    exact AllL.nil
  · obtain ⟨x, y, z, hv⟩ := rsV_form cs c.s c.now
    have hv2 := (rsV_rel HREL.out c.s c.now).symm.trans hv
    have P46 := Lib.hid (Reserved_c HT.out.s (K := Kq) (by omega) HO1.out c.s c.now)
    have P47 := Lib.hid (fun W (hW : Below (w.alloc (.cells #[.int .u8 c.d, .int .i64 c.s, .int .i64 c.nu, .int .i64 c.dr, .int .i64 c.bk, .int .i64 c.un, .int .i64 c.now] 103)).heap.size (w.alloc (.cells #[.int .u8 c.d, .int .i64 c.s, .int .i64 c.nu, .int .i64 c.dr, .int .i64 c.bk, .int .i64 c.un, .int .i64 c.now] 103)) W) => ReservedRS_c (HT.out.r.below hW) (K := Kq) (by omega) HO2.out c.s c.now)
    rw [hv] at P46
    rw [hv2] at P47
    clear hv hv2
    go_enter Try.func44, Try.ntmps44
    go_wp2_with (first
      | (go_at_call 46; refine P46.out.mono ?_; rintro e w1 ⟨rfl, hb1⟩; have HB1 := Lib.hid hb1; have HN1 := Lib.hid (blk_bel hb1 HN.out); have n1 := HN1.out.cell 1 rfl; have n6 := HN1.out.cell 6 rfl; clear hb1)
      | (go_at_call 47; refine (P47.out _ HB1.out).mono ?_; rintro e w2 ⟨rfl, hb2⟩; have HB2 := Lib.hid (bel_bel HB1.out hb2); clear hb2))
    go_ret
    have hx := HT.out.bel HB2.out
    exact ⟨rfl, ⟨A, q, cs, rc, rcc, A', q', cs', N, hx, HREL.out, Sx.oks_mono HO1.out (by omega), Sx.oks_mono HO2.out (by omega)⟩, HTo.out.below HB2.out⟩
end Go.Proofs.Ytafajclbghofkaa
