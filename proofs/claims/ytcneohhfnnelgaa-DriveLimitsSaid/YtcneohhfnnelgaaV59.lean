/- Plain words for Holds of drive and coulombref06, and its bounds. The contract of Holds of drive. The contract of Holds of coulombref06. -/
import Derived.Test.YtcneohhfnnelgaaV55
import Derived.Test.YtcneohhfnnelgaaRA
namespace Go.Proofs.Ytcneohhfnnelgaa
open Go.RowKit
set_option linter.unusedVariables false
namespace Dv
def up (n d : Int) : Int := -(-n / d)
def hoW (m : Mot) (l : List Sp) : Int := m.fa + max (lmS l).hi (-(lmS l).lo)
def hoS (l : List Sp) : Int := (lmS l).hi - (lmS l).lo
def hoC1 (m hi : Mot) (W : Int) : Int := up (hi.r * m.cu) 1000 + up (W * hi.lq * m.cu) 1000000
def hoC2 (m hi : Mot) (W : Int) : Int := up (hi.r * m.cu) 1000 + up (W * hi.ld * m.cu) 1000000 + W * hi.fx
def hoD (m lo hi : Mot) (W S : Int) : Int := up ((hi.r - lo.r) * m.cu) 1000 + up ((S * hi.lq + W * (hi.lq - lo.lq)) * m.cu) 1000000 + 4
def hoQ (m lo hi : Mot) (W S : Int) : Int := up ((hi.r - lo.r) * m.cu) 1000 + up ((S * hi.ld + W * (hi.ld - lo.ld)) * m.cu) 1000000 + S * hi.fx + W * (hi.fx - lo.fx) + 4
def hoG (m lo hi : Mot) (W S U : Int) : Bool := if U < max (hoC1 m hi W) (hoC2 m hi W) + 2 then false else (decide ((hoD m lo hi W S + 2) * m.mi ≤ 2 * m.cu * lo.ld) && decide ((hoQ m lo hi W S + 2) * m.mi ≤ 2 * m.cu * lo.lq))
def hoB (m : Mot) (l : List Sp) (u : Int) : Bool := hoG m (lmLo m l) (lmHi m l) (hoW m l) (hoS l) (roomV u)
def hoE (m : Mot) (l : List Sp) (u : Int) : Int := if lmE m l = 0 then (if busB u = true then 0 else 3) else lmE m l
def hoV (m : Mot) (l : List Sp) (u : Int) : Bool := if hoE m l u = 0 then hoB m l u else false
theorem up_bd {n d : Int} (hd : 1 ≤ d) (B : Int) (hB : 0 ≤ B) (h : -B ≤ n ∧ n ≤ B) : -B ≤ up n d ∧ up n d ≤ B := by
  unfold up
  have := ediv_bd (-n) d hd B (by omega) (by omega) hB
  omega
theorem ho_bd {m lo hi : Mot} {W S : Int} (hm : chk m) (hlo : chk lo) (hhi : chk hi) (hW : -32768 ≤ W ∧ W ≤ 32768) (hS : -32768 ≤ S ∧ S ≤ 32768) : (-1099511627776 ≤ hi.r * m.cu ∧ hi.r * m.cu ≤ 1099511627776) ∧ (-137438953472 ≤ W * hi.lq ∧ W * hi.lq ≤ 137438953472) ∧ (-144115188075855872 ≤ W * hi.lq * m.cu ∧ W * hi.lq * m.cu ≤ 144115188075855872) ∧ (-137438953472 ≤ W * hi.ld ∧ W * hi.ld ≤ 137438953472) ∧ (-144115188075855872 ≤ W * hi.ld * m.cu ∧ W * hi.ld * m.cu ≤ 144115188075855872) ∧ (-1099511627776 ≤ (hi.r - lo.r) * m.cu ∧ (hi.r - lo.r) * m.cu ≤ 1099511627776) ∧ (-137438953472 ≤ S * hi.lq ∧ S * hi.lq ≤ 137438953472) ∧ (-137438953472 ≤ W * (hi.lq - lo.lq) ∧ W * (hi.lq - lo.lq) ≤ 137438953472) ∧ (-288230376151711744 ≤ (S * hi.lq + W * (hi.lq - lo.lq)) * m.cu ∧ (S * hi.lq + W * (hi.lq - lo.lq)) * m.cu ≤ 288230376151711744) ∧ (-137438953472 ≤ S * hi.ld ∧ S * hi.ld ≤ 137438953472) ∧ (-137438953472 ≤ W * (hi.ld - lo.ld) ∧ W * (hi.ld - lo.ld) ≤ 137438953472) ∧ (-288230376151711744 ≤ (S * hi.ld + W * (hi.ld - lo.ld)) * m.cu ∧ (S * hi.ld + W * (hi.ld - lo.ld)) * m.cu ≤ 288230376151711744) ∧ (-137438953472 ≤ W * hi.fx ∧ W * hi.fx ≤ 137438953472) ∧ (-137438953472 ≤ S * hi.fx ∧ S * hi.fx ≤ 137438953472) ∧ (-137438953472 ≤ W * (hi.fx - lo.fx) ∧ W * (hi.fx - lo.fx) ≤ 137438953472) ∧ (-8796093022208 ≤ 2 * m.cu * lo.ld ∧ 2 * m.cu * lo.ld ≤ 8796093022208) ∧ (-8796093022208 ≤ 2 * m.cu * lo.lq ∧ 2 * m.cu * lo.lq ≤ 8796093022208) := by
  obtain ⟨⟨r1, r2⟩, ⟨d1, d2⟩, ⟨q1, q2⟩, ⟨f1, f2⟩, _⟩ := hlo
  obtain ⟨⟨r3, r4⟩, ⟨d3, d4⟩, ⟨q3, q4⟩, ⟨f3, f4⟩, _⟩ := hhi
  obtain ⟨_, _, _, _, _, _, _, _, ⟨c1, c2⟩, _⟩ := hm
  have b0 := mul_bd (x := hi.r) (y := m.cu) 1048576 1048576 (by omega) (by omega)
  have b1 := mul_bd (x := W) (y := hi.lq) 32768 4194304 (by omega) (by omega)
  have b2 := mul_bd (x := W * hi.lq) (y := m.cu) 137438953472 1048576 (by omega) (by omega)
  have b3 := mul_bd (x := W) (y := hi.ld) 32768 4194304 (by omega) (by omega)
  have b4 := mul_bd (x := W * hi.ld) (y := m.cu) 137438953472 1048576 (by omega) (by omega)
  have b5 := mul_bd (x := hi.r - lo.r) (y := m.cu) 1048576 1048576 (by omega) (by omega)
  have b6 := mul_bd (x := S) (y := hi.lq) 32768 4194304 (by omega) (by omega)
  have b7 := mul_bd (x := W) (y := hi.lq - lo.lq) 32768 4194304 (by omega) (by omega)
  have b8 := mul_bd (x := S * hi.lq + W * (hi.lq - lo.lq)) (y := m.cu) 274877906944 1048576 (by omega) (by omega)
  have b9 := mul_bd (x := S) (y := hi.ld) 32768 4194304 (by omega) (by omega)
  have b10 := mul_bd (x := W) (y := hi.ld - lo.ld) 32768 4194304 (by omega) (by omega)
  have b11 := mul_bd (x := S * hi.ld + W * (hi.ld - lo.ld)) (y := m.cu) 274877906944 1048576 (by omega) (by omega)
  have b12 := mul_bd (x := W) (y := hi.fx) 32768 4194304 (by omega) (by omega)
  have b13 := mul_bd (x := S) (y := hi.fx) 32768 4194304 (by omega) (by omega)
  have b14 := mul_bd (x := W) (y := hi.fx - lo.fx) 32768 4194304 (by omega) (by omega)
  have b15 := mul_bd (x := 2 * m.cu) (y := lo.ld) 2097152 4194304 (by omega) (by omega)
  have b16 := mul_bd (x := 2 * m.cu) (y := lo.lq) 2097152 4194304 (by omega) (by omega)
  exact ⟨b0, b1, b2, b3, b4, b5, b6, b7, b8, b9, b10, b11, b12, b13, b14, b15, b16⟩
theorem hoG_eq (m lo hi : Mot) (W S U : Int) {D1 C1 C2 D2 E1 E2 : Int} (e1 : up (hi.r * m.cu) 1000 = D1) (e2 : up (W * hi.lq * m.cu) 1000000 = C1) (e3 : up (W * hi.ld * m.cu) 1000000 = C2) (e4 : up ((hi.r - lo.r) * m.cu) 1000 = D2) (e5 : up ((S * hi.lq + W * (hi.lq - lo.lq)) * m.cu) 1000000 = E1) (e6 : up ((S * hi.ld + W * (hi.ld - lo.ld)) * m.cu) 1000000 = E2) :
    hoG m lo hi W S U = (if U < max (D1 + C1) (D1 + C2 + W * hi.fx) + 2 then false else (decide ((D2 + E1 + 4 + 2) * m.mi ≤ 2 * m.cu * lo.ld) && decide ((D2 + E2 + S * hi.fx + W * (hi.fx - lo.fx) + 4 + 2) * m.mi ≤ 2 * m.cu * lo.lq))) := by
  unfold hoG hoC1 hoC2 hoD hoQ
  rw [e1, e2, e3, e4, e5, e6]
theorem lm_span {m : Mot} {l : List Sp} (h : lmE m l = 0) : (lmS l).lo ≤ (lmS l).hi := by
  obtain ⟨_, hl, _, _, _, _, hv⟩ := lm_parts h
  match l, hl with
  | [s0, s1, s2, s3, s4], _ => exact (spV_bd (hv s4 (by simp))).2.2
theorem hoW_bd {m : Mot} {l : List Sp} (h : lmE m l = 0) : (-32768 ≤ hoW m l ∧ hoW m l ≤ 32768) ∧ (-32768 ≤ hoS l ∧ hoS l ≤ 32768) := by
  obtain ⟨hm, _, _, _, h1, h2, _⟩ := lm_parts h
  unfold chk at hm
  unfold hoW hoS
  omega
end Dv
theorem max2_run (x y : Int) (ts : Array TypeId) (t : TypeId) (w : World) : (Builtin.max_ ts t #[.int .i64 x, .int .i64 y]).run Try.prog w = .ok (.int .i64 (max x y)) w := by
  have h : (Builtin.max_ ts t #[.int .i64 x, .int .i64 y]).run Try.prog w = .ok (.int .i64 (if y > x then y else x)) w := by simp [Builtin.max_]; rfl
  rw [h, ← gmax_eq]
end Go.Proofs.Ytcneohhfnnelgaa
namespace Go.Proofs.Ytcneohhfnnelgaa
open Go.RowKit
set_option linter.unusedVariables false

/-- what Holds leaves -/
def HoP (m : Mot) (l : List Sp) (u : Int) (w : World) (e : Ending) (w' : World) : Prop := e = .returned (.tuple #[.bool (Dv.hoV m l u), .int .i64 (Dv.hoE m l u)]) ∧ Below w.heap.size w w'
theorem HoP.no {m : Mot} {l : List Sp} {u : Int} {w w' : World} {e : Ending} {E : Int} (hE : Dv.hoE m l u = E) (h0 : E ≠ 0) (he : e = .returned (.tuple #[.bool false, .int .i64 E])) (hb : Below w.heap.size w w') : HoP m l u w e w' := by
  refine ⟨?_, hb⟩
  rw [he]
  unfold Dv.hoV
  rw [hE, if_neg h0]
theorem HoP.yes {m : Mot} {l : List Sp} {u : Int} {w w' : World} {e : Ending} {B : Bool} (hE : Dv.hoE m l u = 0) (hB : Dv.hoB m l u = B) (he : e = .returned (.tuple #[.bool B, .int .i64 0])) (hb : Below w.heap.size w w') : HoP m l u w e w' := by
  refine ⟨?_, hb⟩
  rw [he]
  unfold Dv.hoV
  rw [hE, if_pos rfl, hB]

theorem St.fill {w W : World} {l : List BlkRow} (h : St w l W) {g : Nat} {t : TypeId} {cs : List Value} (k : Blk W g t cs) (hg : w.heap.size ≤ g) (hn : ∀ x, x ∈ l → x.1 ≠ g) (vs : List Value) (hl : cs.length = vs.length) : St w ((g, t, vs) :: l) (setAll W g 0 vs) :=
  ⟨setAll_below hg vs 0 _ h.1, Has.cons (setAll_blk vs cs [] W k hl) (h.2.1.setAll hn vs 0), by
    rw [List.map_cons, List.nodup_cons]
    refine ⟨fun hm => ?_, h.2.2⟩
    obtain ⟨x, hx, e⟩ := List.mem_map.1 hm
    exact hn x hx e⟩

set_option maxHeartbeats 8000000 in
set_option maxRecDepth 100000 in
theorem Holds_c (m : Mot) (A : Option Addr) (l : List Sp) (u : Int) (cap : Nat) (w : World) (hx : SpAt w A l) (hll : l.length ≤ 4611686018427387904) :
    Calls Try.prog 59 #[.agg #[.int .i64 m.r, .int .i64 m.ld, .int .i64 m.lq, .int .i64 m.fx, .int .i64 m.po, .int .i64 m.mi, .int .i64 m.sp, .int .i64 m.dr, .int .i64 m.cu, .int .i64 m.fa], .slice A l.length cap, .int .i64 u] w (HoP m l u w) := by
  have HX := Lib.hid hx
  have HLL := Lib.hid hll
  clear hx hll
  have S0 := Lib.hid ((St.start w).alloc [.int .i64 m.r, .int .i64 m.ld, .int .i64 m.lq, .int .i64 m.fx, .int .i64 m.po, .int .i64 m.mi, .int .i64 m.sp, .int .i64 m.dr, .int .i64 m.cu, .int .i64 m.fa] 52)
  go_enter Try.func59, Try.ntmps59
  go_wp2_with fail
  refine (newLimiter_c m A l cap _ (HX.out.below S0.out.1) HLL.out).mono ?_
  rintro e w1 ⟨hb1, h⟩
  rcases h with ⟨hne, rfl⟩ | ⟨h0, g, hgz, rfl, hg⟩
  · have S1 := Lib.hid (S0.out.below hb1)
    have HE : Hid (Dv.hoE m l u = Dv.lmE m l) := Lib.hid (by unfold Dv.hoE; rw [if_neg hne])
    have HNE := Lib.hid hne
    have hbt : (Dv.lmE m l != 0) = true := by simpa using hne
    clear hb1 S0 hne
    generalize Dv.lmE m l = E at HE HNE hbt
    go_wp2
    go_ret2
    exact HoP.no HE.out HNE.out rfl S1.out.1
  · have S1 := Lib.hid (S0.out.add hb1 hgz hg)
    have HL := Lib.hid h0
    clear hb1 S0 hgz hg h0
    by_cases hu : 1 ≤ u ∧ u ≤ 1073741824
    rotate_left 1
    · have HE : Hid (Dv.hoE m l u = 3) := Lib.hid (by unfold Dv.hoE; rw [if_pos HL.out, if_neg (fun h => hu (Dv.busB_iff.1 h))])
      by_cases hu1 : u < 1
      · clear hu
        go_wp2
        go_ret2
        exact HoP.no HE.out (by decide) rfl S1.out.1
      · have hu2 : 1073741824 < u := by omega
        clear hu
        go_wp2
        go_ret2
        exact HoP.no HE.out (by decide) rfl S1.out.1
    · obtain ⟨hu1, hu2⟩ := hu
      have HU : Hid (Dv.busB u = true) := Lib.hid (Dv.busB_iff.2 ⟨hu1, hu2⟩)
      have HE : Hid (Dv.hoE m l u = 0) := Lib.hid (by unfold Dv.hoE; rw [if_pos HL.out, if_pos HU.out])
      obtain ⟨hm, _, hlo, hhi, hsl, hsh, _⟩ := Dv.lm_parts HL.out
      obtain ⟨hW, hS⟩ := Dv.hoW_bd HL.out
      have hsp := Dv.lm_span HL.out
      have hU := Dv.roomV_bd (Dv.busB_iff.1 HU.out)
      have HR := Lib.hid (show ∀ V : World, Calls Try.prog 96 #[.int .i64 u] V fun e w' => e = .returned (.int .i64 (Dv.roomV u)) ∧ V = w' from fun V => room_c u V (Dv.busB_iff.1 HU.out))
      obtain ⟨D1, e1⟩ : ∃ x, Dv.up ((Dv.lmHi m l).r * m.cu) 1000 = x := ⟨_, rfl⟩
      obtain ⟨C1, e2⟩ : ∃ x, Dv.up (Dv.hoW m l * (Dv.lmHi m l).lq * m.cu) 1000000 = x := ⟨_, rfl⟩
      obtain ⟨C2, e3⟩ : ∃ x, Dv.up (Dv.hoW m l * (Dv.lmHi m l).ld * m.cu) 1000000 = x := ⟨_, rfl⟩
      obtain ⟨D2, e4⟩ : ∃ x, Dv.up (((Dv.lmHi m l).r - (Dv.lmLo m l).r) * m.cu) 1000 = x := ⟨_, rfl⟩
      obtain ⟨E1, e5⟩ : ∃ x, Dv.up ((Dv.hoS l * (Dv.lmHi m l).lq + Dv.hoW m l * ((Dv.lmHi m l).lq - (Dv.lmLo m l).lq)) * m.cu) 1000000 = x := ⟨_, rfl⟩
      obtain ⟨E2, e6⟩ : ∃ x, Dv.up ((Dv.hoS l * (Dv.lmHi m l).ld + Dv.hoW m l * ((Dv.lmHi m l).ld - (Dv.lmLo m l).ld)) * m.cu) 1000000 = x := ⟨_, rfl⟩
      have HB : Hid (Dv.hoB m l u = _) := Lib.hid (Dv.hoG_eq m (Dv.lmLo m l) (Dv.lmHi m l) (Dv.hoW m l) (Dv.hoS l) (Dv.roomV u) e1 e2 e3 e4 e5 e6)
      have HWD : Hid (m.fa + max (Dv.lmS l).hi (-(Dv.lmS l).lo) = Dv.hoW m l) := Lib.hid rfl
      have HSD : Hid ((Dv.lmS l).hi - (Dv.lmS l).lo = Dv.hoS l) := Lib.hid rfl
      generalize hglo : Dv.lmLo m l = lo at S1 HB HWD HSD hlo hhi hsl hsh hW hS hsp hU HR e1 e2 e3 e4 e5 e6
      generalize hghi : Dv.lmHi m l = hi at S1 HB HWD HSD hlo hhi hsl hsh hW hS hsp hU HR e1 e2 e3 e4 e5 e6
      generalize hgw : Dv.hoW m l = ww at S1 HB HWD HSD hlo hhi hsl hsh hW hS hsp hU HR e1 e2 e3 e4 e5 e6
      generalize hgs : Dv.hoS l = ss at S1 HB HWD HSD hlo hhi hsl hsh hW hS hsp hU HR e1 e2 e3 e4 e5 e6
      generalize hgu : Dv.roomV u = U at S1 HB HWD HSD hlo hhi hsl hsh hW hS hsp hU HR e1 e2 e3 e4 e5 e6
      generalize hgsl : Dv.lmS l = sx at S1 HB HWD HSD hlo hhi hsl hsh hW hS hsp hU HR e1 e2 e3 e4 e5 e6
      clear hglo hghi hgw hgs hgu hgsl
      have q1 := Lib.hid e1
      have q2 := Lib.hid e2
      have q3 := Lib.hid e3
      have q4 := Lib.hid e4
      have q5 := Lib.hid e5
      have q6 := Lib.hid e6
      clear e1 e2 e3 e4 e5 e6
      go_upto_region 6 with (fail)
      refine wp_region_privs 13 [.q, .q, .q, .q, .q, .q, .q, .q, .q, .q, .p, .p, .q] (fun _ => (.cells #[.int .i64 0, .int .i64 0, .int .i64 0, .int .i64 0, .int .i64 0, .int .i64 0, .int .i64 0, .int .i64 0, .int .i64 0, .int .i64 0] 52, fun b => .pointer (some ⟨b, 0, none⟩))) 10 52 52 11 38 #[.int .i64 0, .int .i64 0, .int .i64 0, .int .i64 0, .int .i64 0, .int .i64 0, .int .i64 0, .int .i64 0, .int .i64 0, .int .i64 0] #[.int .i64 lo.r, .int .i64 lo.ld, .int .i64 lo.lq, .int .i64 lo.fx, .int .i64 lo.po, .int .i64 lo.mi, .int .i64 lo.sp, .int .i64 lo.dr, .int .i64 lo.cu, .int .i64 lo.fa] ?af (by kernel_rfl) (by kernel_rfl) rfl (fun _ => rfl) (by kernel_rfl) rfl (by simp [Value.oneCell']) ?walk ?hy ?tail
      case walk =>
        intro V hV
        have IV := Lib.hid (S1.out.below hV)
        obtain ⟨_, ⟨b0', b1', b2', b3', b4', b5', b6', b7', b8', b9'⟩, ⟨c0', c1', c2', c3', c4', c5', c6', c7', c8', c9'⟩, _⟩ := lmCells (IV.out.get 0 rfl)
        have a8 := (IV.out.get 1 rfl).cell 8 rfl
        have z0 := (IV.out.get 0 rfl).lt
        have z1 := (IV.out.get 1 rfl).lt
        simp only [List.take_succ_cons, List.take_zero]
        repeat (refine wpP_q ?_; go_big_quiet_step (fail); refine wpQuiet_nil ?_)
        refine wpP_p (by kernel_rfl) (fun _ => by kernel_rfl) ?_
        (try simp only [Act.put, List.setIfInBounds_toArray, List.set_cons_zero, List.set_cons_succ])
        refine wpP_p (by kernel_rfl) (fun _ => by kernel_rfl) ?_
        (try simp only [Act.put, List.setIfInBounds_toArray, List.set_cons_zero, List.set_cons_succ])
        repeat (refine wpP_q ?_; go_big_quiet_step (fail); refine wpQuiet_nil ?_)
        refine wpP_nil ?_
        rfl
      case hy => rfl
      case tail =>
      intro gs w2 hb2 hP hD
      obtain ⟨hza, hka⟩ := hP 10 rfl
      obtain ⟨hzb, hkb⟩ := hP 11 rfl
      have hne := hD 10 11 rfl rfl (by decide)
      rw [if_pos rfl] at hka
      rw [if_neg (by decide)] at hkb
      simp only [List.take_succ_cons, List.take_zero, fillP]
      (try simp only [Act.put, List.setIfInBounds_toArray, List.set_cons_zero, List.set_cons_succ])
      generalize gs 10 = ga at hza hka hne ⊢
      generalize gs 11 = gb at hzb hkb hne ⊢
      clear hP hD
      have kb : Blk w2 gb 52 [.int .i64 0, .int .i64 0, .int .i64 0, .int .i64 0, .int .i64 0, .int .i64 0, .int .i64 0, .int .i64 0, .int .i64 0, .int .i64 0] := hkb
      have S2 := Lib.hid (((S1.out.add hb2 hza (show Blk w2 ga 52 [.int .i64 lo.r, .int .i64 lo.ld, .int .i64 lo.lq, .int .i64 lo.fx, .int .i64 lo.po, .int .i64 lo.mi, .int .i64 lo.sp, .int .i64 lo.dr, .int .i64 lo.cu, .int .i64 lo.fa] from hka)).fill kb (Nat.le_trans S1.out.1.size hzb) (by
        intro x hx
        rcases List.mem_cons.1 hx with rfl | hx
        · exact hne
        · exact S1.out.apart hzb x hx) [.int .i64 hi.r, .int .i64 hi.ld, .int .i64 hi.lq, .int .i64 hi.fx, .int .i64 hi.po, .int .i64 hi.mi, .int .i64 hi.sp, .int .i64 hi.dr, .int .i64 hi.cu, .int .i64 hi.fa] rfl))
      have f0 := kb.free 0
      have f1 := kb.free 1
      have f2 := kb.free 2
      have f3 := kb.free 3
      have f4 := kb.free 4
      have f5 := kb.free 5
      have f6 := kb.free 6
      have f7 := kb.free 7
      have f8 := kb.free 8
      have f9 := kb.free 9
      obtain ⟨d0, d1, d2, d3, d4, d5, d6, d7, d8, d9⟩ := motOf (m := mot0) kb
      clear hb2 hza hka hzb hkb hne kb S1
      simp only [List.drop_succ_cons, List.drop_zero]
      go_upto_region 7 with (fail)
      refine gen_world (fun W => St w [(gb, 52, [.int .i64 hi.r, .int .i64 hi.ld, .int .i64 hi.lq, .int .i64 hi.fx, .int .i64 hi.po, .int .i64 hi.mi, .int .i64 hi.sp, .int .i64 hi.dr, .int .i64 hi.cu, .int .i64 hi.fa]), (ga, 52, [.int .i64 lo.r, .int .i64 lo.ld, .int .i64 lo.lq, .int .i64 lo.fx, .int .i64 lo.po, .int .i64 lo.mi, .int .i64 lo.sp, .int .i64 lo.dr, .int .i64 lo.cu, .int .i64 lo.fa]), (g, 131, lmC m lo hi sx.lo sx.hi), (w.heap.size, 52, [.int .i64 m.r, .int .i64 m.ld, .int .i64 m.lq, .int .i64 m.fx, .int .i64 m.po, .int .i64 m.mi, .int .i64 m.sp, .int .i64 m.dr, .int .i64 m.cu, .int .i64 m.fa])] W) S2.out ?_
      clear S2 f0 f1 f2 f3 f4 f5 f6 f7 f8 f9 d0 d1 d2 d3 d4 d5 d6 d7 d8 d9 w2
      rintro w2 i2
      have S2 := Lib.hid i2
      clear i2
      have e1 := q1.out
      have e2 := q2.out
      have e3 := q3.out
      have e4 := q4.out
      have e5 := q5.out
      have e6 := q6.out
      obtain ⟨b0, b1, b2, b3, b4, b5, b6, b7, b8, b9, b10, b11, b12, b13, b14, b15, b16⟩ := Dv.ho_bd hm hlo hhi hW hS
      have v1 : -1099511628 ≤ D1 ∧ D1 ≤ 1099511628 := by rw [← e1]; unfold Dv.up; omega
      have K1 := Lib.hid (show ∀ V : World, Calls Try.prog 112 #[.int .i64 (hi.r * m.cu), .int .i64 1000] V fun e w' => e = .returned (.int .i64 D1) ∧ V = w' from fun V => by rw [← e1]; exact ceil_c (hi.r * m.cu) 1000 V (by omega) (by omega) (by omega))
      have v2 : -144115188076 ≤ C1 ∧ C1 ≤ 144115188076 := by rw [← e2]; unfold Dv.up; omega
      have K2 := Lib.hid (show ∀ V : World, Calls Try.prog 112 #[.int .i64 (ww * hi.lq * m.cu), .int .i64 1000000] V fun e w' => e = .returned (.int .i64 C1) ∧ V = w' from fun V => by rw [← e2]; exact ceil_c (ww * hi.lq * m.cu) 1000000 V (by omega) (by omega) (by omega))
      have v3 : -144115188076 ≤ C2 ∧ C2 ≤ 144115188076 := by rw [← e3]; unfold Dv.up; omega
      have K3 := Lib.hid (show ∀ V : World, Calls Try.prog 112 #[.int .i64 (ww * hi.ld * m.cu), .int .i64 1000000] V fun e w' => e = .returned (.int .i64 C2) ∧ V = w' from fun V => by rw [← e3]; exact ceil_c (ww * hi.ld * m.cu) 1000000 V (by omega) (by omega) (by omega))
      have v4 : -1099511628 ≤ D2 ∧ D2 ≤ 1099511628 := by rw [← e4]; unfold Dv.up; omega
      have K4 := Lib.hid (show ∀ V : World, Calls Try.prog 112 #[.int .i64 ((hi.r - lo.r) * m.cu), .int .i64 1000] V fun e w' => e = .returned (.int .i64 D2) ∧ V = w' from fun V => by rw [← e4]; exact ceil_c ((hi.r - lo.r) * m.cu) 1000 V (by omega) (by omega) (by omega))
      have v5 : -288230376152 ≤ E1 ∧ E1 ≤ 288230376152 := by rw [← e5]; unfold Dv.up; omega
      have K5 := Lib.hid (show ∀ V : World, Calls Try.prog 112 #[.int .i64 ((ss * hi.lq + ww * (hi.lq - lo.lq)) * m.cu), .int .i64 1000000] V fun e w' => e = .returned (.int .i64 E1) ∧ V = w' from fun V => by rw [← e5]; exact ceil_c ((ss * hi.lq + ww * (hi.lq - lo.lq)) * m.cu) 1000000 V (by omega) (by omega) (by omega))
      have v6 : -288230376152 ≤ E2 ∧ E2 ≤ 288230376152 := by rw [← e6]; unfold Dv.up; omega
      have K6 := Lib.hid (show ∀ V : World, Calls Try.prog 112 #[.int .i64 ((ss * hi.ld + ww * (hi.ld - lo.ld)) * m.cu), .int .i64 1000000] V fun e w' => e = .returned (.int .i64 E2) ∧ V = w' from fun V => by rw [← e6]; exact ceil_c ((ss * hi.ld + ww * (hi.ld - lo.ld)) * m.cu) 1000000 V (by omega) (by omega) (by omega))
      clear e1 e2 e3 e4 e5 e6
      unfold Dv.chk at hm hlo hhi
      have GMX := fun (x y : Int) ts t W => max2_run x y ts t W
      have z_m := (S2.out.get 3 rfl).lt
      have m9 := (S2.out.get 3 rfl).cell 9 rfl
      have z_g := (S2.out.get 2 rfl).lt
      have g30 := (S2.out.get 2 rfl).cell 30 rfl
      have g31 := (S2.out.get 2 rfl).cell 31 rfl
      refine wp_region_past (by kernel_rfl) (by kernel_rfl) ?_
      repeat (go_big_quiet_step (fail))
      refine wpQuiet_nil ?_
      intro y
      have S3 := Lib.hid (S2.out.below y.far)
      clear S2 z_m m9 z_g g30 g31
      generalize y.w = wy at S3 ⊢
      rw [HWD.out]
      go_upto_region 8 with (fail)
      have z_g := (S3.out.get 2 rfl).lt
      have g30 := (S3.out.get 2 rfl).cell 30 rfl
      have g31 := (S3.out.get 2 rfl).cell 31 rfl
      refine wp_region_past (by kernel_rfl) (by kernel_rfl) ?_
      repeat (go_big_quiet_step (fail))
      refine wpQuiet_nil ?_
      intro y
      have S4 := Lib.hid (S3.out.below y.far)
      clear S3 z_g g30 g31
      generalize y.w = wy at S4 ⊢
      rw [HSD.out]
      have z_gb := (S4.out.get 0 rfl).lt
      have gb0 := (S4.out.get 0 rfl).cell 0 rfl
      go_upto_region 10 with (first | (go_at_call 112; (with_reducible refine (K1.out _).mono ?_); rintro e w' ⟨rfl, rfl⟩))
      clear z_gb gb0
      by_cases hr : U < max (D1 + C1) (D1 + C2 + ww * hi.fx) + 2
      · have HBB := Lib.hid (show Dv.hoB m l u = false by rw [HB.out, if_pos hr])
        have z_gb := (S4.out.get 0 rfl).lt
        have gb1 := (S4.out.get 0 rfl).cell 1 rfl
        have gb2 := (S4.out.get 0 rfl).cell 2 rfl
        have gb3 := (S4.out.get 0 rfl).cell 3 rfl
        refine wp_region_past (by kernel_rfl) (by kernel_rfl) ?_
        repeat (go_big_quiet_step (first | (go_at_call 96; with_reducible exact past_same (HR.out _)) | (go_at_call 112; with_reducible exact past_same (K2.out _)) | (go_at_call 112; with_reducible exact past_same (K3.out _))))
        refine wpQuiet_nil ?_
        intro y
        have S5 := Lib.hid (S4.out.below y.far)
        clear S4 z_gb gb1 gb2 gb3
        generalize y.w = wy at S5 ⊢
        go_wp2
        go_ret2
        exact HoP.yes HE.out HBB.out rfl S5.out.1
      · have HRR := Lib.hid (Int.not_lt.1 hr)
        have z_gb := (S4.out.get 0 rfl).lt
        have gb1 := (S4.out.get 0 rfl).cell 1 rfl
        have gb2 := (S4.out.get 0 rfl).cell 2 rfl
        have gb3 := (S4.out.get 0 rfl).cell 3 rfl
        refine wp_region_past (by kernel_rfl) (by kernel_rfl) ?_
        repeat (go_big_quiet_step (first | (go_at_call 96; with_reducible exact past_same (HR.out _)) | (go_at_call 112; with_reducible exact past_same (K2.out _)) | (go_at_call 112; with_reducible exact past_same (K3.out _))))
        refine wpQuiet_nil ?_
        intro y
        have S5 := Lib.hid (S4.out.below y.far)
        clear S4 z_gb gb1 gb2 gb3
        generalize y.w = wy at S5 ⊢
        go_upto_region 12 with (fail)
        clear hr
        have z_ga := (S5.out.get 1 rfl).lt
        have ga0 := (S5.out.get 1 rfl).cell 0 rfl
        have ga2 := (S5.out.get 1 rfl).cell 2 rfl
        have z_gb := (S5.out.get 0 rfl).lt
        have gb0 := (S5.out.get 0 rfl).cell 0 rfl
        have gb2 := (S5.out.get 0 rfl).cell 2 rfl
        go_upto_region 14 with (first | (go_at_call 112; (with_reducible refine (K4.out _).mono ?_); rintro e w' ⟨rfl, rfl⟩) | (go_at_call 112; (with_reducible refine (K5.out _).mono ?_); rintro e w' ⟨rfl, rfl⟩))
        clear z_ga ga0 ga2 z_gb gb0 gb2
        have z_ga := (S5.out.get 1 rfl).lt
        have ga1 := (S5.out.get 1 rfl).cell 1 rfl
        have ga3 := (S5.out.get 1 rfl).cell 3 rfl
        have z_gb := (S5.out.get 0 rfl).lt
        have gb1 := (S5.out.get 0 rfl).cell 1 rfl
        have gb3 := (S5.out.get 0 rfl).cell 3 rfl
        refine wp_region_past (by kernel_rfl) (by kernel_rfl) ?_
        repeat (go_big_quiet_step (first | (go_at_call 112; with_reducible exact past_same (K6.out _))))
        refine wpQuiet_nil ?_
        intro y
        have SB := Lib.hid (S5.out.below y.far)
        clear S5 z_ga ga1 ga3 z_gb gb1 gb3
        generalize y.w = wy at SB ⊢
        have hsd : -1000000000000 ≤ D2 + E1 + 4 ∧ D2 + E1 + 4 ≤ 1000000000000 := by omega
        have hsq : -1000000000000 ≤ D2 + E2 + ss * hi.fx + ww * (hi.fx - lo.fx) + 4 ∧ D2 + E2 + ss * hi.fx + ww * (hi.fx - lo.fx) + 4 ≤ 1000000000000 := by omega
        generalize D2 + E1 + 4 = SD at HB hsd ⊢
        generalize D2 + E2 + ss * hi.fx + ww * (hi.fx - lo.fx) + 4 = SQ at HB hsq ⊢
        have p1 := Dv.mul_bd (x := SD + 2) (y := m.mi) 1000000000002 1000 (by omega) (by omega)
        have p2 := Dv.mul_bd (x := SQ + 2) (y := m.mi) 1000000000002 1000 (by omega) (by omega)
        clear b0 b1 b2 b3 b4 b5 b6 b7 b8 b9 b10 b11 b12 b13 b14 v1 v2 v3 v4 v5 v6
        have z_m := (SB.out.get 3 rfl).lt
        have m5 := (SB.out.get 3 rfl).cell 5 rfl
        have z_ga := (SB.out.get 1 rfl).lt
        have ga1 := (SB.out.get 1 rfl).cell 1 rfl
        have ga2 := (SB.out.get 1 rfl).cell 2 rfl
        by_cases t1 : (SD + 2) * m.mi ≤ 2 * m.cu * lo.ld
        · by_cases t2 : (SQ + 2) * m.mi ≤ 2 * m.cu * lo.lq
          · have HBB := Lib.hid (show Dv.hoB m l u = true by rw [HB.out, if_neg (Int.not_lt.2 HRR.out), decide_eq_true t1, decide_eq_true t2]; rfl)
            go_wp2
            go_ret2
            exact HoP.yes HE.out HBB.out rfl SB.out.1
          · have HBB := Lib.hid (show Dv.hoB m l u = false by rw [HB.out, if_neg (Int.not_lt.2 HRR.out), decide_eq_false t2]; simp)
            go_wp2
            go_ret2
            exact HoP.yes HE.out HBB.out rfl SB.out.1
        · have HBB := Lib.hid (show Dv.hoB m l u = false by rw [HB.out, if_neg (Int.not_lt.2 HRR.out), decide_eq_false t1]; rfl)
          go_wp2
          go_ret2
          exact HoP.yes HE.out HBB.out rfl SB.out.1
end Go.Proofs.Ytcneohhfnnelgaa
namespace Go.Proofs.Ytcneohhfnnelgaa
open Go.RowKit
set_option linter.unusedVariables false

theorem RoomRef_c (u : Int) (w : World) : Calls Try.prog 56 #[.int .i64 u] w fun e w' => e = .returned (.tuple #[.int .i64 (Dv.RoomV u), .int .i64 (Dv.RoomE u)]) ∧ w = w' := by
  cases h : Dv.busB u
  · have hE : Dv.busE u = 3 := by simp [Dv.busE, h]
    have E := Lib.hid (show Dv.RoomV u = 0 ∧ Dv.RoomE u = 3 from by simp [Dv.RoomV, Dv.RoomE, h])
    go_enter Try.func56, Try.ntmps56
    go_wp2_with (go_at_call 87; refine (busR_c u _).mono ?_; rintro e w' ⟨rfl, rfl⟩)
    go_ret2
    exact ⟨by rw [E.out.1, E.out.2]; rfl, rfl⟩
  · have hE : Dv.busE u = 0 := by simp [Dv.busE, h]
    have hu := Dv.busB_iff.1 h
    have E := Lib.hid (show Dv.RoomV u = Dv.roomV u ∧ Dv.RoomE u = 0 from by simp [Dv.RoomV, Dv.RoomE, h])
    go_enter Try.func56, Try.ntmps56
    go_wp2_with (first | (go_at_call 87; refine (busR_c u _).mono ?_; rintro e w' ⟨rfl, rfl⟩) | (go_at_call 85; refine (floor_c _ _ _ (by omega) (by omega) (by omega)).mono ?_; rintro e w' ⟨rfl, rfl⟩))
    go_ret2
    exact ⟨by rw [E.out.1, E.out.2]; rfl, rfl⟩

set_option maxHeartbeats 2000000 in
set_option maxRecDepth 100000 in
theorem HoldsR_no (m : Mot) (A : Option Addr) (l : List Sp) (u : Int) (cap : Nat) (w : World) (hx : SpAt w A l) (hne : Dv.lmE m l ≠ 0) :
    Calls Try.prog 60 #[.agg #[.int .i64 m.r, .int .i64 m.ld, .int .i64 m.lq, .int .i64 m.fx, .int .i64 m.po, .int .i64 m.mi, .int .i64 m.sp, .int .i64 m.dr, .int .i64 m.cu, .int .i64 m.fa], .slice A l.length cap, .int .i64 u] w (HoP m l u w) := by
  have HX := Lib.hid hx
  clear hx
  have HE : Hid (Dv.hoE m l u = Dv.lmE m l) := Lib.hid (by unfold Dv.hoE; rw [if_neg hne])
  have HNE := Lib.hid hne
  have hbt : (Dv.lmE m l != 0) = true := by simpa using hne
  have KP := Lib.hid (fun (V : World) (hV : Below w.heap.size w V) => possible_c m A l cap V (HX.out.below hV))
  clear hne
  generalize Dv.lmE m l = E at HE HNE hbt KP
  have S0 := Lib.hid ((St.start w).alloc [.int .i64 m.r, .int .i64 m.ld, .int .i64 m.lq, .int .i64 m.fx, .int .i64 m.po, .int .i64 m.mi, .int .i64 m.sp, .int .i64 m.dr, .int .i64 m.cu, .int .i64 m.fa] 52)
  go_enter Try.func60, Try.ntmps60
  go_wp2_with fail
  refine (KP.out _ S0.out.1).mono ?_
  rintro e w1 ⟨rfl, hb1⟩
  have S1 := Lib.hid (S0.out.below hb1)
  clear hb1 S0
  obtain ⟨m0, m1, m2, m3, m4, m5, m6, m7, m8, m9⟩ := motOf (m := m) (S1.out.get 0 rfl)
  have zm := (S1.out.get 0 rfl).lt
  go_wp2_with fail
  refine (KP.out _ S1.out.1).mono ?_
  rintro e w2 ⟨rfl, hb2⟩
  have S2 := Lib.hid (S1.out.below hb2)
  clear hb2 S1 m0 m1 m2 m3 m4 m5 m6 m7 m8 m9 zm
  go_wp2
  go_ret2
  exact HoP.no HE.out HNE.out rfl S2.out.1

set_option maxHeartbeats 8000000 in
set_option maxRecDepth 100000 in
theorem HoldsR_go (m : Mot) (ad : Addr) (l : List Sp) (u : Int) (cap : Nat) (w : World) (hL : Dv.lmE m l = 0)
    (h8 : ∀ V : World, Below w.heap.size w V → V.cell? ⟨ad.block, ad.off + 8, none⟩ = some (.int .i64 (Dv.lmS l).lo) ∧ V.cell? ⟨ad.block, ad.off + 8 + 1, none⟩ = some (.int .i64 (Dv.lmS l).hi) ∧ ad.block < V.heap.size)
    (hP : ∀ V : World, Below w.heap.size w V → Calls Try.prog 110 #[.agg #[.int .i64 m.r, .int .i64 m.ld, .int .i64 m.lq, .int .i64 m.fx, .int .i64 m.po, .int .i64 m.mi, .int .i64 m.sp, .int .i64 m.dr, .int .i64 m.cu, .int .i64 m.fa], .slice (some ad) 5 cap] V fun e w' => e = .returned (.int .i64 0) ∧ Below V.heap.size V w')
    (hK : ∀ V : World, Below w.heap.size w V → Calls Try.prog 113 #[.agg #[.int .i64 m.r, .int .i64 m.ld, .int .i64 m.lq, .int .i64 m.fx, .int .i64 m.po, .int .i64 m.mi, .int .i64 m.sp, .int .i64 m.dr, .int .i64 m.cu, .int .i64 m.fa], .slice (some ad) 5 cap] V fun e w' => e = .returned (.tuple #[.agg #[.int .i64 (Dv.lmLo m l).r, .int .i64 (Dv.lmLo m l).ld, .int .i64 (Dv.lmLo m l).lq, .int .i64 (Dv.lmLo m l).fx, .int .i64 (Dv.lmLo m l).po, .int .i64 (Dv.lmLo m l).mi, .int .i64 (Dv.lmLo m l).sp, .int .i64 (Dv.lmLo m l).dr, .int .i64 (Dv.lmLo m l).cu, .int .i64 (Dv.lmLo m l).fa], .agg #[.int .i64 (Dv.lmHi m l).r, .int .i64 (Dv.lmHi m l).ld, .int .i64 (Dv.lmHi m l).lq, .int .i64 (Dv.lmHi m l).fx, .int .i64 (Dv.lmHi m l).po, .int .i64 (Dv.lmHi m l).mi, .int .i64 (Dv.lmHi m l).sp, .int .i64 (Dv.lmHi m l).dr, .int .i64 (Dv.lmHi m l).cu, .int .i64 (Dv.lmHi m l).fa]]) ∧ Below V.heap.size V w') :
    Calls Try.prog 60 #[.agg #[.int .i64 m.r, .int .i64 m.ld, .int .i64 m.lq, .int .i64 m.fx, .int .i64 m.po, .int .i64 m.mi, .int .i64 m.sp, .int .i64 m.dr, .int .i64 m.cu, .int .i64 m.fa], .slice (some ad) 5 cap, .int .i64 u] w (HoP m l u w) := by
  have HL := Lib.hid hL
  have KP := Lib.hid hP
  have KE := Lib.hid hK
  have H8 := Lib.hid h8
  clear hL hP hK h8
  have S0 := Lib.hid ((St.start w).alloc [.int .i64 m.r, .int .i64 m.ld, .int .i64 m.lq, .int .i64 m.fx, .int .i64 m.po, .int .i64 m.mi, .int .i64 m.sp, .int .i64 m.dr, .int .i64 m.cu, .int .i64 m.fa] 52)
  go_enter Try.func60, Try.ntmps60
  go_wp2_with fail
  refine (KP.out _ S0.out.1).mono ?_
  rintro e w1 ⟨rfl, hb1⟩
  have S1 := Lib.hid (S0.out.below hb1)
  clear hb1 S0
  cases hu : Dv.busB u
  · have HE : Hid (Dv.hoE m l u = 3) := Lib.hid (by unfold Dv.hoE; rw [if_pos HL.out, hu]; rfl)
    have KR := Lib.hid (show ∀ V : World, Calls Try.prog 56 #[.int .i64 u] V fun e w' => e = .returned (.tuple #[.int .i64 0, .int .i64 3]) ∧ V = w' from fun V => (RoomRef_c u V).mono fun _ _ ⟨h1, h2⟩ => ⟨by rw [h1]; unfold Dv.RoomV Dv.RoomE; rw [hu]; rfl, h2⟩)
    clear hu
    go_wp2_with (go_at_call 56; refine (KR.out _).mono ?_; rintro e w' ⟨rfl, rfl⟩)
    go_ret2
    exact HoP.no HE.out (by decide) rfl S1.out.1
  · have HU := Lib.hid hu
    have KR := Lib.hid (show ∀ V : World, Calls Try.prog 56 #[.int .i64 u] V fun e w' => e = .returned (.tuple #[.int .i64 (Dv.roomV u), .int .i64 0]) ∧ V = w' from fun V => (RoomRef_c u V).mono fun _ _ ⟨h1, h2⟩ => ⟨by rw [h1]; unfold Dv.RoomV Dv.RoomE; rw [hu]; rfl, h2⟩)
    clear hu
    have HE : Hid (Dv.hoE m l u = 0) := Lib.hid (by unfold Dv.hoE; rw [if_pos HL.out, if_pos HU.out])
    obtain ⟨hm, _, hlo, hhi, hsl, hsh, _⟩ := Dv.lm_parts HL.out
    obtain ⟨hW, hS⟩ := Dv.hoW_bd HL.out
    have hsp := Dv.lm_span HL.out
    have hU := Dv.roomV_bd (Dv.busB_iff.1 HU.out)
    have HR := Lib.hid (show ∀ V : World, Calls Try.prog 96 #[.int .i64 u] V fun e w' => e = .returned (.int .i64 (Dv.roomV u)) ∧ V = w' from fun V => room_c u V (Dv.busB_iff.1 HU.out))
    obtain ⟨D1, e1⟩ : ∃ x, Dv.up ((Dv.lmHi m l).r * m.cu) 1000 = x := ⟨_, rfl⟩
    obtain ⟨C1, e2⟩ : ∃ x, Dv.up (Dv.hoW m l * (Dv.lmHi m l).lq * m.cu) 1000000 = x := ⟨_, rfl⟩
    obtain ⟨C2, e3⟩ : ∃ x, Dv.up (Dv.hoW m l * (Dv.lmHi m l).ld * m.cu) 1000000 = x := ⟨_, rfl⟩
    obtain ⟨D2, e4⟩ : ∃ x, Dv.up (((Dv.lmHi m l).r - (Dv.lmLo m l).r) * m.cu) 1000 = x := ⟨_, rfl⟩
    obtain ⟨E1, e5⟩ : ∃ x, Dv.up ((Dv.hoS l * (Dv.lmHi m l).lq + Dv.hoW m l * ((Dv.lmHi m l).lq - (Dv.lmLo m l).lq)) * m.cu) 1000000 = x := ⟨_, rfl⟩
    obtain ⟨E2, e6⟩ : ∃ x, Dv.up ((Dv.hoS l * (Dv.lmHi m l).ld + Dv.hoW m l * ((Dv.lmHi m l).ld - (Dv.lmLo m l).ld)) * m.cu) 1000000 = x := ⟨_, rfl⟩
    have HB : Hid (Dv.hoB m l u = _) := Lib.hid (Dv.hoG_eq m (Dv.lmLo m l) (Dv.lmHi m l) (Dv.hoW m l) (Dv.hoS l) (Dv.roomV u) e1 e2 e3 e4 e5 e6)
    have HWD : Hid (m.fa + max (Dv.lmS l).hi (-(Dv.lmS l).lo) = Dv.hoW m l) := Lib.hid rfl
    have HSD : Hid ((Dv.lmS l).hi - (Dv.lmS l).lo = Dv.hoS l) := Lib.hid rfl
    generalize hglo : Dv.lmLo m l = lo at KE KR H8 HB HWD HSD hlo hhi hsl hsh hW hS hsp hU HR e1 e2 e3 e4 e5 e6
    generalize hghi : Dv.lmHi m l = hi at KE KR H8 HB HWD HSD hlo hhi hsl hsh hW hS hsp hU HR e1 e2 e3 e4 e5 e6
    generalize hgw : Dv.hoW m l = ww at KE KR H8 HB HWD HSD hlo hhi hsl hsh hW hS hsp hU HR e1 e2 e3 e4 e5 e6
    generalize hgs : Dv.hoS l = ss at KE KR H8 HB HWD HSD hlo hhi hsl hsh hW hS hsp hU HR e1 e2 e3 e4 e5 e6
    generalize hgu : Dv.roomV u = U at KE KR H8 HB HWD HSD hlo hhi hsl hsh hW hS hsp hU HR e1 e2 e3 e4 e5 e6
    generalize hgsl : Dv.lmS l = sx at KE KR H8 HB HWD HSD hlo hhi hsl hsh hW hS hsp hU HR e1 e2 e3 e4 e5 e6
    clear hglo hghi hgw hgs hgu hgsl
    have q1 := Lib.hid e1
    have q2 := Lib.hid e2
    have q3 := Lib.hid e3
    have q4 := Lib.hid e4
    have q5 := Lib.hid e5
    have q6 := Lib.hid e6
    clear e1 e2 e3 e4 e5 e6
    obtain ⟨m0, m1, m2, m3, m4, m5, m6, m7, m8, m9⟩ := motOf (m := m) (S1.out.get 0 rfl)
    have zm := (S1.out.get 0 rfl).lt
    go_upto_region 6 with (go_at_call 56; refine (KR.out _).mono ?_; rintro e w' ⟨rfl, rfl⟩)
    go_wp2_with fail
    refine (KE.out _ S1.out.1).mono ?_
    rintro e w3 ⟨rfl, hb3⟩
    have S2 := Lib.hid (((S1.out.below hb3).alloc [.int .i64 lo.r, .int .i64 lo.ld, .int .i64 lo.lq, .int .i64 lo.fx, .int .i64 lo.po, .int .i64 lo.mi, .int .i64 lo.sp, .int .i64 lo.dr, .int .i64 lo.cu, .int .i64 lo.fa] 52).alloc [.int .i64 hi.r, .int .i64 hi.ld, .int .i64 hi.lq, .int .i64 hi.fx, .int .i64 hi.po, .int .i64 hi.mi, .int .i64 hi.sp, .int .i64 hi.dr, .int .i64 hi.cu, .int .i64 hi.fa] 52)
    clear hb3 S1 m0 m1 m2 m3 m4 m5 m6 m7 m8 m9 zm
    go_upto_region 7 with (fail)
    refine gen_world (fun W => St w [(w3.heap.size + 1, 52, [.int .i64 hi.r, .int .i64 hi.ld, .int .i64 hi.lq, .int .i64 hi.fx, .int .i64 hi.po, .int .i64 hi.mi, .int .i64 hi.sp, .int .i64 hi.dr, .int .i64 hi.cu, .int .i64 hi.fa]), (w3.heap.size, 52, [.int .i64 lo.r, .int .i64 lo.ld, .int .i64 lo.lq, .int .i64 lo.fx, .int .i64 lo.po, .int .i64 lo.mi, .int .i64 lo.sp, .int .i64 lo.dr, .int .i64 lo.cu, .int .i64 lo.fa]), (w.heap.size, 52, [.int .i64 m.r, .int .i64 m.ld, .int .i64 m.lq, .int .i64 m.fx, .int .i64 m.po, .int .i64 m.mi, .int .i64 m.sp, .int .i64 m.dr, .int .i64 m.cu, .int .i64 m.fa])] W) (by have := S2.out; simp at this; exact this) ?_
    clear S2
    generalize w3.heap.size = gz
    clear w3
    rintro w3 i3
    have S2 := Lib.hid i3
    clear i3
    have z_m := (S2.out.get 2 rfl).lt
    have m8 := (S2.out.get 2 rfl).cell 8 rfl
    go_upto_region 8 with (fail)
    clear z_m m8
    have e1 := q1.out
    have e2 := q2.out
    have e3 := q3.out
    have e4 := q4.out
    have e5 := q5.out
    have e6 := q6.out
    obtain ⟨b0, b1, b2, b3, b4, b5, b6, b7, b8, b9, b10, b11, b12, b13, b14, b15, b16⟩ := Dv.ho_bd hm hlo hhi hW hS
    have v1 : -1099511628 ≤ D1 ∧ D1 ≤ 1099511628 := by rw [← e1]; unfold Dv.up; omega
    have K1 := Lib.hid (show ∀ V : World, Calls Try.prog 114 #[.int .i64 (hi.r * m.cu), .int .i64 1000] V fun e w' => e = .returned (.int .i64 D1) ∧ V = w' from fun V => by rw [← e1]; exact upR_c (hi.r * m.cu) 1000 V (by omega) (by omega) (by omega))
    have v2 : -144115188076 ≤ C1 ∧ C1 ≤ 144115188076 := by rw [← e2]; unfold Dv.up; omega
    have K2 := Lib.hid (show ∀ V : World, Calls Try.prog 114 #[.int .i64 (ww * hi.lq * m.cu), .int .i64 1000000] V fun e w' => e = .returned (.int .i64 C1) ∧ V = w' from fun V => by rw [← e2]; exact upR_c (ww * hi.lq * m.cu) 1000000 V (by omega) (by omega) (by omega))
    have v3 : -144115188076 ≤ C2 ∧ C2 ≤ 144115188076 := by rw [← e3]; unfold Dv.up; omega
    have K3 := Lib.hid (show ∀ V : World, Calls Try.prog 114 #[.int .i64 (ww * hi.ld * m.cu), .int .i64 1000000] V fun e w' => e = .returned (.int .i64 C2) ∧ V = w' from fun V => by rw [← e3]; exact upR_c (ww * hi.ld * m.cu) 1000000 V (by omega) (by omega) (by omega))
    have v4 : -1099511628 ≤ D2 ∧ D2 ≤ 1099511628 := by rw [← e4]; unfold Dv.up; omega
    have K4 := Lib.hid (show ∀ V : World, Calls Try.prog 114 #[.int .i64 ((hi.r - lo.r) * m.cu), .int .i64 1000] V fun e w' => e = .returned (.int .i64 D2) ∧ V = w' from fun V => by rw [← e4]; exact upR_c ((hi.r - lo.r) * m.cu) 1000 V (by omega) (by omega) (by omega))
    have v5 : -288230376152 ≤ E1 ∧ E1 ≤ 288230376152 := by rw [← e5]; unfold Dv.up; omega
    have K5 := Lib.hid (show ∀ V : World, Calls Try.prog 114 #[.int .i64 ((ss * hi.lq + ww * (hi.lq - lo.lq)) * m.cu), .int .i64 1000000] V fun e w' => e = .returned (.int .i64 E1) ∧ V = w' from fun V => by rw [← e5]; exact upR_c ((ss * hi.lq + ww * (hi.lq - lo.lq)) * m.cu) 1000000 V (by omega) (by omega) (by omega))
    have v6 : -288230376152 ≤ E2 ∧ E2 ≤ 288230376152 := by rw [← e6]; unfold Dv.up; omega
    have K6 := Lib.hid (show ∀ V : World, Calls Try.prog 114 #[.int .i64 ((ss * hi.ld + ww * (hi.ld - lo.ld)) * m.cu), .int .i64 1000000] V fun e w' => e = .returned (.int .i64 E2) ∧ V = w' from fun V => by rw [← e6]; exact upR_c ((ss * hi.ld + ww * (hi.ld - lo.ld)) * m.cu) 1000000 V (by omega) (by omega) (by omega))
    clear e1 e2 e3 e4 e5 e6
    unfold Dv.chk at hm hlo hhi
    have GMX := fun (x y : Int) ts t W => max2_run x y ts t W
    obtain ⟨x8, x9, zad⟩ := H8.out _ S2.out.1
    have z_m := (S2.out.get 2 rfl).lt
    have m9 := (S2.out.get 2 rfl).cell 9 rfl
    refine wp_region_past (by kernel_rfl) (by kernel_rfl) ?_
    repeat (go_big_quiet_step (fail))
    refine wpQuiet_nil ?_
    intro y
    have S3 := Lib.hid (S2.out.below y.far)
    clear S2 z_m m9
    generalize y.w = wy at S3 ⊢
    clear x8 x9 zad
    rw [HWD.out]
    go_upto_region 9 with (fail)
    obtain ⟨x8, x9, zad⟩ := H8.out _ S3.out.1
    refine wp_region_past (by kernel_rfl) (by kernel_rfl) ?_
    repeat (go_big_quiet_step (fail))
    refine wpQuiet_nil ?_
    intro y
    have S4 := Lib.hid (S3.out.below y.far)
    clear S3 
    generalize y.w = wy at S4 ⊢
    clear x8 x9 zad
    rw [HSD.out]
    go_upto_region 10 with (fail)
    by_cases r1 : U < D1 + C1 + 2
    · have HBB := Lib.hid (show Dv.hoB m l u = false by rw [HB.out, if_pos (by omega)])
      have z_gb := (S4.out.get 0 rfl).lt
      have gb0 := (S4.out.get 0 rfl).cell 0 rfl
      have gb1 := (S4.out.get 0 rfl).cell 1 rfl
      have gb2 := (S4.out.get 0 rfl).cell 2 rfl
      have gb3 := (S4.out.get 0 rfl).cell 3 rfl
      refine wp_region_past (by kernel_rfl) (by kernel_rfl) ?_
      repeat (go_big_quiet_step (first | (go_at_call 114; with_reducible exact past_same (K1.out _)) | (go_at_call 114; with_reducible exact past_same (K2.out _))))
      refine wpQuiet_nil ?_
      intro y
      have S5 := Lib.hid (S4.out.below y.far)
      clear S4 z_gb gb0 gb1 gb2 gb3
      generalize y.w = wy at S5 ⊢
      go_wp2
      go_ret2
      exact HoP.yes HE.out HBB.out rfl S5.out.1
    · by_cases r2 : U < D1 + C2 + ww * hi.fx + 2
      · have HBB := Lib.hid (show Dv.hoB m l u = false by rw [HB.out, if_pos (by omega)])
        have z_gb := (S4.out.get 0 rfl).lt
        have gb0 := (S4.out.get 0 rfl).cell 0 rfl
        have gb1 := (S4.out.get 0 rfl).cell 1 rfl
        have gb2 := (S4.out.get 0 rfl).cell 2 rfl
        have gb3 := (S4.out.get 0 rfl).cell 3 rfl
        refine wp_region_past (by kernel_rfl) (by kernel_rfl) ?_
        repeat (go_big_quiet_step (first | (go_at_call 114; with_reducible exact past_same (K1.out _)) | (go_at_call 114; with_reducible exact past_same (K2.out _)) | (go_at_call 114; with_reducible exact past_same (K3.out _))))
        refine wpQuiet_nil ?_
        intro y
        have S5 := Lib.hid (S4.out.below y.far)
        clear S4 z_gb gb0 gb1 gb2 gb3
        generalize y.w = wy at S5 ⊢
        go_wp2
        go_ret2
        exact HoP.yes HE.out HBB.out rfl S5.out.1
      · have HRR := Lib.hid (show max (D1 + C1) (D1 + C2 + ww * hi.fx) + 2 ≤ U by omega)
        have z_gb := (S4.out.get 0 rfl).lt
        have gb0 := (S4.out.get 0 rfl).cell 0 rfl
        have gb1 := (S4.out.get 0 rfl).cell 1 rfl
        have gb2 := (S4.out.get 0 rfl).cell 2 rfl
        have gb3 := (S4.out.get 0 rfl).cell 3 rfl
        refine wp_region_past (by kernel_rfl) (by kernel_rfl) ?_
        repeat (go_big_quiet_step (first | (go_at_call 114; with_reducible exact past_same (K1.out _)) | (go_at_call 114; with_reducible exact past_same (K2.out _)) | (go_at_call 114; with_reducible exact past_same (K3.out _))))
        refine wpQuiet_nil ?_
        intro y
        have S5 := Lib.hid (S4.out.below y.far)
        clear S4 z_gb gb0 gb1 gb2 gb3
        generalize y.w = wy at S5 ⊢
        clear r1 r2
        have hr := True.intro
        go_upto_region 12 with (fail)
        clear hr
        have z_ga := (S5.out.get 1 rfl).lt
        have ga0 := (S5.out.get 1 rfl).cell 0 rfl
        have ga2 := (S5.out.get 1 rfl).cell 2 rfl
        have z_gb := (S5.out.get 0 rfl).lt
        have gb0 := (S5.out.get 0 rfl).cell 0 rfl
        have gb2 := (S5.out.get 0 rfl).cell 2 rfl
        go_upto_region 14 with (first | (go_at_call 114; (with_reducible refine (K4.out _).mono ?_); rintro e w' ⟨rfl, rfl⟩) | (go_at_call 114; (with_reducible refine (K5.out _).mono ?_); rintro e w' ⟨rfl, rfl⟩))
        clear z_ga ga0 ga2 z_gb gb0 gb2
        have z_ga := (S5.out.get 1 rfl).lt
        have ga1 := (S5.out.get 1 rfl).cell 1 rfl
        have ga3 := (S5.out.get 1 rfl).cell 3 rfl
        have z_gb := (S5.out.get 0 rfl).lt
        have gb1 := (S5.out.get 0 rfl).cell 1 rfl
        have gb3 := (S5.out.get 0 rfl).cell 3 rfl
        refine wp_region_past (by kernel_rfl) (by kernel_rfl) ?_
        repeat (go_big_quiet_step (first | (go_at_call 114; with_reducible exact past_same (K6.out _))))
        refine wpQuiet_nil ?_
        intro y
        have SB := Lib.hid (S5.out.below y.far)
        clear S5 z_ga ga1 ga3 z_gb gb1 gb3
        generalize y.w = wy at SB ⊢
        have hsd : -1000000000000 ≤ D2 + E1 + 4 ∧ D2 + E1 + 4 ≤ 1000000000000 := by omega
        have hsq : -1000000000000 ≤ D2 + E2 + ss * hi.fx + ww * (hi.fx - lo.fx) + 4 ∧ D2 + E2 + ss * hi.fx + ww * (hi.fx - lo.fx) + 4 ≤ 1000000000000 := by omega
        generalize D2 + E1 + 4 = SD at HB hsd ⊢
        generalize D2 + E2 + ss * hi.fx + ww * (hi.fx - lo.fx) + 4 = SQ at HB hsq ⊢
        have p1 := Dv.mul_bd (x := SD + 2) (y := m.mi) 1000000000002 1000 (by omega) (by omega)
        have p2 := Dv.mul_bd (x := SQ + 2) (y := m.mi) 1000000000002 1000 (by omega) (by omega)
        clear b0 b1 b2 b3 b4 b5 b6 b7 b8 b9 b10 b11 b12 b13 b14 v1 v2 v3 v4 v5 v6
        have z_m := (SB.out.get 2 rfl).lt
        have m5 := (SB.out.get 2 rfl).cell 5 rfl
        have z_ga := (SB.out.get 1 rfl).lt
        have ga1 := (SB.out.get 1 rfl).cell 1 rfl
        have ga2 := (SB.out.get 1 rfl).cell 2 rfl
        by_cases t1 : (SD + 2) * m.mi ≤ 2 * m.cu * lo.ld
        · by_cases t2 : (SQ + 2) * m.mi ≤ 2 * m.cu * lo.lq
          · have HBB := Lib.hid (show Dv.hoB m l u = true by rw [HB.out, if_neg (Int.not_lt.2 HRR.out), decide_eq_true t1, decide_eq_true t2]; rfl)
            go_wp2
            go_ret2
            exact HoP.yes HE.out HBB.out rfl SB.out.1
          · have HBB := Lib.hid (show Dv.hoB m l u = false by rw [HB.out, if_neg (Int.not_lt.2 HRR.out), decide_eq_false t2]; simp)
            go_wp2
            go_ret2
            exact HoP.yes HE.out HBB.out rfl SB.out.1
        · have HBB := Lib.hid (show Dv.hoB m l u = false by rw [HB.out, if_neg (Int.not_lt.2 HRR.out), decide_eq_false t1]; rfl)
          go_wp2
          go_ret2
          exact HoP.yes HE.out HBB.out rfl SB.out.1

theorem HoldsR_c (m : Mot) (A : Option Addr) (l : List Sp) (u : Int) (cap : Nat) (w : World) (hx : SpAt w A l) :
    Calls Try.prog 60 #[.agg #[.int .i64 m.r, .int .i64 m.ld, .int .i64 m.lq, .int .i64 m.fx, .int .i64 m.po, .int .i64 m.mi, .int .i64 m.sp, .int .i64 m.dr, .int .i64 m.cu, .int .i64 m.fa], .slice A l.length cap, .int .i64 u] w (HoP m l u w) := by
  by_cases h : Dv.lmE m l = 0
  · obtain ⟨_, hl, _⟩ := Dv.lm_parts h
    match l, hl with
    | [s0, s1, s2, s3, s4], _ =>
      obtain ⟨ad, rfl, h5⟩ := hx.five
      refine HoldsR_go m ad [s0, s1, s2, s3, s4] u cap w h (fun V hV => ?_) (fun V hV => ?_) (fun V hV => ends_p m (some ad) [s0, s1, s2, s3, s4] cap V (hx.below hV) h)
      · obtain ⟨z, _, _, _, _, _, _, _, _, x8, x9⟩ := h5.below hV h5.1
        exact ⟨x8, x9, z⟩
      · have := possible_c m (some ad) [s0, s1, s2, s3, s4] cap V (hx.below hV)
        rw [h] at this
        exact this
  · exact HoldsR_no m A l u cap w hx h
end Go.Proofs.Ytcneohhfnnelgaa
