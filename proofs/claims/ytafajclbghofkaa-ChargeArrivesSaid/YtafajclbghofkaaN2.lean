/- Plain: what two lines do to each other, whatever becomes of the packets. No program is in sight. -/
import Derived.Test.YtafajclbghofkaaN1
namespace Go.Proofs.Ytafajclbghofkaa
namespace Ar
/-- note j of end k -/
def nt (k : Nat) (j : Int) : Nt := ⟨9, j, k, 0, 0⟩
def up {α : Type} (f : Nat → α) (k : Nat) (x : α) : Nat → α := fun j => if j = k then x else f j
theorem up_same {α : Type} (f : Nat → α) (k : Nat) (x : α) : up f k x k = x := by simp [up]
theorem up_ne {α : Type} (f : Nat → α) {k j : Nat} (x : α) (h : j ≠ k) : up f k x j = f j := by simp [up, h]
/-- what end e has sent, and what the other one has of it -/
structure InvE (s : Nat → Int) (ln : Nat → Ln) (e o : Nat) : Prop where
  d0 : 0 ≤ (ln e).dn
  d1 : (ln e).dn ≤ (ln o).tk
  t1 : (ln o).tk ≤ s e
  len : ((ln e).L.length : Int) = s e - (ln e).dn
  nts : ∀ (i : Nat) (x : Nt), (ln e).L[i]? = some x → x = nt e ((ln e).dn + 1 + (i : Int))
  max : (ln e).L.length ≤ 64
/-- a packet of end f that is under way -/
def InvP (s : Nat → Int) (ln : Nat → Ln) (f : Nat) (p : Pk) : Prop := f < 2 ∧ p.ak ≤ (ln f).tk ∧ (p.has = true → p.nu ≤ s f ∧ p.nt = nt f p.nu)
structure Inv (b : Int) (s : Nat → Int) (ln : Nat → Ln) (F : List (Nat × Pk)) : Prop where
  e0 : InvE s ln 0 1
  e1 : InvE s ln 1 0
  fl : ∀ x, x ∈ F → InvP s ln x.1 x.2
  b0 : s 0 ≤ b
  b1 : s 1 ≤ b
theorem Inv.ends {b : Int} {s : Nat → Int} {ln : Nat → Ln} {F : List (Nat × Pk)} (h : Inv b s ln F) {e o : Nat} (he : e + o = 1) : InvE s ln e o := by
  have h2 : (e = 0 ∧ o = 1) ∨ (e = 1 ∧ o = 0) := by omega
  rcases h2 with ⟨rfl, rfl⟩ | ⟨rfl, rfl⟩
  · exact h.e0
  · exact h.e1
theorem Inv.bound {b : Int} {s : Nat → Int} {ln : Nat → Ln} {F : List (Nat × Pk)} (h : Inv b s ln F) {e o : Nat} (he : e + o = 1) : s e ≤ b := by
  have h2 : e = 0 ∨ e = 1 := by omega
  rcases h2 with rfl | rfl
  · exact h.b0
  · exact h.b1
theorem inv_of {b : Int} {s : Nat → Int} {ln : Nat → Ln} {F : List (Nat × Pk)} {e o : Nat} (he : e + o = 1) (h1 : InvE s ln e o) (h2 : InvE s ln o e) (hf : ∀ x, x ∈ F → InvP s ln x.1 x.2) (hb1 : s e ≤ b) (hb2 : s o ≤ b) : Inv b s ln F := by
  have h3 : (e = 0 ∧ o = 1) ∨ (e = 1 ∧ o = 0) := by omega
  rcases h3 with ⟨rfl, rfl⟩ | ⟨rfl, rfl⟩
  · exact ⟨h1, h2, hf, hb1, hb2⟩
  · exact ⟨h2, h1, hf, hb2, hb1⟩
/-- the lines are within a bound -/
theorem Inv.ok {b : Int} {s : Nat → Int} {ln : Nat → Ln} {F : List (Nat × Pk)} (h : Inv b s ln F) {e o : Nat} (he : e + o = 1) : Lx.ok b (ln e) := by
  have h1 := h.ends he
  have h2 := h.ends (show o + e = 1 by omega)
  have b1 := h.bound he
  have b2 := h.bound (show o + e = 1 by omega)
  exact ⟨⟨h1.d0, by have := h1.d1; have := h1.t1; omega⟩, ⟨by have := h2.d0; have := h2.d1; omega, by have := h2.t1; omega⟩, h1.max⟩
theorem Inv.mono {b c : Int} {s : Nat → Int} {ln : Nat → Ln} {F : List (Nat × Pk)} (h : Inv b s ln F) (hc : b ≤ c) : Inv c s ln F := ⟨h.e0, h.e1, h.fl, by have := h.b0; omega, by have := h.b1; omega⟩
theorem Inv.sub {b : Int} {s : Nat → Int} {ln : Nat → Ln} {F G : List (Nat × Pk)} (h : Inv b s ln F) (hg : ∀ x, x ∈ G → x ∈ F) : Inv b s ln G := ⟨h.e0, h.e1, fun x hx => h.fl x (hg x hx), h.b0, h.b1⟩
/-- a note is sent -/
theorem Inv.send {b : Int} {s : Nat → Int} {ln : Nat → Ln} {F : List (Nat × Pk)} (h : Inv b s ln F) {e o : Nat} (he : e + o = 1) (hl : (ln e).L.length < 64) :
    Inv (b + 1) (up s e (s e + 1)) (up ln e (Lx.sendL (ln e) (nt e (s e + 1)))) F := by
  have h1 := h.ends he
  have h2 := h.ends (show o + e = 1 by omega)
  have hne : o ≠ e := by omega
  have hs : Lx.sendL (ln e) (nt e (s e + 1)) = { ln e with L := (ln e).L ++ [nt e (s e + 1)] } := by unfold Lx.sendL; rw [if_neg (by omega)]
  refine inv_of he ⟨?_, ?_, ?_, ?_, ?_, ?_⟩ ⟨?_, ?_, ?_, ?_, ?_, ?_⟩ (fun x hx => ?_) ?_ ?_
  · rw [up_same, hs]; exact h1.d0
  · rw [up_same, up_ne _ _ hne, hs]; exact h1.d1
  · rw [up_ne _ _ hne, up_same]; have := h1.t1; omega
  · rw [up_same, up_same, hs]; have := h1.len; simp; omega
  · intro i x hx
    rw [up_same, hs] at hx ⊢
    simp only at hx ⊢
    by_cases hi : i < (ln e).L.length
    · rw [List.getElem?_append_left hi] at hx
      exact h1.nts i x hx
    · rw [List.getElem?_append_right (by omega)] at hx
      have hi2 : i - (ln e).L.length = 0 := by
        rcases Nat.eq_zero_or_pos (i - (ln e).L.length) with h0 | h0
        · exact h0
        · rw [List.getElem?_eq_none (by simp; omega)] at hx; cases hx
      rw [hi2] at hx
      simp at hx
      rw [← hx]
      have := h1.len
      congr 1
      omega
  · rw [up_same, hs]; simp; omega
  · rw [up_ne _ _ hne]; exact h2.d0
  · rw [up_ne _ _ hne, up_same, hs]; exact h2.d1
  · rw [up_same, up_ne _ _ hne, hs]; exact h2.t1
  · rw [up_ne _ _ hne, up_ne _ _ hne]; exact h2.len
  · rw [up_ne _ _ hne]; exact h2.nts
  · rw [up_ne _ _ hne]; exact h2.max
  · obtain ⟨p1, p2, p3⟩ := h.fl x hx
    by_cases hxe : x.1 = e
    · refine ⟨p1, by rw [hxe, up_same, hs, ← hxe]; exact p2, fun hh => ?_⟩
      obtain ⟨p4, p5⟩ := p3 hh
      rw [hxe, up_same, ← hxe]
      exact ⟨by rw [hxe] at p4 ⊢; omega, p5⟩
    · exact ⟨p1, by rw [up_ne _ _ hxe]; exact p2, fun hh => by rw [up_ne _ _ hxe]; exact p3 hh⟩
  · rw [up_same]; have := h.bound he; omega
  · rw [up_ne _ _ hne]; have := h.bound (show o + e = 1 by omega); omega
/-- a poll: the line, and its packet -/
theorem Inv.poll {b : Int} {s : Nat → Int} {ln : Nat → Ln} {F : List (Nat × Pk)} (h : Inv b s ln F) {e o : Nat} (he : e + o = 1) : Inv b s (up ln e (Lx.pollL (ln e))) F ∧ (Lx.pollB (ln e) = true → InvP s (up ln e (Lx.pollL (ln e))) e (Lx.pollP (ln e))) := by
  have h1 := h.ends he
  have h2 := h.ends (show o + e = 1 by omega)
  have hne : o ≠ e := by omega
  refine ⟨inv_of he ⟨?_, ?_, ?_, ?_, ?_, ?_⟩ ⟨?_, ?_, ?_, ?_, ?_, ?_⟩ (fun x hx => ?_) (h.bound he) (h.bound (show o + e = 1 by omega)), fun hb => ⟨by omega, ?_, fun hh => ?_⟩⟩
  · rw [up_same]; exact h1.d0
  · rw [up_same, up_ne _ _ hne]; exact h1.d1
  · rw [up_ne _ _ hne]; exact h1.t1
  · rw [up_same]; exact h1.len
  · rw [up_same]; exact h1.nts
  · rw [up_same]; exact h1.max
  · rw [up_ne _ _ hne]; exact h2.d0
  · rw [up_ne _ _ hne, up_same]; exact h2.d1
  · rw [up_same]; exact h2.t1
  · rw [up_ne _ _ hne]; exact h2.len
  · rw [up_ne _ _ hne]; exact h2.nts
  · rw [up_ne _ _ hne]; exact h2.max
  · obtain ⟨p1, p2, p3⟩ := h.fl x hx
    by_cases hxe : x.1 = e
    · exact ⟨p1, by rw [hxe, up_same, ← hxe]; exact p2, p3⟩
    · exact ⟨p1, by rw [up_ne _ _ hxe]; exact p2, p3⟩
  · rw [up_same]
    unfold Lx.pollP
    have ht : 0 ≤ (ln e).tk := by have := h2.d0; have := h2.d1; omega
    split
    · split
      · exact Int.le_refl _
      · exact ht
    · exact Int.le_refl _
  · unfold Lx.pollP at hh ⊢
    split at hh
    · split at hh <;> cases hh
    · rename_i x r hL
      have hn := h1.nts 0 x (by rw [hL]; rfl)
      have hlen := h1.len
      rw [hL] at hlen
      simp only [List.length_cons] at hlen
      exact ⟨by simp only; omega, by simp only; rw [hn]; congr 1; simp⟩
/-- a packet arrives -/
theorem Inv.recv {b : Int} {s : Nat → Int} {ln : Nat → Ln} {F : List (Nat × Pk)} (h : Inv b s ln F) {f t : Nat} (he : f + t = 1) {p : Pk} (hp : InvP s ln f p) :
    Inv b s (up ln t (Lx.recvL (ln t) p)) F ∧ (Lx.recvL (ln t) p).tk = (ln t).tk + (if Lx.recvB (ln t) p then 1 else 0) ∧ (Lx.recvB (ln t) p = true → Lx.recvN (ln t) p = nt f ((ln t).tk + 1)) := by
  have h1 := h.ends he
  have h2 := h.ends (show t + f = 1 by omega)
  have hne : f ≠ t := by omega
  obtain ⟨_, p2, p3⟩ := hp
  -- behind the acknowledgement
  have hA : 0 ≤ (Lx.ack (ln t) p).dn ∧ (Lx.ack (ln t) p).dn ≤ (ln f).tk ∧ ((Lx.ack (ln t) p).L.length : Int) = s t - (Lx.ack (ln t) p).dn ∧ (∀ (i : Nat) (x : Nt), (Lx.ack (ln t) p).L[i]? = some x → x = nt t ((Lx.ack (ln t) p).dn + 1 + (i : Int))) ∧ (Lx.ack (ln t) p).L.length ≤ 64 ∧ (Lx.ack (ln t) p).tk = (ln t).tk := by
    unfold Lx.ack
    split
    · rename_i hb
      simp only [Lx.ackB, Bool.and_eq_true, decide_eq_true_eq] at hb
      have hlen := h2.len
      have hd := h2.d0
      have hm := h2.max
      refine ⟨show 0 ≤ p.ak by omega, p2, show (((ln t).L.drop _).length : Int) = s t - p.ak by rw [List.length_drop]; omega, fun i x hx => ?_, show ((ln t).L.drop _).length ≤ 64 by simp; omega, rfl⟩
      simp only [List.getElem?_drop] at hx
      rw [h2.nts _ x hx]
      simp only
      congr 1
      omega
    · exact ⟨h2.d0, h2.d1, h2.len, h2.nts, h2.max, rfl⟩
  obtain ⟨a1, a2, a3, a4, a5, a6⟩ := hA
  have hR : (Lx.recvL (ln t) p).L = (Lx.ack (ln t) p).L ∧ (Lx.recvL (ln t) p).dn = (Lx.ack (ln t) p).dn ∧ (Lx.recvL (ln t) p).tk = (ln t).tk + (if Lx.recvB (ln t) p then 1 else 0) := by
    unfold Lx.recvL Lx.recvB
    by_cases hh : p.has = true
    · by_cases hn : p.nu = (ln t).tk + 1
      · simp [hh, hn]
      · simp [hh, hn, a6]
    · have hf : p.has = false := by simpa using hh
      simp [hf, a6]
  obtain ⟨r1, r2, r3⟩ := hR
  have hB : Lx.recvB (ln t) p = true → p.has = true ∧ p.nu = (ln t).tk + 1 := fun hb => by
    unfold Lx.recvB at hb
    simpa using hb
  have hT : (Lx.recvL (ln t) p).tk ≤ s f := by
    rw [r3]
    split
    · rename_i hb
      obtain ⟨q1, q2⟩ := hB hb
      have := (p3 q1).1
      omega
    · have := h1.t1; omega
  have hT0 : (ln t).tk ≤ (Lx.recvL (ln t) p).tk := by rw [r3]; split <;> omega
  refine ⟨inv_of he ⟨?_, ?_, ?_, ?_, ?_, ?_⟩ ⟨?_, ?_, ?_, ?_, ?_, ?_⟩ (fun x hx => ?_) (h.bound he) (h.bound (show t + f = 1 by omega)), r3, fun hb => ?_⟩
  · rw [up_ne _ _ hne]; exact h1.d0
  · rw [up_ne _ _ hne, up_same]; have := h1.d1; omega
  · rw [up_same]; exact hT
  · rw [up_ne _ _ hne]; exact h1.len
  · rw [up_ne _ _ hne]; exact h1.nts
  · rw [up_ne _ _ hne]; exact h1.max
  · rw [up_same, r2]; exact a1
  · rw [up_same, up_ne _ _ hne, r2]; exact a2
  · rw [up_ne _ _ hne]; exact h2.t1
  · rw [up_same, r1, r2]; exact a3
  · rw [up_same, r1, r2]; exact a4
  · rw [up_same, r1]; exact a5
  · obtain ⟨q1, q2, q3⟩ := h.fl x hx
    by_cases hxe : x.1 = t
    · exact ⟨q1, by rw [hxe, up_same]; rw [hxe] at q2; omega, q3⟩
    · exact ⟨q1, by rw [up_ne _ _ hxe]; exact q2, q3⟩
  · obtain ⟨q1, q2⟩ := hB hb
    unfold Lx.recvN
    rw [hb, if_pos rfl, (p3 q1).2, q2]
theorem Inv.add {b : Int} {s : Nat → Int} {ln : Nat → Ln} {F : List (Nat × Pk)} (h : Inv b s ln F) {e : Nat} {p : Pk} (hp : InvP s ln e p) : Inv b s ln (F ++ [(e, p)]) :=
  ⟨h.e0, h.e1, fun x hx => by
    rcases List.mem_append.1 hx with hx | hx
    · exact h.fl x hx
    · simp at hx; subst hx; exact hp, h.b0, h.b1⟩
theorem inv_start : Inv 0 (fun _ => 0) (fun _ => Lx.ln0) [] := by
  have he : ∀ e o, InvE (fun _ => 0) (fun _ => Lx.ln0) e o := fun e o => ⟨by simp [Lx.ln0], by simp [Lx.ln0], by simp [Lx.ln0], by simp [Lx.ln0], fun i x hx => (by simp [Lx.ln0] at hx), by simp [Lx.ln0]⟩
  exact ⟨he 0 1, he 1 0, fun x hx => (by cases hx), Int.le_refl _, Int.le_refl _⟩
end Ar
end Go.Proofs.Ytafajclbghofkaa
