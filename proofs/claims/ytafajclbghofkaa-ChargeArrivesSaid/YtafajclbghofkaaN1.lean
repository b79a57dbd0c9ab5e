/- Plain: what a line does. No program is in sight. -/
namespace Go.Proofs.Ytafajclbghofkaa
/-- a note -/
structure Nt where
  k : Int
  s : Int
  a : Int
  b : Int
  c : Int
deriving DecidableEq
instance : Inhabited Nt := ⟨⟨0, 0, 0, 0, 0⟩⟩
/-- a packet -/
structure Pk where
  has : Bool
  nu : Int
  nt : Nt
  ak : Int
deriving DecidableEq
/-- a line -/
structure Ln where
  L : List Nt
  dn : Int
  tk : Int
  ow : Bool
namespace Lx
def nt0 : Nt := ⟨0, 0, 0, 0, 0⟩
def pk0 : Pk := ⟨false, 0, nt0, 0⟩
def ln0 : Ln := ⟨[], 0, 0, false⟩
def sendE (l : Ln) : Int := if 64 ≤ l.L.length then 11 else 0
def sendL (l : Ln) (n : Nt) : Ln := if 64 ≤ l.L.length then l else { l with L := l.L ++ [n] }
def pollB (l : Ln) : Bool := !l.L.isEmpty || l.ow
def pollP (l : Ln) : Pk := match l.L with
  | [] => if l.ow then ⟨false, 0, nt0, l.tk⟩ else pk0
  | n :: _ => ⟨true, l.dn + 1, n, l.tk⟩
def pollL (l : Ln) : Ln := { l with ow := false }
/-- an acknowledgement is taken -/
def ackB (l : Ln) (p : Pk) : Bool := decide (l.dn < p.ak) && decide (p.ak - l.dn ≤ l.L.length)
def ack (l : Ln) (p : Pk) : Ln := if ackB l p then { l with L := l.L.drop (p.ak - l.dn).toNat, dn := p.ak } else l
def recvB (l : Ln) (p : Pk) : Bool := p.has && decide (p.nu = l.tk + 1)
def recvN (l : Ln) (p : Pk) : Nt := if recvB l p then p.nt else nt0
def recvL (l : Ln) (p : Pk) : Ln := if p.has then (if p.nu = l.tk + 1 then { ack l p with ow := true, tk := l.tk + 1 } else { ack l p with ow := true }) else ack l p
/-- a line that is not beyond a bound -/
def ok (b : Int) (l : Ln) : Prop := (0 ≤ l.dn ∧ l.dn ≤ b) ∧ (0 ≤ l.tk ∧ l.tk ≤ b) ∧ l.L.length ≤ 64
theorem ok_mono {b c : Int} {l : Ln} (h : ok b l) (hc : b ≤ c) : ok c l := ⟨⟨h.1.1, by have := h.1.2; omega⟩, ⟨h.2.1.1, by have := h.2.1.2; omega⟩, h.2.2⟩
theorem ok_send {b : Int} {l : Ln} {n : Nt} (h : ok b l) : ok b (sendL l n) := by
  unfold sendL
  split
  · exact h
  · exact ⟨h.1, h.2.1, by simp; omega⟩
theorem ok_poll {b : Int} {l : Ln} (h : ok b l) : ok b (pollL l) := h
theorem ok_ack {b : Int} {l : Ln} {p : Pk} (h : ok b l) : ok (b + 64) (ack l p) ∧ (ack l p).tk = l.tk ∧ (ack l p).ow = l.ow := by
  unfold ack
  split
  · rename_i hb
    simp only [ackB, Bool.and_eq_true, decide_eq_true_eq] at hb
    obtain ⟨h1, h2, h3⟩ := h
    exact ⟨⟨⟨show 0 ≤ p.ak by omega, show p.ak ≤ b + 64 by omega⟩, ⟨h2.1, show l.tk ≤ b + 64 by omega⟩, show (l.L.drop _).length ≤ 64 by simp; omega⟩, rfl, rfl⟩
  · exact ⟨ok_mono h (by omega), rfl, rfl⟩
theorem ok_recv {b : Int} {l : Ln} {p : Pk} (h : ok b l) : ok (b + 64) (recvL l p) := by
  have h1 := (ok_ack (p := p) h).1
  unfold recvL
  split
  · split
    · exact ⟨h1.1, ⟨show 0 ≤ l.tk + 1 by have := h.2.1; omega, show l.tk + 1 ≤ b + 64 by have := h.2.1; omega⟩, h1.2.2⟩
    · exact h1
  · exact h1
end Lx
end Go.Proofs.Ytafajclbghofkaa
