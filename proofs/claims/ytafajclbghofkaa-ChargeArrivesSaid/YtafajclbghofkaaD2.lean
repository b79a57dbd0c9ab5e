/- Lines: Clone, Copy, Poll of charge. -/
import Derived.Test.YtafajclbghofkaaD1
namespace Go.Proofs.Ytafajclbghofkaa
open Go.RowKit
set_option linter.unusedVariables false

theorem own_base {w : World} {B B' n : Nat} {A : Option Addr} {cap : Nat} {xs : List Value} (h : w.ownsRow B 60 5 (.slice A n cap) n xs) (hB : B' ≤ B) : w.ownsRow B' 60 5 (.slice A n cap) n xs := by
  refine ⟨h.1, ?_⟩
  rcases h.2 with h2 | ⟨k, c, cur, hv, hb, r⟩
  · exact .inl h2
  · exact .inr ⟨k, c, cur, hv, by omega, r⟩

/-- a clone: a new row with the notes -/
def CloneTo (w : World) (L : List Nt) (e : Ending) (w' : World) : Prop := ∃ A' cap', e = .returned (.slice A' L.length cap') ∧ w'.ownsRow w.heap.size 60 5 (.slice A' L.length cap') L.length (flat L) ∧ Below w.heap.size w w'
set_option maxHeartbeats 1000000 in
theorem Clone_c (A : Option Addr) (n c : Nat) (L : List Nt) (w : World) (hn : n = L.length) (hs : SrcRow w A n (flat L)) (hnil : A = none → L = []) (hl : L.length ≤ 1000000) :
    Calls Try.prog 58 #[.slice A n c] w (CloneTo w L) := by
  cases A with
  | none =>
    have hL := hnil rfl
    subst hL
    clear hs hnil
    have q76 : ∀ (w : World) (a : Option Addr) (n c n' c' : Nat), (binOp .eql 76 (.slice a n c) (.slice none n' c')).run Try.prog w = .ok (.bool a.isNone) w := fun w a n c n' c' => Lib.run_eql_slice_nil w _ _ a n c n' c' Try.underlying76
    go_enter Try.func58, Try.ntmps58
    go_wp2
    go_ret
    exact ⟨none, 0, rfl, World.ownsRow_nil _ _ _ _, Below.refl _ _⟩
  | some a =>
    clear hnil
    obtain ⟨i0, hi, hz0, hz1, hz2⟩ := info_parts info60
    have HC := Lib.hid (show SrcRow (w.alloc (.cells #[] 60)) (some a) n (flat L) from by
      rcases hs with ⟨h, _⟩ | ⟨a', h, hc⟩
      · cases h
      · exact .inr ⟨a', h, fun j u hu => ((World.grownBy_alloc w _ none).cell (hc j u hu) (by simp))⟩)
    have HL := Lib.hid hl
    have HN := Lib.hid hn
    clear hs hl hn
    have q76 : ∀ (w : World) (a : Option Addr) (n c n' c' : Nat), (binOp .eql 76 (.slice a n c) (.slice none n' c')).run Try.prog w = .ok (.bool a.isNone) w := fun w a n c n' c' => Lib.run_eql_slice_nil w _ _ a n c n' c' Try.underlying76
    go_enter Try.func58, Try.ntmps58
    go_wp2_with (at_builtin; refine wpList_append_any (.tmp 5) (.tmp 6) 76 rfl rfl w.heap.size 60 i0 (.agg #[.int .i64 0, .int .i64 0, .int .i64 0, .int .i64 0, .int .i64 0]) 5 40 Try.underlying76 hi hz0 hz1 hz2 rfl (by decide) (some ⟨w.heap.size, 0, none⟩) 0 0 [] (by rfl) (World.ownsRow_made w #[] 0 (Nat.le_refl _) (by decide) (by simp)) (some a) n c (flat L) (by rfl) (by rw [flat_length, HN.out]) HC.out (flat_one' L) (by have := HL.out; have := HN.out; unfold maxLen; omega) (by have := HL.out; have := HN.out; omega) (by simp) ?_; intro A' cap' w1 hown hgrow hat; have HOw := Lib.hid hown; have HG := Lib.hid hgrow; clear hown hgrow hat)
    go_ret
    have hown := HOw.out
    refine ⟨A', cap', ?_, ?_, Below.grown ((Below.refl _ _).alloc (Nat.le_refl _) _) HG.out (by simp) (fun k hk => by simp [Value.ownBlock] at hk; omega)⟩
    · rw [← HN.out]; simp
    · rw [← HN.out]; simpa using hown

theorem own_src0 {w : World} {B n : Nat} {A : Option Addr} {cap : Nat} {L : List Nt} (h : w.ownsRow B 60 5 (.slice A n cap) n (flat L)) : SrcRow w A L.length (flat L) ∧ (A = none → L = []) := by
  obtain ⟨h1, h2⟩ := own_src h 0 (Nat.zero_le _)
  refine ⟨?_, h2⟩
  cases A with
  | none => exact .inl ⟨rfl, by rw [h2 rfl]; rfl⟩
  | some a =>
    rcases h1 with ⟨e, _⟩ | ⟨b, e, hc⟩
    · cases e
    · refine .inr ⟨a, rfl, fun j u hu => ?_⟩
      cases e
      have := hc j u (by simpa using hu)
      simpa [Addr.add] using this

/-- a copy: a new line in new blocks -/
def CopyTo (w : World) (l : Ln) (w' : World) : Prop := (∃ A' cap', LineAt w' w.heap.size w.heap.size A' cap' l) ∧ Below w.heap.size w w'
set_option maxHeartbeats 1000000 in
theorem CopyL_c (B g : Nat) (A : Option Addr) (cap : Nat) (l : Ln) (w : World) (h : LineAt w B g A cap l) (hl : l.L.length ≤ 64) : Calls Try.prog 33 #[.pointer (some ⟨g, 0, none⟩)] w
    fun e w' => e = .returned (.pointer (some ⟨w.heap.size, 0, none⟩)) ∧ CopyTo w l w' := by
  have hlt := h.blk.lt
  have c0 := h.blk.cell 0 rfl
  have c1 := h.blk.cell 1 rfl
  have c2 := h.blk.cell 2 rfl
  have c3 := h.blk.cell 3 rfl
  have c4 := h.blk.cell 4 rfl
  have hr := fun o => own_src0 (own_keep h.own (S := fun _ => False) (w' := w.alloc o) ((Touch.refl _ _).alloc o) (fun _ _ h => h))
  have HR := Lib.hid hr
  have HN := Lib.hid (Blk.new' w #[.bool true, .slice A l.L.length cap, .int .i64 l.dn, .int .i64 l.tk, .bool l.ow] 130)
  have HLe := Lib.hid hl
  clear h hl hr
  obtain ⟨len, hlen⟩ : ∃ len, len = l.L.length := ⟨_, rfl⟩
  rw [← hlen] at c1
  have HLen := Lib.hid hlen
  clear hlen
  go_enter Try.func33, Try.ntmps33
  go_wp2_with (first
    | (go_at_call 57; refine (validL_c _ _ (by go_simp)).mono ?_; rintro e w' ⟨rfl, rfl⟩)
    | (go_at_call 58; refine (Clone_c A len cap l.L _ HLen.out (by rw [HLen.out]; exact (HR.out _).1) (HR.out (.cells #[] 0)).2 (by have := HLe.out; omega)).mono ?_; rintro e w1 ⟨A', cap', rfl, hown, hb⟩; have hn := Blk.below HN.out (by rw [HLen.out] at hb; exact hb) (by simp); have d1 := hn.free 1; have d2 := hn.cell 1 rfl; have HN1 := Lib.hid hn; have HOw := Lib.hid hown; have HB1 := Lib.hid hb; clear hn hown hb))
  go_ret
  refine ⟨rfl, ⟨A', cap', ⟨?_, ?_, Nat.le_refl _, fun e => ?_⟩⟩, (((Below.refl _ _).alloc (Nat.le_refl _) _).trans (HB1.out.mono (by simp))).setCell (Nat.le_refl _) _⟩
  · have := HN1.out.setCell 1 (.slice A' l.L.length cap')
    simpa using this
  · exact own_keep (own_base HOw.out (by simp)) (S := fun k => k = w.heap.size) ((Touch.refl _ _).put 1 _) (fun k hk e => by have := (own_lt HOw.out hk).1; simp at this; omega)
  · have := (own_lt HOw.out e).1
    simp at this
    omega
end Go.Proofs.Ytafajclbghofkaa
