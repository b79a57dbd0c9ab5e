/-
  No cell of these rows narrows 'for every input' (looked for: loops, veiled, ifaces, maps, wideKeys, modest, calm, conditions, laid).
  DERIVED. THE GIVEN ROWS OF THIS SEAT. 4 by the template 'for every input the law returns true; each argument reads behind the call as it read before'; 0 by the template 'total and deterministic' (their statements: YtlklnaebdnahcaaGreatTotals.lean).
  GIVEN WITH THE SEED: the statements are not yours to turn. If you find one false, say at which input.
  Laid BY PROGRAM, IN A SANDBOX (cutbox-rows.mjs): the forced cells as the released guide's own fill.sh prints them over the translation 567f138eaefa03c3… (all of the seat's roots in one cut). By AI agents, Wed Nov 11 2026. No macro, syntax, notation, axiom, sorry.
-/
import Derived.Test.YtlklnaebdnahcaaGreatChecked
import GoSem.Claim
import GoSem.ClaimJoined
import GoSem.ClaimMapViews
import Derived.JoinedTies
import Derived.KernelRfl
namespace Go.Proofs.YtlklnaebdnahcaaGreat
/- THE CELL 'sum', in the pinned program and in every row, IS THE sha256 OF THE DUMP (.gsa) THAT YtlklnaebdnahcaaGreatProg.lean LOADS. Nothing in Lean hashes anything: it is a label: what it is worth is what the hold of that sum in a sandbox is worth. -/
noncomputable def Tryz.pinned : Pinned := { name := "ytlklnaebdnahcaagreat", sum := "567f138eaefa03c32b352316f1fdb1ef03880960d94370290b63003ce8901ce8", checked := Tryz.checked }
namespace Rows
def none {H : Type} : Left H := { results := [], args := [] }

/-- 'coulomblaw09.ChargeNil': WHATEVER THE INPUT: true; the input reads as it did. -/
def chargeNilSpec : ChangeSpec := { name := "chargeNil", fn := fun _ => fun
  | [d1, d2, d3, d4] => { results := [.lit (.bool true)], args := [d1, d2, d3, d4] }
  | _ => none }
def chargeNilRow : OpenClaim := { program := "ytlklnaebdnahcaagreat", sum := "567f138eaefa03c32b352316f1fdb1ef03880960d94370290b63003ce8901ce8", func := "coulomb/coulomblaw09.ChargeNil", spec := "chargeNil", inPlace := ["maps.clone"], unfollowed := true, recurses := true, plainKeys := false, apart := false }
def ChargeNilSaid : Prop := chargeNilRow.holds Tryz.pinned (OpenSpec.ofChange chargeNilSpec)

/-- ITS FALSE NEIGHBOUR: 'it returns false'. Refute it at one input. -/
def chargeNilWrong : ChangeSpec := { name := "chargeNil", fn := fun _ => fun
  | [d1, d2, d3, d4] => { results := [.lit (.bool false)], args := [d1, d2, d3, d4] }
  | _ => none }
def ChargeNilWrongFalsely : Prop := chargeNilRow.holds Tryz.pinned (OpenSpec.ofChange chargeNilWrong)

/-- 'coulomblaw09.ChargePlays': WHATEVER THE INPUT: true; the input reads as it did. -/
def chargePlaysSpec : ChangeSpec := { name := "chargePlays", fn := fun _ => fun
  | [d1, d2, d3, d4] => { results := [.lit (.bool true)], args := [d1, d2, d3, d4] }
  | _ => none }
def chargePlaysRow : OpenClaim := { program := "ytlklnaebdnahcaagreat", sum := "567f138eaefa03c32b352316f1fdb1ef03880960d94370290b63003ce8901ce8", func := "coulomb/coulomblaw09.ChargePlays", spec := "chargePlays", inPlace := ["maps.clone"], unfollowed := true, recurses := true, plainKeys := false, apart := false }
def ChargePlaysSaid : Prop := chargePlaysRow.holds Tryz.pinned (OpenSpec.ofChange chargePlaysSpec)

/-- ITS FALSE NEIGHBOUR: 'it returns false'. Refute it at one input. -/
def chargePlaysWrong : ChangeSpec := { name := "chargePlays", fn := fun _ => fun
  | [d1, d2, d3, d4] => { results := [.lit (.bool false)], args := [d1, d2, d3, d4] }
  | _ => none }
def ChargePlaysWrongFalsely : Prop := chargePlaysRow.holds Tryz.pinned (OpenSpec.ofChange chargePlaysWrong)

/-- 'coulomblaw09.ChargeBills': WHATEVER THE INPUT: true; the input reads as it did. -/
def chargeBillsSpec : ChangeSpec := { name := "chargeBills", fn := fun _ => fun
  | [d1, d2, d3, d4] => { results := [.lit (.bool true)], args := [d1, d2, d3, d4] }
  | _ => none }
def chargeBillsRow : OpenClaim := { program := "ytlklnaebdnahcaagreat", sum := "567f138eaefa03c32b352316f1fdb1ef03880960d94370290b63003ce8901ce8", func := "coulomb/coulomblaw09.ChargeBills", spec := "chargeBills", unfollowed := true, recurses := true, plainKeys := false, apart := false }
def ChargeBillsSaid : Prop := chargeBillsRow.holds Tryz.pinned (OpenSpec.ofChange chargeBillsSpec)

/-- ITS FALSE NEIGHBOUR: 'it returns false'. Refute it at one input. -/
def chargeBillsWrong : ChangeSpec := { name := "chargeBills", fn := fun _ => fun
  | [d1, d2, d3, d4] => { results := [.lit (.bool false)], args := [d1, d2, d3, d4] }
  | _ => none }
def ChargeBillsWrongFalsely : Prop := chargeBillsRow.holds Tryz.pinned (OpenSpec.ofChange chargeBillsWrong)

/-- 'coulomblaw09.ChargeProofs': WHATEVER THE INPUT: true; the input reads as it did. -/
def chargeProofsSpec : ChangeSpec := { name := "chargeProofs", fn := fun _ => fun
  | [d1, d2, d3, d4] => { results := [.lit (.bool true)], args := [d1, d2, d3, d4] }
  | _ => none }
def chargeProofsRow : OpenClaim := { program := "ytlklnaebdnahcaagreat", sum := "567f138eaefa03c32b352316f1fdb1ef03880960d94370290b63003ce8901ce8", func := "coulomb/coulomblaw09.ChargeProofs", spec := "chargeProofs", unfollowed := true, recurses := true, plainKeys := false, apart := false }
def ChargeProofsSaid : Prop := chargeProofsRow.holds Tryz.pinned (OpenSpec.ofChange chargeProofsSpec)

/-- ITS FALSE NEIGHBOUR: 'it returns false'. Refute it at one input. -/
def chargeProofsWrong : ChangeSpec := { name := "chargeProofs", fn := fun _ => fun
  | [d1, d2, d3, d4] => { results := [.lit (.bool false)], args := [d1, d2, d3, d4] }
  | _ => none }
def ChargeProofsWrongFalsely : Prop := chargeProofsRow.holds Tryz.pinned (OpenSpec.ofChange chargeProofsWrong)

/- THE SECOND FORM. 'bulk': how many values and letters a reading holds, each counted each time it is reached (what is shared counts as often as it is met; a slice's spare places count too). A statement '..UptoSaid' is the law's where the arguments, and the package variables that the reading takes, are together of bulk at most 1048576: NARROWER than '..Said'. Prove '..Said' where nothing that the law and all that it calls make is longer than what came in: it says more and counts as full. Else prove '..UptoSaid'. A law counts once. -/
mutual
def uptoBulk {H : Type} : DataW H → Nat
  | .lit (.string bytes) => bytes.length + 1
  | .lit _ => 1
  | .nil => 1
  | .ptr d => uptoBulk d + 1
  | .slice elems spare => uptoBulkAll elems + uptoBulkAll spare + 1
  | .agg parts => uptoBulkAll parts + 1
  | .iface _ d => uptoBulk d + 1
  | .map entries => uptoBulkEntries entries + 1
  | .held _ => 1
def uptoBulkAll {H : Type} : List (DataW H) → Nat
  | [] => 0
  | d :: r => uptoBulk d + uptoBulkAll r
def uptoBulkEntries {H : Type} : List (Lit × DataW H) → Nat
  | [] => 0
  | x :: r => uptoBulkEntry x + uptoBulkEntries r
def uptoBulkEntry {H : Type} : Lit × DataW H → Nat
  | (.string bytes, d) => bytes.length + uptoBulk d + 1
  | (_, d) => uptoBulk d + 1
 end
def uptoSmall : (H : Type) → List (DataW H) → Bool := fun _ ds => decide (uptoBulkAll ds ≤ 1048576)
def OpenSpec.upto (s : _root_.Go.ChangeSpec) : _root_.Go.OpenSpec := { _root_.Go.OpenSpec.ofChange s with cond := some uptoSmall }

/-- 'coulomblaw09.ChargeNil', WHERE WHAT IT READS IS OF BULK AT MOST 1048576: true; the input reads as it did. -/
def chargeNilUptoRow : OpenClaim := { program := "ytlklnaebdnahcaagreat", sum := "567f138eaefa03c32b352316f1fdb1ef03880960d94370290b63003ce8901ce8", func := "coulomb/coulomblaw09.ChargeNil", spec := "chargeNil", inPlace := ["maps.clone"], unfollowed := true, recurses := true, plainKeys := false, apart := false, narrowed := true }
def ChargeNilUptoSaid : Prop := chargeNilUptoRow.holds Tryz.pinned (OpenSpec.upto chargeNilSpec)

/-- 'coulomblaw09.ChargePlays', WHERE WHAT IT READS IS OF BULK AT MOST 1048576: true; the input reads as it did. -/
def chargePlaysUptoRow : OpenClaim := { program := "ytlklnaebdnahcaagreat", sum := "567f138eaefa03c32b352316f1fdb1ef03880960d94370290b63003ce8901ce8", func := "coulomb/coulomblaw09.ChargePlays", spec := "chargePlays", inPlace := ["maps.clone"], unfollowed := true, recurses := true, plainKeys := false, apart := false, narrowed := true }
def ChargePlaysUptoSaid : Prop := chargePlaysUptoRow.holds Tryz.pinned (OpenSpec.upto chargePlaysSpec)

/-- 'coulomblaw09.ChargeBills', WHERE WHAT IT READS IS OF BULK AT MOST 1048576: true; the input reads as it did. -/
def chargeBillsUptoRow : OpenClaim := { program := "ytlklnaebdnahcaagreat", sum := "567f138eaefa03c32b352316f1fdb1ef03880960d94370290b63003ce8901ce8", func := "coulomb/coulomblaw09.ChargeBills", spec := "chargeBills", unfollowed := true, recurses := true, plainKeys := false, apart := false, narrowed := true }
def ChargeBillsUptoSaid : Prop := chargeBillsUptoRow.holds Tryz.pinned (OpenSpec.upto chargeBillsSpec)

/-- 'coulomblaw09.ChargeProofs', WHERE WHAT IT READS IS OF BULK AT MOST 1048576: true; the input reads as it did. -/
def chargeProofsUptoRow : OpenClaim := { program := "ytlklnaebdnahcaagreat", sum := "567f138eaefa03c32b352316f1fdb1ef03880960d94370290b63003ce8901ce8", func := "coulomb/coulomblaw09.ChargeProofs", spec := "chargeProofs", unfollowed := true, recurses := true, plainKeys := false, apart := false, narrowed := true }
def ChargeProofsUptoSaid : Prop := chargeProofsUptoRow.holds Tryz.pinned (OpenSpec.upto chargeProofsSpec)

end Rows
end Go.Proofs.YtlklnaebdnahcaaGreat
