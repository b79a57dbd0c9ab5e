/-
  No cell of these rows narrows 'for every input' (looked for: loops, veiled, ifaces, maps, wideKeys, modest, calm, conditions, laid).
  DERIVED. THE GIVEN ROWS OF THIS SEAT. 15 by the template 'for every input the law returns true; each argument reads behind the call as it read before'; 0 by the template 'total and deterministic' (their statements: YtcneohhfnnelgaaTotals.lean).
  GIVEN WITH THE SEED: the statements are not yours to turn. If you find one false, say at which input.
  Laid BY PROGRAM, IN A SANDBOX (cutbox-rows.mjs): the forced cells as the released guide's own fill.sh prints them over the translation dc5c118ff65ecf1a… (all of the seat's roots in one cut). By AI agents, Wed Nov 11 2026. No macro, syntax, notation, axiom, sorry.
-/
import Derived.Test.YtcneohhfnnelgaaChecked
import GoSem.Claim
import GoSem.ClaimJoined
import GoSem.ClaimMapViews
import Derived.JoinedTies
import Derived.KernelRfl
namespace Go.Proofs.Ytcneohhfnnelgaa
/- THE CELL 'sum', in the pinned program and in every row, IS THE sha256 OF THE DUMP (.gsa) THAT YtcneohhfnnelgaaProg.lean LOADS. Nothing in Lean hashes anything: it is a label: what it is worth is what the hold of that sum in a sandbox is worth. -/
noncomputable def Try.pinned : Pinned := { name := "ytcneohhfnnelgaa", sum := "dc5c118ff65ecf1a9b836e5f970a1adf1557eb0a6d8e50949cbb740219a08834", checked := Try.checked }
namespace Rows
def none {H : Type} : Left H := { results := [], args := [] }

/-- 'coulomblaw06.DriveDuties': WHATEVER THE INPUT: true; the input reads as it did. -/
def driveDutiesSpec : ChangeSpec := { name := "driveDuties", fn := fun _ => fun
  | [d1, d2] => { results := [.lit (.bool true)], args := [d1, d2] }
  | _ => none }
def driveDutiesRow : OpenClaim := { program := "ytcneohhfnnelgaa", sum := "dc5c118ff65ecf1a9b836e5f970a1adf1557eb0a6d8e50949cbb740219a08834", func := "coulomb/coulomblaw06.DriveDuties", spec := "driveDuties", apart := false }
def DriveDutiesSaid : Prop := driveDutiesRow.holds Try.pinned (OpenSpec.ofChange driveDutiesSpec)

/-- ITS FALSE NEIGHBOUR: 'it returns false'. Refute it at one input. -/
def driveDutiesWrong : ChangeSpec := { name := "driveDuties", fn := fun _ => fun
  | [d1, d2] => { results := [.lit (.bool false)], args := [d1, d2] }
  | _ => none }
def DriveDutiesWrongFalsely : Prop := driveDutiesRow.holds Try.pinned (OpenSpec.ofChange driveDutiesWrong)

/-- 'coulomblaw06.DriveBrakes': WHATEVER THE INPUT: true; the input reads as it did. -/
def driveBrakesSpec : ChangeSpec := { name := "driveBrakes", fn := fun _ => fun
  | [d1, d2, d3] => { results := [.lit (.bool true)], args := [d1, d2, d3] }
  | _ => none }
def driveBrakesRow : OpenClaim := { program := "ytcneohhfnnelgaa", sum := "dc5c118ff65ecf1a9b836e5f970a1adf1557eb0a6d8e50949cbb740219a08834", func := "coulomb/coulomblaw06.DriveBrakes", spec := "driveBrakes", apart := false }
def DriveBrakesSaid : Prop := driveBrakesRow.holds Try.pinned (OpenSpec.ofChange driveBrakesSpec)

/-- ITS FALSE NEIGHBOUR: 'it returns false'. Refute it at one input. -/
def driveBrakesWrong : ChangeSpec := { name := "driveBrakes", fn := fun _ => fun
  | [d1, d2, d3] => { results := [.lit (.bool false)], args := [d1, d2, d3] }
  | _ => none }
def DriveBrakesWrongFalsely : Prop := driveBrakesRow.holds Try.pinned (OpenSpec.ofChange driveBrakesWrong)

/-- 'coulomblaw06.DriveSines': WHATEVER THE INPUT: true; the input reads as it did. -/
def driveSinesSpec : ChangeSpec := { name := "driveSines", fn := fun _ => fun
  | [d] => { results := [.lit (.bool true)], args := [d] }
  | _ => none }
def driveSinesRow : OpenClaim := { program := "ytcneohhfnnelgaa", sum := "dc5c118ff65ecf1a9b836e5f970a1adf1557eb0a6d8e50949cbb740219a08834", func := "coulomb/coulomblaw06.DriveSines", spec := "driveSines", apart := false }
def DriveSinesSaid : Prop := driveSinesRow.holds Try.pinned (OpenSpec.ofChange driveSinesSpec)

/-- ITS FALSE NEIGHBOUR: 'it returns false'. Refute it at one input. -/
def driveSinesWrong : ChangeSpec := { name := "driveSines", fn := fun _ => fun
  | [d] => { results := [.lit (.bool false)], args := [d] }
  | _ => none }
def DriveSinesWrongFalsely : Prop := driveSinesRow.holds Try.pinned (OpenSpec.ofChange driveSinesWrong)

/-- 'coulomblaw06.DriveRegulates': WHATEVER THE INPUT: true; the input reads as it did. -/
def driveRegulatesSpec : ChangeSpec := { name := "driveRegulates", fn := fun _ => fun
  | [d1, d2, d3, d4] => { results := [.lit (.bool true)], args := [d1, d2, d3, d4] }
  | _ => none }
def driveRegulatesRow : OpenClaim := { program := "ytcneohhfnnelgaa", sum := "dc5c118ff65ecf1a9b836e5f970a1adf1557eb0a6d8e50949cbb740219a08834", func := "coulomb/coulomblaw06.DriveRegulates", spec := "driveRegulates", apart := false }
def DriveRegulatesSaid : Prop := driveRegulatesRow.holds Try.pinned (OpenSpec.ofChange driveRegulatesSpec)

/-- ITS FALSE NEIGHBOUR: 'it returns false'. Refute it at one input. -/
def driveRegulatesWrong : ChangeSpec := { name := "driveRegulates", fn := fun _ => fun
  | [d1, d2, d3, d4] => { results := [.lit (.bool false)], args := [d1, d2, d3, d4] }
  | _ => none }
def DriveRegulatesWrongFalsely : Prop := driveRegulatesRow.holds Try.pinned (OpenSpec.ofChange driveRegulatesWrong)

/-- 'coulomblaw06.DriveTurns': WHATEVER THE INPUT: true; the input reads as it did. -/
def driveTurnsSpec : ChangeSpec := { name := "driveTurns", fn := fun _ => fun
  | [d1, d2, d3, d4, d5] => { results := [.lit (.bool true)], args := [d1, d2, d3, d4, d5] }
  | _ => none }
def driveTurnsRow : OpenClaim := { program := "ytcneohhfnnelgaa", sum := "dc5c118ff65ecf1a9b836e5f970a1adf1557eb0a6d8e50949cbb740219a08834", func := "coulomb/coulomblaw06.DriveTurns", spec := "driveTurns", recurses := true, apart := false }
def DriveTurnsSaid : Prop := driveTurnsRow.holds Try.pinned (OpenSpec.ofChange driveTurnsSpec)

/-- ITS FALSE NEIGHBOUR: 'it returns false'. Refute it at one input. -/
def driveTurnsWrong : ChangeSpec := { name := "driveTurns", fn := fun _ => fun
  | [d1, d2, d3, d4, d5] => { results := [.lit (.bool false)], args := [d1, d2, d3, d4, d5] }
  | _ => none }
def DriveTurnsWrongFalsely : Prop := driveTurnsRow.holds Try.pinned (OpenSpec.ofChange driveTurnsWrong)

/-- 'coulomblaw06.DriveBlends': WHATEVER THE INPUT: true; the input reads as it did. -/
def driveBlendsSpec : ChangeSpec := { name := "driveBlends", fn := fun _ => fun
  | [d1, d2, d3, d4, d5] => { results := [.lit (.bool true)], args := [d1, d2, d3, d4, d5] }
  | _ => none }
def driveBlendsRow : OpenClaim := { program := "ytcneohhfnnelgaa", sum := "dc5c118ff65ecf1a9b836e5f970a1adf1557eb0a6d8e50949cbb740219a08834", func := "coulomb/coulomblaw06.DriveBlends", spec := "driveBlends", unfollowed := true, recurses := true, apart := false }
def DriveBlendsSaid : Prop := driveBlendsRow.holds Try.pinned (OpenSpec.ofChange driveBlendsSpec)

/-- ITS FALSE NEIGHBOUR: 'it returns false'. Refute it at one input. -/
def driveBlendsWrong : ChangeSpec := { name := "driveBlends", fn := fun _ => fun
  | [d1, d2, d3, d4, d5] => { results := [.lit (.bool false)], args := [d1, d2, d3, d4, d5] }
  | _ => none }
def DriveBlendsWrongFalsely : Prop := driveBlendsRow.holds Try.pinned (OpenSpec.ofChange driveBlendsWrong)

/-- 'coulomblaw06.DriveShares': WHATEVER THE INPUT: true; the input reads as it did. -/
def driveSharesSpec : ChangeSpec := { name := "driveShares", fn := fun _ => fun
  | [d1, d2, d3] => { results := [.lit (.bool true)], args := [d1, d2, d3] }
  | _ => none }
def driveSharesRow : OpenClaim := { program := "ytcneohhfnnelgaa", sum := "dc5c118ff65ecf1a9b836e5f970a1adf1557eb0a6d8e50949cbb740219a08834", func := "coulomb/coulomblaw06.DriveShares", spec := "driveShares", unfollowed := true, recurses := true, apart := false }
def DriveSharesSaid : Prop := driveSharesRow.holds Try.pinned (OpenSpec.ofChange driveSharesSpec)

/-- ITS FALSE NEIGHBOUR: 'it returns false'. Refute it at one input. -/
def driveSharesWrong : ChangeSpec := { name := "driveShares", fn := fun _ => fun
  | [d1, d2, d3] => { results := [.lit (.bool false)], args := [d1, d2, d3] }
  | _ => none }
def DriveSharesWrongFalsely : Prop := driveSharesRow.holds Try.pinned (OpenSpec.ofChange driveSharesWrong)

/-- 'coulomblaw06.DriveWeakens': WHATEVER THE INPUT: true; the input reads as it did. -/
def driveWeakensSpec : ChangeSpec := { name := "driveWeakens", fn := fun _ => fun
  | [d1, d2, d3, d4, d5] => { results := [.lit (.bool true)], args := [d1, d2, d3, d4, d5] }
  | _ => none }
def driveWeakensRow : OpenClaim := { program := "ytcneohhfnnelgaa", sum := "dc5c118ff65ecf1a9b836e5f970a1adf1557eb0a6d8e50949cbb740219a08834", func := "coulomb/coulomblaw06.DriveWeakens", spec := "driveWeakens", unfollowed := true, recurses := true, apart := false }
def DriveWeakensSaid : Prop := driveWeakensRow.holds Try.pinned (OpenSpec.ofChange driveWeakensSpec)

/-- ITS FALSE NEIGHBOUR: 'it returns false'. Refute it at one input. -/
def driveWeakensWrong : ChangeSpec := { name := "driveWeakens", fn := fun _ => fun
  | [d1, d2, d3, d4, d5] => { results := [.lit (.bool false)], args := [d1, d2, d3, d4, d5] }
  | _ => none }
def DriveWeakensWrongFalsely : Prop := driveWeakensRow.holds Try.pinned (OpenSpec.ofChange driveWeakensWrong)

/-- 'coulomblaw06.DriveMotors': WHATEVER THE INPUT: true; the input reads as it did. -/
def driveMotorsSpec : ChangeSpec := { name := "driveMotors", fn := fun _ => fun
  | [d1, d2, d3, d4, d5, d6] => { results := [.lit (.bool true)], args := [d1, d2, d3, d4, d5, d6] }
  | _ => none }
def driveMotorsRow : OpenClaim := { program := "ytcneohhfnnelgaa", sum := "dc5c118ff65ecf1a9b836e5f970a1adf1557eb0a6d8e50949cbb740219a08834", func := "coulomb/coulomblaw06.DriveMotors", spec := "driveMotors", apart := false }
def DriveMotorsSaid : Prop := driveMotorsRow.holds Try.pinned (OpenSpec.ofChange driveMotorsSpec)

/-- ITS FALSE NEIGHBOUR: 'it returns false'. Refute it at one input. -/
def driveMotorsWrong : ChangeSpec := { name := "driveMotors", fn := fun _ => fun
  | [d1, d2, d3, d4, d5, d6] => { results := [.lit (.bool false)], args := [d1, d2, d3, d4, d5, d6] }
  | _ => none }
def DriveMotorsWrongFalsely : Prop := driveMotorsRow.holds Try.pinned (OpenSpec.ofChange driveMotorsWrong)

/-- 'coulomblaw06.DriveFits': WHATEVER THE INPUT: true; the input reads as it did. -/
def driveFitsSpec : ChangeSpec := { name := "driveFits", fn := fun _ => fun
  | [d1, d2, d3, d4, d5, d6] => { results := [.lit (.bool true)], args := [d1, d2, d3, d4, d5, d6] }
  | _ => none }
def driveFitsRow : OpenClaim := { program := "ytcneohhfnnelgaa", sum := "dc5c118ff65ecf1a9b836e5f970a1adf1557eb0a6d8e50949cbb740219a08834", func := "coulomb/coulomblaw06.DriveFits", spec := "driveFits", unfollowed := true, recurses := true, apart := false }
def DriveFitsSaid : Prop := driveFitsRow.holds Try.pinned (OpenSpec.ofChange driveFitsSpec)

/-- ITS FALSE NEIGHBOUR: 'it returns false'. Refute it at one input. -/
def driveFitsWrong : ChangeSpec := { name := "driveFits", fn := fun _ => fun
  | [d1, d2, d3, d4, d5, d6] => { results := [.lit (.bool false)], args := [d1, d2, d3, d4, d5, d6] }
  | _ => none }
def DriveFitsWrongFalsely : Prop := driveFitsRow.holds Try.pinned (OpenSpec.ofChange driveFitsWrong)

/-- 'coulomblaw06.DriveLimits': WHATEVER THE INPUT: true; the input reads as it did. -/
def driveLimitsSpec : ChangeSpec := { name := "driveLimits", fn := fun _ => fun
  | [d1, d2, d3, d4, d5, d6] => { results := [.lit (.bool true)], args := [d1, d2, d3, d4, d5, d6] }
  | _ => none }
def driveLimitsRow : OpenClaim := { program := "ytcneohhfnnelgaa", sum := "dc5c118ff65ecf1a9b836e5f970a1adf1557eb0a6d8e50949cbb740219a08834", func := "coulomb/coulomblaw06.DriveLimits", spec := "driveLimits", apart := false }
def DriveLimitsSaid : Prop := driveLimitsRow.holds Try.pinned (OpenSpec.ofChange driveLimitsSpec)

/-- ITS FALSE NEIGHBOUR: 'it returns false'. Refute it at one input. -/
def driveLimitsWrong : ChangeSpec := { name := "driveLimits", fn := fun _ => fun
  | [d1, d2, d3, d4, d5, d6] => { results := [.lit (.bool false)], args := [d1, d2, d3, d4, d5, d6] }
  | _ => none }
def DriveLimitsWrongFalsely : Prop := driveLimitsRow.holds Try.pinned (OpenSpec.ofChange driveLimitsWrong)

/-- 'coulomblaw06.DriveKnown': WHATEVER THE INPUT: true; the input reads as it did. -/
def driveKnownSpec : ChangeSpec := { name := "driveKnown", fn := fun _ => fun
  | [] => { results := [.lit (.bool true)], args := [] }
  | _ => none }
def driveKnownRow : OpenClaim := { program := "ytcneohhfnnelgaa", sum := "dc5c118ff65ecf1a9b836e5f970a1adf1557eb0a6d8e50949cbb740219a08834", func := "coulomb/coulomblaw06.DriveKnown", spec := "driveKnown", unfollowed := true, recurses := true, apart := false }
def DriveKnownSaid : Prop := driveKnownRow.holds Try.pinned (OpenSpec.ofChange driveKnownSpec)

/-- ITS FALSE NEIGHBOUR: 'it returns false'. Refute it at one input. -/
def driveKnownWrong : ChangeSpec := { name := "driveKnown", fn := fun _ => fun
  | [] => { results := [.lit (.bool false)], args := [] }
  | _ => none }
def DriveKnownWrongFalsely : Prop := driveKnownRow.holds Try.pinned (OpenSpec.ofChange driveKnownWrong)

/-- 'coulomblaw06.DriveSafe': WHATEVER THE INPUT: true; the input reads as it did. -/
def driveSafeSpec : ChangeSpec := { name := "driveSafe", fn := fun _ => fun
  | [d1, d2, d3, d4, d5] => { results := [.lit (.bool true)], args := [d1, d2, d3, d4, d5] }
  | _ => none }
def driveSafeRow : OpenClaim := { program := "ytcneohhfnnelgaa", sum := "dc5c118ff65ecf1a9b836e5f970a1adf1557eb0a6d8e50949cbb740219a08834", func := "coulomb/coulomblaw06.DriveSafe", spec := "driveSafe", apart := false }
def DriveSafeSaid : Prop := driveSafeRow.holds Try.pinned (OpenSpec.ofChange driveSafeSpec)

/-- ITS FALSE NEIGHBOUR: 'it returns false'. Refute it at one input. -/
def driveSafeWrong : ChangeSpec := { name := "driveSafe", fn := fun _ => fun
  | [d1, d2, d3, d4, d5] => { results := [.lit (.bool false)], args := [d1, d2, d3, d4, d5] }
  | _ => none }
def DriveSafeWrongFalsely : Prop := driveSafeRow.holds Try.pinned (OpenSpec.ofChange driveSafeWrong)

/-- 'coulomblaw06.DrivePlays': WHATEVER THE INPUT: true; the input reads as it did. -/
def drivePlaysSpec : ChangeSpec := { name := "drivePlays", fn := fun _ => fun
  | [d] => { results := [.lit (.bool true)], args := [d] }
  | _ => none }
def drivePlaysRow : OpenClaim := { program := "ytcneohhfnnelgaa", sum := "dc5c118ff65ecf1a9b836e5f970a1adf1557eb0a6d8e50949cbb740219a08834", func := "coulomb/coulomblaw06.DrivePlays", spec := "drivePlays", unfollowed := true, recurses := true, apart := false }
def DrivePlaysSaid : Prop := drivePlaysRow.holds Try.pinned (OpenSpec.ofChange drivePlaysSpec)

/-- ITS FALSE NEIGHBOUR: 'it returns false'. Refute it at one input. -/
def drivePlaysWrong : ChangeSpec := { name := "drivePlays", fn := fun _ => fun
  | [d] => { results := [.lit (.bool false)], args := [d] }
  | _ => none }
def DrivePlaysWrongFalsely : Prop := drivePlaysRow.holds Try.pinned (OpenSpec.ofChange drivePlaysWrong)

/-- 'coulomblaw06.DriveHolds': WHATEVER THE INPUT: true; the input reads as it did. -/
def driveHoldsSpec : ChangeSpec := { name := "driveHolds", fn := fun _ => fun
  | [d1, d2, d3] => { results := [.lit (.bool true)], args := [d1, d2, d3] }
  | _ => none }
def driveHoldsRow : OpenClaim := { program := "ytcneohhfnnelgaa", sum := "dc5c118ff65ecf1a9b836e5f970a1adf1557eb0a6d8e50949cbb740219a08834", func := "coulomb/coulomblaw06.DriveHolds", spec := "driveHolds", unfollowed := true, recurses := true, apart := false }
def DriveHoldsSaid : Prop := driveHoldsRow.holds Try.pinned (OpenSpec.ofChange driveHoldsSpec)

/-- ITS FALSE NEIGHBOUR: 'it returns false'. Refute it at one input. -/
def driveHoldsWrong : ChangeSpec := { name := "driveHolds", fn := fun _ => fun
  | [d1, d2, d3] => { results := [.lit (.bool false)], args := [d1, d2, d3] }
  | _ => none }
def DriveHoldsWrongFalsely : Prop := driveHoldsRow.holds Try.pinned (OpenSpec.ofChange driveHoldsWrong)

/- THE SECOND FORM. 'bulk': how many values and letters a reading holds, each counted each time it is reached (what is shared counts as often as it is met; a slice's spare places count too). A statement '..UptoSaid' is the law's where the arguments, and the package variables that the reading takes, are together of bulk at most 1048576: NARROWER than '..Said'. Prove '..Said' where nothing that the law and all that it calls make is longer than what came in: it says more and counts as full. Else prove '..UptoSaid'. A law counts once. -/
mutual
def uptoBulk {H : Type} : DataW H → Nat
  | .lit (.string bytes) => bytes.length + 1
  | .lit _ => 1
  | .nil => 1
  | .ptr d => uptoBulk d + 1
  | .slice elems spare => uptoBulkAll elems + uptoBulkAll spare + 1
  | .agg parts => uptoBulkAll parts + 1
  | .iface _ d => uptoBulk d + 1
  | .map entries => uptoBulkEntries entries + 1
  | .held _ => 1
def uptoBulkAll {H : Type} : List (DataW H) → Nat
  | [] => 0
  | d :: r => uptoBulk d + uptoBulkAll r
def uptoBulkEntries {H : Type} : List (Lit × DataW H) → Nat
  | [] => 0
  | x :: r => uptoBulkEntry x + uptoBulkEntries r
def uptoBulkEntry {H : Type} : Lit × DataW H → Nat
  | (.string bytes, d) => bytes.length + uptoBulk d + 1
  | (_, d) => uptoBulk d + 1
 end
def uptoSmall : (H : Type) → List (DataW H) → Bool := fun _ ds => decide (uptoBulkAll ds ≤ 1048576)
def OpenSpec.upto (s : _root_.Go.ChangeSpec) : _root_.Go.OpenSpec := { _root_.Go.OpenSpec.ofChange s with cond := some uptoSmall }

/-- 'coulomblaw06.DriveDuties', WHERE WHAT IT READS IS OF BULK AT MOST 1048576: true; the input reads as it did. -/
def driveDutiesUptoRow : OpenClaim := { program := "ytcneohhfnnelgaa", sum := "dc5c118ff65ecf1a9b836e5f970a1adf1557eb0a6d8e50949cbb740219a08834", func := "coulomb/coulomblaw06.DriveDuties", spec := "driveDuties", apart := false, narrowed := true }
def DriveDutiesUptoSaid : Prop := driveDutiesUptoRow.holds Try.pinned (OpenSpec.upto driveDutiesSpec)

/-- 'coulomblaw06.DriveBrakes', WHERE WHAT IT READS IS OF BULK AT MOST 1048576: true; the input reads as it did. -/
def driveBrakesUptoRow : OpenClaim := { program := "ytcneohhfnnelgaa", sum := "dc5c118ff65ecf1a9b836e5f970a1adf1557eb0a6d8e50949cbb740219a08834", func := "coulomb/coulomblaw06.DriveBrakes", spec := "driveBrakes", apart := false, narrowed := true }
def DriveBrakesUptoSaid : Prop := driveBrakesUptoRow.holds Try.pinned (OpenSpec.upto driveBrakesSpec)

/-- 'coulomblaw06.DriveSines', WHERE WHAT IT READS IS OF BULK AT MOST 1048576: true; the input reads as it did. -/
def driveSinesUptoRow : OpenClaim := { program := "ytcneohhfnnelgaa", sum := "dc5c118ff65ecf1a9b836e5f970a1adf1557eb0a6d8e50949cbb740219a08834", func := "coulomb/coulomblaw06.DriveSines", spec := "driveSines", apart := false, narrowed := true }
def DriveSinesUptoSaid : Prop := driveSinesUptoRow.holds Try.pinned (OpenSpec.upto driveSinesSpec)

/-- 'coulomblaw06.DriveRegulates', WHERE WHAT IT READS IS OF BULK AT MOST 1048576: true; the input reads as it did. -/
def driveRegulatesUptoRow : OpenClaim := { program := "ytcneohhfnnelgaa", sum := "dc5c118ff65ecf1a9b836e5f970a1adf1557eb0a6d8e50949cbb740219a08834", func := "coulomb/coulomblaw06.DriveRegulates", spec := "driveRegulates", apart := false, narrowed := true }
def DriveRegulatesUptoSaid : Prop := driveRegulatesUptoRow.holds Try.pinned (OpenSpec.upto driveRegulatesSpec)

/-- 'coulomblaw06.DriveTurns', WHERE WHAT IT READS IS OF BULK AT MOST 1048576: true; the input reads as it did. -/
def driveTurnsUptoRow : OpenClaim := { program := "ytcneohhfnnelgaa", sum := "dc5c118ff65ecf1a9b836e5f970a1adf1557eb0a6d8e50949cbb740219a08834", func := "coulomb/coulomblaw06.DriveTurns", spec := "driveTurns", recurses := true, apart := false, narrowed := true }
def DriveTurnsUptoSaid : Prop := driveTurnsUptoRow.holds Try.pinned (OpenSpec.upto driveTurnsSpec)

/-- 'coulomblaw06.DriveBlends', WHERE WHAT IT READS IS OF BULK AT MOST 1048576: true; the input reads as it did. -/
def driveBlendsUptoRow : OpenClaim := { program := "ytcneohhfnnelgaa", sum := "dc5c118ff65ecf1a9b836e5f970a1adf1557eb0a6d8e50949cbb740219a08834", func := "coulomb/coulomblaw06.DriveBlends", spec := "driveBlends", unfollowed := true, recurses := true, apart := false, narrowed := true }
def DriveBlendsUptoSaid : Prop := driveBlendsUptoRow.holds Try.pinned (OpenSpec.upto driveBlendsSpec)

/-- 'coulomblaw06.DriveShares', WHERE WHAT IT READS IS OF BULK AT MOST 1048576: true; the input reads as it did. -/
def driveSharesUptoRow : OpenClaim := { program := "ytcneohhfnnelgaa", sum := "dc5c118ff65ecf1a9b836e5f970a1adf1557eb0a6d8e50949cbb740219a08834", func := "coulomb/coulomblaw06.DriveShares", spec := "driveShares", unfollowed := true, recurses := true, apart := false, narrowed := true }
def DriveSharesUptoSaid : Prop := driveSharesUptoRow.holds Try.pinned (OpenSpec.upto driveSharesSpec)

/-- 'coulomblaw06.DriveWeakens', WHERE WHAT IT READS IS OF BULK AT MOST 1048576: true; the input reads as it did. -/
def driveWeakensUptoRow : OpenClaim := { program := "ytcneohhfnnelgaa", sum := "dc5c118ff65ecf1a9b836e5f970a1adf1557eb0a6d8e50949cbb740219a08834", func := "coulomb/coulomblaw06.DriveWeakens", spec := "driveWeakens", unfollowed := true, recurses := true, apart := false, narrowed := true }
def DriveWeakensUptoSaid : Prop := driveWeakensUptoRow.holds Try.pinned (OpenSpec.upto driveWeakensSpec)

/-- 'coulomblaw06.DriveMotors', WHERE WHAT IT READS IS OF BULK AT MOST 1048576: true; the input reads as it did. -/
def driveMotorsUptoRow : OpenClaim := { program := "ytcneohhfnnelgaa", sum := "dc5c118ff65ecf1a9b836e5f970a1adf1557eb0a6d8e50949cbb740219a08834", func := "coulomb/coulomblaw06.DriveMotors", spec := "driveMotors", apart := false, narrowed := true }
def DriveMotorsUptoSaid : Prop := driveMotorsUptoRow.holds Try.pinned (OpenSpec.upto driveMotorsSpec)

/-- 'coulomblaw06.DriveFits', WHERE WHAT IT READS IS OF BULK AT MOST 1048576: true; the input reads as it did. -/
def driveFitsUptoRow : OpenClaim := { program := "ytcneohhfnnelgaa", sum := "dc5c118ff65ecf1a9b836e5f970a1adf1557eb0a6d8e50949cbb740219a08834", func := "coulomb/coulomblaw06.DriveFits", spec := "driveFits", unfollowed := true, recurses := true, apart := false, narrowed := true }
def DriveFitsUptoSaid : Prop := driveFitsUptoRow.holds Try.pinned (OpenSpec.upto driveFitsSpec)

/-- 'coulomblaw06.DriveLimits', WHERE WHAT IT READS IS OF BULK AT MOST 1048576: true; the input reads as it did. -/
def driveLimitsUptoRow : OpenClaim := { program := "ytcneohhfnnelgaa", sum := "dc5c118ff65ecf1a9b836e5f970a1adf1557eb0a6d8e50949cbb740219a08834", func := "coulomb/coulomblaw06.DriveLimits", spec := "driveLimits", apart := false, narrowed := true }
def DriveLimitsUptoSaid : Prop := driveLimitsUptoRow.holds Try.pinned (OpenSpec.upto driveLimitsSpec)

/-- 'coulomblaw06.DriveKnown', WHERE WHAT IT READS IS OF BULK AT MOST 1048576: true; the input reads as it did. -/
def driveKnownUptoRow : OpenClaim := { program := "ytcneohhfnnelgaa", sum := "dc5c118ff65ecf1a9b836e5f970a1adf1557eb0a6d8e50949cbb740219a08834", func := "coulomb/coulomblaw06.DriveKnown", spec := "driveKnown", unfollowed := true, recurses := true, apart := false, narrowed := true }
def DriveKnownUptoSaid : Prop := driveKnownUptoRow.holds Try.pinned (OpenSpec.upto driveKnownSpec)

/-- 'coulomblaw06.DriveSafe', WHERE WHAT IT READS IS OF BULK AT MOST 1048576: true; the input reads as it did. -/
def driveSafeUptoRow : OpenClaim := { program := "ytcneohhfnnelgaa", sum := "dc5c118ff65ecf1a9b836e5f970a1adf1557eb0a6d8e50949cbb740219a08834", func := "coulomb/coulomblaw06.DriveSafe", spec := "driveSafe", apart := false, narrowed := true }
def DriveSafeUptoSaid : Prop := driveSafeUptoRow.holds Try.pinned (OpenSpec.upto driveSafeSpec)

/-- 'coulomblaw06.DrivePlays', WHERE WHAT IT READS IS OF BULK AT MOST 1048576: true; the input reads as it did. -/
def drivePlaysUptoRow : OpenClaim := { program := "ytcneohhfnnelgaa", sum := "dc5c118ff65ecf1a9b836e5f970a1adf1557eb0a6d8e50949cbb740219a08834", func := "coulomb/coulomblaw06.DrivePlays", spec := "drivePlays", unfollowed := true, recurses := true, apart := false, narrowed := true }
def DrivePlaysUptoSaid : Prop := drivePlaysUptoRow.holds Try.pinned (OpenSpec.upto drivePlaysSpec)

/-- 'coulomblaw06.DriveHolds', WHERE WHAT IT READS IS OF BULK AT MOST 1048576: true; the input reads as it did. -/
def driveHoldsUptoRow : OpenClaim := { program := "ytcneohhfnnelgaa", sum := "dc5c118ff65ecf1a9b836e5f970a1adf1557eb0a6d8e50949cbb740219a08834", func := "coulomb/coulomblaw06.DriveHolds", spec := "driveHolds", unfollowed := true, recurses := true, apart := false, narrowed := true }
def DriveHoldsUptoSaid : Prop := driveHoldsUptoRow.holds Try.pinned (OpenSpec.upto driveHoldsSpec)

end Rows
end Go.Proofs.Ytcneohhfnnelgaa
