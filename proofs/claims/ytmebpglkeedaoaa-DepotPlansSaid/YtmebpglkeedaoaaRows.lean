/-
  No cell of these rows narrows 'for every input' (looked for: loops, veiled, ifaces, maps, wideKeys, modest, calm, conditions, laid).
  DERIVED. THE GIVEN ROWS OF THIS SEAT. 9 by the template 'for every input the law returns true; each argument reads behind the call as it read before'; 0 by the template 'total and deterministic' (their statements: YtmebpglkeedaoaaTotals.lean).
  GIVEN WITH THE SEED: the statements are not yours to turn. If you find one false, say at which input.
  Laid BY PROGRAM, IN A SANDBOX (cutbox-rows.mjs): the forced cells as the released guide's own fill.sh prints them over the translation de3432308406250d… (all of the seat's roots in one cut). By AI agents, Wed Nov 11 2026. No macro, syntax, notation, axiom, sorry.
-/
import Derived.Test.YtmebpglkeedaoaaChecked
import GoSem.Claim
import GoSem.ClaimJoined
import GoSem.ClaimMapViews
import Derived.JoinedTies
import Derived.KernelRfl
namespace Go.Proofs.Ytmebpglkeedaoaa
/- THE CELL 'sum', in the pinned program and in every row, IS THE sha256 OF THE DUMP (.gsa) THAT YtmebpglkeedaoaaProg.lean LOADS. Nothing in Lean hashes anything: it is a label: what it is worth is what the hold of that sum in a sandbox is worth. -/
noncomputable def Try.pinned : Pinned := { name := "ytmebpglkeedaoaa", sum := "de3432308406250d0aeff1b87bdfe56d50694d2f91d530a1024705e1ab7ce355", checked := Try.checked }
namespace Rows
def none {H : Type} : Left H := { results := [], args := [] }

/-- 'coulomblaw08.DepotNets': WHATEVER THE INPUT: true; the input reads as it did. -/
def depotNetsSpec : ChangeSpec := { name := "depotNets", fn := fun _ => fun
  | [d1, d2, d3, d4] => { results := [.lit (.bool true)], args := [d1, d2, d3, d4] }
  | _ => none }
def depotNetsRow : OpenClaim := { program := "ytmebpglkeedaoaa", sum := "de3432308406250d0aeff1b87bdfe56d50694d2f91d530a1024705e1ab7ce355", func := "coulomb/coulomblaw08.DepotNets", spec := "depotNets", unfollowed := true, recurses := true, apart := false }
def DepotNetsSaid : Prop := depotNetsRow.holds Try.pinned (OpenSpec.ofChange depotNetsSpec)

/-- ITS FALSE NEIGHBOUR: 'it returns false'. Refute it at one input. -/
def depotNetsWrong : ChangeSpec := { name := "depotNets", fn := fun _ => fun
  | [d1, d2, d3, d4] => { results := [.lit (.bool false)], args := [d1, d2, d3, d4] }
  | _ => none }
def DepotNetsWrongFalsely : Prop := depotNetsRow.holds Try.pinned (OpenSpec.ofChange depotNetsWrong)

/-- 'coulomblaw08.DepotNotBeaten': WHATEVER THE INPUT: true; the input reads as it did. -/
def depotNotBeatenSpec : ChangeSpec := { name := "depotNotBeaten", fn := fun _ => fun
  | [d1, d2, d3, d4] => { results := [.lit (.bool true)], args := [d1, d2, d3, d4] }
  | _ => none }
def depotNotBeatenRow : OpenClaim := { program := "ytmebpglkeedaoaa", sum := "de3432308406250d0aeff1b87bdfe56d50694d2f91d530a1024705e1ab7ce355", func := "coulomb/coulomblaw08.DepotNotBeaten", spec := "depotNotBeaten", unfollowed := true, recurses := true, apart := false }
def DepotNotBeatenSaid : Prop := depotNotBeatenRow.holds Try.pinned (OpenSpec.ofChange depotNotBeatenSpec)

/-- ITS FALSE NEIGHBOUR: 'it returns false'. Refute it at one input. -/
def depotNotBeatenWrong : ChangeSpec := { name := "depotNotBeaten", fn := fun _ => fun
  | [d1, d2, d3, d4] => { results := [.lit (.bool false)], args := [d1, d2, d3, d4] }
  | _ => none }
def DepotNotBeatenWrongFalsely : Prop := depotNotBeatenRow.holds Try.pinned (OpenSpec.ofChange depotNotBeatenWrong)

/-- 'coulomblaw08.DepotLeast': WHATEVER THE INPUT: true; the input reads as it did. -/
def depotLeastSpec : ChangeSpec := { name := "depotLeast", fn := fun _ => fun
  | [d] => { results := [.lit (.bool true)], args := [d] }
  | _ => none }
def depotLeastRow : OpenClaim := { program := "ytmebpglkeedaoaa", sum := "de3432308406250d0aeff1b87bdfe56d50694d2f91d530a1024705e1ab7ce355", func := "coulomb/coulomblaw08.DepotLeast", spec := "depotLeast", unfollowed := true, recurses := true, apart := false }
def DepotLeastSaid : Prop := depotLeastRow.holds Try.pinned (OpenSpec.ofChange depotLeastSpec)

/-- ITS FALSE NEIGHBOUR: 'it returns false'. Refute it at one input. -/
def depotLeastWrong : ChangeSpec := { name := "depotLeast", fn := fun _ => fun
  | [d] => { results := [.lit (.bool false)], args := [d] }
  | _ => none }
def DepotLeastWrongFalsely : Prop := depotLeastRow.holds Try.pinned (OpenSpec.ofChange depotLeastWrong)

/-- 'coulomblaw08.DepotLimits': WHATEVER THE INPUT: true; the input reads as it did. -/
def depotLimitsSpec : ChangeSpec := { name := "depotLimits", fn := fun _ => fun
  | [d1, d2, d3] => { results := [.lit (.bool true)], args := [d1, d2, d3] }
  | _ => none }
def depotLimitsRow : OpenClaim := { program := "ytmebpglkeedaoaa", sum := "de3432308406250d0aeff1b87bdfe56d50694d2f91d530a1024705e1ab7ce355", func := "coulomb/coulomblaw08.DepotLimits", spec := "depotLimits", unfollowed := true, recurses := true, apart := false }
def DepotLimitsSaid : Prop := depotLimitsRow.holds Try.pinned (OpenSpec.ofChange depotLimitsSpec)

/-- ITS FALSE NEIGHBOUR: 'it returns false'. Refute it at one input. -/
def depotLimitsWrong : ChangeSpec := { name := "depotLimits", fn := fun _ => fun
  | [d1, d2, d3] => { results := [.lit (.bool false)], args := [d1, d2, d3] }
  | _ => none }
def DepotLimitsWrongFalsely : Prop := depotLimitsRow.holds Try.pinned (OpenSpec.ofChange depotLimitsWrong)

/-- 'coulomblaw08.DepotSites': WHATEVER THE INPUT: true; the input reads as it did. -/
def depotSitesSpec : ChangeSpec := { name := "depotSites", fn := fun _ => fun
  | [d1, d2, d3] => { results := [.lit (.bool true)], args := [d1, d2, d3] }
  | _ => none }
def depotSitesRow : OpenClaim := { program := "ytmebpglkeedaoaa", sum := "de3432308406250d0aeff1b87bdfe56d50694d2f91d530a1024705e1ab7ce355", func := "coulomb/coulomblaw08.DepotSites", spec := "depotSites", unfollowed := true, recurses := true, apart := false }
def DepotSitesSaid : Prop := depotSitesRow.holds Try.pinned (OpenSpec.ofChange depotSitesSpec)

/-- ITS FALSE NEIGHBOUR: 'it returns false'. Refute it at one input. -/
def depotSitesWrong : ChangeSpec := { name := "depotSites", fn := fun _ => fun
  | [d1, d2, d3] => { results := [.lit (.bool false)], args := [d1, d2, d3] }
  | _ => none }
def DepotSitesWrongFalsely : Prop := depotSitesRow.holds Try.pinned (OpenSpec.ofChange depotSitesWrong)

/-- 'coulomblaw08.DepotChecks': WHATEVER THE INPUT: true; the input reads as it did. -/
def depotChecksSpec : ChangeSpec := { name := "depotChecks", fn := fun _ => fun
  | [d1, d2, d3, d4, d5, d6] => { results := [.lit (.bool true)], args := [d1, d2, d3, d4, d5, d6] }
  | _ => none }
def depotChecksRow : OpenClaim := { program := "ytmebpglkeedaoaa", sum := "de3432308406250d0aeff1b87bdfe56d50694d2f91d530a1024705e1ab7ce355", func := "coulomb/coulomblaw08.DepotChecks", spec := "depotChecks", unfollowed := true, recurses := true, apart := false }
def DepotChecksSaid : Prop := depotChecksRow.holds Try.pinned (OpenSpec.ofChange depotChecksSpec)

/-- ITS FALSE NEIGHBOUR: 'it returns false'. Refute it at one input. -/
def depotChecksWrong : ChangeSpec := { name := "depotChecks", fn := fun _ => fun
  | [d1, d2, d3, d4, d5, d6] => { results := [.lit (.bool false)], args := [d1, d2, d3, d4, d5, d6] }
  | _ => none }
def DepotChecksWrongFalsely : Prop := depotChecksRow.holds Try.pinned (OpenSpec.ofChange depotChecksWrong)

/-- 'coulomblaw08.DepotMore': WHATEVER THE INPUT: true; the input reads as it did. -/
def depotMoreSpec : ChangeSpec := { name := "depotMore", fn := fun _ => fun
  | [d1, d2, d3, d4, d5] => { results := [.lit (.bool true)], args := [d1, d2, d3, d4, d5] }
  | _ => none }
def depotMoreRow : OpenClaim := { program := "ytmebpglkeedaoaa", sum := "de3432308406250d0aeff1b87bdfe56d50694d2f91d530a1024705e1ab7ce355", func := "coulomb/coulomblaw08.DepotMore", spec := "depotMore", unfollowed := true, recurses := true, apart := false }
def DepotMoreSaid : Prop := depotMoreRow.holds Try.pinned (OpenSpec.ofChange depotMoreSpec)

/-- ITS FALSE NEIGHBOUR: 'it returns false'. Refute it at one input. -/
def depotMoreWrong : ChangeSpec := { name := "depotMore", fn := fun _ => fun
  | [d1, d2, d3, d4, d5] => { results := [.lit (.bool false)], args := [d1, d2, d3, d4, d5] }
  | _ => none }
def DepotMoreWrongFalsely : Prop := depotMoreRow.holds Try.pinned (OpenSpec.ofChange depotMoreWrong)

/-- 'coulomblaw08.DepotPlans': WHATEVER THE INPUT: true; the input reads as it did. -/
def depotPlansSpec : ChangeSpec := { name := "depotPlans", fn := fun _ => fun
  | [d1, d2] => { results := [.lit (.bool true)], args := [d1, d2] }
  | _ => none }
def depotPlansRow : OpenClaim := { program := "ytmebpglkeedaoaa", sum := "de3432308406250d0aeff1b87bdfe56d50694d2f91d530a1024705e1ab7ce355", func := "coulomb/coulomblaw08.DepotPlans", spec := "depotPlans", unfollowed := true, recurses := true, apart := false }
def DepotPlansSaid : Prop := depotPlansRow.holds Try.pinned (OpenSpec.ofChange depotPlansSpec)

/-- ITS FALSE NEIGHBOUR: 'it returns false'. Refute it at one input. -/
def depotPlansWrong : ChangeSpec := { name := "depotPlans", fn := fun _ => fun
  | [d1, d2] => { results := [.lit (.bool false)], args := [d1, d2] }
  | _ => none }
def DepotPlansWrongFalsely : Prop := depotPlansRow.holds Try.pinned (OpenSpec.ofChange depotPlansWrong)

/-- 'coulomblaw08.DepotKnown': WHATEVER THE INPUT: true; the input reads as it did. -/
def depotKnownSpec : ChangeSpec := { name := "depotKnown", fn := fun _ => fun
  | [] => { results := [.lit (.bool true)], args := [] }
  | _ => none }
def depotKnownRow : OpenClaim := { program := "ytmebpglkeedaoaa", sum := "de3432308406250d0aeff1b87bdfe56d50694d2f91d530a1024705e1ab7ce355", func := "coulomb/coulomblaw08.DepotKnown", spec := "depotKnown", unfollowed := true, recurses := true, apart := false }
def DepotKnownSaid : Prop := depotKnownRow.holds Try.pinned (OpenSpec.ofChange depotKnownSpec)

/-- ITS FALSE NEIGHBOUR: 'it returns false'. Refute it at one input. -/
def depotKnownWrong : ChangeSpec := { name := "depotKnown", fn := fun _ => fun
  | [] => { results := [.lit (.bool false)], args := [] }
  | _ => none }
def DepotKnownWrongFalsely : Prop := depotKnownRow.holds Try.pinned (OpenSpec.ofChange depotKnownWrong)

/- THE SECOND FORM. 'bulk': how many values and letters a reading holds, each counted each time it is reached (what is shared counts as often as it is met; a slice's spare places count too). A statement '..UptoSaid' is the law's where the arguments, and the package variables that the reading takes, are together of bulk at most 1048576: NARROWER than '..Said'. Prove '..Said' where nothing that the law and all that it calls make is longer than what came in: it says more and counts as full. Else prove '..UptoSaid'. A law counts once. -/
mutual
def uptoBulk {H : Type} : DataW H → Nat
  | .lit (.string bytes) => bytes.length + 1
  | .lit _ => 1
  | .nil => 1
  | .ptr d => uptoBulk d + 1
  | .slice elems spare => uptoBulkAll elems + uptoBulkAll spare + 1
  | .agg parts => uptoBulkAll parts + 1
  | .iface _ d => uptoBulk d + 1
  | .map entries => uptoBulkEntries entries + 1
  | .held _ => 1
def uptoBulkAll {H : Type} : List (DataW H) → Nat
  | [] => 0
  | d :: r => uptoBulk d + uptoBulkAll r
def uptoBulkEntries {H : Type} : List (Lit × DataW H) → Nat
  | [] => 0
  | x :: r => uptoBulkEntry x + uptoBulkEntries r
def uptoBulkEntry {H : Type} : Lit × DataW H → Nat
  | (.string bytes, d) => bytes.length + uptoBulk d + 1
  | (_, d) => uptoBulk d + 1
 end
def uptoSmall : (H : Type) → List (DataW H) → Bool := fun _ ds => decide (uptoBulkAll ds ≤ 1048576)
def OpenSpec.upto (s : _root_.Go.ChangeSpec) : _root_.Go.OpenSpec := { _root_.Go.OpenSpec.ofChange s with cond := some uptoSmall }

/-- 'coulomblaw08.DepotNets', WHERE WHAT IT READS IS OF BULK AT MOST 1048576: true; the input reads as it did. -/
def depotNetsUptoRow : OpenClaim := { program := "ytmebpglkeedaoaa", sum := "de3432308406250d0aeff1b87bdfe56d50694d2f91d530a1024705e1ab7ce355", func := "coulomb/coulomblaw08.DepotNets", spec := "depotNets", unfollowed := true, recurses := true, apart := false, narrowed := true }
def DepotNetsUptoSaid : Prop := depotNetsUptoRow.holds Try.pinned (OpenSpec.upto depotNetsSpec)

/-- 'coulomblaw08.DepotNotBeaten', WHERE WHAT IT READS IS OF BULK AT MOST 1048576: true; the input reads as it did. -/
def depotNotBeatenUptoRow : OpenClaim := { program := "ytmebpglkeedaoaa", sum := "de3432308406250d0aeff1b87bdfe56d50694d2f91d530a1024705e1ab7ce355", func := "coulomb/coulomblaw08.DepotNotBeaten", spec := "depotNotBeaten", unfollowed := true, recurses := true, apart := false, narrowed := true }
def DepotNotBeatenUptoSaid : Prop := depotNotBeatenUptoRow.holds Try.pinned (OpenSpec.upto depotNotBeatenSpec)

/-- 'coulomblaw08.DepotLeast', WHERE WHAT IT READS IS OF BULK AT MOST 1048576: true; the input reads as it did. -/
def depotLeastUptoRow : OpenClaim := { program := "ytmebpglkeedaoaa", sum := "de3432308406250d0aeff1b87bdfe56d50694d2f91d530a1024705e1ab7ce355", func := "coulomb/coulomblaw08.DepotLeast", spec := "depotLeast", unfollowed := true, recurses := true, apart := false, narrowed := true }
def DepotLeastUptoSaid : Prop := depotLeastUptoRow.holds Try.pinned (OpenSpec.upto depotLeastSpec)

/-- 'coulomblaw08.DepotLimits', WHERE WHAT IT READS IS OF BULK AT MOST 1048576: true; the input reads as it did. -/
def depotLimitsUptoRow : OpenClaim := { program := "ytmebpglkeedaoaa", sum := "de3432308406250d0aeff1b87bdfe56d50694d2f91d530a1024705e1ab7ce355", func := "coulomb/coulomblaw08.DepotLimits", spec := "depotLimits", unfollowed := true, recurses := true, apart := false, narrowed := true }
def DepotLimitsUptoSaid : Prop := depotLimitsUptoRow.holds Try.pinned (OpenSpec.upto depotLimitsSpec)

/-- 'coulomblaw08.DepotSites', WHERE WHAT IT READS IS OF BULK AT MOST 1048576: true; the input reads as it did. -/
def depotSitesUptoRow : OpenClaim := { program := "ytmebpglkeedaoaa", sum := "de3432308406250d0aeff1b87bdfe56d50694d2f91d530a1024705e1ab7ce355", func := "coulomb/coulomblaw08.DepotSites", spec := "depotSites", unfollowed := true, recurses := true, apart := false, narrowed := true }
def DepotSitesUptoSaid : Prop := depotSitesUptoRow.holds Try.pinned (OpenSpec.upto depotSitesSpec)

/-- 'coulomblaw08.DepotChecks', WHERE WHAT IT READS IS OF BULK AT MOST 1048576: true; the input reads as it did. -/
def depotChecksUptoRow : OpenClaim := { program := "ytmebpglkeedaoaa", sum := "de3432308406250d0aeff1b87bdfe56d50694d2f91d530a1024705e1ab7ce355", func := "coulomb/coulomblaw08.DepotChecks", spec := "depotChecks", unfollowed := true, recurses := true, apart := false, narrowed := true }
def DepotChecksUptoSaid : Prop := depotChecksUptoRow.holds Try.pinned (OpenSpec.upto depotChecksSpec)

/-- 'coulomblaw08.DepotMore', WHERE WHAT IT READS IS OF BULK AT MOST 1048576: true; the input reads as it did. -/
def depotMoreUptoRow : OpenClaim := { program := "ytmebpglkeedaoaa", sum := "de3432308406250d0aeff1b87bdfe56d50694d2f91d530a1024705e1ab7ce355", func := "coulomb/coulomblaw08.DepotMore", spec := "depotMore", unfollowed := true, recurses := true, apart := false, narrowed := true }
def DepotMoreUptoSaid : Prop := depotMoreUptoRow.holds Try.pinned (OpenSpec.upto depotMoreSpec)

/-- 'coulomblaw08.DepotPlans', WHERE WHAT IT READS IS OF BULK AT MOST 1048576: true; the input reads as it did. -/
def depotPlansUptoRow : OpenClaim := { program := "ytmebpglkeedaoaa", sum := "de3432308406250d0aeff1b87bdfe56d50694d2f91d530a1024705e1ab7ce355", func := "coulomb/coulomblaw08.DepotPlans", spec := "depotPlans", unfollowed := true, recurses := true, apart := false, narrowed := true }
def DepotPlansUptoSaid : Prop := depotPlansUptoRow.holds Try.pinned (OpenSpec.upto depotPlansSpec)

/-- 'coulomblaw08.DepotKnown', WHERE WHAT IT READS IS OF BULK AT MOST 1048576: true; the input reads as it did. -/
def depotKnownUptoRow : OpenClaim := { program := "ytmebpglkeedaoaa", sum := "de3432308406250d0aeff1b87bdfe56d50694d2f91d530a1024705e1ab7ce355", func := "coulomb/coulomblaw08.DepotKnown", spec := "depotKnown", unfollowed := true, recurses := true, apart := false, narrowed := true }
def DepotKnownUptoSaid : Prop := depotKnownUptoRow.holds Try.pinned (OpenSpec.upto depotKnownSpec)

end Rows
end Go.Proofs.Ytmebpglkeedaoaa
