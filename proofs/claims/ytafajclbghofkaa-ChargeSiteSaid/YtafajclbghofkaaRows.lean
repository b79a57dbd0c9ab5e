/-
  No cell of these rows narrows 'for every input' (looked for: loops, veiled, ifaces, maps, wideKeys, modest, calm, conditions, laid).
  DERIVED. THE GIVEN ROWS OF THIS SEAT. 8 by the template 'for every input the law returns true; each argument reads behind the call as it read before'; 0 by the template 'total and deterministic' (their statements: YtafajclbghofkaaTotals.lean).
  GIVEN WITH THE SEED: the statements are not yours to turn. If you find one false, say at which input.
  Laid BY PROGRAM, IN A SANDBOX (cutbox-rows.mjs): the forced cells as the released guide's own fill.sh prints them over the translation 345c4d2382cb9aef… (all of the seat's roots in one cut). By AI agents, Wed Nov 11 2026. No macro, syntax, notation, axiom, sorry.
-/
import Derived.Test.YtafajclbghofkaaChecked
import GoSem.Claim
import GoSem.ClaimJoined
import GoSem.ClaimMapViews
import Derived.JoinedTies
import Derived.KernelRfl
namespace Go.Proofs.Ytafajclbghofkaa
/- THE CELL 'sum', in the pinned program and in every row, IS THE sha256 OF THE DUMP (.gsa) THAT YtafajclbghofkaaProg.lean LOADS. Nothing in Lean hashes anything: it is a label: what it is worth is what the hold of that sum in a sandbox is worth. -/
noncomputable def Try.pinned : Pinned := { name := "ytafajclbghofkaa", sum := "345c4d2382cb9aefb534e80f9e385b4118f036918b89dafe7cb56cfbc54e7e06", checked := Try.checked }
namespace Rows
def none {H : Type} : Left H := { results := [], args := [] }

/-- 'coulomblaw09.ChargeTariffs': WHATEVER THE INPUT: true; the input reads as it did. -/
def chargeTariffsSpec : ChangeSpec := { name := "chargeTariffs", fn := fun _ => fun
  | [d1, d2, d3, d4] => { results := [.lit (.bool true)], args := [d1, d2, d3, d4] }
  | _ => none }
def chargeTariffsRow : OpenClaim := { program := "ytafajclbghofkaa", sum := "345c4d2382cb9aefb534e80f9e385b4118f036918b89dafe7cb56cfbc54e7e06", func := "coulomb/coulomblaw09.ChargeTariffs", spec := "chargeTariffs", unfollowed := true, recurses := true, apart := false }
def ChargeTariffsSaid : Prop := chargeTariffsRow.holds Try.pinned (OpenSpec.ofChange chargeTariffsSpec)

/-- ITS FALSE NEIGHBOUR: 'it returns false'. Refute it at one input. -/
def chargeTariffsWrong : ChangeSpec := { name := "chargeTariffs", fn := fun _ => fun
  | [d1, d2, d3, d4] => { results := [.lit (.bool false)], args := [d1, d2, d3, d4] }
  | _ => none }
def ChargeTariffsWrongFalsely : Prop := chargeTariffsRow.holds Try.pinned (OpenSpec.ofChange chargeTariffsWrong)

/-- 'coulomblaw09.ChargeCosts': WHATEVER THE INPUT: true; the input reads as it did. -/
def chargeCostsSpec : ChangeSpec := { name := "chargeCosts", fn := fun _ => fun
  | [d1, d2, d3, d4, d5] => { results := [.lit (.bool true)], args := [d1, d2, d3, d4, d5] }
  | _ => none }
def chargeCostsRow : OpenClaim := { program := "ytafajclbghofkaa", sum := "345c4d2382cb9aefb534e80f9e385b4118f036918b89dafe7cb56cfbc54e7e06", func := "coulomb/coulomblaw09.ChargeCosts", spec := "chargeCosts", unfollowed := true, recurses := true, apart := false }
def ChargeCostsSaid : Prop := chargeCostsRow.holds Try.pinned (OpenSpec.ofChange chargeCostsSpec)

/-- ITS FALSE NEIGHBOUR: 'it returns false'. Refute it at one input. -/
def chargeCostsWrong : ChangeSpec := { name := "chargeCosts", fn := fun _ => fun
  | [d1, d2, d3, d4, d5] => { results := [.lit (.bool false)], args := [d1, d2, d3, d4, d5] }
  | _ => none }
def ChargeCostsWrongFalsely : Prop := chargeCostsRow.holds Try.pinned (OpenSpec.ofChange chargeCostsWrong)

/-- 'coulomblaw09.ChargePosts': WHATEVER THE INPUT: true; the input reads as it did. -/
def chargePostsSpec : ChangeSpec := { name := "chargePosts", fn := fun _ => fun
  | [d1, d2] => { results := [.lit (.bool true)], args := [d1, d2] }
  | _ => none }
def chargePostsRow : OpenClaim := { program := "ytafajclbghofkaa", sum := "345c4d2382cb9aefb534e80f9e385b4118f036918b89dafe7cb56cfbc54e7e06", func := "coulomb/coulomblaw09.ChargePosts", spec := "chargePosts", unfollowed := true, recurses := true, apart := false }
def ChargePostsSaid : Prop := chargePostsRow.holds Try.pinned (OpenSpec.ofChange chargePostsSpec)

/-- ITS FALSE NEIGHBOUR: 'it returns false'. Refute it at one input. -/
def chargePostsWrong : ChangeSpec := { name := "chargePosts", fn := fun _ => fun
  | [d1, d2] => { results := [.lit (.bool false)], args := [d1, d2] }
  | _ => none }
def ChargePostsWrongFalsely : Prop := chargePostsRow.holds Try.pinned (OpenSpec.ofChange chargePostsWrong)

/-- 'coulomblaw09.ChargeArrives': WHATEVER THE INPUT: true; the input reads as it did. -/
def chargeArrivesSpec : ChangeSpec := { name := "chargeArrives", fn := fun _ => fun
  | [d] => { results := [.lit (.bool true)], args := [d] }
  | _ => none }
def chargeArrivesRow : OpenClaim := { program := "ytafajclbghofkaa", sum := "345c4d2382cb9aefb534e80f9e385b4118f036918b89dafe7cb56cfbc54e7e06", func := "coulomb/coulomblaw09.ChargeArrives", spec := "chargeArrives", unfollowed := true, recurses := true, apart := false }
def ChargeArrivesSaid : Prop := chargeArrivesRow.holds Try.pinned (OpenSpec.ofChange chargeArrivesSpec)

/-- ITS FALSE NEIGHBOUR: 'it returns false'. Refute it at one input. -/
def chargeArrivesWrong : ChangeSpec := { name := "chargeArrives", fn := fun _ => fun
  | [d] => { results := [.lit (.bool false)], args := [d] }
  | _ => none }
def ChargeArrivesWrongFalsely : Prop := chargeArrivesRow.holds Try.pinned (OpenSpec.ofChange chargeArrivesWrong)

/-- 'coulomblaw09.ChargeLines': WHATEVER THE INPUT: true; the input reads as it did. -/
def chargeLinesSpec : ChangeSpec := { name := "chargeLines", fn := fun _ => fun
  | [d1, d2] => { results := [.lit (.bool true)], args := [d1, d2] }
  | _ => none }
def chargeLinesRow : OpenClaim := { program := "ytafajclbghofkaa", sum := "345c4d2382cb9aefb534e80f9e385b4118f036918b89dafe7cb56cfbc54e7e06", func := "coulomb/coulomblaw09.ChargeLines", spec := "chargeLines", unfollowed := true, recurses := true, apart := false }
def ChargeLinesSaid : Prop := chargeLinesRow.holds Try.pinned (OpenSpec.ofChange chargeLinesSpec)

/-- ITS FALSE NEIGHBOUR: 'it returns false'. Refute it at one input. -/
def chargeLinesWrong : ChangeSpec := { name := "chargeLines", fn := fun _ => fun
  | [d1, d2] => { results := [.lit (.bool false)], args := [d1, d2] }
  | _ => none }
def ChargeLinesWrongFalsely : Prop := chargeLinesRow.holds Try.pinned (OpenSpec.ofChange chargeLinesWrong)

/-- 'coulomblaw09.ChargeDeals': WHATEVER THE INPUT: true; the input reads as it did. -/
def chargeDealsSpec : ChangeSpec := { name := "chargeDeals", fn := fun _ => fun
  | [d1, d2, d3, d4] => { results := [.lit (.bool true)], args := [d1, d2, d3, d4] }
  | _ => none }
def chargeDealsRow : OpenClaim := { program := "ytafajclbghofkaa", sum := "345c4d2382cb9aefb534e80f9e385b4118f036918b89dafe7cb56cfbc54e7e06", func := "coulomb/coulomblaw09.ChargeDeals", spec := "chargeDeals", unfollowed := true, recurses := true, apart := false }
def ChargeDealsSaid : Prop := chargeDealsRow.holds Try.pinned (OpenSpec.ofChange chargeDealsSpec)

/-- ITS FALSE NEIGHBOUR: 'it returns false'. Refute it at one input. -/
def chargeDealsWrong : ChangeSpec := { name := "chargeDeals", fn := fun _ => fun
  | [d1, d2, d3, d4] => { results := [.lit (.bool false)], args := [d1, d2, d3, d4] }
  | _ => none }
def ChargeDealsWrongFalsely : Prop := chargeDealsRow.holds Try.pinned (OpenSpec.ofChange chargeDealsWrong)

/-- 'coulomblaw09.ChargeSites': WHATEVER THE INPUT: true; the input reads as it did. -/
def chargeSitesSpec : ChangeSpec := { name := "chargeSites", fn := fun _ => fun
  | [d1, d2, d3, d4, d5] => { results := [.lit (.bool true)], args := [d1, d2, d3, d4, d5] }
  | _ => none }
def chargeSitesRow : OpenClaim := { program := "ytafajclbghofkaa", sum := "345c4d2382cb9aefb534e80f9e385b4118f036918b89dafe7cb56cfbc54e7e06", func := "coulomb/coulomblaw09.ChargeSites", spec := "chargeSites", unfollowed := true, recurses := true, apart := false }
def ChargeSitesSaid : Prop := chargeSitesRow.holds Try.pinned (OpenSpec.ofChange chargeSitesSpec)

/-- ITS FALSE NEIGHBOUR: 'it returns false'. Refute it at one input. -/
def chargeSitesWrong : ChangeSpec := { name := "chargeSites", fn := fun _ => fun
  | [d1, d2, d3, d4, d5] => { results := [.lit (.bool false)], args := [d1, d2, d3, d4, d5] }
  | _ => none }
def ChargeSitesWrongFalsely : Prop := chargeSitesRow.holds Try.pinned (OpenSpec.ofChange chargeSitesWrong)

/-- 'coulomblaw09.ChargeSite': WHATEVER THE INPUT: true; the input reads as it did. -/
def chargeSiteSpec : ChangeSpec := { name := "chargeSite", fn := fun _ => fun
  | [d1, d2, d3] => { results := [.lit (.bool true)], args := [d1, d2, d3] }
  | _ => none }
def chargeSiteRow : OpenClaim := { program := "ytafajclbghofkaa", sum := "345c4d2382cb9aefb534e80f9e385b4118f036918b89dafe7cb56cfbc54e7e06", func := "coulomb/coulomblaw09.ChargeSite", spec := "chargeSite", unfollowed := true, recurses := true, apart := false }
def ChargeSiteSaid : Prop := chargeSiteRow.holds Try.pinned (OpenSpec.ofChange chargeSiteSpec)

/-- ITS FALSE NEIGHBOUR: 'it returns false'. Refute it at one input. -/
def chargeSiteWrong : ChangeSpec := { name := "chargeSite", fn := fun _ => fun
  | [d1, d2, d3] => { results := [.lit (.bool false)], args := [d1, d2, d3] }
  | _ => none }
def ChargeSiteWrongFalsely : Prop := chargeSiteRow.holds Try.pinned (OpenSpec.ofChange chargeSiteWrong)

/- THE SECOND FORM. 'bulk': how many values and letters a reading holds, each counted each time it is reached (what is shared counts as often as it is met; a slice's spare places count too). A statement '..UptoSaid' is the law's where the arguments, and the package variables that the reading takes, are together of bulk at most 1048576: NARROWER than '..Said'. Prove '..Said' where nothing that the law and all that it calls make is longer than what came in: it says more and counts as full. Else prove '..UptoSaid'. A law counts once. -/
mutual
def uptoBulk {H : Type} : DataW H → Nat
  | .lit (.string bytes) => bytes.length + 1
  | .lit _ => 1
  | .nil => 1
  | .ptr d => uptoBulk d + 1
  | .slice elems spare => uptoBulkAll elems + uptoBulkAll spare + 1
  | .agg parts => uptoBulkAll parts + 1
  | .iface _ d => uptoBulk d + 1
  | .map entries => uptoBulkEntries entries + 1
  | .held _ => 1
def uptoBulkAll {H : Type} : List (DataW H) → Nat
  | [] => 0
  | d :: r => uptoBulk d + uptoBulkAll r
def uptoBulkEntries {H : Type} : List (Lit × DataW H) → Nat
  | [] => 0
  | x :: r => uptoBulkEntry x + uptoBulkEntries r
def uptoBulkEntry {H : Type} : Lit × DataW H → Nat
  | (.string bytes, d) => bytes.length + uptoBulk d + 1
  | (_, d) => uptoBulk d + 1
 end
def uptoSmall : (H : Type) → List (DataW H) → Bool := fun _ ds => decide (uptoBulkAll ds ≤ 1048576)
def OpenSpec.upto (s : _root_.Go.ChangeSpec) : _root_.Go.OpenSpec := { _root_.Go.OpenSpec.ofChange s with cond := some uptoSmall }

/-- 'coulomblaw09.ChargeTariffs', WHERE WHAT IT READS IS OF BULK AT MOST 1048576: true; the input reads as it did. -/
def chargeTariffsUptoRow : OpenClaim := { program := "ytafajclbghofkaa", sum := "345c4d2382cb9aefb534e80f9e385b4118f036918b89dafe7cb56cfbc54e7e06", func := "coulomb/coulomblaw09.ChargeTariffs", spec := "chargeTariffs", unfollowed := true, recurses := true, apart := false, narrowed := true }
def ChargeTariffsUptoSaid : Prop := chargeTariffsUptoRow.holds Try.pinned (OpenSpec.upto chargeTariffsSpec)

/-- 'coulomblaw09.ChargeCosts', WHERE WHAT IT READS IS OF BULK AT MOST 1048576: true; the input reads as it did. -/
def chargeCostsUptoRow : OpenClaim := { program := "ytafajclbghofkaa", sum := "345c4d2382cb9aefb534e80f9e385b4118f036918b89dafe7cb56cfbc54e7e06", func := "coulomb/coulomblaw09.ChargeCosts", spec := "chargeCosts", unfollowed := true, recurses := true, apart := false, narrowed := true }
def ChargeCostsUptoSaid : Prop := chargeCostsUptoRow.holds Try.pinned (OpenSpec.upto chargeCostsSpec)

/-- 'coulomblaw09.ChargePosts', WHERE WHAT IT READS IS OF BULK AT MOST 1048576: true; the input reads as it did. -/
def chargePostsUptoRow : OpenClaim := { program := "ytafajclbghofkaa", sum := "345c4d2382cb9aefb534e80f9e385b4118f036918b89dafe7cb56cfbc54e7e06", func := "coulomb/coulomblaw09.ChargePosts", spec := "chargePosts", unfollowed := true, recurses := true, apart := false, narrowed := true }
def ChargePostsUptoSaid : Prop := chargePostsUptoRow.holds Try.pinned (OpenSpec.upto chargePostsSpec)

/-- 'coulomblaw09.ChargeArrives', WHERE WHAT IT READS IS OF BULK AT MOST 1048576: true; the input reads as it did. -/
def chargeArrivesUptoRow : OpenClaim := { program := "ytafajclbghofkaa", sum := "345c4d2382cb9aefb534e80f9e385b4118f036918b89dafe7cb56cfbc54e7e06", func := "coulomb/coulomblaw09.ChargeArrives", spec := "chargeArrives", unfollowed := true, recurses := true, apart := false, narrowed := true }
def ChargeArrivesUptoSaid : Prop := chargeArrivesUptoRow.holds Try.pinned (OpenSpec.upto chargeArrivesSpec)

/-- 'coulomblaw09.ChargeLines', WHERE WHAT IT READS IS OF BULK AT MOST 1048576: true; the input reads as it did. -/
def chargeLinesUptoRow : OpenClaim := { program := "ytafajclbghofkaa", sum := "345c4d2382cb9aefb534e80f9e385b4118f036918b89dafe7cb56cfbc54e7e06", func := "coulomb/coulomblaw09.ChargeLines", spec := "chargeLines", unfollowed := true, recurses := true, apart := false, narrowed := true }
def ChargeLinesUptoSaid : Prop := chargeLinesUptoRow.holds Try.pinned (OpenSpec.upto chargeLinesSpec)

/-- 'coulomblaw09.ChargeDeals', WHERE WHAT IT READS IS OF BULK AT MOST 1048576: true; the input reads as it did. -/
def chargeDealsUptoRow : OpenClaim := { program := "ytafajclbghofkaa", sum := "345c4d2382cb9aefb534e80f9e385b4118f036918b89dafe7cb56cfbc54e7e06", func := "coulomb/coulomblaw09.ChargeDeals", spec := "chargeDeals", unfollowed := true, recurses := true, apart := false, narrowed := true }
def ChargeDealsUptoSaid : Prop := chargeDealsUptoRow.holds Try.pinned (OpenSpec.upto chargeDealsSpec)

/-- 'coulomblaw09.ChargeSites', WHERE WHAT IT READS IS OF BULK AT MOST 1048576: true; the input reads as it did. -/
def chargeSitesUptoRow : OpenClaim := { program := "ytafajclbghofkaa", sum := "345c4d2382cb9aefb534e80f9e385b4118f036918b89dafe7cb56cfbc54e7e06", func := "coulomb/coulomblaw09.ChargeSites", spec := "chargeSites", unfollowed := true, recurses := true, apart := false, narrowed := true }
def ChargeSitesUptoSaid : Prop := chargeSitesUptoRow.holds Try.pinned (OpenSpec.upto chargeSitesSpec)

/-- 'coulomblaw09.ChargeSite', WHERE WHAT IT READS IS OF BULK AT MOST 1048576: true; the input reads as it did. -/
def chargeSiteUptoRow : OpenClaim := { program := "ytafajclbghofkaa", sum := "345c4d2382cb9aefb534e80f9e385b4118f036918b89dafe7cb56cfbc54e7e06", func := "coulomb/coulomblaw09.ChargeSite", spec := "chargeSite", unfollowed := true, recurses := true, apart := false, narrowed := true }
def ChargeSiteUptoSaid : Prop := chargeSiteUptoRow.holds Try.pinned (OpenSpec.upto chargeSiteSpec)

end Rows
end Go.Proofs.Ytafajclbghofkaa
