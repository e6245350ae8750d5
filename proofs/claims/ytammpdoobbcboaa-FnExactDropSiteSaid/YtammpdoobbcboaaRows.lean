/-
  No cell of these rows narrows 'for every input' (looked for: loops, veiled, ifaces, maps, wideKeys, modest, calm, conditions, laid).
  DERIVED. THE GIVEN ROWS OF THIS SEAT. 11 by the template 'for every input the law returns true; each argument reads behind the call as it read before'; 0 by the template 'total and deterministic' (their statements: YtammpdoobbcboaaTotals.lean).
  GIVEN WITH THE SEED: the statements are not yours to turn. If you find one false, say at which input.
  Laid BY PROGRAM, IN A SANDBOX (cutbox-rows.mjs): the forced cells as the released guide's own fill.sh prints them over the translation 3e23f43d4eec4b72… (all of the seat's roots in one cut). By AI agents, Wed Nov 11 2026. No macro, syntax, notation, axiom, sorry.
-/
import Derived.Test.YtammpdoobbcboaaChecked
import GoSem.Claim
import GoSem.ClaimJoined
import GoSem.ClaimMapViews
import Derived.JoinedTies
import Derived.KernelRfl
namespace Go.Proofs.Ytammpdoobbcboaa
/- THE CELL 'sum', in the pinned program and in every row, IS THE sha256 OF THE DUMP (.gsa) THAT YtammpdoobbcboaaProg.lean LOADS. Nothing in Lean hashes anything: it is a label: what it is worth is what the hold of that sum in a sandbox is worth. -/
noncomputable def Try.pinned : Pinned := { name := "ytammpdoobbcboaa", sum := "3e23f43d4eec4b723cd2dec83e54e7449cff908f03341b965849ac61ccab358d", checked := Try.checked }
namespace Rows
def none {H : Type} : Left H := { results := [], args := [] }

/-- 'laws.FnExactSiteDistance': WHATEVER THE INPUT: true; the input reads as it did. -/
def fnExactSiteDistanceSpec : ChangeSpec := { name := "fnExactSiteDistance", fn := fun _ => fun
  | [d1, d2] => { results := [.lit (.bool true)], args := [d1, d2] }
  | _ => none }
def fnExactSiteDistanceRow : OpenClaim := { program := "ytammpdoobbcboaa", sum := "3e23f43d4eec4b723cd2dec83e54e7449cff908f03341b965849ac61ccab358d", func := "loop.example/g00875/laws.FnExactSiteDistance", spec := "fnExactSiteDistance", apart := false }
def FnExactSiteDistanceSaid : Prop := fnExactSiteDistanceRow.holds Try.pinned (OpenSpec.ofChange fnExactSiteDistanceSpec)

/-- ITS FALSE NEIGHBOUR: 'it returns false'. Refute it at one input. -/
def fnExactSiteDistanceWrong : ChangeSpec := { name := "fnExactSiteDistance", fn := fun _ => fun
  | [d1, d2] => { results := [.lit (.bool false)], args := [d1, d2] }
  | _ => none }
def FnExactSiteDistanceWrongFalsely : Prop := fnExactSiteDistanceRow.holds Try.pinned (OpenSpec.ofChange fnExactSiteDistanceWrong)

/-- 'laws.FnExactIsValidSites': WHATEVER THE INPUT: true; the input reads as it did. -/
def fnExactIsValidSitesSpec : ChangeSpec := { name := "fnExactIsValidSites", fn := fun _ => fun
  | [d] => { results := [.lit (.bool true)], args := [d] }
  | _ => none }
def fnExactIsValidSitesRow : OpenClaim := { program := "ytammpdoobbcboaa", sum := "3e23f43d4eec4b723cd2dec83e54e7449cff908f03341b965849ac61ccab358d", func := "loop.example/g00875/laws.FnExactIsValidSites", spec := "fnExactIsValidSites", apart := false }
def FnExactIsValidSitesSaid : Prop := fnExactIsValidSitesRow.holds Try.pinned (OpenSpec.ofChange fnExactIsValidSitesSpec)

/-- ITS FALSE NEIGHBOUR: 'it returns false'. Refute it at one input. -/
def fnExactIsValidSitesWrong : ChangeSpec := { name := "fnExactIsValidSites", fn := fun _ => fun
  | [d] => { results := [.lit (.bool false)], args := [d] }
  | _ => none }
def FnExactIsValidSitesWrongFalsely : Prop := fnExactIsValidSitesRow.holds Try.pinned (OpenSpec.ofChange fnExactIsValidSitesWrong)

/-- 'laws.FnExactDropSite': WHATEVER THE INPUT: true; the input reads as it did. -/
def fnExactDropSiteSpec : ChangeSpec := { name := "fnExactDropSite", fn := fun _ => fun
  | [d1, d2] => { results := [.lit (.bool true)], args := [d1, d2] }
  | _ => none }
def fnExactDropSiteRow : OpenClaim := { program := "ytammpdoobbcboaa", sum := "3e23f43d4eec4b723cd2dec83e54e7449cff908f03341b965849ac61ccab358d", func := "loop.example/g00875/laws.FnExactDropSite", spec := "fnExactDropSite", apart := false }
def FnExactDropSiteSaid : Prop := fnExactDropSiteRow.holds Try.pinned (OpenSpec.ofChange fnExactDropSiteSpec)

/-- ITS FALSE NEIGHBOUR: 'it returns false'. Refute it at one input. -/
def fnExactDropSiteWrong : ChangeSpec := { name := "fnExactDropSite", fn := fun _ => fun
  | [d1, d2] => { results := [.lit (.bool false)], args := [d1, d2] }
  | _ => none }
def FnExactDropSiteWrongFalsely : Prop := fnExactDropSiteRow.holds Try.pinned (OpenSpec.ofChange fnExactDropSiteWrong)

/-- 'laws.FnExactFirstHeard': WHATEVER THE INPUT: true; the input reads as it did. -/
def fnExactFirstHeardSpec : ChangeSpec := { name := "fnExactFirstHeard", fn := fun _ => fun
  | [d1, d2] => { results := [.lit (.bool true)], args := [d1, d2] }
  | _ => none }
def fnExactFirstHeardRow : OpenClaim := { program := "ytammpdoobbcboaa", sum := "3e23f43d4eec4b723cd2dec83e54e7449cff908f03341b965849ac61ccab358d", func := "loop.example/g00875/laws.FnExactFirstHeard", spec := "fnExactFirstHeard", apart := false }
def FnExactFirstHeardSaid : Prop := fnExactFirstHeardRow.holds Try.pinned (OpenSpec.ofChange fnExactFirstHeardSpec)

/-- ITS FALSE NEIGHBOUR: 'it returns false'. Refute it at one input. -/
def fnExactFirstHeardWrong : ChangeSpec := { name := "fnExactFirstHeard", fn := fun _ => fun
  | [d1, d2] => { results := [.lit (.bool false)], args := [d1, d2] }
  | _ => none }
def FnExactFirstHeardWrongFalsely : Prop := fnExactFirstHeardRow.holds Try.pinned (OpenSpec.ofChange fnExactFirstHeardWrong)

/-- 'laws.FnExactCoveredPoints': WHATEVER THE INPUT: true; the input reads as it did. -/
def fnExactCoveredPointsSpec : ChangeSpec := { name := "fnExactCoveredPoints", fn := fun _ => fun
  | [d1, d2, d3] => { results := [.lit (.bool true)], args := [d1, d2, d3] }
  | _ => none }
def fnExactCoveredPointsRow : OpenClaim := { program := "ytammpdoobbcboaa", sum := "3e23f43d4eec4b723cd2dec83e54e7449cff908f03341b965849ac61ccab358d", func := "loop.example/g00875/laws.FnExactCoveredPoints", spec := "fnExactCoveredPoints", apart := false }
def FnExactCoveredPointsSaid : Prop := fnExactCoveredPointsRow.holds Try.pinned (OpenSpec.ofChange fnExactCoveredPointsSpec)

/-- ITS FALSE NEIGHBOUR: 'it returns false'. Refute it at one input. -/
def fnExactCoveredPointsWrong : ChangeSpec := { name := "fnExactCoveredPoints", fn := fun _ => fun
  | [d1, d2, d3] => { results := [.lit (.bool false)], args := [d1, d2, d3] }
  | _ => none }
def FnExactCoveredPointsWrongFalsely : Prop := fnExactCoveredPointsRow.holds Try.pinned (OpenSpec.ofChange fnExactCoveredPointsWrong)

/-- 'laws.FnExactArrivalsOf': WHATEVER THE INPUT: true; the input reads as it did. -/
def fnExactArrivalsOfSpec : ChangeSpec := { name := "fnExactArrivalsOf", fn := fun _ => fun
  | [d1, d2, d3] => { results := [.lit (.bool true)], args := [d1, d2, d3] }
  | _ => none }
def fnExactArrivalsOfRow : OpenClaim := { program := "ytammpdoobbcboaa", sum := "3e23f43d4eec4b723cd2dec83e54e7449cff908f03341b965849ac61ccab358d", func := "loop.example/g00875/laws.FnExactArrivalsOf", spec := "fnExactArrivalsOf", apart := false }
def FnExactArrivalsOfSaid : Prop := fnExactArrivalsOfRow.holds Try.pinned (OpenSpec.ofChange fnExactArrivalsOfSpec)

/-- ITS FALSE NEIGHBOUR: 'it returns false'. Refute it at one input. -/
def fnExactArrivalsOfWrong : ChangeSpec := { name := "fnExactArrivalsOf", fn := fun _ => fun
  | [d1, d2, d3] => { results := [.lit (.bool false)], args := [d1, d2, d3] }
  | _ => none }
def FnExactArrivalsOfWrongFalsely : Prop := fnExactArrivalsOfRow.holds Try.pinned (OpenSpec.ofChange fnExactArrivalsOfWrong)

/-- 'laws.FnExactPossibleArrivals': WHATEVER THE INPUT: true; the input reads as it did. -/
def fnExactPossibleArrivalsSpec : ChangeSpec := { name := "fnExactPossibleArrivals", fn := fun _ => fun
  | [d1, d2] => { results := [.lit (.bool true)], args := [d1, d2] }
  | _ => none }
def fnExactPossibleArrivalsRow : OpenClaim := { program := "ytammpdoobbcboaa", sum := "3e23f43d4eec4b723cd2dec83e54e7449cff908f03341b965849ac61ccab358d", func := "loop.example/g00875/laws.FnExactPossibleArrivals", spec := "fnExactPossibleArrivals", apart := false }
def FnExactPossibleArrivalsSaid : Prop := fnExactPossibleArrivalsRow.holds Try.pinned (OpenSpec.ofChange fnExactPossibleArrivalsSpec)

/-- ITS FALSE NEIGHBOUR: 'it returns false'. Refute it at one input. -/
def fnExactPossibleArrivalsWrong : ChangeSpec := { name := "fnExactPossibleArrivals", fn := fun _ => fun
  | [d1, d2] => { results := [.lit (.bool false)], args := [d1, d2] }
  | _ => none }
def FnExactPossibleArrivalsWrongFalsely : Prop := fnExactPossibleArrivalsRow.holds Try.pinned (OpenSpec.ofChange fnExactPossibleArrivalsWrong)

/-- 'laws.FnExactCoverOf': WHATEVER THE INPUT: true; the input reads as it did. -/
def fnExactCoverOfSpec : ChangeSpec := { name := "fnExactCoverOf", fn := fun _ => fun
  | [d1, d2, d3] => { results := [.lit (.bool true)], args := [d1, d2, d3] }
  | _ => none }
def fnExactCoverOfRow : OpenClaim := { program := "ytammpdoobbcboaa", sum := "3e23f43d4eec4b723cd2dec83e54e7449cff908f03341b965849ac61ccab358d", func := "loop.example/g00875/laws.FnExactCoverOf", spec := "fnExactCoverOf", apart := false }
def FnExactCoverOfSaid : Prop := fnExactCoverOfRow.holds Try.pinned (OpenSpec.ofChange fnExactCoverOfSpec)

/-- ITS FALSE NEIGHBOUR: 'it returns false'. Refute it at one input. -/
def fnExactCoverOfWrong : ChangeSpec := { name := "fnExactCoverOf", fn := fun _ => fun
  | [d1, d2, d3] => { results := [.lit (.bool false)], args := [d1, d2, d3] }
  | _ => none }
def FnExactCoverOfWrongFalsely : Prop := fnExactCoverOfRow.holds Try.pinned (OpenSpec.ofChange fnExactCoverOfWrong)

/-- 'laws.FnExactSpreadAt': WHATEVER THE INPUT: true; the input reads as it did. -/
def fnExactSpreadAtSpec : ChangeSpec := { name := "fnExactSpreadAt", fn := fun _ => fun
  | [d1, d2, d3] => { results := [.lit (.bool true)], args := [d1, d2, d3] }
  | _ => none }
def fnExactSpreadAtRow : OpenClaim := { program := "ytammpdoobbcboaa", sum := "3e23f43d4eec4b723cd2dec83e54e7449cff908f03341b965849ac61ccab358d", func := "loop.example/g00875/laws.FnExactSpreadAt", spec := "fnExactSpreadAt", apart := false }
def FnExactSpreadAtSaid : Prop := fnExactSpreadAtRow.holds Try.pinned (OpenSpec.ofChange fnExactSpreadAtSpec)

/-- ITS FALSE NEIGHBOUR: 'it returns false'. Refute it at one input. -/
def fnExactSpreadAtWrong : ChangeSpec := { name := "fnExactSpreadAt", fn := fun _ => fun
  | [d1, d2, d3] => { results := [.lit (.bool false)], args := [d1, d2, d3] }
  | _ => none }
def FnExactSpreadAtWrongFalsely : Prop := fnExactSpreadAtRow.holds Try.pinned (OpenSpec.ofChange fnExactSpreadAtWrong)

/-- 'laws.FnExactSendTimes': WHATEVER THE INPUT: true; the input reads as it did. -/
def fnExactSendTimesSpec : ChangeSpec := { name := "fnExactSendTimes", fn := fun _ => fun
  | [d1, d2, d3] => { results := [.lit (.bool true)], args := [d1, d2, d3] }
  | _ => none }
def fnExactSendTimesRow : OpenClaim := { program := "ytammpdoobbcboaa", sum := "3e23f43d4eec4b723cd2dec83e54e7449cff908f03341b965849ac61ccab358d", func := "loop.example/g00875/laws.FnExactSendTimes", spec := "fnExactSendTimes", apart := false }
def FnExactSendTimesSaid : Prop := fnExactSendTimesRow.holds Try.pinned (OpenSpec.ofChange fnExactSendTimesSpec)

/-- ITS FALSE NEIGHBOUR: 'it returns false'. Refute it at one input. -/
def fnExactSendTimesWrong : ChangeSpec := { name := "fnExactSendTimes", fn := fun _ => fun
  | [d1, d2, d3] => { results := [.lit (.bool false)], args := [d1, d2, d3] }
  | _ => none }
def FnExactSendTimesWrongFalsely : Prop := fnExactSendTimesRow.holds Try.pinned (OpenSpec.ofChange fnExactSendTimesWrong)

/-- 'laws.FnExactSendTime': WHATEVER THE INPUT: true; the input reads as it did. -/
def fnExactSendTimeSpec : ChangeSpec := { name := "fnExactSendTime", fn := fun _ => fun
  | [d1, d2, d3] => { results := [.lit (.bool true)], args := [d1, d2, d3] }
  | _ => none }
def fnExactSendTimeRow : OpenClaim := { program := "ytammpdoobbcboaa", sum := "3e23f43d4eec4b723cd2dec83e54e7449cff908f03341b965849ac61ccab358d", func := "loop.example/g00875/laws.FnExactSendTime", spec := "fnExactSendTime", apart := false }
def FnExactSendTimeSaid : Prop := fnExactSendTimeRow.holds Try.pinned (OpenSpec.ofChange fnExactSendTimeSpec)

/-- ITS FALSE NEIGHBOUR: 'it returns false'. Refute it at one input. -/
def fnExactSendTimeWrong : ChangeSpec := { name := "fnExactSendTime", fn := fun _ => fun
  | [d1, d2, d3] => { results := [.lit (.bool false)], args := [d1, d2, d3] }
  | _ => none }
def FnExactSendTimeWrongFalsely : Prop := fnExactSendTimeRow.holds Try.pinned (OpenSpec.ofChange fnExactSendTimeWrong)

/- THE SECOND FORM. 'bulk': how many values and letters a reading holds, each counted each time it is reached (what is shared counts as often as it is met; a slice's spare places count too). A statement '..UptoSaid' is the law's where the arguments, and the package variables that the reading takes, are together of bulk at most 1048576: NARROWER than '..Said'. Prove '..Said' where nothing that the law and all that it calls make is longer than what came in: it says more and counts as full. Else prove '..UptoSaid'. A law counts once. -/
mutual
def uptoBulk {H : Type} : DataW H → Nat
  | .lit (.string bytes) => bytes.length + 1
  | .lit _ => 1
  | .nil => 1
  | .ptr d => uptoBulk d + 1
  | .slice elems spare => uptoBulkAll elems + uptoBulkAll spare + 1
  | .agg parts => uptoBulkAll parts + 1
  | .iface _ d => uptoBulk d + 1
  | .map entries => uptoBulkEntries entries + 1
  | .held _ => 1
def uptoBulkAll {H : Type} : List (DataW H) → Nat
  | [] => 0
  | d :: r => uptoBulk d + uptoBulkAll r
def uptoBulkEntries {H : Type} : List (Lit × DataW H) → Nat
  | [] => 0
  | x :: r => uptoBulkEntry x + uptoBulkEntries r
def uptoBulkEntry {H : Type} : Lit × DataW H → Nat
  | (.string bytes, d) => bytes.length + uptoBulk d + 1
  | (_, d) => uptoBulk d + 1
 end
def uptoSmall : (H : Type) → List (DataW H) → Bool := fun _ ds => decide (uptoBulkAll ds ≤ 1048576)
def OpenSpec.upto (s : _root_.Go.ChangeSpec) : _root_.Go.OpenSpec := { _root_.Go.OpenSpec.ofChange s with cond := some uptoSmall }

/-- 'laws.FnExactSiteDistance', WHERE WHAT IT READS IS OF BULK AT MOST 1048576: true; the input reads as it did. -/
def fnExactSiteDistanceUptoRow : OpenClaim := { program := "ytammpdoobbcboaa", sum := "3e23f43d4eec4b723cd2dec83e54e7449cff908f03341b965849ac61ccab358d", func := "loop.example/g00875/laws.FnExactSiteDistance", spec := "fnExactSiteDistance", apart := false, narrowed := true }
def FnExactSiteDistanceUptoSaid : Prop := fnExactSiteDistanceUptoRow.holds Try.pinned (OpenSpec.upto fnExactSiteDistanceSpec)

/-- 'laws.FnExactIsValidSites', WHERE WHAT IT READS IS OF BULK AT MOST 1048576: true; the input reads as it did. -/
def fnExactIsValidSitesUptoRow : OpenClaim := { program := "ytammpdoobbcboaa", sum := "3e23f43d4eec4b723cd2dec83e54e7449cff908f03341b965849ac61ccab358d", func := "loop.example/g00875/laws.FnExactIsValidSites", spec := "fnExactIsValidSites", apart := false, narrowed := true }
def FnExactIsValidSitesUptoSaid : Prop := fnExactIsValidSitesUptoRow.holds Try.pinned (OpenSpec.upto fnExactIsValidSitesSpec)

/-- 'laws.FnExactDropSite', WHERE WHAT IT READS IS OF BULK AT MOST 1048576: true; the input reads as it did. -/
def fnExactDropSiteUptoRow : OpenClaim := { program := "ytammpdoobbcboaa", sum := "3e23f43d4eec4b723cd2dec83e54e7449cff908f03341b965849ac61ccab358d", func := "loop.example/g00875/laws.FnExactDropSite", spec := "fnExactDropSite", apart := false, narrowed := true }
def FnExactDropSiteUptoSaid : Prop := fnExactDropSiteUptoRow.holds Try.pinned (OpenSpec.upto fnExactDropSiteSpec)

/-- 'laws.FnExactFirstHeard', WHERE WHAT IT READS IS OF BULK AT MOST 1048576: true; the input reads as it did. -/
def fnExactFirstHeardUptoRow : OpenClaim := { program := "ytammpdoobbcboaa", sum := "3e23f43d4eec4b723cd2dec83e54e7449cff908f03341b965849ac61ccab358d", func := "loop.example/g00875/laws.FnExactFirstHeard", spec := "fnExactFirstHeard", apart := false, narrowed := true }
def FnExactFirstHeardUptoSaid : Prop := fnExactFirstHeardUptoRow.holds Try.pinned (OpenSpec.upto fnExactFirstHeardSpec)

/-- 'laws.FnExactCoveredPoints', WHERE WHAT IT READS IS OF BULK AT MOST 1048576: true; the input reads as it did. -/
def fnExactCoveredPointsUptoRow : OpenClaim := { program := "ytammpdoobbcboaa", sum := "3e23f43d4eec4b723cd2dec83e54e7449cff908f03341b965849ac61ccab358d", func := "loop.example/g00875/laws.FnExactCoveredPoints", spec := "fnExactCoveredPoints", apart := false, narrowed := true }
def FnExactCoveredPointsUptoSaid : Prop := fnExactCoveredPointsUptoRow.holds Try.pinned (OpenSpec.upto fnExactCoveredPointsSpec)

/-- 'laws.FnExactArrivalsOf', WHERE WHAT IT READS IS OF BULK AT MOST 1048576: true; the input reads as it did. -/
def fnExactArrivalsOfUptoRow : OpenClaim := { program := "ytammpdoobbcboaa", sum := "3e23f43d4eec4b723cd2dec83e54e7449cff908f03341b965849ac61ccab358d", func := "loop.example/g00875/laws.FnExactArrivalsOf", spec := "fnExactArrivalsOf", apart := false, narrowed := true }
def FnExactArrivalsOfUptoSaid : Prop := fnExactArrivalsOfUptoRow.holds Try.pinned (OpenSpec.upto fnExactArrivalsOfSpec)

/-- 'laws.FnExactPossibleArrivals', WHERE WHAT IT READS IS OF BULK AT MOST 1048576: true; the input reads as it did. -/
def fnExactPossibleArrivalsUptoRow : OpenClaim := { program := "ytammpdoobbcboaa", sum := "3e23f43d4eec4b723cd2dec83e54e7449cff908f03341b965849ac61ccab358d", func := "loop.example/g00875/laws.FnExactPossibleArrivals", spec := "fnExactPossibleArrivals", apart := false, narrowed := true }
def FnExactPossibleArrivalsUptoSaid : Prop := fnExactPossibleArrivalsUptoRow.holds Try.pinned (OpenSpec.upto fnExactPossibleArrivalsSpec)

/-- 'laws.FnExactCoverOf', WHERE WHAT IT READS IS OF BULK AT MOST 1048576: true; the input reads as it did. -/
def fnExactCoverOfUptoRow : OpenClaim := { program := "ytammpdoobbcboaa", sum := "3e23f43d4eec4b723cd2dec83e54e7449cff908f03341b965849ac61ccab358d", func := "loop.example/g00875/laws.FnExactCoverOf", spec := "fnExactCoverOf", apart := false, narrowed := true }
def FnExactCoverOfUptoSaid : Prop := fnExactCoverOfUptoRow.holds Try.pinned (OpenSpec.upto fnExactCoverOfSpec)

/-- 'laws.FnExactSpreadAt', WHERE WHAT IT READS IS OF BULK AT MOST 1048576: true; the input reads as it did. -/
def fnExactSpreadAtUptoRow : OpenClaim := { program := "ytammpdoobbcboaa", sum := "3e23f43d4eec4b723cd2dec83e54e7449cff908f03341b965849ac61ccab358d", func := "loop.example/g00875/laws.FnExactSpreadAt", spec := "fnExactSpreadAt", apart := false, narrowed := true }
def FnExactSpreadAtUptoSaid : Prop := fnExactSpreadAtUptoRow.holds Try.pinned (OpenSpec.upto fnExactSpreadAtSpec)

/-- 'laws.FnExactSendTimes', WHERE WHAT IT READS IS OF BULK AT MOST 1048576: true; the input reads as it did. -/
def fnExactSendTimesUptoRow : OpenClaim := { program := "ytammpdoobbcboaa", sum := "3e23f43d4eec4b723cd2dec83e54e7449cff908f03341b965849ac61ccab358d", func := "loop.example/g00875/laws.FnExactSendTimes", spec := "fnExactSendTimes", apart := false, narrowed := true }
def FnExactSendTimesUptoSaid : Prop := fnExactSendTimesUptoRow.holds Try.pinned (OpenSpec.upto fnExactSendTimesSpec)

/-- 'laws.FnExactSendTime', WHERE WHAT IT READS IS OF BULK AT MOST 1048576: true; the input reads as it did. -/
def fnExactSendTimeUptoRow : OpenClaim := { program := "ytammpdoobbcboaa", sum := "3e23f43d4eec4b723cd2dec83e54e7449cff908f03341b965849ac61ccab358d", func := "loop.example/g00875/laws.FnExactSendTime", spec := "fnExactSendTime", apart := false, narrowed := true }
def FnExactSendTimeUptoSaid : Prop := fnExactSendTimeUptoRow.holds Try.pinned (OpenSpec.upto fnExactSendTimeSpec)

end Rows
end Go.Proofs.Ytammpdoobbcboaa
