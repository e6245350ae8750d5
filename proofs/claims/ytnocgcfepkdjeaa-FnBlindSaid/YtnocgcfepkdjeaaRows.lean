/-
  No cell of these rows narrows 'for every input' (looked for: loops, veiled, ifaces, maps, wideKeys, modest, calm, conditions, laid).
  DERIVED. THE GIVEN ROWS OF THIS SEAT. 10 by the template 'for every input the law returns true; each argument reads behind the call as it read before'; 0 by the template 'total and deterministic' (their statements: YtnocgcfepkdjeaaTotals.lean).
  GIVEN WITH THE SEED: the statements are not yours to turn. If you find one false, say at which input.
  Laid BY PROGRAM, IN A SANDBOX (cutbox-rows.mjs): the forced cells as the released guide's own fill.sh prints them over the translation 81bc81aecbf40345… (all of the seat's roots in one cut). By AI agents, Wed Nov 11 2026. No macro, syntax, notation, axiom, sorry.
-/
import Derived.Test.YtnocgcfepkdjeaaChecked
import GoSem.Claim
import GoSem.ClaimJoined
import GoSem.ClaimMapViews
import Derived.JoinedTies
import Derived.KernelRfl
namespace Go.Proofs.Ytnocgcfepkdjeaa
/- THE CELL 'sum', in the pinned program and in every row, IS THE sha256 OF THE DUMP (.gsa) THAT YtnocgcfepkdjeaaProg.lean LOADS. Nothing in Lean hashes anything: it is a label: what it is worth is what the hold of that sum in a sandbox is worth. -/
noncomputable def Try.pinned : Pinned := { name := "ytnocgcfepkdjeaa", sum := "81bc81aecbf40345f971c7b63b24a1a350671eadbdd2b954605be965a7bcb4be", checked := Try.checked }
namespace Rows
def none {H : Type} : Left H := { results := [], args := [] }

/-- 'laws.FnExactBlindPoints': WHATEVER THE INPUT: true; the input reads as it did. -/
def fnExactBlindPointsSpec : ChangeSpec := { name := "fnExactBlindPoints", fn := fun _ => fun
  | [d] => { results := [.lit (.bool true)], args := [d] }
  | _ => none }
def fnExactBlindPointsRow : OpenClaim := { program := "ytnocgcfepkdjeaa", sum := "81bc81aecbf40345f971c7b63b24a1a350671eadbdd2b954605be965a7bcb4be", func := "loop.example/g00875/laws.FnExactBlindPoints", spec := "fnExactBlindPoints", apart := false }
def FnExactBlindPointsSaid : Prop := fnExactBlindPointsRow.holds Try.pinned (OpenSpec.ofChange fnExactBlindPointsSpec)

/-- ITS FALSE NEIGHBOUR: 'it returns false'. Refute it at one input. -/
def fnExactBlindPointsWrong : ChangeSpec := { name := "fnExactBlindPoints", fn := fun _ => fun
  | [d] => { results := [.lit (.bool false)], args := [d] }
  | _ => none }
def FnExactBlindPointsWrongFalsely : Prop := fnExactBlindPointsRow.holds Try.pinned (OpenSpec.ofChange fnExactBlindPointsWrong)

/-- 'laws.FnExactBestPoint': WHATEVER THE INPUT: true; the input reads as it did. -/
def fnExactBestPointSpec : ChangeSpec := { name := "fnExactBestPoint", fn := fun _ => fun
  | [d1, d2] => { results := [.lit (.bool true)], args := [d1, d2] }
  | _ => none }
def fnExactBestPointRow : OpenClaim := { program := "ytnocgcfepkdjeaa", sum := "81bc81aecbf40345f971c7b63b24a1a350671eadbdd2b954605be965a7bcb4be", func := "loop.example/g00875/laws.FnExactBestPoint", spec := "fnExactBestPoint", apart := false }
def FnExactBestPointSaid : Prop := fnExactBestPointRow.holds Try.pinned (OpenSpec.ofChange fnExactBestPointSpec)

/-- ITS FALSE NEIGHBOUR: 'it returns false'. Refute it at one input. -/
def fnExactBestPointWrong : ChangeSpec := { name := "fnExactBestPoint", fn := fun _ => fun
  | [d1, d2] => { results := [.lit (.bool false)], args := [d1, d2] }
  | _ => none }
def FnExactBestPointWrongFalsely : Prop := fnExactBestPointRow.holds Try.pinned (OpenSpec.ofChange fnExactBestPointWrong)

/-- 'laws.FnExactIsLocated': WHATEVER THE INPUT: true; the input reads as it did. -/
def fnExactIsLocatedSpec : ChangeSpec := { name := "fnExactIsLocated", fn := fun _ => fun
  | [d1, d2, d3] => { results := [.lit (.bool true)], args := [d1, d2, d3] }
  | _ => none }
def fnExactIsLocatedRow : OpenClaim := { program := "ytnocgcfepkdjeaa", sum := "81bc81aecbf40345f971c7b63b24a1a350671eadbdd2b954605be965a7bcb4be", func := "loop.example/g00875/laws.FnExactIsLocated", spec := "fnExactIsLocated", apart := false }
def FnExactIsLocatedSaid : Prop := fnExactIsLocatedRow.holds Try.pinned (OpenSpec.ofChange fnExactIsLocatedSpec)

/-- ITS FALSE NEIGHBOUR: 'it returns false'. Refute it at one input. -/
def fnExactIsLocatedWrong : ChangeSpec := { name := "fnExactIsLocated", fn := fun _ => fun
  | [d1, d2, d3] => { results := [.lit (.bool false)], args := [d1, d2, d3] }
  | _ => none }
def FnExactIsLocatedWrongFalsely : Prop := fnExactIsLocatedRow.holds Try.pinned (OpenSpec.ofChange fnExactIsLocatedWrong)

/-- 'laws.FnExactHelpfulSite': WHATEVER THE INPUT: true; the input reads as it did. -/
def fnExactHelpfulSiteSpec : ChangeSpec := { name := "fnExactHelpfulSite", fn := fun _ => fun
  | [d1, d2, d3] => { results := [.lit (.bool true)], args := [d1, d2, d3] }
  | _ => none }
def fnExactHelpfulSiteRow : OpenClaim := { program := "ytnocgcfepkdjeaa", sum := "81bc81aecbf40345f971c7b63b24a1a350671eadbdd2b954605be965a7bcb4be", func := "loop.example/g00875/laws.FnExactHelpfulSite", spec := "fnExactHelpfulSite", apart := false }
def FnExactHelpfulSiteSaid : Prop := fnExactHelpfulSiteRow.holds Try.pinned (OpenSpec.ofChange fnExactHelpfulSiteSpec)

/-- ITS FALSE NEIGHBOUR: 'it returns false'. Refute it at one input. -/
def fnExactHelpfulSiteWrong : ChangeSpec := { name := "fnExactHelpfulSite", fn := fun _ => fun
  | [d1, d2, d3] => { results := [.lit (.bool false)], args := [d1, d2, d3] }
  | _ => none }
def FnExactHelpfulSiteWrongFalsely : Prop := fnExactHelpfulSiteRow.holds Try.pinned (OpenSpec.ofChange fnExactHelpfulSiteWrong)

/-- 'laws.FnCover': WHATEVER THE INPUT: true; the input reads as it did. -/
def fnCoverSpec : ChangeSpec := { name := "fnCover", fn := fun _ => fun
  | [d] => { results := [.lit (.bool true)], args := [d] }
  | _ => none }
def fnCoverRow : OpenClaim := { program := "ytnocgcfepkdjeaa", sum := "81bc81aecbf40345f971c7b63b24a1a350671eadbdd2b954605be965a7bcb4be", func := "loop.example/g00875/laws.FnCover", spec := "fnCover", apart := false }
def FnCoverSaid : Prop := fnCoverRow.holds Try.pinned (OpenSpec.ofChange fnCoverSpec)

/-- ITS FALSE NEIGHBOUR: 'it returns false'. Refute it at one input. -/
def fnCoverWrong : ChangeSpec := { name := "fnCover", fn := fun _ => fun
  | [d] => { results := [.lit (.bool false)], args := [d] }
  | _ => none }
def FnCoverWrongFalsely : Prop := fnCoverRow.holds Try.pinned (OpenSpec.ofChange fnCoverWrong)

/-- 'laws.FnExactFittingBox': WHATEVER THE INPUT: true; the input reads as it did. -/
def fnExactFittingBoxSpec : ChangeSpec := { name := "fnExactFittingBox", fn := fun _ => fun
  | [d1, d2, d3] => { results := [.lit (.bool true)], args := [d1, d2, d3] }
  | _ => none }
def fnExactFittingBoxRow : OpenClaim := { program := "ytnocgcfepkdjeaa", sum := "81bc81aecbf40345f971c7b63b24a1a350671eadbdd2b954605be965a7bcb4be", func := "loop.example/g00875/laws.FnExactFittingBox", spec := "fnExactFittingBox", apart := false }
def FnExactFittingBoxSaid : Prop := fnExactFittingBoxRow.holds Try.pinned (OpenSpec.ofChange fnExactFittingBoxSpec)

/-- ITS FALSE NEIGHBOUR: 'it returns false'. Refute it at one input. -/
def fnExactFittingBoxWrong : ChangeSpec := { name := "fnExactFittingBox", fn := fun _ => fun
  | [d1, d2, d3] => { results := [.lit (.bool false)], args := [d1, d2, d3] }
  | _ => none }
def FnExactFittingBoxWrongFalsely : Prop := fnExactFittingBoxRow.holds Try.pinned (OpenSpec.ofChange fnExactFittingBoxWrong)

/-- 'laws.FnExactFittingPoints': WHATEVER THE INPUT: true; the input reads as it did. -/
def fnExactFittingPointsSpec : ChangeSpec := { name := "fnExactFittingPoints", fn := fun _ => fun
  | [d1, d2, d3] => { results := [.lit (.bool true)], args := [d1, d2, d3] }
  | _ => none }
def fnExactFittingPointsRow : OpenClaim := { program := "ytnocgcfepkdjeaa", sum := "81bc81aecbf40345f971c7b63b24a1a350671eadbdd2b954605be965a7bcb4be", func := "loop.example/g00875/laws.FnExactFittingPoints", spec := "fnExactFittingPoints", apart := false }
def FnExactFittingPointsSaid : Prop := fnExactFittingPointsRow.holds Try.pinned (OpenSpec.ofChange fnExactFittingPointsSpec)

/-- ITS FALSE NEIGHBOUR: 'it returns false'. Refute it at one input. -/
def fnExactFittingPointsWrong : ChangeSpec := { name := "fnExactFittingPoints", fn := fun _ => fun
  | [d1, d2, d3] => { results := [.lit (.bool false)], args := [d1, d2, d3] }
  | _ => none }
def FnExactFittingPointsWrongFalsely : Prop := fnExactFittingPointsRow.holds Try.pinned (OpenSpec.ofChange fnExactFittingPointsWrong)

/-- 'laws.FnArrivals': WHATEVER THE INPUT: true; the input reads as it did. -/
def fnArrivalsSpec : ChangeSpec := { name := "fnArrivals", fn := fun _ => fun
  | [d] => { results := [.lit (.bool true)], args := [d] }
  | _ => none }
def fnArrivalsRow : OpenClaim := { program := "ytnocgcfepkdjeaa", sum := "81bc81aecbf40345f971c7b63b24a1a350671eadbdd2b954605be965a7bcb4be", func := "loop.example/g00875/laws.FnArrivals", spec := "fnArrivals", apart := false }
def FnArrivalsSaid : Prop := fnArrivalsRow.holds Try.pinned (OpenSpec.ofChange fnArrivalsSpec)

/-- ITS FALSE NEIGHBOUR: 'it returns false'. Refute it at one input. -/
def fnArrivalsWrong : ChangeSpec := { name := "fnArrivals", fn := fun _ => fun
  | [d] => { results := [.lit (.bool false)], args := [d] }
  | _ => none }
def FnArrivalsWrongFalsely : Prop := fnArrivalsRow.holds Try.pinned (OpenSpec.ofChange fnArrivalsWrong)

/-- 'laws.FnLocating': WHATEVER THE INPUT: true; the input reads as it did. -/
def fnLocatingSpec : ChangeSpec := { name := "fnLocating", fn := fun _ => fun
  | [d] => { results := [.lit (.bool true)], args := [d] }
  | _ => none }
def fnLocatingRow : OpenClaim := { program := "ytnocgcfepkdjeaa", sum := "81bc81aecbf40345f971c7b63b24a1a350671eadbdd2b954605be965a7bcb4be", func := "loop.example/g00875/laws.FnLocating", spec := "fnLocating", apart := false }
def FnLocatingSaid : Prop := fnLocatingRow.holds Try.pinned (OpenSpec.ofChange fnLocatingSpec)

/-- ITS FALSE NEIGHBOUR: 'it returns false'. Refute it at one input. -/
def fnLocatingWrong : ChangeSpec := { name := "fnLocating", fn := fun _ => fun
  | [d] => { results := [.lit (.bool false)], args := [d] }
  | _ => none }
def FnLocatingWrongFalsely : Prop := fnLocatingRow.holds Try.pinned (OpenSpec.ofChange fnLocatingWrong)

/-- 'laws.FnBlind': WHATEVER THE INPUT: true; the input reads as it did. -/
def fnBlindSpec : ChangeSpec := { name := "fnBlind", fn := fun _ => fun
  | [d] => { results := [.lit (.bool true)], args := [d] }
  | _ => none }
def fnBlindRow : OpenClaim := { program := "ytnocgcfepkdjeaa", sum := "81bc81aecbf40345f971c7b63b24a1a350671eadbdd2b954605be965a7bcb4be", func := "loop.example/g00875/laws.FnBlind", spec := "fnBlind", apart := false }
def FnBlindSaid : Prop := fnBlindRow.holds Try.pinned (OpenSpec.ofChange fnBlindSpec)

/-- ITS FALSE NEIGHBOUR: 'it returns false'. Refute it at one input. -/
def fnBlindWrong : ChangeSpec := { name := "fnBlind", fn := fun _ => fun
  | [d] => { results := [.lit (.bool false)], args := [d] }
  | _ => none }
def FnBlindWrongFalsely : Prop := fnBlindRow.holds Try.pinned (OpenSpec.ofChange fnBlindWrong)

/- THE SECOND FORM. 'bulk': how many values and letters a reading holds, each counted each time it is reached (what is shared counts as often as it is met; a slice's spare places count too). A statement '..UptoSaid' is the law's where the arguments, and the package variables that the reading takes, are together of bulk at most 1048576: NARROWER than '..Said'. Prove '..Said' where nothing that the law and all that it calls make is longer than what came in: it says more and counts as full. Else prove '..UptoSaid'. A law counts once. -/
mutual
def uptoBulk {H : Type} : DataW H → Nat
  | .lit (.string bytes) => bytes.length + 1
  | .lit _ => 1
  | .nil => 1
  | .ptr d => uptoBulk d + 1
  | .slice elems spare => uptoBulkAll elems + uptoBulkAll spare + 1
  | .agg parts => uptoBulkAll parts + 1
  | .iface _ d => uptoBulk d + 1
  | .map entries => uptoBulkEntries entries + 1
  | .held _ => 1
def uptoBulkAll {H : Type} : List (DataW H) → Nat
  | [] => 0
  | d :: r => uptoBulk d + uptoBulkAll r
def uptoBulkEntries {H : Type} : List (Lit × DataW H) → Nat
  | [] => 0
  | x :: r => uptoBulkEntry x + uptoBulkEntries r
def uptoBulkEntry {H : Type} : Lit × DataW H → Nat
  | (.string bytes, d) => bytes.length + uptoBulk d + 1
  | (_, d) => uptoBulk d + 1
 end
def uptoSmall : (H : Type) → List (DataW H) → Bool := fun _ ds => decide (uptoBulkAll ds ≤ 1048576)
def OpenSpec.upto (s : _root_.Go.ChangeSpec) : _root_.Go.OpenSpec := { _root_.Go.OpenSpec.ofChange s with cond := some uptoSmall }

/-- 'laws.FnExactBlindPoints', WHERE WHAT IT READS IS OF BULK AT MOST 1048576: true; the input reads as it did. -/
def fnExactBlindPointsUptoRow : OpenClaim := { program := "ytnocgcfepkdjeaa", sum := "81bc81aecbf40345f971c7b63b24a1a350671eadbdd2b954605be965a7bcb4be", func := "loop.example/g00875/laws.FnExactBlindPoints", spec := "fnExactBlindPoints", apart := false, narrowed := true }
def FnExactBlindPointsUptoSaid : Prop := fnExactBlindPointsUptoRow.holds Try.pinned (OpenSpec.upto fnExactBlindPointsSpec)

/-- 'laws.FnExactBestPoint', WHERE WHAT IT READS IS OF BULK AT MOST 1048576: true; the input reads as it did. -/
def fnExactBestPointUptoRow : OpenClaim := { program := "ytnocgcfepkdjeaa", sum := "81bc81aecbf40345f971c7b63b24a1a350671eadbdd2b954605be965a7bcb4be", func := "loop.example/g00875/laws.FnExactBestPoint", spec := "fnExactBestPoint", apart := false, narrowed := true }
def FnExactBestPointUptoSaid : Prop := fnExactBestPointUptoRow.holds Try.pinned (OpenSpec.upto fnExactBestPointSpec)

/-- 'laws.FnExactIsLocated', WHERE WHAT IT READS IS OF BULK AT MOST 1048576: true; the input reads as it did. -/
def fnExactIsLocatedUptoRow : OpenClaim := { program := "ytnocgcfepkdjeaa", sum := "81bc81aecbf40345f971c7b63b24a1a350671eadbdd2b954605be965a7bcb4be", func := "loop.example/g00875/laws.FnExactIsLocated", spec := "fnExactIsLocated", apart := false, narrowed := true }
def FnExactIsLocatedUptoSaid : Prop := fnExactIsLocatedUptoRow.holds Try.pinned (OpenSpec.upto fnExactIsLocatedSpec)

/-- 'laws.FnExactHelpfulSite', WHERE WHAT IT READS IS OF BULK AT MOST 1048576: true; the input reads as it did. -/
def fnExactHelpfulSiteUptoRow : OpenClaim := { program := "ytnocgcfepkdjeaa", sum := "81bc81aecbf40345f971c7b63b24a1a350671eadbdd2b954605be965a7bcb4be", func := "loop.example/g00875/laws.FnExactHelpfulSite", spec := "fnExactHelpfulSite", apart := false, narrowed := true }
def FnExactHelpfulSiteUptoSaid : Prop := fnExactHelpfulSiteUptoRow.holds Try.pinned (OpenSpec.upto fnExactHelpfulSiteSpec)

/-- 'laws.FnCover', WHERE WHAT IT READS IS OF BULK AT MOST 1048576: true; the input reads as it did. -/
def fnCoverUptoRow : OpenClaim := { program := "ytnocgcfepkdjeaa", sum := "81bc81aecbf40345f971c7b63b24a1a350671eadbdd2b954605be965a7bcb4be", func := "loop.example/g00875/laws.FnCover", spec := "fnCover", apart := false, narrowed := true }
def FnCoverUptoSaid : Prop := fnCoverUptoRow.holds Try.pinned (OpenSpec.upto fnCoverSpec)

/-- 'laws.FnExactFittingBox', WHERE WHAT IT READS IS OF BULK AT MOST 1048576: true; the input reads as it did. -/
def fnExactFittingBoxUptoRow : OpenClaim := { program := "ytnocgcfepkdjeaa", sum := "81bc81aecbf40345f971c7b63b24a1a350671eadbdd2b954605be965a7bcb4be", func := "loop.example/g00875/laws.FnExactFittingBox", spec := "fnExactFittingBox", apart := false, narrowed := true }
def FnExactFittingBoxUptoSaid : Prop := fnExactFittingBoxUptoRow.holds Try.pinned (OpenSpec.upto fnExactFittingBoxSpec)

/-- 'laws.FnExactFittingPoints', WHERE WHAT IT READS IS OF BULK AT MOST 1048576: true; the input reads as it did. -/
def fnExactFittingPointsUptoRow : OpenClaim := { program := "ytnocgcfepkdjeaa", sum := "81bc81aecbf40345f971c7b63b24a1a350671eadbdd2b954605be965a7bcb4be", func := "loop.example/g00875/laws.FnExactFittingPoints", spec := "fnExactFittingPoints", apart := false, narrowed := true }
def FnExactFittingPointsUptoSaid : Prop := fnExactFittingPointsUptoRow.holds Try.pinned (OpenSpec.upto fnExactFittingPointsSpec)

/-- 'laws.FnArrivals', WHERE WHAT IT READS IS OF BULK AT MOST 1048576: true; the input reads as it did. -/
def fnArrivalsUptoRow : OpenClaim := { program := "ytnocgcfepkdjeaa", sum := "81bc81aecbf40345f971c7b63b24a1a350671eadbdd2b954605be965a7bcb4be", func := "loop.example/g00875/laws.FnArrivals", spec := "fnArrivals", apart := false, narrowed := true }
def FnArrivalsUptoSaid : Prop := fnArrivalsUptoRow.holds Try.pinned (OpenSpec.upto fnArrivalsSpec)

/-- 'laws.FnLocating', WHERE WHAT IT READS IS OF BULK AT MOST 1048576: true; the input reads as it did. -/
def fnLocatingUptoRow : OpenClaim := { program := "ytnocgcfepkdjeaa", sum := "81bc81aecbf40345f971c7b63b24a1a350671eadbdd2b954605be965a7bcb4be", func := "loop.example/g00875/laws.FnLocating", spec := "fnLocating", apart := false, narrowed := true }
def FnLocatingUptoSaid : Prop := fnLocatingUptoRow.holds Try.pinned (OpenSpec.upto fnLocatingSpec)

/-- 'laws.FnBlind', WHERE WHAT IT READS IS OF BULK AT MOST 1048576: true; the input reads as it did. -/
def fnBlindUptoRow : OpenClaim := { program := "ytnocgcfepkdjeaa", sum := "81bc81aecbf40345f971c7b63b24a1a350671eadbdd2b954605be965a7bcb4be", func := "loop.example/g00875/laws.FnBlind", spec := "fnBlind", apart := false, narrowed := true }
def FnBlindUptoSaid : Prop := fnBlindUptoRow.holds Try.pinned (OpenSpec.upto fnBlindSpec)

end Rows
end Go.Proofs.Ytnocgcfepkdjeaa
