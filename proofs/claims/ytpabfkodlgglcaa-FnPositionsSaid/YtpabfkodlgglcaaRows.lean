/-
  No cell of these rows narrows 'for every input' (looked for: loops, veiled, ifaces, maps, wideKeys, modest, calm, conditions, laid).
  DERIVED. THE GIVEN ROWS OF THIS SEAT. 11 by the template 'for every input the law returns true; each argument reads behind the call as it read before'; 0 by the template 'total and deterministic' (their statements: YtpabfkodlgglcaaTotals.lean).
  GIVEN WITH THE SEED: the statements are not yours to turn. If you find one false, say at which input.
  Laid BY PROGRAM, IN A SANDBOX (cutbox-rows.mjs): the forced cells as the released guide's own fill.sh prints them over the translation 14d4ab94ba79edec… (all of the seat's roots in one cut). By AI agents, Wed Nov 11 2026. No macro, syntax, notation, axiom, sorry.
-/
import Derived.Test.YtpabfkodlgglcaaChecked
import GoSem.Claim
import GoSem.ClaimJoined
import GoSem.ClaimMapViews
import Derived.JoinedTies
import Derived.KernelRfl
namespace Go.Proofs.Ytpabfkodlgglcaa
/- THE CELL 'sum', in the pinned program and in every row, IS THE sha256 OF THE DUMP (.gsa) THAT YtpabfkodlgglcaaProg.lean LOADS. Nothing in Lean hashes anything: it is a label: what it is worth is what the hold of that sum in a sandbox is worth. -/
noncomputable def Try.pinned : Pinned := { name := "ytpabfkodlgglcaa", sum := "14d4ab94ba79edec7d8a0bd58f63cbc50d06eb8b3f04389506b5940f690495ca", checked := Try.checked }
namespace Rows
def none {H : Type} : Left H := { results := [], args := [] }

/-- 'laws.FnExactIsValidPlace': WHATEVER THE INPUT: true; the input reads as it did. -/
def fnExactIsValidPlaceSpec : ChangeSpec := { name := "fnExactIsValidPlace", fn := fun _ => fun
  | [d] => { results := [.lit (.bool true)], args := [d] }
  | _ => none }
def fnExactIsValidPlaceRow : OpenClaim := { program := "ytpabfkodlgglcaa", sum := "14d4ab94ba79edec7d8a0bd58f63cbc50d06eb8b3f04389506b5940f690495ca", func := "loop.example/g00875/laws.FnExactIsValidPlace", spec := "fnExactIsValidPlace", apart := false }
def FnExactIsValidPlaceSaid : Prop := fnExactIsValidPlaceRow.holds Try.pinned (OpenSpec.ofChange fnExactIsValidPlaceSpec)

/-- ITS FALSE NEIGHBOUR: 'it returns false'. Refute it at one input. -/
def fnExactIsValidPlaceWrong : ChangeSpec := { name := "fnExactIsValidPlace", fn := fun _ => fun
  | [d] => { results := [.lit (.bool false)], args := [d] }
  | _ => none }
def FnExactIsValidPlaceWrongFalsely : Prop := fnExactIsValidPlaceRow.holds Try.pinned (OpenSpec.ofChange fnExactIsValidPlaceWrong)

/-- 'laws.FnExactIsValidReport': WHATEVER THE INPUT: true; the input reads as it did. -/
def fnExactIsValidReportSpec : ChangeSpec := { name := "fnExactIsValidReport", fn := fun _ => fun
  | [d] => { results := [.lit (.bool true)], args := [d] }
  | _ => none }
def fnExactIsValidReportRow : OpenClaim := { program := "ytpabfkodlgglcaa", sum := "14d4ab94ba79edec7d8a0bd58f63cbc50d06eb8b3f04389506b5940f690495ca", func := "loop.example/g00875/laws.FnExactIsValidReport", spec := "fnExactIsValidReport", apart := false }
def FnExactIsValidReportSaid : Prop := fnExactIsValidReportRow.holds Try.pinned (OpenSpec.ofChange fnExactIsValidReportSpec)

/-- ITS FALSE NEIGHBOUR: 'it returns false'. Refute it at one input. -/
def fnExactIsValidReportWrong : ChangeSpec := { name := "fnExactIsValidReport", fn := fun _ => fun
  | [d] => { results := [.lit (.bool false)], args := [d] }
  | _ => none }
def FnExactIsValidReportWrongFalsely : Prop := fnExactIsValidReportRow.holds Try.pinned (OpenSpec.ofChange fnExactIsValidReportWrong)

/-- 'laws.FnPositions': WHATEVER THE INPUT: true; the input reads as it did. -/
def fnPositionsSpec : ChangeSpec := { name := "fnPositions", fn := fun _ => fun
  | [d] => { results := [.lit (.bool true)], args := [d] }
  | _ => none }
def fnPositionsRow : OpenClaim := { program := "ytpabfkodlgglcaa", sum := "14d4ab94ba79edec7d8a0bd58f63cbc50d06eb8b3f04389506b5940f690495ca", func := "loop.example/g00875/laws.FnPositions", spec := "fnPositions", apart := false }
def FnPositionsSaid : Prop := fnPositionsRow.holds Try.pinned (OpenSpec.ofChange fnPositionsSpec)

/-- ITS FALSE NEIGHBOUR: 'it returns false'. Refute it at one input. -/
def fnPositionsWrong : ChangeSpec := { name := "fnPositions", fn := fun _ => fun
  | [d] => { results := [.lit (.bool false)], args := [d] }
  | _ => none }
def FnPositionsWrongFalsely : Prop := fnPositionsRow.holds Try.pinned (OpenSpec.ofChange fnPositionsWrong)

/-- 'laws.FnExactPackReport': WHATEVER THE INPUT: true; the input reads as it did. -/
def fnExactPackReportSpec : ChangeSpec := { name := "fnExactPackReport", fn := fun _ => fun
  | [d] => { results := [.lit (.bool true)], args := [d] }
  | _ => none }
def fnExactPackReportRow : OpenClaim := { program := "ytpabfkodlgglcaa", sum := "14d4ab94ba79edec7d8a0bd58f63cbc50d06eb8b3f04389506b5940f690495ca", func := "loop.example/g00875/laws.FnExactPackReport", spec := "fnExactPackReport", apart := false }
def FnExactPackReportSaid : Prop := fnExactPackReportRow.holds Try.pinned (OpenSpec.ofChange fnExactPackReportSpec)

/-- ITS FALSE NEIGHBOUR: 'it returns false'. Refute it at one input. -/
def fnExactPackReportWrong : ChangeSpec := { name := "fnExactPackReport", fn := fun _ => fun
  | [d] => { results := [.lit (.bool false)], args := [d] }
  | _ => none }
def FnExactPackReportWrongFalsely : Prop := fnExactPackReportRow.holds Try.pinned (OpenSpec.ofChange fnExactPackReportWrong)

/-- 'laws.FnExactUnpackReport': WHATEVER THE INPUT: true; the input reads as it did. -/
def fnExactUnpackReportSpec : ChangeSpec := { name := "fnExactUnpackReport", fn := fun _ => fun
  | [d] => { results := [.lit (.bool true)], args := [d] }
  | _ => none }
def fnExactUnpackReportRow : OpenClaim := { program := "ytpabfkodlgglcaa", sum := "14d4ab94ba79edec7d8a0bd58f63cbc50d06eb8b3f04389506b5940f690495ca", func := "loop.example/g00875/laws.FnExactUnpackReport", spec := "fnExactUnpackReport", apart := false }
def FnExactUnpackReportSaid : Prop := fnExactUnpackReportRow.holds Try.pinned (OpenSpec.ofChange fnExactUnpackReportSpec)

/-- ITS FALSE NEIGHBOUR: 'it returns false'. Refute it at one input. -/
def fnExactUnpackReportWrong : ChangeSpec := { name := "fnExactUnpackReport", fn := fun _ => fun
  | [d] => { results := [.lit (.bool false)], args := [d] }
  | _ => none }
def FnExactUnpackReportWrongFalsely : Prop := fnExactUnpackReportRow.holds Try.pinned (OpenSpec.ofChange fnExactUnpackReportWrong)

/-- 'laws.FnExactReportOf': WHATEVER THE INPUT: true; the input reads as it did. -/
def fnExactReportOfSpec : ChangeSpec := { name := "fnExactReportOf", fn := fun _ => fun
  | [d1, d2] => { results := [.lit (.bool true)], args := [d1, d2] }
  | _ => none }
def fnExactReportOfRow : OpenClaim := { program := "ytpabfkodlgglcaa", sum := "14d4ab94ba79edec7d8a0bd58f63cbc50d06eb8b3f04389506b5940f690495ca", func := "loop.example/g00875/laws.FnExactReportOf", spec := "fnExactReportOf", apart := false }
def FnExactReportOfSaid : Prop := fnExactReportOfRow.holds Try.pinned (OpenSpec.ofChange fnExactReportOfSpec)

/-- ITS FALSE NEIGHBOUR: 'it returns false'. Refute it at one input. -/
def fnExactReportOfWrong : ChangeSpec := { name := "fnExactReportOf", fn := fun _ => fun
  | [d1, d2] => { results := [.lit (.bool false)], args := [d1, d2] }
  | _ => none }
def FnExactReportOfWrongFalsely : Prop := fnExactReportOfRow.holds Try.pinned (OpenSpec.ofChange fnExactReportOfWrong)

/-- 'laws.FnExactDecodePair': WHATEVER THE INPUT: true; the input reads as it did. -/
def fnExactDecodePairSpec : ChangeSpec := { name := "fnExactDecodePair", fn := fun _ => fun
  | [d1, d2] => { results := [.lit (.bool true)], args := [d1, d2] }
  | _ => none }
def fnExactDecodePairRow : OpenClaim := { program := "ytpabfkodlgglcaa", sum := "14d4ab94ba79edec7d8a0bd58f63cbc50d06eb8b3f04389506b5940f690495ca", func := "loop.example/g00875/laws.FnExactDecodePair", spec := "fnExactDecodePair", apart := false }
def FnExactDecodePairSaid : Prop := fnExactDecodePairRow.holds Try.pinned (OpenSpec.ofChange fnExactDecodePairSpec)

/-- ITS FALSE NEIGHBOUR: 'it returns false'. Refute it at one input. -/
def fnExactDecodePairWrong : ChangeSpec := { name := "fnExactDecodePair", fn := fun _ => fun
  | [d1, d2] => { results := [.lit (.bool false)], args := [d1, d2] }
  | _ => none }
def FnExactDecodePairWrongFalsely : Prop := fnExactDecodePairRow.holds Try.pinned (OpenSpec.ofChange fnExactDecodePairWrong)

/-- 'laws.FnExactDecodeNear': WHATEVER THE INPUT: true; the input reads as it did. -/
def fnExactDecodeNearSpec : ChangeSpec := { name := "fnExactDecodeNear", fn := fun _ => fun
  | [d1, d2] => { results := [.lit (.bool true)], args := [d1, d2] }
  | _ => none }
def fnExactDecodeNearRow : OpenClaim := { program := "ytpabfkodlgglcaa", sum := "14d4ab94ba79edec7d8a0bd58f63cbc50d06eb8b3f04389506b5940f690495ca", func := "loop.example/g00875/laws.FnExactDecodeNear", spec := "fnExactDecodeNear", apart := false }
def FnExactDecodeNearSaid : Prop := fnExactDecodeNearRow.holds Try.pinned (OpenSpec.ofChange fnExactDecodeNearSpec)

/-- ITS FALSE NEIGHBOUR: 'it returns false'. Refute it at one input. -/
def fnExactDecodeNearWrong : ChangeSpec := { name := "fnExactDecodeNear", fn := fun _ => fun
  | [d1, d2] => { results := [.lit (.bool false)], args := [d1, d2] }
  | _ => none }
def FnExactDecodeNearWrongFalsely : Prop := fnExactDecodeNearRow.holds Try.pinned (OpenSpec.ofChange fnExactDecodeNearWrong)

/-- 'laws.FnExactPlacesWith': WHATEVER THE INPUT: true; the input reads as it did. -/
def fnExactPlacesWithSpec : ChangeSpec := { name := "fnExactPlacesWith", fn := fun _ => fun
  | [d1, d2, d3] => { results := [.lit (.bool true)], args := [d1, d2, d3] }
  | _ => none }
def fnExactPlacesWithRow : OpenClaim := { program := "ytpabfkodlgglcaa", sum := "14d4ab94ba79edec7d8a0bd58f63cbc50d06eb8b3f04389506b5940f690495ca", func := "loop.example/g00875/laws.FnExactPlacesWith", spec := "fnExactPlacesWith", apart := false }
def FnExactPlacesWithSaid : Prop := fnExactPlacesWithRow.holds Try.pinned (OpenSpec.ofChange fnExactPlacesWithSpec)

/-- ITS FALSE NEIGHBOUR: 'it returns false'. Refute it at one input. -/
def fnExactPlacesWithWrong : ChangeSpec := { name := "fnExactPlacesWith", fn := fun _ => fun
  | [d1, d2, d3] => { results := [.lit (.bool false)], args := [d1, d2, d3] }
  | _ => none }
def FnExactPlacesWithWrongFalsely : Prop := fnExactPlacesWithRow.holds Try.pinned (OpenSpec.ofChange fnExactPlacesWithWrong)

/-- 'laws.FnExactDecodeMoved': WHATEVER THE INPUT: true; the input reads as it did. -/
def fnExactDecodeMovedSpec : ChangeSpec := { name := "fnExactDecodeMoved", fn := fun _ => fun
  | [d1, d2, d3] => { results := [.lit (.bool true)], args := [d1, d2, d3] }
  | _ => none }
def fnExactDecodeMovedRow : OpenClaim := { program := "ytpabfkodlgglcaa", sum := "14d4ab94ba79edec7d8a0bd58f63cbc50d06eb8b3f04389506b5940f690495ca", func := "loop.example/g00875/laws.FnExactDecodeMoved", spec := "fnExactDecodeMoved", apart := false }
def FnExactDecodeMovedSaid : Prop := fnExactDecodeMovedRow.holds Try.pinned (OpenSpec.ofChange fnExactDecodeMovedSpec)

/-- ITS FALSE NEIGHBOUR: 'it returns false'. Refute it at one input. -/
def fnExactDecodeMovedWrong : ChangeSpec := { name := "fnExactDecodeMoved", fn := fun _ => fun
  | [d1, d2, d3] => { results := [.lit (.bool false)], args := [d1, d2, d3] }
  | _ => none }
def FnExactDecodeMovedWrongFalsely : Prop := fnExactDecodeMovedRow.holds Try.pinned (OpenSpec.ofChange fnExactDecodeMovedWrong)

/-- 'laws.FnReports': WHATEVER THE INPUT: true; the input reads as it did. -/
def fnReportsSpec : ChangeSpec := { name := "fnReports", fn := fun _ => fun
  | [d] => { results := [.lit (.bool true)], args := [d] }
  | _ => none }
def fnReportsRow : OpenClaim := { program := "ytpabfkodlgglcaa", sum := "14d4ab94ba79edec7d8a0bd58f63cbc50d06eb8b3f04389506b5940f690495ca", func := "loop.example/g00875/laws.FnReports", spec := "fnReports", apart := false }
def FnReportsSaid : Prop := fnReportsRow.holds Try.pinned (OpenSpec.ofChange fnReportsSpec)

/-- ITS FALSE NEIGHBOUR: 'it returns false'. Refute it at one input. -/
def fnReportsWrong : ChangeSpec := { name := "fnReports", fn := fun _ => fun
  | [d] => { results := [.lit (.bool false)], args := [d] }
  | _ => none }
def FnReportsWrongFalsely : Prop := fnReportsRow.holds Try.pinned (OpenSpec.ofChange fnReportsWrong)

/- THE SECOND FORM. 'bulk': how many values and letters a reading holds, each counted each time it is reached (what is shared counts as often as it is met; a slice's spare places count too). A statement '..UptoSaid' is the law's where the arguments, and the package variables that the reading takes, are together of bulk at most 1048576: NARROWER than '..Said'. Prove '..Said' where nothing that the law and all that it calls make is longer than what came in: it says more and counts as full. Else prove '..UptoSaid'. A law counts once. -/
mutual
def uptoBulk {H : Type} : DataW H → Nat
  | .lit (.string bytes) => bytes.length + 1
  | .lit _ => 1
  | .nil => 1
  | .ptr d => uptoBulk d + 1
  | .slice elems spare => uptoBulkAll elems + uptoBulkAll spare + 1
  | .agg parts => uptoBulkAll parts + 1
  | .iface _ d => uptoBulk d + 1
  | .map entries => uptoBulkEntries entries + 1
  | .held _ => 1
def uptoBulkAll {H : Type} : List (DataW H) → Nat
  | [] => 0
  | d :: r => uptoBulk d + uptoBulkAll r
def uptoBulkEntries {H : Type} : List (Lit × DataW H) → Nat
  | [] => 0
  | x :: r => uptoBulkEntry x + uptoBulkEntries r
def uptoBulkEntry {H : Type} : Lit × DataW H → Nat
  | (.string bytes, d) => bytes.length + uptoBulk d + 1
  | (_, d) => uptoBulk d + 1
 end
def uptoSmall : (H : Type) → List (DataW H) → Bool := fun _ ds => decide (uptoBulkAll ds ≤ 1048576)
def OpenSpec.upto (s : _root_.Go.ChangeSpec) : _root_.Go.OpenSpec := { _root_.Go.OpenSpec.ofChange s with cond := some uptoSmall }

/-- 'laws.FnExactIsValidPlace', WHERE WHAT IT READS IS OF BULK AT MOST 1048576: true; the input reads as it did. -/
def fnExactIsValidPlaceUptoRow : OpenClaim := { program := "ytpabfkodlgglcaa", sum := "14d4ab94ba79edec7d8a0bd58f63cbc50d06eb8b3f04389506b5940f690495ca", func := "loop.example/g00875/laws.FnExactIsValidPlace", spec := "fnExactIsValidPlace", apart := false, narrowed := true }
def FnExactIsValidPlaceUptoSaid : Prop := fnExactIsValidPlaceUptoRow.holds Try.pinned (OpenSpec.upto fnExactIsValidPlaceSpec)

/-- 'laws.FnExactIsValidReport', WHERE WHAT IT READS IS OF BULK AT MOST 1048576: true; the input reads as it did. -/
def fnExactIsValidReportUptoRow : OpenClaim := { program := "ytpabfkodlgglcaa", sum := "14d4ab94ba79edec7d8a0bd58f63cbc50d06eb8b3f04389506b5940f690495ca", func := "loop.example/g00875/laws.FnExactIsValidReport", spec := "fnExactIsValidReport", apart := false, narrowed := true }
def FnExactIsValidReportUptoSaid : Prop := fnExactIsValidReportUptoRow.holds Try.pinned (OpenSpec.upto fnExactIsValidReportSpec)

/-- 'laws.FnPositions', WHERE WHAT IT READS IS OF BULK AT MOST 1048576: true; the input reads as it did. -/
def fnPositionsUptoRow : OpenClaim := { program := "ytpabfkodlgglcaa", sum := "14d4ab94ba79edec7d8a0bd58f63cbc50d06eb8b3f04389506b5940f690495ca", func := "loop.example/g00875/laws.FnPositions", spec := "fnPositions", apart := false, narrowed := true }
def FnPositionsUptoSaid : Prop := fnPositionsUptoRow.holds Try.pinned (OpenSpec.upto fnPositionsSpec)

/-- 'laws.FnExactPackReport', WHERE WHAT IT READS IS OF BULK AT MOST 1048576: true; the input reads as it did. -/
def fnExactPackReportUptoRow : OpenClaim := { program := "ytpabfkodlgglcaa", sum := "14d4ab94ba79edec7d8a0bd58f63cbc50d06eb8b3f04389506b5940f690495ca", func := "loop.example/g00875/laws.FnExactPackReport", spec := "fnExactPackReport", apart := false, narrowed := true }
def FnExactPackReportUptoSaid : Prop := fnExactPackReportUptoRow.holds Try.pinned (OpenSpec.upto fnExactPackReportSpec)

/-- 'laws.FnExactUnpackReport', WHERE WHAT IT READS IS OF BULK AT MOST 1048576: true; the input reads as it did. -/
def fnExactUnpackReportUptoRow : OpenClaim := { program := "ytpabfkodlgglcaa", sum := "14d4ab94ba79edec7d8a0bd58f63cbc50d06eb8b3f04389506b5940f690495ca", func := "loop.example/g00875/laws.FnExactUnpackReport", spec := "fnExactUnpackReport", apart := false, narrowed := true }
def FnExactUnpackReportUptoSaid : Prop := fnExactUnpackReportUptoRow.holds Try.pinned (OpenSpec.upto fnExactUnpackReportSpec)

/-- 'laws.FnExactReportOf', WHERE WHAT IT READS IS OF BULK AT MOST 1048576: true; the input reads as it did. -/
def fnExactReportOfUptoRow : OpenClaim := { program := "ytpabfkodlgglcaa", sum := "14d4ab94ba79edec7d8a0bd58f63cbc50d06eb8b3f04389506b5940f690495ca", func := "loop.example/g00875/laws.FnExactReportOf", spec := "fnExactReportOf", apart := false, narrowed := true }
def FnExactReportOfUptoSaid : Prop := fnExactReportOfUptoRow.holds Try.pinned (OpenSpec.upto fnExactReportOfSpec)

/-- 'laws.FnExactDecodePair', WHERE WHAT IT READS IS OF BULK AT MOST 1048576: true; the input reads as it did. -/
def fnExactDecodePairUptoRow : OpenClaim := { program := "ytpabfkodlgglcaa", sum := "14d4ab94ba79edec7d8a0bd58f63cbc50d06eb8b3f04389506b5940f690495ca", func := "loop.example/g00875/laws.FnExactDecodePair", spec := "fnExactDecodePair", apart := false, narrowed := true }
def FnExactDecodePairUptoSaid : Prop := fnExactDecodePairUptoRow.holds Try.pinned (OpenSpec.upto fnExactDecodePairSpec)

/-- 'laws.FnExactDecodeNear', WHERE WHAT IT READS IS OF BULK AT MOST 1048576: true; the input reads as it did. -/
def fnExactDecodeNearUptoRow : OpenClaim := { program := "ytpabfkodlgglcaa", sum := "14d4ab94ba79edec7d8a0bd58f63cbc50d06eb8b3f04389506b5940f690495ca", func := "loop.example/g00875/laws.FnExactDecodeNear", spec := "fnExactDecodeNear", apart := false, narrowed := true }
def FnExactDecodeNearUptoSaid : Prop := fnExactDecodeNearUptoRow.holds Try.pinned (OpenSpec.upto fnExactDecodeNearSpec)

/-- 'laws.FnExactPlacesWith', WHERE WHAT IT READS IS OF BULK AT MOST 1048576: true; the input reads as it did. -/
def fnExactPlacesWithUptoRow : OpenClaim := { program := "ytpabfkodlgglcaa", sum := "14d4ab94ba79edec7d8a0bd58f63cbc50d06eb8b3f04389506b5940f690495ca", func := "loop.example/g00875/laws.FnExactPlacesWith", spec := "fnExactPlacesWith", apart := false, narrowed := true }
def FnExactPlacesWithUptoSaid : Prop := fnExactPlacesWithUptoRow.holds Try.pinned (OpenSpec.upto fnExactPlacesWithSpec)

/-- 'laws.FnExactDecodeMoved', WHERE WHAT IT READS IS OF BULK AT MOST 1048576: true; the input reads as it did. -/
def fnExactDecodeMovedUptoRow : OpenClaim := { program := "ytpabfkodlgglcaa", sum := "14d4ab94ba79edec7d8a0bd58f63cbc50d06eb8b3f04389506b5940f690495ca", func := "loop.example/g00875/laws.FnExactDecodeMoved", spec := "fnExactDecodeMoved", apart := false, narrowed := true }
def FnExactDecodeMovedUptoSaid : Prop := fnExactDecodeMovedUptoRow.holds Try.pinned (OpenSpec.upto fnExactDecodeMovedSpec)

/-- 'laws.FnReports', WHERE WHAT IT READS IS OF BULK AT MOST 1048576: true; the input reads as it did. -/
def fnReportsUptoRow : OpenClaim := { program := "ytpabfkodlgglcaa", sum := "14d4ab94ba79edec7d8a0bd58f63cbc50d06eb8b3f04389506b5940f690495ca", func := "loop.example/g00875/laws.FnReports", spec := "fnReports", apart := false, narrowed := true }
def FnReportsUptoSaid : Prop := fnReportsUptoRow.holds Try.pinned (OpenSpec.upto fnReportsSpec)

end Rows
end Go.Proofs.Ytpabfkodlgglcaa
