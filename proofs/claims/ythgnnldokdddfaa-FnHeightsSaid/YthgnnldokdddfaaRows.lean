/-
  No cell of these rows narrows 'for every input' (looked for: loops, veiled, ifaces, maps, wideKeys, modest, calm, conditions, laid).
  DERIVED. THE GIVEN ROWS OF THIS SEAT. 6 by the template 'for every input the law returns true; each argument reads behind the call as it read before'; 0 by the template 'total and deterministic' (their statements: YthgnnldokdddfaaTotals.lean).
  GIVEN WITH THE SEED: the statements are not yours to turn. If you find one false, say at which input.
  Laid BY PROGRAM, IN A SANDBOX (cutbox-rows.mjs): the forced cells as the released guide's own fill.sh prints them over the translation 4309af78726d0b68… (all of the seat's roots in one cut). By AI agents, Wed Nov 11 2026. No macro, syntax, notation, axiom, sorry.
-/
import Derived.Test.YthgnnldokdddfaaChecked
import GoSem.Claim
import GoSem.ClaimJoined
import GoSem.ClaimMapViews
import Derived.JoinedTies
import Derived.KernelRfl
namespace Go.Proofs.Ythgnnldokdddfaa
/- THE CELL 'sum', in the pinned program and in every row, IS THE sha256 OF THE DUMP (.gsa) THAT YthgnnldokdddfaaProg.lean LOADS. Nothing in Lean hashes anything: it is a label: what it is worth is what the hold of that sum in a sandbox is worth. -/
noncomputable def Try.pinned : Pinned := { name := "ythgnnldokdddfaa", sum := "4309af78726d0b68889d744983740a80aaf53a5520398b60c94fa2c25ab363ee", checked := Try.checked }
namespace Rows
def none {H : Type} : Left H := { results := [], args := [] }

/-- 'laws.FnExactHeightText': WHATEVER THE INPUT: true; the input reads as it did. -/
def fnExactHeightTextSpec : ChangeSpec := { name := "fnExactHeightText", fn := fun _ => fun
  | [d] => { results := [.lit (.bool true)], args := [d] }
  | _ => none }
def fnExactHeightTextRow : OpenClaim := { program := "ythgnnldokdddfaa", sum := "4309af78726d0b68889d744983740a80aaf53a5520398b60c94fa2c25ab363ee", func := "loop.example/g00875/laws.FnExactHeightText", spec := "fnExactHeightText", recurses := true, apart := false }
def FnExactHeightTextSaid : Prop := fnExactHeightTextRow.holds Try.pinned (OpenSpec.ofChange fnExactHeightTextSpec)

/-- ITS FALSE NEIGHBOUR: 'it returns false'. Refute it at one input. -/
def fnExactHeightTextWrong : ChangeSpec := { name := "fnExactHeightText", fn := fun _ => fun
  | [d] => { results := [.lit (.bool false)], args := [d] }
  | _ => none }
def FnExactHeightTextWrongFalsely : Prop := fnExactHeightTextRow.holds Try.pinned (OpenSpec.ofChange fnExactHeightTextWrong)

/-- 'laws.FnExactIsValidPairs': WHATEVER THE INPUT: true; the input reads as it did. -/
def fnExactIsValidPairsSpec : ChangeSpec := { name := "fnExactIsValidPairs", fn := fun _ => fun
  | [d] => { results := [.lit (.bool true)], args := [d] }
  | _ => none }
def fnExactIsValidPairsRow : OpenClaim := { program := "ythgnnldokdddfaa", sum := "4309af78726d0b68889d744983740a80aaf53a5520398b60c94fa2c25ab363ee", func := "loop.example/g00875/laws.FnExactIsValidPairs", spec := "fnExactIsValidPairs", apart := false }
def FnExactIsValidPairsSaid : Prop := fnExactIsValidPairsRow.holds Try.pinned (OpenSpec.ofChange fnExactIsValidPairsSpec)

/-- ITS FALSE NEIGHBOUR: 'it returns false'. Refute it at one input. -/
def fnExactIsValidPairsWrong : ChangeSpec := { name := "fnExactIsValidPairs", fn := fun _ => fun
  | [d] => { results := [.lit (.bool false)], args := [d] }
  | _ => none }
def FnExactIsValidPairsWrongFalsely : Prop := fnExactIsValidPairsRow.holds Try.pinned (OpenSpec.ofChange fnExactIsValidPairsWrong)

/-- 'laws.FnExactChangedBits': WHATEVER THE INPUT: true; the input reads as it did. -/
def fnExactChangedBitsSpec : ChangeSpec := { name := "fnExactChangedBits", fn := fun _ => fun
  | [d1, d2] => { results := [.lit (.bool true)], args := [d1, d2] }
  | _ => none }
def fnExactChangedBitsRow : OpenClaim := { program := "ythgnnldokdddfaa", sum := "4309af78726d0b68889d744983740a80aaf53a5520398b60c94fa2c25ab363ee", func := "loop.example/g00875/laws.FnExactChangedBits", spec := "fnExactChangedBits", apart := false }
def FnExactChangedBitsSaid : Prop := fnExactChangedBitsRow.holds Try.pinned (OpenSpec.ofChange fnExactChangedBitsSpec)

/-- ITS FALSE NEIGHBOUR: 'it returns false'. Refute it at one input. -/
def fnExactChangedBitsWrong : ChangeSpec := { name := "fnExactChangedBits", fn := fun _ => fun
  | [d1, d2] => { results := [.lit (.bool false)], args := [d1, d2] }
  | _ => none }
def FnExactChangedBitsWrongFalsely : Prop := fnExactChangedBitsRow.holds Try.pinned (OpenSpec.ofChange fnExactChangedBitsWrong)

/-- 'laws.FnExactParseHeight': WHATEVER THE INPUT: true; the input reads as it did. -/
def fnExactParseHeightSpec : ChangeSpec := { name := "fnExactParseHeight", fn := fun _ => fun
  | [d] => { results := [.lit (.bool true)], args := [d] }
  | _ => none }
def fnExactParseHeightRow : OpenClaim := { program := "ythgnnldokdddfaa", sum := "4309af78726d0b68889d744983740a80aaf53a5520398b60c94fa2c25ab363ee", func := "loop.example/g00875/laws.FnExactParseHeight", spec := "fnExactParseHeight", recurses := true, apart := false }
def FnExactParseHeightSaid : Prop := fnExactParseHeightRow.holds Try.pinned (OpenSpec.ofChange fnExactParseHeightSpec)

/-- ITS FALSE NEIGHBOUR: 'it returns false'. Refute it at one input. -/
def fnExactParseHeightWrong : ChangeSpec := { name := "fnExactParseHeight", fn := fun _ => fun
  | [d] => { results := [.lit (.bool false)], args := [d] }
  | _ => none }
def FnExactParseHeightWrongFalsely : Prop := fnExactParseHeightRow.holds Try.pinned (OpenSpec.ofChange fnExactParseHeightWrong)

/-- 'laws.FnHeightCodes': WHATEVER THE INPUT: true; the input reads as it did. -/
def fnHeightCodesSpec : ChangeSpec := { name := "fnHeightCodes", fn := fun _ => fun
  | [d] => { results := [.lit (.bool true)], args := [d] }
  | _ => none }
def fnHeightCodesRow : OpenClaim := { program := "ythgnnldokdddfaa", sum := "4309af78726d0b68889d744983740a80aaf53a5520398b60c94fa2c25ab363ee", func := "loop.example/g00875/laws.FnHeightCodes", spec := "fnHeightCodes", apart := false }
def FnHeightCodesSaid : Prop := fnHeightCodesRow.holds Try.pinned (OpenSpec.ofChange fnHeightCodesSpec)

/-- ITS FALSE NEIGHBOUR: 'it returns false'. Refute it at one input. -/
def fnHeightCodesWrong : ChangeSpec := { name := "fnHeightCodes", fn := fun _ => fun
  | [d] => { results := [.lit (.bool false)], args := [d] }
  | _ => none }
def FnHeightCodesWrongFalsely : Prop := fnHeightCodesRow.holds Try.pinned (OpenSpec.ofChange fnHeightCodesWrong)

/-- 'laws.FnHeights': WHATEVER THE INPUT: true; the input reads as it did. -/
def fnHeightsSpec : ChangeSpec := { name := "fnHeights", fn := fun _ => fun
  | [d] => { results := [.lit (.bool true)], args := [d] }
  | _ => none }
def fnHeightsRow : OpenClaim := { program := "ythgnnldokdddfaa", sum := "4309af78726d0b68889d744983740a80aaf53a5520398b60c94fa2c25ab363ee", func := "loop.example/g00875/laws.FnHeights", spec := "fnHeights", recurses := true, apart := false }
def FnHeightsSaid : Prop := fnHeightsRow.holds Try.pinned (OpenSpec.ofChange fnHeightsSpec)

/-- ITS FALSE NEIGHBOUR: 'it returns false'. Refute it at one input. -/
def fnHeightsWrong : ChangeSpec := { name := "fnHeights", fn := fun _ => fun
  | [d] => { results := [.lit (.bool false)], args := [d] }
  | _ => none }
def FnHeightsWrongFalsely : Prop := fnHeightsRow.holds Try.pinned (OpenSpec.ofChange fnHeightsWrong)

/- THE SECOND FORM. 'bulk': how many values and letters a reading holds, each counted each time it is reached (what is shared counts as often as it is met; a slice's spare places count too). A statement '..UptoSaid' is the law's where the arguments, and the package variables that the reading takes, are together of bulk at most 1048576: NARROWER than '..Said'. Prove '..Said' where nothing that the law and all that it calls make is longer than what came in: it says more and counts as full. Else prove '..UptoSaid'. A law counts once. -/
mutual
def uptoBulk {H : Type} : DataW H → Nat
  | .lit (.string bytes) => bytes.length + 1
  | .lit _ => 1
  | .nil => 1
  | .ptr d => uptoBulk d + 1
  | .slice elems spare => uptoBulkAll elems + uptoBulkAll spare + 1
  | .agg parts => uptoBulkAll parts + 1
  | .iface _ d => uptoBulk d + 1
  | .map entries => uptoBulkEntries entries + 1
  | .held _ => 1
def uptoBulkAll {H : Type} : List (DataW H) → Nat
  | [] => 0
  | d :: r => uptoBulk d + uptoBulkAll r
def uptoBulkEntries {H : Type} : List (Lit × DataW H) → Nat
  | [] => 0
  | x :: r => uptoBulkEntry x + uptoBulkEntries r
def uptoBulkEntry {H : Type} : Lit × DataW H → Nat
  | (.string bytes, d) => bytes.length + uptoBulk d + 1
  | (_, d) => uptoBulk d + 1
 end
def uptoSmall : (H : Type) → List (DataW H) → Bool := fun _ ds => decide (uptoBulkAll ds ≤ 1048576)
def OpenSpec.upto (s : _root_.Go.ChangeSpec) : _root_.Go.OpenSpec := { _root_.Go.OpenSpec.ofChange s with cond := some uptoSmall }

/-- 'laws.FnExactHeightText', WHERE WHAT IT READS IS OF BULK AT MOST 1048576: true; the input reads as it did. -/
def fnExactHeightTextUptoRow : OpenClaim := { program := "ythgnnldokdddfaa", sum := "4309af78726d0b68889d744983740a80aaf53a5520398b60c94fa2c25ab363ee", func := "loop.example/g00875/laws.FnExactHeightText", spec := "fnExactHeightText", recurses := true, apart := false, narrowed := true }
def FnExactHeightTextUptoSaid : Prop := fnExactHeightTextUptoRow.holds Try.pinned (OpenSpec.upto fnExactHeightTextSpec)

/-- 'laws.FnExactIsValidPairs', WHERE WHAT IT READS IS OF BULK AT MOST 1048576: true; the input reads as it did. -/
def fnExactIsValidPairsUptoRow : OpenClaim := { program := "ythgnnldokdddfaa", sum := "4309af78726d0b68889d744983740a80aaf53a5520398b60c94fa2c25ab363ee", func := "loop.example/g00875/laws.FnExactIsValidPairs", spec := "fnExactIsValidPairs", apart := false, narrowed := true }
def FnExactIsValidPairsUptoSaid : Prop := fnExactIsValidPairsUptoRow.holds Try.pinned (OpenSpec.upto fnExactIsValidPairsSpec)

/-- 'laws.FnExactChangedBits', WHERE WHAT IT READS IS OF BULK AT MOST 1048576: true; the input reads as it did. -/
def fnExactChangedBitsUptoRow : OpenClaim := { program := "ythgnnldokdddfaa", sum := "4309af78726d0b68889d744983740a80aaf53a5520398b60c94fa2c25ab363ee", func := "loop.example/g00875/laws.FnExactChangedBits", spec := "fnExactChangedBits", apart := false, narrowed := true }
def FnExactChangedBitsUptoSaid : Prop := fnExactChangedBitsUptoRow.holds Try.pinned (OpenSpec.upto fnExactChangedBitsSpec)

/-- 'laws.FnExactParseHeight', WHERE WHAT IT READS IS OF BULK AT MOST 1048576: true; the input reads as it did. -/
def fnExactParseHeightUptoRow : OpenClaim := { program := "ythgnnldokdddfaa", sum := "4309af78726d0b68889d744983740a80aaf53a5520398b60c94fa2c25ab363ee", func := "loop.example/g00875/laws.FnExactParseHeight", spec := "fnExactParseHeight", recurses := true, apart := false, narrowed := true }
def FnExactParseHeightUptoSaid : Prop := fnExactParseHeightUptoRow.holds Try.pinned (OpenSpec.upto fnExactParseHeightSpec)

/-- 'laws.FnHeightCodes', WHERE WHAT IT READS IS OF BULK AT MOST 1048576: true; the input reads as it did. -/
def fnHeightCodesUptoRow : OpenClaim := { program := "ythgnnldokdddfaa", sum := "4309af78726d0b68889d744983740a80aaf53a5520398b60c94fa2c25ab363ee", func := "loop.example/g00875/laws.FnHeightCodes", spec := "fnHeightCodes", apart := false, narrowed := true }
def FnHeightCodesUptoSaid : Prop := fnHeightCodesUptoRow.holds Try.pinned (OpenSpec.upto fnHeightCodesSpec)

/-- 'laws.FnHeights', WHERE WHAT IT READS IS OF BULK AT MOST 1048576: true; the input reads as it did. -/
def fnHeightsUptoRow : OpenClaim := { program := "ythgnnldokdddfaa", sum := "4309af78726d0b68889d744983740a80aaf53a5520398b60c94fa2c25ab363ee", func := "loop.example/g00875/laws.FnHeights", spec := "fnHeights", recurses := true, apart := false, narrowed := true }
def FnHeightsUptoSaid : Prop := fnHeightsUptoRow.holds Try.pinned (OpenSpec.upto fnHeightsSpec)

end Rows
end Go.Proofs.Ythgnnldokdddfaa
