/-
  No cell of these rows narrows 'for every input' (looked for: loops, veiled, ifaces, maps, wideKeys, modest, calm, conditions, laid).
  DERIVED. THE GIVEN ROWS OF THIS SEAT. 12 by the template 'for every input the law returns true; each argument reads behind the call as it read before'; 0 by the template 'total and deterministic' (their statements: YtpcabjjmphcpeaaTotals.lean).
  GIVEN WITH THE SEED: the statements are not yours to turn. If you find one false, say at which input.
  Laid BY PROGRAM, IN A SANDBOX (cutbox-rows.mjs): the forced cells as the released guide's own fill.sh prints them over the translation 67c50626617fdd97… (all of the seat's roots in one cut). By AI agents, Wed Nov 11 2026. No macro, syntax, notation, axiom, sorry.
-/
import Derived.Test.YtpcabjjmphcpeaaChecked
import GoSem.Claim
import GoSem.ClaimJoined
import GoSem.ClaimMapViews
import Derived.JoinedTies
import Derived.KernelRfl
namespace Go.Proofs.Ytpcabjjmphcpeaa
/- THE CELL 'sum', in the pinned program and in every row, IS THE sha256 OF THE DUMP (.gsa) THAT YtpcabjjmphcpeaaProg.lean LOADS. Nothing in Lean hashes anything: it is a label: what it is worth is what the hold of that sum in a sandbox is worth. -/
noncomputable def Try.pinned : Pinned := { name := "ytpcabjjmphcpeaa", sum := "67c50626617fdd97d9fd0f6db500b8893ead91130a18fc3436ce14d1dad5a3ee", checked := Try.checked }
namespace Rows
def none {H : Type} : Left H := { results := [], args := [] }

/-- 'laws.FnExactIsValidVelocity': WHATEVER THE INPUT: true; the input reads as it did. -/
def fnExactIsValidVelocitySpec : ChangeSpec := { name := "fnExactIsValidVelocity", fn := fun _ => fun
  | [d] => { results := [.lit (.bool true)], args := [d] }
  | _ => none }
def fnExactIsValidVelocityRow : OpenClaim := { program := "ytpcabjjmphcpeaa", sum := "67c50626617fdd97d9fd0f6db500b8893ead91130a18fc3436ce14d1dad5a3ee", func := "loop.example/g00875/laws.FnExactIsValidVelocity", spec := "fnExactIsValidVelocity", apart := false }
def FnExactIsValidVelocitySaid : Prop := fnExactIsValidVelocityRow.holds Try.pinned (OpenSpec.ofChange fnExactIsValidVelocitySpec)

/-- ITS FALSE NEIGHBOUR: 'it returns false'. Refute it at one input. -/
def fnExactIsValidVelocityWrong : ChangeSpec := { name := "fnExactIsValidVelocity", fn := fun _ => fun
  | [d] => { results := [.lit (.bool false)], args := [d] }
  | _ => none }
def FnExactIsValidVelocityWrongFalsely : Prop := fnExactIsValidVelocityRow.holds Try.pinned (OpenSpec.ofChange fnExactIsValidVelocityWrong)

/-- 'laws.FnExactWholeSpeed': WHATEVER THE INPUT: true; the input reads as it did. -/
def fnExactWholeSpeedSpec : ChangeSpec := { name := "fnExactWholeSpeed", fn := fun _ => fun
  | [d] => { results := [.lit (.bool true)], args := [d] }
  | _ => none }
def fnExactWholeSpeedRow : OpenClaim := { program := "ytpcabjjmphcpeaa", sum := "67c50626617fdd97d9fd0f6db500b8893ead91130a18fc3436ce14d1dad5a3ee", func := "loop.example/g00875/laws.FnExactWholeSpeed", spec := "fnExactWholeSpeed", apart := false }
def FnExactWholeSpeedSaid : Prop := fnExactWholeSpeedRow.holds Try.pinned (OpenSpec.ofChange fnExactWholeSpeedSpec)

/-- ITS FALSE NEIGHBOUR: 'it returns false'. Refute it at one input. -/
def fnExactWholeSpeedWrong : ChangeSpec := { name := "fnExactWholeSpeed", fn := fun _ => fun
  | [d] => { results := [.lit (.bool false)], args := [d] }
  | _ => none }
def FnExactWholeSpeedWrongFalsely : Prop := fnExactWholeSpeedRow.holds Try.pinned (OpenSpec.ofChange fnExactWholeSpeedWrong)

/-- 'laws.FnExactAddVelocities': WHATEVER THE INPUT: true; the input reads as it did. -/
def fnExactAddVelocitiesSpec : ChangeSpec := { name := "fnExactAddVelocities", fn := fun _ => fun
  | [d1, d2] => { results := [.lit (.bool true)], args := [d1, d2] }
  | _ => none }
def fnExactAddVelocitiesRow : OpenClaim := { program := "ytpcabjjmphcpeaa", sum := "67c50626617fdd97d9fd0f6db500b8893ead91130a18fc3436ce14d1dad5a3ee", func := "loop.example/g00875/laws.FnExactAddVelocities", spec := "fnExactAddVelocities", apart := false }
def FnExactAddVelocitiesSaid : Prop := fnExactAddVelocitiesRow.holds Try.pinned (OpenSpec.ofChange fnExactAddVelocitiesSpec)

/-- ITS FALSE NEIGHBOUR: 'it returns false'. Refute it at one input. -/
def fnExactAddVelocitiesWrong : ChangeSpec := { name := "fnExactAddVelocities", fn := fun _ => fun
  | [d1, d2] => { results := [.lit (.bool false)], args := [d1, d2] }
  | _ => none }
def FnExactAddVelocitiesWrongFalsely : Prop := fnExactAddVelocitiesRow.holds Try.pinned (OpenSpec.ofChange fnExactAddVelocitiesWrong)

/-- 'laws.FnExactFasterThan': WHATEVER THE INPUT: true; the input reads as it did. -/
def fnExactFasterThanSpec : ChangeSpec := { name := "fnExactFasterThan", fn := fun _ => fun
  | [d1, d2] => { results := [.lit (.bool true)], args := [d1, d2] }
  | _ => none }
def fnExactFasterThanRow : OpenClaim := { program := "ytpcabjjmphcpeaa", sum := "67c50626617fdd97d9fd0f6db500b8893ead91130a18fc3436ce14d1dad5a3ee", func := "loop.example/g00875/laws.FnExactFasterThan", spec := "fnExactFasterThan", apart := false }
def FnExactFasterThanSaid : Prop := fnExactFasterThanRow.holds Try.pinned (OpenSpec.ofChange fnExactFasterThanSpec)

/-- ITS FALSE NEIGHBOUR: 'it returns false'. Refute it at one input. -/
def fnExactFasterThanWrong : ChangeSpec := { name := "fnExactFasterThan", fn := fun _ => fun
  | [d1, d2] => { results := [.lit (.bool false)], args := [d1, d2] }
  | _ => none }
def FnExactFasterThanWrongFalsely : Prop := fnExactFasterThanRow.holds Try.pinned (OpenSpec.ofChange fnExactFasterThanWrong)

/-- 'laws.FnExactTurnOf': WHATEVER THE INPUT: true; the input reads as it did. -/
def fnExactTurnOfSpec : ChangeSpec := { name := "fnExactTurnOf", fn := fun _ => fun
  | [d1, d2] => { results := [.lit (.bool true)], args := [d1, d2] }
  | _ => none }
def fnExactTurnOfRow : OpenClaim := { program := "ytpcabjjmphcpeaa", sum := "67c50626617fdd97d9fd0f6db500b8893ead91130a18fc3436ce14d1dad5a3ee", func := "loop.example/g00875/laws.FnExactTurnOf", spec := "fnExactTurnOf", apart := false }
def FnExactTurnOfSaid : Prop := fnExactTurnOfRow.holds Try.pinned (OpenSpec.ofChange fnExactTurnOfSpec)

/-- ITS FALSE NEIGHBOUR: 'it returns false'. Refute it at one input. -/
def fnExactTurnOfWrong : ChangeSpec := { name := "fnExactTurnOf", fn := fun _ => fun
  | [d1, d2] => { results := [.lit (.bool false)], args := [d1, d2] }
  | _ => none }
def FnExactTurnOfWrongFalsely : Prop := fnExactTurnOfRow.holds Try.pinned (OpenSpec.ofChange fnExactTurnOfWrong)

/-- 'laws.FnExactEncodeVelocity': WHATEVER THE INPUT: true; the input reads as it did. -/
def fnExactEncodeVelocitySpec : ChangeSpec := { name := "fnExactEncodeVelocity", fn := fun _ => fun
  | [d] => { results := [.lit (.bool true)], args := [d] }
  | _ => none }
def fnExactEncodeVelocityRow : OpenClaim := { program := "ytpcabjjmphcpeaa", sum := "67c50626617fdd97d9fd0f6db500b8893ead91130a18fc3436ce14d1dad5a3ee", func := "loop.example/g00875/laws.FnExactEncodeVelocity", spec := "fnExactEncodeVelocity", apart := false }
def FnExactEncodeVelocitySaid : Prop := fnExactEncodeVelocityRow.holds Try.pinned (OpenSpec.ofChange fnExactEncodeVelocitySpec)

/-- ITS FALSE NEIGHBOUR: 'it returns false'. Refute it at one input. -/
def fnExactEncodeVelocityWrong : ChangeSpec := { name := "fnExactEncodeVelocity", fn := fun _ => fun
  | [d] => { results := [.lit (.bool false)], args := [d] }
  | _ => none }
def FnExactEncodeVelocityWrongFalsely : Prop := fnExactEncodeVelocityRow.holds Try.pinned (OpenSpec.ofChange fnExactEncodeVelocityWrong)

/-- 'laws.FnExactDirectionOf': WHATEVER THE INPUT: true; the input reads as it did. -/
def fnExactDirectionOfSpec : ChangeSpec := { name := "fnExactDirectionOf", fn := fun _ => fun
  | [d] => { results := [.lit (.bool true)], args := [d] }
  | _ => none }
def fnExactDirectionOfRow : OpenClaim := { program := "ytpcabjjmphcpeaa", sum := "67c50626617fdd97d9fd0f6db500b8893ead91130a18fc3436ce14d1dad5a3ee", func := "loop.example/g00875/laws.FnExactDirectionOf", spec := "fnExactDirectionOf", apart := false }
def FnExactDirectionOfSaid : Prop := fnExactDirectionOfRow.holds Try.pinned (OpenSpec.ofChange fnExactDirectionOfSpec)

/-- ITS FALSE NEIGHBOUR: 'it returns false'. Refute it at one input. -/
def fnExactDirectionOfWrong : ChangeSpec := { name := "fnExactDirectionOf", fn := fun _ => fun
  | [d] => { results := [.lit (.bool false)], args := [d] }
  | _ => none }
def FnExactDirectionOfWrongFalsely : Prop := fnExactDirectionOfRow.holds Try.pinned (OpenSpec.ofChange fnExactDirectionOfWrong)

/-- 'laws.FnExactDecodeVelocity': WHATEVER THE INPUT: true; the input reads as it did. -/
def fnExactDecodeVelocitySpec : ChangeSpec := { name := "fnExactDecodeVelocity", fn := fun _ => fun
  | [d] => { results := [.lit (.bool true)], args := [d] }
  | _ => none }
def fnExactDecodeVelocityRow : OpenClaim := { program := "ytpcabjjmphcpeaa", sum := "67c50626617fdd97d9fd0f6db500b8893ead91130a18fc3436ce14d1dad5a3ee", func := "loop.example/g00875/laws.FnExactDecodeVelocity", spec := "fnExactDecodeVelocity", apart := false }
def FnExactDecodeVelocitySaid : Prop := fnExactDecodeVelocityRow.holds Try.pinned (OpenSpec.ofChange fnExactDecodeVelocitySpec)

/-- ITS FALSE NEIGHBOUR: 'it returns false'. Refute it at one input. -/
def fnExactDecodeVelocityWrong : ChangeSpec := { name := "fnExactDecodeVelocity", fn := fun _ => fun
  | [d] => { results := [.lit (.bool false)], args := [d] }
  | _ => none }
def FnExactDecodeVelocityWrongFalsely : Prop := fnExactDecodeVelocityRow.holds Try.pinned (OpenSpec.ofChange fnExactDecodeVelocityWrong)

/-- 'laws.FnExactVelocityText': WHATEVER THE INPUT: true; the input reads as it did. -/
def fnExactVelocityTextSpec : ChangeSpec := { name := "fnExactVelocityText", fn := fun _ => fun
  | [d] => { results := [.lit (.bool true)], args := [d] }
  | _ => none }
def fnExactVelocityTextRow : OpenClaim := { program := "ytpcabjjmphcpeaa", sum := "67c50626617fdd97d9fd0f6db500b8893ead91130a18fc3436ce14d1dad5a3ee", func := "loop.example/g00875/laws.FnExactVelocityText", spec := "fnExactVelocityText", recurses := true, apart := false }
def FnExactVelocityTextSaid : Prop := fnExactVelocityTextRow.holds Try.pinned (OpenSpec.ofChange fnExactVelocityTextSpec)

/-- ITS FALSE NEIGHBOUR: 'it returns false'. Refute it at one input. -/
def fnExactVelocityTextWrong : ChangeSpec := { name := "fnExactVelocityText", fn := fun _ => fun
  | [d] => { results := [.lit (.bool false)], args := [d] }
  | _ => none }
def FnExactVelocityTextWrongFalsely : Prop := fnExactVelocityTextRow.holds Try.pinned (OpenSpec.ofChange fnExactVelocityTextWrong)

/-- 'laws.FnTurns': WHATEVER THE INPUT: true; the input reads as it did. -/
def fnTurnsSpec : ChangeSpec := { name := "fnTurns", fn := fun _ => fun
  | [d] => { results := [.lit (.bool true)], args := [d] }
  | _ => none }
def fnTurnsRow : OpenClaim := { program := "ytpcabjjmphcpeaa", sum := "67c50626617fdd97d9fd0f6db500b8893ead91130a18fc3436ce14d1dad5a3ee", func := "loop.example/g00875/laws.FnTurns", spec := "fnTurns", apart := false }
def FnTurnsSaid : Prop := fnTurnsRow.holds Try.pinned (OpenSpec.ofChange fnTurnsSpec)

/-- ITS FALSE NEIGHBOUR: 'it returns false'. Refute it at one input. -/
def fnTurnsWrong : ChangeSpec := { name := "fnTurns", fn := fun _ => fun
  | [d] => { results := [.lit (.bool false)], args := [d] }
  | _ => none }
def FnTurnsWrongFalsely : Prop := fnTurnsRow.holds Try.pinned (OpenSpec.ofChange fnTurnsWrong)

/-- 'laws.FnExactParseVelocity': WHATEVER THE INPUT: true; the input reads as it did. -/
def fnExactParseVelocitySpec : ChangeSpec := { name := "fnExactParseVelocity", fn := fun _ => fun
  | [d] => { results := [.lit (.bool true)], args := [d] }
  | _ => none }
def fnExactParseVelocityRow : OpenClaim := { program := "ytpcabjjmphcpeaa", sum := "67c50626617fdd97d9fd0f6db500b8893ead91130a18fc3436ce14d1dad5a3ee", func := "loop.example/g00875/laws.FnExactParseVelocity", spec := "fnExactParseVelocity", recurses := true, apart := false }
def FnExactParseVelocitySaid : Prop := fnExactParseVelocityRow.holds Try.pinned (OpenSpec.ofChange fnExactParseVelocitySpec)

/-- ITS FALSE NEIGHBOUR: 'it returns false'. Refute it at one input. -/
def fnExactParseVelocityWrong : ChangeSpec := { name := "fnExactParseVelocity", fn := fun _ => fun
  | [d] => { results := [.lit (.bool false)], args := [d] }
  | _ => none }
def FnExactParseVelocityWrongFalsely : Prop := fnExactParseVelocityRow.holds Try.pinned (OpenSpec.ofChange fnExactParseVelocityWrong)

/-- 'laws.FnVelocities': WHATEVER THE INPUT: true; the input reads as it did. -/
def fnVelocitiesSpec : ChangeSpec := { name := "fnVelocities", fn := fun _ => fun
  | [d] => { results := [.lit (.bool true)], args := [d] }
  | _ => none }
def fnVelocitiesRow : OpenClaim := { program := "ytpcabjjmphcpeaa", sum := "67c50626617fdd97d9fd0f6db500b8893ead91130a18fc3436ce14d1dad5a3ee", func := "loop.example/g00875/laws.FnVelocities", spec := "fnVelocities", recurses := true, apart := false }
def FnVelocitiesSaid : Prop := fnVelocitiesRow.holds Try.pinned (OpenSpec.ofChange fnVelocitiesSpec)

/-- ITS FALSE NEIGHBOUR: 'it returns false'. Refute it at one input. -/
def fnVelocitiesWrong : ChangeSpec := { name := "fnVelocities", fn := fun _ => fun
  | [d] => { results := [.lit (.bool false)], args := [d] }
  | _ => none }
def FnVelocitiesWrongFalsely : Prop := fnVelocitiesRow.holds Try.pinned (OpenSpec.ofChange fnVelocitiesWrong)

/- THE SECOND FORM. 'bulk': how many values and letters a reading holds, each counted each time it is reached (what is shared counts as often as it is met; a slice's spare places count too). A statement '..UptoSaid' is the law's where the arguments, and the package variables that the reading takes, are together of bulk at most 1048576: NARROWER than '..Said'. Prove '..Said' where nothing that the law and all that it calls make is longer than what came in: it says more and counts as full. Else prove '..UptoSaid'. A law counts once. -/
mutual
def uptoBulk {H : Type} : DataW H → Nat
  | .lit (.string bytes) => bytes.length + 1
  | .lit _ => 1
  | .nil => 1
  | .ptr d => uptoBulk d + 1
  | .slice elems spare => uptoBulkAll elems + uptoBulkAll spare + 1
  | .agg parts => uptoBulkAll parts + 1
  | .iface _ d => uptoBulk d + 1
  | .map entries => uptoBulkEntries entries + 1
  | .held _ => 1
def uptoBulkAll {H : Type} : List (DataW H) → Nat
  | [] => 0
  | d :: r => uptoBulk d + uptoBulkAll r
def uptoBulkEntries {H : Type} : List (Lit × DataW H) → Nat
  | [] => 0
  | x :: r => uptoBulkEntry x + uptoBulkEntries r
def uptoBulkEntry {H : Type} : Lit × DataW H → Nat
  | (.string bytes, d) => bytes.length + uptoBulk d + 1
  | (_, d) => uptoBulk d + 1
 end
def uptoSmall : (H : Type) → List (DataW H) → Bool := fun _ ds => decide (uptoBulkAll ds ≤ 1048576)
def OpenSpec.upto (s : _root_.Go.ChangeSpec) : _root_.Go.OpenSpec := { _root_.Go.OpenSpec.ofChange s with cond := some uptoSmall }

/-- 'laws.FnExactIsValidVelocity', WHERE WHAT IT READS IS OF BULK AT MOST 1048576: true; the input reads as it did. -/
def fnExactIsValidVelocityUptoRow : OpenClaim := { program := "ytpcabjjmphcpeaa", sum := "67c50626617fdd97d9fd0f6db500b8893ead91130a18fc3436ce14d1dad5a3ee", func := "loop.example/g00875/laws.FnExactIsValidVelocity", spec := "fnExactIsValidVelocity", apart := false, narrowed := true }
def FnExactIsValidVelocityUptoSaid : Prop := fnExactIsValidVelocityUptoRow.holds Try.pinned (OpenSpec.upto fnExactIsValidVelocitySpec)

/-- 'laws.FnExactWholeSpeed', WHERE WHAT IT READS IS OF BULK AT MOST 1048576: true; the input reads as it did. -/
def fnExactWholeSpeedUptoRow : OpenClaim := { program := "ytpcabjjmphcpeaa", sum := "67c50626617fdd97d9fd0f6db500b8893ead91130a18fc3436ce14d1dad5a3ee", func := "loop.example/g00875/laws.FnExactWholeSpeed", spec := "fnExactWholeSpeed", apart := false, narrowed := true }
def FnExactWholeSpeedUptoSaid : Prop := fnExactWholeSpeedUptoRow.holds Try.pinned (OpenSpec.upto fnExactWholeSpeedSpec)

/-- 'laws.FnExactAddVelocities', WHERE WHAT IT READS IS OF BULK AT MOST 1048576: true; the input reads as it did. -/
def fnExactAddVelocitiesUptoRow : OpenClaim := { program := "ytpcabjjmphcpeaa", sum := "67c50626617fdd97d9fd0f6db500b8893ead91130a18fc3436ce14d1dad5a3ee", func := "loop.example/g00875/laws.FnExactAddVelocities", spec := "fnExactAddVelocities", apart := false, narrowed := true }
def FnExactAddVelocitiesUptoSaid : Prop := fnExactAddVelocitiesUptoRow.holds Try.pinned (OpenSpec.upto fnExactAddVelocitiesSpec)

/-- 'laws.FnExactFasterThan', WHERE WHAT IT READS IS OF BULK AT MOST 1048576: true; the input reads as it did. -/
def fnExactFasterThanUptoRow : OpenClaim := { program := "ytpcabjjmphcpeaa", sum := "67c50626617fdd97d9fd0f6db500b8893ead91130a18fc3436ce14d1dad5a3ee", func := "loop.example/g00875/laws.FnExactFasterThan", spec := "fnExactFasterThan", apart := false, narrowed := true }
def FnExactFasterThanUptoSaid : Prop := fnExactFasterThanUptoRow.holds Try.pinned (OpenSpec.upto fnExactFasterThanSpec)

/-- 'laws.FnExactTurnOf', WHERE WHAT IT READS IS OF BULK AT MOST 1048576: true; the input reads as it did. -/
def fnExactTurnOfUptoRow : OpenClaim := { program := "ytpcabjjmphcpeaa", sum := "67c50626617fdd97d9fd0f6db500b8893ead91130a18fc3436ce14d1dad5a3ee", func := "loop.example/g00875/laws.FnExactTurnOf", spec := "fnExactTurnOf", apart := false, narrowed := true }
def FnExactTurnOfUptoSaid : Prop := fnExactTurnOfUptoRow.holds Try.pinned (OpenSpec.upto fnExactTurnOfSpec)

/-- 'laws.FnExactEncodeVelocity', WHERE WHAT IT READS IS OF BULK AT MOST 1048576: true; the input reads as it did. -/
def fnExactEncodeVelocityUptoRow : OpenClaim := { program := "ytpcabjjmphcpeaa", sum := "67c50626617fdd97d9fd0f6db500b8893ead91130a18fc3436ce14d1dad5a3ee", func := "loop.example/g00875/laws.FnExactEncodeVelocity", spec := "fnExactEncodeVelocity", apart := false, narrowed := true }
def FnExactEncodeVelocityUptoSaid : Prop := fnExactEncodeVelocityUptoRow.holds Try.pinned (OpenSpec.upto fnExactEncodeVelocitySpec)

/-- 'laws.FnExactDirectionOf', WHERE WHAT IT READS IS OF BULK AT MOST 1048576: true; the input reads as it did. -/
def fnExactDirectionOfUptoRow : OpenClaim := { program := "ytpcabjjmphcpeaa", sum := "67c50626617fdd97d9fd0f6db500b8893ead91130a18fc3436ce14d1dad5a3ee", func := "loop.example/g00875/laws.FnExactDirectionOf", spec := "fnExactDirectionOf", apart := false, narrowed := true }
def FnExactDirectionOfUptoSaid : Prop := fnExactDirectionOfUptoRow.holds Try.pinned (OpenSpec.upto fnExactDirectionOfSpec)

/-- 'laws.FnExactDecodeVelocity', WHERE WHAT IT READS IS OF BULK AT MOST 1048576: true; the input reads as it did. -/
def fnExactDecodeVelocityUptoRow : OpenClaim := { program := "ytpcabjjmphcpeaa", sum := "67c50626617fdd97d9fd0f6db500b8893ead91130a18fc3436ce14d1dad5a3ee", func := "loop.example/g00875/laws.FnExactDecodeVelocity", spec := "fnExactDecodeVelocity", apart := false, narrowed := true }
def FnExactDecodeVelocityUptoSaid : Prop := fnExactDecodeVelocityUptoRow.holds Try.pinned (OpenSpec.upto fnExactDecodeVelocitySpec)

/-- 'laws.FnExactVelocityText', WHERE WHAT IT READS IS OF BULK AT MOST 1048576: true; the input reads as it did. -/
def fnExactVelocityTextUptoRow : OpenClaim := { program := "ytpcabjjmphcpeaa", sum := "67c50626617fdd97d9fd0f6db500b8893ead91130a18fc3436ce14d1dad5a3ee", func := "loop.example/g00875/laws.FnExactVelocityText", spec := "fnExactVelocityText", recurses := true, apart := false, narrowed := true }
def FnExactVelocityTextUptoSaid : Prop := fnExactVelocityTextUptoRow.holds Try.pinned (OpenSpec.upto fnExactVelocityTextSpec)

/-- 'laws.FnTurns', WHERE WHAT IT READS IS OF BULK AT MOST 1048576: true; the input reads as it did. -/
def fnTurnsUptoRow : OpenClaim := { program := "ytpcabjjmphcpeaa", sum := "67c50626617fdd97d9fd0f6db500b8893ead91130a18fc3436ce14d1dad5a3ee", func := "loop.example/g00875/laws.FnTurns", spec := "fnTurns", apart := false, narrowed := true }
def FnTurnsUptoSaid : Prop := fnTurnsUptoRow.holds Try.pinned (OpenSpec.upto fnTurnsSpec)

/-- 'laws.FnExactParseVelocity', WHERE WHAT IT READS IS OF BULK AT MOST 1048576: true; the input reads as it did. -/
def fnExactParseVelocityUptoRow : OpenClaim := { program := "ytpcabjjmphcpeaa", sum := "67c50626617fdd97d9fd0f6db500b8893ead91130a18fc3436ce14d1dad5a3ee", func := "loop.example/g00875/laws.FnExactParseVelocity", spec := "fnExactParseVelocity", recurses := true, apart := false, narrowed := true }
def FnExactParseVelocityUptoSaid : Prop := fnExactParseVelocityUptoRow.holds Try.pinned (OpenSpec.upto fnExactParseVelocitySpec)

/-- 'laws.FnVelocities', WHERE WHAT IT READS IS OF BULK AT MOST 1048576: true; the input reads as it did. -/
def fnVelocitiesUptoRow : OpenClaim := { program := "ytpcabjjmphcpeaa", sum := "67c50626617fdd97d9fd0f6db500b8893ead91130a18fc3436ce14d1dad5a3ee", func := "loop.example/g00875/laws.FnVelocities", spec := "fnVelocities", recurses := true, apart := false, narrowed := true }
def FnVelocitiesUptoSaid : Prop := fnVelocitiesUptoRow.holds Try.pinned (OpenSpec.upto fnVelocitiesSpec)

end Rows
end Go.Proofs.Ytpcabjjmphcpeaa
