/-
  No cell of these rows narrows 'for every input' (looked for: loops, veiled, ifaces, maps, wideKeys, modest, calm, conditions, laid).
  DERIVED. THE GIVEN ROWS OF THIS SEAT. 10 by the template 'for every input the law returns true; each argument reads behind the call as it read before'; 0 by the template 'total and deterministic' (their statements: YtbeojfhakmbacaaTotals.lean).
  GIVEN WITH THE SEED: the statements are not yours to turn. If you find one false, say at which input.
  Laid BY PROGRAM, IN A SANDBOX (cutbox-rows.mjs): the forced cells as the released guide's own fill.sh prints them over the translation 64602cf4038725f6… (all of the seat's roots in one cut). By AI agents, Wed Nov 11 2026. No macro, syntax, notation, axiom, sorry.
-/
import Derived.Test.YtbeojfhakmbacaaChecked
import GoSem.Claim
import GoSem.ClaimJoined
import GoSem.ClaimMapViews
import Derived.JoinedTies
import Derived.KernelRfl
namespace Go.Proofs.Ytbeojfhakmbacaa
/- THE CELL 'sum', in the pinned program and in every row, IS THE sha256 OF THE DUMP (.gsa) THAT YtbeojfhakmbacaaProg.lean LOADS. Nothing in Lean hashes anything: it is a label: what it is worth is what the hold of that sum in a sandbox is worth. -/
noncomputable def Try.pinned : Pinned := { name := "ytbeojfhakmbacaa", sum := "64602cf4038725f62a57aa716b06adc1d117889edf7a91fe482befe433cdb476", checked := Try.checked }
namespace Rows
def none {H : Type} : Left H := { results := [], args := [] }

/-- 'laws.FnReceiver': WHATEVER THE INPUT: true; the input reads as it did. -/
def fnReceiverSpec : ChangeSpec := { name := "fnReceiver", fn := fun _ => fun
  | [d] => { results := [.lit (.bool true)], args := [d] }
  | _ => none }
def fnReceiverRow : OpenClaim := { program := "ytbeojfhakmbacaa", sum := "64602cf4038725f62a57aa716b06adc1d117889edf7a91fe482befe433cdb476", func := "loop.example/g00875/laws.FnReceiver", spec := "fnReceiver", apart := false }
def FnReceiverSaid : Prop := fnReceiverRow.holds Try.pinned (OpenSpec.ofChange fnReceiverSpec)

/-- ITS FALSE NEIGHBOUR: 'it returns false'. Refute it at one input. -/
def fnReceiverWrong : ChangeSpec := { name := "fnReceiver", fn := fun _ => fun
  | [d] => { results := [.lit (.bool false)], args := [d] }
  | _ => none }
def FnReceiverWrongFalsely : Prop := fnReceiverRow.holds Try.pinned (OpenSpec.ofChange fnReceiverWrong)

/-- 'laws.FnExactIsValidReceiver': WHATEVER THE INPUT: true; the input reads as it did. -/
def fnExactIsValidReceiverSpec : ChangeSpec := { name := "fnExactIsValidReceiver", fn := fun _ => fun
  | [d] => { results := [.lit (.bool true)], args := [d] }
  | _ => none }
def fnExactIsValidReceiverRow : OpenClaim := { program := "ytbeojfhakmbacaa", sum := "64602cf4038725f62a57aa716b06adc1d117889edf7a91fe482befe433cdb476", func := "loop.example/g00875/laws.FnExactIsValidReceiver", spec := "fnExactIsValidReceiver", apart := false }
def FnExactIsValidReceiverSaid : Prop := fnExactIsValidReceiverRow.holds Try.pinned (OpenSpec.ofChange fnExactIsValidReceiverSpec)

/-- ITS FALSE NEIGHBOUR: 'it returns false'. Refute it at one input. -/
def fnExactIsValidReceiverWrong : ChangeSpec := { name := "fnExactIsValidReceiver", fn := fun _ => fun
  | [d] => { results := [.lit (.bool false)], args := [d] }
  | _ => none }
def FnExactIsValidReceiverWrongFalsely : Prop := fnExactIsValidReceiverRow.holds Try.pinned (OpenSpec.ofChange fnExactIsValidReceiverWrong)

/-- 'laws.FnExactTotalFrames': WHATEVER THE INPUT: true; the input reads as it did. -/
def fnExactTotalFramesSpec : ChangeSpec := { name := "fnExactTotalFrames", fn := fun _ => fun
  | [d] => { results := [.lit (.bool true)], args := [d] }
  | _ => none }
def fnExactTotalFramesRow : OpenClaim := { program := "ytbeojfhakmbacaa", sum := "64602cf4038725f62a57aa716b06adc1d117889edf7a91fe482befe433cdb476", func := "loop.example/g00875/laws.FnExactTotalFrames", spec := "fnExactTotalFrames", apart := false }
def FnExactTotalFramesSaid : Prop := fnExactTotalFramesRow.holds Try.pinned (OpenSpec.ofChange fnExactTotalFramesSpec)

/-- ITS FALSE NEIGHBOUR: 'it returns false'. Refute it at one input. -/
def fnExactTotalFramesWrong : ChangeSpec := { name := "fnExactTotalFrames", fn := fun _ => fun
  | [d] => { results := [.lit (.bool false)], args := [d] }
  | _ => none }
def FnExactTotalFramesWrongFalsely : Prop := fnExactTotalFramesRow.holds Try.pinned (OpenSpec.ofChange fnExactTotalFramesWrong)

/-- 'laws.FnExactHeardFrom': WHATEVER THE INPUT: true; the input reads as it did. -/
def fnExactHeardFromSpec : ChangeSpec := { name := "fnExactHeardFrom", fn := fun _ => fun
  | [d1, d2] => { results := [.lit (.bool true)], args := [d1, d2] }
  | _ => none }
def fnExactHeardFromRow : OpenClaim := { program := "ytbeojfhakmbacaa", sum := "64602cf4038725f62a57aa716b06adc1d117889edf7a91fe482befe433cdb476", func := "loop.example/g00875/laws.FnExactHeardFrom", spec := "fnExactHeardFrom", apart := false }
def FnExactHeardFromSaid : Prop := fnExactHeardFromRow.holds Try.pinned (OpenSpec.ofChange fnExactHeardFromSpec)

/-- ITS FALSE NEIGHBOUR: 'it returns false'. Refute it at one input. -/
def fnExactHeardFromWrong : ChangeSpec := { name := "fnExactHeardFrom", fn := fun _ => fun
  | [d1, d2] => { results := [.lit (.bool false)], args := [d1, d2] }
  | _ => none }
def FnExactHeardFromWrongFalsely : Prop := fnExactHeardFromRow.holds Try.pinned (OpenSpec.ofChange fnExactHeardFromWrong)

/-- 'laws.FnExactPositionNow': WHATEVER THE INPUT: true; the input reads as it did. -/
def fnExactPositionNowSpec : ChangeSpec := { name := "fnExactPositionNow", fn := fun _ => fun
  | [d1, d2] => { results := [.lit (.bool true)], args := [d1, d2] }
  | _ => none }
def fnExactPositionNowRow : OpenClaim := { program := "ytbeojfhakmbacaa", sum := "64602cf4038725f62a57aa716b06adc1d117889edf7a91fe482befe433cdb476", func := "loop.example/g00875/laws.FnExactPositionNow", spec := "fnExactPositionNow", apart := false }
def FnExactPositionNowSaid : Prop := fnExactPositionNowRow.holds Try.pinned (OpenSpec.ofChange fnExactPositionNowSpec)

/-- ITS FALSE NEIGHBOUR: 'it returns false'. Refute it at one input. -/
def fnExactPositionNowWrong : ChangeSpec := { name := "fnExactPositionNow", fn := fun _ => fun
  | [d1, d2] => { results := [.lit (.bool false)], args := [d1, d2] }
  | _ => none }
def FnExactPositionNowWrongFalsely : Prop := fnExactPositionNowRow.holds Try.pinned (OpenSpec.ofChange fnExactPositionNowWrong)

/-- 'laws.FnExactPassTime': WHATEVER THE INPUT: true; the input reads as it did. -/
def fnExactPassTimeSpec : ChangeSpec := { name := "fnExactPassTime", fn := fun _ => fun
  | [d1, d2] => { results := [.lit (.bool true)], args := [d1, d2] }
  | _ => none }
def fnExactPassTimeRow : OpenClaim := { program := "ytbeojfhakmbacaa", sum := "64602cf4038725f62a57aa716b06adc1d117889edf7a91fe482befe433cdb476", func := "loop.example/g00875/laws.FnExactPassTime", spec := "fnExactPassTime", apart := false }
def FnExactPassTimeSaid : Prop := fnExactPassTimeRow.holds Try.pinned (OpenSpec.ofChange fnExactPassTimeSpec)

/-- ITS FALSE NEIGHBOUR: 'it returns false'. Refute it at one input. -/
def fnExactPassTimeWrong : ChangeSpec := { name := "fnExactPassTime", fn := fun _ => fun
  | [d1, d2] => { results := [.lit (.bool false)], args := [d1, d2] }
  | _ => none }
def FnExactPassTimeWrongFalsely : Prop := fnExactPassTimeRow.holds Try.pinned (OpenSpec.ofChange fnExactPassTimeWrong)

/-- 'laws.FnExactFreshAddresses': WHATEVER THE INPUT: true; the input reads as it did. -/
def fnExactFreshAddressesSpec : ChangeSpec := { name := "fnExactFreshAddresses", fn := fun _ => fun
  | [d] => { results := [.lit (.bool true)], args := [d] }
  | _ => none }
def fnExactFreshAddressesRow : OpenClaim := { program := "ytbeojfhakmbacaa", sum := "64602cf4038725f62a57aa716b06adc1d117889edf7a91fe482befe433cdb476", func := "loop.example/g00875/laws.FnExactFreshAddresses", spec := "fnExactFreshAddresses", apart := false }
def FnExactFreshAddressesSaid : Prop := fnExactFreshAddressesRow.holds Try.pinned (OpenSpec.ofChange fnExactFreshAddressesSpec)

/-- ITS FALSE NEIGHBOUR: 'it returns false'. Refute it at one input. -/
def fnExactFreshAddressesWrong : ChangeSpec := { name := "fnExactFreshAddresses", fn := fun _ => fun
  | [d] => { results := [.lit (.bool false)], args := [d] }
  | _ => none }
def FnExactFreshAddressesWrongFalsely : Prop := fnExactFreshAddressesRow.holds Try.pinned (OpenSpec.ofChange fnExactFreshAddressesWrong)

/-- 'laws.FnExactReceive': WHATEVER THE INPUT: true; the input reads as it did. -/
def fnExactReceiveSpec : ChangeSpec := { name := "fnExactReceive", fn := fun _ => fun
  | [d1, d2, d3] => { results := [.lit (.bool true)], args := [d1, d2, d3] }
  | _ => none }
def fnExactReceiveRow : OpenClaim := { program := "ytbeojfhakmbacaa", sum := "64602cf4038725f62a57aa716b06adc1d117889edf7a91fe482befe433cdb476", func := "loop.example/g00875/laws.FnExactReceive", spec := "fnExactReceive", apart := false }
def FnExactReceiveSaid : Prop := fnExactReceiveRow.holds Try.pinned (OpenSpec.ofChange fnExactReceiveSpec)

/-- ITS FALSE NEIGHBOUR: 'it returns false'. Refute it at one input. -/
def fnExactReceiveWrong : ChangeSpec := { name := "fnExactReceive", fn := fun _ => fun
  | [d1, d2, d3] => { results := [.lit (.bool false)], args := [d1, d2, d3] }
  | _ => none }
def FnExactReceiveWrongFalsely : Prop := fnExactReceiveRow.holds Try.pinned (OpenSpec.ofChange fnExactReceiveWrong)

/-- 'laws.FnAging': WHATEVER THE INPUT: true; the input reads as it did. -/
def fnAgingSpec : ChangeSpec := { name := "fnAging", fn := fun _ => fun
  | [d] => { results := [.lit (.bool true)], args := [d] }
  | _ => none }
def fnAgingRow : OpenClaim := { program := "ytbeojfhakmbacaa", sum := "64602cf4038725f62a57aa716b06adc1d117889edf7a91fe482befe433cdb476", func := "loop.example/g00875/laws.FnAging", spec := "fnAging", apart := false }
def FnAgingSaid : Prop := fnAgingRow.holds Try.pinned (OpenSpec.ofChange fnAgingSpec)

/-- ITS FALSE NEIGHBOUR: 'it returns false'. Refute it at one input. -/
def fnAgingWrong : ChangeSpec := { name := "fnAging", fn := fun _ => fun
  | [d] => { results := [.lit (.bool false)], args := [d] }
  | _ => none }
def FnAgingWrongFalsely : Prop := fnAgingRow.holds Try.pinned (OpenSpec.ofChange fnAgingWrong)

/-- 'laws.FnExactReceiveAll': WHATEVER THE INPUT: true; the input reads as it did. -/
def fnExactReceiveAllSpec : ChangeSpec := { name := "fnExactReceiveAll", fn := fun _ => fun
  | [d1, d2, d3] => { results := [.lit (.bool true)], args := [d1, d2, d3] }
  | _ => none }
def fnExactReceiveAllRow : OpenClaim := { program := "ytbeojfhakmbacaa", sum := "64602cf4038725f62a57aa716b06adc1d117889edf7a91fe482befe433cdb476", func := "loop.example/g00875/laws.FnExactReceiveAll", spec := "fnExactReceiveAll", apart := false }
def FnExactReceiveAllSaid : Prop := fnExactReceiveAllRow.holds Try.pinned (OpenSpec.ofChange fnExactReceiveAllSpec)

/-- ITS FALSE NEIGHBOUR: 'it returns false'. Refute it at one input. -/
def fnExactReceiveAllWrong : ChangeSpec := { name := "fnExactReceiveAll", fn := fun _ => fun
  | [d1, d2, d3] => { results := [.lit (.bool false)], args := [d1, d2, d3] }
  | _ => none }
def FnExactReceiveAllWrongFalsely : Prop := fnExactReceiveAllRow.holds Try.pinned (OpenSpec.ofChange fnExactReceiveAllWrong)

/- THE SECOND FORM. 'bulk': how many values and letters a reading holds, each counted each time it is reached (what is shared counts as often as it is met; a slice's spare places count too). A statement '..UptoSaid' is the law's where the arguments, and the package variables that the reading takes, are together of bulk at most 1048576: NARROWER than '..Said'. Prove '..Said' where nothing that the law and all that it calls make is longer than what came in: it says more and counts as full. Else prove '..UptoSaid'. A law counts once. -/
mutual
def uptoBulk {H : Type} : DataW H → Nat
  | .lit (.string bytes) => bytes.length + 1
  | .lit _ => 1
  | .nil => 1
  | .ptr d => uptoBulk d + 1
  | .slice elems spare => uptoBulkAll elems + uptoBulkAll spare + 1
  | .agg parts => uptoBulkAll parts + 1
  | .iface _ d => uptoBulk d + 1
  | .map entries => uptoBulkEntries entries + 1
  | .held _ => 1
def uptoBulkAll {H : Type} : List (DataW H) → Nat
  | [] => 0
  | d :: r => uptoBulk d + uptoBulkAll r
def uptoBulkEntries {H : Type} : List (Lit × DataW H) → Nat
  | [] => 0
  | x :: r => uptoBulkEntry x + uptoBulkEntries r
def uptoBulkEntry {H : Type} : Lit × DataW H → Nat
  | (.string bytes, d) => bytes.length + uptoBulk d + 1
  | (_, d) => uptoBulk d + 1
 end
def uptoSmall : (H : Type) → List (DataW H) → Bool := fun _ ds => decide (uptoBulkAll ds ≤ 1048576)
def OpenSpec.upto (s : _root_.Go.ChangeSpec) : _root_.Go.OpenSpec := { _root_.Go.OpenSpec.ofChange s with cond := some uptoSmall }

/-- 'laws.FnReceiver', WHERE WHAT IT READS IS OF BULK AT MOST 1048576: true; the input reads as it did. -/
def fnReceiverUptoRow : OpenClaim := { program := "ytbeojfhakmbacaa", sum := "64602cf4038725f62a57aa716b06adc1d117889edf7a91fe482befe433cdb476", func := "loop.example/g00875/laws.FnReceiver", spec := "fnReceiver", apart := false, narrowed := true }
def FnReceiverUptoSaid : Prop := fnReceiverUptoRow.holds Try.pinned (OpenSpec.upto fnReceiverSpec)

/-- 'laws.FnExactIsValidReceiver', WHERE WHAT IT READS IS OF BULK AT MOST 1048576: true; the input reads as it did. -/
def fnExactIsValidReceiverUptoRow : OpenClaim := { program := "ytbeojfhakmbacaa", sum := "64602cf4038725f62a57aa716b06adc1d117889edf7a91fe482befe433cdb476", func := "loop.example/g00875/laws.FnExactIsValidReceiver", spec := "fnExactIsValidReceiver", apart := false, narrowed := true }
def FnExactIsValidReceiverUptoSaid : Prop := fnExactIsValidReceiverUptoRow.holds Try.pinned (OpenSpec.upto fnExactIsValidReceiverSpec)

/-- 'laws.FnExactTotalFrames', WHERE WHAT IT READS IS OF BULK AT MOST 1048576: true; the input reads as it did. -/
def fnExactTotalFramesUptoRow : OpenClaim := { program := "ytbeojfhakmbacaa", sum := "64602cf4038725f62a57aa716b06adc1d117889edf7a91fe482befe433cdb476", func := "loop.example/g00875/laws.FnExactTotalFrames", spec := "fnExactTotalFrames", apart := false, narrowed := true }
def FnExactTotalFramesUptoSaid : Prop := fnExactTotalFramesUptoRow.holds Try.pinned (OpenSpec.upto fnExactTotalFramesSpec)

/-- 'laws.FnExactHeardFrom', WHERE WHAT IT READS IS OF BULK AT MOST 1048576: true; the input reads as it did. -/
def fnExactHeardFromUptoRow : OpenClaim := { program := "ytbeojfhakmbacaa", sum := "64602cf4038725f62a57aa716b06adc1d117889edf7a91fe482befe433cdb476", func := "loop.example/g00875/laws.FnExactHeardFrom", spec := "fnExactHeardFrom", apart := false, narrowed := true }
def FnExactHeardFromUptoSaid : Prop := fnExactHeardFromUptoRow.holds Try.pinned (OpenSpec.upto fnExactHeardFromSpec)

/-- 'laws.FnExactPositionNow', WHERE WHAT IT READS IS OF BULK AT MOST 1048576: true; the input reads as it did. -/
def fnExactPositionNowUptoRow : OpenClaim := { program := "ytbeojfhakmbacaa", sum := "64602cf4038725f62a57aa716b06adc1d117889edf7a91fe482befe433cdb476", func := "loop.example/g00875/laws.FnExactPositionNow", spec := "fnExactPositionNow", apart := false, narrowed := true }
def FnExactPositionNowUptoSaid : Prop := fnExactPositionNowUptoRow.holds Try.pinned (OpenSpec.upto fnExactPositionNowSpec)

/-- 'laws.FnExactPassTime', WHERE WHAT IT READS IS OF BULK AT MOST 1048576: true; the input reads as it did. -/
def fnExactPassTimeUptoRow : OpenClaim := { program := "ytbeojfhakmbacaa", sum := "64602cf4038725f62a57aa716b06adc1d117889edf7a91fe482befe433cdb476", func := "loop.example/g00875/laws.FnExactPassTime", spec := "fnExactPassTime", apart := false, narrowed := true }
def FnExactPassTimeUptoSaid : Prop := fnExactPassTimeUptoRow.holds Try.pinned (OpenSpec.upto fnExactPassTimeSpec)

/-- 'laws.FnExactFreshAddresses', WHERE WHAT IT READS IS OF BULK AT MOST 1048576: true; the input reads as it did. -/
def fnExactFreshAddressesUptoRow : OpenClaim := { program := "ytbeojfhakmbacaa", sum := "64602cf4038725f62a57aa716b06adc1d117889edf7a91fe482befe433cdb476", func := "loop.example/g00875/laws.FnExactFreshAddresses", spec := "fnExactFreshAddresses", apart := false, narrowed := true }
def FnExactFreshAddressesUptoSaid : Prop := fnExactFreshAddressesUptoRow.holds Try.pinned (OpenSpec.upto fnExactFreshAddressesSpec)

/-- 'laws.FnExactReceive', WHERE WHAT IT READS IS OF BULK AT MOST 1048576: true; the input reads as it did. -/
def fnExactReceiveUptoRow : OpenClaim := { program := "ytbeojfhakmbacaa", sum := "64602cf4038725f62a57aa716b06adc1d117889edf7a91fe482befe433cdb476", func := "loop.example/g00875/laws.FnExactReceive", spec := "fnExactReceive", apart := false, narrowed := true }
def FnExactReceiveUptoSaid : Prop := fnExactReceiveUptoRow.holds Try.pinned (OpenSpec.upto fnExactReceiveSpec)

/-- 'laws.FnAging', WHERE WHAT IT READS IS OF BULK AT MOST 1048576: true; the input reads as it did. -/
def fnAgingUptoRow : OpenClaim := { program := "ytbeojfhakmbacaa", sum := "64602cf4038725f62a57aa716b06adc1d117889edf7a91fe482befe433cdb476", func := "loop.example/g00875/laws.FnAging", spec := "fnAging", apart := false, narrowed := true }
def FnAgingUptoSaid : Prop := fnAgingUptoRow.holds Try.pinned (OpenSpec.upto fnAgingSpec)

/-- 'laws.FnExactReceiveAll', WHERE WHAT IT READS IS OF BULK AT MOST 1048576: true; the input reads as it did. -/
def fnExactReceiveAllUptoRow : OpenClaim := { program := "ytbeojfhakmbacaa", sum := "64602cf4038725f62a57aa716b06adc1d117889edf7a91fe482befe433cdb476", func := "loop.example/g00875/laws.FnExactReceiveAll", spec := "fnExactReceiveAll", apart := false, narrowed := true }
def FnExactReceiveAllUptoSaid : Prop := fnExactReceiveAllUptoRow.holds Try.pinned (OpenSpec.upto fnExactReceiveAllSpec)

end Rows
end Go.Proofs.Ytbeojfhakmbacaa
