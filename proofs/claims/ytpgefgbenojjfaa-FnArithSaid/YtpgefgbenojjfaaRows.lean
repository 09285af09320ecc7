/-
  No cell of these rows narrows 'for every input' (looked for: loops, veiled, ifaces, maps, wideKeys, modest, calm, conditions, laid).
  DERIVED. THE GIVEN ROWS OF THIS SEAT. 9 by the template 'for every input the law returns true; each argument reads behind the call as it read before'; 0 by the template 'total and deterministic' (their statements: YtpgefgbenojjfaaTotals.lean).
  GIVEN WITH THE SEED: the statements are not yours to turn. If you find one false, say at which input.
  Laid BY PROGRAM, IN A SANDBOX (cutbox-rows.mjs): the forced cells as the released guide's own fill.sh prints them over the translation 0cb009a8855e9dd2… (all of the seat's roots in one cut). By AI agents, Wed Nov 11 2026. No macro, syntax, notation, axiom, sorry.
-/
import Derived.Test.YtpgefgbenojjfaaChecked
import GoSem.Claim
import GoSem.ClaimJoined
import GoSem.ClaimMapViews
import Derived.JoinedTies
import Derived.KernelRfl
namespace Go.Proofs.Ytpgefgbenojjfaa
/- THE CELL 'sum', in the pinned program and in every row, IS THE sha256 OF THE DUMP (.gsa) THAT YtpgefgbenojjfaaProg.lean LOADS. Nothing in Lean hashes anything: it is a label: what it is worth is what the hold of that sum in a sandbox is worth. -/
noncomputable def Try.pinned : Pinned := { name := "ytpgefgbenojjfaa", sum := "0cb009a8855e9dd2f7db3c76061917280246f576f0dc753cd93c35ff52384b1f", checked := Try.checked }
namespace Rows
def none {H : Type} : Left H := { results := [], args := [] }

/-- 'laws.FnExactConstants': WHATEVER THE INPUT: true; the input reads as it did. -/
def fnExactConstantsSpec : ChangeSpec := { name := "fnExactConstants", fn := fun _ => fun
  | [] => { results := [.lit (.bool true)], args := [] }
  | _ => none }
def fnExactConstantsRow : OpenClaim := { program := "ytpgefgbenojjfaa", sum := "0cb009a8855e9dd2f7db3c76061917280246f576f0dc753cd93c35ff52384b1f", func := "loop.example/g00306/laws.FnExactConstants", spec := "fnExactConstants", apart := false }
def FnExactConstantsSaid : Prop := fnExactConstantsRow.holds Try.pinned (OpenSpec.ofChange fnExactConstantsSpec)

/-- ITS FALSE NEIGHBOUR: 'it returns false'. Refute it at one input. -/
def fnExactConstantsWrong : ChangeSpec := { name := "fnExactConstants", fn := fun _ => fun
  | [] => { results := [.lit (.bool false)], args := [] }
  | _ => none }
def FnExactConstantsWrongFalsely : Prop := fnExactConstantsRow.holds Try.pinned (OpenSpec.ofChange fnExactConstantsWrong)

/-- 'laws.FnExactFloat': WHATEVER THE INPUT: true; the input reads as it did. -/
def fnExactFloatSpec : ChangeSpec := { name := "fnExactFloat", fn := fun _ => fun
  | [d] => { results := [.lit (.bool true)], args := [d] }
  | _ => none }
def fnExactFloatRow : OpenClaim := { program := "ytpgefgbenojjfaa", sum := "0cb009a8855e9dd2f7db3c76061917280246f576f0dc753cd93c35ff52384b1f", func := "loop.example/g00306/laws.FnExactFloat", spec := "fnExactFloat", inPlace := ["math.Float64frombits"], apart := false }
def FnExactFloatSaid : Prop := fnExactFloatRow.holds Try.pinned (OpenSpec.ofChange fnExactFloatSpec)

/-- ITS FALSE NEIGHBOUR: 'it returns false'. Refute it at one input. -/
def fnExactFloatWrong : ChangeSpec := { name := "fnExactFloat", fn := fun _ => fun
  | [d] => { results := [.lit (.bool false)], args := [d] }
  | _ => none }
def FnExactFloatWrongFalsely : Prop := fnExactFloatRow.holds Try.pinned (OpenSpec.ofChange fnExactFloatWrong)

/-- 'laws.FnExactBits': WHATEVER THE INPUT: true; the input reads as it did. -/
def fnExactBitsSpec : ChangeSpec := { name := "fnExactBits", fn := fun _ => fun
  | [d] => { results := [.lit (.bool true)], args := [d] }
  | _ => none }
def fnExactBitsRow : OpenClaim := { program := "ytpgefgbenojjfaa", sum := "0cb009a8855e9dd2f7db3c76061917280246f576f0dc753cd93c35ff52384b1f", func := "loop.example/g00306/laws.FnExactBits", spec := "fnExactBits", inPlace := ["math.Float64bits"], apart := false }
def FnExactBitsSaid : Prop := fnExactBitsRow.holds Try.pinned (OpenSpec.ofChange fnExactBitsSpec)

/-- ITS FALSE NEIGHBOUR: 'it returns false'. Refute it at one input. -/
def fnExactBitsWrong : ChangeSpec := { name := "fnExactBits", fn := fun _ => fun
  | [d] => { results := [.lit (.bool false)], args := [d] }
  | _ => none }
def FnExactBitsWrongFalsely : Prop := fnExactBitsRow.holds Try.pinned (OpenSpec.ofChange fnExactBitsWrong)

/-- 'laws.FnExactFromInt': WHATEVER THE INPUT: true; the input reads as it did. -/
def fnExactFromIntSpec : ChangeSpec := { name := "fnExactFromInt", fn := fun _ => fun
  | [d] => { results := [.lit (.bool true)], args := [d] }
  | _ => none }
def fnExactFromIntRow : OpenClaim := { program := "ytpgefgbenojjfaa", sum := "0cb009a8855e9dd2f7db3c76061917280246f576f0dc753cd93c35ff52384b1f", func := "loop.example/g00306/laws.FnExactFromInt", spec := "fnExactFromInt", inPlace := ["math.Float64bits"], apart := false }
def FnExactFromIntSaid : Prop := fnExactFromIntRow.holds Try.pinned (OpenSpec.ofChange fnExactFromIntSpec)

/-- ITS FALSE NEIGHBOUR: 'it returns false'. Refute it at one input. -/
def fnExactFromIntWrong : ChangeSpec := { name := "fnExactFromInt", fn := fun _ => fun
  | [d] => { results := [.lit (.bool false)], args := [d] }
  | _ => none }
def FnExactFromIntWrongFalsely : Prop := fnExactFromIntRow.holds Try.pinned (OpenSpec.ofChange fnExactFromIntWrong)

/-- 'laws.FnExactToInt': WHATEVER THE INPUT: true; the input reads as it did. -/
def fnExactToIntSpec : ChangeSpec := { name := "fnExactToInt", fn := fun _ => fun
  | [d] => { results := [.lit (.bool true)], args := [d] }
  | _ => none }
def fnExactToIntRow : OpenClaim := { program := "ytpgefgbenojjfaa", sum := "0cb009a8855e9dd2f7db3c76061917280246f576f0dc753cd93c35ff52384b1f", func := "loop.example/g00306/laws.FnExactToInt", spec := "fnExactToInt", inPlace := ["math.Float64frombits"], apart := false }
def FnExactToIntSaid : Prop := fnExactToIntRow.holds Try.pinned (OpenSpec.ofChange fnExactToIntSpec)

/-- ITS FALSE NEIGHBOUR: 'it returns false'. Refute it at one input. -/
def fnExactToIntWrong : ChangeSpec := { name := "fnExactToInt", fn := fun _ => fun
  | [d] => { results := [.lit (.bool false)], args := [d] }
  | _ => none }
def FnExactToIntWrongFalsely : Prop := fnExactToIntRow.holds Try.pinned (OpenSpec.ofChange fnExactToIntWrong)

/-- 'laws.FnExactArith': WHATEVER THE INPUT: true; the input reads as it did. -/
def fnExactArithSpec : ChangeSpec := { name := "fnExactArith", fn := fun _ => fun
  | [d1, d2, d3] => { results := [.lit (.bool true)], args := [d1, d2, d3] }
  | _ => none }
def fnExactArithRow : OpenClaim := { program := "ytpgefgbenojjfaa", sum := "0cb009a8855e9dd2f7db3c76061917280246f576f0dc753cd93c35ff52384b1f", func := "loop.example/g00306/laws.FnExactArith", spec := "fnExactArith", inPlace := ["math.Float64frombits", "math.Float64bits"], apart := false }
def FnExactArithSaid : Prop := fnExactArithRow.holds Try.pinned (OpenSpec.ofChange fnExactArithSpec)

/-- ITS FALSE NEIGHBOUR: 'it returns false'. Refute it at one input. -/
def fnExactArithWrong : ChangeSpec := { name := "fnExactArith", fn := fun _ => fun
  | [d1, d2, d3] => { results := [.lit (.bool false)], args := [d1, d2, d3] }
  | _ => none }
def FnExactArithWrongFalsely : Prop := fnExactArithRow.holds Try.pinned (OpenSpec.ofChange fnExactArithWrong)

/-- 'laws.FnBits': WHATEVER THE INPUT: true; the input reads as it did. -/
def fnBitsSpec : ChangeSpec := { name := "fnBits", fn := fun _ => fun
  | [d] => { results := [.lit (.bool true)], args := [d] }
  | _ => none }
def fnBitsRow : OpenClaim := { program := "ytpgefgbenojjfaa", sum := "0cb009a8855e9dd2f7db3c76061917280246f576f0dc753cd93c35ff52384b1f", func := "loop.example/g00306/laws.FnBits", spec := "fnBits", inPlace := ["math.Float64bits", "math.Float64frombits"], apart := false }
def FnBitsSaid : Prop := fnBitsRow.holds Try.pinned (OpenSpec.ofChange fnBitsSpec)

/-- ITS FALSE NEIGHBOUR: 'it returns false'. Refute it at one input. -/
def fnBitsWrong : ChangeSpec := { name := "fnBits", fn := fun _ => fun
  | [d] => { results := [.lit (.bool false)], args := [d] }
  | _ => none }
def FnBitsWrongFalsely : Prop := fnBitsRow.holds Try.pinned (OpenSpec.ofChange fnBitsWrong)

/-- 'laws.FnConvert': WHATEVER THE INPUT: true; the input reads as it did. -/
def fnConvertSpec : ChangeSpec := { name := "fnConvert", fn := fun _ => fun
  | [d] => { results := [.lit (.bool true)], args := [d] }
  | _ => none }
def fnConvertRow : OpenClaim := { program := "ytpgefgbenojjfaa", sum := "0cb009a8855e9dd2f7db3c76061917280246f576f0dc753cd93c35ff52384b1f", func := "loop.example/g00306/laws.FnConvert", spec := "fnConvert", inPlace := ["math.Float64bits", "math.Float64frombits"], apart := false }
def FnConvertSaid : Prop := fnConvertRow.holds Try.pinned (OpenSpec.ofChange fnConvertSpec)

/-- ITS FALSE NEIGHBOUR: 'it returns false'. Refute it at one input. -/
def fnConvertWrong : ChangeSpec := { name := "fnConvert", fn := fun _ => fun
  | [d] => { results := [.lit (.bool false)], args := [d] }
  | _ => none }
def FnConvertWrongFalsely : Prop := fnConvertRow.holds Try.pinned (OpenSpec.ofChange fnConvertWrong)

/-- 'laws.FnArith': WHATEVER THE INPUT: true; the input reads as it did. -/
def fnArithSpec : ChangeSpec := { name := "fnArith", fn := fun _ => fun
  | [d] => { results := [.lit (.bool true)], args := [d] }
  | _ => none }
def fnArithRow : OpenClaim := { program := "ytpgefgbenojjfaa", sum := "0cb009a8855e9dd2f7db3c76061917280246f576f0dc753cd93c35ff52384b1f", func := "loop.example/g00306/laws.FnArith", spec := "fnArith", inPlace := ["math.Float64frombits", "math.Float64bits"], apart := false }
def FnArithSaid : Prop := fnArithRow.holds Try.pinned (OpenSpec.ofChange fnArithSpec)

/-- ITS FALSE NEIGHBOUR: 'it returns false'. Refute it at one input. -/
def fnArithWrong : ChangeSpec := { name := "fnArith", fn := fun _ => fun
  | [d] => { results := [.lit (.bool false)], args := [d] }
  | _ => none }
def FnArithWrongFalsely : Prop := fnArithRow.holds Try.pinned (OpenSpec.ofChange fnArithWrong)

/- THE SECOND FORM. 'bulk': how many values and letters a reading holds, each counted each time it is reached (what is shared counts as often as it is met; a slice's spare places count too). A statement '..UptoSaid' is the law's where the arguments, and the package variables that the reading takes, are together of bulk at most 1048576: NARROWER than '..Said'. Prove '..Said' where nothing that the law and all that it calls make is longer than what came in: it says more and counts as full. Else prove '..UptoSaid'. A law counts once. -/
mutual
def uptoBulk {H : Type} : DataW H → Nat
  | .lit (.string bytes) => bytes.length + 1
  | .lit _ => 1
  | .nil => 1
  | .ptr d => uptoBulk d + 1
  | .slice elems spare => uptoBulkAll elems + uptoBulkAll spare + 1
  | .agg parts => uptoBulkAll parts + 1
  | .iface _ d => uptoBulk d + 1
  | .map entries => uptoBulkEntries entries + 1
  | .held _ => 1
def uptoBulkAll {H : Type} : List (DataW H) → Nat
  | [] => 0
  | d :: r => uptoBulk d + uptoBulkAll r
def uptoBulkEntries {H : Type} : List (Lit × DataW H) → Nat
  | [] => 0
  | x :: r => uptoBulkEntry x + uptoBulkEntries r
def uptoBulkEntry {H : Type} : Lit × DataW H → Nat
  | (.string bytes, d) => bytes.length + uptoBulk d + 1
  | (_, d) => uptoBulk d + 1
 end
def uptoSmall : (H : Type) → List (DataW H) → Bool := fun _ ds => decide (uptoBulkAll ds ≤ 1048576)
def OpenSpec.upto (s : _root_.Go.ChangeSpec) : _root_.Go.OpenSpec := { _root_.Go.OpenSpec.ofChange s with cond := some uptoSmall }

/-- 'laws.FnExactConstants', WHERE WHAT IT READS IS OF BULK AT MOST 1048576: true; the input reads as it did. -/
def fnExactConstantsUptoRow : OpenClaim := { program := "ytpgefgbenojjfaa", sum := "0cb009a8855e9dd2f7db3c76061917280246f576f0dc753cd93c35ff52384b1f", func := "loop.example/g00306/laws.FnExactConstants", spec := "fnExactConstants", apart := false, narrowed := true }
def FnExactConstantsUptoSaid : Prop := fnExactConstantsUptoRow.holds Try.pinned (OpenSpec.upto fnExactConstantsSpec)

/-- 'laws.FnExactFloat', WHERE WHAT IT READS IS OF BULK AT MOST 1048576: true; the input reads as it did. -/
def fnExactFloatUptoRow : OpenClaim := { program := "ytpgefgbenojjfaa", sum := "0cb009a8855e9dd2f7db3c76061917280246f576f0dc753cd93c35ff52384b1f", func := "loop.example/g00306/laws.FnExactFloat", spec := "fnExactFloat", inPlace := ["math.Float64frombits"], apart := false, narrowed := true }
def FnExactFloatUptoSaid : Prop := fnExactFloatUptoRow.holds Try.pinned (OpenSpec.upto fnExactFloatSpec)

/-- 'laws.FnExactBits', WHERE WHAT IT READS IS OF BULK AT MOST 1048576: true; the input reads as it did. -/
def fnExactBitsUptoRow : OpenClaim := { program := "ytpgefgbenojjfaa", sum := "0cb009a8855e9dd2f7db3c76061917280246f576f0dc753cd93c35ff52384b1f", func := "loop.example/g00306/laws.FnExactBits", spec := "fnExactBits", inPlace := ["math.Float64bits"], apart := false, narrowed := true }
def FnExactBitsUptoSaid : Prop := fnExactBitsUptoRow.holds Try.pinned (OpenSpec.upto fnExactBitsSpec)

/-- 'laws.FnExactFromInt', WHERE WHAT IT READS IS OF BULK AT MOST 1048576: true; the input reads as it did. -/
def fnExactFromIntUptoRow : OpenClaim := { program := "ytpgefgbenojjfaa", sum := "0cb009a8855e9dd2f7db3c76061917280246f576f0dc753cd93c35ff52384b1f", func := "loop.example/g00306/laws.FnExactFromInt", spec := "fnExactFromInt", inPlace := ["math.Float64bits"], apart := false, narrowed := true }
def FnExactFromIntUptoSaid : Prop := fnExactFromIntUptoRow.holds Try.pinned (OpenSpec.upto fnExactFromIntSpec)

/-- 'laws.FnExactToInt', WHERE WHAT IT READS IS OF BULK AT MOST 1048576: true; the input reads as it did. -/
def fnExactToIntUptoRow : OpenClaim := { program := "ytpgefgbenojjfaa", sum := "0cb009a8855e9dd2f7db3c76061917280246f576f0dc753cd93c35ff52384b1f", func := "loop.example/g00306/laws.FnExactToInt", spec := "fnExactToInt", inPlace := ["math.Float64frombits"], apart := false, narrowed := true }
def FnExactToIntUptoSaid : Prop := fnExactToIntUptoRow.holds Try.pinned (OpenSpec.upto fnExactToIntSpec)

/-- 'laws.FnExactArith', WHERE WHAT IT READS IS OF BULK AT MOST 1048576: true; the input reads as it did. -/
def fnExactArithUptoRow : OpenClaim := { program := "ytpgefgbenojjfaa", sum := "0cb009a8855e9dd2f7db3c76061917280246f576f0dc753cd93c35ff52384b1f", func := "loop.example/g00306/laws.FnExactArith", spec := "fnExactArith", inPlace := ["math.Float64frombits", "math.Float64bits"], apart := false, narrowed := true }
def FnExactArithUptoSaid : Prop := fnExactArithUptoRow.holds Try.pinned (OpenSpec.upto fnExactArithSpec)

/-- 'laws.FnBits', WHERE WHAT IT READS IS OF BULK AT MOST 1048576: true; the input reads as it did. -/
def fnBitsUptoRow : OpenClaim := { program := "ytpgefgbenojjfaa", sum := "0cb009a8855e9dd2f7db3c76061917280246f576f0dc753cd93c35ff52384b1f", func := "loop.example/g00306/laws.FnBits", spec := "fnBits", inPlace := ["math.Float64bits", "math.Float64frombits"], apart := false, narrowed := true }
def FnBitsUptoSaid : Prop := fnBitsUptoRow.holds Try.pinned (OpenSpec.upto fnBitsSpec)

/-- 'laws.FnConvert', WHERE WHAT IT READS IS OF BULK AT MOST 1048576: true; the input reads as it did. -/
def fnConvertUptoRow : OpenClaim := { program := "ytpgefgbenojjfaa", sum := "0cb009a8855e9dd2f7db3c76061917280246f576f0dc753cd93c35ff52384b1f", func := "loop.example/g00306/laws.FnConvert", spec := "fnConvert", inPlace := ["math.Float64bits", "math.Float64frombits"], apart := false, narrowed := true }
def FnConvertUptoSaid : Prop := fnConvertUptoRow.holds Try.pinned (OpenSpec.upto fnConvertSpec)

/-- 'laws.FnArith', WHERE WHAT IT READS IS OF BULK AT MOST 1048576: true; the input reads as it did. -/
def fnArithUptoRow : OpenClaim := { program := "ytpgefgbenojjfaa", sum := "0cb009a8855e9dd2f7db3c76061917280246f576f0dc753cd93c35ff52384b1f", func := "loop.example/g00306/laws.FnArith", spec := "fnArith", inPlace := ["math.Float64frombits", "math.Float64bits"], apart := false, narrowed := true }
def FnArithUptoSaid : Prop := fnArithUptoRow.holds Try.pinned (OpenSpec.upto fnArithSpec)

end Rows
end Go.Proofs.Ytpgefgbenojjfaa
