/-
  No cell of these rows narrows 'for every input' (looked for: loops, veiled, ifaces, maps, wideKeys, modest, calm, conditions, laid).
  DERIVED. THE GIVEN ROWS OF THIS SEAT. 8 by the template 'for every input the law returns true; each argument reads behind the call as it read before'; 0 by the template 'total and deterministic' (their statements: YtjnllkhchjhihaaTotals.lean).
  GIVEN WITH THE SEED: the statements are not yours to turn. If you find one false, say at which input.
  Laid BY PROGRAM, IN A SANDBOX (cutbox-rows.mjs): the forced cells as the released guide's own fill.sh prints them over the translation ee4dd412d386ec51… (all of the seat's roots in one cut). By AI agents, Wed Nov 11 2026. No macro, syntax, notation, axiom, sorry.
-/
import Derived.Test.YtjnllkhchjhihaaChecked
import GoSem.Claim
import GoSem.ClaimJoined
import GoSem.ClaimMapViews
import Derived.JoinedTies
import Derived.KernelRfl
namespace Go.Proofs.Ytjnllkhchjhihaa
/- THE CELL 'sum', in the pinned program and in every row, IS THE sha256 OF THE DUMP (.gsa) THAT YtjnllkhchjhihaaProg.lean LOADS. Nothing in Lean hashes anything: it is a label: what it is worth is what the hold of that sum in a sandbox is worth. -/
noncomputable def Try.pinned : Pinned := { name := "ytjnllkhchjhihaa", sum := "ee4dd412d386ec512eb715b7e5ccf24cf69eb22d3d374ebcea2be75f7636a759", checked := Try.checked }
namespace Rows
def none {H : Type} : Left H := { results := [], args := [] }

/-- 'laws.FnExactLoadWord': WHATEVER THE INPUT: true; the input reads as it did. -/
def fnExactLoadWordSpec : ChangeSpec := { name := "fnExactLoadWord", fn := fun _ => fun
  | [d1, d2] => { results := [.lit (.bool true)], args := [d1, d2] }
  | _ => none }
def fnExactLoadWordRow : OpenClaim := { program := "ytjnllkhchjhihaa", sum := "ee4dd412d386ec512eb715b7e5ccf24cf69eb22d3d374ebcea2be75f7636a759", func := "loop.example/g00306/laws.FnExactLoadWord", spec := "fnExactLoadWord", apart := false }
def FnExactLoadWordSaid : Prop := fnExactLoadWordRow.holds Try.pinned (OpenSpec.ofChange fnExactLoadWordSpec)

/-- ITS FALSE NEIGHBOUR: 'it returns false'. Refute it at one input. -/
def fnExactLoadWordWrong : ChangeSpec := { name := "fnExactLoadWord", fn := fun _ => fun
  | [d1, d2] => { results := [.lit (.bool false)], args := [d1, d2] }
  | _ => none }
def FnExactLoadWordWrongFalsely : Prop := fnExactLoadWordRow.holds Try.pinned (OpenSpec.ofChange fnExactLoadWordWrong)

/-- 'laws.FnExactNewMemory': WHATEVER THE INPUT: true; the input reads as it did. -/
def fnExactNewMemorySpec : ChangeSpec := { name := "fnExactNewMemory", fn := fun _ => fun
  | [d] => { results := [.lit (.bool true)], args := [d] }
  | _ => none }
def fnExactNewMemoryRow : OpenClaim := { program := "ytjnllkhchjhihaa", sum := "ee4dd412d386ec512eb715b7e5ccf24cf69eb22d3d374ebcea2be75f7636a759", func := "loop.example/g00306/laws.FnExactNewMemory", spec := "fnExactNewMemory", apart := false }
def FnExactNewMemorySaid : Prop := fnExactNewMemoryRow.holds Try.pinned (OpenSpec.ofChange fnExactNewMemorySpec)

/-- ITS FALSE NEIGHBOUR: 'it returns false'. Refute it at one input. -/
def fnExactNewMemoryWrong : ChangeSpec := { name := "fnExactNewMemory", fn := fun _ => fun
  | [d] => { results := [.lit (.bool false)], args := [d] }
  | _ => none }
def FnExactNewMemoryWrongFalsely : Prop := fnExactNewMemoryRow.holds Try.pinned (OpenSpec.ofChange fnExactNewMemoryWrong)

/-- 'laws.FnExactSetupOk': WHATEVER THE INPUT: true; the input reads as it did. -/
def fnExactSetupOkSpec : ChangeSpec := { name := "fnExactSetupOk", fn := fun _ => fun
  | [d] => { results := [.lit (.bool true)], args := [d] }
  | _ => none }
def fnExactSetupOkRow : OpenClaim := { program := "ytjnllkhchjhihaa", sum := "ee4dd412d386ec512eb715b7e5ccf24cf69eb22d3d374ebcea2be75f7636a759", func := "loop.example/g00306/laws.FnExactSetupOk", spec := "fnExactSetupOk", apart := false }
def FnExactSetupOkSaid : Prop := fnExactSetupOkRow.holds Try.pinned (OpenSpec.ofChange fnExactSetupOkSpec)

/-- ITS FALSE NEIGHBOUR: 'it returns false'. Refute it at one input. -/
def fnExactSetupOkWrong : ChangeSpec := { name := "fnExactSetupOk", fn := fun _ => fun
  | [d] => { results := [.lit (.bool false)], args := [d] }
  | _ => none }
def FnExactSetupOkWrongFalsely : Prop := fnExactSetupOkRow.holds Try.pinned (OpenSpec.ofChange fnExactSetupOkWrong)

/-- 'laws.FnCopies': WHATEVER THE INPUT: true; the input reads as it did. -/
def fnCopiesSpec : ChangeSpec := { name := "fnCopies", fn := fun _ => fun
  | [d] => { results := [.lit (.bool true)], args := [d] }
  | _ => none }
def fnCopiesRow : OpenClaim := { program := "ytjnllkhchjhihaa", sum := "ee4dd412d386ec512eb715b7e5ccf24cf69eb22d3d374ebcea2be75f7636a759", func := "loop.example/g00306/laws.FnCopies", spec := "fnCopies", apart := false }
def FnCopiesSaid : Prop := fnCopiesRow.holds Try.pinned (OpenSpec.ofChange fnCopiesSpec)

/-- ITS FALSE NEIGHBOUR: 'it returns false'. Refute it at one input. -/
def fnCopiesWrong : ChangeSpec := { name := "fnCopies", fn := fun _ => fun
  | [d] => { results := [.lit (.bool false)], args := [d] }
  | _ => none }
def FnCopiesWrongFalsely : Prop := fnCopiesRow.holds Try.pinned (OpenSpec.ofChange fnCopiesWrong)

/-- 'laws.FnSetups': WHATEVER THE INPUT: true; the input reads as it did. -/
def fnSetupsSpec : ChangeSpec := { name := "fnSetups", fn := fun _ => fun
  | [d] => { results := [.lit (.bool true)], args := [d] }
  | _ => none }
def fnSetupsRow : OpenClaim := { program := "ytjnllkhchjhihaa", sum := "ee4dd412d386ec512eb715b7e5ccf24cf69eb22d3d374ebcea2be75f7636a759", func := "loop.example/g00306/laws.FnSetups", spec := "fnSetups", apart := false }
def FnSetupsSaid : Prop := fnSetupsRow.holds Try.pinned (OpenSpec.ofChange fnSetupsSpec)

/-- ITS FALSE NEIGHBOUR: 'it returns false'. Refute it at one input. -/
def fnSetupsWrong : ChangeSpec := { name := "fnSetups", fn := fun _ => fun
  | [d] => { results := [.lit (.bool false)], args := [d] }
  | _ => none }
def FnSetupsWrongFalsely : Prop := fnSetupsRow.holds Try.pinned (OpenSpec.ofChange fnSetupsWrong)

/-- 'laws.FnWords': WHATEVER THE INPUT: true; the input reads as it did. -/
def fnWordsSpec : ChangeSpec := { name := "fnWords", fn := fun _ => fun
  | [d] => { results := [.lit (.bool true)], args := [d] }
  | _ => none }
def fnWordsRow : OpenClaim := { program := "ytjnllkhchjhihaa", sum := "ee4dd412d386ec512eb715b7e5ccf24cf69eb22d3d374ebcea2be75f7636a759", func := "loop.example/g00306/laws.FnWords", spec := "fnWords", apart := false }
def FnWordsSaid : Prop := fnWordsRow.holds Try.pinned (OpenSpec.ofChange fnWordsSpec)

/-- ITS FALSE NEIGHBOUR: 'it returns false'. Refute it at one input. -/
def fnWordsWrong : ChangeSpec := { name := "fnWords", fn := fun _ => fun
  | [d] => { results := [.lit (.bool false)], args := [d] }
  | _ => none }
def FnWordsWrongFalsely : Prop := fnWordsRow.holds Try.pinned (OpenSpec.ofChange fnWordsWrong)

/-- 'laws.FnExactStoreWord': WHATEVER THE INPUT: true; the input reads as it did. -/
def fnExactStoreWordSpec : ChangeSpec := { name := "fnExactStoreWord", fn := fun _ => fun
  | [d1, d2, d3] => { results := [.lit (.bool true)], args := [d1, d2, d3] }
  | _ => none }
def fnExactStoreWordRow : OpenClaim := { program := "ytjnllkhchjhihaa", sum := "ee4dd412d386ec512eb715b7e5ccf24cf69eb22d3d374ebcea2be75f7636a759", func := "loop.example/g00306/laws.FnExactStoreWord", spec := "fnExactStoreWord", apart := false }
def FnExactStoreWordSaid : Prop := fnExactStoreWordRow.holds Try.pinned (OpenSpec.ofChange fnExactStoreWordSpec)

/-- ITS FALSE NEIGHBOUR: 'it returns false'. Refute it at one input. -/
def fnExactStoreWordWrong : ChangeSpec := { name := "fnExactStoreWord", fn := fun _ => fun
  | [d1, d2, d3] => { results := [.lit (.bool false)], args := [d1, d2, d3] }
  | _ => none }
def FnExactStoreWordWrongFalsely : Prop := fnExactStoreWordRow.holds Try.pinned (OpenSpec.ofChange fnExactStoreWordWrong)

/-- 'laws.FnExactCopyWords': WHATEVER THE INPUT: true; the input reads as it did. -/
def fnExactCopyWordsSpec : ChangeSpec := { name := "fnExactCopyWords", fn := fun _ => fun
  | [d1, d2, d3, d4] => { results := [.lit (.bool true)], args := [d1, d2, d3, d4] }
  | _ => none }
def fnExactCopyWordsRow : OpenClaim := { program := "ytjnllkhchjhihaa", sum := "ee4dd412d386ec512eb715b7e5ccf24cf69eb22d3d374ebcea2be75f7636a759", func := "loop.example/g00306/laws.FnExactCopyWords", spec := "fnExactCopyWords", apart := false }
def FnExactCopyWordsSaid : Prop := fnExactCopyWordsRow.holds Try.pinned (OpenSpec.ofChange fnExactCopyWordsSpec)

/-- ITS FALSE NEIGHBOUR: 'it returns false'. Refute it at one input. -/
def fnExactCopyWordsWrong : ChangeSpec := { name := "fnExactCopyWords", fn := fun _ => fun
  | [d1, d2, d3, d4] => { results := [.lit (.bool false)], args := [d1, d2, d3, d4] }
  | _ => none }
def FnExactCopyWordsWrongFalsely : Prop := fnExactCopyWordsRow.holds Try.pinned (OpenSpec.ofChange fnExactCopyWordsWrong)

/- THE SECOND FORM. 'bulk': how many values and letters a reading holds, each counted each time it is reached (what is shared counts as often as it is met; a slice's spare places count too). A statement '..UptoSaid' is the law's where the arguments, and the package variables that the reading takes, are together of bulk at most 1048576: NARROWER than '..Said'. Prove '..Said' where nothing that the law and all that it calls make is longer than what came in: it says more and counts as full. Else prove '..UptoSaid'. A law counts once. -/
mutual
def uptoBulk {H : Type} : DataW H → Nat
  | .lit (.string bytes) => bytes.length + 1
  | .lit _ => 1
  | .nil => 1
  | .ptr d => uptoBulk d + 1
  | .slice elems spare => uptoBulkAll elems + uptoBulkAll spare + 1
  | .agg parts => uptoBulkAll parts + 1
  | .iface _ d => uptoBulk d + 1
  | .map entries => uptoBulkEntries entries + 1
  | .held _ => 1
def uptoBulkAll {H : Type} : List (DataW H) → Nat
  | [] => 0
  | d :: r => uptoBulk d + uptoBulkAll r
def uptoBulkEntries {H : Type} : List (Lit × DataW H) → Nat
  | [] => 0
  | x :: r => uptoBulkEntry x + uptoBulkEntries r
def uptoBulkEntry {H : Type} : Lit × DataW H → Nat
  | (.string bytes, d) => bytes.length + uptoBulk d + 1
  | (_, d) => uptoBulk d + 1
 end
def uptoSmall : (H : Type) → List (DataW H) → Bool := fun _ ds => decide (uptoBulkAll ds ≤ 1048576)
def OpenSpec.upto (s : _root_.Go.ChangeSpec) : _root_.Go.OpenSpec := { _root_.Go.OpenSpec.ofChange s with cond := some uptoSmall }

/-- 'laws.FnExactLoadWord', WHERE WHAT IT READS IS OF BULK AT MOST 1048576: true; the input reads as it did. -/
def fnExactLoadWordUptoRow : OpenClaim := { program := "ytjnllkhchjhihaa", sum := "ee4dd412d386ec512eb715b7e5ccf24cf69eb22d3d374ebcea2be75f7636a759", func := "loop.example/g00306/laws.FnExactLoadWord", spec := "fnExactLoadWord", apart := false, narrowed := true }
def FnExactLoadWordUptoSaid : Prop := fnExactLoadWordUptoRow.holds Try.pinned (OpenSpec.upto fnExactLoadWordSpec)

/-- 'laws.FnExactNewMemory', WHERE WHAT IT READS IS OF BULK AT MOST 1048576: true; the input reads as it did. -/
def fnExactNewMemoryUptoRow : OpenClaim := { program := "ytjnllkhchjhihaa", sum := "ee4dd412d386ec512eb715b7e5ccf24cf69eb22d3d374ebcea2be75f7636a759", func := "loop.example/g00306/laws.FnExactNewMemory", spec := "fnExactNewMemory", apart := false, narrowed := true }
def FnExactNewMemoryUptoSaid : Prop := fnExactNewMemoryUptoRow.holds Try.pinned (OpenSpec.upto fnExactNewMemorySpec)

/-- 'laws.FnExactSetupOk', WHERE WHAT IT READS IS OF BULK AT MOST 1048576: true; the input reads as it did. -/
def fnExactSetupOkUptoRow : OpenClaim := { program := "ytjnllkhchjhihaa", sum := "ee4dd412d386ec512eb715b7e5ccf24cf69eb22d3d374ebcea2be75f7636a759", func := "loop.example/g00306/laws.FnExactSetupOk", spec := "fnExactSetupOk", apart := false, narrowed := true }
def FnExactSetupOkUptoSaid : Prop := fnExactSetupOkUptoRow.holds Try.pinned (OpenSpec.upto fnExactSetupOkSpec)

/-- 'laws.FnCopies', WHERE WHAT IT READS IS OF BULK AT MOST 1048576: true; the input reads as it did. -/
def fnCopiesUptoRow : OpenClaim := { program := "ytjnllkhchjhihaa", sum := "ee4dd412d386ec512eb715b7e5ccf24cf69eb22d3d374ebcea2be75f7636a759", func := "loop.example/g00306/laws.FnCopies", spec := "fnCopies", apart := false, narrowed := true }
def FnCopiesUptoSaid : Prop := fnCopiesUptoRow.holds Try.pinned (OpenSpec.upto fnCopiesSpec)

/-- 'laws.FnSetups', WHERE WHAT IT READS IS OF BULK AT MOST 1048576: true; the input reads as it did. -/
def fnSetupsUptoRow : OpenClaim := { program := "ytjnllkhchjhihaa", sum := "ee4dd412d386ec512eb715b7e5ccf24cf69eb22d3d374ebcea2be75f7636a759", func := "loop.example/g00306/laws.FnSetups", spec := "fnSetups", apart := false, narrowed := true }
def FnSetupsUptoSaid : Prop := fnSetupsUptoRow.holds Try.pinned (OpenSpec.upto fnSetupsSpec)

/-- 'laws.FnWords', WHERE WHAT IT READS IS OF BULK AT MOST 1048576: true; the input reads as it did. -/
def fnWordsUptoRow : OpenClaim := { program := "ytjnllkhchjhihaa", sum := "ee4dd412d386ec512eb715b7e5ccf24cf69eb22d3d374ebcea2be75f7636a759", func := "loop.example/g00306/laws.FnWords", spec := "fnWords", apart := false, narrowed := true }
def FnWordsUptoSaid : Prop := fnWordsUptoRow.holds Try.pinned (OpenSpec.upto fnWordsSpec)

/-- 'laws.FnExactStoreWord', WHERE WHAT IT READS IS OF BULK AT MOST 1048576: true; the input reads as it did. -/
def fnExactStoreWordUptoRow : OpenClaim := { program := "ytjnllkhchjhihaa", sum := "ee4dd412d386ec512eb715b7e5ccf24cf69eb22d3d374ebcea2be75f7636a759", func := "loop.example/g00306/laws.FnExactStoreWord", spec := "fnExactStoreWord", apart := false, narrowed := true }
def FnExactStoreWordUptoSaid : Prop := fnExactStoreWordUptoRow.holds Try.pinned (OpenSpec.upto fnExactStoreWordSpec)

/-- 'laws.FnExactCopyWords', WHERE WHAT IT READS IS OF BULK AT MOST 1048576: true; the input reads as it did. -/
def fnExactCopyWordsUptoRow : OpenClaim := { program := "ytjnllkhchjhihaa", sum := "ee4dd412d386ec512eb715b7e5ccf24cf69eb22d3d374ebcea2be75f7636a759", func := "loop.example/g00306/laws.FnExactCopyWords", spec := "fnExactCopyWords", apart := false, narrowed := true }
def FnExactCopyWordsUptoSaid : Prop := fnExactCopyWordsUptoRow.holds Try.pinned (OpenSpec.upto fnExactCopyWordsSpec)

end Rows
end Go.Proofs.Ytjnllkhchjhihaa
