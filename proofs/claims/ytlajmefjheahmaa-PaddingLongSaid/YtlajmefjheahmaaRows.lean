/-
  No cell of these rows narrows 'for every input' (looked for: loops, veiled, ifaces, maps, wideKeys, modest, calm, conditions, laid).
  DERIVED. THE GIVEN ROWS OF THIS SEAT. 10 by the template 'for every input the law returns true; each argument reads behind the call as it read before'; 0 by the template 'total and deterministic' (their statements: YtlajmefjheahmaaTotals.lean).
  GIVEN WITH THE SEED: the statements are not yours to turn. If you find one false, say at which input.
  Laid BY PROGRAM, IN A SANDBOX (cutbox-rows.mjs): the forced cells as the released guide's own fill.sh prints them over the translation 2936e1f497967f2c… (all of the seat's roots in one cut). By AI agents, Wed Nov 11 2026. No macro, syntax, notation, axiom, sorry.
-/
import Derived.Test.YtlajmefjheahmaaChecked
import GoSem.Claim
import GoSem.ClaimJoined
import GoSem.ClaimMapViews
import Derived.JoinedTies
import Derived.KernelRfl
namespace Go.Proofs.Ytlajmefjheahmaa
/- THE CELL 'sum', in the pinned program and in every row, IS THE sha256 OF THE DUMP (.gsa) THAT YtlajmefjheahmaaProg.lean LOADS. Nothing in Lean hashes anything: it is a label: what it is worth is what the hold of that sum in a sandbox is worth. -/
noncomputable def Try.pinned : Pinned := { name := "ytlajmefjheahmaa", sum := "2936e1f497967f2cd3d6a2e9a431468671b5fcaae2bc13d72733ba4ec9fefa0b", checked := Try.checked }
namespace Rows
def none {H : Type} : Left H := { results := [], args := [] }

/-- 'crawlwaylaw46.PaddingSize': WHATEVER THE INPUT: true; the input reads as it did. -/
def paddingSizeSpec : ChangeSpec := { name := "paddingSize", fn := fun _ => fun
  | [d] => { results := [.lit (.bool true)], args := [d] }
  | _ => none }
def paddingSizeRow : OpenClaim := { program := "ytlajmefjheahmaa", sum := "2936e1f497967f2cd3d6a2e9a431468671b5fcaae2bc13d72733ba4ec9fefa0b", func := "crawlway/crawlwaylaw46.PaddingSize", spec := "paddingSize", apart := false }
def PaddingSizeSaid : Prop := paddingSizeRow.holds Try.pinned (OpenSpec.ofChange paddingSizeSpec)

/-- ITS FALSE NEIGHBOUR: 'it returns false'. Refute it at one input. -/
def paddingSizeWrong : ChangeSpec := { name := "paddingSize", fn := fun _ => fun
  | [d] => { results := [.lit (.bool false)], args := [d] }
  | _ => none }
def PaddingSizeWrongFalsely : Prop := paddingSizeRow.holds Try.pinned (OpenSpec.ofChange paddingSizeWrong)

/-- 'crawlwaylaw46.PaddingLong': WHATEVER THE INPUT: true; the input reads as it did. -/
def paddingLongSpec : ChangeSpec := { name := "paddingLong", fn := fun _ => fun
  | [d] => { results := [.lit (.bool true)], args := [d] }
  | _ => none }
def paddingLongRow : OpenClaim := { program := "ytlajmefjheahmaa", sum := "2936e1f497967f2cd3d6a2e9a431468671b5fcaae2bc13d72733ba4ec9fefa0b", func := "crawlway/crawlwaylaw46.PaddingLong", spec := "paddingLong", apart := false }
def PaddingLongSaid : Prop := paddingLongRow.holds Try.pinned (OpenSpec.ofChange paddingLongSpec)

/-- ITS FALSE NEIGHBOUR: 'it returns false'. Refute it at one input. -/
def paddingLongWrong : ChangeSpec := { name := "paddingLong", fn := fun _ => fun
  | [d] => { results := [.lit (.bool false)], args := [d] }
  | _ => none }
def PaddingLongWrongFalsely : Prop := paddingLongRow.holds Try.pinned (OpenSpec.ofChange paddingLongWrong)

/-- 'crawlwaylaw29.CounterNext': WHATEVER THE INPUT: true; the input reads as it did. -/
def counterNextSpec : ChangeSpec := { name := "counterNext", fn := fun _ => fun
  | [d1, d2] => { results := [.lit (.bool true)], args := [d1, d2] }
  | _ => none }
def counterNextRow : OpenClaim := { program := "ytlajmefjheahmaa", sum := "2936e1f497967f2cd3d6a2e9a431468671b5fcaae2bc13d72733ba4ec9fefa0b", func := "crawlway/crawlwaylaw29.CounterNext", spec := "counterNext", apart := false }
def CounterNextSaid : Prop := counterNextRow.holds Try.pinned (OpenSpec.ofChange counterNextSpec)

/-- ITS FALSE NEIGHBOUR: 'it returns false'. Refute it at one input. -/
def counterNextWrong : ChangeSpec := { name := "counterNext", fn := fun _ => fun
  | [d1, d2] => { results := [.lit (.bool false)], args := [d1, d2] }
  | _ => none }
def CounterNextWrongFalsely : Prop := counterNextRow.holds Try.pinned (OpenSpec.ofChange counterNextWrong)

/-- 'crawlwaylaw29.CounterNobody': WHATEVER THE INPUT: true; the input reads as it did. -/
def counterNobodySpec : ChangeSpec := { name := "counterNobody", fn := fun _ => fun
  | [d] => { results := [.lit (.bool true)], args := [d] }
  | _ => none }
def counterNobodyRow : OpenClaim := { program := "ytlajmefjheahmaa", sum := "2936e1f497967f2cd3d6a2e9a431468671b5fcaae2bc13d72733ba4ec9fefa0b", func := "crawlway/crawlwaylaw29.CounterNobody", spec := "counterNobody", apart := false }
def CounterNobodySaid : Prop := counterNobodyRow.holds Try.pinned (OpenSpec.ofChange counterNobodySpec)

/-- ITS FALSE NEIGHBOUR: 'it returns false'. Refute it at one input. -/
def counterNobodyWrong : ChangeSpec := { name := "counterNobody", fn := fun _ => fun
  | [d] => { results := [.lit (.bool false)], args := [d] }
  | _ => none }
def CounterNobodyWrongFalsely : Prop := counterNobodyRow.holds Try.pinned (OpenSpec.ofChange counterNobodyWrong)

/-- 'crawlwaylaw18.OnesumAdd': WHATEVER THE INPUT: true; the input reads as it did. -/
def onesumAddSpec : ChangeSpec := { name := "onesumAdd", fn := fun _ => fun
  | [d1, d2, d3] => { results := [.lit (.bool true)], args := [d1, d2, d3] }
  | _ => none }
def onesumAddRow : OpenClaim := { program := "ytlajmefjheahmaa", sum := "2936e1f497967f2cd3d6a2e9a431468671b5fcaae2bc13d72733ba4ec9fefa0b", func := "crawlway/crawlwaylaw18.OnesumAdd", spec := "onesumAdd", apart := false }
def OnesumAddSaid : Prop := onesumAddRow.holds Try.pinned (OpenSpec.ofChange onesumAddSpec)

/-- ITS FALSE NEIGHBOUR: 'it returns false'. Refute it at one input. -/
def onesumAddWrong : ChangeSpec := { name := "onesumAdd", fn := fun _ => fun
  | [d1, d2, d3] => { results := [.lit (.bool false)], args := [d1, d2, d3] }
  | _ => none }
def OnesumAddWrongFalsely : Prop := onesumAddRow.holds Try.pinned (OpenSpec.ofChange onesumAddWrong)

/-- 'crawlwaylaw18.OnesumOf': WHATEVER THE INPUT: true; the input reads as it did. -/
def onesumOfSpec : ChangeSpec := { name := "onesumOf", fn := fun _ => fun
  | [d] => { results := [.lit (.bool true)], args := [d] }
  | _ => none }
def onesumOfRow : OpenClaim := { program := "ytlajmefjheahmaa", sum := "2936e1f497967f2cd3d6a2e9a431468671b5fcaae2bc13d72733ba4ec9fefa0b", func := "crawlway/crawlwaylaw18.OnesumOf", spec := "onesumOf", apart := false }
def OnesumOfSaid : Prop := onesumOfRow.holds Try.pinned (OpenSpec.ofChange onesumOfSpec)

/-- ITS FALSE NEIGHBOUR: 'it returns false'. Refute it at one input. -/
def onesumOfWrong : ChangeSpec := { name := "onesumOf", fn := fun _ => fun
  | [d] => { results := [.lit (.bool false)], args := [d] }
  | _ => none }
def OnesumOfWrongFalsely : Prop := onesumOfRow.holds Try.pinned (OpenSpec.ofChange onesumOfWrong)

/-- 'crawlwaylaw18.OnesumCheck': WHATEVER THE INPUT: true; the input reads as it did. -/
def onesumCheckSpec : ChangeSpec := { name := "onesumCheck", fn := fun _ => fun
  | [d1, d2, d3] => { results := [.lit (.bool true)], args := [d1, d2, d3] }
  | _ => none }
def onesumCheckRow : OpenClaim := { program := "ytlajmefjheahmaa", sum := "2936e1f497967f2cd3d6a2e9a431468671b5fcaae2bc13d72733ba4ec9fefa0b", func := "crawlway/crawlwaylaw18.OnesumCheck", spec := "onesumCheck", apart := false }
def OnesumCheckSaid : Prop := onesumCheckRow.holds Try.pinned (OpenSpec.ofChange onesumCheckSpec)

/-- ITS FALSE NEIGHBOUR: 'it returns false'. Refute it at one input. -/
def onesumCheckWrong : ChangeSpec := { name := "onesumCheck", fn := fun _ => fun
  | [d1, d2, d3] => { results := [.lit (.bool false)], args := [d1, d2, d3] }
  | _ => none }
def OnesumCheckWrongFalsely : Prop := onesumCheckRow.holds Try.pinned (OpenSpec.ofChange onesumCheckWrong)

/-- 'crawlwaylaw29.CounterSum': WHATEVER THE INPUT: true; the input reads as it did. -/
def counterSumSpec : ChangeSpec := { name := "counterSum", fn := fun _ => fun
  | [d1, d2] => { results := [.lit (.bool true)], args := [d1, d2] }
  | _ => none }
def counterSumRow : OpenClaim := { program := "ytlajmefjheahmaa", sum := "2936e1f497967f2cd3d6a2e9a431468671b5fcaae2bc13d72733ba4ec9fefa0b", func := "crawlway/crawlwaylaw29.CounterSum", spec := "counterSum", apart := false }
def CounterSumSaid : Prop := counterSumRow.holds Try.pinned (OpenSpec.ofChange counterSumSpec)

/-- ITS FALSE NEIGHBOUR: 'it returns false'. Refute it at one input. -/
def counterSumWrong : ChangeSpec := { name := "counterSum", fn := fun _ => fun
  | [d1, d2] => { results := [.lit (.bool false)], args := [d1, d2] }
  | _ => none }
def CounterSumWrongFalsely : Prop := counterSumRow.holds Try.pinned (OpenSpec.ofChange counterSumWrong)

/-- 'crawlwaylaw46.PaddingStrips': WHATEVER THE INPUT: true; the input reads as it did. -/
def paddingStripsSpec : ChangeSpec := { name := "paddingStrips", fn := fun _ => fun
  | [d] => { results := [.lit (.bool true)], args := [d] }
  | _ => none }
def paddingStripsRow : OpenClaim := { program := "ytlajmefjheahmaa", sum := "2936e1f497967f2cd3d6a2e9a431468671b5fcaae2bc13d72733ba4ec9fefa0b", func := "crawlway/crawlwaylaw46.PaddingStrips", spec := "paddingStrips", apart := false }
def PaddingStripsSaid : Prop := paddingStripsRow.holds Try.pinned (OpenSpec.ofChange paddingStripsSpec)

/-- ITS FALSE NEIGHBOUR: 'it returns false'. Refute it at one input. -/
def paddingStripsWrong : ChangeSpec := { name := "paddingStrips", fn := fun _ => fun
  | [d] => { results := [.lit (.bool false)], args := [d] }
  | _ => none }
def PaddingStripsWrongFalsely : Prop := paddingStripsRow.holds Try.pinned (OpenSpec.ofChange paddingStripsWrong)

/-- 'crawlwaylaw46.PaddingPads': WHATEVER THE INPUT: true; the input reads as it did. -/
def paddingPadsSpec : ChangeSpec := { name := "paddingPads", fn := fun _ => fun
  | [d] => { results := [.lit (.bool true)], args := [d] }
  | _ => none }
def paddingPadsRow : OpenClaim := { program := "ytlajmefjheahmaa", sum := "2936e1f497967f2cd3d6a2e9a431468671b5fcaae2bc13d72733ba4ec9fefa0b", func := "crawlway/crawlwaylaw46.PaddingPads", spec := "paddingPads", apart := false }
def PaddingPadsSaid : Prop := paddingPadsRow.holds Try.pinned (OpenSpec.ofChange paddingPadsSpec)

/-- ITS FALSE NEIGHBOUR: 'it returns false'. Refute it at one input. -/
def paddingPadsWrong : ChangeSpec := { name := "paddingPads", fn := fun _ => fun
  | [d] => { results := [.lit (.bool false)], args := [d] }
  | _ => none }
def PaddingPadsWrongFalsely : Prop := paddingPadsRow.holds Try.pinned (OpenSpec.ofChange paddingPadsWrong)

/- THE SECOND FORM. 'bulk': how many values and letters a reading holds, each counted each time it is reached (what is shared counts as often as it is met; a slice's spare places count too). A statement '..UptoSaid' is the law's where the arguments, and the package variables that the reading takes, are together of bulk at most 1048576: NARROWER than '..Said'. Prove '..Said' where nothing that the law and all that it calls make is longer than what came in: it says more and counts as full. Else prove '..UptoSaid'. A law counts once. -/
mutual
def uptoBulk {H : Type} : DataW H → Nat
  | .lit (.string bytes) => bytes.length + 1
  | .lit _ => 1
  | .nil => 1
  | .ptr d => uptoBulk d + 1
  | .slice elems spare => uptoBulkAll elems + uptoBulkAll spare + 1
  | .agg parts => uptoBulkAll parts + 1
  | .iface _ d => uptoBulk d + 1
  | .map entries => uptoBulkEntries entries + 1
  | .held _ => 1
def uptoBulkAll {H : Type} : List (DataW H) → Nat
  | [] => 0
  | d :: r => uptoBulk d + uptoBulkAll r
def uptoBulkEntries {H : Type} : List (Lit × DataW H) → Nat
  | [] => 0
  | x :: r => uptoBulkEntry x + uptoBulkEntries r
def uptoBulkEntry {H : Type} : Lit × DataW H → Nat
  | (.string bytes, d) => bytes.length + uptoBulk d + 1
  | (_, d) => uptoBulk d + 1
 end
def uptoSmall : (H : Type) → List (DataW H) → Bool := fun _ ds => decide (uptoBulkAll ds ≤ 1048576)
def OpenSpec.upto (s : _root_.Go.ChangeSpec) : _root_.Go.OpenSpec := { _root_.Go.OpenSpec.ofChange s with cond := some uptoSmall }

/-- 'crawlwaylaw46.PaddingSize', WHERE WHAT IT READS IS OF BULK AT MOST 1048576: true; the input reads as it did. -/
def paddingSizeUptoRow : OpenClaim := { program := "ytlajmefjheahmaa", sum := "2936e1f497967f2cd3d6a2e9a431468671b5fcaae2bc13d72733ba4ec9fefa0b", func := "crawlway/crawlwaylaw46.PaddingSize", spec := "paddingSize", apart := false, narrowed := true }
def PaddingSizeUptoSaid : Prop := paddingSizeUptoRow.holds Try.pinned (OpenSpec.upto paddingSizeSpec)

/-- 'crawlwaylaw46.PaddingLong', WHERE WHAT IT READS IS OF BULK AT MOST 1048576: true; the input reads as it did. -/
def paddingLongUptoRow : OpenClaim := { program := "ytlajmefjheahmaa", sum := "2936e1f497967f2cd3d6a2e9a431468671b5fcaae2bc13d72733ba4ec9fefa0b", func := "crawlway/crawlwaylaw46.PaddingLong", spec := "paddingLong", apart := false, narrowed := true }
def PaddingLongUptoSaid : Prop := paddingLongUptoRow.holds Try.pinned (OpenSpec.upto paddingLongSpec)

/-- 'crawlwaylaw29.CounterNext', WHERE WHAT IT READS IS OF BULK AT MOST 1048576: true; the input reads as it did. -/
def counterNextUptoRow : OpenClaim := { program := "ytlajmefjheahmaa", sum := "2936e1f497967f2cd3d6a2e9a431468671b5fcaae2bc13d72733ba4ec9fefa0b", func := "crawlway/crawlwaylaw29.CounterNext", spec := "counterNext", apart := false, narrowed := true }
def CounterNextUptoSaid : Prop := counterNextUptoRow.holds Try.pinned (OpenSpec.upto counterNextSpec)

/-- 'crawlwaylaw29.CounterNobody', WHERE WHAT IT READS IS OF BULK AT MOST 1048576: true; the input reads as it did. -/
def counterNobodyUptoRow : OpenClaim := { program := "ytlajmefjheahmaa", sum := "2936e1f497967f2cd3d6a2e9a431468671b5fcaae2bc13d72733ba4ec9fefa0b", func := "crawlway/crawlwaylaw29.CounterNobody", spec := "counterNobody", apart := false, narrowed := true }
def CounterNobodyUptoSaid : Prop := counterNobodyUptoRow.holds Try.pinned (OpenSpec.upto counterNobodySpec)

/-- 'crawlwaylaw18.OnesumAdd', WHERE WHAT IT READS IS OF BULK AT MOST 1048576: true; the input reads as it did. -/
def onesumAddUptoRow : OpenClaim := { program := "ytlajmefjheahmaa", sum := "2936e1f497967f2cd3d6a2e9a431468671b5fcaae2bc13d72733ba4ec9fefa0b", func := "crawlway/crawlwaylaw18.OnesumAdd", spec := "onesumAdd", apart := false, narrowed := true }
def OnesumAddUptoSaid : Prop := onesumAddUptoRow.holds Try.pinned (OpenSpec.upto onesumAddSpec)

/-- 'crawlwaylaw18.OnesumOf', WHERE WHAT IT READS IS OF BULK AT MOST 1048576: true; the input reads as it did. -/
def onesumOfUptoRow : OpenClaim := { program := "ytlajmefjheahmaa", sum := "2936e1f497967f2cd3d6a2e9a431468671b5fcaae2bc13d72733ba4ec9fefa0b", func := "crawlway/crawlwaylaw18.OnesumOf", spec := "onesumOf", apart := false, narrowed := true }
def OnesumOfUptoSaid : Prop := onesumOfUptoRow.holds Try.pinned (OpenSpec.upto onesumOfSpec)

/-- 'crawlwaylaw18.OnesumCheck', WHERE WHAT IT READS IS OF BULK AT MOST 1048576: true; the input reads as it did. -/
def onesumCheckUptoRow : OpenClaim := { program := "ytlajmefjheahmaa", sum := "2936e1f497967f2cd3d6a2e9a431468671b5fcaae2bc13d72733ba4ec9fefa0b", func := "crawlway/crawlwaylaw18.OnesumCheck", spec := "onesumCheck", apart := false, narrowed := true }
def OnesumCheckUptoSaid : Prop := onesumCheckUptoRow.holds Try.pinned (OpenSpec.upto onesumCheckSpec)

/-- 'crawlwaylaw29.CounterSum', WHERE WHAT IT READS IS OF BULK AT MOST 1048576: true; the input reads as it did. -/
def counterSumUptoRow : OpenClaim := { program := "ytlajmefjheahmaa", sum := "2936e1f497967f2cd3d6a2e9a431468671b5fcaae2bc13d72733ba4ec9fefa0b", func := "crawlway/crawlwaylaw29.CounterSum", spec := "counterSum", apart := false, narrowed := true }
def CounterSumUptoSaid : Prop := counterSumUptoRow.holds Try.pinned (OpenSpec.upto counterSumSpec)

/-- 'crawlwaylaw46.PaddingStrips', WHERE WHAT IT READS IS OF BULK AT MOST 1048576: true; the input reads as it did. -/
def paddingStripsUptoRow : OpenClaim := { program := "ytlajmefjheahmaa", sum := "2936e1f497967f2cd3d6a2e9a431468671b5fcaae2bc13d72733ba4ec9fefa0b", func := "crawlway/crawlwaylaw46.PaddingStrips", spec := "paddingStrips", apart := false, narrowed := true }
def PaddingStripsUptoSaid : Prop := paddingStripsUptoRow.holds Try.pinned (OpenSpec.upto paddingStripsSpec)

/-- 'crawlwaylaw46.PaddingPads', WHERE WHAT IT READS IS OF BULK AT MOST 1048576: true; the input reads as it did. -/
def paddingPadsUptoRow : OpenClaim := { program := "ytlajmefjheahmaa", sum := "2936e1f497967f2cd3d6a2e9a431468671b5fcaae2bc13d72733ba4ec9fefa0b", func := "crawlway/crawlwaylaw46.PaddingPads", spec := "paddingPads", apart := false, narrowed := true }
def PaddingPadsUptoSaid : Prop := paddingPadsUptoRow.holds Try.pinned (OpenSpec.upto paddingPadsSpec)

end Rows
end Go.Proofs.Ytlajmefjheahmaa
