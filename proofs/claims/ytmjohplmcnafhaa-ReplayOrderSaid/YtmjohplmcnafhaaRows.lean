/-
  No cell of these rows narrows 'for every input' (looked for: loops, veiled, ifaces, maps, wideKeys, modest, calm, conditions, laid).
  DERIVED. THE GIVEN ROWS OF THIS SEAT. 12 by the template 'for every input the law returns true; each argument reads behind the call as it read before'; 0 by the template 'total and deterministic' (their statements: YtmjohplmcnafhaaTotals.lean).
  GIVEN WITH THE SEED: the statements are not yours to turn. If you find one false, say at which input.
  Laid BY PROGRAM, IN A SANDBOX (cutbox-rows.mjs): the forced cells as the released guide's own fill.sh prints them over the translation 925276ee50fd2c30… (all of the seat's roots in one cut). By AI agents, Wed Nov 11 2026. No macro, syntax, notation, axiom, sorry.
-/
import Derived.Test.YtmjohplmcnafhaaChecked
import GoSem.Claim
import GoSem.ClaimJoined
import GoSem.ClaimMapViews
import Derived.JoinedTies
import Derived.KernelRfl
namespace Go.Proofs.Ytmjohplmcnafhaa
/- THE CELL 'sum', in the pinned program and in every row, IS THE sha256 OF THE DUMP (.gsa) THAT YtmjohplmcnafhaaProg.lean LOADS. Nothing in Lean hashes anything: it is a label: what it is worth is what the hold of that sum in a sandbox is worth. -/
noncomputable def Try.pinned : Pinned := { name := "ytmjohplmcnafhaa", sum := "925276ee50fd2c30f5a6f71877804a5fa854aa46a01d2e0479ac42e9608f3823", checked := Try.checked }
namespace Rows
def none {H : Type} : Left H := { results := [], args := [] }

/-- 'crawlwaylaw01.EndianMasks': WHATEVER THE INPUT: true; the input reads as it did. -/
def endianMasksSpec : ChangeSpec := { name := "endianMasks", fn := fun _ => fun
  | [d] => { results := [.lit (.bool true)], args := [d] }
  | _ => none }
def endianMasksRow : OpenClaim := { program := "ytmjohplmcnafhaa", sum := "925276ee50fd2c30f5a6f71877804a5fa854aa46a01d2e0479ac42e9608f3823", func := "crawlway/crawlwaylaw01.EndianMasks", spec := "endianMasks", apart := false }
def EndianMasksSaid : Prop := endianMasksRow.holds Try.pinned (OpenSpec.ofChange endianMasksSpec)

/-- ITS FALSE NEIGHBOUR: 'it returns false'. Refute it at one input. -/
def endianMasksWrong : ChangeSpec := { name := "endianMasks", fn := fun _ => fun
  | [d] => { results := [.lit (.bool false)], args := [d] }
  | _ => none }
def EndianMasksWrongFalsely : Prop := endianMasksRow.holds Try.pinned (OpenSpec.ofChange endianMasksWrong)

/-- 'crawlwaylaw01.EndianTurns': WHATEVER THE INPUT: true; the input reads as it did. -/
def endianTurnsSpec : ChangeSpec := { name := "endianTurns", fn := fun _ => fun
  | [d1, d2] => { results := [.lit (.bool true)], args := [d1, d2] }
  | _ => none }
def endianTurnsRow : OpenClaim := { program := "ytmjohplmcnafhaa", sum := "925276ee50fd2c30f5a6f71877804a5fa854aa46a01d2e0479ac42e9608f3823", func := "crawlway/crawlwaylaw01.EndianTurns", spec := "endianTurns", apart := false }
def EndianTurnsSaid : Prop := endianTurnsRow.holds Try.pinned (OpenSpec.ofChange endianTurnsSpec)

/-- ITS FALSE NEIGHBOUR: 'it returns false'. Refute it at one input. -/
def endianTurnsWrong : ChangeSpec := { name := "endianTurns", fn := fun _ => fun
  | [d1, d2] => { results := [.lit (.bool false)], args := [d1, d2] }
  | _ => none }
def EndianTurnsWrongFalsely : Prop := endianTurnsRow.holds Try.pinned (OpenSpec.ofChange endianTurnsWrong)

/-- 'crawlwaylaw01.EndianOnes': WHATEVER THE INPUT: true; the input reads as it did. -/
def endianOnesSpec : ChangeSpec := { name := "endianOnes", fn := fun _ => fun
  | [d] => { results := [.lit (.bool true)], args := [d] }
  | _ => none }
def endianOnesRow : OpenClaim := { program := "ytmjohplmcnafhaa", sum := "925276ee50fd2c30f5a6f71877804a5fa854aa46a01d2e0479ac42e9608f3823", func := "crawlway/crawlwaylaw01.EndianOnes", spec := "endianOnes", apart := false }
def EndianOnesSaid : Prop := endianOnesRow.holds Try.pinned (OpenSpec.ofChange endianOnesSpec)

/-- ITS FALSE NEIGHBOUR: 'it returns false'. Refute it at one input. -/
def endianOnesWrong : ChangeSpec := { name := "endianOnes", fn := fun _ => fun
  | [d] => { results := [.lit (.bool false)], args := [d] }
  | _ => none }
def EndianOnesWrongFalsely : Prop := endianOnesRow.holds Try.pinned (OpenSpec.ofChange endianOnesWrong)

/-- 'crawlwaylaw28.ReplayOnce': WHATEVER THE INPUT: true; the input reads as it did. -/
def replayOnceSpec : ChangeSpec := { name := "replayOnce", fn := fun _ => fun
  | [d1, d2, d3] => { results := [.lit (.bool true)], args := [d1, d2, d3] }
  | _ => none }
def replayOnceRow : OpenClaim := { program := "ytmjohplmcnafhaa", sum := "925276ee50fd2c30f5a6f71877804a5fa854aa46a01d2e0479ac42e9608f3823", func := "crawlway/crawlwaylaw28.ReplayOnce", spec := "replayOnce", apart := false }
def ReplayOnceSaid : Prop := replayOnceRow.holds Try.pinned (OpenSpec.ofChange replayOnceSpec)

/-- ITS FALSE NEIGHBOUR: 'it returns false'. Refute it at one input. -/
def replayOnceWrong : ChangeSpec := { name := "replayOnce", fn := fun _ => fun
  | [d1, d2, d3] => { results := [.lit (.bool false)], args := [d1, d2, d3] }
  | _ => none }
def ReplayOnceWrongFalsely : Prop := replayOnceRow.holds Try.pinned (OpenSpec.ofChange replayOnceWrong)

/-- 'crawlwaylaw28.ReplayOrder': WHATEVER THE INPUT: true; the input reads as it did. -/
def replayOrderSpec : ChangeSpec := { name := "replayOrder", fn := fun _ => fun
  | [d1, d2] => { results := [.lit (.bool true)], args := [d1, d2] }
  | _ => none }
def replayOrderRow : OpenClaim := { program := "ytmjohplmcnafhaa", sum := "925276ee50fd2c30f5a6f71877804a5fa854aa46a01d2e0479ac42e9608f3823", func := "crawlway/crawlwaylaw28.ReplayOrder", spec := "replayOrder", apart := false }
def ReplayOrderSaid : Prop := replayOrderRow.holds Try.pinned (OpenSpec.ofChange replayOrderSpec)

/-- ITS FALSE NEIGHBOUR: 'it returns false'. Refute it at one input. -/
def replayOrderWrong : ChangeSpec := { name := "replayOrder", fn := fun _ => fun
  | [d1, d2] => { results := [.lit (.bool false)], args := [d1, d2] }
  | _ => none }
def ReplayOrderWrongFalsely : Prop := replayOrderRow.holds Try.pinned (OpenSpec.ofChange replayOrderWrong)

/-- 'crawlwaylaw28.ReplayPlays': WHATEVER THE INPUT: true; the input reads as it did. -/
def replayPlaysSpec : ChangeSpec := { name := "replayPlays", fn := fun _ => fun
  | [d1, d2] => { results := [.lit (.bool true)], args := [d1, d2] }
  | _ => none }
def replayPlaysRow : OpenClaim := { program := "ytmjohplmcnafhaa", sum := "925276ee50fd2c30f5a6f71877804a5fa854aa46a01d2e0479ac42e9608f3823", func := "crawlway/crawlwaylaw28.ReplayPlays", spec := "replayPlays", apart := false }
def ReplayPlaysSaid : Prop := replayPlaysRow.holds Try.pinned (OpenSpec.ofChange replayPlaysSpec)

/-- ITS FALSE NEIGHBOUR: 'it returns false'. Refute it at one input. -/
def replayPlaysWrong : ChangeSpec := { name := "replayPlays", fn := fun _ => fun
  | [d1, d2] => { results := [.lit (.bool false)], args := [d1, d2] }
  | _ => none }
def ReplayPlaysWrongFalsely : Prop := replayPlaysRow.holds Try.pinned (OpenSpec.ofChange replayPlaysWrong)

/-- 'crawlwaylaw28.ReplayNobody': WHATEVER THE INPUT: true; the input reads as it did. -/
def replayNobodySpec : ChangeSpec := { name := "replayNobody", fn := fun _ => fun
  | [d] => { results := [.lit (.bool true)], args := [d] }
  | _ => none }
def replayNobodyRow : OpenClaim := { program := "ytmjohplmcnafhaa", sum := "925276ee50fd2c30f5a6f71877804a5fa854aa46a01d2e0479ac42e9608f3823", func := "crawlway/crawlwaylaw28.ReplayNobody", spec := "replayNobody", apart := false }
def ReplayNobodySaid : Prop := replayNobodyRow.holds Try.pinned (OpenSpec.ofChange replayNobodySpec)

/-- ITS FALSE NEIGHBOUR: 'it returns false'. Refute it at one input. -/
def replayNobodyWrong : ChangeSpec := { name := "replayNobody", fn := fun _ => fun
  | [d] => { results := [.lit (.bool false)], args := [d] }
  | _ => none }
def ReplayNobodyWrongFalsely : Prop := replayNobodyRow.holds Try.pinned (OpenSpec.ofChange replayNobodyWrong)

/-- 'crawlwaylaw01.EndianPuts': WHATEVER THE INPUT: true; the input reads as it did. -/
def endianPutsSpec : ChangeSpec := { name := "endianPuts", fn := fun _ => fun
  | [d1, d2] => { results := [.lit (.bool true)], args := [d1, d2] }
  | _ => none }
def endianPutsRow : OpenClaim := { program := "ytmjohplmcnafhaa", sum := "925276ee50fd2c30f5a6f71877804a5fa854aa46a01d2e0479ac42e9608f3823", func := "crawlway/crawlwaylaw01.EndianPuts", spec := "endianPuts", apart := false }
def EndianPutsSaid : Prop := endianPutsRow.holds Try.pinned (OpenSpec.ofChange endianPutsSpec)

/-- ITS FALSE NEIGHBOUR: 'it returns false'. Refute it at one input. -/
def endianPutsWrong : ChangeSpec := { name := "endianPuts", fn := fun _ => fun
  | [d1, d2] => { results := [.lit (.bool false)], args := [d1, d2] }
  | _ => none }
def EndianPutsWrongFalsely : Prop := endianPutsRow.holds Try.pinned (OpenSpec.ofChange endianPutsWrong)

/-- 'crawlwaylaw01.EndianGets': WHATEVER THE INPUT: true; the input reads as it did. -/
def endianGetsSpec : ChangeSpec := { name := "endianGets", fn := fun _ => fun
  | [d] => { results := [.lit (.bool true)], args := [d] }
  | _ => none }
def endianGetsRow : OpenClaim := { program := "ytmjohplmcnafhaa", sum := "925276ee50fd2c30f5a6f71877804a5fa854aa46a01d2e0479ac42e9608f3823", func := "crawlway/crawlwaylaw01.EndianGets", spec := "endianGets", apart := false }
def EndianGetsSaid : Prop := endianGetsRow.holds Try.pinned (OpenSpec.ofChange endianGetsSpec)

/-- ITS FALSE NEIGHBOUR: 'it returns false'. Refute it at one input. -/
def endianGetsWrong : ChangeSpec := { name := "endianGets", fn := fun _ => fun
  | [d] => { results := [.lit (.bool false)], args := [d] }
  | _ => none }
def EndianGetsWrongFalsely : Prop := endianGetsRow.holds Try.pinned (OpenSpec.ofChange endianGetsWrong)

/-- 'crawlwaylaw02.TakerOwn': WHATEVER THE INPUT: true; the input reads as it did. -/
def takerOwnSpec : ChangeSpec := { name := "takerOwn", fn := fun _ => fun
  | [d1, d2] => { results := [.lit (.bool true)], args := [d1, d2] }
  | _ => none }
def takerOwnRow : OpenClaim := { program := "ytmjohplmcnafhaa", sum := "925276ee50fd2c30f5a6f71877804a5fa854aa46a01d2e0479ac42e9608f3823", func := "crawlway/crawlwaylaw02.TakerOwn", spec := "takerOwn", apart := false }
def TakerOwnSaid : Prop := takerOwnRow.holds Try.pinned (OpenSpec.ofChange takerOwnSpec)

/-- ITS FALSE NEIGHBOUR: 'it returns false'. Refute it at one input. -/
def takerOwnWrong : ChangeSpec := { name := "takerOwn", fn := fun _ => fun
  | [d1, d2] => { results := [.lit (.bool false)], args := [d1, d2] }
  | _ => none }
def TakerOwnWrongFalsely : Prop := takerOwnRow.holds Try.pinned (OpenSpec.ofChange takerOwnWrong)

/-- 'crawlwaylaw02.TakerPlays': WHATEVER THE INPUT: true; the input reads as it did. -/
def takerPlaysSpec : ChangeSpec := { name := "takerPlays", fn := fun _ => fun
  | [d1, d2] => { results := [.lit (.bool true)], args := [d1, d2] }
  | _ => none }
def takerPlaysRow : OpenClaim := { program := "ytmjohplmcnafhaa", sum := "925276ee50fd2c30f5a6f71877804a5fa854aa46a01d2e0479ac42e9608f3823", func := "crawlway/crawlwaylaw02.TakerPlays", spec := "takerPlays", apart := false }
def TakerPlaysSaid : Prop := takerPlaysRow.holds Try.pinned (OpenSpec.ofChange takerPlaysSpec)

/-- ITS FALSE NEIGHBOUR: 'it returns false'. Refute it at one input. -/
def takerPlaysWrong : ChangeSpec := { name := "takerPlays", fn := fun _ => fun
  | [d1, d2] => { results := [.lit (.bool false)], args := [d1, d2] }
  | _ => none }
def TakerPlaysWrongFalsely : Prop := takerPlaysRow.holds Try.pinned (OpenSpec.ofChange takerPlaysWrong)

/-- 'crawlwaylaw02.TakerNobody': WHATEVER THE INPUT: true; the input reads as it did. -/
def takerNobodySpec : ChangeSpec := { name := "takerNobody", fn := fun _ => fun
  | [d] => { results := [.lit (.bool true)], args := [d] }
  | _ => none }
def takerNobodyRow : OpenClaim := { program := "ytmjohplmcnafhaa", sum := "925276ee50fd2c30f5a6f71877804a5fa854aa46a01d2e0479ac42e9608f3823", func := "crawlway/crawlwaylaw02.TakerNobody", spec := "takerNobody", apart := false }
def TakerNobodySaid : Prop := takerNobodyRow.holds Try.pinned (OpenSpec.ofChange takerNobodySpec)

/-- ITS FALSE NEIGHBOUR: 'it returns false'. Refute it at one input. -/
def takerNobodyWrong : ChangeSpec := { name := "takerNobody", fn := fun _ => fun
  | [d] => { results := [.lit (.bool false)], args := [d] }
  | _ => none }
def TakerNobodyWrongFalsely : Prop := takerNobodyRow.holds Try.pinned (OpenSpec.ofChange takerNobodyWrong)

/- THE SECOND FORM. 'bulk': how many values and letters a reading holds, each counted each time it is reached (what is shared counts as often as it is met; a slice's spare places count too). A statement '..UptoSaid' is the law's where the arguments, and the package variables that the reading takes, are together of bulk at most 1048576: NARROWER than '..Said'. Prove '..Said' where nothing that the law and all that it calls make is longer than what came in: it says more and counts as full. Else prove '..UptoSaid'. A law counts once. -/
mutual
def uptoBulk {H : Type} : DataW H → Nat
  | .lit (.string bytes) => bytes.length + 1
  | .lit _ => 1
  | .nil => 1
  | .ptr d => uptoBulk d + 1
  | .slice elems spare => uptoBulkAll elems + uptoBulkAll spare + 1
  | .agg parts => uptoBulkAll parts + 1
  | .iface _ d => uptoBulk d + 1
  | .map entries => uptoBulkEntries entries + 1
  | .held _ => 1
def uptoBulkAll {H : Type} : List (DataW H) → Nat
  | [] => 0
  | d :: r => uptoBulk d + uptoBulkAll r
def uptoBulkEntries {H : Type} : List (Lit × DataW H) → Nat
  | [] => 0
  | x :: r => uptoBulkEntry x + uptoBulkEntries r
def uptoBulkEntry {H : Type} : Lit × DataW H → Nat
  | (.string bytes, d) => bytes.length + uptoBulk d + 1
  | (_, d) => uptoBulk d + 1
 end
def uptoSmall : (H : Type) → List (DataW H) → Bool := fun _ ds => decide (uptoBulkAll ds ≤ 1048576)
def OpenSpec.upto (s : _root_.Go.ChangeSpec) : _root_.Go.OpenSpec := { _root_.Go.OpenSpec.ofChange s with cond := some uptoSmall }

/-- 'crawlwaylaw01.EndianMasks', WHERE WHAT IT READS IS OF BULK AT MOST 1048576: true; the input reads as it did. -/
def endianMasksUptoRow : OpenClaim := { program := "ytmjohplmcnafhaa", sum := "925276ee50fd2c30f5a6f71877804a5fa854aa46a01d2e0479ac42e9608f3823", func := "crawlway/crawlwaylaw01.EndianMasks", spec := "endianMasks", apart := false, narrowed := true }
def EndianMasksUptoSaid : Prop := endianMasksUptoRow.holds Try.pinned (OpenSpec.upto endianMasksSpec)

/-- 'crawlwaylaw01.EndianTurns', WHERE WHAT IT READS IS OF BULK AT MOST 1048576: true; the input reads as it did. -/
def endianTurnsUptoRow : OpenClaim := { program := "ytmjohplmcnafhaa", sum := "925276ee50fd2c30f5a6f71877804a5fa854aa46a01d2e0479ac42e9608f3823", func := "crawlway/crawlwaylaw01.EndianTurns", spec := "endianTurns", apart := false, narrowed := true }
def EndianTurnsUptoSaid : Prop := endianTurnsUptoRow.holds Try.pinned (OpenSpec.upto endianTurnsSpec)

/-- 'crawlwaylaw01.EndianOnes', WHERE WHAT IT READS IS OF BULK AT MOST 1048576: true; the input reads as it did. -/
def endianOnesUptoRow : OpenClaim := { program := "ytmjohplmcnafhaa", sum := "925276ee50fd2c30f5a6f71877804a5fa854aa46a01d2e0479ac42e9608f3823", func := "crawlway/crawlwaylaw01.EndianOnes", spec := "endianOnes", apart := false, narrowed := true }
def EndianOnesUptoSaid : Prop := endianOnesUptoRow.holds Try.pinned (OpenSpec.upto endianOnesSpec)

/-- 'crawlwaylaw28.ReplayOnce', WHERE WHAT IT READS IS OF BULK AT MOST 1048576: true; the input reads as it did. -/
def replayOnceUptoRow : OpenClaim := { program := "ytmjohplmcnafhaa", sum := "925276ee50fd2c30f5a6f71877804a5fa854aa46a01d2e0479ac42e9608f3823", func := "crawlway/crawlwaylaw28.ReplayOnce", spec := "replayOnce", apart := false, narrowed := true }
def ReplayOnceUptoSaid : Prop := replayOnceUptoRow.holds Try.pinned (OpenSpec.upto replayOnceSpec)

/-- 'crawlwaylaw28.ReplayOrder', WHERE WHAT IT READS IS OF BULK AT MOST 1048576: true; the input reads as it did. -/
def replayOrderUptoRow : OpenClaim := { program := "ytmjohplmcnafhaa", sum := "925276ee50fd2c30f5a6f71877804a5fa854aa46a01d2e0479ac42e9608f3823", func := "crawlway/crawlwaylaw28.ReplayOrder", spec := "replayOrder", apart := false, narrowed := true }
def ReplayOrderUptoSaid : Prop := replayOrderUptoRow.holds Try.pinned (OpenSpec.upto replayOrderSpec)

/-- 'crawlwaylaw28.ReplayPlays', WHERE WHAT IT READS IS OF BULK AT MOST 1048576: true; the input reads as it did. -/
def replayPlaysUptoRow : OpenClaim := { program := "ytmjohplmcnafhaa", sum := "925276ee50fd2c30f5a6f71877804a5fa854aa46a01d2e0479ac42e9608f3823", func := "crawlway/crawlwaylaw28.ReplayPlays", spec := "replayPlays", apart := false, narrowed := true }
def ReplayPlaysUptoSaid : Prop := replayPlaysUptoRow.holds Try.pinned (OpenSpec.upto replayPlaysSpec)

/-- 'crawlwaylaw28.ReplayNobody', WHERE WHAT IT READS IS OF BULK AT MOST 1048576: true; the input reads as it did. -/
def replayNobodyUptoRow : OpenClaim := { program := "ytmjohplmcnafhaa", sum := "925276ee50fd2c30f5a6f71877804a5fa854aa46a01d2e0479ac42e9608f3823", func := "crawlway/crawlwaylaw28.ReplayNobody", spec := "replayNobody", apart := false, narrowed := true }
def ReplayNobodyUptoSaid : Prop := replayNobodyUptoRow.holds Try.pinned (OpenSpec.upto replayNobodySpec)

/-- 'crawlwaylaw01.EndianPuts', WHERE WHAT IT READS IS OF BULK AT MOST 1048576: true; the input reads as it did. -/
def endianPutsUptoRow : OpenClaim := { program := "ytmjohplmcnafhaa", sum := "925276ee50fd2c30f5a6f71877804a5fa854aa46a01d2e0479ac42e9608f3823", func := "crawlway/crawlwaylaw01.EndianPuts", spec := "endianPuts", apart := false, narrowed := true }
def EndianPutsUptoSaid : Prop := endianPutsUptoRow.holds Try.pinned (OpenSpec.upto endianPutsSpec)

/-- 'crawlwaylaw01.EndianGets', WHERE WHAT IT READS IS OF BULK AT MOST 1048576: true; the input reads as it did. -/
def endianGetsUptoRow : OpenClaim := { program := "ytmjohplmcnafhaa", sum := "925276ee50fd2c30f5a6f71877804a5fa854aa46a01d2e0479ac42e9608f3823", func := "crawlway/crawlwaylaw01.EndianGets", spec := "endianGets", apart := false, narrowed := true }
def EndianGetsUptoSaid : Prop := endianGetsUptoRow.holds Try.pinned (OpenSpec.upto endianGetsSpec)

/-- 'crawlwaylaw02.TakerOwn', WHERE WHAT IT READS IS OF BULK AT MOST 1048576: true; the input reads as it did. -/
def takerOwnUptoRow : OpenClaim := { program := "ytmjohplmcnafhaa", sum := "925276ee50fd2c30f5a6f71877804a5fa854aa46a01d2e0479ac42e9608f3823", func := "crawlway/crawlwaylaw02.TakerOwn", spec := "takerOwn", apart := false, narrowed := true }
def TakerOwnUptoSaid : Prop := takerOwnUptoRow.holds Try.pinned (OpenSpec.upto takerOwnSpec)

/-- 'crawlwaylaw02.TakerPlays', WHERE WHAT IT READS IS OF BULK AT MOST 1048576: true; the input reads as it did. -/
def takerPlaysUptoRow : OpenClaim := { program := "ytmjohplmcnafhaa", sum := "925276ee50fd2c30f5a6f71877804a5fa854aa46a01d2e0479ac42e9608f3823", func := "crawlway/crawlwaylaw02.TakerPlays", spec := "takerPlays", apart := false, narrowed := true }
def TakerPlaysUptoSaid : Prop := takerPlaysUptoRow.holds Try.pinned (OpenSpec.upto takerPlaysSpec)

/-- 'crawlwaylaw02.TakerNobody', WHERE WHAT IT READS IS OF BULK AT MOST 1048576: true; the input reads as it did. -/
def takerNobodyUptoRow : OpenClaim := { program := "ytmjohplmcnafhaa", sum := "925276ee50fd2c30f5a6f71877804a5fa854aa46a01d2e0479ac42e9608f3823", func := "crawlway/crawlwaylaw02.TakerNobody", spec := "takerNobody", apart := false, narrowed := true }
def TakerNobodyUptoSaid : Prop := takerNobodyUptoRow.holds Try.pinned (OpenSpec.upto takerNobodySpec)

end Rows
end Go.Proofs.Ytmjohplmcnafhaa
