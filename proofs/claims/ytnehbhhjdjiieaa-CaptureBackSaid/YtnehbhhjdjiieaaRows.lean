/-
  No cell of these rows narrows 'for every input' (looked for: loops, veiled, ifaces, maps, wideKeys, modest, calm, conditions, laid).
  DERIVED. THE GIVEN ROWS OF THIS SEAT. 15 by the template 'for every input the law returns true; each argument reads behind the call as it read before'; 0 by the template 'total and deterministic' (their statements: YtnehbhhjdjiieaaTotals.lean).
  GIVEN WITH THE SEED: the statements are not yours to turn. If you find one false, say at which input.
  Laid BY PROGRAM, IN A SANDBOX (cutbox-rows.mjs): the forced cells as the released guide's own fill.sh prints them over the translation b9c4bb0b276ce7b4… (all of the seat's roots in one cut). By AI agents, Wed Nov 11 2026. No macro, syntax, notation, axiom, sorry.
-/
import Derived.Test.YtnehbhhjdjiieaaChecked
import GoSem.Claim
import GoSem.ClaimJoined
import GoSem.ClaimMapViews
import Derived.JoinedTies
import Derived.KernelRfl
namespace Go.Proofs.Ytnehbhhjdjiieaa
/- THE CELL 'sum', in the pinned program and in every row, IS THE sha256 OF THE DUMP (.gsa) THAT YtnehbhhjdjiieaaProg.lean LOADS. Nothing in Lean hashes anything: it is a label: what it is worth is what the hold of that sum in a sandbox is worth. -/
noncomputable def Try.pinned : Pinned := { name := "ytnehbhhjdjiieaa", sum := "b9c4bb0b276ce7b424596afd108c737666f7da95dd3f3da3b8e8de533da76b9b", checked := Try.checked }
namespace Rows
def none {H : Type} : Left H := { results := [], args := [] }

/-- 'crawlwaylaw15.CookieBack': WHATEVER THE INPUT: true; the input reads as it did. -/
def cookieBackSpec : ChangeSpec := { name := "cookieBack", fn := fun _ => fun
  | [d] => { results := [.lit (.bool true)], args := [d] }
  | _ => none }
def cookieBackRow : OpenClaim := { program := "ytnehbhhjdjiieaa", sum := "b9c4bb0b276ce7b424596afd108c737666f7da95dd3f3da3b8e8de533da76b9b", func := "crawlway/crawlwaylaw15.CookieBack", spec := "cookieBack", apart := false }
def CookieBackSaid : Prop := cookieBackRow.holds Try.pinned (OpenSpec.ofChange cookieBackSpec)

/-- ITS FALSE NEIGHBOUR: 'it returns false'. Refute it at one input. -/
def cookieBackWrong : ChangeSpec := { name := "cookieBack", fn := fun _ => fun
  | [d] => { results := [.lit (.bool false)], args := [d] }
  | _ => none }
def CookieBackWrongFalsely : Prop := cookieBackRow.holds Try.pinned (OpenSpec.ofChange cookieBackWrong)

/-- 'crawlwaylaw15.CookieReads': WHATEVER THE INPUT: true; the input reads as it did. -/
def cookieReadsSpec : ChangeSpec := { name := "cookieReads", fn := fun _ => fun
  | [d] => { results := [.lit (.bool true)], args := [d] }
  | _ => none }
def cookieReadsRow : OpenClaim := { program := "ytnehbhhjdjiieaa", sum := "b9c4bb0b276ce7b424596afd108c737666f7da95dd3f3da3b8e8de533da76b9b", func := "crawlway/crawlwaylaw15.CookieReads", spec := "cookieReads", apart := false }
def CookieReadsSaid : Prop := cookieReadsRow.holds Try.pinned (OpenSpec.ofChange cookieReadsSpec)

/-- ITS FALSE NEIGHBOUR: 'it returns false'. Refute it at one input. -/
def cookieReadsWrong : ChangeSpec := { name := "cookieReads", fn := fun _ => fun
  | [d] => { results := [.lit (.bool false)], args := [d] }
  | _ => none }
def CookieReadsWrongFalsely : Prop := cookieReadsRow.holds Try.pinned (OpenSpec.ofChange cookieReadsWrong)

/-- 'crawlwaylaw14.AnswerBack': WHATEVER THE INPUT: true; the input reads as it did. -/
def answerBackSpec : ChangeSpec := { name := "answerBack", fn := fun _ => fun
  | [d] => { results := [.lit (.bool true)], args := [d] }
  | _ => none }
def answerBackRow : OpenClaim := { program := "ytnehbhhjdjiieaa", sum := "b9c4bb0b276ce7b424596afd108c737666f7da95dd3f3da3b8e8de533da76b9b", func := "crawlway/crawlwaylaw14.AnswerBack", spec := "answerBack", apart := false }
def AnswerBackSaid : Prop := answerBackRow.holds Try.pinned (OpenSpec.ofChange answerBackSpec)

/-- ITS FALSE NEIGHBOUR: 'it returns false'. Refute it at one input. -/
def answerBackWrong : ChangeSpec := { name := "answerBack", fn := fun _ => fun
  | [d] => { results := [.lit (.bool false)], args := [d] }
  | _ => none }
def AnswerBackWrongFalsely : Prop := answerBackRow.holds Try.pinned (OpenSpec.ofChange answerBackWrong)

/-- 'crawlwaylaw14.AnswerReads': WHATEVER THE INPUT: true; the input reads as it did. -/
def answerReadsSpec : ChangeSpec := { name := "answerReads", fn := fun _ => fun
  | [d] => { results := [.lit (.bool true)], args := [d] }
  | _ => none }
def answerReadsRow : OpenClaim := { program := "ytnehbhhjdjiieaa", sum := "b9c4bb0b276ce7b424596afd108c737666f7da95dd3f3da3b8e8de533da76b9b", func := "crawlway/crawlwaylaw14.AnswerReads", spec := "answerReads", apart := false }
def AnswerReadsSaid : Prop := answerReadsRow.holds Try.pinned (OpenSpec.ofChange answerReadsSpec)

/-- ITS FALSE NEIGHBOUR: 'it returns false'. Refute it at one input. -/
def answerReadsWrong : ChangeSpec := { name := "answerReads", fn := fun _ => fun
  | [d] => { results := [.lit (.bool false)], args := [d] }
  | _ => none }
def AnswerReadsWrongFalsely : Prop := answerReadsRow.holds Try.pinned (OpenSpec.ofChange answerReadsWrong)

/-- 'crawlwaylaw13.InitialBack': WHATEVER THE INPUT: true; the input reads as it did. -/
def initialBackSpec : ChangeSpec := { name := "initialBack", fn := fun _ => fun
  | [d] => { results := [.lit (.bool true)], args := [d] }
  | _ => none }
def initialBackRow : OpenClaim := { program := "ytnehbhhjdjiieaa", sum := "b9c4bb0b276ce7b424596afd108c737666f7da95dd3f3da3b8e8de533da76b9b", func := "crawlway/crawlwaylaw13.InitialBack", spec := "initialBack", apart := false }
def InitialBackSaid : Prop := initialBackRow.holds Try.pinned (OpenSpec.ofChange initialBackSpec)

/-- ITS FALSE NEIGHBOUR: 'it returns false'. Refute it at one input. -/
def initialBackWrong : ChangeSpec := { name := "initialBack", fn := fun _ => fun
  | [d] => { results := [.lit (.bool false)], args := [d] }
  | _ => none }
def InitialBackWrongFalsely : Prop := initialBackRow.holds Try.pinned (OpenSpec.ofChange initialBackWrong)

/-- 'crawlwaylaw13.InitialReads': WHATEVER THE INPUT: true; the input reads as it did. -/
def initialReadsSpec : ChangeSpec := { name := "initialReads", fn := fun _ => fun
  | [d] => { results := [.lit (.bool true)], args := [d] }
  | _ => none }
def initialReadsRow : OpenClaim := { program := "ytnehbhhjdjiieaa", sum := "b9c4bb0b276ce7b424596afd108c737666f7da95dd3f3da3b8e8de533da76b9b", func := "crawlway/crawlwaylaw13.InitialReads", spec := "initialReads", apart := false }
def InitialReadsSaid : Prop := initialReadsRow.holds Try.pinned (OpenSpec.ofChange initialReadsSpec)

/-- ITS FALSE NEIGHBOUR: 'it returns false'. Refute it at one input. -/
def initialReadsWrong : ChangeSpec := { name := "initialReads", fn := fun _ => fun
  | [d] => { results := [.lit (.bool false)], args := [d] }
  | _ => none }
def InitialReadsWrongFalsely : Prop := initialReadsRow.holds Try.pinned (OpenSpec.ofChange initialReadsWrong)

/-- 'crawlwaylaw16.DataReads': WHATEVER THE INPUT: true; the input reads as it did. -/
def dataReadsSpec : ChangeSpec := { name := "dataReads", fn := fun _ => fun
  | [d] => { results := [.lit (.bool true)], args := [d] }
  | _ => none }
def dataReadsRow : OpenClaim := { program := "ytnehbhhjdjiieaa", sum := "b9c4bb0b276ce7b424596afd108c737666f7da95dd3f3da3b8e8de533da76b9b", func := "crawlway/crawlwaylaw16.DataReads", spec := "dataReads", apart := false }
def DataReadsSaid : Prop := dataReadsRow.holds Try.pinned (OpenSpec.ofChange dataReadsSpec)

/-- ITS FALSE NEIGHBOUR: 'it returns false'. Refute it at one input. -/
def dataReadsWrong : ChangeSpec := { name := "dataReads", fn := fun _ => fun
  | [d] => { results := [.lit (.bool false)], args := [d] }
  | _ => none }
def DataReadsWrongFalsely : Prop := dataReadsRow.holds Try.pinned (OpenSpec.ofChange dataReadsWrong)

/-- 'crawlwaylaw16.DataLong': WHATEVER THE INPUT: true; the input reads as it did. -/
def dataLongSpec : ChangeSpec := { name := "dataLong", fn := fun _ => fun
  | [d] => { results := [.lit (.bool true)], args := [d] }
  | _ => none }
def dataLongRow : OpenClaim := { program := "ytnehbhhjdjiieaa", sum := "b9c4bb0b276ce7b424596afd108c737666f7da95dd3f3da3b8e8de533da76b9b", func := "crawlway/crawlwaylaw16.DataLong", spec := "dataLong", apart := false }
def DataLongSaid : Prop := dataLongRow.holds Try.pinned (OpenSpec.ofChange dataLongSpec)

/-- ITS FALSE NEIGHBOUR: 'it returns false'. Refute it at one input. -/
def dataLongWrong : ChangeSpec := { name := "dataLong", fn := fun _ => fun
  | [d] => { results := [.lit (.bool false)], args := [d] }
  | _ => none }
def DataLongWrongFalsely : Prop := dataLongRow.holds Try.pinned (OpenSpec.ofChange dataLongWrong)

/-- 'crawlwaylaw16.DataBack': WHATEVER THE INPUT: true; the input reads as it did. -/
def dataBackSpec : ChangeSpec := { name := "dataBack", fn := fun _ => fun
  | [d] => { results := [.lit (.bool true)], args := [d] }
  | _ => none }
def dataBackRow : OpenClaim := { program := "ytnehbhhjdjiieaa", sum := "b9c4bb0b276ce7b424596afd108c737666f7da95dd3f3da3b8e8de533da76b9b", func := "crawlway/crawlwaylaw16.DataBack", spec := "dataBack", apart := false }
def DataBackSaid : Prop := dataBackRow.holds Try.pinned (OpenSpec.ofChange dataBackSpec)

/-- ITS FALSE NEIGHBOUR: 'it returns false'. Refute it at one input. -/
def dataBackWrong : ChangeSpec := { name := "dataBack", fn := fun _ => fun
  | [d] => { results := [.lit (.bool false)], args := [d] }
  | _ => none }
def DataBackWrongFalsely : Prop := dataBackRow.holds Try.pinned (OpenSpec.ofChange dataBackWrong)

/-- 'crawlwaylaw16.DataSame': WHATEVER THE INPUT: true; the input reads as it did. -/
def dataSameSpec : ChangeSpec := { name := "dataSame", fn := fun _ => fun
  | [d1, d2] => { results := [.lit (.bool true)], args := [d1, d2] }
  | _ => none }
def dataSameRow : OpenClaim := { program := "ytnehbhhjdjiieaa", sum := "b9c4bb0b276ce7b424596afd108c737666f7da95dd3f3da3b8e8de533da76b9b", func := "crawlway/crawlwaylaw16.DataSame", spec := "dataSame", apart := false }
def DataSameSaid : Prop := dataSameRow.holds Try.pinned (OpenSpec.ofChange dataSameSpec)

/-- ITS FALSE NEIGHBOUR: 'it returns false'. Refute it at one input. -/
def dataSameWrong : ChangeSpec := { name := "dataSame", fn := fun _ => fun
  | [d1, d2] => { results := [.lit (.bool false)], args := [d1, d2] }
  | _ => none }
def DataSameWrongFalsely : Prop := dataSameRow.holds Try.pinned (OpenSpec.ofChange dataSameWrong)

/-- 'crawlwaylaw55.CaptureBack': WHATEVER THE INPUT: true; the input reads as it did. -/
def captureBackSpec : ChangeSpec := { name := "captureBack", fn := fun _ => fun
  | [d] => { results := [.lit (.bool true)], args := [d] }
  | _ => none }
def captureBackRow : OpenClaim := { program := "ytnehbhhjdjiieaa", sum := "b9c4bb0b276ce7b424596afd108c737666f7da95dd3f3da3b8e8de533da76b9b", func := "crawlway/crawlwaylaw55.CaptureBack", spec := "captureBack", unfollowed := true, recurses := true, apart := false }
def CaptureBackSaid : Prop := captureBackRow.holds Try.pinned (OpenSpec.ofChange captureBackSpec)

/-- ITS FALSE NEIGHBOUR: 'it returns false'. Refute it at one input. -/
def captureBackWrong : ChangeSpec := { name := "captureBack", fn := fun _ => fun
  | [d] => { results := [.lit (.bool false)], args := [d] }
  | _ => none }
def CaptureBackWrongFalsely : Prop := captureBackRow.holds Try.pinned (OpenSpec.ofChange captureBackWrong)

/-- 'crawlwaylaw55.CaptureReads': WHATEVER THE INPUT: true; the input reads as it did. -/
def captureReadsSpec : ChangeSpec := { name := "captureReads", fn := fun _ => fun
  | [d] => { results := [.lit (.bool true)], args := [d] }
  | _ => none }
def captureReadsRow : OpenClaim := { program := "ytnehbhhjdjiieaa", sum := "b9c4bb0b276ce7b424596afd108c737666f7da95dd3f3da3b8e8de533da76b9b", func := "crawlway/crawlwaylaw55.CaptureReads", spec := "captureReads", unfollowed := true, recurses := true, apart := false }
def CaptureReadsSaid : Prop := captureReadsRow.holds Try.pinned (OpenSpec.ofChange captureReadsSpec)

/-- ITS FALSE NEIGHBOUR: 'it returns false'. Refute it at one input. -/
def captureReadsWrong : ChangeSpec := { name := "captureReads", fn := fun _ => fun
  | [d] => { results := [.lit (.bool false)], args := [d] }
  | _ => none }
def CaptureReadsWrongFalsely : Prop := captureReadsRow.holds Try.pinned (OpenSpec.ofChange captureReadsWrong)

/-- 'crawlwaylaw17.WireBack': WHATEVER THE INPUT: true; the input reads as it did. -/
def wireBackSpec : ChangeSpec := { name := "wireBack", fn := fun _ => fun
  | [d] => { results := [.lit (.bool true)], args := [d] }
  | _ => none }
def wireBackRow : OpenClaim := { program := "ytnehbhhjdjiieaa", sum := "b9c4bb0b276ce7b424596afd108c737666f7da95dd3f3da3b8e8de533da76b9b", func := "crawlway/crawlwaylaw17.WireBack", spec := "wireBack", apart := false }
def WireBackSaid : Prop := wireBackRow.holds Try.pinned (OpenSpec.ofChange wireBackSpec)

/-- ITS FALSE NEIGHBOUR: 'it returns false'. Refute it at one input. -/
def wireBackWrong : ChangeSpec := { name := "wireBack", fn := fun _ => fun
  | [d] => { results := [.lit (.bool false)], args := [d] }
  | _ => none }
def WireBackWrongFalsely : Prop := wireBackRow.holds Try.pinned (OpenSpec.ofChange wireBackWrong)

/-- 'crawlwaylaw17.WireReads': WHATEVER THE INPUT: true; the input reads as it did. -/
def wireReadsSpec : ChangeSpec := { name := "wireReads", fn := fun _ => fun
  | [d] => { results := [.lit (.bool true)], args := [d] }
  | _ => none }
def wireReadsRow : OpenClaim := { program := "ytnehbhhjdjiieaa", sum := "b9c4bb0b276ce7b424596afd108c737666f7da95dd3f3da3b8e8de533da76b9b", func := "crawlway/crawlwaylaw17.WireReads", spec := "wireReads", apart := false }
def WireReadsSaid : Prop := wireReadsRow.holds Try.pinned (OpenSpec.ofChange wireReadsSpec)

/-- ITS FALSE NEIGHBOUR: 'it returns false'. Refute it at one input. -/
def wireReadsWrong : ChangeSpec := { name := "wireReads", fn := fun _ => fun
  | [d] => { results := [.lit (.bool false)], args := [d] }
  | _ => none }
def WireReadsWrongFalsely : Prop := wireReadsRow.holds Try.pinned (OpenSpec.ofChange wireReadsWrong)

/-- 'crawlwaylaw17.WireTells': WHATEVER THE INPUT: true; the input reads as it did. -/
def wireTellsSpec : ChangeSpec := { name := "wireTells", fn := fun _ => fun
  | [d1, d2] => { results := [.lit (.bool true)], args := [d1, d2] }
  | _ => none }
def wireTellsRow : OpenClaim := { program := "ytnehbhhjdjiieaa", sum := "b9c4bb0b276ce7b424596afd108c737666f7da95dd3f3da3b8e8de533da76b9b", func := "crawlway/crawlwaylaw17.WireTells", spec := "wireTells", apart := false }
def WireTellsSaid : Prop := wireTellsRow.holds Try.pinned (OpenSpec.ofChange wireTellsSpec)

/-- ITS FALSE NEIGHBOUR: 'it returns false'. Refute it at one input. -/
def wireTellsWrong : ChangeSpec := { name := "wireTells", fn := fun _ => fun
  | [d1, d2] => { results := [.lit (.bool false)], args := [d1, d2] }
  | _ => none }
def WireTellsWrongFalsely : Prop := wireTellsRow.holds Try.pinned (OpenSpec.ofChange wireTellsWrong)

/- THE SECOND FORM. 'bulk': how many values and letters a reading holds, each counted each time it is reached (what is shared counts as often as it is met; a slice's spare places count too). A statement '..UptoSaid' is the law's where the arguments, and the package variables that the reading takes, are together of bulk at most 1048576: NARROWER than '..Said'. Prove '..Said' where nothing that the law and all that it calls make is longer than what came in: it says more and counts as full. Else prove '..UptoSaid'. A law counts once. -/
mutual
def uptoBulk {H : Type} : DataW H → Nat
  | .lit (.string bytes) => bytes.length + 1
  | .lit _ => 1
  | .nil => 1
  | .ptr d => uptoBulk d + 1
  | .slice elems spare => uptoBulkAll elems + uptoBulkAll spare + 1
  | .agg parts => uptoBulkAll parts + 1
  | .iface _ d => uptoBulk d + 1
  | .map entries => uptoBulkEntries entries + 1
  | .held _ => 1
def uptoBulkAll {H : Type} : List (DataW H) → Nat
  | [] => 0
  | d :: r => uptoBulk d + uptoBulkAll r
def uptoBulkEntries {H : Type} : List (Lit × DataW H) → Nat
  | [] => 0
  | x :: r => uptoBulkEntry x + uptoBulkEntries r
def uptoBulkEntry {H : Type} : Lit × DataW H → Nat
  | (.string bytes, d) => bytes.length + uptoBulk d + 1
  | (_, d) => uptoBulk d + 1
 end
def uptoSmall : (H : Type) → List (DataW H) → Bool := fun _ ds => decide (uptoBulkAll ds ≤ 1048576)
def OpenSpec.upto (s : _root_.Go.ChangeSpec) : _root_.Go.OpenSpec := { _root_.Go.OpenSpec.ofChange s with cond := some uptoSmall }

/-- 'crawlwaylaw15.CookieBack', WHERE WHAT IT READS IS OF BULK AT MOST 1048576: true; the input reads as it did. -/
def cookieBackUptoRow : OpenClaim := { program := "ytnehbhhjdjiieaa", sum := "b9c4bb0b276ce7b424596afd108c737666f7da95dd3f3da3b8e8de533da76b9b", func := "crawlway/crawlwaylaw15.CookieBack", spec := "cookieBack", apart := false, narrowed := true }
def CookieBackUptoSaid : Prop := cookieBackUptoRow.holds Try.pinned (OpenSpec.upto cookieBackSpec)

/-- 'crawlwaylaw15.CookieReads', WHERE WHAT IT READS IS OF BULK AT MOST 1048576: true; the input reads as it did. -/
def cookieReadsUptoRow : OpenClaim := { program := "ytnehbhhjdjiieaa", sum := "b9c4bb0b276ce7b424596afd108c737666f7da95dd3f3da3b8e8de533da76b9b", func := "crawlway/crawlwaylaw15.CookieReads", spec := "cookieReads", apart := false, narrowed := true }
def CookieReadsUptoSaid : Prop := cookieReadsUptoRow.holds Try.pinned (OpenSpec.upto cookieReadsSpec)

/-- 'crawlwaylaw14.AnswerBack', WHERE WHAT IT READS IS OF BULK AT MOST 1048576: true; the input reads as it did. -/
def answerBackUptoRow : OpenClaim := { program := "ytnehbhhjdjiieaa", sum := "b9c4bb0b276ce7b424596afd108c737666f7da95dd3f3da3b8e8de533da76b9b", func := "crawlway/crawlwaylaw14.AnswerBack", spec := "answerBack", apart := false, narrowed := true }
def AnswerBackUptoSaid : Prop := answerBackUptoRow.holds Try.pinned (OpenSpec.upto answerBackSpec)

/-- 'crawlwaylaw14.AnswerReads', WHERE WHAT IT READS IS OF BULK AT MOST 1048576: true; the input reads as it did. -/
def answerReadsUptoRow : OpenClaim := { program := "ytnehbhhjdjiieaa", sum := "b9c4bb0b276ce7b424596afd108c737666f7da95dd3f3da3b8e8de533da76b9b", func := "crawlway/crawlwaylaw14.AnswerReads", spec := "answerReads", apart := false, narrowed := true }
def AnswerReadsUptoSaid : Prop := answerReadsUptoRow.holds Try.pinned (OpenSpec.upto answerReadsSpec)

/-- 'crawlwaylaw13.InitialBack', WHERE WHAT IT READS IS OF BULK AT MOST 1048576: true; the input reads as it did. -/
def initialBackUptoRow : OpenClaim := { program := "ytnehbhhjdjiieaa", sum := "b9c4bb0b276ce7b424596afd108c737666f7da95dd3f3da3b8e8de533da76b9b", func := "crawlway/crawlwaylaw13.InitialBack", spec := "initialBack", apart := false, narrowed := true }
def InitialBackUptoSaid : Prop := initialBackUptoRow.holds Try.pinned (OpenSpec.upto initialBackSpec)

/-- 'crawlwaylaw13.InitialReads', WHERE WHAT IT READS IS OF BULK AT MOST 1048576: true; the input reads as it did. -/
def initialReadsUptoRow : OpenClaim := { program := "ytnehbhhjdjiieaa", sum := "b9c4bb0b276ce7b424596afd108c737666f7da95dd3f3da3b8e8de533da76b9b", func := "crawlway/crawlwaylaw13.InitialReads", spec := "initialReads", apart := false, narrowed := true }
def InitialReadsUptoSaid : Prop := initialReadsUptoRow.holds Try.pinned (OpenSpec.upto initialReadsSpec)

/-- 'crawlwaylaw16.DataReads', WHERE WHAT IT READS IS OF BULK AT MOST 1048576: true; the input reads as it did. -/
def dataReadsUptoRow : OpenClaim := { program := "ytnehbhhjdjiieaa", sum := "b9c4bb0b276ce7b424596afd108c737666f7da95dd3f3da3b8e8de533da76b9b", func := "crawlway/crawlwaylaw16.DataReads", spec := "dataReads", apart := false, narrowed := true }
def DataReadsUptoSaid : Prop := dataReadsUptoRow.holds Try.pinned (OpenSpec.upto dataReadsSpec)

/-- 'crawlwaylaw16.DataLong', WHERE WHAT IT READS IS OF BULK AT MOST 1048576: true; the input reads as it did. -/
def dataLongUptoRow : OpenClaim := { program := "ytnehbhhjdjiieaa", sum := "b9c4bb0b276ce7b424596afd108c737666f7da95dd3f3da3b8e8de533da76b9b", func := "crawlway/crawlwaylaw16.DataLong", spec := "dataLong", apart := false, narrowed := true }
def DataLongUptoSaid : Prop := dataLongUptoRow.holds Try.pinned (OpenSpec.upto dataLongSpec)

/-- 'crawlwaylaw16.DataBack', WHERE WHAT IT READS IS OF BULK AT MOST 1048576: true; the input reads as it did. -/
def dataBackUptoRow : OpenClaim := { program := "ytnehbhhjdjiieaa", sum := "b9c4bb0b276ce7b424596afd108c737666f7da95dd3f3da3b8e8de533da76b9b", func := "crawlway/crawlwaylaw16.DataBack", spec := "dataBack", apart := false, narrowed := true }
def DataBackUptoSaid : Prop := dataBackUptoRow.holds Try.pinned (OpenSpec.upto dataBackSpec)

/-- 'crawlwaylaw16.DataSame', WHERE WHAT IT READS IS OF BULK AT MOST 1048576: true; the input reads as it did. -/
def dataSameUptoRow : OpenClaim := { program := "ytnehbhhjdjiieaa", sum := "b9c4bb0b276ce7b424596afd108c737666f7da95dd3f3da3b8e8de533da76b9b", func := "crawlway/crawlwaylaw16.DataSame", spec := "dataSame", apart := false, narrowed := true }
def DataSameUptoSaid : Prop := dataSameUptoRow.holds Try.pinned (OpenSpec.upto dataSameSpec)

/-- 'crawlwaylaw55.CaptureBack', WHERE WHAT IT READS IS OF BULK AT MOST 1048576: true; the input reads as it did. -/
def captureBackUptoRow : OpenClaim := { program := "ytnehbhhjdjiieaa", sum := "b9c4bb0b276ce7b424596afd108c737666f7da95dd3f3da3b8e8de533da76b9b", func := "crawlway/crawlwaylaw55.CaptureBack", spec := "captureBack", unfollowed := true, recurses := true, apart := false, narrowed := true }
def CaptureBackUptoSaid : Prop := captureBackUptoRow.holds Try.pinned (OpenSpec.upto captureBackSpec)

/-- 'crawlwaylaw55.CaptureReads', WHERE WHAT IT READS IS OF BULK AT MOST 1048576: true; the input reads as it did. -/
def captureReadsUptoRow : OpenClaim := { program := "ytnehbhhjdjiieaa", sum := "b9c4bb0b276ce7b424596afd108c737666f7da95dd3f3da3b8e8de533da76b9b", func := "crawlway/crawlwaylaw55.CaptureReads", spec := "captureReads", unfollowed := true, recurses := true, apart := false, narrowed := true }
def CaptureReadsUptoSaid : Prop := captureReadsUptoRow.holds Try.pinned (OpenSpec.upto captureReadsSpec)

/-- 'crawlwaylaw17.WireBack', WHERE WHAT IT READS IS OF BULK AT MOST 1048576: true; the input reads as it did. -/
def wireBackUptoRow : OpenClaim := { program := "ytnehbhhjdjiieaa", sum := "b9c4bb0b276ce7b424596afd108c737666f7da95dd3f3da3b8e8de533da76b9b", func := "crawlway/crawlwaylaw17.WireBack", spec := "wireBack", apart := false, narrowed := true }
def WireBackUptoSaid : Prop := wireBackUptoRow.holds Try.pinned (OpenSpec.upto wireBackSpec)

/-- 'crawlwaylaw17.WireReads', WHERE WHAT IT READS IS OF BULK AT MOST 1048576: true; the input reads as it did. -/
def wireReadsUptoRow : OpenClaim := { program := "ytnehbhhjdjiieaa", sum := "b9c4bb0b276ce7b424596afd108c737666f7da95dd3f3da3b8e8de533da76b9b", func := "crawlway/crawlwaylaw17.WireReads", spec := "wireReads", apart := false, narrowed := true }
def WireReadsUptoSaid : Prop := wireReadsUptoRow.holds Try.pinned (OpenSpec.upto wireReadsSpec)

/-- 'crawlwaylaw17.WireTells', WHERE WHAT IT READS IS OF BULK AT MOST 1048576: true; the input reads as it did. -/
def wireTellsUptoRow : OpenClaim := { program := "ytnehbhhjdjiieaa", sum := "b9c4bb0b276ce7b424596afd108c737666f7da95dd3f3da3b8e8de533da76b9b", func := "crawlway/crawlwaylaw17.WireTells", spec := "wireTells", apart := false, narrowed := true }
def WireTellsUptoSaid : Prop := wireTellsUptoRow.holds Try.pinned (OpenSpec.upto wireTellsSpec)

end Rows
end Go.Proofs.Ytnehbhhjdjiieaa
