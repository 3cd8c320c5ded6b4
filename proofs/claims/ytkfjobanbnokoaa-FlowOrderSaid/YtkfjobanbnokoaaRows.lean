/-
  No cell of these rows narrows 'for every input' (looked for: loops, veiled, ifaces, maps, wideKeys, modest, calm, conditions, laid).
  DERIVED. THE GIVEN ROWS OF THIS SEAT. 4 by the template 'for every input the law returns true; each argument reads behind the call as it read before'; 0 by the template 'total and deterministic' (their statements: YtkfjobanbnokoaaTotals.lean).
  GIVEN WITH THE SEED: the statements are not yours to turn. If you find one false, say at which input.
  Laid BY PROGRAM, IN A SANDBOX (cutbox-rows.mjs): the forced cells as the released guide's own fill.sh prints them over the translation 281c44a5fe5c2605… (all of the seat's roots in one cut). By AI agents, Wed Nov 11 2026. No macro, syntax, notation, axiom, sorry.
-/
import Derived.Test.YtkfjobanbnokoaaChecked
import GoSem.Claim
import GoSem.ClaimJoined
import GoSem.ClaimMapViews
import Derived.JoinedTies
import Derived.KernelRfl
namespace Go.Proofs.Ytkfjobanbnokoaa
/- THE CELL 'sum', in the pinned program and in every row, IS THE sha256 OF THE DUMP (.gsa) THAT YtkfjobanbnokoaaProg.lean LOADS. Nothing in Lean hashes anything: it is a label: what it is worth is what the hold of that sum in a sandbox is worth. -/
noncomputable def Try.pinned : Pinned := { name := "ytkfjobanbnokoaa", sum := "281c44a5fe5c2605f26fc2ffd71bf7766d6f3c9787fffc7e18f977ccfe3bdd08", checked := Try.checked }
namespace Rows
def none {H : Type} : Left H := { results := [], args := [] }

/-- 'crawlwaylaw54.FlowOf': WHATEVER THE INPUT: true; the input reads as it did. -/
def flowOfSpec : ChangeSpec := { name := "flowOf", fn := fun _ => fun
  | [d] => { results := [.lit (.bool true)], args := [d] }
  | _ => none }
def flowOfRow : OpenClaim := { program := "ytkfjobanbnokoaa", sum := "281c44a5fe5c2605f26fc2ffd71bf7766d6f3c9787fffc7e18f977ccfe3bdd08", func := "crawlway/crawlwaylaw54.FlowOf", spec := "flowOf", inPlace := ["internal/bytealg.Compare"], unfollowed := true, recurses := true, plainKeys := false, apart := false }
def FlowOfSaid : Prop := flowOfRow.holds Try.pinned (OpenSpec.ofChange flowOfSpec)

/-- ITS FALSE NEIGHBOUR: 'it returns false'. Refute it at one input. -/
def flowOfWrong : ChangeSpec := { name := "flowOf", fn := fun _ => fun
  | [d] => { results := [.lit (.bool false)], args := [d] }
  | _ => none }
def FlowOfWrongFalsely : Prop := flowOfRow.holds Try.pinned (OpenSpec.ofChange flowOfWrong)

/-- 'crawlwaylaw54.FlowOrder': WHATEVER THE INPUT: true; the input reads as it did. -/
def flowOrderSpec : ChangeSpec := { name := "flowOrder", fn := fun _ => fun
  | [d1, d2] => { results := [.lit (.bool true)], args := [d1, d2] }
  | _ => none }
def flowOrderRow : OpenClaim := { program := "ytkfjobanbnokoaa", sum := "281c44a5fe5c2605f26fc2ffd71bf7766d6f3c9787fffc7e18f977ccfe3bdd08", func := "crawlway/crawlwaylaw54.FlowOrder", spec := "flowOrder", inPlace := ["internal/bytealg.Compare"], unfollowed := true, recurses := true, plainKeys := false, apart := false }
def FlowOrderSaid : Prop := flowOrderRow.holds Try.pinned (OpenSpec.ofChange flowOrderSpec)

/-- ITS FALSE NEIGHBOUR: 'it returns false'. Refute it at one input. -/
def flowOrderWrong : ChangeSpec := { name := "flowOrder", fn := fun _ => fun
  | [d1, d2] => { results := [.lit (.bool false)], args := [d1, d2] }
  | _ => none }
def FlowOrderWrongFalsely : Prop := flowOrderRow.holds Try.pinned (OpenSpec.ofChange flowOrderWrong)

/-- 'crawlwaylaw54.FlowNotes': WHATEVER THE INPUT: true; the input reads as it did. -/
def flowNotesSpec : ChangeSpec := { name := "flowNotes", fn := fun _ => fun
  | [d1, d2, d3, d4] => { results := [.lit (.bool true)], args := [d1, d2, d3, d4] }
  | _ => none }
def flowNotesRow : OpenClaim := { program := "ytkfjobanbnokoaa", sum := "281c44a5fe5c2605f26fc2ffd71bf7766d6f3c9787fffc7e18f977ccfe3bdd08", func := "crawlway/crawlwaylaw54.FlowNotes", spec := "flowNotes", inPlace := ["internal/bytealg.Compare"], unfollowed := true, recurses := true, plainKeys := false, apart := false }
def FlowNotesSaid : Prop := flowNotesRow.holds Try.pinned (OpenSpec.ofChange flowNotesSpec)

/-- ITS FALSE NEIGHBOUR: 'it returns false'. Refute it at one input. -/
def flowNotesWrong : ChangeSpec := { name := "flowNotes", fn := fun _ => fun
  | [d1, d2, d3, d4] => { results := [.lit (.bool false)], args := [d1, d2, d3, d4] }
  | _ => none }
def FlowNotesWrongFalsely : Prop := flowNotesRow.holds Try.pinned (OpenSpec.ofChange flowNotesWrong)

/-- 'crawlwaylaw54.FlowNobody': WHATEVER THE INPUT: true; the input reads as it did. -/
def flowNobodySpec : ChangeSpec := { name := "flowNobody", fn := fun _ => fun
  | [d1, d2, d3] => { results := [.lit (.bool true)], args := [d1, d2, d3] }
  | _ => none }
def flowNobodyRow : OpenClaim := { program := "ytkfjobanbnokoaa", sum := "281c44a5fe5c2605f26fc2ffd71bf7766d6f3c9787fffc7e18f977ccfe3bdd08", func := "crawlway/crawlwaylaw54.FlowNobody", spec := "flowNobody", inPlace := ["internal/bytealg.Compare"], unfollowed := true, recurses := true, plainKeys := false, apart := false }
def FlowNobodySaid : Prop := flowNobodyRow.holds Try.pinned (OpenSpec.ofChange flowNobodySpec)

/-- ITS FALSE NEIGHBOUR: 'it returns false'. Refute it at one input. -/
def flowNobodyWrong : ChangeSpec := { name := "flowNobody", fn := fun _ => fun
  | [d1, d2, d3] => { results := [.lit (.bool false)], args := [d1, d2, d3] }
  | _ => none }
def FlowNobodyWrongFalsely : Prop := flowNobodyRow.holds Try.pinned (OpenSpec.ofChange flowNobodyWrong)

/- THE SECOND FORM. 'bulk': how many values and letters a reading holds, each counted each time it is reached (what is shared counts as often as it is met; a slice's spare places count too). A statement '..UptoSaid' is the law's where the arguments, and the package variables that the reading takes, are together of bulk at most 1048576: NARROWER than '..Said'. Prove '..Said' where nothing that the law and all that it calls make is longer than what came in: it says more and counts as full. Else prove '..UptoSaid'. A law counts once. -/
mutual
def uptoBulk {H : Type} : DataW H → Nat
  | .lit (.string bytes) => bytes.length + 1
  | .lit _ => 1
  | .nil => 1
  | .ptr d => uptoBulk d + 1
  | .slice elems spare => uptoBulkAll elems + uptoBulkAll spare + 1
  | .agg parts => uptoBulkAll parts + 1
  | .iface _ d => uptoBulk d + 1
  | .map entries => uptoBulkEntries entries + 1
  | .held _ => 1
def uptoBulkAll {H : Type} : List (DataW H) → Nat
  | [] => 0
  | d :: r => uptoBulk d + uptoBulkAll r
def uptoBulkEntries {H : Type} : List (Lit × DataW H) → Nat
  | [] => 0
  | x :: r => uptoBulkEntry x + uptoBulkEntries r
def uptoBulkEntry {H : Type} : Lit × DataW H → Nat
  | (.string bytes, d) => bytes.length + uptoBulk d + 1
  | (_, d) => uptoBulk d + 1
 end
def uptoSmall : (H : Type) → List (DataW H) → Bool := fun _ ds => decide (uptoBulkAll ds ≤ 1048576)
def OpenSpec.upto (s : _root_.Go.ChangeSpec) : _root_.Go.OpenSpec := { _root_.Go.OpenSpec.ofChange s with cond := some uptoSmall }

/-- 'crawlwaylaw54.FlowOf', WHERE WHAT IT READS IS OF BULK AT MOST 1048576: true; the input reads as it did. -/
def flowOfUptoRow : OpenClaim := { program := "ytkfjobanbnokoaa", sum := "281c44a5fe5c2605f26fc2ffd71bf7766d6f3c9787fffc7e18f977ccfe3bdd08", func := "crawlway/crawlwaylaw54.FlowOf", spec := "flowOf", inPlace := ["internal/bytealg.Compare"], unfollowed := true, recurses := true, plainKeys := false, apart := false, narrowed := true }
def FlowOfUptoSaid : Prop := flowOfUptoRow.holds Try.pinned (OpenSpec.upto flowOfSpec)

/-- 'crawlwaylaw54.FlowOrder', WHERE WHAT IT READS IS OF BULK AT MOST 1048576: true; the input reads as it did. -/
def flowOrderUptoRow : OpenClaim := { program := "ytkfjobanbnokoaa", sum := "281c44a5fe5c2605f26fc2ffd71bf7766d6f3c9787fffc7e18f977ccfe3bdd08", func := "crawlway/crawlwaylaw54.FlowOrder", spec := "flowOrder", inPlace := ["internal/bytealg.Compare"], unfollowed := true, recurses := true, plainKeys := false, apart := false, narrowed := true }
def FlowOrderUptoSaid : Prop := flowOrderUptoRow.holds Try.pinned (OpenSpec.upto flowOrderSpec)

/-- 'crawlwaylaw54.FlowNotes', WHERE WHAT IT READS IS OF BULK AT MOST 1048576: true; the input reads as it did. -/
def flowNotesUptoRow : OpenClaim := { program := "ytkfjobanbnokoaa", sum := "281c44a5fe5c2605f26fc2ffd71bf7766d6f3c9787fffc7e18f977ccfe3bdd08", func := "crawlway/crawlwaylaw54.FlowNotes", spec := "flowNotes", inPlace := ["internal/bytealg.Compare"], unfollowed := true, recurses := true, plainKeys := false, apart := false, narrowed := true }
def FlowNotesUptoSaid : Prop := flowNotesUptoRow.holds Try.pinned (OpenSpec.upto flowNotesSpec)

/-- 'crawlwaylaw54.FlowNobody', WHERE WHAT IT READS IS OF BULK AT MOST 1048576: true; the input reads as it did. -/
def flowNobodyUptoRow : OpenClaim := { program := "ytkfjobanbnokoaa", sum := "281c44a5fe5c2605f26fc2ffd71bf7766d6f3c9787fffc7e18f977ccfe3bdd08", func := "crawlway/crawlwaylaw54.FlowNobody", spec := "flowNobody", inPlace := ["internal/bytealg.Compare"], unfollowed := true, recurses := true, plainKeys := false, apart := false, narrowed := true }
def FlowNobodyUptoSaid : Prop := flowNobodyUptoRow.holds Try.pinned (OpenSpec.upto flowNobodySpec)

end Rows
end Go.Proofs.Ytkfjobanbnokoaa
