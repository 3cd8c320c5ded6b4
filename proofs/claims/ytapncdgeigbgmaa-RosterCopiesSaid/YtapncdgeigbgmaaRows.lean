/-
  No cell of these rows narrows 'for every input' (looked for: loops, veiled, ifaces, maps, wideKeys, modest, calm, conditions, laid).
  DERIVED. THE GIVEN ROWS OF THIS SEAT. 9 by the template 'for every input the law returns true; each argument reads behind the call as it read before'; 0 by the template 'total and deterministic' (their statements: YtapncdgeigbgmaaTotals.lean).
  GIVEN WITH THE SEED: the statements are not yours to turn. If you find one false, say at which input.
  Laid BY PROGRAM, IN A SANDBOX (cutbox-rows.mjs): the forced cells as the released guide's own fill.sh prints them over the translation 192c08ca8a61a98f… (all of the seat's roots in one cut). By AI agents, Wed Nov 11 2026. No macro, syntax, notation, axiom, sorry.
-/
import Derived.Test.YtapncdgeigbgmaaChecked
import GoSem.Claim
import GoSem.ClaimJoined
import GoSem.ClaimMapViews
import Derived.JoinedTies
import Derived.KernelRfl
namespace Go.Proofs.Ytapncdgeigbgmaa
/- THE CELL 'sum', in the pinned program and in every row, IS THE sha256 OF THE DUMP (.gsa) THAT YtapncdgeigbgmaaProg.lean LOADS. Nothing in Lean hashes anything: it is a label: what it is worth is what the hold of that sum in a sandbox is worth. -/
noncomputable def Try.pinned : Pinned := { name := "ytapncdgeigbgmaa", sum := "192c08ca8a61a98f5799425b12eac7d5ee089d9710ce2f3a1013a564e1967dae", checked := Try.checked }
namespace Rows
def none {H : Type} : Left H := { results := [], args := [] }

/-- 'crawlwaylaw30.SessionPlays': WHATEVER THE INPUT: true; the input reads as it did. -/
def sessionPlaysSpec : ChangeSpec := { name := "sessionPlays", fn := fun _ => fun
  | [d1, d2, d3] => { results := [.lit (.bool true)], args := [d1, d2, d3] }
  | _ => none }
def sessionPlaysRow : OpenClaim := { program := "ytapncdgeigbgmaa", sum := "192c08ca8a61a98f5799425b12eac7d5ee089d9710ce2f3a1013a564e1967dae", func := "crawlway/crawlwaylaw30.SessionPlays", spec := "sessionPlays", plainKeys := false, apart := false }
def SessionPlaysSaid : Prop := sessionPlaysRow.holds Try.pinned (OpenSpec.ofChange sessionPlaysSpec)

/-- ITS FALSE NEIGHBOUR: 'it returns false'. Refute it at one input. -/
def sessionPlaysWrong : ChangeSpec := { name := "sessionPlays", fn := fun _ => fun
  | [d1, d2, d3] => { results := [.lit (.bool false)], args := [d1, d2, d3] }
  | _ => none }
def SessionPlaysWrongFalsely : Prop := sessionPlaysRow.holds Try.pinned (OpenSpec.ofChange sessionPlaysWrong)

/-- 'crawlwaylaw30.SessionCopies': WHATEVER THE INPUT: true; the input reads as it did. -/
def sessionCopiesSpec : ChangeSpec := { name := "sessionCopies", fn := fun _ => fun
  | [d1, d2, d3] => { results := [.lit (.bool true)], args := [d1, d2, d3] }
  | _ => none }
def sessionCopiesRow : OpenClaim := { program := "ytapncdgeigbgmaa", sum := "192c08ca8a61a98f5799425b12eac7d5ee089d9710ce2f3a1013a564e1967dae", func := "crawlway/crawlwaylaw30.SessionCopies", spec := "sessionCopies", plainKeys := false, apart := false }
def SessionCopiesSaid : Prop := sessionCopiesRow.holds Try.pinned (OpenSpec.ofChange sessionCopiesSpec)

/-- ITS FALSE NEIGHBOUR: 'it returns false'. Refute it at one input. -/
def sessionCopiesWrong : ChangeSpec := { name := "sessionCopies", fn := fun _ => fun
  | [d1, d2, d3] => { results := [.lit (.bool false)], args := [d1, d2, d3] }
  | _ => none }
def SessionCopiesWrongFalsely : Prop := sessionCopiesRow.holds Try.pinned (OpenSpec.ofChange sessionCopiesWrong)

/-- 'crawlwaylaw30.SessionNobody': WHATEVER THE INPUT: true; the input reads as it did. -/
def sessionNobodySpec : ChangeSpec := { name := "sessionNobody", fn := fun _ => fun
  | [d1, d2] => { results := [.lit (.bool true)], args := [d1, d2] }
  | _ => none }
def sessionNobodyRow : OpenClaim := { program := "ytapncdgeigbgmaa", sum := "192c08ca8a61a98f5799425b12eac7d5ee089d9710ce2f3a1013a564e1967dae", func := "crawlway/crawlwaylaw30.SessionNobody", spec := "sessionNobody", plainKeys := false, apart := false }
def SessionNobodySaid : Prop := sessionNobodyRow.holds Try.pinned (OpenSpec.ofChange sessionNobodySpec)

/-- ITS FALSE NEIGHBOUR: 'it returns false'. Refute it at one input. -/
def sessionNobodyWrong : ChangeSpec := { name := "sessionNobody", fn := fun _ => fun
  | [d1, d2] => { results := [.lit (.bool false)], args := [d1, d2] }
  | _ => none }
def SessionNobodyWrongFalsely : Prop := sessionNobodyRow.holds Try.pinned (OpenSpec.ofChange sessionNobodyWrong)

/-- 'crawlwaylaw31.SessionsFull': WHATEVER THE INPUT: true; the input reads as it did. -/
def sessionsFullSpec : ChangeSpec := { name := "sessionsFull", fn := fun _ => fun
  | [d] => { results := [.lit (.bool true)], args := [d] }
  | _ => none }
def sessionsFullRow : OpenClaim := { program := "ytapncdgeigbgmaa", sum := "192c08ca8a61a98f5799425b12eac7d5ee089d9710ce2f3a1013a564e1967dae", func := "crawlway/crawlwaylaw31.SessionsFull", spec := "sessionsFull", unfollowed := true, recurses := true, plainKeys := false, apart := false }
def SessionsFullSaid : Prop := sessionsFullRow.holds Try.pinned (OpenSpec.ofChange sessionsFullSpec)

/-- ITS FALSE NEIGHBOUR: 'it returns false'. Refute it at one input. -/
def sessionsFullWrong : ChangeSpec := { name := "sessionsFull", fn := fun _ => fun
  | [d] => { results := [.lit (.bool false)], args := [d] }
  | _ => none }
def SessionsFullWrongFalsely : Prop := sessionsFullRow.holds Try.pinned (OpenSpec.ofChange sessionsFullWrong)

/-- 'crawlwaylaw27.RosterPlays': WHATEVER THE INPUT: true; the input reads as it did. -/
def rosterPlaysSpec : ChangeSpec := { name := "rosterPlays", fn := fun _ => fun
  | [d1, d2, d3] => { results := [.lit (.bool true)], args := [d1, d2, d3] }
  | _ => none }
def rosterPlaysRow : OpenClaim := { program := "ytapncdgeigbgmaa", sum := "192c08ca8a61a98f5799425b12eac7d5ee089d9710ce2f3a1013a564e1967dae", func := "crawlway/crawlwaylaw27.RosterPlays", spec := "rosterPlays", unfollowed := true, recurses := true, plainKeys := false, apart := false }
def RosterPlaysSaid : Prop := rosterPlaysRow.holds Try.pinned (OpenSpec.ofChange rosterPlaysSpec)

/-- ITS FALSE NEIGHBOUR: 'it returns false'. Refute it at one input. -/
def rosterPlaysWrong : ChangeSpec := { name := "rosterPlays", fn := fun _ => fun
  | [d1, d2, d3] => { results := [.lit (.bool false)], args := [d1, d2, d3] }
  | _ => none }
def RosterPlaysWrongFalsely : Prop := rosterPlaysRow.holds Try.pinned (OpenSpec.ofChange rosterPlaysWrong)

/-- 'crawlwaylaw27.RosterCopies': WHATEVER THE INPUT: true; the input reads as it did. -/
def rosterCopiesSpec : ChangeSpec := { name := "rosterCopies", fn := fun _ => fun
  | [d1, d2] => { results := [.lit (.bool true)], args := [d1, d2] }
  | _ => none }
def rosterCopiesRow : OpenClaim := { program := "ytapncdgeigbgmaa", sum := "192c08ca8a61a98f5799425b12eac7d5ee089d9710ce2f3a1013a564e1967dae", func := "crawlway/crawlwaylaw27.RosterCopies", spec := "rosterCopies", inPlace := ["maps.clone"], unfollowed := true, recurses := true, plainKeys := false, apart := false }
def RosterCopiesSaid : Prop := rosterCopiesRow.holds Try.pinned (OpenSpec.ofChange rosterCopiesSpec)

/-- ITS FALSE NEIGHBOUR: 'it returns false'. Refute it at one input. -/
def rosterCopiesWrong : ChangeSpec := { name := "rosterCopies", fn := fun _ => fun
  | [d1, d2] => { results := [.lit (.bool false)], args := [d1, d2] }
  | _ => none }
def RosterCopiesWrongFalsely : Prop := rosterCopiesRow.holds Try.pinned (OpenSpec.ofChange rosterCopiesWrong)

/-- 'crawlwaylaw27.RosterNobody': WHATEVER THE INPUT: true; the input reads as it did. -/
def rosterNobodySpec : ChangeSpec := { name := "rosterNobody", fn := fun _ => fun
  | [d1, d2] => { results := [.lit (.bool true)], args := [d1, d2] }
  | _ => none }
def rosterNobodyRow : OpenClaim := { program := "ytapncdgeigbgmaa", sum := "192c08ca8a61a98f5799425b12eac7d5ee089d9710ce2f3a1013a564e1967dae", func := "crawlway/crawlwaylaw27.RosterNobody", spec := "rosterNobody", inPlace := ["maps.clone"], unfollowed := true, recurses := true, plainKeys := false, apart := false }
def RosterNobodySaid : Prop := rosterNobodyRow.holds Try.pinned (OpenSpec.ofChange rosterNobodySpec)

/-- ITS FALSE NEIGHBOUR: 'it returns false'. Refute it at one input. -/
def rosterNobodyWrong : ChangeSpec := { name := "rosterNobody", fn := fun _ => fun
  | [d1, d2] => { results := [.lit (.bool false)], args := [d1, d2] }
  | _ => none }
def RosterNobodyWrongFalsely : Prop := rosterNobodyRow.holds Try.pinned (OpenSpec.ofChange rosterNobodyWrong)

/-- 'crawlwaylaw31.SessionsNobody': WHATEVER THE INPUT: true; the input reads as it did. -/
def sessionsNobodySpec : ChangeSpec := { name := "sessionsNobody", fn := fun _ => fun
  | [d1, d2] => { results := [.lit (.bool true)], args := [d1, d2] }
  | _ => none }
def sessionsNobodyRow : OpenClaim := { program := "ytapncdgeigbgmaa", sum := "192c08ca8a61a98f5799425b12eac7d5ee089d9710ce2f3a1013a564e1967dae", func := "crawlway/crawlwaylaw31.SessionsNobody", spec := "sessionsNobody", unfollowed := true, recurses := true, plainKeys := false, apart := false }
def SessionsNobodySaid : Prop := sessionsNobodyRow.holds Try.pinned (OpenSpec.ofChange sessionsNobodySpec)

/-- ITS FALSE NEIGHBOUR: 'it returns false'. Refute it at one input. -/
def sessionsNobodyWrong : ChangeSpec := { name := "sessionsNobody", fn := fun _ => fun
  | [d1, d2] => { results := [.lit (.bool false)], args := [d1, d2] }
  | _ => none }
def SessionsNobodyWrongFalsely : Prop := sessionsNobodyRow.holds Try.pinned (OpenSpec.ofChange sessionsNobodyWrong)

/-- 'crawlwaylaw31.SessionsPlay': WHATEVER THE INPUT: true; the input reads as it did. -/
def sessionsPlaySpec : ChangeSpec := { name := "sessionsPlay", fn := fun _ => fun
  | [d1, d2, d3] => { results := [.lit (.bool true)], args := [d1, d2, d3] }
  | _ => none }
def sessionsPlayRow : OpenClaim := { program := "ytapncdgeigbgmaa", sum := "192c08ca8a61a98f5799425b12eac7d5ee089d9710ce2f3a1013a564e1967dae", func := "crawlway/crawlwaylaw31.SessionsPlay", spec := "sessionsPlay", unfollowed := true, recurses := true, plainKeys := false, apart := false }
def SessionsPlaySaid : Prop := sessionsPlayRow.holds Try.pinned (OpenSpec.ofChange sessionsPlaySpec)

/-- ITS FALSE NEIGHBOUR: 'it returns false'. Refute it at one input. -/
def sessionsPlayWrong : ChangeSpec := { name := "sessionsPlay", fn := fun _ => fun
  | [d1, d2, d3] => { results := [.lit (.bool false)], args := [d1, d2, d3] }
  | _ => none }
def SessionsPlayWrongFalsely : Prop := sessionsPlayRow.holds Try.pinned (OpenSpec.ofChange sessionsPlayWrong)

/- THE SECOND FORM. 'bulk': how many values and letters a reading holds, each counted each time it is reached (what is shared counts as often as it is met; a slice's spare places count too). A statement '..UptoSaid' is the law's where the arguments, and the package variables that the reading takes, are together of bulk at most 1048576: NARROWER than '..Said'. Prove '..Said' where nothing that the law and all that it calls make is longer than what came in: it says more and counts as full. Else prove '..UptoSaid'. A law counts once. -/
mutual
def uptoBulk {H : Type} : DataW H → Nat
  | .lit (.string bytes) => bytes.length + 1
  | .lit _ => 1
  | .nil => 1
  | .ptr d => uptoBulk d + 1
  | .slice elems spare => uptoBulkAll elems + uptoBulkAll spare + 1
  | .agg parts => uptoBulkAll parts + 1
  | .iface _ d => uptoBulk d + 1
  | .map entries => uptoBulkEntries entries + 1
  | .held _ => 1
def uptoBulkAll {H : Type} : List (DataW H) → Nat
  | [] => 0
  | d :: r => uptoBulk d + uptoBulkAll r
def uptoBulkEntries {H : Type} : List (Lit × DataW H) → Nat
  | [] => 0
  | x :: r => uptoBulkEntry x + uptoBulkEntries r
def uptoBulkEntry {H : Type} : Lit × DataW H → Nat
  | (.string bytes, d) => bytes.length + uptoBulk d + 1
  | (_, d) => uptoBulk d + 1
 end
def uptoSmall : (H : Type) → List (DataW H) → Bool := fun _ ds => decide (uptoBulkAll ds ≤ 1048576)
def OpenSpec.upto (s : _root_.Go.ChangeSpec) : _root_.Go.OpenSpec := { _root_.Go.OpenSpec.ofChange s with cond := some uptoSmall }

/-- 'crawlwaylaw30.SessionPlays', WHERE WHAT IT READS IS OF BULK AT MOST 1048576: true; the input reads as it did. -/
def sessionPlaysUptoRow : OpenClaim := { program := "ytapncdgeigbgmaa", sum := "192c08ca8a61a98f5799425b12eac7d5ee089d9710ce2f3a1013a564e1967dae", func := "crawlway/crawlwaylaw30.SessionPlays", spec := "sessionPlays", plainKeys := false, apart := false, narrowed := true }
def SessionPlaysUptoSaid : Prop := sessionPlaysUptoRow.holds Try.pinned (OpenSpec.upto sessionPlaysSpec)

/-- 'crawlwaylaw30.SessionCopies', WHERE WHAT IT READS IS OF BULK AT MOST 1048576: true; the input reads as it did. -/
def sessionCopiesUptoRow : OpenClaim := { program := "ytapncdgeigbgmaa", sum := "192c08ca8a61a98f5799425b12eac7d5ee089d9710ce2f3a1013a564e1967dae", func := "crawlway/crawlwaylaw30.SessionCopies", spec := "sessionCopies", plainKeys := false, apart := false, narrowed := true }
def SessionCopiesUptoSaid : Prop := sessionCopiesUptoRow.holds Try.pinned (OpenSpec.upto sessionCopiesSpec)

/-- 'crawlwaylaw30.SessionNobody', WHERE WHAT IT READS IS OF BULK AT MOST 1048576: true; the input reads as it did. -/
def sessionNobodyUptoRow : OpenClaim := { program := "ytapncdgeigbgmaa", sum := "192c08ca8a61a98f5799425b12eac7d5ee089d9710ce2f3a1013a564e1967dae", func := "crawlway/crawlwaylaw30.SessionNobody", spec := "sessionNobody", plainKeys := false, apart := false, narrowed := true }
def SessionNobodyUptoSaid : Prop := sessionNobodyUptoRow.holds Try.pinned (OpenSpec.upto sessionNobodySpec)

/-- 'crawlwaylaw31.SessionsFull', WHERE WHAT IT READS IS OF BULK AT MOST 1048576: true; the input reads as it did. -/
def sessionsFullUptoRow : OpenClaim := { program := "ytapncdgeigbgmaa", sum := "192c08ca8a61a98f5799425b12eac7d5ee089d9710ce2f3a1013a564e1967dae", func := "crawlway/crawlwaylaw31.SessionsFull", spec := "sessionsFull", unfollowed := true, recurses := true, plainKeys := false, apart := false, narrowed := true }
def SessionsFullUptoSaid : Prop := sessionsFullUptoRow.holds Try.pinned (OpenSpec.upto sessionsFullSpec)

/-- 'crawlwaylaw27.RosterPlays', WHERE WHAT IT READS IS OF BULK AT MOST 1048576: true; the input reads as it did. -/
def rosterPlaysUptoRow : OpenClaim := { program := "ytapncdgeigbgmaa", sum := "192c08ca8a61a98f5799425b12eac7d5ee089d9710ce2f3a1013a564e1967dae", func := "crawlway/crawlwaylaw27.RosterPlays", spec := "rosterPlays", unfollowed := true, recurses := true, plainKeys := false, apart := false, narrowed := true }
def RosterPlaysUptoSaid : Prop := rosterPlaysUptoRow.holds Try.pinned (OpenSpec.upto rosterPlaysSpec)

/-- 'crawlwaylaw27.RosterCopies', WHERE WHAT IT READS IS OF BULK AT MOST 1048576: true; the input reads as it did. -/
def rosterCopiesUptoRow : OpenClaim := { program := "ytapncdgeigbgmaa", sum := "192c08ca8a61a98f5799425b12eac7d5ee089d9710ce2f3a1013a564e1967dae", func := "crawlway/crawlwaylaw27.RosterCopies", spec := "rosterCopies", inPlace := ["maps.clone"], unfollowed := true, recurses := true, plainKeys := false, apart := false, narrowed := true }
def RosterCopiesUptoSaid : Prop := rosterCopiesUptoRow.holds Try.pinned (OpenSpec.upto rosterCopiesSpec)

/-- 'crawlwaylaw27.RosterNobody', WHERE WHAT IT READS IS OF BULK AT MOST 1048576: true; the input reads as it did. -/
def rosterNobodyUptoRow : OpenClaim := { program := "ytapncdgeigbgmaa", sum := "192c08ca8a61a98f5799425b12eac7d5ee089d9710ce2f3a1013a564e1967dae", func := "crawlway/crawlwaylaw27.RosterNobody", spec := "rosterNobody", inPlace := ["maps.clone"], unfollowed := true, recurses := true, plainKeys := false, apart := false, narrowed := true }
def RosterNobodyUptoSaid : Prop := rosterNobodyUptoRow.holds Try.pinned (OpenSpec.upto rosterNobodySpec)

/-- 'crawlwaylaw31.SessionsNobody', WHERE WHAT IT READS IS OF BULK AT MOST 1048576: true; the input reads as it did. -/
def sessionsNobodyUptoRow : OpenClaim := { program := "ytapncdgeigbgmaa", sum := "192c08ca8a61a98f5799425b12eac7d5ee089d9710ce2f3a1013a564e1967dae", func := "crawlway/crawlwaylaw31.SessionsNobody", spec := "sessionsNobody", unfollowed := true, recurses := true, plainKeys := false, apart := false, narrowed := true }
def SessionsNobodyUptoSaid : Prop := sessionsNobodyUptoRow.holds Try.pinned (OpenSpec.upto sessionsNobodySpec)

/-- 'crawlwaylaw31.SessionsPlay', WHERE WHAT IT READS IS OF BULK AT MOST 1048576: true; the input reads as it did. -/
def sessionsPlayUptoRow : OpenClaim := { program := "ytapncdgeigbgmaa", sum := "192c08ca8a61a98f5799425b12eac7d5ee089d9710ce2f3a1013a564e1967dae", func := "crawlway/crawlwaylaw31.SessionsPlay", spec := "sessionsPlay", unfollowed := true, recurses := true, plainKeys := false, apart := false, narrowed := true }
def SessionsPlayUptoSaid : Prop := sessionsPlayUptoRow.holds Try.pinned (OpenSpec.upto sessionsPlaySpec)

end Rows
end Go.Proofs.Ytapncdgeigbgmaa
