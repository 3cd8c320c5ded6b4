/-
  No cell of these rows narrows 'for every input' (looked for: loops, veiled, ifaces, maps, wideKeys, modest, calm, conditions, laid).
  DERIVED. THE GIVEN ROWS OF THIS SEAT. 20 by the template 'for every input the law returns true; each argument reads behind the call as it read before'; 0 by the template 'total and deterministic' (their statements: YtahnibhcfdamdaaTotals.lean).
  GIVEN WITH THE SEED: the statements are not yours to turn. If you find one false, say at which input.
  Laid BY PROGRAM, IN A SANDBOX (cutbox-rows.mjs): the forced cells as the released guide's own fill.sh prints them over the translation cc81fe332c057d9b… (all of the seat's roots in one cut). By AI agents, Wed Nov 11 2026. No macro, syntax, notation, axiom, sorry.
-/
import Derived.Test.YtahnibhcfdamdaaChecked
import GoSem.Claim
import GoSem.ClaimJoined
import GoSem.ClaimMapViews
import Derived.JoinedTies
import Derived.KernelRfl
namespace Go.Proofs.Ytahnibhcfdamdaa
/- THE CELL 'sum', in the pinned program and in every row, IS THE sha256 OF THE DUMP (.gsa) THAT YtahnibhcfdamdaaProg.lean LOADS. Nothing in Lean hashes anything: it is a label: what it is worth is what the hold of that sum in a sandbox is worth. -/
noncomputable def Try.pinned : Pinned := { name := "ytahnibhcfdamdaa", sum := "cc81fe332c057d9b23e61b0a892fb82f82e4747ce4a29a4701b28a85e812a7c6", checked := Try.checked }
namespace Rows
def none {H : Type} : Left H := { results := [], args := [] }

/-- 'crawlwaylaw19.IpfourLong': WHATEVER THE INPUT: true; the input reads as it did. -/
def ipfourLongSpec : ChangeSpec := { name := "ipfourLong", fn := fun _ => fun
  | [d] => { results := [.lit (.bool true)], args := [d] }
  | _ => none }
def ipfourLongRow : OpenClaim := { program := "ytahnibhcfdamdaa", sum := "cc81fe332c057d9b23e61b0a892fb82f82e4747ce4a29a4701b28a85e812a7c6", func := "crawlway/crawlwaylaw19.IpfourLong", spec := "ipfourLong", plainKeys := false, apart := false }
def IpfourLongSaid : Prop := ipfourLongRow.holds Try.pinned (OpenSpec.ofChange ipfourLongSpec)

/-- ITS FALSE NEIGHBOUR: 'it returns false'. Refute it at one input. -/
def ipfourLongWrong : ChangeSpec := { name := "ipfourLong", fn := fun _ => fun
  | [d] => { results := [.lit (.bool false)], args := [d] }
  | _ => none }
def IpfourLongWrongFalsely : Prop := ipfourLongRow.holds Try.pinned (OpenSpec.ofChange ipfourLongWrong)

/-- 'crawlwaylaw20.IpsixReads': WHATEVER THE INPUT: true; the input reads as it did. -/
def ipsixReadsSpec : ChangeSpec := { name := "ipsixReads", fn := fun _ => fun
  | [d] => { results := [.lit (.bool true)], args := [d] }
  | _ => none }
def ipsixReadsRow : OpenClaim := { program := "ytahnibhcfdamdaa", sum := "cc81fe332c057d9b23e61b0a892fb82f82e4747ce4a29a4701b28a85e812a7c6", func := "crawlway/crawlwaylaw20.IpsixReads", spec := "ipsixReads", plainKeys := false, apart := false }
def IpsixReadsSaid : Prop := ipsixReadsRow.holds Try.pinned (OpenSpec.ofChange ipsixReadsSpec)

/-- ITS FALSE NEIGHBOUR: 'it returns false'. Refute it at one input. -/
def ipsixReadsWrong : ChangeSpec := { name := "ipsixReads", fn := fun _ => fun
  | [d] => { results := [.lit (.bool false)], args := [d] }
  | _ => none }
def IpsixReadsWrongFalsely : Prop := ipsixReadsRow.holds Try.pinned (OpenSpec.ofChange ipsixReadsWrong)

/-- 'crawlwaylaw20.IpsixPuts': WHATEVER THE INPUT: true; the input reads as it did. -/
def ipsixPutsSpec : ChangeSpec := { name := "ipsixPuts", fn := fun _ => fun
  | [d1, d2] => { results := [.lit (.bool true)], args := [d1, d2] }
  | _ => none }
def ipsixPutsRow : OpenClaim := { program := "ytahnibhcfdamdaa", sum := "cc81fe332c057d9b23e61b0a892fb82f82e4747ce4a29a4701b28a85e812a7c6", func := "crawlway/crawlwaylaw20.IpsixPuts", spec := "ipsixPuts", plainKeys := false, apart := false }
def IpsixPutsSaid : Prop := ipsixPutsRow.holds Try.pinned (OpenSpec.ofChange ipsixPutsSpec)

/-- ITS FALSE NEIGHBOUR: 'it returns false'. Refute it at one input. -/
def ipsixPutsWrong : ChangeSpec := { name := "ipsixPuts", fn := fun _ => fun
  | [d1, d2] => { results := [.lit (.bool false)], args := [d1, d2] }
  | _ => none }
def IpsixPutsWrongFalsely : Prop := ipsixPutsRow.holds Try.pinned (OpenSpec.ofChange ipsixPutsWrong)

/-- 'crawlwaylaw19.IpfourReads': WHATEVER THE INPUT: true; the input reads as it did. -/
def ipfourReadsSpec : ChangeSpec := { name := "ipfourReads", fn := fun _ => fun
  | [d] => { results := [.lit (.bool true)], args := [d] }
  | _ => none }
def ipfourReadsRow : OpenClaim := { program := "ytahnibhcfdamdaa", sum := "cc81fe332c057d9b23e61b0a892fb82f82e4747ce4a29a4701b28a85e812a7c6", func := "crawlway/crawlwaylaw19.IpfourReads", spec := "ipfourReads", plainKeys := false, apart := false }
def IpfourReadsSaid : Prop := ipfourReadsRow.holds Try.pinned (OpenSpec.ofChange ipfourReadsSpec)

/-- ITS FALSE NEIGHBOUR: 'it returns false'. Refute it at one input. -/
def ipfourReadsWrong : ChangeSpec := { name := "ipfourReads", fn := fun _ => fun
  | [d] => { results := [.lit (.bool false)], args := [d] }
  | _ => none }
def IpfourReadsWrongFalsely : Prop := ipfourReadsRow.holds Try.pinned (OpenSpec.ofChange ipfourReadsWrong)

/-- 'crawlwaylaw19.IpfourPuts': WHATEVER THE INPUT: true; the input reads as it did. -/
def ipfourPutsSpec : ChangeSpec := { name := "ipfourPuts", fn := fun _ => fun
  | [d1, d2] => { results := [.lit (.bool true)], args := [d1, d2] }
  | _ => none }
def ipfourPutsRow : OpenClaim := { program := "ytahnibhcfdamdaa", sum := "cc81fe332c057d9b23e61b0a892fb82f82e4747ce4a29a4701b28a85e812a7c6", func := "crawlway/crawlwaylaw19.IpfourPuts", spec := "ipfourPuts", plainKeys := false, apart := false }
def IpfourPutsSaid : Prop := ipfourPutsRow.holds Try.pinned (OpenSpec.ofChange ipfourPutsSpec)

/-- ITS FALSE NEIGHBOUR: 'it returns false'. Refute it at one input. -/
def ipfourPutsWrong : ChangeSpec := { name := "ipfourPuts", fn := fun _ => fun
  | [d1, d2] => { results := [.lit (.bool false)], args := [d1, d2] }
  | _ => none }
def IpfourPutsWrongFalsely : Prop := ipfourPutsRow.holds Try.pinned (OpenSpec.ofChange ipfourPutsWrong)

/-- 'crawlwaylaw19.IpfourTurned': WHATEVER THE INPUT: true; the input reads as it did. -/
def ipfourTurnedSpec : ChangeSpec := { name := "ipfourTurned", fn := fun _ => fun
  | [d1, d2] => { results := [.lit (.bool true)], args := [d1, d2] }
  | _ => none }
def ipfourTurnedRow : OpenClaim := { program := "ytahnibhcfdamdaa", sum := "cc81fe332c057d9b23e61b0a892fb82f82e4747ce4a29a4701b28a85e812a7c6", func := "crawlway/crawlwaylaw19.IpfourTurned", spec := "ipfourTurned", plainKeys := false, apart := false }
def IpfourTurnedSaid : Prop := ipfourTurnedRow.holds Try.pinned (OpenSpec.ofChange ipfourTurnedSpec)

/-- ITS FALSE NEIGHBOUR: 'it returns false'. Refute it at one input. -/
def ipfourTurnedWrong : ChangeSpec := { name := "ipfourTurned", fn := fun _ => fun
  | [d1, d2] => { results := [.lit (.bool false)], args := [d1, d2] }
  | _ => none }
def IpfourTurnedWrongFalsely : Prop := ipfourTurnedRow.holds Try.pinned (OpenSpec.ofChange ipfourTurnedWrong)

/-- 'crawlwaylaw46.PaddingStrips': WHATEVER THE INPUT: true; the input reads as it did. -/
def paddingStripsSpec : ChangeSpec := { name := "paddingStrips", fn := fun _ => fun
  | [d] => { results := [.lit (.bool true)], args := [d] }
  | _ => none }
def paddingStripsRow : OpenClaim := { program := "ytahnibhcfdamdaa", sum := "cc81fe332c057d9b23e61b0a892fb82f82e4747ce4a29a4701b28a85e812a7c6", func := "crawlway/crawlwaylaw46.PaddingStrips", spec := "paddingStrips", plainKeys := false, apart := false }
def PaddingStripsSaid : Prop := paddingStripsRow.holds Try.pinned (OpenSpec.ofChange paddingStripsSpec)

/-- ITS FALSE NEIGHBOUR: 'it returns false'. Refute it at one input. -/
def paddingStripsWrong : ChangeSpec := { name := "paddingStrips", fn := fun _ => fun
  | [d] => { results := [.lit (.bool false)], args := [d] }
  | _ => none }
def PaddingStripsWrongFalsely : Prop := paddingStripsRow.holds Try.pinned (OpenSpec.ofChange paddingStripsWrong)

/-- 'crawlwaylaw46.PaddingPads': WHATEVER THE INPUT: true; the input reads as it did. -/
def paddingPadsSpec : ChangeSpec := { name := "paddingPads", fn := fun _ => fun
  | [d] => { results := [.lit (.bool true)], args := [d] }
  | _ => none }
def paddingPadsRow : OpenClaim := { program := "ytahnibhcfdamdaa", sum := "cc81fe332c057d9b23e61b0a892fb82f82e4747ce4a29a4701b28a85e812a7c6", func := "crawlway/crawlwaylaw46.PaddingPads", spec := "paddingPads", plainKeys := false, apart := false }
def PaddingPadsSaid : Prop := paddingPadsRow.holds Try.pinned (OpenSpec.ofChange paddingPadsSpec)

/-- ITS FALSE NEIGHBOUR: 'it returns false'. Refute it at one input. -/
def paddingPadsWrong : ChangeSpec := { name := "paddingPads", fn := fun _ => fun
  | [d] => { results := [.lit (.bool false)], args := [d] }
  | _ => none }
def PaddingPadsWrongFalsely : Prop := paddingPadsRow.holds Try.pinned (OpenSpec.ofChange paddingPadsWrong)

/-- 'crawlwaylaw21.PacketReads': WHATEVER THE INPUT: true; the input reads as it did. -/
def packetReadsSpec : ChangeSpec := { name := "packetReads", fn := fun _ => fun
  | [d] => { results := [.lit (.bool true)], args := [d] }
  | _ => none }
def packetReadsRow : OpenClaim := { program := "ytahnibhcfdamdaa", sum := "cc81fe332c057d9b23e61b0a892fb82f82e4747ce4a29a4701b28a85e812a7c6", func := "crawlway/crawlwaylaw21.PacketReads", spec := "packetReads", plainKeys := false, apart := false }
def PacketReadsSaid : Prop := packetReadsRow.holds Try.pinned (OpenSpec.ofChange packetReadsSpec)

/-- ITS FALSE NEIGHBOUR: 'it returns false'. Refute it at one input. -/
def packetReadsWrong : ChangeSpec := { name := "packetReads", fn := fun _ => fun
  | [d] => { results := [.lit (.bool false)], args := [d] }
  | _ => none }
def PacketReadsWrongFalsely : Prop := packetReadsRow.holds Try.pinned (OpenSpec.ofChange packetReadsWrong)

/-- 'crawlwaylaw22.IcmpfourTells': WHATEVER THE INPUT: true; the input reads as it did. -/
def icmpfourTellsSpec : ChangeSpec := { name := "icmpfourTells", fn := fun _ => fun
  | [d] => { results := [.lit (.bool true)], args := [d] }
  | _ => none }
def icmpfourTellsRow : OpenClaim := { program := "ytahnibhcfdamdaa", sum := "cc81fe332c057d9b23e61b0a892fb82f82e4747ce4a29a4701b28a85e812a7c6", func := "crawlway/crawlwaylaw22.IcmpfourTells", spec := "icmpfourTells", plainKeys := false, apart := false }
def IcmpfourTellsSaid : Prop := icmpfourTellsRow.holds Try.pinned (OpenSpec.ofChange icmpfourTellsSpec)

/-- ITS FALSE NEIGHBOUR: 'it returns false'. Refute it at one input. -/
def icmpfourTellsWrong : ChangeSpec := { name := "icmpfourTells", fn := fun _ => fun
  | [d] => { results := [.lit (.bool false)], args := [d] }
  | _ => none }
def IcmpfourTellsWrongFalsely : Prop := icmpfourTellsRow.holds Try.pinned (OpenSpec.ofChange icmpfourTellsWrong)

/-- 'crawlwaylaw22.IcmpfourReads': WHATEVER THE INPUT: true; the input reads as it did. -/
def icmpfourReadsSpec : ChangeSpec := { name := "icmpfourReads", fn := fun _ => fun
  | [d] => { results := [.lit (.bool true)], args := [d] }
  | _ => none }
def icmpfourReadsRow : OpenClaim := { program := "ytahnibhcfdamdaa", sum := "cc81fe332c057d9b23e61b0a892fb82f82e4747ce4a29a4701b28a85e812a7c6", func := "crawlway/crawlwaylaw22.IcmpfourReads", spec := "icmpfourReads", plainKeys := false, apart := false }
def IcmpfourReadsSaid : Prop := icmpfourReadsRow.holds Try.pinned (OpenSpec.ofChange icmpfourReadsSpec)

/-- ITS FALSE NEIGHBOUR: 'it returns false'. Refute it at one input. -/
def icmpfourReadsWrong : ChangeSpec := { name := "icmpfourReads", fn := fun _ => fun
  | [d] => { results := [.lit (.bool false)], args := [d] }
  | _ => none }
def IcmpfourReadsWrongFalsely : Prop := icmpfourReadsRow.holds Try.pinned (OpenSpec.ofChange icmpfourReadsWrong)

/-- 'crawlwaylaw21.PacketTells': WHATEVER THE INPUT: true; the input reads as it did. -/
def packetTellsSpec : ChangeSpec := { name := "packetTells", fn := fun _ => fun
  | [d] => { results := [.lit (.bool true)], args := [d] }
  | _ => none }
def packetTellsRow : OpenClaim := { program := "ytahnibhcfdamdaa", sum := "cc81fe332c057d9b23e61b0a892fb82f82e4747ce4a29a4701b28a85e812a7c6", func := "crawlway/crawlwaylaw21.PacketTells", spec := "packetTells", plainKeys := false, apart := false }
def PacketTellsSaid : Prop := packetTellsRow.holds Try.pinned (OpenSpec.ofChange packetTellsSpec)

/-- ITS FALSE NEIGHBOUR: 'it returns false'. Refute it at one input. -/
def packetTellsWrong : ChangeSpec := { name := "packetTells", fn := fun _ => fun
  | [d] => { results := [.lit (.bool false)], args := [d] }
  | _ => none }
def PacketTellsWrongFalsely : Prop := packetTellsRow.holds Try.pinned (OpenSpec.ofChange packetTellsWrong)

/-- 'crawlwaylaw23.IcmpsixTells': WHATEVER THE INPUT: true; the input reads as it did. -/
def icmpsixTellsSpec : ChangeSpec := { name := "icmpsixTells", fn := fun _ => fun
  | [d] => { results := [.lit (.bool true)], args := [d] }
  | _ => none }
def icmpsixTellsRow : OpenClaim := { program := "ytahnibhcfdamdaa", sum := "cc81fe332c057d9b23e61b0a892fb82f82e4747ce4a29a4701b28a85e812a7c6", func := "crawlway/crawlwaylaw23.IcmpsixTells", spec := "icmpsixTells", plainKeys := false, apart := false }
def IcmpsixTellsSaid : Prop := icmpsixTellsRow.holds Try.pinned (OpenSpec.ofChange icmpsixTellsSpec)

/-- ITS FALSE NEIGHBOUR: 'it returns false'. Refute it at one input. -/
def icmpsixTellsWrong : ChangeSpec := { name := "icmpsixTells", fn := fun _ => fun
  | [d] => { results := [.lit (.bool false)], args := [d] }
  | _ => none }
def IcmpsixTellsWrongFalsely : Prop := icmpsixTellsRow.holds Try.pinned (OpenSpec.ofChange icmpsixTellsWrong)

/-- 'crawlwaylaw23.IcmpsixReads': WHATEVER THE INPUT: true; the input reads as it did. -/
def icmpsixReadsSpec : ChangeSpec := { name := "icmpsixReads", fn := fun _ => fun
  | [d] => { results := [.lit (.bool true)], args := [d] }
  | _ => none }
def icmpsixReadsRow : OpenClaim := { program := "ytahnibhcfdamdaa", sum := "cc81fe332c057d9b23e61b0a892fb82f82e4747ce4a29a4701b28a85e812a7c6", func := "crawlway/crawlwaylaw23.IcmpsixReads", spec := "icmpsixReads", plainKeys := false, apart := false }
def IcmpsixReadsSaid : Prop := icmpsixReadsRow.holds Try.pinned (OpenSpec.ofChange icmpsixReadsSpec)

/-- ITS FALSE NEIGHBOUR: 'it returns false'. Refute it at one input. -/
def icmpsixReadsWrong : ChangeSpec := { name := "icmpsixReads", fn := fun _ => fun
  | [d] => { results := [.lit (.bool false)], args := [d] }
  | _ => none }
def IcmpsixReadsWrongFalsely : Prop := icmpsixReadsRow.holds Try.pinned (OpenSpec.ofChange icmpsixReadsWrong)

/-- 'crawlwaylaw24.RefuseAnswers': WHATEVER THE INPUT: true; the input reads as it did. -/
def refuseAnswersSpec : ChangeSpec := { name := "refuseAnswers", fn := fun _ => fun
  | [d] => { results := [.lit (.bool true)], args := [d] }
  | _ => none }
def refuseAnswersRow : OpenClaim := { program := "ytahnibhcfdamdaa", sum := "cc81fe332c057d9b23e61b0a892fb82f82e4747ce4a29a4701b28a85e812a7c6", func := "crawlway/crawlwaylaw24.RefuseAnswers", spec := "refuseAnswers", unfollowed := true, recurses := true, plainKeys := false, apart := false }
def RefuseAnswersSaid : Prop := refuseAnswersRow.holds Try.pinned (OpenSpec.ofChange refuseAnswersSpec)

/-- ITS FALSE NEIGHBOUR: 'it returns false'. Refute it at one input. -/
def refuseAnswersWrong : ChangeSpec := { name := "refuseAnswers", fn := fun _ => fun
  | [d] => { results := [.lit (.bool false)], args := [d] }
  | _ => none }
def RefuseAnswersWrongFalsely : Prop := refuseAnswersRow.holds Try.pinned (OpenSpec.ofChange refuseAnswersWrong)

/-- 'crawlwaylaw24.RefuseOnce': WHATEVER THE INPUT: true; the input reads as it did. -/
def refuseOnceSpec : ChangeSpec := { name := "refuseOnce", fn := fun _ => fun
  | [d] => { results := [.lit (.bool true)], args := [d] }
  | _ => none }
def refuseOnceRow : OpenClaim := { program := "ytahnibhcfdamdaa", sum := "cc81fe332c057d9b23e61b0a892fb82f82e4747ce4a29a4701b28a85e812a7c6", func := "crawlway/crawlwaylaw24.RefuseOnce", spec := "refuseOnce", unfollowed := true, recurses := true, plainKeys := false, apart := false }
def RefuseOnceSaid : Prop := refuseOnceRow.holds Try.pinned (OpenSpec.ofChange refuseOnceSpec)

/-- ITS FALSE NEIGHBOUR: 'it returns false'. Refute it at one input. -/
def refuseOnceWrong : ChangeSpec := { name := "refuseOnce", fn := fun _ => fun
  | [d] => { results := [.lit (.bool false)], args := [d] }
  | _ => none }
def RefuseOnceWrongFalsely : Prop := refuseOnceRow.holds Try.pinned (OpenSpec.ofChange refuseOnceWrong)

/-- 'crawlwaylaw54.FlowOf': WHATEVER THE INPUT: true; the input reads as it did. -/
def flowOfSpec : ChangeSpec := { name := "flowOf", fn := fun _ => fun
  | [d] => { results := [.lit (.bool true)], args := [d] }
  | _ => none }
def flowOfRow : OpenClaim := { program := "ytahnibhcfdamdaa", sum := "cc81fe332c057d9b23e61b0a892fb82f82e4747ce4a29a4701b28a85e812a7c6", func := "crawlway/crawlwaylaw54.FlowOf", spec := "flowOf", inPlace := ["internal/bytealg.Compare"], unfollowed := true, recurses := true, plainKeys := false, apart := false }
def FlowOfSaid : Prop := flowOfRow.holds Try.pinned (OpenSpec.ofChange flowOfSpec)

/-- ITS FALSE NEIGHBOUR: 'it returns false'. Refute it at one input. -/
def flowOfWrong : ChangeSpec := { name := "flowOf", fn := fun _ => fun
  | [d] => { results := [.lit (.bool false)], args := [d] }
  | _ => none }
def FlowOfWrongFalsely : Prop := flowOfRow.holds Try.pinned (OpenSpec.ofChange flowOfWrong)

/-- 'crawlwaylaw54.FlowOrder': WHATEVER THE INPUT: true; the input reads as it did. -/
def flowOrderSpec : ChangeSpec := { name := "flowOrder", fn := fun _ => fun
  | [d1, d2] => { results := [.lit (.bool true)], args := [d1, d2] }
  | _ => none }
def flowOrderRow : OpenClaim := { program := "ytahnibhcfdamdaa", sum := "cc81fe332c057d9b23e61b0a892fb82f82e4747ce4a29a4701b28a85e812a7c6", func := "crawlway/crawlwaylaw54.FlowOrder", spec := "flowOrder", inPlace := ["internal/bytealg.Compare"], unfollowed := true, recurses := true, plainKeys := false, apart := false }
def FlowOrderSaid : Prop := flowOrderRow.holds Try.pinned (OpenSpec.ofChange flowOrderSpec)

/-- ITS FALSE NEIGHBOUR: 'it returns false'. Refute it at one input. -/
def flowOrderWrong : ChangeSpec := { name := "flowOrder", fn := fun _ => fun
  | [d1, d2] => { results := [.lit (.bool false)], args := [d1, d2] }
  | _ => none }
def FlowOrderWrongFalsely : Prop := flowOrderRow.holds Try.pinned (OpenSpec.ofChange flowOrderWrong)

/-- 'crawlwaylaw54.FlowNotes': WHATEVER THE INPUT: true; the input reads as it did. -/
def flowNotesSpec : ChangeSpec := { name := "flowNotes", fn := fun _ => fun
  | [d1, d2, d3, d4] => { results := [.lit (.bool true)], args := [d1, d2, d3, d4] }
  | _ => none }
def flowNotesRow : OpenClaim := { program := "ytahnibhcfdamdaa", sum := "cc81fe332c057d9b23e61b0a892fb82f82e4747ce4a29a4701b28a85e812a7c6", func := "crawlway/crawlwaylaw54.FlowNotes", spec := "flowNotes", inPlace := ["internal/bytealg.Compare"], unfollowed := true, recurses := true, plainKeys := false, apart := false }
def FlowNotesSaid : Prop := flowNotesRow.holds Try.pinned (OpenSpec.ofChange flowNotesSpec)

/-- ITS FALSE NEIGHBOUR: 'it returns false'. Refute it at one input. -/
def flowNotesWrong : ChangeSpec := { name := "flowNotes", fn := fun _ => fun
  | [d1, d2, d3, d4] => { results := [.lit (.bool false)], args := [d1, d2, d3, d4] }
  | _ => none }
def FlowNotesWrongFalsely : Prop := flowNotesRow.holds Try.pinned (OpenSpec.ofChange flowNotesWrong)

/-- 'crawlwaylaw54.FlowNobody': WHATEVER THE INPUT: true; the input reads as it did. -/
def flowNobodySpec : ChangeSpec := { name := "flowNobody", fn := fun _ => fun
  | [d1, d2, d3] => { results := [.lit (.bool true)], args := [d1, d2, d3] }
  | _ => none }
def flowNobodyRow : OpenClaim := { program := "ytahnibhcfdamdaa", sum := "cc81fe332c057d9b23e61b0a892fb82f82e4747ce4a29a4701b28a85e812a7c6", func := "crawlway/crawlwaylaw54.FlowNobody", spec := "flowNobody", inPlace := ["internal/bytealg.Compare"], unfollowed := true, recurses := true, plainKeys := false, apart := false }
def FlowNobodySaid : Prop := flowNobodyRow.holds Try.pinned (OpenSpec.ofChange flowNobodySpec)

/-- ITS FALSE NEIGHBOUR: 'it returns false'. Refute it at one input. -/
def flowNobodyWrong : ChangeSpec := { name := "flowNobody", fn := fun _ => fun
  | [d1, d2, d3] => { results := [.lit (.bool false)], args := [d1, d2, d3] }
  | _ => none }
def FlowNobodyWrongFalsely : Prop := flowNobodyRow.holds Try.pinned (OpenSpec.ofChange flowNobodyWrong)

/- THE SECOND FORM. 'bulk': how many values and letters a reading holds, each counted each time it is reached (what is shared counts as often as it is met; a slice's spare places count too). A statement '..UptoSaid' is the law's where the arguments, and the package variables that the reading takes, are together of bulk at most 1048576: NARROWER than '..Said'. Prove '..Said' where nothing that the law and all that it calls make is longer than what came in: it says more and counts as full. Else prove '..UptoSaid'. A law counts once. -/
mutual
def uptoBulk {H : Type} : DataW H → Nat
  | .lit (.string bytes) => bytes.length + 1
  | .lit _ => 1
  | .nil => 1
  | .ptr d => uptoBulk d + 1
  | .slice elems spare => uptoBulkAll elems + uptoBulkAll spare + 1
  | .agg parts => uptoBulkAll parts + 1
  | .iface _ d => uptoBulk d + 1
  | .map entries => uptoBulkEntries entries + 1
  | .held _ => 1
def uptoBulkAll {H : Type} : List (DataW H) → Nat
  | [] => 0
  | d :: r => uptoBulk d + uptoBulkAll r
def uptoBulkEntries {H : Type} : List (Lit × DataW H) → Nat
  | [] => 0
  | x :: r => uptoBulkEntry x + uptoBulkEntries r
def uptoBulkEntry {H : Type} : Lit × DataW H → Nat
  | (.string bytes, d) => bytes.length + uptoBulk d + 1
  | (_, d) => uptoBulk d + 1
 end
def uptoSmall : (H : Type) → List (DataW H) → Bool := fun _ ds => decide (uptoBulkAll ds ≤ 1048576)
def OpenSpec.upto (s : _root_.Go.ChangeSpec) : _root_.Go.OpenSpec := { _root_.Go.OpenSpec.ofChange s with cond := some uptoSmall }

/-- 'crawlwaylaw19.IpfourLong', WHERE WHAT IT READS IS OF BULK AT MOST 1048576: true; the input reads as it did. -/
def ipfourLongUptoRow : OpenClaim := { program := "ytahnibhcfdamdaa", sum := "cc81fe332c057d9b23e61b0a892fb82f82e4747ce4a29a4701b28a85e812a7c6", func := "crawlway/crawlwaylaw19.IpfourLong", spec := "ipfourLong", plainKeys := false, apart := false, narrowed := true }
def IpfourLongUptoSaid : Prop := ipfourLongUptoRow.holds Try.pinned (OpenSpec.upto ipfourLongSpec)

/-- 'crawlwaylaw20.IpsixReads', WHERE WHAT IT READS IS OF BULK AT MOST 1048576: true; the input reads as it did. -/
def ipsixReadsUptoRow : OpenClaim := { program := "ytahnibhcfdamdaa", sum := "cc81fe332c057d9b23e61b0a892fb82f82e4747ce4a29a4701b28a85e812a7c6", func := "crawlway/crawlwaylaw20.IpsixReads", spec := "ipsixReads", plainKeys := false, apart := false, narrowed := true }
def IpsixReadsUptoSaid : Prop := ipsixReadsUptoRow.holds Try.pinned (OpenSpec.upto ipsixReadsSpec)

/-- 'crawlwaylaw20.IpsixPuts', WHERE WHAT IT READS IS OF BULK AT MOST 1048576: true; the input reads as it did. -/
def ipsixPutsUptoRow : OpenClaim := { program := "ytahnibhcfdamdaa", sum := "cc81fe332c057d9b23e61b0a892fb82f82e4747ce4a29a4701b28a85e812a7c6", func := "crawlway/crawlwaylaw20.IpsixPuts", spec := "ipsixPuts", plainKeys := false, apart := false, narrowed := true }
def IpsixPutsUptoSaid : Prop := ipsixPutsUptoRow.holds Try.pinned (OpenSpec.upto ipsixPutsSpec)

/-- 'crawlwaylaw19.IpfourReads', WHERE WHAT IT READS IS OF BULK AT MOST 1048576: true; the input reads as it did. -/
def ipfourReadsUptoRow : OpenClaim := { program := "ytahnibhcfdamdaa", sum := "cc81fe332c057d9b23e61b0a892fb82f82e4747ce4a29a4701b28a85e812a7c6", func := "crawlway/crawlwaylaw19.IpfourReads", spec := "ipfourReads", plainKeys := false, apart := false, narrowed := true }
def IpfourReadsUptoSaid : Prop := ipfourReadsUptoRow.holds Try.pinned (OpenSpec.upto ipfourReadsSpec)

/-- 'crawlwaylaw19.IpfourPuts', WHERE WHAT IT READS IS OF BULK AT MOST 1048576: true; the input reads as it did. -/
def ipfourPutsUptoRow : OpenClaim := { program := "ytahnibhcfdamdaa", sum := "cc81fe332c057d9b23e61b0a892fb82f82e4747ce4a29a4701b28a85e812a7c6", func := "crawlway/crawlwaylaw19.IpfourPuts", spec := "ipfourPuts", plainKeys := false, apart := false, narrowed := true }
def IpfourPutsUptoSaid : Prop := ipfourPutsUptoRow.holds Try.pinned (OpenSpec.upto ipfourPutsSpec)

/-- 'crawlwaylaw19.IpfourTurned', WHERE WHAT IT READS IS OF BULK AT MOST 1048576: true; the input reads as it did. -/
def ipfourTurnedUptoRow : OpenClaim := { program := "ytahnibhcfdamdaa", sum := "cc81fe332c057d9b23e61b0a892fb82f82e4747ce4a29a4701b28a85e812a7c6", func := "crawlway/crawlwaylaw19.IpfourTurned", spec := "ipfourTurned", plainKeys := false, apart := false, narrowed := true }
def IpfourTurnedUptoSaid : Prop := ipfourTurnedUptoRow.holds Try.pinned (OpenSpec.upto ipfourTurnedSpec)

/-- 'crawlwaylaw46.PaddingStrips', WHERE WHAT IT READS IS OF BULK AT MOST 1048576: true; the input reads as it did. -/
def paddingStripsUptoRow : OpenClaim := { program := "ytahnibhcfdamdaa", sum := "cc81fe332c057d9b23e61b0a892fb82f82e4747ce4a29a4701b28a85e812a7c6", func := "crawlway/crawlwaylaw46.PaddingStrips", spec := "paddingStrips", plainKeys := false, apart := false, narrowed := true }
def PaddingStripsUptoSaid : Prop := paddingStripsUptoRow.holds Try.pinned (OpenSpec.upto paddingStripsSpec)

/-- 'crawlwaylaw46.PaddingPads', WHERE WHAT IT READS IS OF BULK AT MOST 1048576: true; the input reads as it did. -/
def paddingPadsUptoRow : OpenClaim := { program := "ytahnibhcfdamdaa", sum := "cc81fe332c057d9b23e61b0a892fb82f82e4747ce4a29a4701b28a85e812a7c6", func := "crawlway/crawlwaylaw46.PaddingPads", spec := "paddingPads", plainKeys := false, apart := false, narrowed := true }
def PaddingPadsUptoSaid : Prop := paddingPadsUptoRow.holds Try.pinned (OpenSpec.upto paddingPadsSpec)

/-- 'crawlwaylaw21.PacketReads', WHERE WHAT IT READS IS OF BULK AT MOST 1048576: true; the input reads as it did. -/
def packetReadsUptoRow : OpenClaim := { program := "ytahnibhcfdamdaa", sum := "cc81fe332c057d9b23e61b0a892fb82f82e4747ce4a29a4701b28a85e812a7c6", func := "crawlway/crawlwaylaw21.PacketReads", spec := "packetReads", plainKeys := false, apart := false, narrowed := true }
def PacketReadsUptoSaid : Prop := packetReadsUptoRow.holds Try.pinned (OpenSpec.upto packetReadsSpec)

/-- 'crawlwaylaw22.IcmpfourTells', WHERE WHAT IT READS IS OF BULK AT MOST 1048576: true; the input reads as it did. -/
def icmpfourTellsUptoRow : OpenClaim := { program := "ytahnibhcfdamdaa", sum := "cc81fe332c057d9b23e61b0a892fb82f82e4747ce4a29a4701b28a85e812a7c6", func := "crawlway/crawlwaylaw22.IcmpfourTells", spec := "icmpfourTells", plainKeys := false, apart := false, narrowed := true }
def IcmpfourTellsUptoSaid : Prop := icmpfourTellsUptoRow.holds Try.pinned (OpenSpec.upto icmpfourTellsSpec)

/-- 'crawlwaylaw22.IcmpfourReads', WHERE WHAT IT READS IS OF BULK AT MOST 1048576: true; the input reads as it did. -/
def icmpfourReadsUptoRow : OpenClaim := { program := "ytahnibhcfdamdaa", sum := "cc81fe332c057d9b23e61b0a892fb82f82e4747ce4a29a4701b28a85e812a7c6", func := "crawlway/crawlwaylaw22.IcmpfourReads", spec := "icmpfourReads", plainKeys := false, apart := false, narrowed := true }
def IcmpfourReadsUptoSaid : Prop := icmpfourReadsUptoRow.holds Try.pinned (OpenSpec.upto icmpfourReadsSpec)

/-- 'crawlwaylaw21.PacketTells', WHERE WHAT IT READS IS OF BULK AT MOST 1048576: true; the input reads as it did. -/
def packetTellsUptoRow : OpenClaim := { program := "ytahnibhcfdamdaa", sum := "cc81fe332c057d9b23e61b0a892fb82f82e4747ce4a29a4701b28a85e812a7c6", func := "crawlway/crawlwaylaw21.PacketTells", spec := "packetTells", plainKeys := false, apart := false, narrowed := true }
def PacketTellsUptoSaid : Prop := packetTellsUptoRow.holds Try.pinned (OpenSpec.upto packetTellsSpec)

/-- 'crawlwaylaw23.IcmpsixTells', WHERE WHAT IT READS IS OF BULK AT MOST 1048576: true; the input reads as it did. -/
def icmpsixTellsUptoRow : OpenClaim := { program := "ytahnibhcfdamdaa", sum := "cc81fe332c057d9b23e61b0a892fb82f82e4747ce4a29a4701b28a85e812a7c6", func := "crawlway/crawlwaylaw23.IcmpsixTells", spec := "icmpsixTells", plainKeys := false, apart := false, narrowed := true }
def IcmpsixTellsUptoSaid : Prop := icmpsixTellsUptoRow.holds Try.pinned (OpenSpec.upto icmpsixTellsSpec)

/-- 'crawlwaylaw23.IcmpsixReads', WHERE WHAT IT READS IS OF BULK AT MOST 1048576: true; the input reads as it did. -/
def icmpsixReadsUptoRow : OpenClaim := { program := "ytahnibhcfdamdaa", sum := "cc81fe332c057d9b23e61b0a892fb82f82e4747ce4a29a4701b28a85e812a7c6", func := "crawlway/crawlwaylaw23.IcmpsixReads", spec := "icmpsixReads", plainKeys := false, apart := false, narrowed := true }
def IcmpsixReadsUptoSaid : Prop := icmpsixReadsUptoRow.holds Try.pinned (OpenSpec.upto icmpsixReadsSpec)

/-- 'crawlwaylaw24.RefuseAnswers', WHERE WHAT IT READS IS OF BULK AT MOST 1048576: true; the input reads as it did. -/
def refuseAnswersUptoRow : OpenClaim := { program := "ytahnibhcfdamdaa", sum := "cc81fe332c057d9b23e61b0a892fb82f82e4747ce4a29a4701b28a85e812a7c6", func := "crawlway/crawlwaylaw24.RefuseAnswers", spec := "refuseAnswers", unfollowed := true, recurses := true, plainKeys := false, apart := false, narrowed := true }
def RefuseAnswersUptoSaid : Prop := refuseAnswersUptoRow.holds Try.pinned (OpenSpec.upto refuseAnswersSpec)

/-- 'crawlwaylaw24.RefuseOnce', WHERE WHAT IT READS IS OF BULK AT MOST 1048576: true; the input reads as it did. -/
def refuseOnceUptoRow : OpenClaim := { program := "ytahnibhcfdamdaa", sum := "cc81fe332c057d9b23e61b0a892fb82f82e4747ce4a29a4701b28a85e812a7c6", func := "crawlway/crawlwaylaw24.RefuseOnce", spec := "refuseOnce", unfollowed := true, recurses := true, plainKeys := false, apart := false, narrowed := true }
def RefuseOnceUptoSaid : Prop := refuseOnceUptoRow.holds Try.pinned (OpenSpec.upto refuseOnceSpec)

/-- 'crawlwaylaw54.FlowOf', WHERE WHAT IT READS IS OF BULK AT MOST 1048576: true; the input reads as it did. -/
def flowOfUptoRow : OpenClaim := { program := "ytahnibhcfdamdaa", sum := "cc81fe332c057d9b23e61b0a892fb82f82e4747ce4a29a4701b28a85e812a7c6", func := "crawlway/crawlwaylaw54.FlowOf", spec := "flowOf", inPlace := ["internal/bytealg.Compare"], unfollowed := true, recurses := true, plainKeys := false, apart := false, narrowed := true }
def FlowOfUptoSaid : Prop := flowOfUptoRow.holds Try.pinned (OpenSpec.upto flowOfSpec)

/-- 'crawlwaylaw54.FlowOrder', WHERE WHAT IT READS IS OF BULK AT MOST 1048576: true; the input reads as it did. -/
def flowOrderUptoRow : OpenClaim := { program := "ytahnibhcfdamdaa", sum := "cc81fe332c057d9b23e61b0a892fb82f82e4747ce4a29a4701b28a85e812a7c6", func := "crawlway/crawlwaylaw54.FlowOrder", spec := "flowOrder", inPlace := ["internal/bytealg.Compare"], unfollowed := true, recurses := true, plainKeys := false, apart := false, narrowed := true }
def FlowOrderUptoSaid : Prop := flowOrderUptoRow.holds Try.pinned (OpenSpec.upto flowOrderSpec)

/-- 'crawlwaylaw54.FlowNotes', WHERE WHAT IT READS IS OF BULK AT MOST 1048576: true; the input reads as it did. -/
def flowNotesUptoRow : OpenClaim := { program := "ytahnibhcfdamdaa", sum := "cc81fe332c057d9b23e61b0a892fb82f82e4747ce4a29a4701b28a85e812a7c6", func := "crawlway/crawlwaylaw54.FlowNotes", spec := "flowNotes", inPlace := ["internal/bytealg.Compare"], unfollowed := true, recurses := true, plainKeys := false, apart := false, narrowed := true }
def FlowNotesUptoSaid : Prop := flowNotesUptoRow.holds Try.pinned (OpenSpec.upto flowNotesSpec)

/-- 'crawlwaylaw54.FlowNobody', WHERE WHAT IT READS IS OF BULK AT MOST 1048576: true; the input reads as it did. -/
def flowNobodyUptoRow : OpenClaim := { program := "ytahnibhcfdamdaa", sum := "cc81fe332c057d9b23e61b0a892fb82f82e4747ce4a29a4701b28a85e812a7c6", func := "crawlway/crawlwaylaw54.FlowNobody", spec := "flowNobody", inPlace := ["internal/bytealg.Compare"], unfollowed := true, recurses := true, plainKeys := false, apart := false, narrowed := true }
def FlowNobodyUptoSaid : Prop := flowNobodyUptoRow.holds Try.pinned (OpenSpec.upto flowNobodySpec)

end Rows
end Go.Proofs.Ytahnibhcfdamdaa
