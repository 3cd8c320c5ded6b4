/- WireTells: for every input the law hands back true, and each argument reads behind the call as it read before; no condition of ours. -/
import Derived.Test.YtnehbhhjdjiieaaRows
import Derived.Test.YtnehbhhjdjiieaaWu
import Derived.Test.YtnehbhhjdjiieaaWo
import Derived.Test.YtnehbhhjdjiieaaOp
import Derived.WalkKit
import Derived.ProofKit
import Derived.OpenShut
import Derived.ShutString
import Derived.ChangeOld
import Derived.Below
import Derived.SizedLaws
namespace Go.Proofs.Ytnehbhhjdjiieaa.wireTells
open Go.ChangeShapes Go.WideShapes Go.ChangeAt Go.RowKit
open Go.ChangeMaps (open_string shut_string)
set_option linter.unusedVariables false
theorem own : ownKnob Try.prog.godebug = none := by kernel_rfl
theorem laidOut : laidOutB Try.prog = true := by kernel_rfl
set_option maxRecDepth 100000 in
theorem lifted (os : Os) (started : os.Started) (H : Type) (enc : TypeId × Value → H) :
    ReturnsInHanded {} Try.checked os 17 .any (Rows.wireTellsSpec.pre6 enc Try.prog Try.f17 Rows.wireTellsRow.domain false) (Rows.wireTellsSpec.post enc Try.prog Try.f17 false true false false) := by
  refine returnsInHanded_of_change_sized (C := Try.checked) own started (by kernel_rfl) Try.func17
    (ChangeSpec.witness6 (enc := enc) (C := Try.checked) false ⟨#[], #[.agg (#[.int .i64 0] ++ (#[.int .u32 0] ++ Array.replicate 140 (.int .u8 0)) ++ (#[.int .u32 0, .int .u32 0] ++ Array.replicate 80 (.int .u8 0)) ++ (#[.int .u32 0] ++ Array.replicate 56 (.int .u8 0)) ++ #[.int .u32 0, .int .u64 0, .slice none 0 0]), .agg (#[.int .i64 0] ++ (#[.int .u32 0] ++ Array.replicate 140 (.int .u8 0)) ++ (#[.int .u32 0, .int .u32 0] ++ Array.replicate 80 (.int .u8 0)) ++ (#[.int .u32 0] ++ Array.replicate 56 (.int .u8 0)) ++ #[.int .u32 0, .int .u64 0, .slice none 0 0])], []⟩ 8 (by kernel_rfl) (by kernel_rfl) (by kernel_rfl) (by kernel_rfl)) ?_
  intro W base args ds gs before hval0 hW hcnd hsz0 _
  have hval : ∀ (j : Nat) t v, Try.f17.params[j]? = some t → args[j]? = some v → Value.okWide Try.prog W .any base t v := hval0
  have hW' := hW
  obtain ⟨p, q, hA0, hV, rfl, hfz, hnd⟩ := hW
  have hA : DataW.TrodAll enc Try.prog W 0 (fun _ => true) true Try.f17.params.toList args.toList ds p := hA0
  rw [Try.params17] at hA hval
  obtain ⟨v0, vs0, d0, ds0, p0, q0, hargs, rfl, rfl, h0, r0⟩ := trodAll_cons hA
  obtain ⟨v1, vs1, d1, ds1, p1, q1, rfl, rfl, rfl, h1, r1⟩ := trodAll_cons r0
  obtain ⟨rfl, rfl, rfl⟩ := trodAll_nil r1
  obtain rfl : args = #[v0, v1] := by cases args; simp_all
  obtain ⟨rfl, rfl⟩ := trodVars_none hV
  have k0 := h0
  have lt0 : ∀ x ∈ p0, x.block < W.heap.size := by obtain ⟨m, hm⟩ := k0; exact DataW.trod_lt m _ _ _ hm
  obtain ⟨g0, n0, L0, m0, o0, M0, s0, N0, x0, y0, A0, c0, l0, rfl, hn0, hL0, hm0, ho0, hM0, hs0, hN0, hx0, hy0, hb0, hg0, hgg0⟩ := Wm.op_message (hval 0 87 v0 rfl rfl) h0
  have k1 := h1
  have lt1 : ∀ x ∈ p1, x.block < W.heap.size := by obtain ⟨m, hm⟩ := k1; exact DataW.trod_lt m _ _ _ hm
  obtain ⟨g1, n1, L1, m1, o1, M1, s1, N1, x1, y1, A1, c1, l1, rfl, hn1, hL1, hm1, ho1, hM1, hs1, hN1, hx1, hy1, hb1, hg1, hgg1⟩ := Wm.op_message (hval 1 87 v1 rfl rfl) h1
  clear hA0 hval0
  refine (Wm.wireTells_walk g0 n0 L0 m0 o0 M0 s0 N0 x0 y0 A0 c0 l0 g1 n1 L1 m1 o1 M1 s1 N1 x1 y1 A1 c1 l1 _ hn0 hL0 hm0 ho0 hM0 hs0 hN0 hb0 hn1 hL1 hm1 ho1 hM1 hs1 hN1 hb1).mono fun e W' ⟨he, bel⟩ => ?_
  subst he
  exact ⟨_, rfl, _, _, _, [], _, [], hW', trodAll_mk1 (shut_bool Try.underlying4 _), (trodAll_cons_mk (Below.trod laidOut (by kernel_rfl) (of_decide_eq_true (by kernel_rfl)) k0 bel lt0) (trodAll_cons_mk (Below.trod laidOut (by kernel_rfl) (of_decide_eq_true (by kernel_rfl)) k1 bel lt1) trodAll_mk0)), rfl, bel.frame _, fun h => by cases h⟩
set_option maxHeartbeats 100000000 in
theorem facts : joinedFacts Try.pinned.checked.prog 17 Try.f17 Rows.wireTellsSpec Rows.wireTellsRow = true := by
  show joinedFacts Try.prog 17 Try.f17 Rows.wireTellsSpec Rows.wireTellsRow = true
  unfold joinedFacts
  simp only [Bool.and_eq_true]
  repeat' apply And.intro
  all_goals as_aux_lemma => kernel_rfl
theorem over : Rows.wireTellsRow.holds Try.pinned (OpenSpec.ofChange Rows.wireTellsSpec) :=
  OpenClaim.holds_of_wide 17 Try.f17 rfl rfl rfl rfl rfl rfl rfl ⟨rfl, rfl, rfl, rfl, rfl⟩ rfl rfl rfl rfl rfl (by kernel_rfl) Try.func17 facts
    (of_decide_eq_true (by kernel_rfl)) (by unfold Func.isWrapper; first | (rw [if_pos (by decide +kernel)]; kernel_rfl) | (rw [if_neg (by decide +kernel)]; exact ⟨rfl, rfl⟩))
    (fun os started H enc _ => lifted os started H enc)
theorem proved : Rows.WireTellsSaid := over
#print axioms proved
end Go.Proofs.Ytnehbhhjdjiieaa.wireTells
namespace Go.Proofs.Ytnehbhhjdjiieaa
/-- The row, under a short name, for the claim. -/
theorem wireTells_holds : Rows.WireTellsSaid := wireTells.proved
end Go.Proofs.Ytnehbhhjdjiieaa
