/- Package flow: the other way, which is ahead, the talk. -/
import Derived.Test.YtkfjobanbnokoaaVb
import Derived.Test.YtkfjobanbnokoaaVm
import Derived.Test.YtkfjobanbnokoaaRg
set_option linter.unusedSimpArgs false
set_option linter.unusedVariables false
set_option linter.unusedSectionVars false
set_option maxRecDepth 100000
namespace Go.Proofs.Ytkfjobanbnokoaa.Fw
open Go.RowKit Go.Proofs.YtkfjobanbnokoaaW.PrintWords Go.Proofs.Ytkfjobanbnokoaa.Bs Go.Proofs.Ytkfjobanbnokoaa.Gm

theorem flowC_list (f : Flow) : (flowC f).toList = (iV f.v :: iV f.pr :: (adrC f.s).toList) ++ ((adrC f.d).toList ++ [iV f.sp, iV f.dp]) := by simp [flowC]
theorem adr_len (a : Adr) : (adrC a).toList.length = 17 := by simp [adrC_size]
theorem at_list (f : Flow) (i : Nat) : (flowC f)[i]? = (flowC f).toList[i]? := by simp
theorem flow_v (f : Flow) : (flowC f)[0]? = some (iV f.v) := by rw [at_list, flowC_list]; rfl
theorem flow_pr (f : Flow) : (flowC f)[1]? = some (iV f.pr) := by rw [at_list, flowC_list]; rfl
theorem flow_sp (f : Flow) : (flowC f)[36]? = some (iV f.sp) := by
  rw [at_list, flowC_list, List.getElem?_append_right (by simp [adrC_size]), List.getElem?_append_right (by simp [adrC_size])]
  simp [adrC_size]
theorem flow_dp (f : Flow) : (flowC f)[37]? = some (iV f.dp) := by
  rw [at_list, flowC_list, List.getElem?_append_right (by simp [adrC_size]), List.getElem?_append_right (by simp [adrC_size])]
  simp [adrC_size]
theorem flow_s (f : Flow) (j : Nat) (v : Value) (h : (adrC f.s).toList[j]? = some v) : (flowC f)[2 + j]? = some v := by
  obtain ⟨hj, _⟩ := List.getElem?_eq_some_iff.1 h
  rw [at_list, flowC_list, List.getElem?_append_left (by simp at hj ⊢; omega), Nat.add_comm 2 j]
  exact h
theorem flow_d (f : Flow) (j : Nat) (v : Value) (h : (adrC f.d).toList[j]? = some v) : (flowC f)[19 + j]? = some v := by
  obtain ⟨hj, _⟩ := List.getElem?_eq_some_iff.1 h
  have e : (iV f.v :: iV f.pr :: (adrC f.s).toList).length = 19 := by simp [adrC_size]
  rw [at_list, flowC_list, List.getElem?_append_right (by rw [e]; omega), e, Nat.add_sub_cancel_left, List.getElem?_append_left hj]
  exact h
theorem info_adr (a : Adr) : (Try.prog.info? 26).map (·.size) = some (adrC a).size := (cellsAdr a).1
theorem part_s (f : Flow) : PartOf 26 (flowC f) 2 (adrC f.s) := ⟨flow_s f, info_adr _, by kernel_rfl⟩
theorem part_d (f : Flow) : PartOf 26 (flowC f) 19 (adrC f.d) := ⟨flow_d f, info_adr _, by kernel_rfl⟩
theorem to_s (f : Flow) (a : Adr) : PartTo 26 (flowC f) 2 (adrC a) (flowC ⟨f.v, f.pr, a, f.d, f.sp, f.dp⟩) := by
  refine ⟨by rw [flowC_size, adrC_size]; decide, ?_, cellsAdr a⟩
  apply Array.ext'
  simp only [flowC_list, adrC_size]
  rw [List.drop_append]
  simp [adrC_size]
theorem to_d (f : Flow) (a : Adr) : PartTo 26 (flowC f) 19 (adrC a) (flowC ⟨f.v, f.pr, f.s, a, f.sp, f.dp⟩) := by
  refine ⟨by rw [flowC_size, adrC_size]; decide, ?_, cellsAdr a⟩
  have e : (iV f.v :: iV f.pr :: (adrC f.s).toList).length = 19 := by simp [adrC_size]
  apply Array.ext'
  simp only [flowC_list, adrC_size]
  rw [List.take_append_of_le_length (by rw [e]; decide), List.take_of_length_le (by rw [e]; decide), List.drop_append, List.drop_of_length_le (by rw [e]; decide), e, List.drop_append, List.drop_of_length_le (by rw [adr_len]; decide), adr_len]
  simp
theorem set_sp (f : Flow) (x : Int64) : (flowC f).setIfInBounds 36 (iV x) = flowC ⟨f.v, f.pr, f.s, f.d, x, f.dp⟩ := by
  apply Array.ext'
  rw [Array.toList_setIfInBounds, flowC_list, flowC_list, List.set_append_right _ _ (by simp [adrC_size]), List.set_append_right _ _ (by simp [adrC_size])]
  simp [adrC_size]
theorem set_dp (f : Flow) (x : Int64) : (flowC f).setIfInBounds 37 (iV x) = flowC ⟨f.v, f.pr, f.s, f.d, f.sp, x⟩ := by
  apply Array.ext'
  rw [Array.toList_setIfInBounds, flowC_list, flowC_list, List.set_append_right _ _ (by simp [adrC_size]), List.set_append_right _ _ (by simp [adrC_size])]
  simp [adrC_size]
def zB : B16 := ⟨Array.replicate 16 0, by simp⟩
def zA : Adr := ⟨0, zB⟩
def zF : Flow := ⟨0, 0, zA, zA, 0, 0⟩
theorem zeroFlow : ZeroOf 28 (flowC zF) := ⟨fun W => zero_of (by kernel_rfl) W, cellsFlow zF⟩
theorem zeroRFlow : ZeroOf 32 (flowC zF) := ⟨fun W => zero_of (by kernel_rfl) W, cellsRFlow zF⟩
section
variable {c0 c1 c2 c3 c4 sc dc : Array Value} {x y : Int}
theorem other_walk (HC : Hid (Cells 28 c0)) (HC2 : Hid (Cells 28 c4)) (PT1 : Hid (PartOf 26 c0 2 sc)) (PT2 : Hid (PartOf 26 c0 19 dc)) (CV1 : Hid (c0[36]? = some (.int .i64 x))) (CV2 : Hid (c0[37]? = some (.int .i64 y)))
    (SP1 : Hid (PartTo 26 c0 2 dc c1)) (SP2 : Hid (PartTo 26 c1 19 sc c2)) (CV3 : Hid (c2[36]? = some (.int .i64 x))) (PU1 : Hid (c2.setIfInBounds 36 (.int .i64 y) = c3)) (CV4 : Hid (c3[37]? = some (.int .i64 y))) (PU2 : Hid (c3.setIfInBounds 37 (.int .i64 x) = c4)) (w0 : World) :
    Calls Try.prog 11 #[.agg c0] w0 fun e w' => e = .returned (.agg c4) ∧ Below w0.heap.size w0 w' := by
  have AL1 := Lib.hid zeroFlow
  have HM := Lib.hid (Mem.start w0)
  have HB := HM.out.below
  go_enter Try.func11, Try.ntmps11
  go_wp2_with (first | refine m_rd ?_ | (refine m_wr ?_; clear HM HB; intro w b HM HB; try clear b) | fail)
  apply m_ret_c
  next => exact rfl
  next => exact rfl
  next => exact rfl
  next => exact HM
  next => (first | ((repeat (first | with_reducible exact List.Mem.head _ | with_reducible apply List.Mem.tail)); done) | ((repeat (first | exact List.Mem.head _ | apply List.Mem.tail)); done))
  next => exact Try.underlying28
  next => rfl
  exact ⟨rfl, HB⟩
end
theorem other_any (f : Flow) (w0 : World) : Calls Try.prog 11 #[.agg (flowC f)] w0 fun e w' => e = .returned (.agg (flowC (otherF f))) ∧ Below w0.heap.size w0 w' :=
  other_walk (Lib.hid (cellsFlow f)) (Lib.hid (cellsFlow (otherF f))) (Lib.hid (part_s f)) (Lib.hid (part_d f)) (Lib.hid (flow_sp f)) (Lib.hid (flow_dp f)) (Lib.hid (to_s f f.d)) (Lib.hid (to_d ⟨f.v, f.pr, f.d, f.d, f.sp, f.dp⟩ f.s)) (Lib.hid (flow_sp ⟨f.v, f.pr, f.d, f.s, f.sp, f.dp⟩))
    (Lib.hid (set_sp ⟨f.v, f.pr, f.d, f.s, f.sp, f.dp⟩ f.dp)) (Lib.hid (flow_dp ⟨f.v, f.pr, f.d, f.s, f.dp, f.dp⟩)) (Lib.hid (set_dp ⟨f.v, f.pr, f.d, f.s, f.dp, f.dp⟩ f.sp)) w0
end Go.Proofs.Ytkfjobanbnokoaa.Fw
