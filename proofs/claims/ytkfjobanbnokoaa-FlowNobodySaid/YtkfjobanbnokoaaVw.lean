/- Layer 54: what a table's functions do without a table; FlowNobody's walk. -/
import Derived.Test.YtkfjobanbnokoaaVv
set_option linter.unusedSimpArgs false
set_option linter.unusedVariables false
set_option linter.unusedSectionVars false
set_option maxRecDepth 100000
namespace Go.Proofs.Ytkfjobanbnokoaa.Fw
open Go.RowKit Go.Proofs.YtkfjobanbnokoaaW.PrintWords Go.Proofs.Ytkfjobanbnokoaa.Bs Go.Proofs.Ytkfjobanbnokoaa.Gm

theorem built_zT : Built 57 #[] (.agg (tallyC zT)) := fun W => by kernel_rfl
theorem eql_zT : EqlOf 57 (tallyC zT) (tallyC zT) true := fun W => by kernel_rfl
theorem note_nil (w : World) (v : Value) : Calls Try.prog 20 #[.pointer none, v] w fun e w' => e = .returned (.int .i64 2) ∧ w = w' := by
  go_enter Try.func20, Try.ntmps20
  go_wp2
  go_ret
  exact ⟨rfl, rfl⟩
theorem all_nil (w : World) : Calls Try.prog 22 #[.pointer none] w fun e w' => e = .returned (.slice none 0 0) ∧ w = w' := by
  go_enter Try.func22, Try.ntmps22
  go_wp2
  go_ret
  exact ⟨rfl, rfl⟩
theorem get_nil (f : Flow) (w0 : World) : Calls Try.prog 25 #[.pointer none, .agg (flowC f)] w0 fun e w' => e = .returned (.tuple #[.agg (tallyC zT), .bool false]) ∧ Below w0.heap.size w0 w' := by
  have HF := Lib.hid (cellsFlow f)
  have HZ := Lib.hid (cellsTal zT)
  have AL1 := Lib.hid zeroTal
  have BH1 := Lib.hid built_zT
  generalize tallyC zT = zt at *
  generalize flowC f = cf at *
  have HM := Lib.hid (Mem.start w0)
  have HB := HM.out.below
  go_enter Try.func25, Try.ntmps25
  go_wp2_with (first | (refine m_rd ?_; (try simp only [Act.put, List.setIfInBounds_toArray, List.set_cons_zero, List.set_cons_succ])) | (refine m_wr ?_; clear HM HB; intro w b HM HB; (try simp only [Act.put, List.setIfInBounds_toArray, List.set_cons_zero, List.set_cons_succ]); try clear b) | fail)
  apply m_ret_c1
  next => exact rfl
  next => exact rfl
  next => exact rfl
  next => exact HM
  next => (first | ((repeat (first | with_reducible exact List.Mem.head _ | with_reducible apply List.Mem.tail)); done) | ((repeat (first | exact List.Mem.head _ | apply List.Mem.tail)); done))
  next => exact Try.underlying57
  next => rfl
  exact ⟨rfl, HB⟩
theorem ins_nil (fv : Value) (w : World) : Calls Try.prog 77 #[.slice none 0 0, .int .i64 0, .int .i64 0, fv] w fun e w' => e = .returned (.tuple #[]) ∧ w = w' := by
  go_enter Try.func77, Try.ntmps77
  go_wp2
  go_loopw [8] (fun v8 wr => v8 = .int .i64 1 ∧ w = wr) (fun _ _ => 0)
  case atStart => exact ⟨rfl, rfl⟩
  case round =>
    obtain ⟨rfl, rfl⟩ := hrel
    go_wp2
    go_end0
    exact ⟨rfl, rfl⟩
theorem stable_nil (fv : Value) (w : World) : Calls Try.prog 57 #[.slice none 0 0, .int .i64 0, fv] w fun e w' => e = .returned (.tuple #[]) ∧ w = w' := by
  go_enter Try.func57, Try.ntmps57
  go_wp2_with fail
  go_loopw [7, 8] (fun v7 v8 wr => v7 = .int .i64 0 ∧ v8 = .int .i64 20 ∧ w = wr) (fun _ _ _ => 0)
  case atStart => exact ⟨rfl, rfl, rfl⟩
  case round =>
    obtain ⟨rfl, rfl, rfl⟩ := hrel
    go_wp2_with fail
    refine (ins_nil _ _).mono ?_
    rintro e w' ⟨rfl, rfl⟩
    go_wp2_with fail
    go_loopw [6] (fun v6 wr => v6 = .int .i64 20 ∧ w = wr) (fun _ _ => 0)
    case atStart => exact ⟨rfl, rfl⟩
    case round =>
      obtain ⟨rfl, rfl⟩ := hrel
      go_wp2_with fail
      go_end0
      exact ⟨rfl, rfl⟩
theorem sortStable_nil (fv : Value) (w : World) : Calls Try.prog 40 #[.slice none 0 0, fv] w fun e w' => e = .returned (.tuple #[]) ∧ w = w' := by
  go_enter Try.func40, Try.ntmps40
  go_wp2_with fail
  refine (stable_nil _ _).mono ?_
  rintro e w' ⟨rfl, rfl⟩
  go_wp2_with fail
  go_end0
  exact ⟨rfl, rfl⟩
theorem top_nil (n : Int) (w : World) : Calls Try.prog 23 #[.pointer none, .int .i64 n] w fun e w' => e = .returned (.slice none 0 0) ∧ w = w' := by
  have e : (min (max n 0) 0).toNat = 0 := by omega
  have HE := Lib.hid e
  clear e
  go_enter Try.func23, Try.ntmps23
  go_wp2_with fail
  refine (all_nil _).mono ?_
  rintro e w' ⟨rfl, rfl⟩
  go_wp2_with fail
  refine (sortStable_nil _ _).mono ?_
  rintro e w' ⟨rfl, rfl⟩
  go_wp2_with fail
  go_ret
  refine ⟨?_, rfl⟩
  show Ending.returned (.slice none (min (max n 0) 0).toNat 0) = _
  rw [HE.out]
set_option maxHeartbeats 2000000 in
theorem nobody_law {A : Option Addr} {c n : Nat} {cf : Array Value} {m : Int} (w0 : World) (h3 : ¬ (3000 : Int) < n) (HF : Hid (Cells 28 cf)) (HG : Hid (∀ w, Calls Try.prog 25 #[.pointer none, .agg cf] w fun e w' => e = .returned (.tuple #[.agg (tallyC zT), .bool false]) ∧ Below w.heap.size w w')) :
    Calls Try.prog 6 #[.slice A n c, .agg cf, .int .i64 m] w0 fun e w' => e = .returned (.bool true) ∧ Below w0.heap.size w0 w' := by
  have HZ := Lib.hid (cellsTal zT)
  have AL1 := Lib.hid zeroTal
  have BH1 := Lib.hid built_zT
  have EQ1 := Lib.hid eql_zT
  generalize tallyC zT = zt at *
  have HM := Lib.hid (Mem.start w0)
  have HB := HM.out.below
  go_enter Try.func6, Try.ntmps6
  go_wp2_with (first | (refine m_rd ?_; (try simp only [Act.put, List.setIfInBounds_toArray, List.set_cons_zero, List.set_cons_succ])) | (refine m_wr ?_; clear HM HB; intro w b HM HB; (try simp only [Act.put, List.setIfInBounds_toArray, List.set_cons_zero, List.set_cons_succ]); try clear b) | fail)
  refine (HG.out _).mono ?_
  rintro e w ⟨rfl, hb⟩
  replace HM := Lib.hid (HM.out.call hb)
  replace HB := HM.out.below
  clear hb
  go_wp2_with (first | (refine m_rd ?_; (try simp only [Act.put, List.setIfInBounds_toArray, List.set_cons_zero, List.set_cons_succ])) | (refine m_wr ?_; clear HM HB; intro w b HM HB; (try simp only [Act.put, List.setIfInBounds_toArray, List.set_cons_zero, List.set_cons_succ]); try clear b) | fail)
  refine (note_nil _ _).mono ?_
  rintro e w' ⟨rfl, rfl⟩
  go_wp2_with (first | (refine m_rd ?_; (try simp only [Act.put, List.setIfInBounds_toArray, List.set_cons_zero, List.set_cons_succ])) | (refine m_wr ?_; clear HM HB; intro w b HM HB; (try simp only [Act.put, List.setIfInBounds_toArray, List.set_cons_zero, List.set_cons_succ]); try clear b) | fail)
  refine (all_nil _).mono ?_
  rintro e w' ⟨rfl, rfl⟩
  go_wp2_with (first | (refine m_rd ?_; (try simp only [Act.put, List.setIfInBounds_toArray, List.set_cons_zero, List.set_cons_succ])) | (refine m_wr ?_; clear HM HB; intro w b HM HB; (try simp only [Act.put, List.setIfInBounds_toArray, List.set_cons_zero, List.set_cons_succ]); try clear b) | fail)
  refine (top_nil _ _).mono ?_
  rintro e w' ⟨rfl, rfl⟩
  go_wp2_with (first | (refine m_rd ?_; (try simp only [Act.put, List.setIfInBounds_toArray, List.set_cons_zero, List.set_cons_succ])) | (refine m_wr ?_; clear HM HB; intro w b HM HB; (try simp only [Act.put, List.setIfInBounds_toArray, List.set_cons_zero, List.set_cons_succ]); try clear b) | fail)
  refine (alive_any _).mono ?_
  rintro e w ⟨rfl, hb⟩
  replace HM := Lib.hid (HM.out.call hb)
  replace HB := HM.out.below
  clear hb
  go_wp2_with fail
  go_ret
  exact ⟨rfl, HB⟩
theorem flowNobody_walk (A : Option Addr) (c : Nat) (l : List UInt8) (f : Flow) (m : Int) (w0 : World) :
    Calls Try.prog 6 #[.slice A l.length c, .agg (flowC f), .int .i64 m] w0 fun e w' => e = .returned (.bool true) ∧ Below w0.heap.size w0 w' := by
  by_cases h3 : (3000 : Int) < (l.length : Nat)
  · have HF := Lib.hid (cellsFlow f)
    generalize flowC f = cf at *
    have HM := Lib.hid (Mem.start w0)
    have HB := HM.out.below
    go_enter Try.func6, Try.ntmps6
    go_wp2_with (first | (refine m_rd ?_; (try simp only [Act.put, List.setIfInBounds_toArray, List.set_cons_zero, List.set_cons_succ])) | (refine m_wr ?_; clear HM HB; intro w b HM HB; (try simp only [Act.put, List.setIfInBounds_toArray, List.set_cons_zero, List.set_cons_succ]); try clear b) | fail)
    refine (alive_any _).mono ?_
    rintro e w ⟨rfl, hb⟩
    replace HM := Lib.hid (HM.out.call hb)
    replace HB := HM.out.below
    clear hb
    go_wp2_with fail
    go_ret
    exact ⟨rfl, HB⟩
  · exact nobody_law w0 h3 (Lib.hid (cellsFlow f)) (Lib.hid (get_nil f))
end Go.Proofs.Ytkfjobanbnokoaa.Fw
