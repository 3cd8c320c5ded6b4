/- Layer 54: the document's Less and Talk. -/
import Derived.Test.YtkfjobanbnokoaaVi
set_option linter.unusedSimpArgs false
set_option linter.unusedVariables false
set_option linter.unusedSectionVars false
set_option maxRecDepth 100000
namespace Go.Proofs.Ytkfjobanbnokoaa.Fw
open Go.RowKit Go.Proofs.YtkfjobanbnokoaaW.PrintWords Go.Proofs.Ytkfjobanbnokoaa.Bs Go.Proofs.Ytkfjobanbnokoaa.Gm

section
variable {cf cg sf sg df dg : Array Value} {vf vg pf pg xf xg yf yg : Int} {b1 b2 b3 b4 b5 ls ld : Bool}
set_option maxHeartbeats 4000000 in
theorem refLess_walk (HF : Hid (Cells 32 cf)) (HG : Hid (Cells 32 cg)) (CV1 : Hid (cf[0]? = some (.int .i64 vf))) (CV2 : Hid (cg[0]? = some (.int .i64 vg))) (CV3 : Hid (cf[1]? = some (.int .i64 pf))) (CV4 : Hid (cg[1]? = some (.int .i64 pg)))
    (PT1 : Hid (PartOf 26 cf 2 sf)) (PT2 : Hid (PartOf 26 cg 2 sg)) (PT3 : Hid (PartOf 26 cf 19 df)) (PT4 : Hid (PartOf 26 cg 19 dg))
    (CV5 : Hid (cf[36]? = some (.int .i64 xf))) (CV6 : Hid (cg[36]? = some (.int .i64 xg))) (CV7 : Hid (cf[37]? = some (.int .i64 yf))) (CV8 : Hid (cg[37]? = some (.int .i64 yg)))
    (e1 : (vf != vg) = b1) (e2 : (pf != pg) = b2) (EQ1 : Hid (EqlOf 26 sf sg (!b3))) (EQ2 : Hid (EqlOf 26 df dg (!b4))) (e5 : (xf != xg) = b5)
    (Q3 : Hid (∀ w0, Calls Try.prog 36 #[.agg sf, .agg sg] w0 fun e w' => e = .returned (.bool ls) ∧ Below w0.heap.size w0 w')) (Q4 : Hid (∀ w0, Calls Try.prog 36 #[.agg df, .agg dg] w0 fun e w' => e = .returned (.bool ld) ∧ Below w0.heap.size w0 w')) (w0 : World) :
    Calls Try.prog 17 #[.agg cf, .agg cg] w0 fun e w' => e = .returned (.bool (if b1 = true then decide (vf < vg) else if b2 = true then decide (pf < pg) else if b3 = true then ls else if b4 = true then ld else if b5 = true then decide (xf < xg) else decide (yf < yg))) ∧ Below w0.heap.size w0 w' := by
  have HM := Lib.hid (Mem.start w0)
  have HB := HM.out.below
  cases b1
  · rw [if_neg (by decide)]
    cases b2
    · rw [if_neg (by decide)]
      cases b3
      · rw [if_neg (by decide)]
        cases b4
        · rw [if_neg (by decide)]
          cases b5
          all_goals
            first | rw [if_neg (by decide)] | rw [if_pos rfl]
            go_enter Try.func17, Try.ntmps17
            go_wp2_with (first | refine m_rd ?_ | (refine m_wr ?_; clear HM HB; intro w b HM HB; try clear b) | fail)
            go_ret
            exact ⟨rfl, HB⟩
        · rw [if_pos rfl]
          go_enter Try.func17, Try.ntmps17
          go_wp2_with (first | refine m_rd ?_ | (refine m_wr ?_; clear HM HB; intro w b HM HB; try clear b) | fail)
          refine (Q4.out w).mono ?_
          rintro e w ⟨rfl, hb⟩
          replace HM := Lib.hid (HM.out.call hb)
          replace HB := HM.out.below
          clear hb
          go_wp2_with (first | refine m_rd ?_ | (refine m_wr ?_; clear HM HB; intro w b HM HB; try clear b) | fail)
          go_ret
          exact ⟨rfl, HB⟩
      · rw [if_pos rfl]
        go_enter Try.func17, Try.ntmps17
        go_wp2_with (first | refine m_rd ?_ | (refine m_wr ?_; clear HM HB; intro w b HM HB; try clear b) | fail)
        refine (Q3.out w).mono ?_
        rintro e w ⟨rfl, hb⟩
        replace HM := Lib.hid (HM.out.call hb)
        replace HB := HM.out.below
        clear hb
        go_wp2_with (first | refine m_rd ?_ | (refine m_wr ?_; clear HM HB; intro w b HM HB; try clear b) | fail)
        go_ret
        exact ⟨rfl, HB⟩
    · rw [if_pos rfl]
      go_enter Try.func17, Try.ntmps17
      go_wp2_with (first | refine m_rd ?_ | (refine m_wr ?_; clear HM HB; intro w b HM HB; try clear b) | fail)
      go_ret
      exact ⟨rfl, HB⟩
  · rw [if_pos rfl]
    go_enter Try.func17, Try.ntmps17
    go_wp2_with (first | refine m_rd ?_ | (refine m_wr ?_; clear HM HB; intro w b HM HB; try clear b) | fail)
    go_ret
    exact ⟨rfl, HB⟩
end
theorem bne_i (a b : Int64) : (a.toInt != b.toInt) = decide (a ≠ b) := by
  rw [Bool.eq_iff_iff]
  simp [Int64.toInt_inj]
theorem refLess_any (f g : Flow) (w0 : World) : Calls Try.prog 17 #[.agg (flowC f), .agg (flowC g)] w0 fun e w' => e = .returned (.bool (lessF f g)) ∧ Below w0.heap.size w0 w' := by
  have h := refLess_walk (b3 := decide (f.s ≠ g.s)) (b4 := decide (f.d ≠ g.d)) (Lib.hid (cellsRFlow f)) (Lib.hid (cellsRFlow g)) (Lib.hid (flow_v f)) (Lib.hid (flow_v g)) (Lib.hid (flow_pr f)) (Lib.hid (flow_pr g)) (Lib.hid (part_s f)) (Lib.hid (part_s g)) (Lib.hid (part_d f)) (Lib.hid (part_d g)) (Lib.hid (flow_sp f)) (Lib.hid (flow_sp g)) (Lib.hid (flow_dp f)) (Lib.hid (flow_dp g))
    (bne_i f.v g.v) (bne_i f.pr g.pr) (Lib.hid (by have := eq_adr f.s g.s; simpa using this)) (Lib.hid (by have := eq_adr f.d g.d; simpa using this)) (bne_i f.sp g.sp) (Lib.hid fun w => refAdrLess_any f.s g.s w) (Lib.hid fun w => refAdrLess_any f.d g.d w) w0
  rw [lessF_is]
  simpa only [decide_eq_true_eq] using h
set_option maxHeartbeats 2000000 in
theorem refTalk_any (f : Flow) (w0 : World) : Calls Try.prog 14 #[.agg (flowC f)] w0 fun e w' => e = .returned (.agg (flowC (talkF f))) ∧ Below w0.heap.size w0 w' := by
  have HO := Lib.hid fun w => refOther_any f w
  have HL := Lib.hid fun w => refLess_any (otherF f) f w
  have HF := Lib.hid (cellsRFlow f)
  have HG := Lib.hid (cellsRFlow (otherF f))
  have AL1 := Lib.hid zeroRFlow
  unfold talkF
  generalize otherF f = g at *
  generalize lessF g f = lb at *
  generalize flowC zF = cz at *
  cases lb
  all_goals
    simp only [Bool.false_eq_true, if_true, if_false]
    generalize flowC f = cf at *
    generalize flowC g = cg at *
    clear f g
    have HM := Lib.hid (Mem.start w0)
    have HB := HM.out.below
    go_enter Try.func14, Try.ntmps14
    go_wp2_with (first | refine m_rd ?_ | (refine m_wr ?_; clear HM HB; intro w b HM HB; try clear b) | fail)
    try simp only [Act.put, List.setIfInBounds_toArray, List.set_cons_zero, List.set_cons_succ]
    refine wp_region_held_drew (S := fun w' => Mem w0 w' [Ent.blk _ cf 32]) (by kernel_rfl) (HM.out.drew.keep (by (first | ((repeat (first | with_reducible exact List.Mem.head _ | with_reducible apply List.Mem.tail)); done) | ((repeat (first | exact List.Mem.head _ | apply List.Mem.tail)); done)))) (fun hS => ?_)
    replace HM := Lib.hid HM.out.drew
    replace HB := HM.out.below
    refine tkv 0 3 _ rfl (yields_own rfl rfl (fun _ h => h) (by (first | ((repeat (first | with_reducible exact List.Mem.head _ | with_reducible apply List.Mem.tail)); done) | ((repeat (first | exact List.Mem.head _ | apply List.Mem.tail)); done))) Try.underlying32 rfl HF.out.1 (by kernel_rfl)) ?_
    refine tkv 2 5 _ rfl (yields_own rfl rfl (fun _ h => h) (by (first | ((repeat (first | with_reducible exact List.Mem.head _ | with_reducible apply List.Mem.tail)); done) | ((repeat (first | exact List.Mem.head _ | apply List.Mem.tail)); done))) Try.underlying32 rfl HF.out.1 (by kernel_rfl)) ?_
    refine rone 1 rfl fun K' hK => ?_
    go_simp
    refine (HO.out _).mono ?_
    rintro e w ⟨rfl, hb⟩
    replace HM := Lib.hid (HM.out.call hb)
    replace HB := HM.out.below
    clear hb
    refine hK.out _ _ (HM.out.keep (by (first | ((repeat (first | with_reducible exact List.Mem.head _ | with_reducible apply List.Mem.tail)); done) | ((repeat (first | exact List.Mem.head _ | apply List.Mem.tail)); done)))) (fun hS2 => ?_)
    clear hS hK
    have hS := hS2
    clear hS2
    try simp only [Act.put, List.setIfInBounds_toArray, List.set_cons_zero, List.set_cons_succ]
    refine rone 3 rfl fun K' hK => ?_
    go_simp
    refine (HL.out _).mono ?_
    rintro e w ⟨rfl, hb⟩
    replace HM := Lib.hid (HM.out.call hb)
    replace HB := HM.out.below
    clear hb
    refine hK.out _ _ (HM.out.keep (by (first | ((repeat (first | with_reducible exact List.Mem.head _ | with_reducible apply List.Mem.tail)); done) | ((repeat (first | exact List.Mem.head _ | apply List.Mem.tail)); done)))) (fun hS2 => ?_)
    clear hS hK
    have hS := hS2
    clear hS2
    try simp only [Act.put, List.setIfInBounds_toArray, List.set_cons_zero, List.set_cons_succ]
    refine wpAnyH_done (by kernel_rfl) ?_ _
    clear hS
    go_wp2_with (first | refine m_rd ?_ | (refine m_wr ?_; clear HM HB; intro w b HM HB; try clear b) | fail)
    try (refine (HO.out _).mono ?_)
    try (rintro e w ⟨rfl, hb⟩; replace HM := Lib.hid (HM.out.call hb); replace HB := HM.out.below; clear hb)
    go_wp2_with (first | refine m_rd ?_ | (refine m_wr ?_; clear HM HB; intro w b HM HB; try clear b) | fail)
    apply m_ret_c
    next => exact rfl
    next => exact rfl
    next => exact rfl
    next => exact HM
    next => (first | ((repeat (first | with_reducible exact List.Mem.head _ | with_reducible apply List.Mem.tail)); done) | ((repeat (first | exact List.Mem.head _ | apply List.Mem.tail)); done))
    next => exact Try.underlying32
    next => rfl
    exact ⟨rfl, HB⟩
end Go.Proofs.Ytkfjobanbnokoaa.Fw
