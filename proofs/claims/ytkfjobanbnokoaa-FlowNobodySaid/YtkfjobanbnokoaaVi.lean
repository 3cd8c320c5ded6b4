/- Layer 54: the document's Other, Less, Talk; a flow as the document's. -/
import Derived.Test.YtkfjobanbnokoaaVh
set_option linter.unusedSimpArgs false
set_option linter.unusedVariables false
set_option linter.unusedSectionVars false
set_option maxRecDepth 100000
namespace Go.Proofs.Ytkfjobanbnokoaa.Fw
open Go.RowKit Go.Proofs.YtkfjobanbnokoaaW.PrintWords Go.Proofs.Ytkfjobanbnokoaa.Bs Go.Proofs.Ytkfjobanbnokoaa.Gm
open Go.Proofs.Ytkfjobanbnokoaa.Av (AV)

theorem adrC_AV (a : Adr) : adrC a = AV [a.v.toInt] a.b.toList := by
  apply Array.ext'
  unfold adrC
  rw [Array.toList_append, Av.AV_list]
  unfold b16C encs
  rw [Array.toList_map]
  rfl
theorem built_6 (v pr : Int) {x y : List UInt8} (a b sp dp : Int) (hx : x.length = 16) (hy : y.length = 16) : Built 32 #[(0, .int .i64 v), (1, .int .i64 pr), (2, .agg (AV [a] x)), (3, .agg (AV [b] y)), (4, .int .i64 sp), (5, .int .i64 dp)] (.agg (FV v pr (AV [a] x) (AV [b] y) sp dp)) := by
  obtain ⟨a0, a1, a2, a3, a4, a5, a6, a7, a8, a9, a10, a11, a12, a13, a14, a15, rfl⟩ := list16 hx
  obtain ⟨b0, b1, b2, b3, b4, b5, b6, b7, b8, b9, b10, b11, b12, b13, b14, b15, rfl⟩ := list16 hy
  intro W
  kernel_rfl
theorem flow_FV (f : Flow) : flowC f = FV f.v.toInt f.pr.toInt (adrC f.s) (adrC f.d) f.sp.toInt f.dp.toInt := rfl
theorem built_ref (f : Flow) : Built 32 #[(0, .int .i64 f.v.toInt), (1, .int .i64 f.pr.toInt), (2, .agg (adrC f.s)), (3, .agg (adrC f.d)), (4, .int .i64 f.sp.toInt), (5, .int .i64 f.dp.toInt)] (.agg (flowC f)) := by
  rw [flow_FV, adrC_AV, adrC_AV]
  exact built_6 _ _ _ _ _ _ (by simp) (by simp)
section
variable {c0 c4 sc dc : Array Value} {v pr x y : Int}
theorem refOther_walk (HC : Hid (Cells 32 c0)) (HC2 : Hid (Cells 32 c4)) (CV1 : Hid (c0[0]? = some (.int .i64 v))) (CV2 : Hid (c0[1]? = some (.int .i64 pr))) (PT1 : Hid (PartOf 26 c0 2 sc)) (PT2 : Hid (PartOf 26 c0 19 dc)) (CV3 : Hid (c0[36]? = some (.int .i64 x))) (CV4 : Hid (c0[37]? = some (.int .i64 y)))
    (BH1 : Hid (Built 32 #[(0, .int .i64 v), (1, .int .i64 pr), (2, .agg dc), (3, .agg sc), (4, .int .i64 y), (5, .int .i64 x)] (.agg c4))) (w0 : World) :
    Calls Try.prog 12 #[.agg c0] w0 fun e w' => e = .returned (.agg c4) ∧ Below w0.heap.size w0 w' := by
  have AL1 := Lib.hid zeroRFlow
  have HM := Lib.hid (Mem.start w0)
  have HB := HM.out.below
  go_enter Try.func12, Try.ntmps12
  go_wp2_with (first | refine m_rd ?_ | (refine m_wr ?_; clear HM HB; intro w b HM HB; try clear b) | fail)
  apply m_ret_c
  next => exact rfl
  next => exact rfl
  next => exact rfl
  next => exact HM
  next => (first | ((repeat (first | with_reducible exact List.Mem.head _ | with_reducible apply List.Mem.tail)); done) | ((repeat (first | exact List.Mem.head _ | apply List.Mem.tail)); done))
  next => exact Try.underlying32
  next => rfl
  exact ⟨rfl, HB⟩
theorem plain_walk (HC : Hid (Cells 28 c0)) (HC2 : Hid (Cells 32 c0)) (CV1 : Hid (c0[0]? = some (.int .i64 v))) (CV2 : Hid (c0[1]? = some (.int .i64 pr))) (PT1 : Hid (PartOf 26 c0 2 sc)) (PT2 : Hid (PartOf 26 c0 19 dc)) (CV3 : Hid (c0[36]? = some (.int .i64 x))) (CV4 : Hid (c0[37]? = some (.int .i64 y)))
    (BH1 : Hid (Built 32 #[(0, .int .i64 v), (1, .int .i64 pr), (2, .agg sc), (3, .agg dc), (4, .int .i64 x), (5, .int .i64 y)] (.agg c0))) (w0 : World) :
    Calls Try.prog 10 #[.agg c0] w0 fun e w' => e = .returned (.agg c0) ∧ Below w0.heap.size w0 w' := by
  have AL1 := Lib.hid zeroRFlow
  have HM := Lib.hid (Mem.start w0)
  have HB := HM.out.below
  go_enter Try.func10, Try.ntmps10
  go_wp2_with (first | refine m_rd ?_ | (refine m_wr ?_; clear HM HB; intro w b HM HB; try clear b) | fail)
  apply m_ret_c
  next => exact rfl
  next => exact rfl
  next => exact rfl
  next => exact HM
  next => (first | ((repeat (first | with_reducible exact List.Mem.head _ | with_reducible apply List.Mem.tail)); done) | ((repeat (first | exact List.Mem.head _ | apply List.Mem.tail)); done))
  next => exact Try.underlying32
  next => rfl
  exact ⟨rfl, HB⟩
end
theorem refOther_any (f : Flow) (w0 : World) : Calls Try.prog 12 #[.agg (flowC f)] w0 fun e w' => e = .returned (.agg (flowC (otherF f))) ∧ Below w0.heap.size w0 w' :=
  refOther_walk (Lib.hid (cellsRFlow f)) (Lib.hid (cellsRFlow (otherF f))) (Lib.hid (flow_v f)) (Lib.hid (flow_pr f)) (Lib.hid (part_s f)) (Lib.hid (part_d f)) (Lib.hid (flow_sp f)) (Lib.hid (flow_dp f)) (Lib.hid (built_ref (otherF f))) w0
theorem plain_any (f : Flow) (w0 : World) : Calls Try.prog 10 #[.agg (flowC f)] w0 fun e w' => e = .returned (.agg (flowC f)) ∧ Below w0.heap.size w0 w' :=
  plain_walk (Lib.hid (cellsFlow f)) (Lib.hid (cellsRFlow f)) (Lib.hid (flow_v f)) (Lib.hid (flow_pr f)) (Lib.hid (part_s f)) (Lib.hid (part_d f)) (Lib.hid (flow_sp f)) (Lib.hid (flow_dp f)) (Lib.hid (built_ref f)) w0
set_option maxHeartbeats 4000000 in
theorem refAdrLess_any (x y : Adr) (w0 : World) : Calls Try.prog 36 #[.agg (adrC x), .agg (adrC y)] w0 fun e w' => e = .returned (.bool (lessA x y)) ∧ Below w0.heap.size w0 w' := by
  have CV1 := Lib.hid (adr_v x)
  have CV2 := Lib.hid (adr_v y)
  have CX := Lib.hid (cellsAdr x)
  have CY := Lib.hid (cellsAdr y)
  have hxy : x.v = y.v ↔ x.v.toInt = y.v.toInt := (Int64.toInt_inj).symm
  by_cases hv : x.v = y.v
  · have hne : (x.v.toInt != y.v.toInt) = false := by simp [hv]
    have hr : lessA x y = decide (cmpL (bytesL x.b.toList) (bytesL y.b.toList) < 0) := by rw [lessA_is, if_neg (by simpa using hv), cmp_bytes _ _ (by simp)]
    rw [hr]
    have HBX : Hid (∀ i, i < 16 → (adrC x)[1 + i]? = some (.int .u8 ((x.b.toList.getD i 0).toNat : Int))) := Lib.hid fun i hi => adr_b x i hi
    have HBY : Hid (∀ i, i < 16 → (adrC y)[1 + i]? = some (.int .u8 ((y.b.toList.getD i 0).toNat : Int))) := Lib.hid fun i hi => adr_b y i hi
    have HLX : Hid (x.b.toList.length = 16) := Lib.hid (by simp)
    have HLY : Hid (y.b.toList.length = 16) := Lib.hid (by simp)
    clear hr hv hxy
    generalize x.v.toInt = vx at *
    generalize y.v.toInt = vy at *
    generalize x.b.toList = lx at *
    generalize y.b.toList = ly at *
    generalize adrC x = cx at *
    generalize adrC y = cy at *
    clear x y
    have HM := Lib.hid (Mem.start w0)
    have HB := HM.out.below
    go_enter Try.func36, Try.ntmps36
    go_wp2_with (first | (refine m_wr ?_ HM (Wr.box rfl rfl CX.out) (wanted_none rfl); clear HM HB; intro w bx HM HB) | (refine m_wr ?_ HM (Wr.box rfl rfl CY.out) (wanted_none rfl); clear HM HB; intro w by_ HM HB) | refine m_rd ?_ | (refine m_wr ?_; clear HM HB; intro w b HM HB; try clear b) | fail)
    go_loopw [5] (fun v5 wr => ∃ i : Nat, i ≤ 16 ∧ v5 = .int .i64 i ∧ Hid (cmpL (bytesL lx) (bytesL ly) = cmpL (bytesL (lx.drop i)) (bytesL (ly.drop i))) ∧ HMem w0 wr [Ent.blk by_ cy 26, Ent.blk bx cx 26]) (fun v5 _ => 16 - (intOf v5).toNat)
    case atStart => exact ⟨0, Nat.zero_le _, rfl, Lib.hid rfl, HM⟩
    case round =>
      clear HM HB
      obtain ⟨i, hi, rfl, HO, HM⟩ := hrel
      have HB := HM.out.below
      by_cases hlt : i < 16
      · have hX := HBX.out i hlt
        have hY := HBY.out i hlt
        have hdx : lx.drop i = lx.getD i 0 :: lx.drop (i + 1) := by
          have hl : i < lx.length := by rw [HLX.out]; exact hlt
          rw [List.drop_eq_getElem_cons hl]
          simp [List.getD_eq_getElem?_getD, List.getElem?_eq_getElem hl]
        have hdy : ly.drop i = ly.getD i 0 :: ly.drop (i + 1) := by
          have hl : i < ly.length := by rw [HLY.out]; exact hlt
          rw [List.drop_eq_getElem_cons hl]
          simp [List.getD_eq_getElem?_getD, List.getElem?_eq_getElem hl]
        have hc : cmpL (bytesL lx) (bytesL ly) = if ((lx.getD i 0).toNat : Int) < ((ly.getD i 0).toNat : Int) then -1 else if ((ly.getD i 0).toNat : Int) < ((lx.getD i 0).toNat : Int) then 1 else cmpL (bytesL (lx.drop (i + 1))) (bytesL (ly.drop (i + 1))) := by
          rw [HO.out, hdx, hdy]
          rfl
        have QX := Lib.hid hX
        have QY := Lib.hid hY
        have HCC := Lib.hid hc
        clear hX hY hdx hdy hc HBX HBY
        generalize ((lx.getD i 0).toNat : Int) = gx at *
        generalize ((ly.getD i 0).toNat : Int) = gy at *
        by_cases he : gx = gy
        · have hne2 : (gx != gy) = false := by simpa using he
          have hrest : cmpL (bytesL lx) (bytesL ly) = cmpL (bytesL (lx.drop (i + 1))) (bytesL (ly.drop (i + 1))) := by rw [HCC.out, if_neg (by omega), if_neg (by omega)]
          have HRS := Lib.hid hrest
          clear he HCC hrest
          go_wp2_with fail
          try simp only [Act.put, List.setIfInBounds_toArray, List.set_cons_zero, List.set_cons_succ]
          refine wp_region_held_drew (S := fun w' => Mem w0 w' [Ent.blk by_ cy 26, Ent.blk bx cx 26]) (by kernel_rfl) (HM.out.drew) (fun hS => ?_)
          replace HM := Lib.hid HM.out.drew
          replace HB := HM.out.below
          refine tk 0 20 ?_
          refine tk 1 21 ?_
          refine tk 2 22 ?_
          refine tkv 3 23 (.int .u8 gx) rfl (yields_cell rfl (by kernel_rfl) rfl (fun _ h => h) (by (first | ((repeat (first | with_reducible exact List.Mem.head _ | with_reducible apply List.Mem.tail)); done) | ((repeat (first | exact List.Mem.head _ | apply List.Mem.tail)); done))) QX.out (by kernel_rfl)) ?_
          refine tk 4 24 ?_
          refine tk 5 25 ?_
          refine tk 6 26 ?_
          refine tkv 7 27 (.int .u8 gy) rfl (yields_cell rfl (by kernel_rfl) rfl (fun _ h => h) (by (first | ((repeat (first | with_reducible exact List.Mem.head _ | with_reducible apply List.Mem.tail)); done) | ((repeat (first | exact List.Mem.head _ | apply List.Mem.tail)); done))) QY.out (by kernel_rfl)) ?_
          refine tk 8 28 ?_
          refine wpAnyH_done (by kernel_rfl) ?_ _
          clear hS
          go_wp2_with fail
          go_roundw
          case rel => exact ⟨i + 1, by omega, by go_num, HRS, HM⟩
          case measure => (simp [intOf]) <;> omega
        · have hne2 : (gx != gy) = true := by simpa using he
          have hrest : decide (cmpL (bytesL lx) (bytesL ly) < 0) = decide (gx < gy) := by
            rw [HCC.out]
            by_cases h1 : gx < gy
            · rw [if_pos h1, decide_eq_true h1]; rfl
            · rw [if_neg h1, if_pos (by omega), decide_eq_false h1]; rfl
          have HRE := Lib.hid hrest
          clear he HCC hrest
          go_wp2_with fail
          try simp only [Act.put, List.setIfInBounds_toArray, List.set_cons_zero, List.set_cons_succ]
          refine wp_region_held_drew (S := fun w' => Mem w0 w' [Ent.blk by_ cy 26, Ent.blk bx cx 26]) (by kernel_rfl) (HM.out.drew) (fun hS => ?_)
          replace HM := Lib.hid HM.out.drew
          replace HB := HM.out.below
          refine tk 0 20 ?_
          refine tk 1 21 ?_
          refine tk 2 22 ?_
          refine tkv 3 23 (.int .u8 gx) rfl (yields_cell rfl (by kernel_rfl) rfl (fun _ h => h) (by (first | ((repeat (first | with_reducible exact List.Mem.head _ | with_reducible apply List.Mem.tail)); done) | ((repeat (first | exact List.Mem.head _ | apply List.Mem.tail)); done))) QX.out (by kernel_rfl)) ?_
          refine tk 4 24 ?_
          refine tk 5 25 ?_
          refine tk 6 26 ?_
          refine tkv 7 27 (.int .u8 gy) rfl (yields_cell rfl (by kernel_rfl) rfl (fun _ h => h) (by (first | ((repeat (first | with_reducible exact List.Mem.head _ | with_reducible apply List.Mem.tail)); done) | ((repeat (first | exact List.Mem.head _ | apply List.Mem.tail)); done))) QY.out (by kernel_rfl)) ?_
          refine tk 8 28 ?_
          refine wpAnyH_done (by kernel_rfl) ?_ _
          clear hS
          go_wp2_with fail
          try simp only [Act.put, List.setIfInBounds_toArray, List.set_cons_zero, List.set_cons_succ]
          refine wp_region_held_drew (S := fun w' => Mem w0 w' [Ent.blk by_ cy 26, Ent.blk bx cx 26]) (by kernel_rfl) (HM.out.drew) (fun hS => ?_)
          replace HM := Lib.hid HM.out.drew
          replace HB := HM.out.below
          refine tk 0 29 ?_
          refine tk 1 30 ?_
          refine tk 2 31 ?_
          refine tkv 3 32 (.int .u8 gx) rfl (yields_cell rfl (by kernel_rfl) rfl (fun _ h => h) (by (first | ((repeat (first | with_reducible exact List.Mem.head _ | with_reducible apply List.Mem.tail)); done) | ((repeat (first | exact List.Mem.head _ | apply List.Mem.tail)); done))) QX.out (by kernel_rfl)) ?_
          refine tk 4 33 ?_
          refine tk 5 34 ?_
          refine tk 6 35 ?_
          refine tkv 7 36 (.int .u8 gy) rfl (yields_cell rfl (by kernel_rfl) rfl (fun _ h => h) (by (first | ((repeat (first | with_reducible exact List.Mem.head _ | with_reducible apply List.Mem.tail)); done) | ((repeat (first | exact List.Mem.head _ | apply List.Mem.tail)); done))) QY.out (by kernel_rfl)) ?_
          refine tk 8 37 ?_
          refine tk 9 4 ?_
          refine wpAnyH_done (by kernel_rfl) ?_ _
          clear hS
          go_wp2_with fail
          go_ret
          refine ⟨?_, HB⟩
          rw [HRE.out]
          rfl
      · have hd : decide (cmpL (bytesL lx) (bytesL ly) < 0) = false := by
          rw [HO.out, List.drop_of_length_le (by rw [HLX.out]; omega), List.drop_of_length_le (by rw [HLY.out]; omega)]
          rfl
        have HRE := Lib.hid hd
        clear hd
        go_wp2_with fail
        go_ret
        refine ⟨?_, HB⟩
        rw [HRE.out]
        rfl
  · have hne : (x.v.toInt != y.v.toInt) = true := by simpa using fun e => hv (hxy.2 e)
    have hr : lessA x y = decide (x.v.toInt < y.v.toInt) := by rw [lessA_is, if_pos hv]
    rw [hr]
    clear hr hv hxy
    generalize x.v.toInt = vx at *
    generalize y.v.toInt = vy at *
    generalize adrC x = cx at *
    generalize adrC y = cy at *
    clear x y
    have HM := Lib.hid (Mem.start w0)
    have HB := HM.out.below
    go_enter Try.func36, Try.ntmps36
    go_wp2_with (first | refine m_rd ?_ | (refine m_wr ?_; clear HM HB; intro w b HM HB; try clear b) | fail)
    go_ret
    exact ⟨rfl, HB⟩
end Go.Proofs.Ytkfjobanbnokoaa.Fw
