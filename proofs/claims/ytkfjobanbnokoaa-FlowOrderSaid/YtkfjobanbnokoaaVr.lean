/- Package flow: the order of two tallies, and that it leaves nothing but new blocks behind it. -/
import Derived.Test.YtkfjobanbnokoaaVq
import Derived.Test.YtkfjobanbnokoaaUc
set_option linter.unusedSimpArgs false
set_option linter.unusedVariables false
set_option linter.unusedSectionVars false
set_option maxRecDepth 100000
namespace Go.Proofs.Ytkfjobanbnokoaa.Fw
open Go.RowKit Go.Proofs.YtkfjobanbnokoaaW.PrintWords Go.Proofs.Ytkfjobanbnokoaa.Bs Go.Proofs.Ytkfjobanbnokoaa.Gm

/-- New blocks and draws alone. -/
def Gr (w w' : World) : Prop := ∃ q os, w' = Sort.grow (w.drewN q) os
theorem Gr.refl (w : World) : Gr w w := ⟨0, #[], by rw [Sort.grow_empty]; rfl⟩
theorem Gr.drew {w w1 : World} (h : Gr w w1) : Gr w w1.drew := by
  obtain ⟨q, os, rfl⟩ := h
  exact ⟨q + 1, os, rfl⟩
theorem Gr.alloc {w w1 : World} (h : Gr w w1) (o : Obj) : Gr w (w1.alloc o) := by
  obtain ⟨q, os, rfl⟩ := h
  exact ⟨q, os ++ #[o], by rw [Sort.alloc_eq_grow, Sort.grow_grow]⟩
theorem Gr.trans {w w1 w2 : World} (h : Gr w w1) (h2 : Gr w1 w2) : Gr w w2 := by
  obtain ⟨q, os, rfl⟩ := h
  obtain ⟨q2, os2, rfl⟩ := h2
  refine ⟨q + q2, os ++ os2, ?_⟩
  rw [← Sort.grow_grow]
  unfold Sort.grow World.drewN
  simp [Nat.add_assoc]
theorem Gr.below {w w1 : World} (h : Gr w w1) : Below w.heap.size w w1 := by
  obtain ⟨q, os, rfl⟩ := h
  refine ⟨rfl, rfl, rfl, ?_, fun k hk => ?_⟩
  · show w.heap.size ≤ (w.heap ++ os).size
    rw [Array.size_append]; omega
  · show (w.heap ++ os)[k]? = w.heap[k]?
    rw [Array.getElem?_append_left hk]
theorem m_boxg {ops : Array Oper} {rest : List Oper} {op : Oper} {a : Act} {Q : Exit → Act → World → Prop} {w0 w : World} {es : List Ent} {t : TypeId} {x : Operand} {cs : Array Value} (hc : Cells t cs) (HM : HMem w0 w es) (HG : Hid (Gr w0 w)) (hg : op.guard = none) (ho : op.op = .box t x) (hx : a.eval x = .agg cs)
    (k : ∀ w1 b, HMem w0 w1 (.blk b cs t :: es) → Below w0.heap.size w0 w1 → Hid (Gr w0 w1) → wpList Try.prog ops Q rest (a.put op.dst (.pointer (some ⟨b, 0, none⟩))) w1) : wpList Try.prog ops Q (op :: rest) a w :=
  BigFrame.wpList_want (wanted_none hg) fun K hK => by
    unfold Oper.wp
    simp [execOp, ho, newVar, newRow, Result.andThen, hx]
    have hm := HM.out.alloc cs t hc.1
    exact hK _ _ (k _ _ (Lib.hid hm) hm.below (Lib.hid (HG.out.alloc _)))
theorem s_litg {α : Type} {R : RK α} (L : R.Law) {ops : Array Oper} {op : Oper} {a : Act} {K : Act → World → Prop} {Q : Exit → Act → World → Prop} {E : Prop} {w0 w : World} {es : List Ent} {n : Nat} {ps : Array (Nat × Operand)} (HM : HMem w0 w es) (HG : Hid (Gr w0 w)) (ho : op.op = .buildSlice R.t n ps) {qs : Array (Nat × Value)} {l : List α} (hL : LitR R n qs l) (hq : ps.toList.map (fun p => (p.1, a.eval p.2)) = qs.toList)
    (k : ∀ w1 b, HMem w0 w1 (rowE R (.slice (some ⟨b, 0, none⟩) n n) l :: es) → Below w0.heap.size w0 w1 → Hid (Gr w0 w1) → K (a.put op.dst (.slice (some ⟨b, 0, none⟩) n n)) w1) (hw : Region.wanted op (yielded ops a.tmps) = true) : if Region.wanted op (yielded ops a.tmps) = true then Oper.wp Try.prog op a w K Q else E := by
  rw [if_pos hw]
  obtain ⟨hl, hn, hz⟩ := hL
  have hq2 : ps.map (fun p => (p.1, a.eval p.2)) = qs := Array.ext' (by rw [Array.toList_map]; exact hq)
  subst hq2
  unfold Oper.wp
  have := hz w
  simp [execOp, ho, resolve, this, Result.andThen]
  have h2 := OW.lit L w w.heap.size l (Nat.le_refl _) (by omega)
  rw [hl] at h2
  have hm := HM.out.newRow (below_alloc (Below.refl _ _) _) h2
  exact k _ _ (Lib.hid hm) hm.below (Lib.hid (HG.out.alloc _))
set_option maxHeartbeats 1000000 in
theorem addrLess_gr (x y : Adr) (w0 : World) : Calls Try.prog 73 #[.agg (adrC x), .agg (adrC y)] w0 fun e w' => e = .returned (.bool (lessA x y)) ∧ Gr w0 w' := by
  have CV1 := Lib.hid (adr_v x)
  have CV2 := Lib.hid (adr_v y)
  have CX := Lib.hid (cellsAdr x)
  have CY := Lib.hid (cellsAdr y)
  have hxy : x.v = y.v ↔ x.v.toInt = y.v.toInt := (Int64.toInt_inj).symm
  have HG := Lib.hid (Gr.refl w0)
  by_cases hv : x.v = y.v
  · have hne : (x.v.toInt != y.v.toInt) = false := by simp [hv]
    have hr : lessA x y = decide (Lib.compareBytes x.b.toList y.b.toList < 0) := by rw [lessA_is, if_neg (by simpa using hv)]
    rw [hr]
    have HRX : Hid (∀ (w : World) (b : Nat), w.heap[b]? = some (.cells (adrC x) 26 (0, 0)) → RB w (.slice (some ⟨b, 1, none⟩) 16 16) x.b.toList) := Lib.hid fun w b h => adr_rb h
    have HRY : Hid (∀ (w : World) (b : Nat), w.heap[b]? = some (.cells (adrC y) 26 (0, 0)) → RB w (.slice (some ⟨b, 1, none⟩) 16 16) y.b.toList) := Lib.hid fun w b h => adr_rb h
    clear hr hv hxy
    generalize x.v.toInt = vx at *
    generalize y.v.toInt = vy at *
    generalize x.b.toList = lx at *
    generalize y.b.toList = ly at *
    generalize adrC x = cx at *
    generalize adrC y = cy at *
    clear x y
    have HM := Lib.hid (Mem.start w0)
    have HB := HM.out.below
    go_enter Try.func73, Try.ntmps73
    go_wp2_with (first | (refine m_boxg (hc := CX.out) HM HG rfl rfl rfl ?_; clear HM HB HG; intro w bx HM HB HG) | (refine m_boxg (hc := CY.out) HM HG rfl rfl rfl ?_; clear HM HB HG; intro w by_ HM HB HG) | refine m_rd ?_ | (refine m_wr ?_; clear HM HB; intro w b HM HB; try clear b) | fail)
    replace HG := Lib.hid HG.out.drew
    try simp only [Act.put, List.setIfInBounds_toArray, List.set_cons_zero, List.set_cons_succ]
    refine wp_region_held_drew (S := fun w' => Below w0.heap.size w0 w') (by kernel_rfl) (below_drew HB) (fun hS => ?_)
    replace HM := Lib.hid HM.out.drew
    replace HB := HM.out.below
    refine tk 0 15 ?_
    refine tk 1 16 ?_
    refine tk 2 17 ?_
    refine tk 3 18 ?_
    refine rone 4 rfl fun K' hK => ?_
    go_simp
    refine (bytesCompare_any (HRX.out _ _ (HM.out.get (by (first | ((repeat (first | with_reducible exact List.Mem.head _ | with_reducible apply List.Mem.tail)); done) | ((repeat (first | exact List.Mem.head _ | apply List.Mem.tail)); done))))) (HRY.out _ _ (HM.out.get (by (first | ((repeat (first | with_reducible exact List.Mem.head _ | with_reducible apply List.Mem.tail)); done) | ((repeat (first | exact List.Mem.head _ | apply List.Mem.tail)); done)))))).mono ?_
    rintro e w' ⟨rfl, rfl⟩
    refine hK.out _ _ (HB) (fun hS2 => ?_)
    clear hS hK
    have hS := hS2
    clear hS2
    try simp only [Act.put, List.setIfInBounds_toArray, List.set_cons_zero, List.set_cons_succ]
    refine tk 5 20 ?_
    refine tk 6 4 ?_
    refine wpAnyH_done (by kernel_rfl) ?_ _
    clear hS
    go_wp2_with fail
    go_ret
    exact ⟨rfl, HG.out⟩
  · have hne : (x.v.toInt != y.v.toInt) = true := by simpa using fun e => hv (hxy.2 e)
    have hr : lessA x y = decide (x.v.toInt < y.v.toInt) := by rw [lessA_is, if_pos hv]
    rw [hr]
    clear hr hv hxy
    generalize x.v.toInt = vx at *
    generalize y.v.toInt = vy at *
    generalize adrC x = cx at *
    generalize adrC y = cy at *
    clear x y
    have HM := Lib.hid (Mem.start w0)
    have HB := HM.out.below
    go_enter Try.func73, Try.ntmps73
    go_wp2_with (first | (refine m_boxg (hc := CX.out) HM HG rfl rfl rfl ?_; clear HM HB HG; intro w bx HM HB HG) | (refine m_boxg (hc := CY.out) HM HG rfl rfl rfl ?_; clear HM HB HG; intro w by_ HM HB HG) | refine m_rd ?_ | (refine m_wr ?_; clear HM HB; intro w b HM HB; try clear b) | fail)
    go_ret
    exact ⟨rfl, HG.out⟩
set_option maxHeartbeats 1000000 in
theorem ahead_gr (x y : Adr) (w0 : World) : Calls Try.prog 53 #[.agg (adrC x), .agg (adrC y)] w0 fun e w' => e = .returned (.int .i64 (aheadZ x y)) ∧ Gr w0 w' := by
  have CX := Lib.hid (cellsAdr x)
  have CY := Lib.hid (cellsAdr y)
  have HL := Lib.hid fun w0 => addrLess_gr x y w0
  have heq := eq_adr x y
  have hz := aheadZ_is x y
  have HG := Lib.hid (Gr.refl w0)
  by_cases hxy : x = y
  · rw [if_pos hxy] at hz
    rw [decide_eq_true hxy] at heq
    have EQ1 := Lib.hid heq
    rw [hz]
    clear hz heq hxy HL
    generalize adrC x = cx at *
    generalize adrC y = cy at *
    clear x y
    have HM := Lib.hid (Mem.start w0)
    have HB := HM.out.below
    go_enter Try.func53, Try.ntmps53
    go_wp2_with (first | (refine m_boxg (hc := CX.out) HM HG rfl rfl rfl ?_; clear HM HB HG; intro w bx HM HB HG) | (refine m_boxg (hc := CY.out) HM HG rfl rfl rfl ?_; clear HM HB HG; intro w by_ HM HB HG) | refine m_rd ?_ | (refine m_wr ?_; clear HM HB; intro w b HM HB; try clear b) | fail)
    go_ret
    exact ⟨rfl, HG.out⟩
  · rw [if_neg hxy] at hz
    rw [decide_eq_false hxy] at heq
    have EQ1 := Lib.hid heq
    rw [hz]
    clear hz heq hxy
    generalize lessA x y = lb at *
    generalize adrC x = cx at *
    generalize adrC y = cy at *
    clear x y
    have HM := Lib.hid (Mem.start w0)
    have HB := HM.out.below
    go_enter Try.func53, Try.ntmps53
    go_wp2_with (first | (refine m_boxg (hc := CX.out) HM HG rfl rfl rfl ?_; clear HM HB HG; intro w bx HM HB HG) | (refine m_boxg (hc := CY.out) HM HG rfl rfl rfl ?_; clear HM HB HG; intro w by_ HM HB HG) | refine m_rd ?_ | (refine m_wr ?_; clear HM HB; intro w b HM HB; try clear b) | fail)
    refine (HL.out w).mono ?_
    rintro e w ⟨rfl, hg⟩
    replace HG := Lib.hid (HG.out.trans hg)
    replace HM := Lib.hid (HM.out.call hg.below)
    replace HB := HM.out.below
    clear hg
    cases lb
    all_goals
      go_wp2_with (first | refine m_rd ?_ | (refine m_wr ?_; clear HM HB; intro w b HM HB; try clear b) | fail)
      go_ret
      exact ⟨rfl, HG.out⟩
section
variable {cf cg sf sg df dg : Array Value} {vf vg pf pg xf xg yf yg c1 c2 c3 c4 c5 c6 : Int}
set_option maxHeartbeats 2000000 in
theorem order_walkg (HF : Hid (Cells 28 cf)) (HFG : Hid (Cells 28 cg)) (V1 : Hid (cf[0]? = some (.int .i64 vf))) (V2 : Hid (cg[0]? = some (.int .i64 vg))) (P1 : Hid (cf[1]? = some (.int .i64 pf))) (P2 : Hid (cg[1]? = some (.int .i64 pg)))
    (S1 : Hid (PartOf 26 cf 2 sf)) (S2 : Hid (PartOf 26 cg 2 sg)) (D1 : Hid (PartOf 26 cf 19 df)) (D2 : Hid (PartOf 26 cg 19 dg))
    (X1 : Hid (cf[36]? = some (.int .i64 xf))) (X2 : Hid (cg[36]? = some (.int .i64 xg))) (Y1 : Hid (cf[37]? = some (.int .i64 yf))) (Y2 : Hid (cg[37]? = some (.int .i64 yg)))
    (Q1 : Hid (cmpZ vf vg = c1)) (Q2 : Hid (cmpZ pf pg = c2)) (Q5 : Hid (cmpZ xf xg = c5)) (Q6 : Hid (cmpZ yf yg = c6))
    (Q3 : Hid (∀ w0, Calls Try.prog 53 #[.agg sf, .agg sg] w0 fun e w' => e = .returned (.int .i64 c3) ∧ Gr w0 w')) (Q4 : Hid (∀ w0, Calls Try.prog 53 #[.agg df, .agg dg] w0 fun e w' => e = .returned (.int .i64 c4) ∧ Gr w0 w')) (w0 : World) :
    Calls Try.prog 35 #[.agg cf, .agg cg] w0 fun e w' => e = .returned (.int .i64 (orZ [c1, c2, c3, c4, c5, c6])) ∧ Gr w0 w' := by
  obtain ⟨r, hr⟩ : ∃ r, orZ [c1, c2, c3, c4, c5, c6] = r := ⟨_, rfl⟩
  rw [hr]
  have HR := Lib.hid hr
  clear hr
  have HG := Lib.hid (Gr.refl w0)
  have HM := Lib.hid (Mem.start w0)
  have HB := HM.out.below
  go_enter Try.func35, Try.ntmps35
  go_wp2_with (first | (refine m_boxg (hc := HF.out) HM HG rfl rfl rfl ?_; clear HM HB HG; intro w bf HM HB HG) | (refine m_boxg (hc := HFG.out) HM HG rfl rfl rfl ?_; clear HM HB HG; intro w bg HM HB HG) | fail)
  replace HG := Lib.hid HG.out.drew
  try simp only [Act.put, List.setIfInBounds_toArray, List.set_cons_zero, List.set_cons_succ]
  refine wp_region_held_drew (S := fun w' => Mem w0 w' (Ent.blk bg cg 28 :: Ent.blk bf cf 28 :: [])) (by kernel_rfl) (HM.out.drew) (fun hS => ?_)
  replace HM := Lib.hid HM.out.drew
  replace HB := HM.out.below
  refine tk 0 5 ?_
  refine tkv 1 6 (.int .i64 vf) rfl (yields_cell rfl (by kernel_rfl) rfl (fun _ h => h) (by (first | ((repeat (first | with_reducible exact List.Mem.head _ | with_reducible apply List.Mem.tail)); done) | ((repeat (first | exact List.Mem.head _ | apply List.Mem.tail)); done))) V1.out (by kernel_rfl)) ?_
  refine tk 2 7 ?_
  refine tkv 3 8 (.int .i64 vg) rfl (yields_cell rfl (by kernel_rfl) rfl (fun _ h => h) (by (first | ((repeat (first | with_reducible exact List.Mem.head _ | with_reducible apply List.Mem.tail)); done) | ((repeat (first | exact List.Mem.head _ | apply List.Mem.tail)); done))) V2.out (by kernel_rfl)) ?_
  refine tk 5 10 ?_
  refine tkv 6 11 (.int .i64 pf) rfl (yields_cell rfl (by kernel_rfl) rfl (fun _ h => h) (by (first | ((repeat (first | with_reducible exact List.Mem.head _ | with_reducible apply List.Mem.tail)); done) | ((repeat (first | exact List.Mem.head _ | apply List.Mem.tail)); done))) P1.out (by kernel_rfl)) ?_
  refine tk 7 12 ?_
  refine tkv 8 13 (.int .i64 pg) rfl (yields_cell rfl (by kernel_rfl) rfl (fun _ h => h) (by (first | ((repeat (first | with_reducible exact List.Mem.head _ | with_reducible apply List.Mem.tail)); done) | ((repeat (first | exact List.Mem.head _ | apply List.Mem.tail)); done))) P2.out (by kernel_rfl)) ?_
  refine tk 10 15 ?_
  refine tkv 11 16 (.agg sf) rfl (yields_part rfl (by kernel_rfl) rfl (fun _ h => h) (by (first | ((repeat (first | with_reducible exact List.Mem.head _ | with_reducible apply List.Mem.tail)); done) | ((repeat (first | exact List.Mem.head _ | apply List.Mem.tail)); done))) S1.out (by kernel_rfl)) ?_
  refine tk 12 17 ?_
  refine tkv 13 18 (.agg sg) rfl (yields_part rfl (by kernel_rfl) rfl (fun _ h => h) (by (first | ((repeat (first | with_reducible exact List.Mem.head _ | with_reducible apply List.Mem.tail)); done) | ((repeat (first | exact List.Mem.head _ | apply List.Mem.tail)); done))) S2.out (by kernel_rfl)) ?_
  refine tk 15 20 ?_
  refine tkv 16 21 (.agg df) rfl (yields_part rfl (by kernel_rfl) rfl (fun _ h => h) (by (first | ((repeat (first | with_reducible exact List.Mem.head _ | with_reducible apply List.Mem.tail)); done) | ((repeat (first | exact List.Mem.head _ | apply List.Mem.tail)); done))) D1.out (by kernel_rfl)) ?_
  refine tk 17 22 ?_
  refine tkv 18 23 (.agg dg) rfl (yields_part rfl (by kernel_rfl) rfl (fun _ h => h) (by (first | ((repeat (first | with_reducible exact List.Mem.head _ | with_reducible apply List.Mem.tail)); done) | ((repeat (first | exact List.Mem.head _ | apply List.Mem.tail)); done))) D2.out (by kernel_rfl)) ?_
  refine tk 20 25 ?_
  refine tkv 21 26 (.int .i64 xf) rfl (yields_cell rfl (by kernel_rfl) rfl (fun _ h => h) (by (first | ((repeat (first | with_reducible exact List.Mem.head _ | with_reducible apply List.Mem.tail)); done) | ((repeat (first | exact List.Mem.head _ | apply List.Mem.tail)); done))) X1.out (by kernel_rfl)) ?_
  refine tk 22 27 ?_
  refine tkv 23 28 (.int .i64 xg) rfl (yields_cell rfl (by kernel_rfl) rfl (fun _ h => h) (by (first | ((repeat (first | with_reducible exact List.Mem.head _ | with_reducible apply List.Mem.tail)); done) | ((repeat (first | exact List.Mem.head _ | apply List.Mem.tail)); done))) X2.out (by kernel_rfl)) ?_
  refine tk 25 30 ?_
  refine tkv 26 31 (.int .i64 yf) rfl (yields_cell rfl (by kernel_rfl) rfl (fun _ h => h) (by (first | ((repeat (first | with_reducible exact List.Mem.head _ | with_reducible apply List.Mem.tail)); done) | ((repeat (first | exact List.Mem.head _ | apply List.Mem.tail)); done))) Y1.out (by kernel_rfl)) ?_
  refine tk 27 32 ?_
  refine tkv 28 33 (.int .i64 yg) rfl (yields_cell rfl (by kernel_rfl) rfl (fun _ h => h) (by (first | ((repeat (first | with_reducible exact List.Mem.head _ | with_reducible apply List.Mem.tail)); done) | ((repeat (first | exact List.Mem.head _ | apply List.Mem.tail)); done))) Y2.out (by kernel_rfl)) ?_
  refine rone 4 rfl fun K' hK => ?_
  go_simp
  refine (compare_any vf vg _).mono ?_
  rintro e w' ⟨rfl, rfl⟩
  rw [Q1.out]
  refine hK.out _ _ (HM.out) (fun hS2 => ?_)
  clear hS hK
  have hS := hS2
  clear hS2
  try simp only [Act.put, List.setIfInBounds_toArray, List.set_cons_zero, List.set_cons_succ]
  refine rone 9 rfl fun K' hK => ?_
  go_simp
  refine (compare_any pf pg _).mono ?_
  rintro e w' ⟨rfl, rfl⟩
  rw [Q2.out]
  refine hK.out _ _ (HM.out) (fun hS2 => ?_)
  clear hS hK
  have hS := hS2
  clear hS2
  try simp only [Act.put, List.setIfInBounds_toArray, List.set_cons_zero, List.set_cons_succ]
  refine rone 14 rfl fun K' hK => ?_
  go_simp
  refine (Q3.out _).mono ?_
  rintro e w ⟨rfl, hg⟩
  replace HG := Lib.hid (HG.out.trans hg)
  replace HM := Lib.hid (HM.out.call hg.below)
  replace HB := HM.out.below
  clear hg
  refine hK.out _ _ (HM.out) (fun hS2 => ?_)
  clear hS hK
  have hS := hS2
  clear hS2
  try simp only [Act.put, List.setIfInBounds_toArray, List.set_cons_zero, List.set_cons_succ]
  refine rone 19 rfl fun K' hK => ?_
  go_simp
  refine (Q4.out _).mono ?_
  rintro e w ⟨rfl, hg⟩
  replace HG := Lib.hid (HG.out.trans hg)
  replace HM := Lib.hid (HM.out.call hg.below)
  replace HB := HM.out.below
  clear hg
  refine hK.out _ _ (HM.out) (fun hS2 => ?_)
  clear hS hK
  have hS := hS2
  clear hS2
  try simp only [Act.put, List.setIfInBounds_toArray, List.set_cons_zero, List.set_cons_succ]
  refine rone 24 rfl fun K' hK => ?_
  go_simp
  refine (compare_any xf xg _).mono ?_
  rintro e w' ⟨rfl, rfl⟩
  rw [Q5.out]
  refine hK.out _ _ (HM.out) (fun hS2 => ?_)
  clear hS hK
  have hS := hS2
  clear hS2
  try simp only [Act.put, List.setIfInBounds_toArray, List.set_cons_zero, List.set_cons_succ]
  refine rone 29 rfl fun K' hK => ?_
  go_simp
  refine (compare_any yf yg _).mono ?_
  rintro e w' ⟨rfl, rfl⟩
  rw [Q6.out]
  refine hK.out _ _ (HM.out) (fun hS2 => ?_)
  clear hS hK
  have hS := hS2
  clear hS2
  try simp only [Act.put, List.setIfInBounds_toArray, List.set_cons_zero, List.set_cons_succ]
  refine rone 30 rfl fun K' hK => ?_
  refine s_litg lawI HM HG rfl (lit6 c1 c2 c3 c4 c5 c6) rfl ?_ (by kernel_rfl)
  clear HM HB HG
  intro w br HM HB HG
  refine hK.out _ _ (HM.out.tail) (fun hS2 => ?_)
  clear hS hK
  have hS := hS2
  clear hS2
  try simp only [Act.put, List.setIfInBounds_toArray, List.set_cons_zero, List.set_cons_succ]
  refine rone 31 rfl fun K' hK => ?_
  go_simp
  refine (or_any (l := [c1, c2, c3, c4, c5, c6]) (HM.out.rw_ lawI (List.Mem.head _))).mono ?_
  rintro e w' ⟨rfl, rfl⟩
  rw [HR.out]
  refine hK.out _ _ (HM.out.tail) (fun hS2 => ?_)
  clear hS hK
  have hS := hS2
  clear hS2
  try simp only [Act.put, List.setIfInBounds_toArray, List.set_cons_zero, List.set_cons_succ]
  refine tk 32 4 ?_
  refine wpAnyH_done (by kernel_rfl) ?_ _
  clear hS
  go_wp2_with fail
  go_ret
  exact ⟨rfl, HG.out⟩
end
theorem order_gr (f g : Flow) (w0 : World) : Calls Try.prog 35 #[.agg (flowC f), .agg (flowC g)] w0 fun e w' => e = .returned (.int .i64 (orderZ f g)) ∧ Gr w0 w' := by
  rw [orderZ_is]
  exact order_walkg (Lib.hid (cellsFlow f)) (Lib.hid (cellsFlow g)) (Lib.hid (flow_v f)) (Lib.hid (flow_v g)) (Lib.hid (flow_pr f)) (Lib.hid (flow_pr g)) (Lib.hid (part_s f)) (Lib.hid (part_s g)) (Lib.hid (part_d f)) (Lib.hid (part_d g))
    (Lib.hid (flow_sp f)) (Lib.hid (flow_sp g)) (Lib.hid (flow_dp f)) (Lib.hid (flow_dp g)) (Lib.hid rfl) (Lib.hid rfl) (Lib.hid rfl) (Lib.hid rfl) (Lib.hid fun w => ahead_gr _ _ w) (Lib.hid fun w => ahead_gr _ _ w) w0
/-- The closure of All. -/
theorem closure_any (x y : Tal) (w0 : World) : Calls Try.prog 39 #[.agg (tallyC x), .agg (tallyC y)] w0 fun e w' => e = .returned (.int .i64 (orderZ x.k y.k)) ∧ Gr w0 w' := by
  have HO := Lib.hid fun w => order_gr x.k y.k w
  have CX := Lib.hid (cellsTal x)
  have CY := Lib.hid (cellsTal y)
  have PT1 := Lib.hid (part_k x)
  have PT2 := Lib.hid (part_k y)
  have HG := Lib.hid (Gr.refl w0)
  generalize orderZ x.k y.k = o at *
  generalize flowC x.k = fx at *
  generalize flowC y.k = fy at *
  generalize tallyC x = cx at *
  generalize tallyC y = cy at *
  clear x y
  have HM := Lib.hid (Mem.start w0)
  have HB := HM.out.below
  go_enter Try.func39, Try.ntmps39
  go_wp2_with (first | (refine m_boxg (hc := CX.out) HM HG rfl rfl rfl ?_; clear HM HB HG; intro w bx HM HB HG) | (refine m_boxg (hc := CY.out) HM HG rfl rfl rfl ?_; clear HM HB HG; intro w by_ HM HB HG) | refine m_rd ?_ | (refine m_wr ?_; clear HM HB; intro w b HM HB; try clear b) | fail)
  refine (HO.out w).mono ?_
  rintro e w ⟨rfl, hg⟩
  replace HG := Lib.hid (HG.out.trans hg)
  replace HM := Lib.hid (HM.out.call hg.below)
  replace HB := HM.out.below
  clear hg
  go_wp2_with (first | refine m_rd ?_ | (refine m_wr ?_; clear HM HB; intro w b HM HB; try clear b) | fail)
  go_ret
  exact ⟨rfl, HG.out⟩
end Go.Proofs.Ytkfjobanbnokoaa.Fw
