/- Step laws over what a call knows of memory, for whatever types: a law for a step that reads, one for a step that writes; which kind of step it is, and which fact serves, the default proofs of their arguments find: facts by name CV (a cell's value), PT (a part of a block), BH (a literal's value), EQ ('=='), AL (a zero value), PU (a cell stored), SP (a part stored). -/
import Derived.Test.YtkfjobanbnokoaaGm
import Derived.Deep.RegionHeld3
import Derived.Laws.StructEq
set_option linter.unusedSimpArgs false
set_option linter.unusedVariables false
set_option maxRecDepth 100000
namespace Go.Proofs.Ytkfjobanbnokoaa.Gm
open Go.RowKit Go.Proofs.YtkfjobanbnokoaaW.PrintWords Go.Proofs.Ytkfjobanbnokoaa.Bs

abbrev HMem (w0 w : World) (es : List Ent) : Prop := Hid (Mem w0 w es)
/-- So many cells as the type has, each of them one. -/
def Cells (t : TypeId) (vs : Array Value) : Prop := (Try.prog.info? t).map (·.size) = some vs.size ∧ vs.all (·.oneCell') = true
/-- A part of a block's cells, of a struct's or an array's type. -/
def PartOf (t : TypeId) (cs : Array Value) (o : Nat) (vs : Array Value) : Prop := (∀ j v, vs.toList[j]? = some v → cs[o + j]? = some v) ∧ (Try.prog.info? t).map (·.size) = some vs.size ∧ (Try.prog.underlying t).map (·.isRow) = some true
/-- A type's zero value. -/
def ZeroOf (t : TypeId) (z : Array Value) : Prop := (∀ W : World, (zeroValue t).run Try.prog W = .ok (.agg z) W) ∧ Cells t z
/-- Cells behind a store of a part. -/
def PartTo (t : TypeId) (cs : Array Value) (o : Nat) (vs cs' : Array Value) : Prop := o + vs.size ≤ cs.size ∧ cs' = (cs.toList.take o ++ vs.toList ++ cs.toList.drop (o + vs.size)).toArray ∧ Cells t vs
/-- A composite literal's value. -/
def Built (t : TypeId) (qs : Array (Nat × Value)) (v : Value) : Prop := ∀ W : World, (Instr.build t qs).run Try.prog W = .ok v W
/-- What '==' says of two structs' values. -/
def EqlOf (t : TypeId) (vx vy : Array Value) (r : Bool) : Prop := ∀ W : World, (binOp .eql t (.agg vx) (.agg vy)).run Try.prog W = .ok (.bool r) W
theorem run_neq_of {t : TypeId} {vx vy : Array Value} {r : Bool} (h : EqlOf t vx vy r) (W : World) : (binOp .neq t (.agg vx) (.agg vy)).run Try.prog W = .ok (.bool (!r)) W := by
  have h1 := h W
  simp only [binOp, Sem.run_bind] at h1 ⊢
  cases hq : (Op.equal t (.agg vx) (.agg vy)).run Try.prog W with
  | ok b w' =>
    rw [hq] at h1
    simp [Result.andThen] at h1 ⊢
    exact ⟨by rw [h1.1], h1.2⟩
  | halt e w' => rw [hq] at h1; simp [Result.andThen] at h1
/-- An operation of a drawn region is taken first; where its value goes is told. -/
theorem take_at {P : Program} {md : Region.Mode} {ops : Array Oper} {Q : Exit → Act → World → Prop} {S : World → Prop} (i : Nat) (d : Nat) (v : Value) {oi : Oper} {fuel : Nat} {listed : Array Bool} {a : Act} {w : World} (hi : ops[i]? = some oi) (hd : oi.dst = some d)
    (hs : Region.noSelect ops = true) (hf : Region.free md ops listed i = true) (hr : (Region.ready md ops listed).contains i = true)
    (hQ : ∀ c a w, Q (.panic c) (a.put (some d) v) w → Q (.panic c) a w) (hy : YieldsIf P ops S oi v a) (hS : S w)
    (h : wpAnyH P md ops Q S fuel (listed.setIfInBounds i true) (a.put (some d) v) w) : wpAnyH P md ops Q S (fuel + 1) listed a w :=
  wpAnyH_take hi hs hf hr (by rw [hd]; exact hQ) hy hS (by rw [hd]; exact h)
/-- An operation that leaves the world as it is, and what it hands over. -/
structure Rd (w0 : World) (es : List Ent) (op : Oper) (a : Act) (v : Value) : Prop where
  run : ∀ (w : World) (K : Act → World → Prop) (Q : Exit → Act → World → Prop), Mem w0 w es → K (a.put op.dst v) w → Oper.wp Try.prog op a w K Q
/-- An operation that turns what the call owns. -/
structure Wr (w0 : World) (es : List Ent) (op : Oper) (a : Act) (v : Nat → Value) (es' : Nat → List Ent) : Prop where
  run : ∀ (w : World) (K : Act → World → Prop) (Q : Exit → Act → World → Prop), Mem w0 w es → (∀ w1 b, Mem w0 w1 (es' b) → K (a.put op.dst (v b)) w1) → Oper.wp Try.prog op a w K Q
theorem run_load1 {t : TypeId} (hu : (Try.prog.underlying t).map (·.isRow) = some false) (W : World) (a : Addr) (v : Value) (hc : W.cell? a = some v) : (loadVar t a).run Try.prog W = .ok v W := by
  obtain ⟨d, hd, hr⟩ := Option.map_eq_some_iff.1 hu
  cases d <;> first | (simp [TypeDesc.isRow] at hr; done) | simp [loadVar, isAgg, run_underlying hd, go_sem, hc]
theorem one_cells {v : Value} (h : v.oneCell' = true) : v.cells = #[v] := by
  cases v <;> first | rfl | (simp [Value.oneCell'] at h)
theorem run_store1 {t : TypeId} (hi : (Try.prog.info? t).map (·.size) = some 1) (W : World) (a : Addr) (v v0 : Value) (h1 : v.oneCell' = true) (hc : W.cell? a = some v0) (hf : W.frozen? a = false) : (storeVar t a v).run Try.prog W = .ok () (W.setCell a v) := by
  obtain ⟨i, hi, h⟩ := Option.map_eq_some_iff.1 hi
  unfold storeVar
  rw [one_cells h1]
  simp [sizeOf, typeInfo, hi, h, go_sem]
  rw [run_store _ _ _ _ _ h1, hc, hf]
  rfl
section
variable {w0 : World} {es es' : List Ent} {op : Oper} {a : Act}
theorem Rd.cell {t : TypeId} {x : Operand} (ho : op.op = .load t x) (hu : (Try.prog.underlying t).map (·.isRow) = some false) {b i : Nat} (hx : a.eval x = .pointer (some ⟨b, i, none⟩)) {cs : Array Value} {T : TypeId} (m : Ent.blk b cs T ∈ es) {v : Value} (hv : cs[i]? = some v) : Rd w0 es op a v := .mk fun w K Q HM hK => by
  unfold Oper.wp
  have hrun := run_load1 hu w _ v ((blk_cell (HM.get m) i).trans hv)
  simp [execOp, ho, hx, Instr.loadAt, Instr.sureAddr, hrun, Result.andThen]
  exact hK
theorem Rd.whole {t : TypeId} {x : Operand} (ho : op.op = .load t x) (hu : (Try.prog.underlying t).map (·.isRow) = some true) {b : Nat} (hx : a.eval x = .pointer (some ⟨b, 0, none⟩)) {cs : Array Value} (m : Ent.blk b cs t ∈ es) : Rd w0 es op a (.agg cs) := .mk fun w K Q HM hK => by
  obtain ⟨d, hd, hr⟩ := Option.map_eq_some_iff.1 hu
  exact wp_load_mid (P := Try.prog) t x ho b 0 hx cs.toList d (range_block (HM.get m)) hd hr (by simpa using HM.size m) (by simpa using hK)
theorem Rd.part {t : TypeId} {x : Operand} (ho : op.op = .load t x) {b o : Nat} (hx : a.eval x = .pointer (some ⟨b, o, none⟩)) {cs : Array Value} {T : TypeId} (m : Ent.blk b cs T ∈ es) {vs : Array Value} (hv : PartOf t cs o vs) : Rd w0 es op a (.agg vs) := .mk fun w K Q HM hK => by
  obtain ⟨d, hd, hr⟩ := Option.map_eq_some_iff.1 hv.2.2
  exact wp_load_mid (P := Try.prog) t x ho b o hx vs.toList d (fun j v hj => (blk_cell (HM.get m) (o + j)).trans (hv.1 j v hj)) hd hr (by simpa using hv.2.1) (by simpa using hK)
theorem Rd.build {t : TypeId} {ps : Array (Nat × Operand)} (ho : op.op = .build t ps) {qs : Array (Nat × Value)} {v : Value} (hz : Built t qs v) (hq : ps.toList.map (fun p => (p.1, a.eval p.2)) = qs.toList) : Rd w0 es op a v := .mk fun w K Q HM hK => by
  have hq2 : ps.map (fun p => (p.1, a.eval p.2)) = qs := Array.ext' (by rw [Array.toList_map]; exact hq)
  subst hq2
  unfold Oper.wp
  have := hz w
  simp [execOp, ho, resolve, this, Result.andThen]
  exact hK
theorem Rd.eql {t u : TypeId} {x y : Operand} (ho : op.op = .binOp .eql t x y u) {vx vy : Array Value} (hx : a.eval x = .agg vx) (hy : a.eval y = .agg vy) {r : Bool} (he : EqlOf t vx vy r) (hgt : Try.prog.eqGuardType Try.prog.depth t = false) : Rd w0 es op a (.bool r) := .mk fun w K Q HM hK => by
  unfold Oper.wp
  have := he w
  have hg : (eqGuard .eql t x y (.agg vx) (.agg vy)).run Try.prog w = .ok () w := by simp [eqGuard, hgt]
  simp [execOp, ho, resolve, hx, hy, hg, this, Result.andThen]
  exact hK
theorem Rd.neq {t u : TypeId} {x y : Operand} (ho : op.op = .binOp .neq t x y u) {vx vy : Array Value} (hx : a.eval x = .agg vx) (hy : a.eval y = .agg vy) {r : Bool} (he : EqlOf t vx vy r) (hgt : Try.prog.eqGuardType Try.prog.depth t = false) : Rd w0 es op a (.bool (!r)) := .mk fun w K Q HM hK => by
  unfold Oper.wp
  have := run_neq_of he w
  have hg : (eqGuard .neq t x y (.agg vx) (.agg vy)).run Try.prog w = .ok () w := by simp [eqGuard, hgt]
  simp [execOp, ho, resolve, hx, hy, hg, this, Result.andThen]
  exact hK
theorem Rd.g_load {v : Value} {t : TypeId} {x : Operand} (_ho : op.op = .load t x) (h : Rd w0 es op a v) : Rd w0 es op a v := h
theorem Rd.g_build {v : Value} {t : TypeId} {ps : Array (Nat × Operand)} (_ho : op.op = .build t ps) (h : Rd w0 es op a v) : Rd w0 es op a v := h

theorem Wr.alloc {t : TypeId} (ho : op.op = .alloc t) {z : Array Value} (hz : ∀ W : World, (zeroValue t).run Try.prog W = .ok (.agg z) W) (hi : Cells t z) : Wr w0 es op a (fun b => .pointer (some ⟨b, 0, none⟩)) (fun b => .blk b z t :: es) := .mk fun w K Q HM hK => by
  unfold Oper.wp
  simp [execOp, ho, Instr.alloc, hz, newVar, newRow, Result.andThen]
  exact hK _ _ (HM.alloc _ _ hi.1)
theorem Wr.box {t : TypeId} {x : Operand} (ho : op.op = .box t x) {cs : Array Value} (hx : a.eval x = .agg cs) (hi : Cells t cs) : Wr w0 es op a (fun b => .pointer (some ⟨b, 0, none⟩)) (fun b => .blk b cs t :: es) := .mk fun w K Q HM hK => by
  unfold Oper.wp
  simp [execOp, ho, newVar, newRow, Result.andThen, hx]
  exact hK _ _ (HM.alloc _ _ hi.1)
theorem Wr.alloc1 {t : TypeId} (ho : op.op = .alloc t) {z : Value} (hz : ∀ W : World, (zeroValue t).run Try.prog W = .ok z W) (h1 : z.oneCell' = true) (hi : (Try.prog.info? t).map (·.size) = some 1) : Wr w0 es op a (fun b => .pointer (some ⟨b, 0, none⟩)) (fun b => .blk b #[z] t :: es) := .mk fun w K Q HM hK => by
  unfold Oper.wp
  simp [execOp, ho, Instr.alloc, hz, newVar, newRow, Result.andThen, one_cells h1]
  exact hK _ _ (HM.alloc _ _ hi)
theorem Wr.put {t : TypeId} {x y : Operand} (ho : op.op = .store t x y) (hi : (Try.prog.info? t).map (·.size) = some 1) {b i : Nat} (hx : a.eval x = .pointer (some ⟨b, i, none⟩)) {v : Value} (hy : a.eval y = v) (h1 : v.oneCell' = true) {cs cs' : Array Value} {T : TypeId}
    (u : Upd (.blk b cs T) (.blk b cs' T) es es') {v0 : Value} (hc0 : cs[i]? = some v0) (hc : cs.setIfInBounds i v = cs') : Wr w0 es op a (fun _ => undef) (fun _ => es') := .mk fun w K Q HM hK => by
  unfold Oper.wp
  have hrun := run_store1 hi w _ v v0 h1 ((blk_cell (HM.get u.mem) i).trans hc0) (blk_frozen (HM.get u.mem) i)
  simp [execOp, ho, hx, hy, Instr.storeAt, Instr.sureAddr, hrun, Result.andThen]
  exact hK _ 0 (HM.cell i _ hc u)
theorem Wr.whole {t : TypeId} {x y : Operand} (ho : op.op = .store t x y) {b : Nat} (hx : a.eval x = .pointer (some ⟨b, 0, none⟩)) {vs : Array Value} (hy : a.eval y = .agg vs) {cs : Array Value}
    (u : Upd (.blk b cs t) (.blk b vs t) es es') (hc : Cells t vs) : Wr w0 es op a (fun _ => undef) (fun _ => es') := .mk fun w K Q HM hK => by
  have hs : vs.size = cs.size := by
    have h1 := HM.size u.mem
    rw [hc.1] at h1
    injection h1
  exact wp_store_mid (P := Try.prog) t x y ho b 0 vs hx hy (by rw [hs]; exact there_block (HM.get u.mem)) (by rw [hs]; exact HM.size u.mem) hc.2 (hK _ 0 (HM.store hs u))
theorem Wr.part {t : TypeId} {x y : Operand} (ho : op.op = .store t x y) {b o : Nat} (hx : a.eval x = .pointer (some ⟨b, o, none⟩)) {vs : Array Value} (hy : a.eval y = .agg vs) {cs cs' : Array Value} {T : TypeId}
    (u : Upd (.blk b cs T) (.blk b cs' T) es es') (hs : PartTo t cs o vs cs') : Wr w0 es op a (fun _ => undef) (fun _ => es') := .mk fun w K Q HM hK =>
  wp_store_mid (P := Try.prog) t x y ho b o vs hx hy (fun j hj => ⟨by rw [blk_cell (HM.get u.mem)]; simp; have := hs.1; omega, blk_frozen (HM.get u.mem) _⟩) hs.2.2.1 hs.2.2.2
    (hK _ 0 (HM.part o vs.toList (by simpa using hs.1) (by simpa using hs.2.1) u))
theorem Wr.slices {t : TypeId} {n : Nat} {ps : Array (Nat × Operand)} (ho : op.op = .buildSlice t n ps) {qs : Array (Nat × Value)} {cs : Array Value} {T : TypeId}
    (hz : ∀ W : World, (Instr.buildSlice t n qs).run Try.prog W = .ok (.slice (some ⟨W.heap.size, 0, none⟩) n n) (W.alloc (.cells cs T))) (hq : ps.toList.map (fun p => (p.1, a.eval p.2)) = qs.toList) :
    Wr w0 es op a (fun b => .slice (some ⟨b, 0, none⟩) n n) (fun b => .raw b cs T :: es) := .mk fun w K Q HM hK => by
  have hq2 : ps.map (fun p => (p.1, a.eval p.2)) = qs := Array.ext' (by rw [Array.toList_map]; exact hq)
  subst hq2
  unfold Oper.wp
  have := hz w
  simp [execOp, ho, resolve, this, Result.andThen]
  exact hK _ _ (HM.allocRaw cs T)
theorem Wr.g_store {v : Nat → Value} {e : Nat → List Ent} {t : TypeId} {x y : Operand} (_ho : op.op = .store t x y) (h : Wr w0 es op a v e) : Wr w0 es op a v e := h
theorem Wr.g_slice {v : Nat → Value} {e : Nat → List Ent} {t : TypeId} {n : Nat} {ps : Array (Nat × Operand)} (_ho : op.op = .buildSlice t n ps) (h : Wr w0 es op a v e) : Wr w0 es op a v e := h
end
section
theorem wanted_none {op : Oper} {y : Nat → Option Bool} (h : op.guard = none) : Region.wanted op y = true := by
  unfold Region.wanted
  rw [h]
theorem wanted_some {op : Oper} {ops : Array Oper} {tmps : Array Value} {j : Nat} {b : Bool} {d : Tmp} (h : op.guard = some (j, b)) (hd : (ops[j]?).bind (·.dst) = some d) (ht : tmps[d]? = some (.bool b)) : Region.wanted op (yielded ops tmps) = true := by
  unfold Region.wanted yielded
  rw [h]
  simp [hd, ht]
variable {ops : Array Oper} {rest : List Oper} {op : Oper} {a : Act} {Q : Exit → Act → World → Prop} {w0 w : World} {es : List Ent}
theorem m_rd {v : Value} (k : wpList Try.prog ops Q rest (a.put op.dst v) w) (HM : HMem w0 w es := by first | exact HM | fail)
    (h : Rd w0 es op a v := by first
      | ((with_reducible apply Rd.g_load); (next => with_reducible exact rfl); first
        | ((with_reducible apply Rd.part); (next => with_reducible exact rfl); (next => exact rfl); (next => ((repeat (first | exact List.Mem.head _ | apply List.Mem.tail)); done)); (next => first | with_reducible exact PT1.out | with_reducible exact PT2.out | with_reducible exact PT3.out | with_reducible exact PT4.out | with_reducible exact PT5.out | with_reducible exact PT6.out | with_reducible exact PT7.out | with_reducible exact PT8.out))
        | ((with_reducible apply Rd.cell); (next => with_reducible exact rfl); rotate_left; (next => exact rfl); (next => ((repeat (first | exact List.Mem.head _ | apply List.Mem.tail)); done)); (next => first | with_reducible exact CV1.out | with_reducible exact CV2.out | with_reducible exact CV3.out | with_reducible exact CV4.out | with_reducible exact CV5.out | with_reducible exact CV6.out | with_reducible exact CV7.out | with_reducible exact CV8.out); (next => decide +kernel))
        | ((with_reducible apply Rd.whole); (next => with_reducible exact rfl); (next => kernel_rfl); (next => exact rfl); (next => ((repeat (first | exact List.Mem.head _ | apply List.Mem.tail)); done))))
      | ((with_reducible apply Rd.g_build); (next => with_reducible exact rfl); apply Rd.build; (next => with_reducible exact rfl); first
        | ((next => exact BH1.out); (next => exact rfl)) | ((next => exact BH2.out); (next => exact rfl)) | ((next => exact BH3.out); (next => exact rfl)) | ((next => exact BH4.out); (next => exact rfl)) | ((next => exact BH5.out); (next => exact rfl)) | ((next => exact BH6.out); (next => exact rfl)))
      | ((with_reducible apply Rd.eql); (next => with_reducible exact rfl); (next => exact rfl); (next => exact rfl); (next => first | exact EQ1.out | exact EQ2.out | exact EQ3.out | exact EQ4.out | exact EQ5.out | exact EQ6.out); (next => kernel_rfl))
      | ((with_reducible apply Rd.neq); (next => with_reducible exact rfl); (next => exact rfl); (next => exact rfl); (next => first | exact EQ1.out | exact EQ2.out | exact EQ3.out | exact EQ4.out | exact EQ5.out | exact EQ6.out); (next => kernel_rfl))
      | fail)
    (hw : Region.wanted op (yielded ops a.tmps) = true := by first | exact wanted_none rfl | exact wanted_some rfl rfl rfl | fail) : wpList Try.prog ops Q (op :: rest) a w :=
  BigFrame.wpList_want hw fun K hK => h.run w K Q HM.out (hK _ _ k)
theorem m_wr {v : Nat → Value} {e : Nat → List Ent} (k : ∀ w1 b, HMem w0 w1 (e b) → Below w0.heap.size w0 w1 → wpList Try.prog ops Q rest (a.put op.dst (v b)) w1) (HM : HMem w0 w es := by first | exact HM | fail)
    (h : Wr w0 es op a v e := by first
      | ((with_reducible apply Wr.g_store); (next => with_reducible exact rfl); first
        | ((with_reducible apply Wr.part); (next => with_reducible exact rfl); (next => exact rfl); (next => exact rfl); (next => ((repeat (first | exact Upd.head _ | apply Upd.tail)); done)); (next => first | with_reducible exact SP1.out | with_reducible exact SP2.out | with_reducible exact SP3.out))
        | ((with_reducible apply Wr.put); (next => with_reducible exact rfl); (next => kernel_rfl); (next => exact rfl); (next => exact rfl); (next => exact rfl); (next => ((repeat (first | exact Upd.head _ | apply Upd.tail)); done)); (next => first | with_reducible exact CV1.out | with_reducible exact CV2.out | with_reducible exact CV3.out | with_reducible exact CV4.out | with_reducible exact CV5.out | with_reducible exact CV6.out | with_reducible exact CV7.out | with_reducible exact CV8.out); (next => first | exact PU1.out | exact PU2.out | exact PU3.out | exact PU4.out | exact PU5.out | exact PU6.out))
        | ((with_reducible apply Wr.whole); (next => with_reducible exact rfl); (next => exact rfl); (next => exact rfl); (next => ((repeat (first | exact Upd.head _ | apply Upd.tail)); done)); (next => first | with_reducible exact HC.out | exact (show Hid (Cells _ _) by assumption).out)))
      | ((with_reducible apply Wr.alloc); (next => with_reducible exact rfl); first | ((next => exact AL1.out.1); (next => exact AL1.out.2)) | ((next => exact AL2.out.1); (next => exact AL2.out.2)) | ((next => exact AL3.out.1); (next => exact AL3.out.2)) | ((next => exact AL4.out.1); (next => exact AL4.out.2)))
      | ((with_reducible apply Wr.box); (next => with_reducible exact rfl); (next => exact rfl); (next => first | with_reducible exact HC.out | exact (show Hid (Cells _ _) by assumption).out))
      | fail)
    (hw : Region.wanted op (yielded ops a.tmps) = true := by first | exact wanted_none rfl | exact wanted_some rfl rfl rfl | fail) : wpList Try.prog ops Q (op :: rest) a w :=
  BigFrame.wpList_want hw fun K hK => h.run w K Q HM.out (fun w1 b hm => hK _ _ (k w1 b (Lib.hid hm) hm.below))
end
section
variable {md : Region.Mode} {ops : Array Oper} {Q : Exit → Act → World → Prop} {S : World → Prop} {fuel : Nat} {listed : Array Bool} {a a' : Act} {w : World}
/-- In a region that draws: an operation is taken first; its value is found by running it. -/
theorem tk (i d : Nat) {v : Value} {oi : Oper} (k : wpAnyH Try.prog md ops Q S fuel (listed.setIfInBounds i true) a' w) (hi : ops[i]? = some oi := by first | exact rfl | fail) (hd : oi.dst = some d := by first | exact rfl | fail)
    (hs : Region.noSelect ops = true := by first | kernel_rfl | fail) (hf : Region.free md ops listed i = true := by first | kernel_rfl | fail) (hr : (Region.ready md ops listed).contains i = true := by first | kernel_rfl | fail)
    (hw : Region.wanted oi (yielded ops a.tmps) = true := by first | kernel_rfl | fail)
    (hv : ∀ w', S w' → (execOp a.eval oi).run Try.prog w' = .ok (.value v) w' := by first | (intro w' hw; (try dsimp only at hw); (try have hwb := Mem.below hw); go_simp; (try (rw [if_pos (by omega)])); (try with_reducible rfl)) | fail)
    (hS : S w := by first | exact hS | fail) (ha : a.put (some d) v = a' := by first | (simp only [Act.put, List.setIfInBounds_toArray, List.set_cons_zero, List.set_cons_succ]; done) | (simp only [Act.put, List.setIfInBounds_toArray, List.set_cons_zero, List.set_cons_succ]; exact rfl) | exact rfl | fail)
    (hQ : ∀ c a w, Q (.panic c) (a.put (some d) v) w → Q (.panic c) a w := by first | exact fun _ _ _ h => h | fail) : wpAnyH Try.prog md ops Q S (fuel + 1) listed a w := by
  subst ha
  exact take_at i d v hi hd hs hf hr hQ (.inl ⟨hw, hv⟩) hS k
/-- Its value is told. -/
theorem tkv (i d : Nat) (v : Value) {oi : Oper} (hi : ops[i]? = some oi) (hy : YieldsIf Try.prog ops S oi v a) (k : wpAnyH Try.prog md ops Q S fuel (listed.setIfInBounds i true) a' w) (hd : oi.dst = some d := by first | exact rfl | fail)
    (hs : Region.noSelect ops = true := by first | kernel_rfl | fail) (hf : Region.free md ops listed i = true := by first | kernel_rfl | fail) (hr : (Region.ready md ops listed).contains i = true := by first | kernel_rfl | fail)
    (hS : S w := by first | exact hS | fail) (ha : a.put (some d) v = a' := by first | (simp only [Act.put, List.setIfInBounds_toArray, List.set_cons_zero, List.set_cons_succ]; done) | (simp only [Act.put, List.setIfInBounds_toArray, List.set_cons_zero, List.set_cons_succ]; exact rfl) | exact rfl | fail)
    (hQ : ∀ c a w, Q (.panic c) (a.put (some d) v) w → Q (.panic c) a w := by first | exact fun _ _ _ h => h | fail) : wpAnyH Try.prog md ops Q S (fuel + 1) listed a w := by
  subst ha
  exact take_at i d v hi hd hs hf hr hQ hy hS k
/-- Its guard fails. -/
theorem tku (i d : Nat) {oi : Oper} (k : wpAnyH Try.prog md ops Q S fuel (listed.setIfInBounds i true) a' w) (hi : ops[i]? = some oi := by first | exact rfl | fail) (hd : oi.dst = some d := by first | exact rfl | fail)
    (hs : Region.noSelect ops = true := by first | kernel_rfl | fail) (hf : Region.free md ops listed i = true := by first | kernel_rfl | fail) (hr : (Region.ready md ops listed).contains i = true := by first | kernel_rfl | fail)
    (hw : Region.wanted oi (yielded ops a.tmps) = false := by first | kernel_rfl | fail)
    (hS : S w := by first | exact hS | fail) (ha : a.put (some d) undef = a' := by first | (simp only [Act.put, List.setIfInBounds_toArray, List.set_cons_zero, List.set_cons_succ]; done) | (simp only [Act.put, List.setIfInBounds_toArray, List.set_cons_zero, List.set_cons_succ]; exact rfl) | exact rfl | fail)
    (hQ : ∀ c a w, Q (.panic c) (a.put (some d) undef) w → Q (.panic c) a w := by first | exact fun _ _ _ h => h | fail) : wpAnyH Try.prog md ops Q S (fuel + 1) listed a w := by
  subst ha
  exact take_at i d undef hi hd hs hf hr hQ (.inr ⟨hw, rfl⟩) hS k
/-- One operation alone may come up: it is run. -/
theorem rone (i : Nat) {oi : Oper} (hi : ops.toList[i]? = some oi) (k : ∀ K' : Act → World → Prop, Shut (∀ a w, S w → (S w → wpAnyH Try.prog md ops Q S fuel (listed.setIfInBounds i true) a w) → K' a w) → if Region.wanted oi (yielded ops a.tmps) = true then Oper.wp Try.prog oi a w K' Q else K' (a.put oi.dst undef) w)
    (hr : Region.ready md ops listed = [i] := by first | kernel_rfl | fail) : wpAnyH Try.prog md ops Q S (fuel + 1) listed a w :=
  wpAnyH_ready hr (by simp) (AllReadyH.cons (by rw [← hi]; simp) k AllReadyH.nil)
end
theorem s_wr {ops : Array Oper} {op : Oper} {a : Act} {K : Act → World → Prop} {Q : Exit → Act → World → Prop} {E : Prop} {w0 w : World} {es : List Ent} {v : Nat → Value} {e : Nat → List Ent}
    (k : ∀ w1 b, HMem w0 w1 (e b) → Below w0.heap.size w0 w1 → K (a.put op.dst (v b)) w1) (HM : HMem w0 w es) (h : Wr w0 es op a v e) (hw : Region.wanted op (yielded ops a.tmps) = true) : if Region.wanted op (yielded ops a.tmps) = true then Oper.wp Try.prog op a w K Q else E := by
  rw [if_pos hw]
  exact h.run w K Q HM.out (fun w1 b hm => k w1 b (Lib.hid hm) hm.below)
theorem Mem.keep {w0 w : World} {es : List Ent} (h : Mem w0 w es) {e : Ent} (m : e ∈ es) : Mem w0 w [e] := h.sub (List.singleton_sublist.2 m)
section
variable {R : Ending → World → Prop} {fn : Func} {a : Act} {w0 w : World} {es : List Ent}
/-- The results: a block's cells; or these and one more value, or two. -/
theorem m_ret_c {r : Tmp} {t : TypeId} (h : fn.results = #[.cell r t]) (hd : a.defers = []) {b : Nat} (ha : a.tmps.getD r undef = .pointer (some ⟨b, 0, none⟩)) (HM : HMem w0 w es) {cs : Array Value} (m : Ent.blk b cs t ∈ es)
    {d : TypeDesc} (hu : Try.prog.underlying t = some d) (hr : d.isRow = true) (hR : R (.returned (.agg cs)) w) : bodyPost Try.prog fn R .ret a w :=
  bodyPost_ret (results_c h _ _ _ b cs ha (load_block (HM.out.get m) t d hu hr (HM.out.size m))) hd hR
theorem m_ret_c1 {r p : Tmp} {t : TypeId} (h : fn.results = #[.cell r t, .tmp p]) (hd : a.defers = []) {b : Nat} (ha : a.tmps.getD r undef = .pointer (some ⟨b, 0, none⟩)) (HM : HMem w0 w es) {cs : Array Value} (m : Ent.blk b cs t ∈ es)
    {d : TypeDesc} (hu : Try.prog.underlying t = some d) (hr : d.isRow = true) (hR : R (.returned (.tuple #[.agg cs, a.tmps.getD p undef])) w) : bodyPost Try.prog fn R .ret a w :=
  bodyPost_ret (results_c1 h _ _ _ b cs ha (load_block (HM.out.get m) t d hu hr (HM.out.size m))) hd hR
theorem m_ret_c2 {r p q : Tmp} {t : TypeId} (h : fn.results = #[.cell r t, .tmp p, .tmp q]) (hd : a.defers = []) {b : Nat} (ha : a.tmps.getD r undef = .pointer (some ⟨b, 0, none⟩)) (HM : HMem w0 w es) {cs : Array Value} (m : Ent.blk b cs t ∈ es)
    {d : TypeDesc} (hu : Try.prog.underlying t = some d) (hr : d.isRow = true) (hR : R (.returned (.tuple #[.agg cs, a.tmps.getD p undef, a.tmps.getD q undef])) w) : bodyPost Try.prog fn R .ret a w :=
  bodyPost_ret (results_c2 h _ _ _ b cs ha (load_block (HM.out.get m) t d hu hr (HM.out.size m))) hd hR
end
end Go.Proofs.Ytkfjobanbnokoaa.Gm
