/- One law for a step that reads, one for a step that writes, one for append; which kind of step it is, the default proofs of their arguments find. -/
import Derived.Test.YtahnibhcfdamdaaMw
set_option linter.unusedSimpArgs false
set_option linter.unusedVariables false
set_option maxRecDepth 100000
namespace Go.Proofs.Ytahnibhcfdamdaa.Mm
open Go.RowKit Go.Proofs.YtahnibhcfdamdaaW.PrintWords Go.Proofs.Ytahnibhcfdamdaa.Bs Go.Proofs.Ytahnibhcfdamdaa.Co Go.Proofs.Ytahnibhcfdamdaa.Hd Go.Proofs.Ytahnibhcfdamdaa.Av Go.Proofs.Ytahnibhcfdamdaa.Ad

/-- 'b[:h]' of a slice that is there. -/
theorem run_to (ad : Addr) (n c : Nat) (hi : Int) (m : Nat) (hh : hi = (m : Int)) (h2 : m ≤ c) (h3 : 0 < c) (W : World) :
    (Instr.slice 26 (.slice (.some ad) n c) none (.some (.int .i64 hi)) none).run Try.prog W = .ok (.slice (.some ad) m c) W := by
  subst hh
  obtain ⟨i8, hi8, hs8⟩ := info8'
  rw [run_slice_h W 26 (.some ad) n c under8 .i64 (m : Int) (by omega) (by omega), elem8]
  simp [sizeOf, typeInfo, hi8, hs8, sliced, Result.andThen, show ¬ c = 0 by omega, add_zero]
/-- An operation that leaves the world as it is, and what it hands over. -/
structure Rd (w0 : World) (es : List Ent) (op : Oper) (a : Act) (v : Value) : Prop where
  run : ∀ (w : World) (K : Act → World → Prop) (Q : Exit → Act → World → Prop), Mem w0 w es → K (a.put op.dst v) w → Oper.wp Try.prog op a w K Q
/-- An operation that turns what the call owns. -/
structure Wr (w0 : World) (es : List Ent) (op : Oper) (a : Act) (v : Nat → Value) (es' : Nat → List Ent) : Prop where
  run : ∀ (w : World) (K : Act → World → Prop) (Q : Exit → Act → World → Prop), Mem w0 w es → (∀ w1 b, Mem w0 w1 (es' b) → K (a.put op.dst (v b)) w1) → Oper.wp Try.prog op a w K Q
theorem run_load1 {t : TypeId} (hu : (Try.prog.underlying t).map (·.isRow) = some false) (W : World) (a : Addr) (v : Value) (hc : W.cell? a = some v) : (loadVar t a).run Try.prog W = .ok v W := by
  obtain ⟨d, hd, hr⟩ := Option.map_eq_some_iff.1 hu
  cases d <;> first | (simp [TypeDesc.isRow] at hr; done) | simp [loadVar, isAgg, run_underlying hd, go_sem, hc]
section
variable {w0 : World} {es es' : List Ent} {op : Oper} {a : Act}
theorem Rd.cell {t : TypeId} {x : Operand} (ho : op.op = .load t x) (hu : (Try.prog.underlying t).map (·.isRow) = some false) {b i : Nat} (hx : a.eval x = .pointer (some ⟨b, i, none⟩)) {cs : Array Value} {T : TypeId} (m : Ent.blk b cs T ∈ es) {v : Value} (hv : cs[i]? = some v) : Rd w0 es op a v := .mk fun w K Q HM hK => by
  unfold Oper.wp
  have hrun := run_load1 hu w _ v ((blk_cell (HM.get m) i).trans hv)
  simp [execOp, ho, hx, Instr.loadAt, Instr.sureAddr, hrun, Result.andThen]
  exact hK
theorem Rd.int {x : Operand} (ho : op.op = .load 3 x) {b i : Nat} (hx : a.eval x = .pointer (some ⟨b, i, none⟩)) {cs : Array Value} {T : TypeId} (m : Ent.blk b cs T ∈ es) {v : Value} (hv : cs[i]? = some v) : Rd w0 es op a v := Rd.cell ho (by kernel_rfl) hx m hv
theorem Rd.whole {t : TypeId} {x : Operand} (ho : op.op = .load t x) (hu : (Try.prog.underlying t).map (·.isRow) = some true) {b : Nat} (hx : a.eval x = .pointer (some ⟨b, 0, none⟩)) {cs : Array Value} (m : Ent.blk b cs t ∈ es) : Rd w0 es op a (.agg cs) := .mk fun w K Q HM hK => by
  obtain ⟨d, hd, hr⟩ := Option.map_eq_some_iff.1 hu
  exact wp_load_mid (P := Try.prog) t x ho b 0 hx cs.toList d (range_block (HM.get m)) hd hr (by simpa using HM.size m) (by simpa using hK)
theorem Rd.part {t : TypeId} {x : Operand} (ho : op.op = .load t x) {b o : Nat} (hx : a.eval x = .pointer (some ⟨b, o, none⟩)) {cs : Array Value} {T : TypeId} (m : Ent.blk b cs T ∈ es) {vs : Array Value} (hv : ∀ j v, vs.toList[j]? = some v → cs[o + j]? = some v)
    (hi : (Try.prog.info? t).map (·.size) = some vs.size) (hu : (Try.prog.underlying t).map (·.isRow) = some true) : Rd w0 es op a (.agg vs) := .mk fun w K Q HM hK => by
  obtain ⟨d, hd, hr⟩ := Option.map_eq_some_iff.1 hu
  exact wp_load_mid (P := Try.prog) t x ho b o hx vs.toList d (fun j v hj => (blk_cell (HM.get m) (o + j)).trans (hv j v hj)) hd hr (by simpa using hi) (by simpa using hK)
theorem Rd.src {x : Operand} (ho : op.op = .load 25 x) {b : Nat} (hx : a.eval x = .pointer (some ⟨b, 9, none⟩)) {ns : List Int} {p : Int} {u : List UInt8} {q : Int} {v : List UInt8} {T : TypeId} (m : Ent.blk b (HV ns p u q v) T ∈ es) (hn : ns.length = 9) (hu : u.length = 16) : Rd w0 es op a (.agg (AV [p] u)) :=
  Rd.part ho hx m (HV_src ns p u q v 9 hn.symm hu) (info_AV p u hu) (by kernel_rfl)
theorem Rd.dst {x : Operand} (ho : op.op = .load 25 x) {b : Nat} (hx : a.eval x = .pointer (some ⟨b, 26, none⟩)) {ns : List Int} {p : Int} {u : List UInt8} {q : Int} {v : List UInt8} {T : TypeId} (m : Ent.blk b (HV ns p u q v) T ∈ es) (hn : ns.length = 9) (hu : u.length = 16) (hv : v.length = 16) : Rd w0 es op a (.agg (AV [q] v)) :=
  Rd.part ho hx m (HV_dst ns p u q v 26 (by rw [hn]) hu) (info_AV q v hv) (by kernel_rfl)
theorem Rd.build {t : TypeId} {ps : Array (Nat × Operand)} (ho : op.op = .build t ps) {qs : Array (Nat × Value)} {v : Value} (hz : Built t qs v) (hq : ps.toList.map (fun p => (p.1, a.eval p.2)) = qs.toList) : Rd w0 es op a v := .mk fun w K Q HM hK => by
  have hq2 : ps.map (fun p => (p.1, a.eval p.2)) = qs := Array.ext' (by rw [Array.toList_map]; exact hq)
  subst hq2
  unfold Oper.wp
  have := hz w
  simp [execOp, ho, resolve, this, Result.andThen]
  exact hK
theorem built_zeroH : Built 31 #[] (.agg ZH) := fun W => by kernel_rfl
theorem built_zeroA : Built 25 #[] (.agg ZA) := fun W => by kernel_rfl
theorem Rd.eql {t u : TypeId} {x y : Operand} (ho : op.op = .binOp .eql t x y u) {vx vy : Array Value} (hx : a.eval x = .agg vx) (hy : a.eval y = .agg vy) {r : Bool} (he : EqlOf t vx vy r) (hgt : Try.prog.eqGuardType Try.prog.depth t = false) : Rd w0 es op a (.bool r) := .mk fun w K Q HM hK => by
  unfold Oper.wp
  have := he w
  have hg : (eqGuard .eql t x y (.agg vx) (.agg vy)).run Try.prog w = .ok () w := by simp [eqGuard, hgt]
  simp [execOp, ho, resolve, hx, hy, hg, this, Result.andThen]
  exact hK
theorem Rd.neq {t u : TypeId} {x y : Operand} (ho : op.op = .binOp .neq t x y u) {vx vy : Array Value} (hx : a.eval x = .agg vx) (hy : a.eval y = .agg vy) {r : Bool} (he : EqlOf t vx vy r) (hgt : Try.prog.eqGuardType Try.prog.depth t = false) : Rd w0 es op a (.bool (!r)) := .mk fun w K Q HM hK => by
  unfold Oper.wp
  have := run_neq_of he w
  have hg : (eqGuard .neq t x y (.agg vx) (.agg vy)).run Try.prog w = .ok () w := by simp [eqGuard, hgt]
  simp [execOp, ho, resolve, hx, hy, hg, this, Result.andThen]
  exact hK
theorem Rd.g_load {v : Value} {t : TypeId} {x : Operand} (_ho : op.op = .load t x) (h : Rd w0 es op a v) : Rd w0 es op a v := h
theorem Rd.g_build {v : Value} {t : TypeId} {ps : Array (Nat × Operand)} (_ho : op.op = .build t ps) (h : Rd w0 es op a v) : Rd w0 es op a v := h

theorem Wr.alloc {t : TypeId} (ho : op.op = .alloc t) {z : Array Value} (hz : ∀ W : World, (zeroValue t).run Try.prog W = .ok (.agg z) W) (hi : Cells t z) : Wr w0 es op a (fun b => .pointer (some ⟨b, 0, none⟩)) (fun b => .blk b z t :: es) := .mk fun w K Q HM hK => by
  unfold Oper.wp
  simp [execOp, ho, Instr.alloc, hz, newVar, newRow, Result.andThen]
  exact hK _ _ (HM.alloc _ _ hi.1)
theorem Wr.box {t : TypeId} {x : Operand} (ho : op.op = .box t x) {cs : Array Value} (hx : a.eval x = .agg cs) (hi : Cells t cs) : Wr w0 es op a (fun b => .pointer (some ⟨b, 0, none⟩)) (fun b => .blk b cs t :: es) := .mk fun w K Q HM hK => by
  unfold Oper.wp
  simp [execOp, ho, newVar, newRow, Result.andThen, hx]
  exact hK _ _ (HM.alloc _ _ hi.1)
theorem Wr.put {x y : Operand} (ho : op.op = .store 3 x y) {b i : Nat} (hx : a.eval x = .pointer (some ⟨b, i, none⟩)) {n : Int} (hy : a.eval y = .int .i64 n) {cs cs' : Array Value} {T : TypeId}
    (u : Upd (.blk b cs T) (.blk b cs' T) es es') {v0 : Value} (hc0 : cs[i]? = some v0) (hc : cs.setIfInBounds i (.int .i64 n) = cs') : Wr w0 es op a (fun _ => undef) (fun _ => es') := .mk fun w K Q HM hK => by
  unfold Oper.wp
  have hrun := run_storeI w _ n v0 ((blk_cell (HM.get u.mem) i).trans hc0) (blk_frozen (HM.get u.mem) i)
  simp [execOp, ho, hx, hy, Instr.storeAt, Instr.sureAddr, hrun, Result.andThen]
  exact hK _ 0 (HM.cell i _ hc u)
theorem Wr.putRow {x y : Operand} (ho : op.op = .store 5 x y) {g j : Nat} (hx : a.eval x = .pointer (some ⟨g, j, none⟩)) {n : Int} (hy : a.eval y = .int .u8 n) {k cap : Nat} {l : List UInt8}
    (u : Upd (.row (.slice (some ⟨g, 0, none⟩) k cap) l) (.row (.slice (some ⟨g, 0, none⟩) k cap) (l.set j (UInt8.ofNat n.toNat))) es es') (hj : decide (j < k) = true) (hn : 0 ≤ n ∧ n < 256) : Wr w0 es op a (fun _ => undef) (fun _ => es') := .mk fun w K Q HM hK => by
  unfold Oper.wp
  have hob := HM.ob u.mem
  have hat := hob.at_ j (by have := of_decide_eq_true hj; rw [← hob.size]; exact this)
  have hrun := run_store8 w ⟨g, j, none⟩ n _ hat.1 hat.2
  simp [execOp, ho, hx, hy, Instr.storeAt, Instr.sureAddr, hrun, Result.andThen]
  exact hK _ 0 (HM.putRow hn.1 hn.2 u)
theorem Wr.whole {t : TypeId} {x y : Operand} (ho : op.op = .store t x y) {b : Nat} (hx : a.eval x = .pointer (some ⟨b, 0, none⟩)) {vs : Array Value} (hy : a.eval y = .agg vs) {cs : Array Value}
    (u : Upd (.blk b cs t) (.blk b vs t) es es') (hc : Cells t vs) : Wr w0 es op a (fun _ => undef) (fun _ => es') := .mk fun w K Q HM hK => by
  have hs : vs.size = cs.size := by
    have h1 := HM.size u.mem
    rw [hc.1] at h1
    injection h1
  exact wp_store_mid (P := Try.prog) t x y ho b 0 vs hx hy (by rw [hs]; exact there_block (HM.get u.mem)) (by rw [hs]; exact HM.size u.mem) hc.2 (hK _ 0 (HM.store hs u))
theorem Wr.lit {n : Nat} {ps : Array (Nat × Operand)} (ho : op.op = .buildSlice 26 n ps) {qs : Array (Nat × Value)} {l : List UInt8} (hL : LitOf n qs l) (hq : ps.toList.map (fun p => (p.1, a.eval p.2)) = qs.toList) :
    Wr w0 es op a (fun b => .slice (some ⟨b, 0, none⟩) n n) (fun b => .row (.slice (some ⟨b, 0, none⟩) n n) l :: es) := .mk fun w K Q HM hK => by
  obtain ⟨hl, hn, hz⟩ := hL
  have hq2 : ps.map (fun p => (p.1, a.eval p.2)) = qs := Array.ext' (by rw [Array.toList_map]; exact hq)
  subst hq2
  unfold Oper.wp
  have := hz w
  simp [execOp, ho, resolve, this, Result.andThen]
  refine hK _ _ (HM.row (below_alloc (Below.refl _ _) _) ?_)
  have h2 := OB.lit w w.heap.size l (Nat.le_refl _) (by omega)
  rw [hl] at h2
  exact h2
theorem Wr.slices {t : TypeId} {n : Nat} {ps : Array (Nat × Operand)} (ho : op.op = .buildSlice t n ps) {qs : Array (Nat × Value)} {cs : Array Value} {T : TypeId}
    (hz : ∀ W : World, (Instr.buildSlice t n qs).run Try.prog W = .ok (.slice (some ⟨W.heap.size, 0, none⟩) n n) (W.alloc (.cells cs T))) (hq : ps.toList.map (fun p => (p.1, a.eval p.2)) = qs.toList) :
    Wr w0 es op a (fun b => .slice (some ⟨b, 0, none⟩) n n) (fun b => .raw b cs T :: es) := .mk fun w K Q HM hK => by
  have hq2 : ps.map (fun p => (p.1, a.eval p.2)) = qs := Array.ext' (by rw [Array.toList_map]; exact hq)
  subst hq2
  unfold Oper.wp
  have := hz w
  simp [execOp, ho, resolve, this, Result.andThen]
  exact hK _ _ (HM.allocRaw cs T)
theorem Wr.sl1 {x1 : Operand} (ho : op.op = .buildSlice 62 1 #[(0, x1)]) {a1 : Option Addr} {n1 c1 : Nat} (h1 : a.eval x1 = .slice a1 n1 c1) :
    Wr w0 es op a (fun b => .slice (some ⟨b, 0, none⟩) 1 1) (fun b => .raw b #[.slice a1 n1 c1] 26 :: es) :=
  Wr.slices ho (slices1 a1 n1 c1) (by simp [h1])
theorem Wr.sl2 {x1 x2 : Operand} (ho : op.op = .buildSlice 62 2 #[(0, x1), (1, x2)]) {a1 : Option Addr} {n1 c1 : Nat} (h1 : a.eval x1 = .slice a1 n1 c1) {a2 : Option Addr} {n2 c2 : Nat} (h2 : a.eval x2 = .slice a2 n2 c2) :
    Wr w0 es op a (fun b => .slice (some ⟨b, 0, none⟩) 2 2) (fun b => .raw b #[.slice a1 n1 c1, .slice a2 n2 c2] 26 :: es) :=
  Wr.slices ho (slices2 a1 a2 n1 c1 n2 c2) (by simp [h1, h2])
theorem Wr.sl3 {x1 x2 x3 : Operand} (ho : op.op = .buildSlice 62 3 #[(0, x1), (1, x2), (2, x3)]) {a1 : Option Addr} {n1 c1 : Nat} (h1 : a.eval x1 = .slice a1 n1 c1) {a2 : Option Addr} {n2 c2 : Nat} (h2 : a.eval x2 = .slice a2 n2 c2) {a3 : Option Addr} {n3 c3 : Nat} (h3 : a.eval x3 = .slice a3 n3 c3) :
    Wr w0 es op a (fun b => .slice (some ⟨b, 0, none⟩) 3 3) (fun b => .raw b #[.slice a1 n1 c1, .slice a2 n2 c2, .slice a3 n3 c3] 26 :: es) :=
  Wr.slices ho (slices3 a1 a2 a3 n1 c1 n2 c2 n3 c3) (by simp [h1, h2, h3])
theorem Wr.sl4 {x1 x2 x3 x4 : Operand} (ho : op.op = .buildSlice 62 4 #[(0, x1), (1, x2), (2, x3), (3, x4)]) {a1 : Option Addr} {n1 c1 : Nat} (h1 : a.eval x1 = .slice a1 n1 c1) {a2 : Option Addr} {n2 c2 : Nat} (h2 : a.eval x2 = .slice a2 n2 c2) {a3 : Option Addr} {n3 c3 : Nat} (h3 : a.eval x3 = .slice a3 n3 c3) {a4 : Option Addr} {n4 c4 : Nat} (h4 : a.eval x4 = .slice a4 n4 c4) :
    Wr w0 es op a (fun b => .slice (some ⟨b, 0, none⟩) 4 4) (fun b => .raw b #[.slice a1 n1 c1, .slice a2 n2 c2, .slice a3 n3 c3, .slice a4 n4 c4] 26 :: es) :=
  Wr.slices ho (slices4 a1 a2 a3 a4 n1 c1 n2 c2 n3 c3 n4 c4) (by simp [h1, h2, h3, h4])
theorem Wr.g_store {v : Nat → Value} {e : Nat → List Ent} {t : TypeId} {x y : Operand} (_ho : op.op = .store t x y) (h : Wr w0 es op a v e) : Wr w0 es op a v e := h
theorem Wr.g_slice {v : Nat → Value} {e : Nat → List Ent} {t : TypeId} {n : Nat} {ps : Array (Nat × Operand)} (_ho : op.op = .buildSlice t n ps) (h : Wr w0 es op a v e) : Wr w0 es op a v e := h
end
section
variable {ops : Array Oper} {rest : List Oper} {op : Oper} {a : Act} {Q : Exit → Act → World → Prop} {w0 w : World} {es : List Ent}
theorem m_rd {v : Value} (k : wpList Try.prog ops Q rest (a.put op.dst v) w) (HM : HMem w0 w es := by first | exact HM | fail)
    (h : Rd w0 es op a v := by first
      | ((with_reducible apply Rd.g_load); (next => with_reducible exact rfl); first
        | ((with_reducible apply Rd.int); (next => with_reducible exact rfl); (next => exact rfl); (next => ((repeat (first | exact List.Mem.head _ | apply List.Mem.tail)); done)); (next => first | exact HV_num _ _ _ _ _ _ _ rfl | exact AV_num _ _ _ | exact HV_at9 _ _ _ _ _ rfl | exact HV_at26 _ _ _ _ _ rfl HX.out))
        | ((with_reducible apply Rd.whole); (next => with_reducible exact rfl); (next => kernel_rfl); (next => exact rfl); (next => ((repeat (first | exact List.Mem.head _ | apply List.Mem.tail)); done)))
        | ((with_reducible apply Rd.src); (next => with_reducible exact rfl); (next => exact rfl); (next => ((repeat (first | exact List.Mem.head _ | apply List.Mem.tail)); done)); (next => exact rfl); (next => exact HX.out))
        | ((with_reducible apply Rd.dst); (next => with_reducible exact rfl); (next => exact rfl); (next => ((repeat (first | exact List.Mem.head _ | apply List.Mem.tail)); done)); (next => exact rfl); (next => exact HX.out); (next => exact HY.out)))
      | ((with_reducible apply Rd.g_build); (next => with_reducible exact rfl); apply Rd.build; (next => with_reducible exact rfl); first
        | ((next => exact BH1.out); (next => exact rfl)) | ((next => exact BH2.out); (next => exact rfl)) | ((next => exact BH3.out); (next => exact rfl)) | ((next => exact BH4.out); (next => exact rfl)) | ((next => exact BH5.out); (next => exact rfl)) | ((next => exact BH6.out); (next => exact rfl)) | ((next => exact built_zeroH); (next => exact rfl)) | ((next => exact built_zeroA); (next => exact rfl)))
      | ((with_reducible apply Rd.eql); (next => with_reducible exact rfl); (next => exact rfl); (next => exact rfl); (next => first | exact EQ1.out | exact EQ2.out | exact EQ3.out | exact EQ4.out); (next => kernel_rfl))
      | ((with_reducible apply Rd.neq); (next => with_reducible exact rfl); (next => exact rfl); (next => exact rfl); (next => first | exact EQ1.out | exact EQ2.out | exact EQ3.out | exact EQ4.out); (next => kernel_rfl))
      | fail)
    (hw : Region.wanted op (yielded ops a.tmps) = true := by first | kernel_rfl | fail) : wpList Try.prog ops Q (op :: rest) a w :=
  BigFrame.wpList_want hw fun K hK => h.run w K Q HM.out (hK _ _ k)
theorem m_wr {v : Nat → Value} {e : Nat → List Ent} (k : ∀ w1 b, HMem w0 w1 (e b) → Below w0.heap.size w0 w1 → wpList Try.prog ops Q rest (a.put op.dst (v b)) w1) (HM : HMem w0 w es := by first | exact HM | fail)
    (h : Wr w0 es op a v e := by first
      | ((with_reducible apply Wr.g_store); (next => with_reducible exact rfl); first
        | ((with_reducible apply Wr.put); (next => with_reducible exact rfl); (next => exact rfl); (next => exact rfl); (next => ((repeat (first | exact Upd.head _ | apply Upd.tail)); done)); (next => exact HV_num _ _ _ _ _ _ _ rfl); (next => exact HV_set1 _ _ _ _ _ _ _ rfl))
        | ((with_reducible apply Wr.putRow); (next => with_reducible exact rfl); (next => exact rfl); (next => exact rfl); (next => ((repeat (first | exact Upd.head _ | apply Upd.tail)); done)); (next => exact rfl); (next => exact ⟨by omega, by omega⟩))
        | ((with_reducible apply Wr.whole); (next => with_reducible exact rfl); (next => exact rfl); (next => exact rfl); (next => ((repeat (first | exact Upd.head _ | apply Upd.tail)); done)); (next => (first | with_reducible exact cellsZH | with_reducible exact cellsZA | with_reducible exact HC.out | exact (show Hid (Cells _ _) by assumption).out))))
      | ((with_reducible apply Wr.g_slice); (next => with_reducible exact rfl); first
        | ((with_reducible apply Wr.lit); (next => with_reducible exact rfl); first | ((next => exact LT1.out); (next => exact rfl)) | ((next => exact LT2.out); (next => exact rfl)) | ((next => exact LT3.out); (next => exact rfl)))
        | ((with_reducible apply Wr.sl1); (next => with_reducible exact rfl); (next => exact rfl))
        | ((with_reducible apply Wr.sl2); (next => with_reducible exact rfl); (next => exact rfl); (next => exact rfl))
        | ((with_reducible apply Wr.sl3); (next => with_reducible exact rfl); (next => exact rfl); (next => exact rfl); (next => exact rfl))
        | ((with_reducible apply Wr.sl4); (next => with_reducible exact rfl); (next => exact rfl); (next => exact rfl); (next => exact rfl); (next => exact rfl)))
      | ((with_reducible apply Wr.alloc); (next => with_reducible exact rfl); first | ((next => exact zeroH); (next => exact cellsZH)) | ((next => exact zeroA); (next => exact cellsZA)))
      | ((with_reducible apply Wr.box); (next => with_reducible exact rfl); (next => exact rfl); (next => (first | with_reducible exact cellsZH | with_reducible exact cellsZA | with_reducible exact HC.out | exact (show Hid (Cells _ _) by assumption).out)))
      | fail)
    (hw : Region.wanted op (yielded ops a.tmps) = true := by first | kernel_rfl | fail) : wpList Try.prog ops Q (op :: rest) a w :=
  BigFrame.wpList_want hw fun K hK => h.run w K Q HM.out (fun w1 b hm => hK _ _ (k w1 b (Lib.hid hm) hm.below))
/-- append on a row of the call's own. -/
theorem m_ap {es' : List Ent} {s x : Operand} {v u : Value} {xs ys : List UInt8} {n : Nat} (k : ∀ w1 A1 c1, HMem w0 w1 (.row (.slice A1 n c1) (xs ++ ys) :: es') → Below w0.heap.size w0 w1 → wpList Try.prog ops Q rest (a.put op.dst (.slice A1 n c1)) w1)
    (ho : op.op = .call { callee := .builtin .append, args := #[s, x], argTypes := #[26, 26] } := by first | with_reducible exact rfl | fail)
    (hg : op.guard = none := by first | with_reducible exact rfl | fail) (hs : a.eval s = v := by first | exact rfl | fail) (hx : a.eval x = u := by first | exact rfl | fail) (HM : HMem w0 w es := by first | exact HM | fail)
    (m : Del (.row v xs) es es' := by first | ((repeat (first | exact Del.head _ | apply Del.tail)); done) | fail) (HR : RB w u ys := by first | (apply Mem.rb HM.out; ((repeat (first | exact List.Mem.head _ | apply List.Mem.tail)); done)) | exact HR.out.below HB | fail)
    (hn : xs.length + ys.length = n := by first | exact HN1.out | exact HN2.out | exact HN3.out | exact HN4.out | fail) (hl : n ≤ 140737488355328 := by first | omega | fail) : wpList Try.prog ops Q (op :: rest) a w :=
  m_append hg ho hs hx HM m HR hn hl k
end
section
variable {md : Region.Mode} {ops : Array Oper} {Q : Exit → Act → World → Prop} {S : World → Prop} {fuel : Nat} {listed : Array Bool} {a a' : Act} {w : World}
/-- In a region that draws: an operation is taken first; its value is found by running it. -/
theorem tk (i d : Nat) {v : Value} {oi : Oper} (k : wpAnyH Try.prog md ops Q S fuel (listed.setIfInBounds i true) a' w) (hi : ops[i]? = some oi := by first | exact rfl | fail) (hd : oi.dst = some d := by first | exact rfl | fail)
    (hs : Region.noSelect ops = true := by first | kernel_rfl | fail) (hf : Region.free md ops listed i = true := by first | kernel_rfl | fail) (hr : (Region.ready md ops listed).contains i = true := by first | kernel_rfl | fail)
    (hw : Region.wanted oi (yielded ops a.tmps) = true := by first | kernel_rfl | fail)
    (hv : ∀ w', S w' → (execOp a.eval oi).run Try.prog w' = .ok (.value v) w' := by first | (intro w' hw; (try dsimp only at hw); (try have hwb := Mem.below hw); go_simp; (try (rw [if_pos (by omega)])); (try simp (disch := omega) only [wrapI, tmodI, tdivI]); (try with_reducible rfl)) | fail)
    (hS : S w := by first | exact hS | fail) (ha : a.put (some d) v = a' := by first | (simp only [Act.put, List.setIfInBounds_toArray, List.set_cons_zero, List.set_cons_succ]; done) | (simp only [Act.put, List.setIfInBounds_toArray, List.set_cons_zero, List.set_cons_succ]; exact rfl) | exact rfl | fail)
    (hQ : ∀ c a w, Q (.panic c) (a.put (some d) v) w → Q (.panic c) a w := by first | exact fun _ _ _ h => h | fail) : wpAnyH Try.prog md ops Q S (fuel + 1) listed a w := by
  subst ha
  exact take_at i d v hi hd hs hf hr hQ (.inl ⟨hw, hv⟩) hS k
/-- Its value is told. -/
theorem tkv (i d : Nat) (v : Value) {oi : Oper} (hi : ops[i]? = some oi) (hy : YieldsIf Try.prog ops S oi v a) (k : wpAnyH Try.prog md ops Q S fuel (listed.setIfInBounds i true) a' w) (hd : oi.dst = some d := by first | exact rfl | fail)
    (hs : Region.noSelect ops = true := by first | kernel_rfl | fail) (hf : Region.free md ops listed i = true := by first | kernel_rfl | fail) (hr : (Region.ready md ops listed).contains i = true := by first | kernel_rfl | fail)
    (hS : S w := by first | exact hS | fail) (ha : a.put (some d) v = a' := by first | (simp only [Act.put, List.setIfInBounds_toArray, List.set_cons_zero, List.set_cons_succ]; done) | (simp only [Act.put, List.setIfInBounds_toArray, List.set_cons_zero, List.set_cons_succ]; exact rfl) | exact rfl | fail)
    (hQ : ∀ c a w, Q (.panic c) (a.put (some d) v) w → Q (.panic c) a w := by first | exact fun _ _ _ h => h | fail) : wpAnyH Try.prog md ops Q S (fuel + 1) listed a w := by
  subst ha
  exact take_at i d v hi hd hs hf hr hQ hy hS k
/-- Its guard fails. -/
theorem tku (i d : Nat) {oi : Oper} (k : wpAnyH Try.prog md ops Q S fuel (listed.setIfInBounds i true) a' w) (hi : ops[i]? = some oi := by first | exact rfl | fail) (hd : oi.dst = some d := by first | exact rfl | fail)
    (hs : Region.noSelect ops = true := by first | kernel_rfl | fail) (hf : Region.free md ops listed i = true := by first | kernel_rfl | fail) (hr : (Region.ready md ops listed).contains i = true := by first | kernel_rfl | fail)
    (hw : Region.wanted oi (yielded ops a.tmps) = false := by first | kernel_rfl | fail)
    (hS : S w := by first | exact hS | fail) (ha : a.put (some d) undef = a' := by first | (simp only [Act.put, List.setIfInBounds_toArray, List.set_cons_zero, List.set_cons_succ]; done) | (simp only [Act.put, List.setIfInBounds_toArray, List.set_cons_zero, List.set_cons_succ]; exact rfl) | exact rfl | fail)
    (hQ : ∀ c a w, Q (.panic c) (a.put (some d) undef) w → Q (.panic c) a w := by first | exact fun _ _ _ h => h | fail) : wpAnyH Try.prog md ops Q S (fuel + 1) listed a w := by
  subst ha
  exact take_at i d undef hi hd hs hf hr hQ (.inr ⟨hw, rfl⟩) hS k
/-- One operation alone may come up: it is run. -/
theorem rone (i : Nat) {oi : Oper} (hi : ops.toList[i]? = some oi) (k : ∀ K' : Act → World → Prop, Shut (∀ a w, S w → (S w → wpAnyH Try.prog md ops Q S fuel (listed.setIfInBounds i true) a w) → K' a w) → if Region.wanted oi (yielded ops a.tmps) = true then Oper.wp Try.prog oi a w K' Q else K' (a.put oi.dst undef) w)
    (hr : Region.ready md ops listed = [i] := by first | kernel_rfl | fail) : wpAnyH Try.prog md ops Q S (fuel + 1) listed a w :=
  wpAnyH_ready hr (by simp) (AllReadyH.cons (by rw [← hi]; simp) k AllReadyH.nil)
end
end Go.Proofs.Ytahnibhcfdamdaa.Mm
