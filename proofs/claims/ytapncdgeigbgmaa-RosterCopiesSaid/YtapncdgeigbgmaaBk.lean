/- A struct that is one block: loaded and stored whole, whatever its cells. -/
import Derived.Test.YtapncdgeigbgmaaBs
import Derived.Deep.MidRow
set_option linter.unusedSimpArgs false
set_option linter.unusedVariables false
set_option maxRecDepth 100000
namespace Go.Proofs.Ytapncdgeigbgmaa.Bs
open Go.RowKit Go.Proofs.YtapncdgeigbgmaaW.PrintWords

theorem blk_old {w : World} {g : Nat} {o : Obj} (h : w.heap[g]? = some o) (o' : Obj) : (w.alloc o').heap[g]? = some o := blk_below h (below_alloc (Below.refl _ _) _)
theorem size_push (w : World) (o : Obj) : (w.alloc o).heap.size = w.heap.size + 1 := by show (w.heap.push o).size = _; rw [Array.size_push]
theorem blk_new1 (w : World) (o1 o2 : Obj) : ((w.alloc o1).alloc o2).heap[w.heap.size + 1]? = some o2 := by
  have h := blk_new (w.alloc o1) o2
  rwa [size_push] at h
theorem range_block {w : World} {b : Nat} {cs : Array Value} {T : TypeId} (h : w.heap[b]? = some (.cells cs T (0, 0))) : w.rangeAt b 0 cs.toList := fun j v hv => by
  rw [Nat.zero_add]
  exact (blk_cell h j).trans (by simpa using hv)
theorem there_block {w : World} {b : Nat} {cs : Array Value} {T : TypeId} (h : w.heap[b]? = some (.cells cs T (0, 0))) : w.there b 0 cs.size := fun j hj => by
  rw [Nat.zero_add]
  exact ⟨by rw [blk_cell h j]; simp [hj], blk_frozen h _⟩
theorem load_block {w : World} {b : Nat} {cs : Array Value} {T : TypeId} (h : w.heap[b]? = some (.cells cs T (0, 0))) (ty : TypeId) (d : TypeDesc) (hu : Try.prog.underlying ty = some d) (hd : d.isRow = true) (hi : (Try.prog.info? ty).map (·.size) = some cs.size) :
    (loadVar ty ⟨b, 0, none⟩).run Try.prog w = .ok (.agg cs) w := by
  have h2 := run_loadVar_mid (P := Try.prog) w b 0 ty cs.toList d (range_block h) hu hd (by simpa using hi)
  simpa using h2
theorem step_load {ops : Array Oper} {rest : List Oper} {op : Oper} {a : Act} {w : World} {Q : Exit → Act → World → Prop} (hgd : op.guard = none) (ty : TypeId) (x : Operand) (ho : op.op = .load ty x)
    {b : Nat} (hx : a.eval x = .pointer (some ⟨b, 0, none⟩)) {cs : Array Value} {T : TypeId} (hc : w.heap[b]? = some (.cells cs T (0, 0))) (d : TypeDesc)
    (hu : Try.prog.underlying ty = some d) (hd : d.isRow = true) (hi : (Try.prog.info? ty).map (·.size) = some cs.size)
    (h : wpList Try.prog ops Q rest (a.put op.dst (.agg cs)) w) : wpList Try.prog ops Q (op :: rest) a w :=
  wpList_load_mid (P := Try.prog) hgd ty x ho b 0 hx cs.toList d (range_block hc) hu hd (by simpa using hi) (by simpa using h)
theorem setCells_keep (b : Nat) : ∀ (vs : List Value) (o : Nat) (w : World) (cs : Array Value) (T : TypeId), w.heap[b]? = some (.cells cs T (0, 0)) → o + vs.length ≤ cs.size →
    ∃ cs', (w.setCells b o vs).heap[b]? = some (.cells cs' T (0, 0)) ∧ cs'.size = cs.size ∧ (∀ i, i < o ∨ o + vs.length ≤ i → cs'[i]? = cs[i]?) ∧ ∀ j, j < vs.length → cs'[o + j]? = vs[j]?
  | [], o, w, cs, T, h, hs => ⟨cs, h, rfl, fun _ _ => rfl, fun j hj => absurd hj (Nat.not_lt_zero j)⟩
  | v :: r, o, w, cs, T, h, hs => by
    have hs' : o + (r.length + 1) ≤ cs.size := by simpa using hs
    obtain ⟨cs', h1, h2, h3, h4⟩ := setCells_keep b r (o + 1) _ _ T (blk_set h o v) (by rw [Array.size_setIfInBounds]; omega)
    refine ⟨cs', h1, by rw [h2, Array.size_setIfInBounds], fun i hi => ?_, fun j hj => ?_⟩
    · have hi' : i < o ∨ o + (r.length + 1) ≤ i := by simpa using hi
      rw [h3 i (by omega), Array.getElem?_setIfInBounds_ne (by omega)]
    · cases j with
      | zero =>
        rw [h3 (o + 0) (by omega), Nat.add_zero, Array.getElem?_setIfInBounds_self_of_lt (by omega)]
        rfl
      | succ j =>
        have := h4 j (by simpa using hj)
        rw [show o + (j + 1) = o + 1 + j by omega, this]
        rfl
theorem setCells_block {w : World} {b : Nat} {cs vs : Array Value} {T : TypeId} (h : w.heap[b]? = some (.cells cs T (0, 0))) (hs : vs.size = cs.size) :
    (w.setCells b 0 vs.toList).heap[b]? = some (.cells vs T (0, 0)) := by
  obtain ⟨cs', h1, h2, _, h4⟩ := setCells_keep b vs.toList 0 w cs T h (by simp; omega)
  rw [h1]
  congr 2
  apply Array.ext_getElem?
  intro i
  by_cases hi : i < vs.size
  · have := h4 i (by simpa using hi)
    rw [Nat.zero_add] at this
    rw [this]; simp
  · rw [Array.getElem?_eq_none (by omega), Array.getElem?_eq_none (by omega)]
theorem setCells_below {B : Nat} {a : World} (b : Nat) (hb : B ≤ b) : ∀ (vs : List Value) (o : Nat) (w : World), Below B a w → Below B a (w.setCells b o vs)
  | [], _, _, h => h
  | v :: r, o, w, h => setCells_below b hb r (o + 1) _ (h.setCell (p := ⟨b, o, none⟩) hb v)
theorem setCells_grown (b : Nat) : ∀ (vs : List Value) (o : Nat) (w : World), w.grownBy (w.setCells b o vs) (some b)
  | [], _, w => World.grownBy.refl _ _
  | v :: r, o, w => World.grownBy.trans (grown_set w b o v) (setCells_grown b r (o + 1) _)

theorem step_store {ops : Array Oper} {rest : List Oper} {op : Oper} {a : Act} {w : World} {Q : Exit → Act → World → Prop} (hgd : op.guard = none) (ty : TypeId) (x y : Operand) (ho : op.op = .store ty x y)
    {b : Nat} {cs vs : Array Value} {T : TypeId} (hx : a.eval x = .pointer (some ⟨b, 0, none⟩)) (hy : a.eval y = .agg vs) (hc : w.heap[b]? = some (.cells cs T (0, 0))) (hs : vs.size = cs.size)
    (hi : (Try.prog.info? ty).map (·.size) = some cs.size) (h1 : vs.all (·.oneCell') = true)
    (h : wpList Try.prog ops Q rest (a.put op.dst undef) (w.setCells b 0 vs.toList)) : wpList Try.prog ops Q (op :: rest) a w :=
  wpList_store_mid (P := Try.prog) hgd ty x y ho b 0 vs hx hy (by rw [hs]; exact there_block hc) (by rw [hs]; exact hi) h1 h
theorem zero_of {t : TypeId} {z : Value} (h : (Try.prog.info? t).map (·.zero) = some (some z)) (W : World) : (zeroValue t).run Try.prog W = .ok z W := by
  obtain ⟨i, hi, hz⟩ := Option.map_eq_some_iff.1 h
  simp [zeroValue, typeInfo, hi, hz]
theorem step_alloc {ops : Array Oper} {rest : List Oper} {op : Oper} {a : Act} {w : World} {Q : Exit → Act → World → Prop} (hgd : op.guard = none) (t : TypeId) (ho : op.op = .alloc t) (cs : Array Value)
    (hz : ∀ W : World, (zeroValue t).run Try.prog W = .ok (.agg cs) W)
    (h : wpList Try.prog ops Q rest (a.put op.dst (.pointer (some ⟨w.heap.size, 0, none⟩))) (w.alloc (.cells cs t))) : wpList Try.prog ops Q (op :: rest) a w := by
  refine wpList_plain hgd fun K hK => ?_
  unfold Oper.wp
  simp [execOp, ho, Instr.alloc, hz, newVar, newRow, Value.cells, Result.andThen]
  exact hK _ _ h
theorem results_c {fn : Func} {a : Tmp} {t : TypeId} (h : fn.results = #[.cell a t]) (tmps : Array Value) (P : Program) (w : World) (b : Nat) (cs : Array Value) (ha : tmps.getD a undef = .pointer (some ⟨b, 0, none⟩))
    (hl : (loadVar t ⟨b, 0, none⟩).run P w = .ok (.agg cs) w) : (results fn tmps).run P w = .ok (.agg cs) w := by
  have ha2 : tmps[a]?.getD undef = .pointer (some ⟨b, 0, none⟩) := by rw [← ha]; simp
  simp [results, h, ha2, hl, asAddr]
theorem results_c1 {fn : Func} {a p : Tmp} {t : TypeId} (h : fn.results = #[.cell a t, .tmp p]) (tmps : Array Value) (P : Program) (w : World) (b : Nat) (cs : Array Value) (ha : tmps.getD a undef = .pointer (some ⟨b, 0, none⟩))
    (hl : (loadVar t ⟨b, 0, none⟩).run P w = .ok (.agg cs) w) : (results fn tmps).run P w = .ok (.tuple #[.agg cs, tmps.getD p undef]) w := by
  have ha2 : tmps[a]?.getD undef = .pointer (some ⟨b, 0, none⟩) := by rw [← ha]; simp
  simp [results, h, ha2, hl, asAddr]
theorem results_c2 {fn : Func} {a p q : Tmp} {t : TypeId} (h : fn.results = #[.cell a t, .tmp p, .tmp q]) (tmps : Array Value) (P : Program) (w : World) (b : Nat) (cs : Array Value) (ha : tmps.getD a undef = .pointer (some ⟨b, 0, none⟩))
    (hl : (loadVar t ⟨b, 0, none⟩).run P w = .ok (.agg cs) w) : (results fn tmps).run P w = .ok (.tuple #[.agg cs, tmps.getD p undef, tmps.getD q undef]) w := by
  have ha2 : tmps[a]?.getD undef = .pointer (some ⟨b, 0, none⟩) := by rw [← ha]; simp
  simp [results, h, ha2, hl, asAddr]
end Go.Proofs.Ytapncdgeigbgmaa.Bs
