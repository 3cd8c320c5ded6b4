/- A block of cells with a part in the middle that is loaded and stored whole; a message of any kind as cells. -/
import Derived.Test.YtnehbhhjdjiieaaBu
import Derived.Test.YtnehbhhjdjiieaaMq
set_option linter.unusedSimpArgs false
set_option linter.unusedVariables false
set_option maxRecDepth 100000
namespace Go.Proofs.Ytnehbhhjdjiieaa.Wm
open Go.RowKit Go.Proofs.YtnehbhhjdjiieaaW.PrintWords Go.Proofs.Ytnehbhhjdjiieaa.Bs Go.Proofs.Ytnehbhhjdjiieaa.Mv

theorem range_mid {w : World} {b : Nat} {X M Y : Array Value} {T : TypeId} (h : w.heap[b]? = some (.cells (X ++ M ++ Y) T (0, 0))) : w.rangeAt b X.size M.toList := fun j v hv => by
  refine (blk_cell h _).trans ?_
  have hj : j < M.size := by simpa using (List.getElem?_eq_some_iff.1 hv).1
  rw [Array.getElem?_append_left (by rw [Array.size_append]; omega), Array.getElem?_append_right (by omega), show X.size + j - X.size = j by omega]
  simpa using hv
theorem there_mid {w : World} {b : Nat} {X M Y : Array Value} {T : TypeId} (h : w.heap[b]? = some (.cells (X ++ M ++ Y) T (0, 0))) : w.there b X.size M.size := fun j hj =>
  ⟨by rw [blk_cell h]; simp [Array.size_append]; omega, blk_frozen h _⟩
theorem setCells_mid {w : World} {b : Nat} {X M M' Y : Array Value} {T : TypeId} (h : w.heap[b]? = some (.cells (X ++ M ++ Y) T (0, 0))) (hs : M'.size = M.size) :
    (w.setCells b X.size M'.toList).heap[b]? = some (.cells (X ++ M' ++ Y) T (0, 0)) := by
  obtain ⟨cs', h1, h2, h3, h4⟩ := setCells_keep b M'.toList X.size w (X ++ M ++ Y) T h (by simp; omega)
  rw [h1]
  congr 2
  apply Array.ext_getElem?
  intro i
  by_cases ha : i < X.size
  · rw [h3 i (.inl ha), Array.getElem?_append_left (by simp; omega), Array.getElem?_append_left ha, Array.getElem?_append_left (by simp; omega), Array.getElem?_append_left ha]
  · by_cases hb : i < X.size + M.size
    · have := h4 (i - X.size) (by simp; omega)
      rw [show X.size + (i - X.size) = i by omega] at this
      rw [this, Array.getElem?_append_left (by simp; omega), Array.getElem?_append_right (by omega)]
      simp
    · rw [h3 i (.inr (by simp; omega)), Array.getElem?_append_right (by simp; omega), Array.getElem?_append_right (by simp; omega)]
      simp only [Array.size_append, hs]

/-- A load of a part. -/
theorem step_load_at {ops : Array Oper} {rest : List Oper} {op : Oper} {a : Act} {w : World} {Q : Exit → Act → World → Prop} (hw : Region.wanted op (yielded ops a.tmps) = true) (ty : TypeId) (x : Operand) (ho : op.op = .load ty x)
    {b o : Nat} (hx : a.eval x = .pointer (some ⟨b, o, none⟩)) {X M Y : Array Value} {T : TypeId} (ho2 : o = X.size) (hc : w.heap[b]? = some (.cells (X ++ M ++ Y) T (0, 0))) (d : TypeDesc)
    (hu : Try.prog.underlying ty = some d) (hd : d.isRow = true) (hi : (Try.prog.info? ty).map (·.size) = some M.size)
    (h : wpList Try.prog ops Q rest (a.put op.dst (.agg M)) w) : wpList Try.prog ops Q (op :: rest) a w :=
  wpList_step fun K hK => by
    rw [if_pos hw]
    subst ho2
    exact wp_load_mid (P := Try.prog) ty x ho b X.size hx M.toList d (range_mid hc) hu hd (by simpa using hi) (hK _ _ (by simpa using h))
theorem step_store_at {ops : Array Oper} {rest : List Oper} {op : Oper} {a : Act} {w : World} {Q : Exit → Act → World → Prop} (hgd : op.guard = none) (ty : TypeId) (x y : Operand) (ho : op.op = .store ty x y)
    {b o : Nat} {X M M' Y : Array Value} {T : TypeId} (hx : a.eval x = .pointer (some ⟨b, o, none⟩)) (hy : a.eval y = .agg M') (ho2 : o = X.size) (hc : w.heap[b]? = some (.cells (X ++ M ++ Y) T (0, 0))) (hs : M'.size = M.size)
    (hi : (Try.prog.info? ty).map (·.size) = some M.size) (h1 : M'.all (·.oneCell') = true)
    (h : wpList Try.prog ops Q rest (a.put op.dst undef) (w.setCells b o M'.toList)) : wpList Try.prog ops Q (op :: rest) a w := by
  subst ho2
  exact wpList_store_mid (P := Try.prog) hgd ty x y ho b X.size M' hx hy (by rw [hs]; exact there_mid hc) (by rw [hs]; exact hi) h1 h

/-- The cells of a message of any kind. -/
def WV (kd : Int) (i r c t : Array Value) : Array Value := #[.int .i64 kd] ++ i ++ r ++ c ++ t
theorem WV_size (kd : Int) (i r c t : Array Value) (hi : i.size = 141) (hr : r.size = 82) (hc : c.size = 57) (ht : t.size = 3) : (WV kd i r c t).size = 284 := by unfold WV; simp [hi, hr, hc, ht]
theorem WV_i (kd : Int) (i r c t : Array Value) : WV kd i r c t = #[.int .i64 kd] ++ i ++ (r ++ c ++ t) := by unfold WV; simp [Array.append_assoc]
theorem WV_r (kd : Int) (i r c t : Array Value) : WV kd i r c t = (#[.int .i64 kd] ++ i) ++ r ++ (c ++ t) := by unfold WV; simp [Array.append_assoc]
theorem WV_c (kd : Int) (i r c t : Array Value) : WV kd i r c t = (#[.int .i64 kd] ++ i ++ r) ++ c ++ t := rfl
theorem WV_t (kd : Int) (i r c t : Array Value) : WV kd i r c t = (#[.int .i64 kd] ++ i ++ r ++ c) ++ t ++ #[] := by unfold WV; simp
theorem WV_0 (kd : Int) (i r c t : Array Value) : (WV kd i r c t)[0]? = some (.int .i64 kd) := by
  rw [WV_i, Array.append_assoc, Array.getElem?_append_left (by simp)]
  rfl
theorem WV_set (kd kd' : Int) (i r c t : Array Value) : (WV kd i r c t).setIfInBounds 0 (.int .i64 kd') = WV kd' i r c t := by
  unfold WV
  simp only [Array.append_assoc]
  rw [Array.setIfInBounds_append_left (by simp)]
  rfl
theorem WV_one (kd : Int) (i r c t : Array Value) (hi : i.all (·.oneCell') = true) (hr : r.all (·.oneCell') = true) (hc : c.all (·.oneCell') = true) (ht : t.all (·.oneCell') = true) : (WV kd i r c t).all (·.oneCell') = true := by
  unfold WV
  simp only [Array.all_append, hi, hr, hc, ht]
  simp [Value.oneCell']
end Go.Proofs.Ytnehbhhjdjiieaa.Wm
