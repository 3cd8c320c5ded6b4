/- A row of the call's own, sorted by the library's sort: what it reads as. -/
import Derived.Test.YtkfjobanbnokoaaRo
import Derived.Shelf.SlSortCmp.WholeK
set_option linter.unusedSimpArgs false
set_option linter.unusedVariables false
set_option linter.unusedSectionVars false
set_option maxRecDepth 100000
namespace Go.Proofs.Ytkfjobanbnokoaa.Gm
open Go.RowKit Go.Proofs.YtkfjobanbnokoaaW.PrintWords Go.Proofs.Ytkfjobanbnokoaa.Bs

section
variable {α : Type} [Inhabited α] {R : RK α}
def encL (R : RK α) (x : α) : List Value := (R.enc x).toList
theorem flat_eq (L : R.Law) (d : Array α) : (Sort.flatK (encL R) R.k d).toList = encR R d.toList := by
  apply List.ext_getElem?
  intro t
  have hl : (Sort.flatK (encL R) R.k d).toList.length = d.size * R.k := by simp
  have hl2 : (encR R d.toList).length = d.size * R.k := by rw [encR_length L]; simp
  by_cases ht : t < d.size * R.k
  · have hi : t / R.k < d.size := by rw [Nat.div_lt_iff_lt_mul L.pos]; exact ht
    have hj := Nat.mod_lt t L.pos
    have h1 : (Sort.flatK (encL R) R.k d).toList[t]? = some (Sort.flatK (encL R) R.k d)[t]! := by
      rw [getElem!_pos _ t (by simpa using ht)]
      simp [ht]
    have h2 : (encR R d.toList)[t]? = (R.enc d[t / R.k])[t % R.k]? := by
      have := encR_at L (l := d.toList) (i := t / R.k) (x := d[t / R.k]) (by simp [hi]) (t % R.k) hj
      rw [Nat.mul_comm, Nat.div_add_mod] at this
      exact this
    have hs : t % R.k < (R.enc d[t / R.k]).size := by rw [L.size]; exact hj
    rw [h1, h2, Sort.get_flatK _ _ _ _ ht, getElem!_pos d _ hi]
    unfold encL
    rw [getElem!_pos _ _ (by simpa using hs), Array.getElem?_eq_getElem hs]
    simp
  · rw [List.getElem?_eq_none (by omega), List.getElem?_eq_none (by omega)]
theorem put_heapR {β : Type} [Inhabited β] {enc : β → Value} {w : World} {blk off : Nat} {d : Array β} {c : Array Value} {e : TypeId} {fr : Nat × Nat} (hb : w.heap[blk]? = some (.cells c e fr)) : (Sort.putRow enc w blk off d).heap[blk]? = some (.cells (Sort.putCells enc off d c) e fr) := by
  simp [Sort.putRow, Sort.mapBlock, Array.getElem?_modify, hb, Sort.onCells]
theorem put_grownR {β : Type} [Inhabited β] (enc : β → Value) (w : World) (blk off : Nat) (d : Array β) : w.grownBy (Sort.putRow enc w blk off d) (some blk) :=
  ⟨rfl, rfl, rfl, by simp [Sort.putRow, Sort.mapBlock], fun k _ hk => by
    have : blk ≠ k := fun e => hk (by rw [e])
    simp [Sort.putRow, Sort.mapBlock, Array.getElem?_modify, this]⟩
/-- Where a row lies, as the sort asks. -/
theorem holds_row (L : R.Law) {w : World} {g n cap : Nat} {cur : Array Value} {xs : List α} (hg : w.heap[g]? = some (.cells cur R.e (0, 0))) (hs : cur.size = cap * R.k) (hn : xs.length ≤ cap) (ht : cur.toList.take (xs.length * R.k) = encR R xs) : Sort.HoldsK (encL R) R.k w g 0 xs.toArray := by
  intro j hj
  have hj' : j < xs.length * R.k := by simpa using hj
  have hlt : j < cur.size := by rw [hs]; exact Nat.lt_of_lt_of_le hj' (Nat.mul_le_mul_right _ hn)
  have h1 : cur[j]? = some ((Sort.flatK (encL R) R.k xs.toArray)[j]!) := by
    have h2 := congrArg (·[j]?) ht
    simp only [List.getElem?_take, hj', if_true] at h2
    have h3 := flat_eq L xs.toArray
    rw [List.toList_toArray] at h3
    rw [← h3] at h2
    rw [getElem!_pos _ j hj, ← Array.getElem?_eq_getElem hj]
    simpa using h2
  refine ⟨?_, ?_⟩
  · rw [Nat.zero_add]
    exact (blk_cell hg j).trans h1
  · simp [World.frozen?, hg, hlt]
/-- A row behind the sort. -/
theorem Mem.sorted (L : R.Law) {w0 w : World} {es : List Ent} {g n c : Nat} {xs : List α} (h : Mem w0 w (rowE R (.slice (some ⟨g, 0, none⟩) n c) xs :: es)) (d' : Array α) (hd : d'.size = xs.length) (m : Nat) (os : Array Obj) :
    Mem w0 (sortWorldK (encL R) R.k w g 0 m d' os) (rowE R (.slice (some ⟨g, 0, none⟩) n c) d'.toList :: es) := by
  obtain ⟨hlen, hrest⟩ := h.ow (R := R) (List.mem_cons_self ..)
  rcases hrest with ⟨h0, _⟩ | ⟨g', cap, cur, hv, hbase, hg, hnc, hcm, hcs, htk⟩
  · cases h0
  injection hv with e1 e2 e3
  injection e1 with e1
  injection e1 with e1 _ _
  subst e1 e2 e3
  have hgl : g < w.heap.size := (Array.getElem?_eq_some_iff.1 hg).1
  have h1 := put_grownR id (Sort.ahead w m) g 0 (Sort.flatK (encL R) R.k d')
  have hgr : w.grownBy (sortWorldK (encL R) R.k w g 0 m d' os) (some g) := by
    refine ⟨h1.os, h1.tape, h1.output, ?_, fun k hk hne => ?_⟩
    · have := h1.size
      show _ ≤ (_ ++ os).size
      rw [Array.size_append]
      exact Nat.le_trans this (Nat.le_add_right _ _)
    · have := h1.block k hk hne
      show ((Sort.putRow id (Sort.ahead w m) g 0 (Sort.flatK (encL R) R.k d')).heap ++ os)[k]? = _
      rw [Array.getElem?_append_left (Nat.lt_of_lt_of_le hk h1.size)]
      exact this
  have hdl : d'.toList.length = xs.length := by rw [Array.length_toList, hd]
  have hp := put_heapR (enc := id) (w := Sort.ahead w m) (off := 0) (d := Sort.flatK (encL R) R.k d') hg
  refine h.turn (Upd.head _) hgr (holdsR ?_) (fun k hk => .inl hk)
  refine ⟨encR_length L _, .inr ⟨g, c, Sort.putCells id 0 (Sort.flatK (encL R) R.k d') cur, by rw [hdl], hbase, ?_, by rw [hdl]; exact hnc, hcm, ?_, ?_⟩⟩
  · show ((Sort.putRow id (Sort.ahead w m) g 0 (Sort.flatK (encL R) R.k d')).heap ++ os)[g]? = _
    rw [Array.getElem?_append_left (Nat.lt_of_lt_of_le hgl h1.size)]
    exact hp
  · simpa [Sort.putCells] using hcs
  · apply List.ext_getElem?
    intro i
    rw [← flat_eq L d', List.getElem?_take]
    have hsz : d'.toList.length * R.k = d'.size * R.k := by simp
    by_cases hi : i < d'.size * R.k
    · have hic : i < cur.size := by
        rw [hcs]
        exact Nat.lt_of_lt_of_le hi (Nat.mul_le_mul_right _ (by omega))
      rw [if_pos (by rw [hsz]; exact hi)]
      have hif : i < (Sort.flatK (encL R) R.k d').size := by simpa using hi
      simp [Sort.putCells, hic, hif, hi]
    · rw [if_neg (by rw [hsz]; exact hi), List.getElem?_eq_none (by simpa using hi)]
end
end Go.Proofs.Ytkfjobanbnokoaa.Gm
