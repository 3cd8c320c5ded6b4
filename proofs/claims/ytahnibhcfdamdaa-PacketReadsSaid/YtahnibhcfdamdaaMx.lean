/- Further step laws: literals of slices. -/
import Derived.Test.YtahnibhcfdamdaaMr
import Derived.Test.YtahnibhcfdamdaaCo
set_option linter.unusedSimpArgs false
set_option linter.unusedVariables false
set_option maxRecDepth 100000
namespace Go.Proofs.Ytahnibhcfdamdaa.Mm
open Go.RowKit Go.Proofs.YtahnibhcfdamdaaW.PrintWords Go.Proofs.Ytahnibhcfdamdaa.Bs Go.Proofs.Ytahnibhcfdamdaa.Co

theorem slices1 (a1 : Option Addr) (n1 c1 : Nat) (W : World) : (Instr.buildSlice 62 1 #[(0, .slice a1 n1 c1)]).run Try.prog W = .ok (.slice (some ⟨W.heap.size, 0, none⟩) 1 1) (W.alloc (.cells #[.slice a1 n1 c1] 26)) := by kernel_rfl
theorem slices2 (a1 a2 : Option Addr) (n1 c1 n2 c2 : Nat) (W : World) : (Instr.buildSlice 62 2 #[(0, .slice a1 n1 c1), (1, .slice a2 n2 c2)]).run Try.prog W = .ok (.slice (some ⟨W.heap.size, 0, none⟩) 2 2) (W.alloc (.cells #[.slice a1 n1 c1, .slice a2 n2 c2] 26)) := by kernel_rfl
theorem slices3 (a1 a2 a3 : Option Addr) (n1 c1 n2 c2 n3 c3 : Nat) (W : World) : (Instr.buildSlice 62 3 #[(0, .slice a1 n1 c1), (1, .slice a2 n2 c2), (2, .slice a3 n3 c3)]).run Try.prog W = .ok (.slice (some ⟨W.heap.size, 0, none⟩) 3 3) (W.alloc (.cells #[.slice a1 n1 c1, .slice a2 n2 c2, .slice a3 n3 c3] 26)) := by kernel_rfl
theorem slices4 (a1 a2 a3 a4 : Option Addr) (n1 c1 n2 c2 n3 c3 n4 c4 : Nat) (W : World) : (Instr.buildSlice 62 4 #[(0, .slice a1 n1 c1), (1, .slice a2 n2 c2), (2, .slice a3 n3 c3), (3, .slice a4 n4 c4)]).run Try.prog W = .ok (.slice (some ⟨W.heap.size, 0, none⟩) 4 4) (W.alloc (.cells #[.slice a1 n1 c1, .slice a2 n2 c2, .slice a3 n3 c3, .slice a4 n4 c4] 26)) := by kernel_rfl
section
variable {ops : Array Oper} {op : Oper} {a : Act} {K : Act → World → Prop} {Q : Exit → Act → World → Prop} {E : Prop} {w0 w : World} {es es' : List Ent}
theorem s_build (hw : Region.wanted op (yielded ops a.tmps) = true) {t : TypeId} {n : Nat} {ps : Array (Nat × Operand)} (ho : op.op = .buildSlice t n ps) {qs : Array (Nat × Value)} {cs : Array Value} {T : TypeId}
    (hz : ∀ W : World, (Instr.buildSlice t n qs).run Try.prog W = .ok (.slice (some ⟨W.heap.size, 0, none⟩) n n) (W.alloc (.cells cs T))) (hq : ps.toList.map (fun p => (p.1, a.eval p.2)) = qs.toList) (HM : HMem w0 w es)
    (h : ∀ w1 b, HMem w0 w1 (.raw b cs T :: es) → Below w0.heap.size w0 w1 → K (a.put op.dst (.slice (some ⟨b, 0, none⟩) n n)) w1) : if Region.wanted op (yielded ops a.tmps) = true then Oper.wp Try.prog op a w K Q else E := by
  rw [if_pos hw]
  have hq2 : ps.map (fun p => (p.1, a.eval p.2)) = qs := Array.ext' (by rw [Array.toList_map]; exact hq)
  subst hq2
  unfold Oper.wp
  have := hz w
  simp [execOp, ho, resolve, this, Result.andThen]
  have hm := HM.out.allocRaw cs T
  exact h _ _ (Lib.hid hm) hm.below
variable {rest : List Oper}
theorem m_build (hw : Region.wanted op (yielded ops a.tmps) = true) {t : TypeId} {n : Nat} {ps : Array (Nat × Operand)} (ho : op.op = .buildSlice t n ps) {qs : Array (Nat × Value)} {cs : Array Value} {T : TypeId}
    (hz : ∀ W : World, (Instr.buildSlice t n qs).run Try.prog W = .ok (.slice (some ⟨W.heap.size, 0, none⟩) n n) (W.alloc (.cells cs T))) (hq : ps.toList.map (fun p => (p.1, a.eval p.2)) = qs.toList) (HM : HMem w0 w es)
    (h : ∀ w1 b, HMem w0 w1 (.raw b cs T :: es) → Below w0.heap.size w0 w1 → wpList Try.prog ops Q rest (a.put op.dst (.slice (some ⟨b, 0, none⟩) n n)) w1) : wpList Try.prog ops Q (op :: rest) a w := by
  refine BigFrame.wpList_want hw fun K hK => ?_
  have h2 := s_build (K := K) (Q := Q) (E := True) hw ho hz hq HM (fun w1 b h1 h3 => hK _ _ (h w1 b h1 h3))
  rwa [if_pos hw] at h2
theorem s_slices1 {x1 : Operand} (ho : op.op = .buildSlice 62 1 #[(0, x1)]) (hw : Region.wanted op (yielded ops a.tmps) = true) {a1 : Option Addr} {n1 c1 : Nat} (h1 : a.eval x1 = .slice a1 n1 c1) (HM : HMem w0 w es)
    (h : ∀ w1 b, HMem w0 w1 (.raw b #[.slice a1 n1 c1] 26 :: es) → Below w0.heap.size w0 w1 → K (a.put op.dst (.slice (some ⟨b, 0, none⟩) 1 1)) w1) : if Region.wanted op (yielded ops a.tmps) = true then Oper.wp Try.prog op a w K Q else E :=
  s_build hw ho (slices1 a1 n1 c1) (by simp only [List.map_cons, List.map_nil, h1]) HM h
theorem m_slices1 {x1 : Operand} (ho : op.op = .buildSlice 62 1 #[(0, x1)]) (hw : Region.wanted op (yielded ops a.tmps) = true) {a1 : Option Addr} {n1 c1 : Nat} (h1 : a.eval x1 = .slice a1 n1 c1) (HM : HMem w0 w es)
    (h : ∀ w1 b, HMem w0 w1 (.raw b #[.slice a1 n1 c1] 26 :: es) → Below w0.heap.size w0 w1 → wpList Try.prog ops Q rest (a.put op.dst (.slice (some ⟨b, 0, none⟩) 1 1)) w1) : wpList Try.prog ops Q (op :: rest) a w :=
  m_build hw ho (slices1 a1 n1 c1) (by simp only [List.map_cons, List.map_nil, h1]) HM h
theorem s_slices2 {x1 x2 : Operand} (ho : op.op = .buildSlice 62 2 #[(0, x1), (1, x2)]) (hw : Region.wanted op (yielded ops a.tmps) = true) {a1 : Option Addr} {n1 c1 : Nat} (h1 : a.eval x1 = .slice a1 n1 c1) {a2 : Option Addr} {n2 c2 : Nat} (h2 : a.eval x2 = .slice a2 n2 c2) (HM : HMem w0 w es)
    (h : ∀ w1 b, HMem w0 w1 (.raw b #[.slice a1 n1 c1, .slice a2 n2 c2] 26 :: es) → Below w0.heap.size w0 w1 → K (a.put op.dst (.slice (some ⟨b, 0, none⟩) 2 2)) w1) : if Region.wanted op (yielded ops a.tmps) = true then Oper.wp Try.prog op a w K Q else E :=
  s_build hw ho (slices2 a1 a2 n1 c1 n2 c2) (by simp only [List.map_cons, List.map_nil, h1, h2]) HM h
theorem m_slices2 {x1 x2 : Operand} (ho : op.op = .buildSlice 62 2 #[(0, x1), (1, x2)]) (hw : Region.wanted op (yielded ops a.tmps) = true) {a1 : Option Addr} {n1 c1 : Nat} (h1 : a.eval x1 = .slice a1 n1 c1) {a2 : Option Addr} {n2 c2 : Nat} (h2 : a.eval x2 = .slice a2 n2 c2) (HM : HMem w0 w es)
    (h : ∀ w1 b, HMem w0 w1 (.raw b #[.slice a1 n1 c1, .slice a2 n2 c2] 26 :: es) → Below w0.heap.size w0 w1 → wpList Try.prog ops Q rest (a.put op.dst (.slice (some ⟨b, 0, none⟩) 2 2)) w1) : wpList Try.prog ops Q (op :: rest) a w :=
  m_build hw ho (slices2 a1 a2 n1 c1 n2 c2) (by simp only [List.map_cons, List.map_nil, h1, h2]) HM h
theorem s_slices3 {x1 x2 x3 : Operand} (ho : op.op = .buildSlice 62 3 #[(0, x1), (1, x2), (2, x3)]) (hw : Region.wanted op (yielded ops a.tmps) = true) {a1 : Option Addr} {n1 c1 : Nat} (h1 : a.eval x1 = .slice a1 n1 c1) {a2 : Option Addr} {n2 c2 : Nat} (h2 : a.eval x2 = .slice a2 n2 c2) {a3 : Option Addr} {n3 c3 : Nat} (h3 : a.eval x3 = .slice a3 n3 c3) (HM : HMem w0 w es)
    (h : ∀ w1 b, HMem w0 w1 (.raw b #[.slice a1 n1 c1, .slice a2 n2 c2, .slice a3 n3 c3] 26 :: es) → Below w0.heap.size w0 w1 → K (a.put op.dst (.slice (some ⟨b, 0, none⟩) 3 3)) w1) : if Region.wanted op (yielded ops a.tmps) = true then Oper.wp Try.prog op a w K Q else E :=
  s_build hw ho (slices3 a1 a2 a3 n1 c1 n2 c2 n3 c3) (by simp only [List.map_cons, List.map_nil, h1, h2, h3]) HM h
theorem m_slices3 {x1 x2 x3 : Operand} (ho : op.op = .buildSlice 62 3 #[(0, x1), (1, x2), (2, x3)]) (hw : Region.wanted op (yielded ops a.tmps) = true) {a1 : Option Addr} {n1 c1 : Nat} (h1 : a.eval x1 = .slice a1 n1 c1) {a2 : Option Addr} {n2 c2 : Nat} (h2 : a.eval x2 = .slice a2 n2 c2) {a3 : Option Addr} {n3 c3 : Nat} (h3 : a.eval x3 = .slice a3 n3 c3) (HM : HMem w0 w es)
    (h : ∀ w1 b, HMem w0 w1 (.raw b #[.slice a1 n1 c1, .slice a2 n2 c2, .slice a3 n3 c3] 26 :: es) → Below w0.heap.size w0 w1 → wpList Try.prog ops Q rest (a.put op.dst (.slice (some ⟨b, 0, none⟩) 3 3)) w1) : wpList Try.prog ops Q (op :: rest) a w :=
  m_build hw ho (slices3 a1 a2 a3 n1 c1 n2 c2 n3 c3) (by simp only [List.map_cons, List.map_nil, h1, h2, h3]) HM h
theorem s_slices4 {x1 x2 x3 x4 : Operand} (ho : op.op = .buildSlice 62 4 #[(0, x1), (1, x2), (2, x3), (3, x4)]) (hw : Region.wanted op (yielded ops a.tmps) = true) {a1 : Option Addr} {n1 c1 : Nat} (h1 : a.eval x1 = .slice a1 n1 c1) {a2 : Option Addr} {n2 c2 : Nat} (h2 : a.eval x2 = .slice a2 n2 c2) {a3 : Option Addr} {n3 c3 : Nat} (h3 : a.eval x3 = .slice a3 n3 c3) {a4 : Option Addr} {n4 c4 : Nat} (h4 : a.eval x4 = .slice a4 n4 c4) (HM : HMem w0 w es)
    (h : ∀ w1 b, HMem w0 w1 (.raw b #[.slice a1 n1 c1, .slice a2 n2 c2, .slice a3 n3 c3, .slice a4 n4 c4] 26 :: es) → Below w0.heap.size w0 w1 → K (a.put op.dst (.slice (some ⟨b, 0, none⟩) 4 4)) w1) : if Region.wanted op (yielded ops a.tmps) = true then Oper.wp Try.prog op a w K Q else E :=
  s_build hw ho (slices4 a1 a2 a3 a4 n1 c1 n2 c2 n3 c3 n4 c4) (by simp only [List.map_cons, List.map_nil, h1, h2, h3, h4]) HM h
theorem m_slices4 {x1 x2 x3 x4 : Operand} (ho : op.op = .buildSlice 62 4 #[(0, x1), (1, x2), (2, x3), (3, x4)]) (hw : Region.wanted op (yielded ops a.tmps) = true) {a1 : Option Addr} {n1 c1 : Nat} (h1 : a.eval x1 = .slice a1 n1 c1) {a2 : Option Addr} {n2 c2 : Nat} (h2 : a.eval x2 = .slice a2 n2 c2) {a3 : Option Addr} {n3 c3 : Nat} (h3 : a.eval x3 = .slice a3 n3 c3) {a4 : Option Addr} {n4 c4 : Nat} (h4 : a.eval x4 = .slice a4 n4 c4) (HM : HMem w0 w es)
    (h : ∀ w1 b, HMem w0 w1 (.raw b #[.slice a1 n1 c1, .slice a2 n2 c2, .slice a3 n3 c3, .slice a4 n4 c4] 26 :: es) → Below w0.heap.size w0 w1 → wpList Try.prog ops Q rest (a.put op.dst (.slice (some ⟨b, 0, none⟩) 4 4)) w1) : wpList Try.prog ops Q (op :: rest) a w :=
  m_build hw ho (slices4 a1 a2 a3 a4 n1 c1 n2 c2 n3 c3 n4 c4) (by simp only [List.map_cons, List.map_nil, h1, h2, h3, h4]) HM h
end
/-- A block of slices' values reads as lists. -/
theorem Mem.rbs {w0 w : World} {es : List Ent} (h : Mem w0 w es) {b : Nat} {vs : List Value} {T : TypeId} (m : Ent.raw b vs.toArray T ∈ es) {ls : List (List UInt8)} (hl : ls.length = vs.length) (h63 : ls.length ≤ 9223372036854775807) (hr : ∀ j, j < ls.length → RB w (vs.getD j undef) (ls.getD j [])) : RBS w (some ⟨b, 0, none⟩) ls :=
  RBS.block (h.getRaw m) hl h63 hr
theorem Mem.rbs1 {w0 w : World} {es : List Ent} (h : Mem w0 w es) {b : Nat} {v1 : Value} {T : TypeId} (m : Ent.raw b #[v1] T ∈ es) {l1 : List UInt8} (h1 : RB w v1 l1) : RBS w (some ⟨b, 0, none⟩) [l1] :=
  h.rbs (vs := [v1]) m rfl (by simp) (fun j hj => by
    match j, hj with
    | 0, _ => exact h1)
theorem Mem.rbs2 {w0 w : World} {es : List Ent} (h : Mem w0 w es) {b : Nat} {v1 v2 : Value} {T : TypeId} (m : Ent.raw b #[v1, v2] T ∈ es) {l1 l2 : List UInt8} (h1 : RB w v1 l1) (h2 : RB w v2 l2) : RBS w (some ⟨b, 0, none⟩) [l1, l2] :=
  h.rbs (vs := [v1, v2]) m rfl (by simp) (fun j hj => by
    match j, hj with
    | 0, _ => exact h1
    | 1, _ => exact h2)
theorem Mem.rbs3 {w0 w : World} {es : List Ent} (h : Mem w0 w es) {b : Nat} {v1 v2 v3 : Value} {T : TypeId} (m : Ent.raw b #[v1, v2, v3] T ∈ es) {l1 l2 l3 : List UInt8} (h1 : RB w v1 l1) (h2 : RB w v2 l2) (h3 : RB w v3 l3) : RBS w (some ⟨b, 0, none⟩) [l1, l2, l3] :=
  h.rbs (vs := [v1, v2, v3]) m rfl (by simp) (fun j hj => by
    match j, hj with
    | 0, _ => exact h1
    | 1, _ => exact h2
    | 2, _ => exact h3)
theorem Mem.rbs4 {w0 w : World} {es : List Ent} (h : Mem w0 w es) {b : Nat} {v1 v2 v3 v4 : Value} {T : TypeId} (m : Ent.raw b #[v1, v2, v3, v4] T ∈ es) {l1 l2 l3 l4 : List UInt8} (h1 : RB w v1 l1) (h2 : RB w v2 l2) (h3 : RB w v3 l3) (h4 : RB w v4 l4) : RBS w (some ⟨b, 0, none⟩) [l1, l2, l3, l4] :=
  h.rbs (vs := [v1, v2, v3, v4]) m rfl (by simp) (fun j hj => by
    match j, hj with
    | 0, _ => exact h1
    | 1, _ => exact h2
    | 2, _ => exact h3
    | 3, _ => exact h4)
end Go.Proofs.Ytahnibhcfdamdaa.Mm
