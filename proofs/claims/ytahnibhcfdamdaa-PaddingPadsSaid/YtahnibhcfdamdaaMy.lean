/- Further step laws: rows of bytes: literals, append. -/
import Derived.Test.YtahnibhcfdamdaaMx
set_option linter.unusedSimpArgs false
set_option linter.unusedVariables false
set_option maxRecDepth 100000
namespace Go.Proofs.Ytahnibhcfdamdaa.Mm
open Go.RowKit Go.Proofs.YtahnibhcfdamdaaW.PrintWords Go.Proofs.Ytahnibhcfdamdaa.Bs Go.Proofs.Ytahnibhcfdamdaa.Co

inductive Del (e : Ent) : List Ent → List Ent → Prop
  | head (r : List Ent) : Del e (e :: r) r
  | tail (x : Ent) {es r : List Ent} : Del e es r → Del e (x :: es) (x :: r)
theorem Del.perm {e : Ent} : ∀ {es r : List Ent}, Del e es r → es.Perm (e :: r)
  | _, _, .head r => List.Perm.refl _
  | _, _, .tail x h => (List.Perm.cons x h.perm).trans (List.Perm.swap e x _)
theorem Apart.symm {a b : Ent} (h : Apart a b) : Apart b a := fun k hb ha => h k ha hb
theorem Mem.perm {w0 w : World} {es es' : List Ent} (h : Mem w0 w es) (hp : es.Perm es') : Mem w0 w es' :=
  ⟨h.below, fun e he => h.all e (hp.mem_iff.2 he), (hp.pairwise_iff (fun h => Apart.symm h)).1 h.apart⟩
theorem Mem.swap {w0 w : World} {e f : Ent} {r : List Ent} (h : Mem w0 w (e :: f :: r)) : Mem w0 w (f :: e :: r) := h.perm (List.Perm.swap f e r)

section
variable {ops : Array Oper} {rest : List Oper} {op : Oper} {a : Act} {Q : Exit → Act → World → Prop} {w0 w : World} {es es' : List Ent}
/-- append(v, u...) on a row of the call's own. -/
theorem m_append (ho1 : op.guard = none) {s x : Operand} (ho : op.op = .call { callee := .builtin .append, args := #[s, x], argTypes := #[26, 26] }) {v u : Value} (hs : a.eval s = v) (hx : a.eval x = u) (HM : HMem w0 w es) {xs ys : List UInt8}
    (m : Del (.row v xs) es es') (HR : RB w u ys) {n : Nat} (hn : xs.length + ys.length = n) (hl : n ≤ 140737488355328)
    (h : ∀ w1 A1 c1, HMem w0 w1 (.row (.slice A1 n c1) (xs ++ ys) :: es') → Below w0.heap.size w0 w1 → wpList Try.prog ops Q rest (a.put op.dst (.slice A1 n c1)) w1) : wpList Try.prog ops Q (op :: rest) a w := by
  subst hn
  have hm := HM.out.perm m.perm
  refine append_bytes (w0 := w0) w0.heap.size ho1 s x ho v u xs ys hs hx (hm.ob (List.mem_cons_self ..)) HR HM.out.below HM.out.below.size hl (fun v1 w1 ho hb hg hown => ?_)
  have hm1 : Mem w0 w1 (.row v1 (xs ++ ys) :: es') := hm.turn (Upd.head _) hg ho (fun k hk => by
    rcases hown with e | ⟨b, e, hb⟩
    · exact .inl (by rw [← hk]; exact e.symm)
    · refine .inr ?_
      have : v1.ownBlock = some k := hk
      rw [e] at this
      injection this with this
      omega)
  obtain ⟨A1, c1, rfl, _⟩ := (hm1.rb (List.mem_cons_self ..))
  rw [List.length_append] at hm1
  rw [List.length_append]
  exact h w1 A1 c1 (Lib.hid hm1) hm1.below
/-- A literal of bytes. -/
theorem m_lit (hw : Region.wanted op (yielded ops a.tmps) = true) {n : Nat} {ps : Array (Nat × Operand)} (ho : op.op = .buildSlice 26 n ps) {qs : Array (Nat × Value)} {cs : Array Value} (l : List UInt8) (hl : l.length = n) (hn : n ≤ 1000) (hcs : (encs B l).toArray = cs)
    (hz : ∀ W : World, (Instr.buildSlice 26 n qs).run Try.prog W = .ok (.slice (some ⟨W.heap.size, 0, none⟩) n n) (W.alloc (.cells cs 5))) (hq : ps.toList.map (fun p => (p.1, a.eval p.2)) = qs.toList) (HM : HMem w0 w es)
    (h : ∀ w1 b, HMem w0 w1 (.row (.slice (some ⟨b, 0, none⟩) n n) l :: es) → Below w0.heap.size w0 w1 → wpList Try.prog ops Q rest (a.put op.dst (.slice (some ⟨b, 0, none⟩) n n)) w1) : wpList Try.prog ops Q (op :: rest) a w := by
  refine BigFrame.wpList_want hw fun K hK => ?_
  have hq2 : ps.map (fun p => (p.1, a.eval p.2)) = qs := Array.ext' (by rw [Array.toList_map]; exact hq)
  subst hq2
  unfold Oper.wp
  have := hz w
  simp [execOp, ho, resolve, this, Result.andThen]
  have hm : Mem w0 (w.alloc (.cells cs 5)) (.row (.slice (some ⟨w.heap.size, 0, none⟩) n n) l :: es) := by
    refine HM.out.row (below_alloc (Below.refl _ _) _) ?_
    have h2 := OB.lit w w.heap.size l (Nat.le_refl _) (by omega)
    rw [hcs, hl] at h2
    exact h2
  exact hK _ _ (h _ _ (Lib.hid hm) hm.below)
end
theorem bytes8 (x0 x1 x2 x3 x4 x5 x6 x7 : Int) (W : World) : (Instr.buildSlice 26 8 #[(0, .int .u8 x0), (1, .int .u8 x1), (2, .int .u8 x2), (3, .int .u8 x3), (4, .int .u8 x4), (5, .int .u8 x5), (6, .int .u8 x6), (7, .int .u8 x7)]).run Try.prog W = .ok (.slice (some ⟨W.heap.size, 0, none⟩) 8 8) (W.alloc (.cells #[.int .u8 x0, .int .u8 x1, .int .u8 x2, .int .u8 x3, .int .u8 x4, .int .u8 x5, .int .u8 x6, .int .u8 x7] 5)) := by kernel_rfl
theorem bytes12 (x0 x1 x2 x3 x4 x5 x6 x7 x8 x9 x10 x11 : Int) (W : World) : (Instr.buildSlice 26 12 #[(0, .int .u8 x0), (1, .int .u8 x1), (2, .int .u8 x2), (3, .int .u8 x3), (4, .int .u8 x4), (5, .int .u8 x5), (6, .int .u8 x6), (7, .int .u8 x7), (8, .int .u8 x8), (9, .int .u8 x9), (10, .int .u8 x10), (11, .int .u8 x11)]).run Try.prog W = .ok (.slice (some ⟨W.heap.size, 0, none⟩) 12 12) (W.alloc (.cells #[.int .u8 x0, .int .u8 x1, .int .u8 x2, .int .u8 x3, .int .u8 x4, .int .u8 x5, .int .u8 x6, .int .u8 x7, .int .u8 x8, .int .u8 x9, .int .u8 x10, .int .u8 x11] 5)) := by kernel_rfl
theorem B_ofNat (n : Nat) (h : n < 256) : B (UInt8.ofNat n) = .int .u8 (n : Int) := (B_nat n h).symm
end Go.Proofs.Ytahnibhcfdamdaa.Mm
