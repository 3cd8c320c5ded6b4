/- Further step laws: composite literals, literals of bytes, '==' on structs, each out of one equation that is laid ahead. -/
import Derived.Test.YtahnibhcfdamdaaMy
set_option linter.unusedSimpArgs false
set_option linter.unusedVariables false
set_option maxRecDepth 100000
namespace Go.Proofs.Ytahnibhcfdamdaa.Mm
open Go.RowKit Go.Proofs.YtahnibhcfdamdaaW.PrintWords Go.Proofs.Ytahnibhcfdamdaa.Bs Go.Proofs.Ytahnibhcfdamdaa.Co Go.Proofs.Ytahnibhcfdamdaa.Hd Go.Proofs.Ytahnibhcfdamdaa.Av Go.Proofs.Ytahnibhcfdamdaa.Ad

section
variable {ops : Array Oper} {rest : List Oper} {op : Oper} {a : Act} {Q : Exit → Act → World → Prop} {w : World}
/-- Gates: which kind of operation stands next. -/
theorem g_load {t : TypeId} {x : Operand} (_ho : op.op = .load t x) (h : wpList Try.prog ops Q (op :: rest) a w) : wpList Try.prog ops Q (op :: rest) a w := h
theorem g_store {t : TypeId} {x y : Operand} (_ho : op.op = .store t x y) (h : wpList Try.prog ops Q (op :: rest) a w) : wpList Try.prog ops Q (op :: rest) a w := h
theorem g_alloc {t : TypeId} (_ho : op.op = .alloc t) (h : wpList Try.prog ops Q (op :: rest) a w) : wpList Try.prog ops Q (op :: rest) a w := h
theorem g_box {t : TypeId} {x : Operand} (_ho : op.op = .box t x) (h : wpList Try.prog ops Q (op :: rest) a w) : wpList Try.prog ops Q (op :: rest) a w := h
theorem g_build {t : TypeId} {ps : Array (Nat × Operand)} (_ho : op.op = .build t ps) (h : wpList Try.prog ops Q (op :: rest) a w) : wpList Try.prog ops Q (op :: rest) a w := h
theorem g_buildSlice {t : TypeId} {n : Nat} {ps : Array (Nat × Operand)} (_ho : op.op = .buildSlice t n ps) (h : wpList Try.prog ops Q (op :: rest) a w) : wpList Try.prog ops Q (op :: rest) a w := h
theorem g_builtin {b : Builtin} {xs : Array Operand} {ts : Array TypeId} (_ho : op.op = .call { callee := .builtin b, args := xs, argTypes := ts }) (h : wpList Try.prog ops Q (op :: rest) a w) : wpList Try.prog ops Q (op :: rest) a w := h
theorem g_eql {t u : TypeId} {x y : Operand} (_ho : op.op = .binOp .eql t x y u) (h : wpList Try.prog ops Q (op :: rest) a w) : wpList Try.prog ops Q (op :: rest) a w := h
theorem g_neq {t u : TypeId} {x y : Operand} (_ho : op.op = .binOp .neq t x y u) (h : wpList Try.prog ops Q (op :: rest) a w) : wpList Try.prog ops Q (op :: rest) a w := h
end
/-- A composite literal's value. -/
def Built (t : TypeId) (qs : Array (Nat × Value)) (v : Value) : Prop := ∀ W : World, (Instr.build t qs).run Try.prog W = .ok v W
/-- A literal of bytes: what its cells are, and its run. -/
def LitOf (n : Nat) (qs : Array (Nat × Value)) (l : List UInt8) : Prop := l.length = n ∧ n ≤ 1000 ∧ ∀ W : World, (Instr.buildSlice 26 n qs).run Try.prog W = .ok (.slice (some ⟨W.heap.size, 0, none⟩) n n) (W.alloc (.cells (encs B l).toArray 5))
/-- What '==' says of two structs' values. -/
def EqlOf (t : TypeId) (vx vy : Array Value) (r : Bool) : Prop := ∀ W : World, (binOp .eql t (.agg vx) (.agg vy)).run Try.prog W = .ok (.bool r) W
theorem run_neq_of {t : TypeId} {vx vy : Array Value} {r : Bool} (h : EqlOf t vx vy r) (W : World) : (binOp .neq t (.agg vx) (.agg vy)).run Try.prog W = .ok (.bool (!r)) W := by
  have h1 := h W
  simp only [binOp, Sem.run_bind] at h1 ⊢
  cases hq : (Op.equal t (.agg vx) (.agg vy)).run Try.prog W with
  | ok b w' =>
    rw [hq] at h1
    simp [Result.andThen] at h1 ⊢
    exact ⟨by rw [h1.1], h1.2⟩
  | halt e w' => rw [hq] at h1; simp [Result.andThen] at h1
section
variable {ops : Array Oper} {rest : List Oper} {op : Oper} {a : Act} {Q : Exit → Act → World → Prop} {w0 w : World} {es es' : List Ent}
theorem m_buildV {t : TypeId} {ps : Array (Nat × Operand)} (ho : op.op = .build t ps) (hw : Region.wanted op (yielded ops a.tmps) = true) {qs : Array (Nat × Value)} {v : Value} (hz : Built t qs v) (hq : ps.toList.map (fun p => (p.1, a.eval p.2)) = qs.toList)
    (h : wpList Try.prog ops Q rest (a.put op.dst v) w) : wpList Try.prog ops Q (op :: rest) a w := by
  refine BigFrame.wpList_want hw fun K hK => ?_
  have hq2 : ps.map (fun p => (p.1, a.eval p.2)) = qs := Array.ext' (by rw [Array.toList_map]; exact hq)
  subst hq2
  unfold Oper.wp
  have := hz w
  simp [execOp, ho, resolve, this, Result.andThen]
  exact hK _ _ h
theorem m_litV {n : Nat} {ps : Array (Nat × Operand)} (ho : op.op = .buildSlice 26 n ps) (hw : Region.wanted op (yielded ops a.tmps) = true) {qs : Array (Nat × Value)} {l : List UInt8} (hL : LitOf n qs l) (hq : ps.toList.map (fun p => (p.1, a.eval p.2)) = qs.toList) (HM : HMem w0 w es)
    (h : ∀ w1 b, HMem w0 w1 (.row (.slice (some ⟨b, 0, none⟩) n n) l :: es) → Below w0.heap.size w0 w1 → wpList Try.prog ops Q rest (a.put op.dst (.slice (some ⟨b, 0, none⟩) n n)) w1) : wpList Try.prog ops Q (op :: rest) a w :=
  m_lit hw ho l hL.1 hL.2.1 rfl hL.2.2 hq HM h
theorem m_eqV {t u : TypeId} {x y : Operand} (ho : op.op = .binOp .eql t x y u) (hw : Region.wanted op (yielded ops a.tmps) = true) {vx vy : Array Value} (hx : a.eval x = .agg vx) (hy : a.eval y = .agg vy) {r : Bool} (he : EqlOf t vx vy r) (hgt : Try.prog.eqGuardType Try.prog.depth t = false)
    (h : wpList Try.prog ops Q rest (a.put op.dst (.bool r)) w) : wpList Try.prog ops Q (op :: rest) a w := by
  refine BigFrame.wpList_want hw fun K hK => ?_
  unfold Oper.wp
  have := he w
  have hg : (eqGuard .eql t x y (.agg vx) (.agg vy)).run Try.prog w = .ok () w := by simp [eqGuard, hgt]
  simp [execOp, ho, resolve, hx, hy, hg, this, Result.andThen]
  exact hK _ _ h
theorem m_neV {t u : TypeId} {x y : Operand} (ho : op.op = .binOp .neq t x y u) (hw : Region.wanted op (yielded ops a.tmps) = true) {vx vy : Array Value} (hx : a.eval x = .agg vx) (hy : a.eval y = .agg vy) {r : Bool} (he : EqlOf t vx vy r) (hgt : Try.prog.eqGuardType Try.prog.depth t = false)
    (h : wpList Try.prog ops Q rest (a.put op.dst (.bool (!r))) w) : wpList Try.prog ops Q (op :: rest) a w := by
  refine BigFrame.wpList_want hw fun K hK => ?_
  unfold Oper.wp
  have := run_neq_of he w
  have hg : (eqGuard .neq t x y (.agg vx) (.agg vy)).run Try.prog w = .ok () w := by simp [eqGuard, hgt]
  simp [execOp, ho, resolve, hx, hy, hg, this, Result.andThen]
  exact hK _ _ h
end
section
variable {ops : Array Oper} {op : Oper} {a : Act} {K : Act → World → Prop} {Q : Exit → Act → World → Prop} {E : Prop} {w0 w : World} {es es' : List Ent}
theorem s_putI (hw : Region.wanted op (yielded ops a.tmps) = true) {x y : Operand} (ho : op.op = .store 3 x y) {b i : Nat} (hx : a.eval x = .pointer (some ⟨b, i, none⟩)) {n : Int} (hy : a.eval y = .int .i64 n) (HM : HMem w0 w es) {cs cs' : Array Value} {T : TypeId}
    (u : Upd (.blk b cs T) (.blk b cs' T) es es') {v0 : Value} (hc0 : cs[i]? = some v0) (hc : cs.setIfInBounds i (.int .i64 n) = cs')
    (h : ∀ w1, HMem w0 w1 es' → Below w0.heap.size w0 w1 → K (a.put op.dst undef) w1) : if Region.wanted op (yielded ops a.tmps) = true then Oper.wp Try.prog op a w K Q else E := by
  rw [if_pos hw]
  unfold Oper.wp
  have hrun := run_storeI w ⟨b, i, none⟩ n v0 ((blk_cell (HM.out.get u.mem) i).trans hc0) (blk_frozen (HM.out.get u.mem) i)
  simp [execOp, ho, hx, hy, Instr.storeAt, Instr.sureAddr, hrun, Result.andThen]
  have hm := HM.out.cell i (.int .i64 n) hc u
  exact h _ (Lib.hid hm) hm.below
end
theorem built_six (l : List UInt8) (h : l.length = 16) : Built 25 #[(0, .int .i64 6), (1, .agg (encs B l).toArray)] (.agg (AV [6] l)) := buildSix l h
theorem built_four (l : List UInt8) (h : l.length = 16) : Built 25 #[(0, .int .i64 4), (1, .agg (encs B l).toArray)] (.agg (AV [4] l)) := fun W => by
  obtain ⟨a, b, c, d, e, f, g, h, i, j, k, m, n, o, p, q, rfl⟩ := list16 h
  kernel_rfl
theorem built_zero4 : Built 25 #[(0, .int .i64 4)] (.agg (AV [4] (List.replicate 16 0))) := buildFour
theorem built_zero6 : Built 25 #[(0, .int .i64 6)] (.agg (AV [6] (List.replicate 16 0))) := fun W => by kernel_rfl
theorem built_ends (p q : Int) (x y : List UInt8) (hx : x.length = 16) (hy : y.length = 16) : Built 31 #[(9, .agg (AV [p] x)), (10, .agg (AV [q] y))] (.agg (HV [0, 0, 0, 0, 0, 0, 0, 0, 0] p x q y)) := fun W => by
  obtain ⟨x0, x1, x2, x3, x4, x5, x6, x7, x8, x9, xa, xb, xc, xd, xe, xf, rfl⟩ := list16 hx
  obtain ⟨y0, y1, y2, y3, y4, y5, y6, y7, y8, y9, ya, yb, yc, yd, ye, yf, rfl⟩ := list16 hy
  kernel_rfl
theorem eql_head_self (ns : List Int) (a b : Int) (x y : List UInt8) (hn : ns.length = 9) (hx : x.length = 16) (hy : y.length = 16) (h : Fits (ns ++ [a, b])) : EqlOf 31 (HV ns a x b y) (HV ns a x b y) true := fun W => by
  rw [eq_head ns ns a b a b x y x y hn hn hx hy hx hy h h W]
  simp
end Go.Proofs.Ytahnibhcfdamdaa.Mm
