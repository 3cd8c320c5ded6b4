/- Steps of regions that draw, and loads by facts: for any seat. -/
import Derived.Test.YtkfjobanbnokoaaGn
set_option linter.unusedSimpArgs false
set_option linter.unusedVariables false
set_option maxRecDepth 100000
namespace Go.Proofs.Ytkfjobanbnokoaa.Gm
open Go.RowKit Go.Proofs.YtkfjobanbnokoaaW.PrintWords Go.Proofs.Ytkfjobanbnokoaa.Bs

theorem yields_own {ops : Array Oper} {op : Oper} {a : Act} {w0 : World} {es : List Ent} {t : TypeId} {x : Operand} (ho : op.op = .load t x) {b : Nat} (hx : a.eval x = .pointer (some ⟨b, 0, none⟩)) {S : World → Prop} (hS : ∀ w', S w' → Mem w0 w' es) {cs : Array Value} (m : Ent.blk b cs t ∈ es)
    {d : TypeDesc} (hu : Try.prog.underlying t = some d) (hd : d.isRow = true) (hi : (Try.prog.info? t).map (·.size) = some cs.size) (hw : Region.wanted op (yielded ops a.tmps) = true) : YieldsIf Try.prog ops S op (.agg cs) a := by
  have h := yieldsIf_load_mid (P := Try.prog) hw t x ho b 0 hx cs.toList d (S := S) (fun w' h => range_block ((hS w' h).get m)) hu hd (by simpa using hi)
  simpa using h
theorem yields_build {ops : Array Oper} {op : Oper} {a : Act} {S : World → Prop} {t : TypeId} {ps : Array (Nat × Operand)} (ho : op.op = .build t ps) (qs : Array (Nat × Value)) (hq : ps.toList.map (fun p => (p.1, a.eval p.2)) = qs.toList) {v : Value}
    (hz : Built t qs v) (hw : Region.wanted op (yielded ops a.tmps) = true) : YieldsIf Try.prog ops S op v a :=
  .inl ⟨hw, fun w _ => by
    have hq2 : ps.map (fun p => (p.1, a.eval p.2)) = qs := Array.ext' (by rw [Array.toList_map]; exact hq)
    subst hq2
    have := hz w
    simp [execOp, ho, resolve, this, Result.andThen]⟩
theorem s_rd {ops : Array Oper} {op : Oper} {a : Act} {K : Act → World → Prop} {Q : Exit → Act → World → Prop} {E : Prop} {w0 w : World} {es : List Ent} {v : Value}
    (k : K (a.put op.dst v) w) (HM : HMem w0 w es) (h : Rd w0 es op a v) (hw : Region.wanted op (yielded ops a.tmps) = true) : if Region.wanted op (yielded ops a.tmps) = true then Oper.wp Try.prog op a w K Q else E := by
  rw [if_pos hw]
  exact h.run w K Q HM.out k
theorem Rd.range {w0 : World} {es : List Ent} {op : Oper} {a : Act} {t : TypeId} {x : Operand} (ho : op.op = .load t x) {b o : Nat} (hx : a.eval x = .pointer (some ⟨b, o, none⟩)) {vs : Array Value} (hr : ∀ w, Mem w0 w es → w.rangeAt b o vs.toList) (hi : (Try.prog.info? t).map (·.size) = some vs.size) (hu : (Try.prog.underlying t).map (·.isRow) = some true) : Rd w0 es op a (.agg vs) := .mk fun w K Q HM hK => by
  obtain ⟨d, hd, hr'⟩ := Option.map_eq_some_iff.1 hu
  exact wp_load_mid (P := Try.prog) t x ho b o hx vs.toList d (hr w HM) hd hr' (by simpa using hi) (by simpa using hK)
theorem yields_cell {ops : Array Oper} {op : Oper} {a : Act} {w0 : World} {es : List Ent} {t : TypeId} {x : Operand} (ho : op.op = .load t x) (hu : (Try.prog.underlying t).map (·.isRow) = some false) {b o : Nat} (hx : a.eval x = .pointer (some ⟨b, o, none⟩)) {S : World → Prop} (hS : ∀ w', S w' → Mem w0 w' es) {cs : Array Value} {T : TypeId} (m : Ent.blk b cs T ∈ es)
    {v : Value} (hv : cs[o]? = some v) (hw : Region.wanted op (yielded ops a.tmps) = true) : YieldsIf Try.prog ops S op v a :=
  .inl ⟨hw, fun w' h => by
    have hrun := run_load1 hu w' _ v ((blk_cell ((hS w' h).get m) o).trans hv)
    simp [execOp, ho, hx, Instr.loadAt, Instr.sureAddr, hrun, Result.andThen]⟩
theorem Rd.fact {w0 : World} {es : List Ent} {op : Oper} {a : Act} {t : TypeId} {x : Operand} (ho : op.op = .load t x) (hu : (Try.prog.underlying t).map (·.isRow) = some false) {ad : Addr} (hx : a.eval x = .pointer (some ad)) {v : Value} (hv : ∀ w, Mem w0 w es → w.cell? ad = some v) : Rd w0 es op a v := .mk fun w K Q HM hK => by
  unfold Oper.wp
  have hrun := run_load1 hu w _ v (hv w HM)
  simp [execOp, ho, hx, Instr.loadAt, Instr.sureAddr, hrun, Result.andThen]
  exact hK
/-- A thing taken out of what a call knows. -/
inductive Del (e : Ent) : List Ent → List Ent → Prop
  | head (r : List Ent) : Del e (e :: r) r
  | tail (x : Ent) {es r : List Ent} : Del e es r → Del e (x :: es) (x :: r)
theorem Del.perm {e : Ent} : ∀ {es r : List Ent}, Del e es r → es.Perm (e :: r)
  | _, _, .head r => List.Perm.refl _
  | _, _, .tail x h => (List.Perm.cons x h.perm).trans (List.Perm.swap e x _)
theorem Apart.symm {a b : Ent} (h : Apart a b) : Apart b a := fun k hb ha => h k ha hb
theorem Mem.perm {w0 w : World} {es es' : List Ent} (h : Mem w0 w es) (hp : es.Perm es') : Mem w0 w es' :=
  ⟨h.below, fun e he => h.all e (hp.mem_iff.2 he), (hp.pairwise_iff (fun h => Apart.symm h)).1 h.apart⟩
end Go.Proofs.Ytkfjobanbnokoaa.Gm
