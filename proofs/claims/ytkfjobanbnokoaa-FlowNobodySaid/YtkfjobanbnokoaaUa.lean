/- Ranges over a function: steps inside a fence; what a collecting round does; a range over a map as an iterator's steps. -/
import Derived.Test.YtkfjobanbnokoaaPn
import Derived.Test.YtkfjobanbnokoaaRo
import Derived.RangeFuncNested
import Derived.BigFrameIn
import Derived.TacticsInMore
import Derived.RegionIn
import Derived.LoopNIn
import Derived.LoopIn
import Derived.OwnWalkIn
set_option linter.unusedSimpArgs false
set_option linter.unusedVariables false
set_option linter.unusedSectionVars false
set_option maxRecDepth 100000
namespace Go.Proofs.Ytkfjobanbnokoaa.Gm
open Go.RowKit Go.Proofs.YtkfjobanbnokoaaW.PrintWords Go.Proofs.Ytkfjobanbnokoaa.Bs

/-- Operations that hand back a value or nothing, and call nothing. -/
def plainKind : Op → Bool
  | .load .. | .store .. | .alloc .. | .buildSlice .. | .range .. | .next .. | .entry .. => true
  | _ => false
theorem plain_res {ρ : Operand → Value} {o : Oper} (h : plainKind o.op = true) {P : Program} {w w1 : World} {r : Next} (hr : (execOp ρ o).run P w = .ok r w1) : (∃ v, r = .value v) ∨ r = .skip := by
  have vv : ∀ (s : Sem Value), (do pure (Next.value (← s)) : Sem Next).run P w = .ok r w1 → ∃ v, r = .value v := fun s hs => by
    rw [Sem.run_bind] at hs
    cases hq : s.run P w with
    | ok v w2 => rw [hq] at hs; simp [Result.andThen] at hs; exact ⟨v, hs.1.symm⟩
    | _ => rw [hq] at hs; simp [Result.andThen] at hs
  have uu : ∀ (s : Sem Unit), (do s; pure Next.skip : Sem Next).run P w = .ok r w1 → r = .skip := fun s hs => by
    rw [Sem.run_bind] at hs
    cases hq : s.run P w with
    | ok v w2 => rw [hq] at hs; simp [Result.andThen] at hs; exact hs.1.symm
    | _ => rw [hq] at hs; simp [Result.andThen] at hs
  unfold execOp at hr
  cases ho : o.op with
  | load t x => rw [ho] at hr; exact .inl (vv (Instr.loadAt t (ρ x)) hr)
  | store t x y => rw [ho] at hr; exact .inr (uu (Instr.storeAt t (ρ x) (ρ y)) hr)
  | alloc t => rw [ho] at hr; exact .inl (vv (Instr.alloc t true (.tuple #[])) hr)
  | buildSlice t n ps =>
    rw [ho] at hr
    dsimp only at hr
    exact .inl (vv _ hr)
  | range t x => rw [ho] at hr; exact .inl (vv (Instr.range t (ρ x)) hr)
  | next x s => rw [ho] at hr; exact .inl (vv (Instr.next (ρ x) s o.type) hr)
  | entry x => rw [ho] at hr; exact .inl (vv (Instr.entry (ρ x)) hr)
  | _ => rw [ho] at h; cases h
theorem wpIn_of_wp {F : Fence} {n : Nat} {P : Program} {o : Oper} {a : Act} {w : World} {K : Act → World → Prop} {Q : Exit → Act → World → Prop} (hF : ∀ f, F.fn f) (hk : plainKind o.op = true) (h : Oper.wp P o a w K Q) : o.wpIn F n P a w K Q := by
  refine ⟨fun f _ => hF f, ?_⟩
  rw [Oper.semAt_plain F _ _ (fun c e => by rw [e] at hk; cases hk)]
  unfold Oper.wp at h
  have hp := fun r w1 => plain_res (ρ := a.eval) (P := P) (w := w) (w1 := w1) (r := r) hk
  generalize (execOp a.eval o).run P w = R at h hp
  match R, h, hp with
  | .ok r w1, h, hp =>
    rcases hp r w1 rfl with ⟨v, rfl⟩ | rfl
    · exact h
    · exact h
  | .halt e _, h, _ => cases e <;> first | exact h | exact h.elim
section
variable {F : Fence} {n : Nat} {ops : Array Oper} {rest : List Oper} {op : Oper} {a : Act} {Q : Exit → Act → World → Prop} {w : World}
theorem in_wp (hF : ∀ f, F.fn f) (hg : op.guard = none) (hk : plainKind op.op = true) (h : ∀ K : Act → World → Prop, (∀ a w, wpListIn F n Try.prog ops Q rest a w → K a w) → Oper.wp Try.prog op a w K Q) : wpListIn F n Try.prog ops Q (op :: rest) a w :=
  wpListIn_plain hg fun K hK => wpIn_of_wp hF hk (h K hK)
theorem in_alloc (hF : ∀ f, F.fn f) (hg : op.guard = none) {t : TypeId} (ho : op.op = .alloc t) {z : Array Value} (hz : ∀ W : World, (zeroValue t).run Try.prog W = .ok (.agg z) W) (k : wpListIn F n Try.prog ops Q rest (a.put op.dst (.pointer (some ⟨w.heap.size, 0, none⟩))) (w.alloc (.cells z t))) : wpListIn F n Try.prog ops Q (op :: rest) a w :=
  in_wp hF hg (by rw [ho]; rfl) fun K hK => by
    unfold Oper.wp
    simp [execOp, ho, Instr.alloc, hz, newVar, newRow, Result.andThen]
    exact hK _ _ k
theorem in_load (hF : ∀ f, F.fn f) (hg : op.guard = none) {t : TypeId} {x : Operand} (ho : op.op = .load t x) {ad : Addr} (hx : a.eval x = .pointer (some ad)) {v : Value} (hrun : (loadVar t ad).run Try.prog w = .ok v w) (k : wpListIn F n Try.prog ops Q rest (a.put op.dst v) w) : wpListIn F n Try.prog ops Q (op :: rest) a w :=
  in_wp hF hg (by rw [ho]; rfl) fun K hK => by
    unfold Oper.wp
    simp [execOp, ho, hx, Instr.loadAt, Instr.sureAddr, hrun, Result.andThen]
    exact hK _ _ k
theorem in_store (hF : ∀ f, F.fn f) (hg : op.guard = none) {t : TypeId} {x y : Operand} (ho : op.op = .store t x y) {b : Nat} {cs vs : Array Value} {T : TypeId} (hx : a.eval x = .pointer (some ⟨b, 0, none⟩)) (hy : a.eval y = .agg vs) (hc : w.heap[b]? = some (.cells cs T (0, 0))) (hs : vs.size = cs.size)
    (hi : (Try.prog.info? t).map (·.size) = some cs.size) (h1 : vs.all (·.oneCell') = true) (k : wpListIn F n Try.prog ops Q rest (a.put op.dst undef) (w.setCells b 0 vs.toList)) : wpListIn F n Try.prog ops Q (op :: rest) a w :=
  in_wp hF hg (by rw [ho]; rfl) fun K hK => wp_store_mid (P := Try.prog) t x y ho b 0 vs hx hy (by rw [hs]; exact there_block hc) (by rw [hs]; exact hi) h1 (hK _ _ k)
theorem in_put (hF : ∀ f, F.fn f) (hg : op.guard = none) {t : TypeId} {x y : Operand} (ho : op.op = .store t x y) (hi : (Try.prog.info? t).map (·.size) = some 1) {ad : Addr} (hx : a.eval x = .pointer (some ad)) {v v0 : Value} (hy : a.eval y = v) (h1 : v.oneCell' = true) (hc : w.cell? ad = some v0) (hf : w.frozen? ad = false)
    (k : wpListIn F n Try.prog ops Q rest (a.put op.dst undef) (w.setCell ad v)) : wpListIn F n Try.prog ops Q (op :: rest) a w :=
  in_wp hF hg (by rw [ho]; rfl) fun K hK => by
    unfold Oper.wp
    have hrun := run_store1 hi w ad v v0 h1 hc hf
    simp [execOp, ho, hx, hy, Instr.storeAt, Instr.sureAddr, hrun, Result.andThen]
    exact hK _ _ k
theorem in_lit {α : Type} {R : RK α} (hF : ∀ f, F.fn f) (hg : op.guard = none) {m : Nat} {ps : Array (Nat × Operand)} (ho : op.op = .buildSlice R.t m ps) {qs : Array (Nat × Value)} {l : List α} (hL : LitR R m qs l) (hq : ps.toList.map (fun p => (p.1, a.eval p.2)) = qs.toList)
    (k : wpListIn F n Try.prog ops Q rest (a.put op.dst (.slice (some ⟨w.heap.size, 0, none⟩) m m)) (w.alloc (.cells (encR R l).toArray R.e))) : wpListIn F n Try.prog ops Q (op :: rest) a w :=
  in_wp hF hg (by rw [ho]; rfl) fun K hK => by
    have hq2 : ps.map (fun p => (p.1, a.eval p.2)) = qs := Array.ext' (by rw [Array.toList_map]; exact hq)
    subst hq2
    unfold Oper.wp
    have := hL.2.2 w
    simp [execOp, ho, resolve, this, Result.andThen]
    exact hK _ _ k
theorem in_append (hF : ∀ f, F.fn f) (hg : op.guard = none) {t : TypeId} {s x : Operand} (ho : op.op = .call { callee := .builtin .append, args := #[s, x], argTypes := #[t, t] }) {v u v1 : Value} {w1 : World} (hs : a.eval s = v) (hx : a.eval x = u) (hrun : (Builtin.append_ #[t, t] op.type #[v, u]).run Try.prog w = .ok v1 w1)
    (k : wpListIn F n Try.prog ops Q rest (a.put op.dst v1) w1) : wpListIn F n Try.prog ops Q (op :: rest) a w :=
  wpListIn_plain hg fun K hK => by
    refine ⟨fun f _ => hF f, ?_⟩
    rw [Oper.semAt_plain F _ _ (fun c e => by rw [ho] at e; cases e)]
    simp only [execOp, ho, resolve, invoke, builtin, Sem.run_bind, Sem.run_pure, Result.andThen_ok, List.map_toArray, List.map_cons, List.map_nil, hs, hx, hrun]
    exact hK _ _ k
theorem in_range {κ ν : Type} [DecidableEq κ] {M : MK κ ν} (L : M.Law) (hF : ∀ f, F.fn f) (hg : op.guard = none) {x : Operand} (ho : op.op = .range M.t x) {b : Nat} {l : List (κ × ν)} (hx : a.eval x = .map (some b)) (hm : MapAt M.k M.ek M.ev b l w)
    (k : ∀ w1, RangeAt M.k M.ek M.ev b w.heap.size l l w1 → w.grownBy w1 none → w1.heap.size = w.heap.size + 1 → wpListIn F n Try.prog ops Q rest (a.put op.dst (.pointer (some ⟨w.heap.size, 0, none⟩))) w1) : wpListIn F n Try.prog ops Q (op :: rest) a w :=
  in_wp hF hg (by rw [ho]; rfl) fun K hK => by
    obtain ⟨w1, hrun, h1, h2, h3⟩ := hm.range L.ht
    unfold Oper.wp
    simp [execOp, ho, hx, hrun, Result.andThen]
    exact hK _ _ (k w1 h1 h2 h3)
theorem in_next {κ ν : Type} [DecidableEq κ] {M : MK κ ν} (hF : ∀ f, F.fn f) (hg : op.guard = none) {x : Operand} (ho : op.op = .next x false) {b r : Nat} {l left : List (κ × ν)} (hx : a.eval x = .pointer (some ⟨r, 0, none⟩)) (hm : RangeAt M.k M.ek M.ev b r l left w)
    (k0 : left = [] → wpListIn F n Try.prog ops Q rest (a.put op.dst (.tuple #[.bool false])) w)
    (k1 : ∀ p left' w1, left.Perm (p :: left') → RangeAt M.k M.ek M.ev b r l left' w1 → w.grownBy w1 (some r) → w1.heap.size = w.heap.size → (Instr.entry (.pointer (some ⟨r, 0, none⟩))).run Try.prog w1 = .ok (.tuple #[M.ek p.1, M.ev p.2]) w1 → wpListIn F n Try.prog ops Q rest (a.put op.dst (.tuple #[.bool true, M.ek p.1, M.ev p.2])) w1) : wpListIn F n Try.prog ops Q (op :: rest) a w :=
  in_wp hF hg (by rw [ho]; rfl) fun K hK => by
    unfold Oper.wp
    rcases hm.next op.type with ⟨h0, hrun⟩ | ⟨p, left', w1, hp, hrun, h1, h2, h3, h4⟩
    · simp [execOp, ho, hx, hrun, Result.andThen]
      exact hK _ _ (k0 h0)
    · simp [execOp, ho, hx, hrun, Result.andThen]
      exact hK _ _ (k1 p left' w1 hp h1 h2 h3 h4)
theorem in_entry (hF : ∀ f, F.fn f) (hg : op.guard = none) {x : Operand} (ho : op.op = .entry x) {u v : Value} (hx : a.eval x = u) (hrun : (Instr.entry u).run Try.prog w = .ok v w) (k : wpListIn F n Try.prog ops Q rest (a.put op.dst v) w) : wpListIn F n Try.prog ops Q (op :: rest) a w :=
  in_wp hF hg (by rw [ho]; rfl) fun K hK => by
    unfold Oper.wp
    simp [execOp, ho, hx, hrun, Result.andThen]
    exact hK _ _ k
end
/-- A step that turns cells alone keeps what is no cells. -/
theorem keepsO {W W' : World} {row : Option Nat} (hg : W.grownBy W' row) (hr : ∀ j o, row = some j → W.heap[j]? = some o → o.isCells = true) : KeepsOthers W W' :=
  ⟨hg.size, fun k o hk ho => (hg.block k (Array.getElem?_eq_some_iff.1 hk).1 (fun e => by have := hr k o e.symm hk; rw [ho] at this; cases this)).trans hk⟩
theorem KeepsOthers.walks {W W' : World} (h : KeepsOthers W W') : KeepsWalks W W' := ⟨h.size, fun k o hk ho => h.same k o hk (by cases o <;> first | rfl | cases ho)⟩
section
variable {α : Type} {R : RK α}
/-- What a collecting loop keeps between two rounds: the slice's variable and its row. -/
def Col (R : RK α) (w0 : World) (Bs : Nat) (pre : List α) (W : World) : Prop := ∃ A c, Mem w0 W [.blk Bs #[.slice A pre.length c] R.t, rowE R (.slice A pre.length c) pre]
theorem ow_cells {base : Nat} {W : World} {v : Value} {l : List α} (h : OW R base W v l) {k : Nat} (hk : v.ownBlock = some k) : ∃ o, W.heap[k]? = some o ∧ o.isCells = true := by
  rcases h.2 with ⟨rfl, _⟩ | ⟨g, cap, cur, rfl, _, hg, _⟩
  · cases hk
  · have : g = k := by simpa [Value.ownBlock] using hk
    subst this
    exact ⟨_, hg, rfl⟩
theorem col_keep {w0 W W' : World} {Bs B n c : Nat} {A : Option Addr} {s : List α} {row : Option Nat} (hB : w0.heap.size ≤ B) (h : Mem w0 W [.blk Bs #[.slice A n c] R.t, rowE R (.slice A n c) s]) (hg : W.grownBy W' row) (hr : ∀ r, row = some r → B ≤ r ∧ ∃ o : Obj, W.heap[r]? = some o ∧ o.isCells = false) :
    Mem w0 W' [.blk Bs #[.slice A n c] R.t, rowE R (.slice A n c) s] := by
  have hne : ∀ e ∈ [Ent.blk Bs #[.slice A n c] R.t, rowE R (.slice A n c) s], ∀ k, e.own = some k → some k ≠ row := fun e he k hk ek => by
    obtain ⟨_, o, ho, hc⟩ := hr k ek.symm
    rcases List.mem_cons.1 he with rfl | he
    · cases hk
      rw [h.get (List.mem_cons_self ..)] at ho
      cases ho
      cases hc
    · obtain rfl : e = _ := by simpa using he
      obtain ⟨o2, h2, h3⟩ := ow_cells (h.ow (List.mem_cons_of_mem _ (List.mem_cons_self ..))) hk
      rw [h2] at ho
      cases ho
      rw [h3] at hc
      cases hc
  exact ⟨h.below.grown hg h.below.size (fun k e => Nat.le_trans hB (hr k e).1), fun e he => (h.all e he).far hg (hne e he), h.apart⟩
theorem col_own {w0 : World} {Bs B : Nat} (hB : w0.heap.size ≤ B) : OwnFrom B (Col R w0 Bs) := fun s W W' row ⟨A, c, h⟩ hg hr => ⟨A, c, col_keep hB h hg hr⟩
/-- A round appends. -/
theorem col_append (L : R.Law) {w0 W : World} {Bs c : Nat} {A : Option Addr} {pre : List α} (h : Mem w0 W [.blk Bs #[.slice A pre.length c] R.t, rowE R (.slice A pre.length c) pre]) (x : α) (hl : (pre.length + 1) * R.bytes ≤ 140737488355328) (ty : TypeId) :
    ∃ A1 c1 W1, (Builtin.append_ #[R.t, R.t] ty #[.slice A pre.length c, .slice (some ⟨W.heap.size, 0, none⟩) 1 1]).run Try.prog (W.alloc (.cells (encR R [x]).toArray R.e)) = .ok (.slice A1 (pre.length + 1) c1) W1 ∧
      W1.cell? ⟨Bs, 0, none⟩ = some (.slice A pre.length c) ∧ W1.frozen? ⟨Bs, 0, none⟩ = false ∧ KeepsOthers W (W1.setCell ⟨Bs, 0, none⟩ (.slice A1 (pre.length + 1) c1)) ∧ Col R w0 Bs (pre ++ [x]) (W1.setCell ⟨Bs, 0, none⟩ (.slice A1 (pre.length + 1) c1)) := by
  have hlit := (OW.lit L W W.heap.size [x] (Nat.le_refl _) (by simp)).rw_ L
  have h1 : Mem w0 (W.alloc (.cells (encR R [x]).toArray R.e)) [.blk Bs #[.slice A pre.length c] R.t, rowE R (.slice A pre.length c) pre] := h.call (below_alloc (Below.refl _ _) _)
  have how := h1.ow (R := R) (v := .slice A pre.length c) (l := pre) (List.mem_cons_of_mem _ (List.mem_cons_self ..))
  obtain ⟨v1, W1, hr, ho1, hg, hat⟩ := run_append_R L w0.heap.size ty (.slice A pre.length c) (.slice (some ⟨W.heap.size, 0, none⟩) 1 1) pre [x] how hlit h1.below.size (by simpa using hl)
  have h2 : Mem w0 W1 [.blk Bs #[.slice A pre.length c] R.t, rowE R v1 (pre ++ [x])] := h1.turn (Upd.tail _ (Upd.head _)) hg (holdsR ho1) (fun k hk => by
    rcases hat with e | e
    · exact .inl (by rw [← hk]; exact e.symm)
    · refine .inr ?_
      have : v1.ownBlock = some k := hk
      rw [e] at this
      injection this with this
      omega)
  obtain ⟨A1, c1, rfl, _⟩ := h2.rw_ L (List.mem_cons_of_mem _ (List.mem_cons_self ..))
  rw [List.length_append, List.length_singleton] at hr h2
  refine ⟨A1, c1, W1, hr, (blk_cell (h2.get (List.mem_cons_self ..)) 0).trans rfl, blk_frozen (h2.get (List.mem_cons_self ..)) 0, ?_, ?_⟩
  · refine ((keepsO (World.grownBy_alloc W _ none) (fun j o e => by cases e)).trans (keepsO hg (fun j o e hj => ?_))).trans (keepsO (grown_set W1 Bs 0 _) (fun j o e hj => ?_))
    · obtain ⟨o2, h3, h4⟩ := ow_cells how e
      rw [h3] at hj
      cases hj
      exact h4
    · cases e
      rw [h2.get (List.mem_cons_self ..)] at hj
      cases hj
      rfl
  · refine ⟨A1, c1, ?_⟩
    rw [List.length_append, List.length_singleton]
    exact h2.cell 0 _ rfl (Upd.head _)
end
end Go.Proofs.Ytkfjobanbnokoaa.Gm
