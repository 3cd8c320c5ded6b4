/- Rows of elements of any number of cells: what a slice reads as, a row of a call's own, appends to it, elements loaded and stored. -/
import Derived.Test.YtkfjobanbnokoaaGp
import Derived.Maps.AppendAt
import Derived.Laws.OwnMore
set_option linter.unusedSimpArgs false
set_option linter.unusedVariables false
set_option linter.unusedSectionVars false
set_option maxRecDepth 100000
namespace Go.Proofs.Ytkfjobanbnokoaa.Gm
open Go.RowKit Go.Proofs.YtkfjobanbnokoaaW.PrintWords Go.Proofs.Ytkfjobanbnokoaa.Bs

/-- A kind of rows: the slice's type, the element's, how many cells and bytes an element has, and its cells. -/
structure RK (α : Type) where
  t : TypeId
  e : TypeId
  k : Nat
  bytes : Nat
  enc : α → Array Value
structure RK.Law {α : Type} (R : RK α) : Prop where
  ht : Try.prog.underlying R.t = some (.slice R.e)
  info : ∃ i z, Try.prog.info? R.e = some i ∧ i.zero = some z ∧ i.size = R.k ∧ i.bytes = R.bytes ∧ z.cells.size = R.k
  pos : 0 < R.k
  posb : 0 < R.bytes
  size : ∀ x, (R.enc x).size = R.k
  one : ∀ x, (R.enc x).all (·.oneCell') = true
theorem RK.law_of {α : Type} {R : RK α} (ht : Try.prog.underlying R.t = some (.slice R.e)) (h : (Try.prog.info? R.e).map (fun i => (i.zero.map (fun z => z.cells.size), i.size, i.bytes)) = some (some R.k, R.k, R.bytes)) (hp : 0 < R.k) (hb : 0 < R.bytes) (hs : ∀ x, (R.enc x).size = R.k) (h1 : ∀ x, (R.enc x).all (·.oneCell') = true) : R.Law := by
  obtain ⟨i, hi, he⟩ := Option.map_eq_some_iff.1 h
  simp only [Prod.mk.injEq] at he
  obtain ⟨z, hz, hzs⟩ := Option.map_eq_some_iff.1 he.1
  exact ⟨ht, ⟨i, z, hi, hz, he.2.1, he.2.2, hzs⟩, hp, hb, hs, h1⟩

section
variable {α : Type} {R : RK α}
def encR (R : RK α) (l : List α) : List Value := (l.map fun x => (R.enc x).toList).flatten
theorem encR_nil : encR R [] = [] := rfl
theorem encR_cons (x : α) (l : List α) : encR R (x :: l) = (R.enc x).toList ++ encR R l := rfl
theorem encR_append (l m : List α) : encR R (l ++ m) = encR R l ++ encR R m := by simp [encR]
theorem encR_length (L : R.Law) : ∀ l : List α, (encR R l).length = l.length * R.k
  | [] => by simp [encR]
  | x :: l => by
    rw [encR_cons, List.length_append, encR_length L l, List.length_cons, Nat.add_mul, Nat.one_mul, Nat.add_comm]
    congr 1
    simpa using L.size x
theorem encR_at (L : R.Law) : ∀ {l : List α} {i : Nat} {x : α}, l[i]? = some x → ∀ j, j < R.k → (encR R l)[i * R.k + j]? = (R.enc x)[j]?
  | [], i, x, h, _, _ => by simp at h
  | y :: l, 0, x, h, j, hj => by
    simp only [List.getElem?_cons_zero, Option.some.injEq] at h
    subst h
    rw [encR_cons, Nat.zero_mul, Nat.zero_add, List.getElem?_append_left (by have := L.size y; simpa [this] using hj)]
    simp
  | y :: l, i + 1, x, h, j, hj => by
    rw [List.getElem?_cons_succ] at h
    have hy : (R.enc y).toList.length = R.k := by simpa using L.size y
    rw [encR_cons, List.getElem?_append_right (by rw [hy, Nat.add_mul]; omega), hy, show (i + 1) * R.k + j - R.k = i * R.k + j by rw [Nat.add_mul]; omega]
    exact encR_at L h j hj
theorem encR_get (L : R.Law) {l : List α} {p : Nat} {u : Value} (h : (encR R l)[p]? = some u) : ∃ i j x, p = i * R.k + j ∧ j < R.k ∧ l[i]? = some x ∧ (R.enc x)[j]? = some u := by
  have hlt : p < l.length * R.k := by
    have := (List.getElem?_eq_some_iff.1 h).1
    rwa [encR_length L] at this
  have hi : p / R.k < l.length := by
    rw [Nat.div_lt_iff_lt_mul L.pos]; exact hlt
  have hj := Nat.mod_lt p L.pos
  have hp : p = p / R.k * R.k + p % R.k := by rw [Nat.mul_comm]; exact (Nat.div_add_mod p R.k).symm
  refine ⟨p / R.k, p % R.k, l[p / R.k], hp, hj, by simp [hi], ?_⟩
  rw [← encR_at L (l := l) (i := p / R.k) (x := l[p / R.k]) (by simp [hi]) (p % R.k) hj, ← hp]
  exact h
theorem encR_one (L : R.Law) (l : List α) : ∀ u ∈ encR R l, u.oneCell' = true := fun u hu => by
  simp only [encR, List.mem_flatten, List.mem_map] at hu
  obtain ⟨_, ⟨x, _, rfl⟩, hu⟩ := hu
  have := L.one x
  rw [Array.all_eq_true_iff_forall_mem] at this
  exact this u (by simpa using hu)
theorem add_add (a : Addr) (m n : Nat) : (a.add m).add n = a.add (m + n) := by
  unfold Addr.add
  by_cases hm : m = 0
  · subst hm
    by_cases hn : n = 0
    · subst hn; simp
    · simp [hn]
  · by_cases hn : n = 0
    · subst hn; simp [hm]
    · simp [hm, hn, Nat.add_assoc]
/-- Cells lie from an address on. -/
def RangeA (w : World) (ad : Addr) (cs : Array Value) : Prop := ∀ j v, cs[j]? = some v → w.cell? (ad.add j) = some v
theorem RangeA.below {w w1 : World} {ad : Addr} {cs : Array Value} (h : RangeA w ad cs) (hb : Below w.heap.size w w1) : RangeA w1 ad cs := fun j v hv => pw_cell_below hb (h j v hv)

/-- A slice reads as these elements. -/
def RW (R : RK α) (w : World) (v : Value) (l : List α) : Prop := ∃ A c, v = .slice A l.length c ∧ l.length ≤ c ∧ l.length ≤ 9223372036854775807 ∧ (0 < l.length → ∃ ad, A = some ad ∧ ∀ p u, (encR R l)[p]? = some u → w.cell? (ad.add p) = some u)
theorem RW.nil (R : RK α) (w : World) : RW R w (.slice none 0 0) [] := ⟨none, 0, rfl, Nat.le_refl _, by simp, fun h => absurd h (Nat.lt_irrefl 0)⟩
theorem RW.below {w w1 : World} {v : Value} {l : List α} (h : RW R w v l) (hb : Below w.heap.size w w1) : RW R w1 v l := by
  obtain ⟨A, c, rfl, hc, hm, hr⟩ := h
  refine ⟨A, c, rfl, hc, hm, fun hn => ?_⟩
  obtain ⟨ad, e, h2⟩ := hr hn
  exact ⟨ad, e, fun p u hu => pw_cell_below hb (h2 p u hu)⟩
theorem RW.elem (L : R.Law) {w : World} {A : Option Addr} {n c : Nat} {l : List α} (h : RW R w (.slice A n c) l) {i : Nat} {x : α} (hx : l[i]? = some x) : ∃ ad, A = some ad ∧ RangeA w (ad.add (i * R.k)) (R.enc x) := by
  obtain ⟨A', c', e, hc, hm, hr⟩ := h
  injection e with e1 e2 e3
  subst e1
  have hlt := (List.getElem?_eq_some_iff.1 hx).1
  obtain ⟨ad, rfl, h2⟩ := hr (by omega)
  refine ⟨ad, rfl, fun j v hv => ?_⟩
  have hj : j < R.k := by
    have := (Array.getElem?_eq_some_iff.1 hv).1
    rwa [L.size] at this
  rw [add_add]
  exact h2 _ _ ((encR_at L hx j hj).trans hv)
theorem RW.of (L : R.Law) {w : World} {A : Option Addr} {l : List α} {c : Nat} (hc : l.length ≤ c) (hm : l.length ≤ 9223372036854775807) (h : ∀ i x, l[i]? = some x → ∃ ad, A = some ad ∧ RangeA w (ad.add (i * R.k)) (R.enc x)) : RW R w (.slice A l.length c) l := by
  refine ⟨A, c, rfl, hc, hm, fun hn => ?_⟩
  obtain ⟨ad, rfl, _⟩ := h 0 l[0] (by simp [hn])
  refine ⟨ad, rfl, fun p u hu => ?_⟩
  obtain ⟨i, j, x, rfl, hj, hx, hv⟩ := encR_get L hu
  obtain ⟨ad', e, hr⟩ := h i x hx
  injection e with e
  subst e
  rw [← add_add]
  exact hr j u hv

/-- A row of the call's own. -/
def OW (R : RK α) (base : Nat) (w : World) (v : Value) (l : List α) : Prop := w.ownsRow base R.e R.k v l.length (encR R l)
theorem OW.nil (R : RK α) (base : Nat) (w : World) : OW R base w (.slice none 0 0) [] := World.ownsRow_nil _ _ _ _
theorem OW.rw_ {base : Nat} {w : World} {v : Value} {l : List α} (L : R.Law) (h : OW R base w v l) : RW R w v l := by
  have hown := h
  rcases h.2 with ⟨rfl, hn⟩ | ⟨g, cap, cur, rfl, _, _, hnc, hcm, _⟩
  · obtain rfl : l = [] := List.eq_nil_of_length_eq_zero hn
    exact RW.nil R w
  · refine ⟨_, cap, rfl, hnc, by simp only [maxLen] at hcm; omega, fun _ => ⟨_, rfl, fun p u hu => hown.cells (g := g) rfl p u hu⟩⟩
theorem OW.lit (L : R.Law) (W : World) (base : Nat) (l : List α) (hb : base ≤ W.heap.size) (hl : l.length ≤ 1099511627776) : OW R base (W.alloc (.cells (encR R l).toArray R.e)) (.slice (some ⟨W.heap.size, 0, none⟩) l.length l.length) l := by
  have h := World.ownsRow_lit (base := base) (size := R.k) (e := R.e) W (encR R l).toArray l.length hb (by simp only [maxLen]; omega) (by simp [encR_length L])
  simpa [OW] using h
/-- A row as a thing that a call knows. -/
def rowE (R : RK α) (v : Value) (l : List α) : Ent := .any v.ownBlock (fun base w => OW R base w v l)
theorem localR (R : RK α) (v : Value) (l : List α) : Local v.ownBlock (fun base w => OW R base w v l) := fun base w w1 row h hg hr => own_other h hg (by
  cases hv : v.ownBlock with
  | none => exact .inl rfl
  | some k => exact .inr (hr k hv))
theorem holdsR {base : Nat} {w : World} {v : Value} {l : List α} (h : OW R base w v l) : (rowE R v l).holds base w := ⟨⟨h, fun k hk => ⟨own_base h k hk, own_lt h k hk⟩⟩, localR R v l⟩
theorem Mem.ow {w0 w : World} {es : List Ent} (h : Mem w0 w es) {v : Value} {l : List α} (m : rowE R v l ∈ es) : OW R w0.heap.size w v l := h.prop m
theorem Mem.rw_ {w0 w : World} {es : List Ent} (h : Mem w0 w es) {v : Value} {l : List α} (L : R.Law) (m : rowE R v l ∈ es) : RW R w v l := (h.ow m).rw_ L
theorem Mem.newRow {w0 w w1 : World} {es : List Ent} (h : Mem w0 w es) (hb : Below w.heap.size w w1) {v : Value} {l : List α} (ho : OW R w.heap.size w1 v l) : Mem w0 w1 (rowE R v l :: es) :=
  h.any hb (own_weaken ho h.below.size) (localR R v l) (fun k hk => ⟨own_base ho k hk, own_lt ho k hk⟩)
theorem Mem.nilR {w0 w : World} {es : List Ent} (h : Mem w0 w es) (R : RK α) : Mem w0 w (rowE R (.slice none 0 0) [] :: es) := h.newRow (Below.refl _ _) (OW.nil _ _ _)

/-- append(v, u...) on a row of the call's own. -/
theorem run_append_R (L : R.Law) {W : World} (base : Nat) (ty : TypeId) (v u : Value) (xs ys : List α) (HO : OW R base W v xs) (HR : RW R W u ys) (hbase : base ≤ W.heap.size) (hl : (xs.length + ys.length) * R.bytes ≤ 140737488355328) :
    ∃ v1 w1, (Builtin.append_ #[R.t, R.t] ty #[v, u]).run Try.prog W = .ok v1 w1 ∧ OW R base w1 v1 (xs ++ ys) ∧ W.grownBy w1 v.ownBlock ∧ (v1.ownBlock = v.ownBlock ∨ v1.ownBlock = some W.heap.size) := by
  obtain ⟨A, c, rfl, hc, hm, hr⟩ := HR
  obtain ⟨i0, z, hi, hz0, hz1, hz2, hzs⟩ := L.info
  have hlen : xs.length + ys.length ≤ 140737488355328 := Nat.le_trans (Nat.le_mul_of_pos_right _ L.posb) hl
  rcases A with _ | ad
  · have h0 : ys = [] := by
      rcases Nat.eq_zero_or_pos ys.length with h0 | h0
      · exact List.eq_nil_of_length_eq_zero h0
      · obtain ⟨ad, h, _⟩ := hr h0
        cases h
    subst h0
    refine ⟨v, W, ?_, by simpa using HO, World.grownBy.refl W _, .inl rfl⟩
    rcases HO.2 with ⟨rfl, hn⟩ | ⟨g, cap, cur, rfl, _, _, hnc, _⟩
    · simp [Builtin.append_, run_underlying L.ht, sizeOf, typeInfo, hi, Builtin.lenOf, Builtin.firstCells]
    · simp [Builtin.append_, run_underlying L.ht, sizeOf, typeInfo, hi, Builtin.lenOf, Builtin.firstCells, hnc, storeCells]
  · have hcells : ∀ j u, (encR R ys)[j]? = some u → W.cell? (ad.add j) = some u := fun j u hu => by
      have hpos : 0 < ys.length := by
        rcases Nat.eq_zero_or_pos ys.length with h0 | h0
        · rw [List.eq_nil_of_length_eq_zero h0] at hu; simp [encR] at hu
        · exact h0
      obtain ⟨ad', h', hc⟩ := hr hpos
      injection h' with h'
      subst h'
      exact hc j u hu
    obtain ⟨v1, w1, hr, h2, h3, _, h5⟩ := run_append_own_at (P := Try.prog) W base R.t ty R.e i0 z R.k R.bytes L.ht hi hz0 hz1 hz2 hzs L.pos v xs.length (encR R xs) HO ad ys.length c (encR R ys) (encR_length L ys) hcells
      (encR_one L ys) (by simp only [maxLen]; omega) hl hbase
    exact ⟨v1, w1, hr, by unfold OW; rw [List.length_append, encR_append]; exact h2, h3, h5⟩
/-- An operation that turns what the call owns; what it hands over is told up to a choice. -/
structure Wx {τ : Type} (w0 : World) (es : List Ent) (op : Oper) (a : Act) (v : τ → Value) (es' : τ → List Ent) : Prop where
  run : ∀ (w : World) (K : Act → World → Prop) (Q : Exit → Act → World → Prop), Mem w0 w es → (∀ w1 b, Mem w0 w1 (es' b) → K (a.put op.dst (v b)) w1) → Oper.wp Try.prog op a w K Q
theorem Wx.app (L : R.Law) {w0 : World} {es es' : List Ent} {op : Oper} {a : Act} {s x : Operand} {v u : Value} {xs ys : List α} {n : Nat}
    (ho : op.op = .call { callee := .builtin .append, args := #[s, x], argTypes := #[R.t, R.t] }) (hs : a.eval s = v) (hx : a.eval x = u)
    (m : Del (rowE R v xs) es es') (HR : ∀ w, Mem w0 w es → RW R w u ys) (hn : xs.length + ys.length = n) (hl : n * R.bytes ≤ 140737488355328) :
    Wx w0 es op a (fun p : Option Addr × Nat => .slice p.1 n p.2) (fun p => rowE R (.slice p.1 n p.2) (xs ++ ys) :: es') := .mk fun w K Q HM hK => by
  subst hn
  have hm := HM.perm m.perm
  obtain ⟨v1, w1, hr, ho1, hg, hat⟩ := run_append_R L w0.heap.size op.type v u xs ys (hm.ow (List.mem_cons_self ..)) (HR w HM) HM.below.size hl
  have hm1 : Mem w0 w1 (rowE R v1 (xs ++ ys) :: es') := hm.turn (Upd.head _) hg (holdsR ho1) (fun k hk => by
    rcases hat with e | e
    · exact .inl (by rw [← hk]; exact e.symm)
    · refine .inr ?_
      have : v1.ownBlock = some k := hk
      rw [e] at this
      injection this with this
      omega)
  obtain ⟨A1, c1, rfl, _⟩ := (hm1.rw_ L (List.mem_cons_self ..))
  unfold Oper.wp execOp
  simp only [ho, resolve, invoke, builtin, Sem.run_bind, Sem.run_pure, Result.andThen_ok, List.map_toArray, List.map_cons, List.map_nil, hs, hx, hr]
  have := hK w1 (A1, c1) (by rw [List.length_append] at hm1; exact hm1)
  rw [List.length_append]
  exact this
theorem m_wx {τ : Type} {ops : Array Oper} {rest : List Oper} {op : Oper} {a : Act} {Q : Exit → Act → World → Prop} {w0 w : World} {es : List Ent} {v : τ → Value} {e : τ → List Ent} (k : ∀ w1 b, HMem w0 w1 (e b) → Below w0.heap.size w0 w1 → wpList Try.prog ops Q rest (a.put op.dst (v b)) w1) (HM : HMem w0 w es)
    (h : Wx w0 es op a v e) (hw : Region.wanted op (yielded ops a.tmps) = true) : wpList Try.prog ops Q (op :: rest) a w :=
  BigFrame.wpList_want hw fun K hK => h.run w K Q HM.out (fun w1 b hm => hK _ _ (k w1 b (Lib.hid hm) hm.below))
theorem s_wx {τ : Type} {ops : Array Oper} {op : Oper} {a : Act} {K : Act → World → Prop} {Q : Exit → Act → World → Prop} {E : Prop} {w0 w : World} {es : List Ent} {v : τ → Value} {e : τ → List Ent}
    (k : ∀ w1 b, HMem w0 w1 (e b) → Below w0.heap.size w0 w1 → K (a.put op.dst (v b)) w1) (HM : HMem w0 w es) (h : Wx w0 es op a v e) (hw : Region.wanted op (yielded ops a.tmps) = true) : if Region.wanted op (yielded ops a.tmps) = true then Oper.wp Try.prog op a w K Q else E := by
  rw [if_pos hw]
  exact h.run w K Q HM.out (fun w1 b hm => k w1 b (Lib.hid hm) hm.below)

theorem Mem.pull {w0 w : World} {es r : List Ent} {e : Ent} (h : Mem w0 w es) (d : Del e es r) : Mem w0 w (e :: r) := h.perm d.perm
theorem Mem.cellR (L : R.Law) {w0 w : World} {es : List Ent} (h : Mem w0 w es) {g n c : Nat} {l : List α} (m : rowE R (.slice (some ⟨g, 0, none⟩) n c) l ∈ es) {i : Nat} {x : α} (hx : l[i]? = some x) (j : Nat) {v : Value} (hv : (R.enc x)[j]? = some v) {p : Nat} (hp : i * R.k + j = p) : w.cell? ⟨g, p, none⟩ = some v := by
  obtain ⟨ad, e, hr⟩ := (h.rw_ L m).elem L hx
  injection e with e
  subst e
  have := hr j v hv
  rw [add_add, add_plain, hp] at this
  simpa using this
theorem m_wrh {ops : Array Oper} {rest : List Oper} {op : Oper} {a : Act} {Q : Exit → Act → World → Prop} {w0 w : World} {es : List Ent} {v : Nat → Value} {e : Nat → List Ent} (HM : HMem w0 w es) (hw : Region.wanted op (yielded ops a.tmps) = true) (h : Wr w0 es op a v e)
    (k : ∀ w1 b, HMem w0 w1 (e b) → Below w0.heap.size w0 w1 → wpList Try.prog ops Q rest (a.put op.dst (v b)) w1) : wpList Try.prog ops Q (op :: rest) a w := m_wr k HM h hw
theorem m_rdh {ops : Array Oper} {rest : List Oper} {op : Oper} {a : Act} {Q : Exit → Act → World → Prop} {w0 w : World} {es : List Ent} {v : Value} (HM : HMem w0 w es) (hw : Region.wanted op (yielded ops a.tmps) = true) (h : Rd w0 es op a v)
    (k : wpList Try.prog ops Q rest (a.put op.dst v) w) : wpList Try.prog ops Q (op :: rest) a w := m_rd k HM h hw
/-- An element of a struct's or an array's type is loaded. -/
theorem run_load_range {t : TypeId} {d : TypeDesc} (hu : Try.prog.underlying t = some d) (hd : d.isRow = true) (W : World) (ad : Addr) (cs : Array Value) (hi : (Try.prog.info? t).map (·.size) = some cs.size) (h : RangeA W ad cs) : (loadVar t ad).run Try.prog W = .ok (.agg cs) W := by
  have hl : (loadCells ad cs.toList.length).run Try.prog W = .ok cs.toList.toArray W := run_loadCells_list (P := Try.prog) W ad cs.toList (fun j v hv => h j v (by simpa using hv))
  cases hq : Try.prog.info? t with
  | none => simp [hq] at hi
  | some i =>
    have hs : i.size = cs.size := by simpa [hq] using hi
    have hagg : (isAgg t).run Try.prog W = .ok true W := by
      unfold isAgg
      rw [Sem.run_bind, run_underlying hu W]
      cases d <;> simp_all
    simp only [Array.length_toList, Array.toArray_toList] at hl
    simp [loadVar, Sem.run_bind, hagg, sizeOf, typeInfo, hq, hs, hl]
theorem Rd.elem {w0 : World} {es : List Ent} {op : Oper} {a : Act} {t : TypeId} {x : Operand} (ho : op.op = .load t x) (hu : (Try.prog.underlying t).map (·.isRow) = some true) {ad : Addr} (hx : a.eval x = .pointer (some ad)) {vs : Array Value} (hr : ∀ w, Mem w0 w es → RangeA w ad vs) (hi : (Try.prog.info? t).map (·.size) = some vs.size) : Rd w0 es op a (.agg vs) := .mk fun w K Q HM hK => by
  obtain ⟨d, hd, hr'⟩ := Option.map_eq_some_iff.1 hu
  unfold Oper.wp
  have hrun := run_load_range hd hr' w ad vs hi (hr w HM)
  simp [execOp, ho, hx, Instr.loadAt, Instr.sureAddr, hrun, Result.andThen]
  exact hK
theorem yields_elem {ops : Array Oper} {op : Oper} {a : Act} {t : TypeId} {x : Operand} (ho : op.op = .load t x) (hu : (Try.prog.underlying t).map (·.isRow) = some true) {ad : Addr} (hx : a.eval x = .pointer (some ad)) {S : World → Prop} {vs : Array Value} (hr : ∀ w, S w → RangeA w ad vs) (hi : (Try.prog.info? t).map (·.size) = some vs.size) (hw : Region.wanted op (yielded ops a.tmps) = true) : YieldsIf Try.prog ops S op (.agg vs) a :=
  .inl ⟨hw, fun w' h => by
    obtain ⟨d, hd, hr'⟩ := Option.map_eq_some_iff.1 hu
    have hrun := run_load_range hd hr' w' ad vs hi (hr w' h)
    simp [execOp, ho, hx, Instr.loadAt, Instr.sureAddr, hrun, Result.andThen]⟩
theorem yields_fact {ops : Array Oper} {op : Oper} {a : Act} {t : TypeId} {x : Operand} (ho : op.op = .load t x) (hu : (Try.prog.underlying t).map (·.isRow) = some false) {ad : Addr} (hx : a.eval x = .pointer (some ad)) {S : World → Prop} {v : Value} (hr : ∀ w, S w → w.cell? ad = some v) (hw : Region.wanted op (yielded ops a.tmps) = true) : YieldsIf Try.prog ops S op v a :=
  .inl ⟨hw, fun w' h => by
    have hrun := run_load1 hu w' _ v (hr w' h)
    simp [execOp, ho, hx, Instr.loadAt, Instr.sureAddr, hrun, Result.andThen]⟩
/-- A literal of elements: its cells, and its run. -/
def LitR (R : RK α) (n : Nat) (qs : Array (Nat × Value)) (l : List α) : Prop := l.length = n ∧ n ≤ 1000 ∧ ∀ W : World, (Instr.buildSlice R.t n qs).run Try.prog W = .ok (.slice (some ⟨W.heap.size, 0, none⟩) n n) (W.alloc (.cells (encR R l).toArray R.e))
theorem Wr.litR (L : R.Law) {w0 : World} {es : List Ent} {op : Oper} {a : Act} {n : Nat} {ps : Array (Nat × Operand)} (ho : op.op = .buildSlice R.t n ps) {qs : Array (Nat × Value)} {l : List α} (hL : LitR R n qs l) (hq : ps.toList.map (fun p => (p.1, a.eval p.2)) = qs.toList) :
    Wr w0 es op a (fun b => .slice (some ⟨b, 0, none⟩) n n) (fun b => rowE R (.slice (some ⟨b, 0, none⟩) n n) l :: es) := .mk fun w K Q HM hK => by
  obtain ⟨hl, hn, hz⟩ := hL
  have hq2 : ps.map (fun p => (p.1, a.eval p.2)) = qs := Array.ext' (by rw [Array.toList_map]; exact hq)
  subst hq2
  unfold Oper.wp
  have := hz w
  simp [execOp, ho, resolve, this, Result.andThen]
  refine hK _ _ (HM.newRow (below_alloc (Below.refl _ _) _) ?_)
  have h2 := OW.lit L w w.heap.size l (Nat.le_refl _) (by omega)
  rw [hl] at h2
  exact h2
/-- An element of a row of the call's own is stored. -/
theorem encR_set (L : R.Law) : ∀ {l : List α} {i : Nat} (y : α), i < l.length → encR R (l.set i y) = (encR R l).take (i * R.k) ++ (R.enc y).toList ++ (encR R l).drop (i * R.k + R.k)
  | [], i, y, h => absurd h (Nat.not_lt_zero _)
  | x :: l, 0, y, h => by
    have hx : (R.enc x).toList.length = R.k := by simpa using L.size x
    simp only [List.set_cons_zero, encR_cons, Nat.zero_mul, List.take_zero, List.nil_append, Nat.zero_add]
    rw [List.drop_append_of_le_length (by omega), List.drop_of_length_le (by omega), List.nil_append]
  | x :: l, i + 1, y, h => by
    have hx : (R.enc x).toList.length = R.k := by simpa using L.size x
    have ih := encR_set L (l := l) (i := i) y (by simpa using h)
    have e1 : (i + 1) * R.k = R.k + i * R.k := by rw [Nat.add_mul]; omega
    have e2 := @List.take_length_add_append _ (R.enc x).toList (encR R l) (i * R.k)
    have e3 := @List.drop_length_add_append _ (R.enc x).toList (encR R l) (i * R.k + R.k)
    rw [hx] at e2 e3
    rw [List.set_cons_succ, encR_cons, encR_cons, ih, e1, e2, show R.k + i * R.k + R.k = R.k + (i * R.k + R.k) by omega, e3]
    simp only [List.append_assoc]
theorem part_take (C vs : List Value) (o n : Nat) (h1 : o + vs.length ≤ n) (h2 : n ≤ C.length) : (C.take o ++ vs ++ C.drop (o + vs.length)).take n = (C.take n).take o ++ vs ++ (C.take n).drop (o + vs.length) := by
  apply List.ext_getElem?
  intro p
  have hl1 : (C.take o).length = o := by rw [List.length_take]; omega
  have hl2 : ((C.take n).take o).length = o := by rw [List.length_take, List.length_take]; omega
  rw [List.getElem?_take]
  by_cases h1 : p < o
  · rw [if_pos (by omega), List.append_assoc, List.getElem?_append_left (by omega), List.append_assoc, List.getElem?_append_left (by omega), List.getElem?_take, if_pos h1, List.getElem?_take, if_pos h1, List.getElem?_take, if_pos (by omega)]
  · by_cases h2 : p < o + vs.length
    · rw [if_pos (by omega), List.append_assoc, List.getElem?_append_right (by omega), List.getElem?_append_left (by omega), List.append_assoc, List.getElem?_append_right (by omega), List.getElem?_append_left (by omega), hl1, hl2]
    · by_cases h3 : p < n
      · rw [if_pos h3, List.getElem?_append_right (by rw [List.length_append]; omega), List.getElem?_append_right (by rw [List.length_append]; omega), List.getElem?_drop, List.getElem?_drop, List.getElem?_take, List.length_append, List.length_append, hl1, hl2, if_pos (by omega)]
      · rw [if_neg h3, List.getElem?_eq_none]
        simp only [List.length_append, List.length_drop, List.length_take]
        omega
theorem OW.block {base : Nat} {w : World} {g n cap : Nat} {l : List α} (h : OW R base w (.slice (some ⟨g, 0, none⟩) n cap) l) : ∃ cur, base ≤ g ∧ w.heap[g]? = some (.cells cur R.e (0, 0)) ∧ n = l.length ∧ l.length ≤ cap ∧ cap ≤ maxLen ∧ cur.size = cap * R.k ∧ cur.toList.take (l.length * R.k) = encR R l := by
  rcases h.2 with ⟨e, _⟩ | ⟨g', cap', cur, e, hb, hg, hc, hm, hs, ht⟩
  · injection e with e; cases e
  · injection e with e1 e2 e3
    injection e1 with e1
    injection e1 with e1
    subst e1 e2 e3
    exact ⟨cur, hb, hg, rfl, hc, hm, hs, ht⟩
theorem OW.set (L : R.Law) {base : Nat} {w : World} {g n cap : Nat} {l : List α} (h : OW R base w (.slice (some ⟨g, 0, none⟩) n cap) l) (i : Nat) (y : α) (hi : i < l.length) : OW R base (w.setCells g (i * R.k) (R.enc y).toList) (.slice (some ⟨g, 0, none⟩) n cap) (l.set i y) := by
  obtain ⟨cur, hb, hg, rfl, hc, hm, hs, ht⟩ := h.block
  have hy : (R.enc y).toList.length = R.k := by simpa using L.size y
  have hik : i * R.k + R.k ≤ l.length * R.k := by rw [← Nat.succ_mul]; exact Nat.mul_le_mul_right _ hi
  have hlc : l.length * R.k ≤ cap * R.k := Nat.mul_le_mul_right _ hc
  have hl2 : i * R.k + (R.enc y).toList.length ≤ cur.size := by rw [hy, hs]; omega
  have hp := setCells_part hg (i * R.k) (R.enc y).toList hl2 rfl
  have hcl : cur.toList.length = cap * R.k := by simpa using hs
  refine ⟨by rw [encR_length L], .inr ⟨g, cap, _, by rw [List.length_set], hb, hp, by rw [List.length_set]; exact hc, hm, ?_, ?_⟩⟩
  · simp only [List.size_toArray, List.length_append, List.length_take, List.length_drop, hcl, hy]; omega
  · have hp2 := part_take cur.toList (R.enc y).toList (i * R.k) (l.length * R.k) (by omega) (by omega)
    rw [List.length_set, encR_set L y hi, ← ht]
    rw [hy] at hp2 ⊢
    exact hp2
theorem Wr.elem (L : R.Law) {w0 : World} {es es' : List Ent} {op : Oper} {a : Act} {x y : Operand} (ho : op.op = .store R.e x y) (hu : (Try.prog.underlying R.e).map (·.isRow) = some true) {g i n c : Nat} {l : List α} (hx : a.eval x = .pointer (some ⟨g, i * R.k, none⟩)) {z : α} (hy : a.eval y = .agg (R.enc z)) (hi : i < l.length)
    (u : Upd (rowE R (.slice (some ⟨g, 0, none⟩) n c) l) (rowE R (.slice (some ⟨g, 0, none⟩) n c) (l.set i z)) es es') : Wr w0 es op a (fun _ => undef) (fun _ => es') := .mk fun w K Q HM hK => by
  have hown : OW R w0.heap.size w (.slice (some ⟨g, 0, none⟩) n c) l := HM.ow u.mem
  obtain ⟨cur, hb, hg, rfl, hc, hm, hs, ht⟩ := hown.block
  have hik : i * R.k + R.k ≤ l.length * R.k := by rw [← Nat.succ_mul]; exact Nat.mul_le_mul_right _ hi
  have hlc : l.length * R.k ≤ c * R.k := Nat.mul_le_mul_right _ hc
  obtain ⟨i0, z0, hi0, _, hz1, _⟩ := L.info
  refine wp_store_mid (P := Try.prog) R.e x y ho g (i * R.k) (R.enc z) hx hy (fun j hj => ⟨?_, blk_frozen hg _⟩) (by rw [hi0, L.size z]; simp [hz1]) (L.one z) (hK _ 0 (HM.turn u (setCells_grown g (R.enc z).toList (i * R.k) w) (holdsR (hown.set L i z hi)) (fun k hk => .inl hk)))
  rw [L.size z] at hj
  rw [blk_cell hg]
  simp
  omega
/-- One cell of an element is stored. -/
theorem OW.cell (L : R.Law) {base : Nat} {w : World} {g n cap : Nat} {l : List α} (h : OW R base w (.slice (some ⟨g, 0, none⟩) n cap) l) (i j : Nat) (x y : α) (v : Value) (hx : l[i]? = some x) (hj : j < R.k) (hy : R.enc y = (R.enc x).setIfInBounds j v) : OW R base (w.setCell ⟨g, i * R.k + j, none⟩ v) (.slice (some ⟨g, 0, none⟩) n cap) (l.set i y) := by
  obtain ⟨cur, hb, hg, rfl, hc, hm, hs, ht⟩ := h.block
  have hi := (List.getElem?_eq_some_iff.1 hx).1
  have hik : i * R.k + R.k ≤ l.length * R.k := by rw [← Nat.succ_mul]; exact Nat.mul_le_mul_right _ hi
  have hlc : l.length * R.k ≤ cap * R.k := Nat.mul_le_mul_right _ hc
  refine ⟨by rw [encR_length L], .inr ⟨g, cap, cur.setIfInBounds (i * R.k + j) v, by rw [List.length_set], hb, blk_set hg _ _, by rw [List.length_set]; exact hc, hm, by rw [Array.size_setIfInBounds]; exact hs, ?_⟩⟩
  have hxl : (R.enc x).toList.length = R.k := by simpa using L.size x
  have hcl : cur.toList.length = cap * R.k := by simpa using hs
  rw [List.length_set, encR_set L y hi, hy, Array.toList_setIfInBounds, Array.toList_setIfInBounds, ← ht, List.take_set]
  have hxc : ∀ q, q < R.k → (List.take (l.length * R.k) cur.toList)[i * R.k + q]? = (R.enc x).toList[q]? := fun q hq => by
    rw [ht, encR_at L hx q hq]; simp
  have hlt : (List.take (l.length * R.k) cur.toList).length = l.length * R.k := by rw [List.length_take, hcl]; omega
  generalize List.take (l.length * R.k) cur.toList = T at hxc hlt ⊢
  generalize (R.enc x).toList = X at hxc hxl ⊢
  generalize i * R.k = ik at hik hxc ⊢
  generalize l.length * R.k = lk at hik hlt ⊢
  apply List.ext_getElem?
  intro p
  rw [List.getElem?_set]
  have hl1 : (List.take ik T).length = ik := by rw [List.length_take]; omega
  by_cases h1 : p < ik
  · rw [if_neg (by omega), List.append_assoc, List.getElem?_append_left (by omega), List.getElem?_take, if_pos h1]
  · by_cases h2 : p < ik + R.k
    · rw [List.append_assoc, List.getElem?_append_right (by omega), List.getElem?_append_left (by rw [List.length_set]; omega), hl1, List.getElem?_set, hxl]
      obtain ⟨q, rfl⟩ : ∃ q, p = ik + q := ⟨p - ik, by omega⟩
      rw [show ik + q - ik = q by omega]
      by_cases hqj : j = q
      · subst hqj
        rw [if_pos rfl, if_pos (by omega), if_pos rfl, if_pos hj]
      · rw [if_neg (by omega), if_neg hqj]
        exact hxc q (by omega)
    · rw [if_neg (by omega), List.getElem?_append_right (by rw [List.length_append, List.length_set]; omega), List.getElem?_drop, List.length_append, List.length_set, hl1, hxl]
      congr 1
      omega
end
/-- Bytes. -/
def R8 : RK UInt8 := ⟨22, 5, 1, 1, fun x => #[B x]⟩
theorem law8 : R8.Law := RK.law_of Try.underlying22 (by kernel_rfl) (by decide) (by decide) (fun _ => rfl) (fun x => by simp [R8, B, Value.oneCell'])
theorem enc8 : ∀ l : List UInt8, encR R8 l = encs B l
  | [] => rfl
  | x :: l => by rw [encR_cons, enc8 l]; rfl
theorem ow8 {base : Nat} {w : World} {v : Value} {l : List UInt8} : OB base w v l ↔ OW R8 base w v l := by
  unfold OB OW
  rw [enc8]
  rfl
theorem rw8 {w : World} {v : Value} {l : List UInt8} : RB w v l ↔ RW R8 w v l := by
  constructor
  · rintro ⟨A, c, rfl, hc, h1, h2, h3⟩
    refine ⟨A, c, rfl, hc, h2, fun hn => ?_⟩
    obtain ⟨ad, rfl, hr⟩ := h3 hn
    refine ⟨ad, rfl, fun p u hu => ?_⟩
    have hp : p < l.length := by
      have := (List.getElem?_eq_some_iff.1 hu).1
      rw [encR_length law8] at this
      simpa [R8] using this
    rw [enc8, encs_get (d := 0) l p hp] at hu
    rw [← hu]
    exact hr p hp
  · rintro ⟨A, c, rfl, hc, h2, h3⟩
    refine ⟨A, c, rfl, hc, rfl, h2, fun hn => ?_⟩
    obtain ⟨ad, rfl, hr⟩ := h3 hn
    refine ⟨ad, rfl, fun p hp => ?_⟩
    exact hr p _ (by rw [enc8, encs_get (d := 0) l p hp])
theorem Mem.row8 {w0 w w1 : World} {es : List Ent} (h : Mem w0 w es) (hb : Below w.heap.size w w1) {v : Value} {l : List UInt8} (ho : OB w.heap.size w1 v l) : Mem w0 w1 (rowE R8 v l :: es) := h.newRow hb (ow8.1 ho)
theorem Mem.ob {w0 w : World} {es : List Ent} (h : Mem w0 w es) {v : Value} {l : List UInt8} (m : rowE R8 v l ∈ es) : OB w0.heap.size w v l := ow8.2 (h.ow m)
theorem Mem.rb {w0 w : World} {es : List Ent} (h : Mem w0 w es) {v : Value} {l : List UInt8} (m : rowE R8 v l ∈ es) : RB w v l := (h.ob m).rb
end Go.Proofs.Ytkfjobanbnokoaa.Gm
