/- What a call knows of memory: blocks of its own, and whatever else lies in a block of its own and is not turned from without; each apart from the others. -/
import Derived.Test.YtkfjobanbnokoaaZa
set_option linter.unusedSimpArgs false
set_option linter.unusedVariables false
set_option maxRecDepth 100000
namespace Go.Proofs.Ytkfjobanbnokoaa.Gm
open Go.RowKit Go.Proofs.YtkfjobanbnokoaaW.PrintWords Go.Proofs.Ytkfjobanbnokoaa.Bs

/-- A block of the call's own: of one variable (its cells are as many as its type has), of any cells; or anything that lies in a block and is not turned by what is done elsewhere. -/
inductive Ent where
  | blk (b : Nat) (cs : Array Value) (T : TypeId)
  | raw (b : Nat) (cs : Array Value) (T : TypeId)
  | any (o : Option Nat) (P : Nat → World → Prop)
/-- What a property says is not turned by what is done to other blocks. -/
def Local (o : Option Nat) (P : Nat → World → Prop) : Prop := ∀ base w w1 row, P base w → w.grownBy w1 row → (∀ k, o = some k → some k ≠ row) → P base w1
def Ent.own : Ent → Option Nat
  | .blk b _ _ => some b
  | .raw b _ _ => some b
  | .any o _ => o
def Ent.holds (base : Nat) (w : World) : Ent → Prop
  | .blk b cs T => (base ≤ b ∧ w.heap[b]? = some (.cells cs T (0, 0))) ∧ (Try.prog.info? T).map (·.size) = some cs.size
  | .raw b cs T => base ≤ b ∧ w.heap[b]? = some (.cells cs T (0, 0))
  | .any o P => (P base w ∧ (∀ k, o = some k → base ≤ k ∧ k < w.heap.size)) ∧ Local o P
def Apart (a b : Ent) : Prop := ∀ k, a.own = some k → b.own ≠ some k
structure Mem (w0 w : World) (es : List Ent) : Prop where
  below : Below w0.heap.size w0 w
  all : ∀ e ∈ es, e.holds w0.heap.size w
  apart : es.Pairwise Apart

theorem grown_size {w w1 : World} {row : Option Nat} (h : w.grownBy w1 row) : w.heap.size ≤ w1.heap.size := h.size
theorem Ent.holds.lt {base : Nat} {w : World} {e : Ent} (h : e.holds base w) (k : Nat) (hk : e.own = some k) : k < w.heap.size := by
  cases e with
  | blk b cs T => injection hk with hk; subst hk; exact blk_lt h.1.2
  | raw b cs T => injection hk with hk; subst hk; exact blk_lt h.2
  | any o P => exact (h.1.2 k hk).2
theorem Ent.holds.base {base : Nat} {w : World} {e : Ent} (h : e.holds base w) (k : Nat) (hk : e.own = some k) : base ≤ k := by
  cases e with
  | blk b cs T => injection hk with hk; subst hk; exact h.1.1
  | raw b cs T => injection hk with hk; subst hk; exact h.1
  | any o P => exact (h.1.2 k hk).1
theorem Ent.holds.far {base : Nat} {w w1 : World} {e : Ent} (h : e.holds base w) {row : Option Nat} (hg : w.grownBy w1 row) (hne : ∀ k, e.own = some k → some k ≠ row) : e.holds base w1 := by
  cases e with
  | blk b cs T => exact ⟨⟨h.1.1, blk_grown h.1.2 hg (hne b rfl)⟩, h.2⟩
  | raw b cs T => exact ⟨h.1, blk_grown h.2 hg (hne b rfl)⟩
  | any o P => exact ⟨⟨h.2 base w w1 row h.1.1 hg hne, fun k hk => ⟨(h.1.2 k hk).1, Nat.lt_of_lt_of_le (h.1.2 k hk).2 (grown_size hg)⟩⟩, h.2⟩
theorem Mem.start (w : World) : Mem w w [] := ⟨Below.refl _ _, fun e h => absurd h List.not_mem_nil, List.Pairwise.nil⟩
theorem Mem.call {w0 w w1 : World} {es : List Ent} (h : Mem w0 w es) (hb : Below w.heap.size w w1) : Mem w0 w1 es :=
  ⟨h.below.trans (hb.mono h.below.size), fun e he => (h.all e he).far (grown_of_below hb none) (fun k _ => by simp), h.apart⟩
theorem Mem.drew {w0 w : World} {es : List Ent} (h : Mem w0 w es) : Mem w0 w.drew es := h.call (below_drew (Below.refl _ _))
theorem Mem.drewN {w0 w : World} {es : List Ent} (h : Mem w0 w es) (n : Nat) : Mem w0 (w.drewN n) es := h.call (pw_below_drewN (Below.refl _ _) n)
theorem Mem.push {w0 w : World} {es : List Ent} (h : Mem w0 w es) (e : Ent) (he : e.holds w0.heap.size w) (hf : ∀ x ∈ es, Apart e x) : Mem w0 w (e :: es) :=
  ⟨h.below, fun x hx => by rcases List.mem_cons.1 hx with rfl | hx; exact he; exact h.all x hx, List.Pairwise.cons hf h.apart⟩
theorem Mem.alloc {w0 w : World} {es : List Ent} (h : Mem w0 w es) (cs : Array Value) (T : TypeId) (hi : (Try.prog.info? T).map (·.size) = some cs.size) : Mem w0 (w.alloc (.cells cs T)) (.blk w.heap.size cs T :: es) :=
  (h.call (below_alloc (Below.refl _ _) _)).push _ ⟨⟨h.below.size, blk_new w _⟩, hi⟩ (fun x hx k hk hk2 => by
    injection hk with hk
    subst hk
    exact Nat.lt_irrefl _ ((h.all x hx).lt _ hk2))
theorem Mem.allocRaw {w0 w : World} {es : List Ent} (h : Mem w0 w es) (cs : Array Value) (T : TypeId) : Mem w0 (w.alloc (.cells cs T)) (.raw w.heap.size cs T :: es) :=
  (h.call (below_alloc (Below.refl _ _) _)).push _ ⟨h.below.size, blk_new w _⟩ (fun x hx k hk hk2 => by
    injection hk with hk
    subst hk
    exact Nat.lt_irrefl _ ((h.all x hx).lt _ hk2))
/-- A callee hands back something that lies in a new block. -/
theorem Mem.any {w0 w w1 : World} {es : List Ent} (h : Mem w0 w es) (hb : Below w.heap.size w w1) {o : Option Nat} {P : Nat → World → Prop} (hp : P w0.heap.size w1) (hl : Local o P) (ho : ∀ k, o = some k → w.heap.size ≤ k ∧ k < w1.heap.size) : Mem w0 w1 (.any o P :: es) :=
  (h.call hb).push _ ⟨⟨hp, fun k hk => ⟨Nat.le_trans h.below.size (ho k hk).1, (ho k hk).2⟩⟩, hl⟩ (fun x hx k hk hk2 => by
    have h1 := (ho k hk).1
    have h2 := (h.all x hx).lt k hk2
    omega)
/-- One entry turns. -/
inductive Upd (e e' : Ent) : List Ent → List Ent → Prop
  | head (r : List Ent) : Upd e e' (e :: r) (e' :: r)
  | tail (x : Ent) {r r' : List Ent} : Upd e e' r r' → Upd e e' (x :: r) (x :: r')
theorem Upd.mem {e e' : Ent} : ∀ {es es' : List Ent}, Upd e e' es es' → e ∈ es
  | _, _, .head r => List.mem_cons_self ..
  | _, _, .tail x h => List.mem_cons_of_mem _ h.mem
theorem Upd.split {e e' : Ent} : ∀ {es es' : List Ent}, Upd e e' es es' → ∃ a b, es = a ++ e :: b ∧ es' = a ++ e' :: b
  | _, _, .head r => ⟨[], r, rfl, rfl⟩
  | _, _, .tail x h => by
    obtain ⟨a, b, rfl, rfl⟩ := h.split
    exact ⟨x :: a, b, rfl, rfl⟩
theorem Mem.turn {w0 w w1 : World} {es es' : List Ent} {e e' : Ent} (h : Mem w0 w es) (u : Upd e e' es es') (hg : w.grownBy w1 e.own) (he : e'.holds w0.heap.size w1)
    (ho : ∀ k, e'.own = some k → e.own = some k ∨ w.heap.size ≤ k) : Mem w0 w1 es' := by
  obtain ⟨a, b, rfl, rfl⟩ := u.split
  have hp := h.apart
  rw [List.pairwise_append] at hp
  obtain ⟨ha, hb, hab⟩ := hp
  rw [List.pairwise_cons] at hb
  have hlt := h.all
  have fa : ∀ x ∈ a, x.holds w0.heap.size w1 := fun x hx => (hlt x (by simp [hx])).far hg (fun k hk hk2 => hab x hx e (by simp) k hk hk2.symm)
  have fb : ∀ x ∈ b, x.holds w0.heap.size w1 := fun x hx => (hlt x (by simp [hx])).far hg (fun k hk hk2 => hb.1 x hx k hk2.symm hk)
  refine ⟨pw_below_grown h.below _ h.below.size hg (fun k hk => (hlt e (by simp)).base k hk), fun x hx => ?_, ?_⟩
  · rcases List.mem_append.1 hx with hx | hx
    · exact fa x hx
    · rcases List.mem_cons.1 hx with rfl | hx
      · exact he
      · exact fb x hx
  · rw [List.pairwise_append]
    refine ⟨ha, List.pairwise_cons.2 ⟨fun x hx k hk hk2 => ?_, hb.2⟩, fun x hx y hy k hk hk2 => ?_⟩
    · rcases ho k hk with h1 | h1
      · exact hb.1 x hx k h1 hk2
      · have := (hlt x (by simp [hx])).lt k hk2
        omega
    · rcases List.mem_cons.1 hy with rfl | hy
      · rcases ho k hk2 with h1 | h1
        · exact hab x hx e (by simp) k hk h1
        · have := (hlt x (by simp [hx])).lt k hk
          omega
      · exact hab x hx y (by simp [hy]) k hk hk2
theorem Mem.get {w0 w : World} {es : List Ent} (h : Mem w0 w es) {b : Nat} {cs : Array Value} {T : TypeId} (m : Ent.blk b cs T ∈ es) : w.heap[b]? = some (.cells cs T (0, 0)) := (h.all _ m).1.2
theorem Mem.size {w0 w : World} {es : List Ent} (h : Mem w0 w es) {b : Nat} {cs : Array Value} {T : TypeId} (m : Ent.blk b cs T ∈ es) : (Try.prog.info? T).map (·.size) = some cs.size := (h.all _ m).2
theorem Mem.getRaw {w0 w : World} {es : List Ent} (h : Mem w0 w es) {b : Nat} {cs : Array Value} {T : TypeId} (m : Ent.raw b cs T ∈ es) : w.heap[b]? = some (.cells cs T (0, 0)) := (h.all _ m).2
theorem Mem.prop {w0 w : World} {es : List Ent} (h : Mem w0 w es) {o : Option Nat} {P : Nat → World → Prop} (m : Ent.any o P ∈ es) : P w0.heap.size w := (h.all _ m).1.1
theorem Mem.sub {w0 w : World} {es es' : List Ent} (h : Mem w0 w es) (hs : es'.Sublist es) : Mem w0 w es' := ⟨h.below, fun e he => h.all e (hs.subset he), h.apart.sublist hs⟩
theorem Mem.tail {w0 w : World} {e : Ent} {r : List Ent} (h : Mem w0 w (e :: r)) : Mem w0 w r := h.sub (List.sublist_cons_self _ _)
theorem Mem.one {w0 w : World} {e : Ent} {r : List Ent} (h : Mem w0 w (e :: r)) : Mem w0 w [e] := h.sub (List.Sublist.cons_cons _ (List.nil_sublist _))
theorem Mem.two {w0 w : World} {e f : Ent} {r : List Ent} (h : Mem w0 w (e :: f :: r)) : Mem w0 w [e, f] := h.sub (List.Sublist.cons_cons _ (List.Sublist.cons_cons _ (List.nil_sublist _)))
/-- One cell is stored. -/
theorem Mem.cell {w0 w : World} {es es' : List Ent} (h : Mem w0 w es) {b : Nat} {cs : Array Value} {T : TypeId} (i : Nat) (x : Value) {cs' : Array Value} (hc : cs.setIfInBounds i x = cs') (u : Upd (.blk b cs T) (.blk b cs' T) es es') : Mem w0 (w.setCell ⟨b, i, none⟩ x) es' :=
  h.turn u (grown_set w b i x) ⟨⟨(h.all _ u.mem).1.1, by rw [← hc]; exact blk_set (h.get u.mem) i x⟩, by rw [h.size u.mem, ← hc, Array.size_setIfInBounds]⟩ (fun k hk => .inl hk)
/-- A block is stored whole. -/
theorem Mem.store {w0 w : World} {es es' : List Ent} (h : Mem w0 w es) {b : Nat} {cs vs : Array Value} {T : TypeId} (hs : vs.size = cs.size) (u : Upd (.blk b cs T) (.blk b vs T) es es') : Mem w0 (w.setCells b 0 vs.toList) es' :=
  h.turn u (setCells_grown b vs.toList 0 w) ⟨⟨(h.all _ u.mem).1.1, setCells_block (h.get u.mem) hs⟩, by rw [h.size u.mem, hs]⟩ (fun k hk => .inl hk)

/-- What lies in a block behind a store of part of it. -/
theorem setCells_part {w : World} {b : Nat} {cs : Array Value} {T : TypeId} (h : w.heap[b]? = some (.cells cs T (0, 0))) (o : Nat) (vs : List Value) (ho : o + vs.length ≤ cs.size) {cs' : Array Value} (hc : cs' = (cs.toList.take o ++ vs ++ cs.toList.drop (o + vs.length)).toArray) :
    (w.setCells b o vs).heap[b]? = some (.cells cs' T (0, 0)) := by
  obtain ⟨c2, h1, h2, h3, h4⟩ := setCells_keep b vs o w cs T h ho
  have hl : cs.toList.length = cs.size := by simp
  rw [h1, hc]
  congr 2
  apply Array.ext_getElem?
  intro i
  conv => rhs; rw [List.getElem?_toArray]
  by_cases hi1 : i < o
  · rw [h3 i (.inl hi1), List.append_assoc, List.getElem?_append_left (by simp; omega), List.getElem?_take, if_pos hi1]
    simp
  · by_cases hi2 : i < o + vs.length
    · have := h4 (i - o) (by omega)
      rw [show o + (i - o) = i by omega] at this
      rw [this, List.append_assoc, List.getElem?_append_right (by simp; omega), List.length_take, show i - min o cs.toList.length = i - o by omega, List.getElem?_append_left (by omega)]
    · rw [h3 i (.inr (by omega)), List.getElem?_append_right (by simp; omega), List.getElem?_drop]
      simp only [List.length_append, List.length_take]
      rw [show o + vs.length + (i - (min o cs.toList.length + vs.length)) = i by omega]
      simp
theorem Mem.part {w0 w : World} {es es' : List Ent} (h : Mem w0 w es) {b : Nat} {cs : Array Value} {T : TypeId} (o : Nat) (vs : List Value) (ho : o + vs.length ≤ cs.size) {cs' : Array Value} (hc : cs' = (cs.toList.take o ++ vs ++ cs.toList.drop (o + vs.length)).toArray) (u : Upd (.blk b cs T) (.blk b cs' T) es es') : Mem w0 (w.setCells b o vs) es' :=
  h.turn u (setCells_grown b vs o w) ⟨⟨(h.all _ u.mem).1.1, setCells_part (h.get u.mem) o vs ho hc⟩, by rw [h.size u.mem, hc]; simp; omega⟩ (fun k hk => .inl hk)

end Go.Proofs.Ytkfjobanbnokoaa.Gm
