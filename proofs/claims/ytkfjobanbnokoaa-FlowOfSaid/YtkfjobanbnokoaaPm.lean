/- Maps as lists: what a map's block holds, in the order in which the keys came; a look-up, a store, a deletion, a range's step. -/
import Derived.Test.YtkfjobanbnokoaaGp
import Derived.Maps.RangeWalk
import Derived.Maps.OwnSet
set_option linter.unusedSimpArgs false
set_option linter.unusedVariables false
set_option linter.unusedSectionVars false
set_option maxRecDepth 100000
namespace Go.Proofs.Ytkfjobanbnokoaa.Gm
open Go.RowKit Go.Proofs.YtkfjobanbnokoaaW.PrintWords Go.Proofs.Ytkfjobanbnokoaa.Bs
open Go.ChangeMaps (setBlock heap_setBlock_same heap_setBlock_other modify_eq_set map_eraseIdx)
open Go.MapKept (Stamped stamped_iff stamped_empty stamped_push stamped_modify stamped_erase)
open Go.Maps (Keyed)

section
variable {κ ν : Type} [DecidableEq κ]
/-- What a list of keys and values has at a key; with a value laid at a key; without a key. -/
def getK (l : List (κ × ν)) (x : κ) : Option ν := (l.find? fun p => decide (p.1 = x)).map (·.2)
def putK (l : List (κ × ν)) (x : κ) (v : ν) : List (κ × ν) := if (getK l x).isSome then l.map (fun p => if p.1 = x then (x, v) else p) else l ++ [(x, v)]
def delK (l : List (κ × ν)) (x : κ) : List (κ × ν) := l.filter fun p => !decide (p.1 = x)
theorem getK_none {l : List (κ × ν)} {x : κ} : getK l x = none ↔ ∀ p ∈ l, p.1 ≠ x := by
  unfold getK
  simp [List.find?_eq_none]
theorem getK_mem {l : List (κ × ν)} {x : κ} {y : ν} (h : getK l x = some y) : (x, y) ∈ l := by
  unfold getK at h
  obtain ⟨p, hp, rfl⟩ := Option.map_eq_some_iff.1 h
  have h1 := List.find?_some hp
  have h2 := List.mem_of_find?_eq_some hp
  have h3 : p.1 = x := by simpa using h1
  rw [← h3]; exact h2
theorem getK_of {l : List (κ × ν)} {x : κ} {y : ν} (hn : (l.map (·.1)).Nodup) (h : (x, y) ∈ l) : getK l x = some y := by
  induction l with
  | nil => exact absurd h List.not_mem_nil
  | cons p r ih =>
    rw [List.map_cons, List.nodup_cons] at hn
    unfold getK at ih ⊢
    rw [List.find?_cons]
    rcases List.mem_cons.1 h with rfl | h
    · simp
    · have hne : p.1 ≠ x := fun e => hn.1 (by rw [e]; exact List.mem_map.2 ⟨_, h, rfl⟩)
      simp only [decide_eq_false hne]
      exact ih hn.2 h
theorem getK_has {l : List (κ × ν)} {x : κ} : (getK l x).isSome = true ↔ x ∈ l.map (·.1) := by
  cases h : getK l x with
  | none =>
    have := getK_none.1 h
    simp only [Option.isSome_none, Bool.false_eq_true, false_iff, List.mem_map, not_exists, not_and]
    exact fun p hp e => this p hp e
  | some y => simp only [Option.isSome_some, true_iff]; exact List.mem_map.2 ⟨_, getK_mem h, rfl⟩
theorem map_set_of {l : List (κ × ν)} {x : κ} {y v : ν} {j : Nat} (hn : (l.map (·.1)).Nodup) (h : l[j]? = some (x, y)) : l.map (fun p => if p.1 = x then (x, v) else p) = l.set j (x, v) := by
  induction l generalizing j with
  | nil => simp at h
  | cons p r ih =>
    rw [List.map_cons, List.nodup_cons] at hn
    cases j with
    | zero =>
      simp only [List.getElem?_cons_zero, Option.some.injEq] at h
      subst h
      simp only [List.map_cons, if_true, List.set_cons_zero]
      congr 1
      conv => rhs; rw [← List.map_id r]
      refine List.map_congr_left fun q hq => ?_
      rw [if_neg (fun e => hn.1 (by rw [← e]; exact List.mem_map.2 ⟨_, hq, rfl⟩))]
      rfl
    | succ j =>
      rw [List.getElem?_cons_succ] at h
      have hne : p.1 ≠ x := fun e => hn.1 (by rw [e]; exact List.mem_map.2 ⟨_, List.mem_of_getElem? h, rfl⟩)
      simp only [List.map_cons, if_neg hne, List.set_cons_succ]
      rw [ih hn.2 h]
theorem del_erase_of {l : List (κ × ν)} {x : κ} {y : ν} {j : Nat} (hn : (l.map (·.1)).Nodup) (h : l[j]? = some (x, y)) : delK l x = l.eraseIdx j := by
  unfold delK
  induction l generalizing j with
  | nil => simp at h
  | cons p r ih =>
    rw [List.map_cons, List.nodup_cons] at hn
    cases j with
    | zero =>
      simp only [List.getElem?_cons_zero, Option.some.injEq] at h
      subst h
      simp only [List.filter_cons, decide_true, Bool.not_true, Bool.false_eq_true, if_false, List.eraseIdx_cons_zero]
      refine List.filter_eq_self.2 fun q hq => ?_
      have : q.1 ≠ x := fun e => hn.1 (by rw [← e]; exact List.mem_map.2 ⟨_, hq, rfl⟩)
      simp [this]
    | succ j =>
      rw [List.getElem?_cons_succ] at h
      have hne : p.1 ≠ x := fun e => hn.1 (by rw [e]; exact List.mem_map.2 ⟨_, List.mem_of_getElem? h, rfl⟩)
      simp only [List.filter_cons, decide_eq_false hne, Bool.not_false, if_true, List.eraseIdx_cons_succ]
      rw [ih hn.2 h]
theorem del_none {l : List (κ × ν)} {x : κ} (h : getK l x = none) : delK l x = l := by
  refine List.filter_eq_self.2 fun q hq => ?_
  have := getK_none.1 h q hq
  simp [this]
theorem putK_keys {l : List (κ × ν)} {x : κ} {v : ν} (hn : (l.map (·.1)).Nodup) : ((putK l x v).map (·.1)).Nodup := by
  unfold putK
  split
  · have e : (l.map fun p => if p.1 = x then (x, v) else p).map (·.1) = l.map (·.1) := by
      rw [List.map_map]
      refine List.map_congr_left fun p _ => ?_
      simp only [Function.comp]
      split
      · rename_i h; exact h.symm
      · rfl
    rw [e]; exact hn
  · rename_i h
    rw [List.map_append, List.nodup_append]
    refine ⟨hn, by simp, fun a ha b hb e => h (getK_has.2 ?_)⟩
    obtain rfl : b = x := by simpa using hb
    rw [← e]; exact ha
theorem delK_keys {l : List (κ × ν)} {x : κ} (hn : (l.map (·.1)).Nodup) : ((delK l x).map (·.1)).Nodup := hn.sublist (List.filter_sublist.map _)
end

/-- A map's block: the keys and their values, as they came. -/
structure MapAt {κ ν : Type} (k : TypeId) (ek : κ → Value) (ev : ν → Value) (b : Nat) (l : List (κ × ν)) (w : World) : Prop where
  ex : ∃ es clock, w.heap[b]? = some (.map es clock) ∧ es.toList.map (fun e => (e.key, e.val)) = l.map (fun p => (ek p.1, ev p.2)) ∧ Stamped es clock
  nodup : (l.map (·.1)).Nodup
  keys : ∀ p ∈ l, ∃ kl, keyOf Try.prog k (ek p.1) = some kl
section
variable {κ ν : Type} [DecidableEq κ] {k t e : TypeId} {ek : κ → Value} {ev : ν → Value} {b : Nat} {l : List (κ × ν)} {w : World}
theorem MapAt.lt (h : MapAt k ek ev b l w) : b < w.heap.size := by
  obtain ⟨es, clock, hb, _⟩ := h.ex
  exact (Array.getElem?_eq_some_iff.1 hb).1
theorem MapAt.block {w1 : World} (h : MapAt k ek ev b l w) (hb : w1.heap[b]? = w.heap[b]?) : MapAt k ek ev b l w1 := by
  obtain ⟨es, clock, h1, h2⟩ := h.ex
  exact ⟨⟨es, clock, hb.trans h1, h2⟩, h.nodup, h.keys⟩
theorem MapAt.local_ (k : TypeId) (ek : κ → Value) (ev : ν → Value) (b : Nat) (l : List (κ × ν)) : Local (some b) (fun _ w => MapAt k ek ev b l w) := fun base w w1 row h hg hr => h.block (hg.block b h.lt (hr b rfl))
theorem MapAt.made (k : TypeId) (ek : κ → Value) (ev : ν → Value) (w : World) : MapAt k ek ev w.heap.size [] (w.alloc (.map #[] 0)) := ⟨⟨#[], 0, (MapKept.heap_alloc w _).1, rfl, stamped_empty 0⟩, List.nodup_nil, fun p hp => absurd hp List.not_mem_nil⟩
theorem entries_at {es : Array MapEntry} (h : es.toList.map (fun e => (e.key, e.val)) = l.map (fun p => (ek p.1, ev p.2))) {j : Nat} {e0 : MapEntry} (hj : es.toList[j]? = some e0) : ∃ p, l[j]? = some p ∧ e0.key = ek p.1 ∧ e0.val = ev p.2 := by
  have h1 : (es.toList.map (fun e => (e.key, e.val)))[j]? = some (e0.key, e0.val) := by rw [List.getElem?_map, hj]; rfl
  rw [h, List.getElem?_map] at h1
  obtain ⟨p, hp, e⟩ := Option.map_eq_some_iff.1 h1
  injection e with e1 e2
  exact ⟨p, hp, e1.symm, e2.symm⟩
theorem entries_mem {es : Array MapEntry} (h : es.toList.map (fun e => (e.key, e.val)) = l.map (fun p => (ek p.1, ev p.2))) {p : κ × ν} (hp : p ∈ l) : ∃ e0 ∈ es.toList, e0.key = ek p.1 ∧ e0.val = ev p.2 := by
  have : (ek p.1, ev p.2) ∈ es.toList.map (fun e => (e.key, e.val)) := by rw [h]; exact List.mem_map.2 ⟨p, hp, rfl⟩
  obtain ⟨e0, h0, e⟩ := List.mem_map.1 this
  injection e with e1 e2
  exact ⟨e0, h0, e1, e2⟩
theorem entries_len {es : Array MapEntry} (h : es.toList.map (fun e => (e.key, e.val)) = l.map (fun p => (ek p.1, ev p.2))) : es.size = l.length := by
  have := congrArg List.length h
  simpa using this
/-- Where a key stands. -/
theorem find_at (K : Keyed Try.prog k) (inj : ∀ x y, ek x = ek y → x = y) {es : Array MapEntry} (he : es.toList.map (fun e => (e.key, e.val)) = l.map (fun p => (ek p.1, ev p.2))) (hn : (l.map (·.1)).Nodup) (hk : ∀ p ∈ l, ∃ kl, keyOf Try.prog k (ek p.1) = some kl) {x : κ} {kl : Lit} (hx : keyOf Try.prog k (ek x) = some kl) (w : World) :
    ((Instr.findKey k (ek x) es.toList).run Try.prog w = .ok none w ∧ getK l x = none ∧ ∀ e0 ∈ es.toList, e0.key ≠ ek x) ∨
    ∃ j e0 y, (Instr.findKey k (ek x) es.toList).run Try.prog w = .ok (some (j, ev y)) w ∧ es.toList[j]? = some e0 ∧ e0.key = ek x ∧ l[j]? = some (x, y) ∧ getK l x = some y := by
  have hks : ∀ e ∈ es.toList, ∃ l, keyOf Try.prog k e.key = some l := fun e0 h0 => by
    obtain ⟨j, hj⟩ := List.getElem?_of_mem h0
    obtain ⟨p, hp, e1, _⟩ := entries_at he hj
    rw [e1]; exact hk p (List.mem_of_getElem? hp)
  rcases K.find w hx es.toList hks with ⟨h1, h2⟩ | ⟨j, e0, h1, h2, h3⟩
  · refine .inl ⟨h1, getK_none.2 fun p hp e => ?_, h2⟩
    obtain ⟨e0, h0, e1, _⟩ := entries_mem he hp
    exact h2 e0 h0 (by rw [e1, e])
  · obtain ⟨p, hp, e1, e2⟩ := entries_at he h2
    obtain ⟨x', y⟩ := p
    have hxx : x' = x := inj _ _ (by rw [← h3, e1])
    subst hxx
    exact .inr ⟨j, e0, y, by rw [h1, e2], h2, h3, hp, getK_of hn (List.mem_of_getElem? hp)⟩
/-- 'm[x]', 'v, ok := m[x]'. -/
theorem MapAt.look (K : Keyed Try.prog k) (inj : ∀ x y, ek x = ek y → x = y) (ht : Try.prog.underlying t = some (.map k e)) {z : Value} (hz : ∀ W : World, (zeroValue e).run Try.prog W = .ok z W) (h : MapAt k ek ev b l w) {x : κ} {kl : Lit} (hx : keyOf Try.prog k (ek x) = some kl) (c : Bool) :
    (Instr.lookup t (.map (some b)) (ek x) c).run Try.prog w = .ok (if c then .tuple #[((getK l x).map ev).getD z, .bool (getK l x).isSome] else ((getK l x).map ev).getD z) w := by
  obtain ⟨es, clock, hb, he, hs⟩ := h.ex
  rcases find_at K inj he h.nodup h.keys hx w with ⟨h1, h2, _⟩ | ⟨j, e0, y, h1, h2, h3, h4, h5⟩
  · rw [h2]
    cases c <;> simp [Instr.lookup, run_underlying ht, MapKept.run_getObj_map hb, K.check w _ hx, h1, hz, Result.andThen]
  · rw [h5]
    cases c <;> simp [Instr.lookup, run_underlying ht, MapKept.run_getObj_map hb, K.check w _ hx, h1, Result.andThen]
theorem grown_setBlock {es : Array MapEntry} {clock : Nat} (hb : w.heap[b]? = some (.map es clock)) (o : Obj) : w.grownBy (setBlock w b o) (some b) :=
  ⟨rfl, rfl, rfl, by simp [setBlock], fun i _ hi => heap_setBlock_other hb _ (fun e => hi (by rw [e]))⟩
/-- 'm[x] = v'. -/
theorem MapAt.put (K : Keyed Try.prog k) (inj : ∀ x y, ek x = ek y → x = y) (ht : Try.prog.underlying t = some (.map k e)) (h : MapAt k ek ev b l w) {x : κ} {kl : Lit} (hx : keyOf Try.prog k (ek x) = some kl) (v : ν) :
    ∃ w', (Instr.mapUpdate t (.map (some b)) (ek x) (ev v)).run Try.prog w = .ok () w' ∧ MapAt k ek ev b (putK l x v) w' ∧ w.grownBy w' (some b) := by
  obtain ⟨es, clock, hb, he, hs⟩ := h.ex
  have hkeys : ∀ p ∈ putK l x v, ∃ kl, keyOf Try.prog k (ek p.1) = some kl := fun p hp => by
    unfold putK at hp
    split at hp
    · obtain ⟨q, hq, rfl⟩ := List.mem_map.1 hp
      split
      · exact ⟨kl, hx⟩
      · exact h.keys q hq
    · rcases List.mem_append.1 hp with hp | hp
      · exact h.keys p hp
      · obtain rfl : p = (x, v) := by simpa using hp
        exact ⟨kl, hx⟩
  rcases find_at K inj he h.nodup h.keys hx w with ⟨h1, h2, h3⟩ | ⟨j, e0, y, h1, h2, h3, h4, h5⟩
  · refine ⟨_, ?_, ⟨⟨es.push ⟨ek x, ev v, clock⟩, clock + 1, heap_setBlock_same hb _, ?_, stamped_push hs h3⟩, putK_keys h.nodup, hkeys⟩, grown_setBlock hb _⟩
    · simp [Instr.mapUpdate, run_underlying ht, MapKept.run_getObj_map hb, K.check w false hx, h1, MapKept.run_setObj_map _ hb, Result.andThen, setBlock]
    · unfold putK
      rw [h2]
      simp only [Option.isSome_none, Bool.false_eq_true, if_false, Array.toList_push, List.map_append, List.map_cons, List.map_nil, he]
  · have hj : es[j]? = some e0 := by simpa using h2
    have hkeyf : ∀ e', es[j]? = some e' → ({ e' with key := ek x, val := ev v } : MapEntry).key = e'.key := fun e' he' => by rw [hj] at he'; cases he'; exact h3.symm
    have hlist : (es.modify j (fun e' => { e' with key := ek x, val := ev v })).toList = es.toList.set j { e0 with key := ek x, val := ev v } := by rw [Array.toList_modify, modify_eq_set _ _ _ _ h2]
    refine ⟨_, ?_, ⟨⟨es.modify j (fun e' => { e' with key := ek x, val := ev v }), clock, heap_setBlock_same hb _, ?_, stamped_modify hs _ _ (fun _ _ => rfl) (fun e' _ he' => hkeyf e' he')⟩, putK_keys h.nodup, hkeys⟩, grown_setBlock hb _⟩
    · simp [Instr.mapUpdate, run_underlying ht, MapKept.run_getObj_map hb, K.check w false hx, h1, hj, h3, K.stays w hx, MapKept.run_setObj_map _ hb, Result.andThen, setBlock]
    · unfold putK
      rw [h5]
      simp only [Option.isSome_some, if_true]
      rw [map_set_of h.nodup h4, hlist, List.map_set, List.map_set, he]
/-- 'delete(m, x)'. -/
theorem MapAt.del (K : Keyed Try.prog k) (inj : ∀ x y, ek x = ek y → x = y) (ht : Try.prog.underlying t = some (.map k e)) (h : MapAt k ek ev b l w) {x : κ} {kl : Lit} (hx : keyOf Try.prog k (ek x) = some kl) (ty : TypeId) :
    ∃ w', (Builtin.delete_ #[t, k] ty #[.map (some b), ek x]).run Try.prog w = .ok (.tuple #[]) w' ∧ MapAt k ek ev b (delK l x) w' ∧ w.grownBy w' (some b) := by
  obtain ⟨es, clock, hb, he, hs⟩ := h.ex
  have hkeys : ∀ p ∈ delK l x, ∃ kl, keyOf Try.prog k (ek p.1) = some kl := fun p hp => h.keys p (List.mem_filter.1 hp).1
  rcases find_at K inj he h.nodup h.keys hx w with ⟨h1, h2, h3⟩ | ⟨j, e0, y, h1, h2, h3, h4, h5⟩
  · refine ⟨setBlock w b (.map es clock), ?_, ⟨⟨es, clock, heap_setBlock_same hb _, by rw [del_none h2]; exact he, hs⟩, delK_keys h.nodup, hkeys⟩, grown_setBlock hb _⟩
    simp [Builtin.delete_, run_underlying ht, MapKept.run_getObj_map hb, K.check w _ hx, h1, MapKept.run_setObj_map _ hb, Result.andThen, setBlock]
  · have hjl : j < es.toList.length := (List.getElem?_eq_some_iff.1 h2).1
    have hjs : j < es.size := by simpa using hjl
    have hsub : (es.eraseIdxIfInBounds j).toList = es.toList.eraseIdx j := by
      unfold Array.eraseIdxIfInBounds
      rw [dif_pos hjs]
      simp
    refine ⟨setBlock w b (.map (es.eraseIdxIfInBounds j) clock), ?_, ⟨⟨es.eraseIdxIfInBounds j, clock, heap_setBlock_same hb _, ?_, stamped_erase hs j⟩, delK_keys h.nodup, hkeys⟩, grown_setBlock hb _⟩
    · simp [Builtin.delete_, run_underlying ht, MapKept.run_getObj_map hb, K.check w _ hx, h1, MapKept.run_setObj_map _ hb, Result.andThen, setBlock]
    · rw [hsub, del_erase_of h.nodup h4, map_eraseIdx, map_eraseIdx, he]
/-- 'len(m)'. -/
theorem MapAt.len (ht : Try.prog.underlying t = some (.map k e)) (h : MapAt k ek ev b l w) (ty : TypeId) : (Builtin.len_ #[t] ty #[.map (some b)]).run Try.prog w = .ok (.int .i64 l.length) w := by
  obtain ⟨es, clock, hb, he, hs⟩ := h.ex
  simp [Builtin.len_, run_underlying ht, MapKept.run_getObj_map hb, Result.andThen, goInt, entries_len he]
/-- 'clear(m)'. -/
theorem MapAt.clear (ht : Try.prog.underlying t = some (.map k e)) (h : MapAt k ek ev b l w) (ty : TypeId) :
    ∃ w', (Builtin.clear_ #[t] ty #[.map (some b)]).run Try.prog w = .ok (.tuple #[]) w' ∧ MapAt k ek ev b [] w' ∧ w.grownBy w' (some b) := by
  obtain ⟨es, clock, hb, he, hs⟩ := h.ex
  refine ⟨setBlock w b (.map #[] clock), ?_, ⟨⟨#[], clock, heap_setBlock_same hb _, rfl, stamped_empty clock⟩, List.nodup_nil, fun p hp => absurd hp List.not_mem_nil⟩, grown_setBlock hb _⟩
  simp [Builtin.clear_, run_underlying ht, MapKept.run_getObj_map hb, MapKept.run_setObj_map _ hb, Result.andThen, setBlock]

/-- A range over a map under way: what is still to come. -/
structure RangeAt (k : TypeId) (ek : κ → Value) (ev : ν → Value) (b r : Nat) (l left : List (κ × ν)) (w : World) : Prop where
  ex : ∃ es clock since seen c0, w.heap[b]? = some (.map es clock) ∧ es.toList.map (fun e => (e.key, e.val)) = l.map (fun p => (ek p.1, ev p.2)) ∧ Stamped es clock ∧
    w.heap[r]? = some (.mapIter (some b) since seen c0) ∧ (∀ x ∈ es.toList, x.born < since) ∧ since ≤ c0 ∧ since ≤ clock ∧ (leftOf es seen).toList.map (fun e => (e.key, e.val)) = left.map (fun p => (ek p.1, ev p.2))
  nodup : (l.map (·.1)).Nodup
  keys : ∀ p ∈ l, ∃ kl, keyOf Try.prog k (ek p.1) = some kl
theorem RangeAt.map {r : Nat} {left : List (κ × ν)} (h : RangeAt k ek ev b r l left w) : MapAt k ek ev b l w := by
  obtain ⟨es, clock, since, seen, c0, h1, h2, h3, _⟩ := h.ex
  exact ⟨⟨es, clock, h1, h2, h3⟩, h.nodup, h.keys⟩
theorem RangeAt.lt {r : Nat} {left : List (κ × ν)} (h : RangeAt k ek ev b r l left w) : r < w.heap.size := by
  obtain ⟨es, clock, since, seen, c0, h1, h2, h3, h4, _⟩ := h.ex
  exact (Array.getElem?_eq_some_iff.1 h4).1
theorem RangeAt.ne {r : Nat} {left : List (κ × ν)} (h : RangeAt k ek ev b r l left w) : r ≠ b := by
  obtain ⟨es, clock, since, seen, c0, h1, h2, h3, h4, _⟩ := h.ex
  intro e
  rw [e, h1] at h4
  cases h4
theorem RangeAt.blocks {r : Nat} {left : List (κ × ν)} {w1 : World} (h : RangeAt k ek ev b r l left w) (hb : w1.heap[b]? = w.heap[b]?) (hr : w1.heap[r]? = w.heap[r]?) : RangeAt k ek ev b r l left w1 := by
  obtain ⟨es, clock, since, seen, c0, h1, h2, h3, h4, h5⟩ := h.ex
  exact ⟨⟨es, clock, since, seen, c0, hb.trans h1, h2, h3, hr.trans h4, h5⟩, h.nodup, h.keys⟩
/-- 'range m'. -/
theorem MapAt.range (ht : Try.prog.underlying t = some (.map k e)) (h : MapAt k ek ev b l w) :
    ∃ w', (Instr.range t (.map (some b))).run Try.prog w = .ok (.pointer (some ⟨w.heap.size, 0, none⟩)) w' ∧ RangeAt k ek ev b w.heap.size l l w' ∧ w.grownBy w' none ∧ w'.heap.size = w.heap.size + 1 := by
  have hlt := h.lt
  obtain ⟨es, clock, hb, he, hs⟩ := h.ex
  refine ⟨_, run_range_map w t k e b es clock ht hb, ⟨⟨es, clock, clock, #[], clock, ((MapKept.heap_alloc w _).2 b hlt).trans hb, he, hs, (MapKept.heap_alloc w _).1, hs.1, Nat.le_refl _, Nat.le_refl _, ?_⟩, h.nodup, h.keys⟩, World.grownBy_alloc w _ none, by simp⟩
  rw [← he]
  simp only [leftOf]
  congr 1
  rw [Array.toList_filter]
  exact List.filter_eq_self.2 fun x _ => by simp
theorem perm_erase {α : Type} {l : List α} {j : Nat} {p : α} (h : l[j]? = some p) : l.Perm (p :: l.eraseIdx j) := by
  induction l generalizing j with
  | nil => simp at h
  | cons x r ih =>
    cases j with
    | zero => simp only [List.getElem?_cons_zero, Option.some.injEq] at h; subst h; exact List.Perm.refl _
    | succ j => rw [List.getElem?_cons_succ] at h; exact ((ih h).cons x).trans (List.Perm.swap _ _ _)
/-- A step. -/
theorem RangeAt.next {r : Nat} {left : List (κ × ν)} (h : RangeAt k ek ev b r l left w) (ty : TypeId) :
    (left = [] ∧ (Instr.next (.pointer (some ⟨r, 0, none⟩)) false ty).run Try.prog w = .ok (.tuple #[.bool false]) w) ∨
    ∃ p left' w', left.Perm (p :: left') ∧ (Instr.next (.pointer (some ⟨r, 0, none⟩)) false ty).run Try.prog w = .ok (.tuple #[.bool true, ek p.1, ev p.2]) w' ∧
      RangeAt k ek ev b r l left' w' ∧ w.grownBy w' (some r) ∧ w'.heap.size = w.heap.size ∧ (Instr.entry (.pointer (some ⟨r, 0, none⟩))).run Try.prog w' = .ok (.tuple #[ek p.1, ev p.2]) w' := by
  have hne := h.ne
  obtain ⟨es, clock, since, seen, c0, hb, he, hs, hr, hold, hsc, hsk, hl⟩ := h.ex
  rcases run_next_at (P := Try.prog) w ty r b since c0 seen es clock hr hb hold hsc with ⟨h0, hrun⟩ | ⟨e0, he0, w1, hal, hrun⟩
  · refine .inl ⟨?_, hrun⟩
    have : (leftOf es seen).toList = [] := by simpa using Array.eq_empty_of_size_eq_zero h0
    rw [this] at hl
    exact List.map_eq_nil_iff.1 hl.symm
  · obtain ⟨hem, hes⟩ := mem_left he0
    have hst := (stamped_iff es clock).1 hs
    obtain ⟨j, hj⟩ := List.getElem?_of_mem he0
    obtain ⟨p, hp, e1, e2⟩ := entries_at hl hj
    have hr1 : w1.heap[r]? = some (.mapIter (some b) since seen c0) := by rcases hal with rfl | rfl <;> exact hr
    have hb1 : w1.heap[b]? = some (.map es clock) := by rcases hal with rfl | rfl <;> exact hb
    have hset := MapKept.heap_set (o' := .mapIter (some b) since (seen.push e0.born) clock) hr1
    have hb' : (setBlock w1 r (.mapIter (some b) since (seen.push e0.born) clock)).heap[b]? = some (.map es clock) := (hset.2 b (fun e1 => hne e1.symm)).trans hb1
    have hleft : (leftOf es (seen.push e0.born)).toList = (leftOf es seen).toList.eraseIdx j := by
      have hnb : ((leftOf es seen).toList.map (·.born)).Nodup := by
        unfold leftOf
        rw [Array.toList_filter]
        exact hst.2.1.sublist (List.filter_sublist.map _)
      have e3 : (leftOf es (seen.push e0.born)).toList = (leftOf es seen).toList.filter (fun x => !(x.born == e0.born)) := by
        unfold leftOf
        rw [Array.toList_filter, Array.toList_filter, List.filter_filter]
        refine List.filter_congr fun x _ => ?_
        rw [contains_push]
        cases seen.contains x.born <;> cases (x.born == e0.born) <;> rfl
      rw [e3]
      have := del_erase_of (l := (leftOf es seen).toList.map (fun x => (x.born, x))) (x := e0.born) (y := e0) (j := j) (by rw [List.map_map]; exact hnb) (by rw [List.getElem?_map, hj]; rfl)
      unfold delK at this
      rw [List.filter_map, ← map_eraseIdx] at this
      have h2 := congrArg (List.map (·.2)) this
      rw [List.map_map, List.map_map] at h2
      have hid : ((fun p : Nat × MapEntry => p.2) ∘ fun x : MapEntry => (x.born, x)) = id := rfl
      rw [hid, List.map_id, List.map_id] at h2
      rw [← h2]
      exact List.filter_congr fun x _ => by
        simp only [Function.comp]
        by_cases hx : x.born = e0.born <;> simp [hx]
    refine .inr ⟨p, left.eraseIdx j, _, ?_, by rw [hrun, e1, e2], ⟨⟨es, clock, since, seen.push e0.born, clock, hb', he, hs, hset.1, hold, hsk, hsk, ?_⟩, h.nodup, h.keys⟩, ?_, ?_, ?_⟩
    · exact perm_erase hp
    · rw [hleft, map_eraseIdx, map_eraseIdx, hl]
    · rcases hal with rfl | rfl <;> exact ⟨rfl, rfl, rfl, by simp [setBlock], fun i _ hi => hset.2 i (fun e1 => hi (by rw [e1]))⟩
    · rcases hal with rfl | rfl <;> simp [setBlock]
    · rw [← e1, ← e2]
      exact run_entry_at _ r b since seen es clock e0 hset.1 hb' hem hst.2.1
end
end Go.Proofs.Ytkfjobanbnokoaa.Gm
