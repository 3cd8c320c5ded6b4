/- Maps' operations as steps over what a call owns: a look-up, a store, a deletion, a new map, a length; 'm[x] = f(m[x])'. -/
import Derived.Test.YtkfjobanbnokoaaPm
import Derived.WideKeyEntry
set_option linter.unusedSimpArgs false
set_option linter.unusedVariables false
set_option linter.unusedSectionVars false
set_option maxRecDepth 100000
namespace Go.Proofs.Ytkfjobanbnokoaa.Gm
open Go.RowKit Go.Proofs.YtkfjobanbnokoaaW.PrintWords Go.Proofs.Ytkfjobanbnokoaa.Bs
open Go.ChangeMaps (setBlock heap_setBlock_same heap_setBlock_other modify_eq_set map_eraseIdx)
open Go.MapKept (Stamped stamped_iff stamped_empty stamped_push stamped_modify stamped_erase)
open Go.Maps (Keyed)

/-- A kind of maps: the map's type, its keys' and its values' type, how keys and values lie in cells, the value of a key that is not there. -/
structure MK (κ ν : Type) where
  t : TypeId
  k : TypeId
  e : TypeId
  ek : κ → Value
  ev : ν → Value
  z : Value
structure MK.Law {κ ν : Type} (M : MK κ ν) : Prop where
  K : Keyed Try.prog M.k
  inj : ∀ x y, M.ek x = M.ek y → x = y
  ht : Try.prog.underlying M.t = some (.map M.k M.e)
  hz : ∀ W : World, (zeroValue M.e).run Try.prog W = .ok M.z W
  key : ∀ x, ∃ kl, keyOf Try.prog M.k (M.ek x) = some kl
section
variable {κ ν : Type} [DecidableEq κ] {M : MK κ ν}
def mapE (M : MK κ ν) (b : Nat) (l : List (κ × ν)) : Ent := .any (some b) (fun _ w => MapAt M.k M.ek M.ev b l w)
theorem holdsM {base : Nat} {w : World} {b : Nat} {l : List (κ × ν)} (h : MapAt M.k M.ek M.ev b l w) (hb : base ≤ b) : (mapE M b l).holds base w := ⟨⟨h, fun k hk => by cases hk; exact ⟨hb, h.lt⟩⟩, MapAt.local_ _ _ _ _ _⟩
theorem Mem.mapAt {w0 w : World} {es : List Ent} (h : Mem w0 w es) {b : Nat} {l : List (κ × ν)} (m : mapE M b l ∈ es) : MapAt M.k M.ek M.ev b l w := h.prop m
/-- What a look-up hands back. -/
def lookV (M : MK κ ν) (c : Bool) : Option ν → Value
  | some y => if c then .tuple #[M.ev y, .bool true] else M.ev y
  | none => if c then .tuple #[M.z, .bool false] else M.z
theorem run_look (L : M.Law) {w : World} {b : Nat} {l : List (κ × ν)} (h : MapAt M.k M.ek M.ev b l w) (x : κ) (c : Bool) : (Instr.lookup M.t (.map (some b)) (M.ek x) c).run Try.prog w = .ok (lookV M c (getK l x)) w := by
  obtain ⟨kl, hk⟩ := L.key x
  rw [h.look L.K L.inj L.ht L.hz hk c]
  cases getK l x <;> cases c <;> rfl
/-- The base of a map's block is the call's own. -/
theorem Mem.mapBase {w0 w : World} {es : List Ent} (h : Mem w0 w es) {b : Nat} {l : List (κ × ν)} (m : mapE M b l ∈ es) : w0.heap.size ≤ b := (((h.all _ m).1.2) b rfl).1
section
variable {w0 : World} {es es' : List Ent} {op : Oper} {a : Act} {tm tk tx : Operand} {b : Nat} {l : List (κ × ν)} {x : κ}
theorem Rd.look (L : M.Law) {c : Bool} (ho : op.op = .lookup M.t tm tk c) (hm : a.eval tm = .map (some b)) (hk : a.eval tk = M.ek x) (m : mapE M b l ∈ es) {o : Option ν} (hg : getK l x = o) : Rd w0 es op a (lookV M c o) := .mk fun w K Q HM hK => by
  subst hg
  unfold Oper.wp
  have hrun := run_look L (HM.mapAt m) x c
  simp [execOp, ho, hm, hk, hrun, Result.andThen]
  exact hK
theorem Rd.mlen (L : M.Law) (ho : op.op = .call { callee := .builtin .len, args := #[tm], argTypes := #[M.t] }) (hm : a.eval tm = .map (some b)) (m : mapE M b l ∈ es) {n : Nat} (hn : l.length = n) : Rd w0 es op a (.int .i64 n) := .mk fun w K Q HM hK => by
  subst hn
  have hrun := (HM.mapAt m).len L.ht op.type
  unfold Oper.wp execOp
  simp only [ho, resolve, invoke, builtin, Sem.run_bind, Sem.run_pure, Result.andThen_ok, List.map_toArray, List.map_cons, List.map_nil, hm, hrun]
  exact hK
theorem Wr.mput (L : M.Law) (ho : op.op = .mapUpdate M.t tm tk tx) (hm : a.eval tm = .map (some b)) (hk : a.eval tk = M.ek x) {y : ν} (hx : a.eval tx = M.ev y) (u : Upd (mapE M b l) (mapE M b (putK l x y)) es es') : Wr w0 es op a (fun _ => undef) (fun _ => es') := .mk fun w K Q HM hK => by
  obtain ⟨kl, hkl⟩ := L.key x
  obtain ⟨w1, hrun, h1, hg⟩ := (HM.mapAt u.mem).put L.K L.inj L.ht hkl y
  unfold Oper.wp
  simp [execOp, ho, hm, hk, hx, hrun, Result.andThen]
  exact hK w1 0 (HM.turn u hg (holdsM h1 (HM.mapBase u.mem)) (fun k hk => .inl hk))
theorem Wr.mdel (L : M.Law) (ho : op.op = .call { callee := .builtin .delete, args := #[tm, tk], argTypes := #[M.t, M.k] }) (hm : a.eval tm = .map (some b)) (hk : a.eval tk = M.ek x) (u : Upd (mapE M b l) (mapE M b (delK l x)) es es') : Wr w0 es op a (fun _ => .tuple #[]) (fun _ => es') := .mk fun w K Q HM hK => by
  obtain ⟨kl, hkl⟩ := L.key x
  obtain ⟨w1, hrun, h1, hg⟩ := (HM.mapAt u.mem).del L.K L.inj L.ht hkl op.type
  unfold Oper.wp execOp
  simp only [ho, resolve, invoke, builtin, Sem.run_bind, Sem.run_pure, Result.andThen_ok, List.map_toArray, List.map_cons, List.map_nil, hm, hk, hrun]
  exact hK w1 0 (HM.turn u hg (holdsM h1 (HM.mapBase u.mem)) (fun k hk => .inl hk))
theorem Wr.mnew (L : M.Law) (ho : op.op = .makeMap M.t none) : Wr w0 es op a (fun b => .map (some b)) (fun b => mapE M b [] :: es) := .mk fun w K Q HM hK => by
  have hrun : (Instr.makeMap M.t none).run Try.prog w = .ok (.map (some w.heap.size)) (w.alloc (.map #[] 0)) := by simp [Instr.makeMap, run_underlying L.ht, go_sem, Result.andThen]
  unfold Oper.wp
  simp [execOp, ho, resolve, hrun, Result.andThen]
  refine hK _ _ ((HM.call (below_alloc (Below.refl _ _) _)).push _ (holdsM (MapAt.made _ _ _ w) HM.below.size) (fun y hy k hk hk2 => ?_))
  injection hk with hk
  subst hk
  exact absurd ((HM.all y hy).lt _ hk2) (Nat.lt_irrefl _)
end
/-- 'm[x] = f(m[x])' under way: the key is there; what is to be stored is not yet. -/
def HoleAt (M : MK κ ν) (b : Nat) (l : List (κ × ν)) (x : κ) (st : Nat) (w : World) : Prop := ∃ es clock, w.heap[b]? = some (.map es clock) ∧ ∀ (w2 : World) (y : ν), w2.heap[b]? = some (.map es clock) → ∃ w3, (Instr.entryStore M.t (.map (some b)) (goInt st) (M.ev y)).run Try.prog w2 = .ok () w3 ∧ MapAt M.k M.ek M.ev b (putK l x y) w3 ∧ w2.grownBy w3 (some b)
theorem HoleAt.lt {b : Nat} {l : List (κ × ν)} {x : κ} {st : Nat} {w : World} (h : HoleAt M b l x st w) : b < w.heap.size := by
  obtain ⟨es, clock, hb, _⟩ := h
  exact (Array.getElem?_eq_some_iff.1 hb).1
def holeE (M : MK κ ν) (b : Nat) (l : List (κ × ν)) (x : κ) (st : Nat) : Ent := .any (some b) (fun _ w => HoleAt M b l x st w)
theorem holdsH {base : Nat} {w : World} {b : Nat} {l : List (κ × ν)} {x : κ} {st : Nat} (h : HoleAt M b l x st w) (hb : base ≤ b) : (holeE M b l x st).holds base w :=
  ⟨⟨h, fun k hk => by cases hk; exact ⟨hb, h.lt⟩⟩, fun base w w1 row h hg hr => by
    have hlt := HoleAt.lt h
    obtain ⟨es, clock, h1, h2⟩ := h
    exact ⟨es, clock, (hg.block b hlt (hr b rfl)).trans h1, h2⟩⟩
theorem run_entry (L : M.Law) {w : World} {b : Nat} {l : List (κ × ν)} (h : MapAt M.k M.ek M.ev b l w) (x : κ) :
    ∃ (st : Nat) (w1 : World), (Instr.mapEntry M.t (.map (some b)) (M.ek x)).run Try.prog w = .ok (.tuple #[((getK l x).map M.ev).getD M.z, goInt st]) w1 ∧ HoleAt M b l x st w1 ∧ w.grownBy w1 (some b) := by
  obtain ⟨kl, hx⟩ := L.key x
  obtain ⟨es, clock, hb, he, hs⟩ := h.ex
  have ht := L.ht
  have hz := L.hz
  have K := L.K
  obtain ⟨s1, s2, _⟩ := (stamped_iff es clock).1 hs
  have hkeys : ∀ y, ∀ p ∈ putK l x y, ∃ kl, keyOf Try.prog M.k (M.ek p.1) = some kl := fun y p _ => L.key p.1
  rcases find_at K L.inj he h.nodup h.keys hx w with ⟨h1, h2, h3⟩ | ⟨j, e0, y0, h1, h2, h3, h4, h5⟩
  · refine ⟨clock, setBlock w b (.map (es.push ⟨M.ek x, M.z, clock⟩) (clock + 1)), ?_, ⟨_, _, heap_setBlock_same hb _, fun w2 y hw2 => ⟨setBlock w2 b (.map (es.push ⟨M.ek x, M.ev y, clock⟩) (clock + 1)), ?_, ⟨⟨_, _, heap_setBlock_same hw2 _, ?_, stamped_push hs h3⟩, putK_keys h.nodup, hkeys y⟩, grown_setBlock hw2 _⟩⟩, grown_setBlock hb _⟩
    · rw [h2]
      simp [Instr.mapEntry, run_underlying ht, MapKept.run_getObj_map hb, K.check w false hx, h1, hz, MapKept.run_setObj_map _ hb, Result.andThen, setBlock]
    · have hidx : (es.push ⟨M.ek x, M.z, clock⟩).findIdx? (fun e => ((e.born : Nat) : Int) == ((clock : Nat) : Int)) = some es.size := by
        rw [Go.WideElems.findIdx_arr]
        have := Go.WideElems.findIdx_born (l := (es.push ⟨M.ek x, M.z, clock⟩).toList) (j := es.size) (e0 := ⟨M.ek x, M.z, clock⟩) (by
          simp only [Array.toList_push, List.map_append, List.map_cons, List.map_nil]
          refine List.nodup_append.2 ⟨s2, by simp, fun a ha c hc e1 => ?_⟩
          simp only [List.mem_singleton] at hc
          obtain ⟨x, hx, rfl⟩ := List.mem_map.1 ha
          have := s1 x hx
          omega) (by simp)
        exact this
      have hmod : (es.push ⟨M.ek x, M.z, clock⟩).modify es.size (fun e => { e with val := M.ev y }) = es.push ⟨M.ek x, M.ev y, clock⟩ := by
        apply Array.ext'
        rw [Array.toList_modify, Array.toList_push, Array.toList_push, ← Array.length_toList, Go.WideElems.modify_last]
      simp [Instr.entryStore, MapKept.run_getObj_map hw2, asInt, asIntOf, goInt, hidx, hmod, MapKept.run_setObj_map _ hw2, Result.andThen, setBlock]
    · unfold putK
      rw [h2]
      simp only [Option.isSome_none, Bool.false_eq_true, if_false, Array.toList_push, List.map_append, List.map_cons, List.map_nil, he]
  · have hj : es[j]? = some e0 := by simpa using h2
    have hkeyf : ∀ y e', es[j]? = some e' → ({ e' with key := M.ek x, val := M.ev y } : MapEntry).key = e'.key := fun y e' he' => by rw [hj] at he'; cases he'; exact h3.symm
    have hlist : ∀ y, (es.modify j (fun e' => { e' with key := M.ek x, val := M.ev y })).toList = es.toList.set j { e0 with key := M.ek x, val := M.ev y } := fun y => by rw [Array.toList_modify, modify_eq_set _ _ _ _ h2]
    have hsame : es.modify j (fun e => { e with key := M.ek x }) = es := by
      apply Array.ext'
      rw [Array.toList_modify, modify_eq_set _ _ _ _ h2]
      have : ({ e0 with key := M.ek x } : MapEntry) = e0 := by rw [← h3]
      rw [this]
      exact Go.WideElems.set_self _ _ _ h2
    refine ⟨e0.born, setBlock w b (.map es clock), ?_, ⟨_, _, heap_setBlock_same hb _, fun w2 y hw2 => ⟨setBlock w2 b (.map (es.modify j (fun e' => { e' with key := M.ek x, val := M.ev y })) clock), ?_, ⟨⟨_, _, heap_setBlock_same hw2 _, ?_, stamped_modify hs _ _ (fun _ _ => rfl) (fun e' _ he' => hkeyf y e' he')⟩, putK_keys h.nodup, hkeys y⟩, grown_setBlock hw2 _⟩⟩, grown_setBlock hb _⟩
    · rw [h5]
      simp [Instr.mapEntry, run_underlying ht, MapKept.run_getObj_map hb, K.check w false hx, h1, hj, h3, K.stays w hx, hsame, MapKept.run_setObj_map _ hb, Result.andThen, setBlock]
    · have hidx : es.findIdx? (fun e => ((e.born : Nat) : Int) == ((e0.born : Nat) : Int)) = some j := by
        rw [Go.WideElems.findIdx_arr]
        exact Go.WideElems.findIdx_born s2 h2
      have hmod : es.modify j (fun e => { e with val := M.ev y }) = es.modify j (fun e' => { e' with key := M.ek x, val := M.ev y }) := by
        apply Array.ext'
        rw [Array.toList_modify, Array.toList_modify, modify_eq_set _ _ _ _ h2, modify_eq_set _ _ _ _ h2, ← h3]
      simp [Instr.entryStore, MapKept.run_getObj_map hw2, asInt, asIntOf, goInt, hidx, hmod, MapKept.run_setObj_map _ hw2, Result.andThen, setBlock]
    · unfold putK
      rw [h5]
      simp only [Option.isSome_some, if_true]
      rw [map_set_of h.nodup h4, hlist, List.map_set, List.map_set, he]
theorem Mem.hole {w0 w : World} {es : List Ent} (h : Mem w0 w es) {b : Nat} {l : List (κ × ν)} {x : κ} {st : Nat} (m : holeE M b l x st ∈ es) : HoleAt M b l x st w := h.prop m
theorem Mem.holeBase {w0 w : World} {es : List Ent} (h : Mem w0 w es) {b : Nat} {l : List (κ × ν)} {x : κ} {st : Nat} (m : holeE M b l x st ∈ es) : w0.heap.size ≤ b := (((h.all _ m).1.2) b rfl).1
section
variable {w0 : World} {es es' : List Ent} {op : Oper} {a : Act} {tm tk tx ts : Operand} {b : Nat} {l : List (κ × ν)} {x : κ}
theorem Wr.ment (L : M.Law) (ho : op.op = .mapEntry M.t tm tk) (hm : a.eval tm = .map (some b)) (hk : a.eval tk = M.ek x) {es' : Nat → List Ent} (u : ∀ st, Upd (mapE M b l) (holeE M b l x st) es (es' st)) : Wr w0 es op a (fun st => .tuple #[((getK l x).map M.ev).getD M.z, goInt st]) es' := .mk fun w K Q HM hK => by
  obtain ⟨st, w1, hrun, h1, hg⟩ := run_entry L (HM.mapAt (u 0).mem) x
  unfold Oper.wp
  simp [execOp, ho, hm, hk, hrun, Result.andThen]
  exact hK w1 st (HM.turn (u st) hg (holdsH h1 (HM.mapBase (u 0).mem)) (fun k hk => .inl hk))
theorem Wr.mst {st : Nat} (ho : op.op = .entryStore M.t tm ts tx) (hm : a.eval tm = .map (some b)) (hs : a.eval ts = goInt st) {y : ν} (hx : a.eval tx = M.ev y) (u : Upd (holeE M b l x st) (mapE M b (putK l x y)) es es') : Wr w0 es op a (fun _ => undef) (fun _ => es') := .mk fun w K Q HM hK => by
  obtain ⟨es0, clock, hb, hput⟩ := HM.hole u.mem
  obtain ⟨w1, hrun, h1, hg⟩ := hput w y hb
  unfold Oper.wp
  simp [execOp, ho, hm, hs, hx, hrun, Result.andThen]
  exact hK w1 0 (HM.turn u hg (holdsM h1 (HM.holeBase u.mem)) (fun k hk => .inl hk))
end
end
end Go.Proofs.Ytkfjobanbnokoaa.Gm
