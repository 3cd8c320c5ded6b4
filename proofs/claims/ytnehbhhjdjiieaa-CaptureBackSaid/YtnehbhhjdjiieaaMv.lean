/- Messages as cells: whole numbers, then bytes; and what lies in a block of such cells. -/
import Derived.Test.YtnehbhhjdjiieaaBk
set_option linter.unusedSimpArgs false
set_option linter.unusedVariables false
set_option maxRecDepth 100000
namespace Go.Proofs.Ytnehbhhjdjiieaa.Mv
open Go.RowKit Go.Proofs.YtnehbhhjdjiieaaW.PrintWords Go.Proofs.Ytnehbhhjdjiieaa.Bs

/-- The cells of a message: its numbers, then its bytes. -/
def MV (ns : List Nat) (l : List UInt8) : Array Value := (ns.map (fun n : Nat => Value.int .u32 (n : Int)) ++ encs B l).toArray
theorem MV_size (ns : List Nat) (l : List UInt8) : (MV ns l).size = ns.length + l.length := by simp [MV, encs]
theorem MV_list (ns : List Nat) (l : List UInt8) : (MV ns l).toList = ns.map (fun n : Nat => Value.int .u32 (n : Int)) ++ encs B l := by simp [MV]
theorem MV_one (ns : List Nat) (l : List UInt8) : (MV ns l).all (·.oneCell') = true := by
  rw [Array.all_eq_true_iff_forall_mem]
  intro v hv
  simp only [MV, encs, List.mem_toArray, List.mem_append, List.mem_map] at hv
  rcases hv with ⟨x, _, rfl⟩ | ⟨x, _, rfl⟩ <;> rfl
theorem MV_byte (ns : List Nat) (l : List UInt8) (j : Nat) (hj : j < l.length) : (MV ns l)[ns.length + j]? = some (.int .u8 ((l.getD j 0).toNat : Int)) := by
  unfold MV
  rw [List.getElem?_toArray, List.getElem?_append_right (by simp), List.length_map, show ns.length + j - ns.length = j by omega, encs_get (d := 0) _ j hj]
  rfl
theorem MV_at (ns : List Nat) (l : List UInt8) (p j : Nat) (hp : p = ns.length + j) (hj : j < l.length) : (MV ns l)[p]? = some (.int .u8 ((l.getD j 0).toNat : Int)) := by
  subst hp; exact MV_byte ns l j hj
theorem MV_num (n : Nat) (r : List Nat) (l : List UInt8) : (MV (n :: r) l)[0]? = some (.int .u32 (n : Int)) := by simp [MV]
theorem MV_num1 (n m : Nat) (r : List Nat) (l : List UInt8) : (MV (n :: m :: r) l)[1]? = some (.int .u32 (m : Int)) := by simp [MV]
theorem MV_set0 (n m : Nat) (r : List Nat) (l : List UInt8) : (MV (n :: r) l).setIfInBounds 0 (.int .u32 (m : Int)) = MV (m :: r) l := by simp [MV]
theorem MV_set1 (n n' m : Nat) (r : List Nat) (l : List UInt8) : (MV (n :: n' :: r) l).setIfInBounds 1 (.int .u32 (m : Int)) = MV (n :: m :: r) l := by simp [MV]
theorem MV_setb (ns : List Nat) (l : List UInt8) (j : Nat) (x : UInt8) : (MV ns l).setIfInBounds (ns.length + j) (.int .u8 (x.toNat : Int)) = MV ns (l.set j x) := by
  unfold MV
  apply Array.ext'
  rw [Array.toList_setIfInBounds]
  simp only [encs]
  rw [List.set_append_right _ _ (by simp), List.length_map, show ns.length + j - ns.length = j by omega, List.map_set]
  rfl
theorem MV_splice (ns : List Nat) (l y : List UInt8) (o : Nat) (h : o + y.length ≤ l.length) : (splice (MV ns l).toList (ns.length + o) (encs B y)).toArray = MV ns (l.take o ++ y ++ l.drop (o + y.length)) := by
  unfold splice
  rw [MV_list, encs_length]
  unfold MV encs
  rw [List.take_append, List.drop_append, List.length_map, List.take_of_length_le (by simp), List.drop_of_length_le (by simp; omega), show ns.length + o - ns.length = o by omega, show ns.length + o + y.length - ns.length = o + y.length by omega, List.nil_append]
  simp only [List.map_append, List.map_take, List.map_drop, List.append_assoc]

/-- What was filled in up to a place. -/
def fillP (L : List UInt8) (i : Nat) : List UInt8 := L.take i ++ List.replicate (L.length - i) 0
theorem part_length (L : List UInt8) (i : Nat) (h : i ≤ L.length) : (fillP L i).length = L.length := by unfold fillP; simp; omega
theorem part_zero (L : List UInt8) : fillP L 0 = List.replicate L.length 0 := by simp [fillP]
theorem part_all (L : List UInt8) (i : Nat) (h : i = L.length) : fillP L i = L := by subst h; simp [fillP]
theorem part_set (L : List UInt8) (i : Nat) (h : i < L.length) : (fillP L i).set i (L.getD i 0) = fillP L (i + 1) := by
  unfold fillP
  rw [List.set_append_right _ _ (by simp; omega), List.length_take, show i - min i L.length = 0 by omega, show L.length - i = (L.length - (i + 1)) + 1 by omega, List.replicate_succ, List.set_cons_zero, List.take_add_one, List.append_assoc]
  congr 1
  simp [List.getD_eq_getElem?_getD, List.getElem?_eq_getElem h]
theorem part_copy (L : List UInt8) (o n : Nat) (h : o + n ≤ L.length) : (fillP L o).take o ++ (L.drop o).take n ++ (fillP L o).drop (o + n) = fillP L (o + n) := by
  have e1 : (fillP L o).take o = L.take o := by
    unfold fillP
    rw [List.take_append_of_le_length (by simp; omega), List.take_take, Nat.min_self]
  have e2 : (fillP L o).drop (o + n) = List.replicate (L.length - (o + n)) 0 := by
    unfold fillP
    rw [List.drop_append, List.drop_of_length_le (by simp; omega), List.nil_append, List.drop_replicate, List.length_take]
    congr 1; omega
  rw [e1, e2]
  unfold fillP
  rw [List.take_add]
theorem add_off (b o j : Nat) : (⟨b, o, none⟩ : Addr).add j = ⟨b, o + j, none⟩ := by
  unfold Addr.add
  split
  · next h => subst h; rfl
  · rfl

theorem add_lit (ad : Addr) (k : Nat) (h : k ≠ 0) : ad.add k = ⟨ad.block, ad.off + k, none⟩ := by unfold Addr.add; rw [if_neg h]
/-- The bytes of a message in a block, from a place on. -/
theorem RB_block {w : World} {b : Nat} {ns : List Nat} {l : List UInt8} {T : TypeId} (h : w.heap[b]? = some (.cells (MV ns l) T (0, 0))) (o n p : Nat) (hp : p = ns.length + o) (hn : o + n ≤ l.length) (hl : l.length ≤ 9223372036854775807) :
    RB w (.slice (some ⟨b, p, none⟩) n n) ((l.drop o).take n) := by
  subst hp
  have e : ((l.drop o).take n).length = n := by simp; omega
  refine ⟨some ⟨b, ns.length + o, none⟩, n, by rw [e], by omega, rfl, by omega, fun hn0 => ⟨_, rfl, fun j hj => ?_⟩⟩
  rw [add_off]
  refine (blk_cell h _).trans ?_
  rw [Nat.add_assoc, MV_byte ns l (o + j) (by omega)]
  congr 3
  simp [List.getD_eq_getElem?_getD, List.getElem?_take, List.getElem?_drop, show j < n by omega]

theorem grown_setRow (w : World) (b : Nat) (cs : Array Value) : w.grownBy (w.setRow b cs) (some b) :=
  ⟨rfl, rfl, rfl, by simp [World.setRow], fun i _ hne => setRow_other w b i cs (fun e => hne (by rw [e]))⟩

/-- copy(m[o:o+n], src), the first a part of a block of a message. -/
theorem copy_mid {ops : Array Oper} {rest : List Oper} {op : Oper} {a : Act} {Q : Exit → Act → World → Prop} {W : World} (hgd : op.guard = none) (d s : Operand)
    (ho : op.op = .call { callee := .builtin .copy, args := #[d, s], argTypes := #[27, 27] })
    (b p o n : Nat) (ns : List Nat) (l ys : List UInt8) (T : TypeId) (u : Value) (hp : p = ns.length + o) (hd : a.eval d = .slice (some ⟨b, p, none⟩) n n) (hs : a.eval s = u)
    (hg : W.heap[b]? = some (.cells (MV ns l) T (0, 0))) (HR : RB W u ys) (hy : ys.length = n) (hn : o + n ≤ l.length) (hn0 : 0 < n)
    (h : ∀ w1, w1.heap[b]? = some (.cells (MV ns (l.take o ++ ys ++ l.drop (o + n))) T (0, 0)) → W.grownBy w1 (some b) → wpList Try.prog ops Q rest (a.put op.dst (goInt n)) w1) :
    wpList Try.prog ops Q (op :: rest) a W := by
  obtain ⟨A, c, rfl, _, hr⟩ := HR
  obtain ⟨i8, hi8, hs8⟩ := info8'
  have hsz : (Try.prog.info? 5).map (·.size) = some 1 := by rw [hi8]; simp [hs8]
  subst hp hy
  obtain ⟨ad, rfl, hcell⟩ := hr.2.2 hn0
  refine wpList_copy_own hgd d s _ _ ho 5 Try.underlying27 hsz b (ns.length + o) ys.length ys.length ad ys.length c hd hs (MV ns l) T hg (encs B ys) (by rw [encs_length]; simp) (fun j z hz => ?_) (by rw [encs_length, MV_size]; omega) (fun z hz => ?_) ?_
  · obtain ⟨hj, _⟩ := List.getElem?_eq_some_iff.1 hz
    rw [encs_length] at hj
    rw [encs_get (d := 0) _ j hj] at hz
    rw [hcell j hj, ← hz]
  · simp only [encs, List.mem_map] at hz
    obtain ⟨q, _, rfl⟩ := hz
    exact rfl
  · have hX : ((MV ns l).toList.take (ns.length + o) ++ (encs B ys ++ (MV ns l).toList.drop (ns.length + o + ys.length))).toArray = MV ns (l.take o ++ ys ++ l.drop (o + ys.length)) := by
      have h3 := MV_splice ns l ys o hn
      unfold splice at h3
      rwa [encs_length] at h3
    have h1 := setRow_heap W b (MV ns l) (MV ns (l.take o ++ ys ++ l.drop (o + ys.length))) T _ hg
    rw [encs_length, hX]
    exact h _ h1 (grown_setRow W b _)

/-- The same as one step of a region that draws its order. -/
theorem step_copy_mid {ops : Array Oper} {op : Oper} {a : Act} {K : Act → World → Prop} {Q : Exit → Act → World → Prop} {E : Prop} {W : World} (hgd : op.guard = none) (d s : Operand)
    (ho : op.op = .call { callee := .builtin .copy, args := #[d, s], argTypes := #[27, 27] })
    (b p o n : Nat) (ns : List Nat) (l ys : List UInt8) (T : TypeId) (u : Value) (hp : p = ns.length + o) (hd : a.eval d = .slice (some ⟨b, p, none⟩) n n) (hs : a.eval s = u)
    (hg : W.heap[b]? = some (.cells (MV ns l) T (0, 0))) (HR : RB W u ys) (hy : ys.length = n) (hn : o + n ≤ l.length) (hn0 : 0 < n)
    (h : ∀ w1, w1.heap[b]? = some (.cells (MV ns (l.take o ++ ys ++ l.drop (o + n))) T (0, 0)) → W.grownBy w1 (some b) → K (a.put op.dst (goInt n)) w1) :
    if Region.wanted op (yielded ops a.tmps) = true then Oper.wp Try.prog op a W K Q else E := by
  obtain ⟨A, c, rfl, _, hr⟩ := HR
  obtain ⟨i8, hi8, hs8⟩ := info8'
  have hsz : (Try.prog.info? 5).map (·.size) = some 1 := by rw [hi8]; simp [hs8]
  subst hp hy
  obtain ⟨ad, rfl, hcell⟩ := hr.2.2 hn0
  have hw : Region.wanted op (yielded ops a.tmps) = true := by simp [Region.wanted, hgd]
  rw [if_pos hw]
  have hrun := run_copy_row (P := Try.prog) W 27 27 op.type 5 b (ns.length + o) ys.length ys.length ad ys.length c (MV ns l) T (encs B ys) Try.underlying27 hsz hg (by rw [encs_length]; simp) (fun j z hz => by
    obtain ⟨hj, _⟩ := List.getElem?_eq_some_iff.1 hz
    rw [encs_length] at hj
    rw [encs_get (d := 0) _ j hj] at hz
    rw [hcell j hj, ← hz]) (by rw [encs_length, MV_size]; omega) (fun z hz => by
    simp only [encs, List.mem_map] at hz
    obtain ⟨q, _, rfl⟩ := hz
    exact rfl)
  have hX : ((MV ns l).toList.take (ns.length + o) ++ encs B ys ++ (MV ns l).toList.drop (ns.length + o + ys.length)).toArray = MV ns (l.take o ++ ys ++ l.drop (o + ys.length)) := by
    have h3 := MV_splice ns l ys o hn
    unfold splice at h3
    rwa [encs_length, ← List.append_assoc] at h3
  rw [encs_length, hX] at hrun
  have h1 := setRow_heap W b (MV ns l) (MV ns (l.take o ++ ys ++ l.drop (o + ys.length))) T _ hg
  have h2 := h _ h1 (grown_setRow W b _)
  simp only [List.append_assoc] at h2
  unfold Oper.wp
  simp [execOp, ho, resolve, invoke, builtin, hd, hs, hrun, Result.andThen]
  exact h2

end Go.Proofs.Ytnehbhhjdjiieaa.Mv
