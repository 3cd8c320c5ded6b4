/- Package flow: a table's tallies, collected: maps.Values, slices.Collect. -/
import Derived.Test.YtkfjobanbnokoaaVp
import Derived.Test.YtkfjobanbnokoaaUa
import Derived.Great.BuildSlice
set_option linter.unusedSimpArgs false
set_option linter.unusedVariables false
set_option linter.unusedSectionVars false
set_option maxRecDepth 100000
namespace Go.Proofs.Ytkfjobanbnokoaa.Fw
open Go.RowKit Go.Proofs.YtkfjobanbnokoaaW.PrintWords Go.Proofs.Ytkfjobanbnokoaa.Bs Go.Proofs.Ytkfjobanbnokoaa.Gm

def RTal : RK Tal := ⟨50, 57, 42, 112, tallyC⟩
theorem LTal : RTal.Law := RK.law_of Try.underlying50 (by kernel_rfl) (by decide) (by decide) tallyC_size tallyC_one
theorem fold_set : ∀ (cs : List Value) (k : Nat) (b : Array Value), k + cs.length ≤ b.size → (cs.zipIdx k).foldl (fun (a : Array Value) (x : Value × Nat) => a.setIfInBounds (0 + x.2) x.1) b = (b.toList.take k ++ cs ++ b.toList.drop (k + cs.length)).toArray
  | [], k, b, _ => by simp
  | c :: cs, k, b, h => by
    rw [List.zipIdx_cons, List.foldl_cons, fold_set cs (k + 1) _ (by simp at h ⊢; omega)]
    apply Array.ext'
    simp only [Array.toList_setIfInBounds, Nat.zero_add, List.length_cons]
    have hk : k < b.toList.length := by simp at h ⊢; omega
    have e1 : (b.toList.set k c).take (k + 1) = b.toList.take k ++ [c] := by
      rw [List.take_add_one, List.take_set_of_le (Nat.le_refl _), List.getElem?_set_self hk]
      rfl
    rw [e1, List.drop_set_of_lt (by omega)]
    simp [Nat.add_assoc, Nat.add_comm 1]
theorem lit_one {α : Type} {R : RK α} {x : α} (hu : Try.prog.underlying R.t = some (.slice R.e)) (hi : (Try.prog.info? R.e).map (fun i => (i.size, i.zero.isSome)) = some (R.k, true)) (hk : 0 < R.k) (hk2 : R.k ≤ 16777216) (hs : (R.enc x).size = R.k) : LitR R 1 #[(0, .agg (R.enc x))] [x] := ⟨rfl, by decide, fun W => by
  obtain ⟨ie, hie, h⟩ := Option.map_eq_some_iff.1 hi
  simp only [Prod.mk.injEq] at h
  obtain ⟨z, hz⟩ := Option.isSome_iff_exists.1 h.2
  refine run_buildSlice W R.t R.e 1 _ _ ie z hu hie hz (by rw [h.1]; omega) (by rw [h.1]; omega) ?_
  have e2 : encR R [x] = (R.enc x).toList := by simp [encR]
  rw [e2, h.1]
  simp only [Instr.fill, Value.cells, hs]
  rw [if_neg (by simp)]
  congr 1
  rw [← Array.foldl_toList, Array.toList_zipIdx, Nat.zero_mul]
  refine (fold_set (R.enc x).toList 0 _ (by simp [hs])).trans ?_
  apply Array.ext'
  simp [hs]⟩
theorem litTal (x : Tal) : LitR RTal 1 #[(0, .agg (tallyC x))] [x] := lit_one Try.underlying50 (by kernel_rfl) (by decide) (by decide) (tallyC_size x)
theorem info_tal : (Try.prog.info? 57).map (·.size) = some 42 := by kernel_rfl
theorem tal_of_heap {W : World} {b : Nat} {x : Tal} (h : W.heap[b]? = some (.cells (tallyC x) 57 (0, 0))) : (loadVar 57 ⟨b, 0, none⟩).run Try.prog W = .ok (.agg (tallyC x)) W :=
  load_block h _ _ Try.underlying57 rfl (by rw [tallyC_size]; exact info_tal)
def ZTc : Array Value := tallyC zT
theorem ZTc_size : ZTc.size = 42 := tallyC_size zT
theorem zeroTc : ZeroOf 57 ZTc := zeroTal
/-- A new block that holds a key. -/
def boxT (W : World) (x : Tal) : World := (W.alloc (.cells ZTc 57)).setCells W.heap.size 0 (tallyC x).toList
theorem boxT_at (W : World) (x : Tal) : (boxT W x).heap[W.heap.size]? = some (.cells (tallyC x) 57 (0, 0)) := setCells_block (World.alloc_heap_new W _) (by rw [tallyC_size, ZTc_size])
theorem boxT_grown (W : World) (x : Tal) : W.grownBy (boxT W x) none := by
  have h1 := World.grownBy_alloc W (.cells ZTc 57) none
  have h2 := setCells_grown W.heap.size (tallyC x).toList 0 (W.alloc (.cells ZTc 57))
  refine ⟨h2.os.trans h1.os, h2.tape.trans h1.tape, h2.output.trans h1.output, Nat.le_trans h1.size h2.size, fun k hk _ => ?_⟩
  exact (h2.block k (Nat.lt_of_lt_of_le hk h1.size) (fun e => by injection e with e; omega)).trans (h1.block k hk (by simp))
section
variable {F : Fence} {n : Nat} {ops : Array Oper} {rest : List Oper} {o1 o2 : Oper} {a : Act} {Q : Exit → Act → World → Prop} {w : World}
/-- A loop's variable is laid in a block: 'alloc', 'store'. -/
theorem in_boxT (hF : ∀ f, F.fn f) (hg1 : o1.guard = none) (hg2 : o2.guard = none) (h1 : o1.op = .alloc 57) {x y : Operand} (h2 : o2.op = .store 57 x y) {d : Nat} (hd : o1.dst = some d) {k : Tal}
    (hx : (a.put (some d) (.pointer (some ⟨w.heap.size, 0, none⟩))).eval x = .pointer (some ⟨w.heap.size, 0, none⟩)) (hy : (a.put (some d) (.pointer (some ⟨w.heap.size, 0, none⟩))).eval y = .agg (tallyC k))
    (K : wpListIn F n Try.prog ops Q rest ((a.put (some d) (.pointer (some ⟨w.heap.size, 0, none⟩))).put o2.dst undef) (boxT w k)) : wpListIn F n Try.prog ops Q (o1 :: o2 :: rest) a w := by
  refine in_alloc hF hg1 h1 zeroTc.1 ?_
  rw [hd]
  exact in_store hF hg2 h2 hx hy (World.alloc_heap_new w _) (by rw [tallyC_size, ZTc_size]) zeroTc.2.1 (tallyC_one k) K
end
set_option maxHeartbeats 2000000 in
/-- slices.AppendSeq(nil, seq), for any iterator. -/
theorem appendSeq_tal {g : Nat} {lb : Array Value} (eg : ∀ args w, (callFunc g args).run Try.prog w = .ok (.enter g args) w) {S Sp : List Tal → Prop} {N : Nat} (hN : N ≤ 1000000) (w : World) (hseq : ∀ n, 1 ≤ n → SeqStopsK Fence.wide n Try.prog g lb (fun k => #[.agg (tallyC k)]) KeepsWalks S Sp N w) :
    Calls Try.prog 74 #[.slice none 0 0, .func (.func g) #[] lb] w fun e w' => ∃ A c ss, e = .returned (.slice A ss.length c) ∧ S ss ∧ OW RTal w.heap.size w' (.slice A ss.length c) ss ∧ Below w.heap.size w w' := by
  refine (callsIn_wide (n := 5)).1 ?_
  refine callsIn_of_wp_marks Try.func74 rfl trivial ?_
  simp only [Try.ntmps74, List.size_toArray, List.length_cons, List.length_nil, Nat.reduceAdd, Nat.reduceSub, Array.replicate_succ, Array.replicate_zero, List.push_toArray, List.append_toArray, List.nil_append, List.cons_append]
  gi_wp2
  have hM : Mem w (w.alloc (.cells #[.slice none 0 0] 50)) [.blk w.heap.size #[.slice none 0 0] 50, rowE RTal (.slice none 0 0) []] := ((((Mem.start w).nilR RTal).alloc #[.slice none 0 0] 50 (by kernel_rfl)))
  have hsz : (w.alloc (.cells #[.slice none 0 0] 50)).heap.size = w.heap.size + 1 := by simp
  have hHB := hM.below
  generalize hW0 : w.alloc (.cells #[.slice none 0 0] 50) = W0 at hM hsz hHB ⊢
  refine wpIn_rangeFunc_ownH rfl (by omega) (gf := g) (lb := lb) rfl trivial eg (hseq _ (by omega)) walksK_t walksK_b hHB (fun _ => rfl)
    (Col RTal w w.heap.size) (fun _ _ _ => False) (col_own (by omega)) (fun c s A B row h _ _ => h) ⟨none, 0, hM⟩
    (fun x a' W => ∃ bx, a' = { tmps := #[.slice none 0 0, .func (.func g) #[] lb, .pointer (some ⟨w.heap.size, 0, none⟩), undef, .slice none 0 0, .pointer (some ⟨bx, 0, none⟩), .func (.func g) #[] lb, .agg (tallyC x), undef, undef, undef, undef, undef], defers := [] } ∧ W.heap[bx]? = some (.cells (tallyC x) 57 (0, 0)))
    (fun x a' s A B row ⟨bx, e, h⟩ hg hr => ⟨bx, e, (hg.block bx (Array.getElem?_eq_some_iff.1 h).1 (fun e => by
      obtain ⟨_, o, ho, hc⟩ := hr bx e.symm
      rw [h] at ho
      cases ho
      cases hc)).trans h⟩) ?_ ?_ ?_ ?_
  · intro l pre x W K hI hK
    simp only [List.zip_toArray, List.zip_cons_cons, List.zip_nil_left, List.zip_nil_right, List.foldl_toArray, List.foldl_toArray', List.size_toArray, List.length_cons, List.length_nil, List.foldl_cons, List.foldl_nil, List.setIfInBounds_toArray, List.set_cons_succ, List.set_cons_zero]
    refine wpIn_region_lit (in_boxT (k := x) (fun _ => trivial) rfl rfl rfl rfl rfl rfl rfl ?_)
    refine wpListIn_nil (hK _ _ ((keepsO (boxT_grown W x) (fun j o e => by cases e)).from _) ((keepsO (boxT_grown W x) (fun j o e => by cases e)).walks) ?_ ⟨W.heap.size, rfl, boxT_at W x⟩)
    exact col_own (Nat.le_refl _) pre W _ none hI (boxT_grown W x) (fun r e => by cases e)
  · rintro l pre x a' W hl hrec ⟨A, c, hM⟩ ⟨bx, rfl, hbx⟩ hlen
    obtain ⟨A1, c1, W1, hr, hc1, hf1, hk1, hcol⟩ := col_append LTal hM x (by show (pre.length + 1) * 112 ≤ _; omega) 50
    refine wpIn_block (wpIn_region_lit ?_)
    refine in_load (fun _ => trivial) rfl rfl rfl (run_load1 (by kernel_rfl) W _ _ ((blk_cell (hM.get (List.mem_cons_self ..)) 0).trans rfl)) ?_
    refine in_load (fun _ => trivial) rfl rfl rfl (tal_of_heap hbx) ?_
    refine in_lit (R := RTal) (fun _ => trivial) rfl rfl (litTal x) rfl ?_
    refine in_append (fun _ => trivial) rfl rfl rfl rfl hr ?_
    refine in_put (fun _ => trivial) rfl rfl (by kernel_rfl) rfl rfl rfl hc1 hf1 ?_
    exact wpListIn_nil ⟨hk1.from _, hk1.walks, hcol⟩
  · rintro D xs W hD hS ⟨A, c, hM⟩ hK
    have hc := (blk_cell (hM.get (b := w.heap.size) (cs := #[.slice A xs.length c]) (List.mem_cons_self ..)) 0).trans rfl
    have HM := Lib.hid hM
    have HD : Hid (w.heap.size ≤ D) := Lib.hid (by omega)
    clear hM hD hsz hHB hseq
    gi_wp2
    refine ⟨by simp, .inl ⟨_, _, rfl, run_takeDeferred hK, ?_⟩⟩
    have HM2 := col_keep (Nat.le_refl _) HM.out (grownBy_putObj' W D (.deferred none)) (fun r e => by cases e; exact ⟨HD.out, _, hK, rfl⟩)
    exact ⟨_, results_tmp rfl _ _ _, A, c, xs, rfl, hS, HM2.ow (List.mem_cons_of_mem _ (List.mem_cons_self ..)), HM2.below⟩
  · intro D c pre W hD hSp hF hK
    exact hF.elim
/-- slices.Collect(seq), for any iterator. -/
theorem collect_tal {g : Nat} {lb : Array Value} (eg : ∀ args w, (callFunc g args).run Try.prog w = .ok (.enter g args) w) {S Sp : List Tal → Prop} {N : Nat} (hN : N ≤ 1000000) (w : World) (hseq : ∀ n, 1 ≤ n → SeqStopsK Fence.wide n Try.prog g lb (fun k => #[.agg (tallyC k)]) KeepsWalks S Sp N w) :
    Calls Try.prog 54 #[.func (.func g) #[] lb] w fun e w' => ∃ A c ss, e = .returned (.slice A ss.length c) ∧ S ss ∧ OW RTal w.heap.size w' (.slice A ss.length c) ss ∧ Below w.heap.size w w' := by
  have HC := Lib.hid (appendSeq_tal eg hN w hseq)
  clear hseq eg
  go_enter Try.func54, Try.ntmps54
  go_wp2_with fail
  refine HC.out.mono ?_
  rintro e w' ⟨A, c, ss, rfl, hS, ho, hb⟩
  go_wp2_with fail
  go_ret
  exact ⟨A, c, ss, rfl, hS, ho, hb⟩
/-- maps.Values(m): the map is boxed; the closure holds the box. -/
theorem values_any (w : World) (b : Nat) : Calls Try.prog 38 #[.map (some b)] w fun e w' => e = .returned (.func (.func 56) #[] #[.pointer (some ⟨w.heap.size, 0, none⟩)]) ∧ w.alloc (.cells #[.map (some b)] 75) = w' := by
  go_enter Try.func38, Try.ntmps38
  go_wp2
  go_ret
  exact ⟨rfl, rfl⟩
theorem rangeLeft_eq {κ ν : Type} [DecidableEq κ] {M : MK κ ν} {b r : Nat} {l left : List (κ × ν)} {W : World} (h : RangeAt M.k M.ek M.ev b r l left W) : W.rangeLeft b r = left.length := by
  obtain ⟨es, clock, since, seen, c0, h1, h2, h3, h4, h5, h6, h7, h8⟩ := h.ex
  unfold World.rangeLeft
  rw [h1, h4]
  have := congrArg List.length h8
  simpa using this
theorem range_walks {κ ν : Type} [DecidableEq κ] {M : MK κ ν} {b r : Nat} {l left : List (κ × ν)} {W W1 : World} (h : RangeAt M.k M.ek M.ev b r l left W) (hk : KeepsWalks W W1) : RangeAt M.k M.ek M.ev b r l left W1 := by
  obtain ⟨es, clock, since, seen, c0, h1, h2, h3, h4, h5⟩ := h.ex
  exact h.blocks ((hk.same b _ h1 rfl).trans h1.symm) ((hk.same r _ h4 rfl).trans h4.symm)
theorem range_iter {κ ν : Type} [DecidableEq κ] {M : MK κ ν} {b r : Nat} {l left : List (κ × ν)} {W : World} (h : RangeAt M.k M.ek M.ev b r l left W) : ∃ o : Obj, W.heap[r]? = some o ∧ o.isWalk = true := by
  obtain ⟨es, clock, since, seen, c0, h1, h2, h3, h4, h5⟩ := h.ex
  exact ⟨_, h4, rfl⟩
set_option maxHeartbeats 2000000 in
/-- The iterator that maps.Values hands back. -/
theorem values_stops {w : World} {b Bm : Nat} {l : List (Flow × Tal)} (hB : w.cell? ⟨Bm, 0, none⟩ = some (.map (some b))) (hm : MapAt MT.k MT.ek MT.ev b l w) (n : Nat) (hn : 1 ≤ n) :
    SeqStopsK Fence.wide n Try.prog 56 #[.pointer (some ⟨Bm, 0, none⟩)] (fun k => #[.agg (tallyC k)]) KeepsWalks (fun ss => ss.Perm (l.map (·.2))) (fun _ => True) l.length w := by
  intro lp J Jx W hW hJ hJx hY h0
  have hBm : Bm < w.heap.size := World.block_lt_of_cell? w ⟨Bm, 0, none⟩ hB
  have hcell := (hW.cell (p := ⟨Bm, 0, none⟩) hBm).trans hB
  have hmap := hm.block (hW.block b hm.lt)
  have HJ : Hid (AbidesFrom W.heap.size J) := Lib.hid hJ
  have HJX : Hid (AbidesFrom W.heap.size Jx) := Lib.hid hJx
  have HY := Lib.hid hY
  have HM := Lib.hid hmap
  clear hW hJ hJx hY hB hm hBm hmap
  refine callsIn_of_wp Try.func56 rfl trivial ?_ rfl
  simp only [Try.ntmps56, List.size_toArray, List.length_cons, List.length_nil, Nat.reduceAdd, Nat.reduceSub, Array.replicate_succ, Array.replicate_zero, List.push_toArray, List.append_toArray, List.nil_append, List.cons_append]
  gi_wp2_with (first | (refine in_range LT (fun _ => trivial) rfl rfl rfl HM.out ?_; intro w1 hrg hg1 hs1) | fail)
  have HR := Lib.hid hrg
  have HJ1 : Hid (J [] w1) := Lib.hid (HJ.out [] W w1 none h0 hg1 (fun r e => by cases e))
  have HP : Hid ((l.map (·.2)).Perm ([] ++ l.map (·.2))) := Lib.hid (List.Perm.refl _)
  clear hcell h0 hrg hg1 hs1 HM
  gi_loopw [4] (fun _ wr => ∃ (left : List (Flow × Tal)) (ss : List Tal), Hid (RangeAt MT.k MT.ek MT.ev b W.heap.size l left wr) ∧ Hid ((l.map (·.2)).Perm (ss ++ left.map (·.2))) ∧ Hid (J ss wr)) (fun _ wr => wr.rangeLeft b W.heap.size)
  case atStart => exact ⟨l, [], HR, HP, HJ1⟩
  case round =>
    clear HR HJ1 HP
    obtain ⟨left, ss, HR, HP, HJ1⟩ := hrel
    gi_wp2_with (first | (refine in_next (M := MT) (fun _ => trivial) rfl rfl rfl HR.out ?_ ?_) | fail)
    · intro h0
      gi_wp2
      go_end0
      exact ⟨⟨_, rfl⟩, .inl ⟨ss, by have := HP.out; rw [h0] at this; simpa using this.symm, HJ1.out⟩⟩
    · intro kx vx left' w2 hp hrg2 hg2 hs2 hen
      have HR2 := Lib.hid hrg2
      have HJ2 : Hid (J ss w2) := Lib.hid (HJ.out ss wr w2 (some W.heap.size) HJ1.out hg2 (fun r e => by cases e; exact ⟨Nat.le_refl _, range_iter HR.out⟩))
      have HJ3 : Hid (J ss (boxT w2 vx)) := Lib.hid (HJ.out ss w2 _ none HJ2.out (boxT_grown w2 vx) (fun r e => by cases e))
      have HR3 : Hid (RangeAt MT.k MT.ek MT.ev b W.heap.size l left' (boxT w2 vx)) := Lib.hid (range_walks hrg2 (keepsO (boxT_grown w2 vx) (fun j o e => by cases e)).walks)
      have HP2 : Hid ((l.map (·.2)).Perm ((ss ++ [vx]) ++ left'.map (·.2))) := Lib.hid (by
        refine HP.out.trans ?_
        rw [List.append_assoc]
        exact (List.Perm.append_left ss (hp.map _)))
      have HBX := Lib.hid (boxT_at w2 vx)
      have HME : Hid (left'.length < left.length) := Lib.hid (by have := hp.length_eq; simp at this; omega)
      have hlen : ss.length < l.length := by
        have := HP2.out.length_eq
        simp at this
        omega
      obtain ⟨fn, tmps, assign, body, hy, hR⟩ := HY.out ss vx _ HJ3.out hlen
      clear hrg2 hg2 hs2 hp hlen
      gi_wp2_with (first | ((with_reducible apply in_entry); (next => exact fun _ => trivial); (next => exact rfl); (next => exact rfl); (next => exact rfl); (next => exact hen)) | ((with_reducible apply in_boxT (k := vx)); (case h1 => exact rfl); (case h2 => exact rfl); (case hF => exact fun _ => trivial); (case hg1 => exact rfl); (case hg2 => exact rfl); (case hd => exact rfl); (case hx => exact rfl); (case hy => exact rfl)) | ((with_reducible apply in_load); (next => exact fun _ => trivial); (next => exact rfl); (next => exact rfl); (next => exact rfl); (next => exact tal_of_heap HBX.out)) | fail)
      refine hR.mono ?_
      rintro e W3 (⟨rfl, hJ3, hk3⟩ | ⟨rfl, hJx⟩)
      · have HR4 := Lib.hid (range_walks HR3.out hk3)
        have HJ4 := Lib.hid hJ3
        clear hJ3 hk3 hR hy hen
        gi_wp2
        go_roundw
        case rel => exact ⟨left', ss ++ [vx], HR4, HP2, HJ4⟩
        case measure => rw [rangeLeft_eq HR4.out, rangeLeft_eq HR.out]; exact HME.out
      · have HX := Lib.hid hJx
        clear hJx hR hy hen
        gi_wp2
        refine bodyPost_ret (v := .tuple #[]) (by simp [results, Try.results56, go_sem]) rfl ?_
        exact ⟨⟨_, rfl⟩, .inr ⟨_, trivial, HX.out⟩⟩
end Go.Proofs.Ytkfjobanbnokoaa.Fw
