/- Keys of a map, collected: maps.Keys, slices.Collect at keys of 32 bytes. -/
import Derived.Test.YtapncdgeigbgmaaUa
import Derived.Test.YtapncdgeigbgmaaTb
set_option linter.unusedSimpArgs false
set_option linter.unusedVariables false
set_option linter.unusedSectionVars false
set_option maxRecDepth 100000
namespace Go.Proofs.Ytapncdgeigbgmaa.Tb
open Go.RowKit Go.Proofs.YtapncdgeigbgmaaW.PrintWords Go.Proofs.Ytapncdgeigbgmaa.Bs Go.Proofs.Ytapncdgeigbgmaa.Gm Go.Proofs.Ytapncdgeigbgmaa.Sf

def RKey : RK Key := ⟨86, 29, 32, 32, keyC⟩
theorem LKey : RKey.Law := RK.law_of Try.underlying86 (by kernel_rfl) (by decide) (by decide) keyC_size keyC_one
def MI : MK Key Int := ⟨80, 29, 3, fun k => .agg (keyC k), fun i => .int .i64 i, .int .i64 0⟩
theorem LI : MI.Law := ⟨key_law, fun x y h => by
  injection h with h
  exact keyC_inj h, Try.underlying80, fun W => by kernel_rfl, keyC_key⟩
theorem zeroKey : ZeroOf 29 ZK := ⟨fun W => zero_of (by kernel_rfl) W, by kernel_rfl, by kernel_rfl⟩
theorem litKey (x : Key) : LitR RKey 1 #[(0, .agg (keyC x))] [x] := ⟨rfl, by decide, fun W => by
  obtain ⟨k0, k1, k2, k3, k4, k5, k6, k7, k8, k9, k10, k11, k12, k13, k14, k15, k16, k17, k18, k19, k20, k21, k22, k23, k24, k25, k26, k27, k28, k29, k30, k31, e⟩ := arr32 (keyC_size x)
  have e2 : encR RKey [x] = (keyC x).toList := by simp [encR, RKey]
  show (Instr.buildSlice 86 1 #[(0, .agg (keyC x))]).run Try.prog W = .ok (.slice (some ⟨W.heap.size, 0, none⟩) 1 1) (W.alloc (.cells (encR RKey [x]).toArray 29))
  rw [e2, e]
  kernel_rfl⟩
theorem info_key : (Try.prog.info? 29).map (·.size) = some 32 := by kernel_rfl
theorem key_of_heap {W : World} {b : Nat} {x : Key} (h : W.heap[b]? = some (.cells (keyC x) 29 (0, 0))) : (loadVar 29 ⟨b, 0, none⟩).run Try.prog W = .ok (.agg (keyC x)) W :=
  load_block h _ _ Try.underlying29 rfl (by rw [keyC_size]; exact info_key)
/-- A new block that holds a key. -/
def boxK (W : World) (x : Key) : World := (W.alloc (.cells ZK 29)).setCells W.heap.size 0 (keyC x).toList
theorem boxK_at (W : World) (x : Key) : (boxK W x).heap[W.heap.size]? = some (.cells (keyC x) 29 (0, 0)) := setCells_block (World.alloc_heap_new W _) (by rw [keyC_size]; rfl)
theorem boxK_grown (W : World) (x : Key) : W.grownBy (boxK W x) none := by
  have h1 := World.grownBy_alloc W (.cells ZK 29) none
  have h2 := setCells_grown W.heap.size (keyC x).toList 0 (W.alloc (.cells ZK 29))
  refine ⟨h2.os.trans h1.os, h2.tape.trans h1.tape, h2.output.trans h1.output, Nat.le_trans h1.size h2.size, fun k hk _ => ?_⟩
  exact (h2.block k (Nat.lt_of_lt_of_le hk h1.size) (fun e => by injection e with e; omega)).trans (h1.block k hk (by simp))
section
variable {F : Fence} {n : Nat} {ops : Array Oper} {rest : List Oper} {o1 o2 : Oper} {a : Act} {Q : Exit → Act → World → Prop} {w : World}
/-- A loop's variable is laid in a block: 'alloc', 'store'. -/
theorem in_boxK (hF : ∀ f, F.fn f) (hg1 : o1.guard = none) (hg2 : o2.guard = none) (h1 : o1.op = .alloc 29) {x y : Operand} (h2 : o2.op = .store 29 x y) {d : Nat} (hd : o1.dst = some d) {k : Key}
    (hx : (a.put (some d) (.pointer (some ⟨w.heap.size, 0, none⟩))).eval x = .pointer (some ⟨w.heap.size, 0, none⟩)) (hy : (a.put (some d) (.pointer (some ⟨w.heap.size, 0, none⟩))).eval y = .agg (keyC k))
    (K : wpListIn F n Try.prog ops Q rest ((a.put (some d) (.pointer (some ⟨w.heap.size, 0, none⟩))).put o2.dst undef) (boxK w k)) : wpListIn F n Try.prog ops Q (o1 :: o2 :: rest) a w := by
  refine in_alloc hF hg1 h1 zeroKey.1 ?_
  rw [hd]
  exact in_store hF hg2 h2 hx hy (World.alloc_heap_new w _) (by rw [keyC_size]; rfl) info_key (keyC_one k) K
end
set_option maxHeartbeats 2000000 in
/-- slices.AppendSeq(nil, seq), for any iterator. -/
theorem appendSeq_key {g : Nat} {lb : Array Value} (eg : ∀ args w, (callFunc g args).run Try.prog w = .ok (.enter g args) w) {S Sp : List Key → Prop} {N : Nat} (hN : N ≤ 1000000) (w : World) (hseq : ∀ n, 1 ≤ n → SeqStopsK Fence.wide n Try.prog g lb (fun k => #[.agg (keyC k)]) KeepsWalks S Sp N w) :
    Calls Try.prog 92 #[.slice none 0 0, .func (.func g) #[] lb] w fun e w' => ∃ A c ss, e = .returned (.slice A ss.length c) ∧ S ss ∧ OW RKey w.heap.size w' (.slice A ss.length c) ss ∧ Below w.heap.size w w' := by
  refine (callsIn_wide (n := 5)).1 ?_
  refine callsIn_of_wp_marks Try.func92 rfl trivial ?_
  simp only [Try.ntmps92, List.size_toArray, List.length_cons, List.length_nil, Nat.reduceAdd, Nat.reduceSub, Array.replicate_succ, Array.replicate_zero, List.push_toArray, List.append_toArray, List.nil_append, List.cons_append]
  gi_wp2
  have hM : Mem w (w.alloc (.cells #[.slice none 0 0] 86)) [.blk w.heap.size #[.slice none 0 0] 86, rowE RKey (.slice none 0 0) []] := ((((Mem.start w).nilR RKey).alloc #[.slice none 0 0] 86 (by kernel_rfl)))
  have hsz : (w.alloc (.cells #[.slice none 0 0] 86)).heap.size = w.heap.size + 1 := by simp
  have hHB := hM.below
  generalize hW0 : w.alloc (.cells #[.slice none 0 0] 86) = W0 at hM hsz hHB ⊢
  refine wpIn_rangeFunc_ownH rfl (by omega) (gf := g) (lb := lb) rfl trivial eg (hseq _ (by omega)) walksK_t walksK_b hHB (fun _ => rfl)
    (Col RKey w w.heap.size) (fun _ _ _ => False) (col_own (by omega)) (fun c s A B row h _ _ => h) ⟨none, 0, hM⟩
    (fun x a' W => ∃ bx, a' = { tmps := #[.slice none 0 0, .func (.func g) #[] lb, .pointer (some ⟨w.heap.size, 0, none⟩), undef, .slice none 0 0, .pointer (some ⟨bx, 0, none⟩), .func (.func g) #[] lb, .agg (keyC x), undef, undef, undef, undef, undef], defers := [] } ∧ W.heap[bx]? = some (.cells (keyC x) 29 (0, 0)))
    (fun x a' s A B row ⟨bx, e, h⟩ hg hr => ⟨bx, e, (hg.block bx (Array.getElem?_eq_some_iff.1 h).1 (fun e => by
      obtain ⟨_, o, ho, hc⟩ := hr bx e.symm
      rw [h] at ho
      cases ho
      cases hc)).trans h⟩) ?_ ?_ ?_ ?_
  · intro l pre x W K hI hK
    simp only [List.zip_toArray, List.zip_cons_cons, List.zip_nil_left, List.zip_nil_right, List.foldl_toArray, List.foldl_toArray', List.size_toArray, List.length_cons, List.length_nil, List.foldl_cons, List.foldl_nil, List.setIfInBounds_toArray, List.set_cons_succ, List.set_cons_zero]
    refine wpIn_region_lit (in_boxK (k := x) (fun _ => trivial) rfl rfl rfl rfl rfl rfl rfl ?_)
    refine wpListIn_nil (hK _ _ ((keepsO (boxK_grown W x) (fun j o e => by cases e)).from _) ((keepsO (boxK_grown W x) (fun j o e => by cases e)).walks) ?_ ⟨W.heap.size, rfl, boxK_at W x⟩)
    exact col_own (Nat.le_refl _) pre W _ none hI (boxK_grown W x) (fun r e => by cases e)
  · rintro l pre x a' W hl hrec ⟨A, c, hM⟩ ⟨bx, rfl, hbx⟩ hlen
    obtain ⟨A1, c1, W1, hr, hc1, hf1, hk1, hcol⟩ := col_append LKey hM x (by show (pre.length + 1) * 32 ≤ _; omega) 86
    refine wpIn_block (wpIn_region_lit ?_)
    refine in_load (fun _ => trivial) rfl rfl rfl (run_load1 (by kernel_rfl) W _ _ ((blk_cell (hM.get (List.mem_cons_self ..)) 0).trans rfl)) ?_
    refine in_load (fun _ => trivial) rfl rfl rfl (key_of_heap hbx) ?_
    refine in_lit (R := RKey) (fun _ => trivial) rfl rfl (litKey x) rfl ?_
    refine in_append (fun _ => trivial) rfl rfl rfl rfl hr ?_
    refine in_put (fun _ => trivial) rfl rfl (by kernel_rfl) rfl rfl rfl hc1 hf1 ?_
    exact wpListIn_nil ⟨hk1.from _, hk1.walks, hcol⟩
  · rintro D xs W hD hS ⟨A, c, hM⟩ hK
    have hc := (blk_cell (hM.get (b := w.heap.size) (cs := #[.slice A xs.length c]) (List.mem_cons_self ..)) 0).trans rfl
    have HM := Lib.hid hM
    have HD : Hid (w.heap.size ≤ D) := Lib.hid (by omega)
    clear hM hD hsz hHB hseq
    gi_wp2
    refine ⟨by simp, .inl ⟨_, _, rfl, run_takeDeferred hK, ?_⟩⟩
    have HM2 := col_keep (Nat.le_refl _) HM.out (grownBy_putObj' W D (.deferred none)) (fun r e => by cases e; exact ⟨HD.out, _, hK, rfl⟩)
    exact ⟨_, results_tmp rfl _ _ _, A, c, xs, rfl, hS, HM2.ow (List.mem_cons_of_mem _ (List.mem_cons_self ..)), HM2.below⟩
  · intro D c pre W hD hSp hF hK
    exact hF.elim
/-- slices.Collect(seq), for any iterator. -/
theorem collect_key {g : Nat} {lb : Array Value} (eg : ∀ args w, (callFunc g args).run Try.prog w = .ok (.enter g args) w) {S Sp : List Key → Prop} {N : Nat} (hN : N ≤ 1000000) (w : World) (hseq : ∀ n, 1 ≤ n → SeqStopsK Fence.wide n Try.prog g lb (fun k => #[.agg (keyC k)]) KeepsWalks S Sp N w) :
    Calls Try.prog 84 #[.func (.func g) #[] lb] w fun e w' => ∃ A c ss, e = .returned (.slice A ss.length c) ∧ S ss ∧ OW RKey w.heap.size w' (.slice A ss.length c) ss ∧ Below w.heap.size w w' := by
  have HC := Lib.hid (appendSeq_key eg hN w hseq)
  clear hseq eg
  go_enter Try.func84, Try.ntmps84
  go_wp2_with fail
  refine HC.out.mono ?_
  rintro e w' ⟨A, c, ss, rfl, hS, ho, hb⟩
  go_wp2_with fail
  go_ret
  exact ⟨A, c, ss, rfl, hS, ho, hb⟩
/-- maps.Keys(m): the map is boxed; the closure holds the box. -/
theorem keys_any (w : World) (b : Nat) : Calls Try.prog 65 #[.map (some b)] w fun e w' => e = .returned (.func (.func 86) #[] #[.pointer (some ⟨w.heap.size, 0, none⟩)]) ∧ w.alloc (.cells #[.map (some b)] 80) = w' := by
  go_enter Try.func65, Try.ntmps65
  go_wp2
  go_ret
  exact ⟨rfl, rfl⟩
theorem rangeLeft_eq {κ ν : Type} [DecidableEq κ] {M : MK κ ν} {b r : Nat} {l left : List (κ × ν)} {W : World} (h : RangeAt M.k M.ek M.ev b r l left W) : W.rangeLeft b r = left.length := by
  obtain ⟨es, clock, since, seen, c0, h1, h2, h3, h4, h5, h6, h7, h8⟩ := h.ex
  unfold World.rangeLeft
  rw [h1, h4]
  have := congrArg List.length h8
  simpa using this
theorem range_walks {κ ν : Type} [DecidableEq κ] {M : MK κ ν} {b r : Nat} {l left : List (κ × ν)} {W W1 : World} (h : RangeAt M.k M.ek M.ev b r l left W) (hk : KeepsWalks W W1) : RangeAt M.k M.ek M.ev b r l left W1 := by
  obtain ⟨es, clock, since, seen, c0, h1, h2, h3, h4, h5⟩ := h.ex
  exact h.blocks ((hk.same b _ h1 rfl).trans h1.symm) ((hk.same r _ h4 rfl).trans h4.symm)
theorem range_iter {κ ν : Type} [DecidableEq κ] {M : MK κ ν} {b r : Nat} {l left : List (κ × ν)} {W : World} (h : RangeAt M.k M.ek M.ev b r l left W) : ∃ o : Obj, W.heap[r]? = some o ∧ o.isWalk = true := by
  obtain ⟨es, clock, since, seen, c0, h1, h2, h3, h4, h5⟩ := h.ex
  exact ⟨_, h4, rfl⟩
set_option maxHeartbeats 2000000 in
/-- The iterator that maps.Keys hands back. -/
theorem keys_stops {w : World} {b Bm : Nat} {l : List (Key × Int)} (hB : w.cell? ⟨Bm, 0, none⟩ = some (.map (some b))) (hm : MapAt MI.k MI.ek MI.ev b l w) (n : Nat) (hn : 1 ≤ n) :
    SeqStopsK Fence.wide n Try.prog 86 #[.pointer (some ⟨Bm, 0, none⟩)] (fun k => #[.agg (keyC k)]) KeepsWalks (fun ss => ss.Perm (l.map (·.1))) (fun _ => True) l.length w := by
  intro lp J Jx W hW hJ hJx hY h0
  have hBm : Bm < w.heap.size := World.block_lt_of_cell? w ⟨Bm, 0, none⟩ hB
  have hcell := (hW.cell (p := ⟨Bm, 0, none⟩) hBm).trans hB
  have hmap := hm.block (hW.block b hm.lt)
  have HJ : Hid (AbidesFrom W.heap.size J) := Lib.hid hJ
  have HJX : Hid (AbidesFrom W.heap.size Jx) := Lib.hid hJx
  have HY := Lib.hid hY
  have HM := Lib.hid hmap
  clear hW hJ hJx hY hB hm hBm hmap
  refine callsIn_of_wp Try.func86 rfl trivial ?_ rfl
  simp only [Try.ntmps86, List.size_toArray, List.length_cons, List.length_nil, Nat.reduceAdd, Nat.reduceSub, Array.replicate_succ, Array.replicate_zero, List.push_toArray, List.append_toArray, List.nil_append, List.cons_append]
  gi_wp2_with (first | (refine in_range LI (fun _ => trivial) rfl rfl rfl HM.out ?_; intro w1 hrg hg1 hs1) | fail)
  have HR := Lib.hid hrg
  have HJ1 : Hid (J [] w1) := Lib.hid (HJ.out [] W w1 none h0 hg1 (fun r e => by cases e))
  have HP : Hid ((l.map (·.1)).Perm ([] ++ l.map (·.1))) := Lib.hid (List.Perm.refl _)
  clear hcell h0 hrg hg1 hs1 HM
  gi_loopw [3] (fun _ wr => ∃ (left : List (Key × Int)) (ss : List Key), Hid (RangeAt MI.k MI.ek MI.ev b W.heap.size l left wr) ∧ Hid ((l.map (·.1)).Perm (ss ++ left.map (·.1))) ∧ Hid (J ss wr)) (fun _ wr => wr.rangeLeft b W.heap.size)
  case atStart => exact ⟨l, [], HR, HP, HJ1⟩
  case round =>
    clear HR HJ1 HP
    obtain ⟨left, ss, HR, HP, HJ1⟩ := hrel
    gi_wp2_with (first | (refine in_next (M := MI) (fun _ => trivial) rfl rfl rfl HR.out ?_ ?_) | fail)
    · intro h0
      gi_wp2
      go_end0
      exact ⟨⟨_, rfl⟩, .inl ⟨ss, by have := HP.out; rw [h0] at this; simpa using this.symm, HJ1.out⟩⟩
    · intro kx vx left' w2 hp hrg2 hg2 hs2 hen
      have HR2 := Lib.hid hrg2
      have HJ2 : Hid (J ss w2) := Lib.hid (HJ.out ss wr w2 (some W.heap.size) HJ1.out hg2 (fun r e => by cases e; exact ⟨Nat.le_refl _, range_iter HR.out⟩))
      have HJ3 : Hid (J ss (boxK w2 kx)) := Lib.hid (HJ.out ss w2 _ none HJ2.out (boxK_grown w2 kx) (fun r e => by cases e))
      have HR3 : Hid (RangeAt MI.k MI.ek MI.ev b W.heap.size l left' (boxK w2 kx)) := Lib.hid (range_walks hrg2 (keepsO (boxK_grown w2 kx) (fun j o e => by cases e)).walks)
      have HP2 : Hid ((l.map (·.1)).Perm ((ss ++ [kx]) ++ left'.map (·.1))) := Lib.hid (by
        refine HP.out.trans ?_
        rw [List.append_assoc]
        exact (List.Perm.append_left ss (hp.map _)))
      have HBX := Lib.hid (boxK_at w2 kx)
      have HME : Hid (left'.length < left.length) := Lib.hid (by have := hp.length_eq; simp at this; omega)
      have hlen : ss.length < l.length := by
        have := HP2.out.length_eq
        simp at this
        omega
      obtain ⟨fn, tmps, assign, body, hy, hR⟩ := HY.out ss kx _ HJ3.out hlen
      clear hrg2 hg2 hs2 hp hlen
      gi_wp2_with (first | (refine in_entry (fun _ => trivial) rfl rfl rfl hen ?_) | (refine in_boxK (k := kx) (fun _ => trivial) rfl rfl rfl rfl rfl rfl rfl ?_) | (refine in_load (fun _ => trivial) rfl rfl rfl (key_of_heap HBX.out) ?_) | fail)
      refine hR.mono ?_
      rintro e W3 (⟨rfl, hJ3, hk3⟩ | ⟨rfl, hJx⟩)
      · have HR4 := Lib.hid (range_walks HR3.out hk3)
        have HJ4 := Lib.hid hJ3
        clear hJ3 hk3 hR hy hen
        gi_wp2
        go_roundw
        case rel => exact ⟨left', ss ++ [kx], HR4, HP2, HJ4⟩
        case measure => rw [rangeLeft_eq HR4.out, rangeLeft_eq HR.out]; exact HME.out
      · have HX := Lib.hid hJx
        clear hJx hR hy hen
        gi_wp2
        refine bodyPost_ret (v := .tuple #[]) (by simp [results, Try.results86, go_sem]) rfl ?_
        exact ⟨⟨_, rfl⟩, .inr ⟨_, trivial, HX.out⟩⟩
end Go.Proofs.Ytapncdgeigbgmaa.Tb
