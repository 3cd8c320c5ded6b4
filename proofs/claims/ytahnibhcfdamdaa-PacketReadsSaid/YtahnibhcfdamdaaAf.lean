/- Package addr: the address of four bytes, whether one is right, its width, its bytes. -/
import Derived.Test.YtahnibhcfdamdaaAe
set_option linter.unusedSimpArgs false
set_option linter.unusedVariables false
set_option maxRecDepth 100000
namespace Go.Proofs.Ytahnibhcfdamdaa.Ad
open Go.RowKit Go.Proofs.YtahnibhcfdamdaaW.PrintWords Go.Proofs.Ytahnibhcfdamdaa.Bs Go.Proofs.Ytahnibhcfdamdaa.Av Go.Proofs.Ytahnibhcfdamdaa.Le

/-- copy(m[o:o+m], src) of fewer bytes, as one step of a region that draws its order. -/
theorem step_copy_wide {ops : Array Oper} {op : Oper} {a : Act} {K : Act → World → Prop} {Q : Exit → Act → World → Prop} {E : Prop} {W : World} (hgd : op.guard = none) (d s : Operand)
    (ho : op.op = .call { callee := .builtin .copy, args := #[d, s], argTypes := #[26, 26] })
    (b p o n m : Nat) (ns : List Int) (l ys : List UInt8) (T : TypeId) (u : Value) (hp : p = ns.length + o) (hd : a.eval d = .slice (some ⟨b, p, none⟩) m m) (hs : a.eval s = u)
    (hg : W.heap[b]? = some (.cells (AV ns l) T (0, 0))) (HR : RB W u ys) (hy : ys.length = n) (hm : n ≤ m) (hn : o + n ≤ l.length) (hn0 : 0 < n)
    (h : ∀ w1, w1.heap[b]? = some (.cells (AV ns (l.take o ++ ys ++ l.drop (o + n))) T (0, 0)) → W.grownBy w1 (some b) → K (a.put op.dst (goInt n)) w1) :
    if Region.wanted op (yielded ops a.tmps) = true then Oper.wp Try.prog op a W K Q else E := by
  obtain ⟨A, c, rfl, _, hr⟩ := HR
  obtain ⟨i8, hi8, hs8⟩ := info8'
  have hsz : (Try.prog.info? 5).map (·.size) = some 1 := by rw [hi8]; simp [hs8]
  subst hp hy
  obtain ⟨ad, rfl, hcell⟩ := hr.2.2 hn0
  have hw : Region.wanted op (yielded ops a.tmps) = true := by simp [Region.wanted, hgd]
  rw [if_pos hw]
  have hrun := run_copy_row (P := Try.prog) W 26 26 op.type 5 b (ns.length + o) m m ad ys.length c (AV ns l) T (encs B ys) Try.underlying26 hsz hg (by rw [encs_length]; exact (Nat.min_eq_left hm).symm) (fun j z hz => by
    obtain ⟨hj, _⟩ := List.getElem?_eq_some_iff.1 hz
    rw [encs_length] at hj
    rw [encs_get (d := 0) _ j hj] at hz
    rw [hcell j hj, ← hz]) (by rw [encs_length, AV_size]; omega) (fun z hz => by
    simp only [encs, List.mem_map] at hz
    obtain ⟨q, _, rfl⟩ := hz
    exact rfl)
  have hX : ((AV ns l).toList.take (ns.length + o) ++ encs B ys ++ (AV ns l).toList.drop (ns.length + o + ys.length)).toArray = AV ns (l.take o ++ ys ++ l.drop (o + ys.length)) := by
    have h3 := AV_splice ns l ys o hn
    unfold splice at h3
    rwa [encs_length, ← List.append_assoc] at h3
  rw [encs_length, hX] at hrun
  have h1 := setRow_heap W b (AV ns l) (AV ns (l.take o ++ ys ++ l.drop (o + ys.length))) T _ hg
  have h2 := h _ h1 (grown_setRow W b _)
  simp only [List.append_assoc] at h2
  unfold Oper.wp
  simp [execOp, ho, resolve, invoke, builtin, hd, hs, hrun, Result.andThen]
  exact h2

theorem info4 : (Try.prog.info? 103).map (·.size) = some 4 := by kernel_rfl
/-- The bytes of an array in a block of its own. -/
theorem RB_arr {w : World} {b : Nat} {l : List UInt8} {T : TypeId} (h : w.heap[b]? = some (.cells (encs B l).toArray T (0, 0))) (n : Nat) (hn : l.length = n) (hl : l.length ≤ 9223372036854775807) : RB w (.slice (some ⟨b, 0, none⟩) n n) l := by
  subst hn
  have h2 : w.heap[b]? = some (.cells (AV [] l) T (0, 0)) := h
  have := RB_block h2 0 l.length 0 rfl (by omega) hl
  rwa [List.drop_zero, List.take_length] at this

set_option maxHeartbeats 1000000 in
theorem four_any (l : List UInt8) (w : World) (hl : l.length = 4) :
    Calls Try.prog 103 #[.agg (encs B l).toArray] w fun e w' => e = .returned (.agg (AV [4] (l ++ List.replicate 12 0))) ∧ Below w.heap.size w w' := by
  have HL := Lib.hid hl
  have HS : Hid ((AV [4] (l ++ List.replicate 12 0)).size = ZA.size) := Lib.hid (by rw [AV_size, ZA_size, List.length_append, List.length_replicate, hl]; rfl)
  clear hl
  generalize hLL : (l ++ List.replicate 12 (0 : UInt8)) = L at HS ⊢
  have HLL := Lib.hid hLL
  clear hLL
  have HX := Lib.hid (blk_old (blk_old (blk_new w (.cells (encs B l).toArray 103)) (.cells ZA 25)) (.cells ZA 25))
  have HZ := Lib.hid (blk_old (blk_new1 w (.cells (encs B l).toArray 103) (.cells ZA 25)) (.cells ZA 25))
  have HS2 : ((w.alloc (.cells (encs B l).toArray 103)).alloc (.cells ZA 25)).heap.size = w.heap.size + 1 + 1 := by rw [size_push, size_push]
  have HY : Hid ((((w.alloc (.cells (encs B l).toArray 103)).alloc (.cells ZA 25)).alloc (.cells ZA 25)).heap[w.heap.size + 1 + 1]? = some (.cells ZA 25 (0, 0))) := Lib.hid (by have h := blk_new ((w.alloc (.cells (encs B l).toArray 103)).alloc (.cells ZA 25)) (.cells ZA 25); rwa [HS2] at h)
  have HB : Hid (Below w.heap.size w (((w.alloc (.cells (encs B l).toArray 103)).alloc (.cells ZA 25)).alloc (.cells ZA 25))) := Lib.hid (below_alloc (below_alloc (below_alloc (Below.refl _ _) _) _) _)
  have HS2' := Lib.hid HS2
  clear HS2
  go_enter Try.func103, Try.ntmps103
  go_wp2_with (first | ((with_reducible refine step_allocN rfl 25 rfl ZA zeroA (w.heap.size + 1) (size_push w _) ?_)) | ((with_reducible refine step_allocN rfl 25 rfl ZA zeroA (w.heap.size + 1 + 1) HS2'.out ?_)) | ((with_reducible refine step_buildG rfl 25 _ rfl #[(0, .int .i64 4)] ?qb (AV [4] (List.replicate 16 0)) buildFour ?_); (case qb => rfl)) | ((with_reducible refine step_store (b := w.heap.size + 1 + 1) (vs := AV [4] (List.replicate 16 0)) rfl 25 (.tmp 3) (.tmp 4) rfl rfl rfl HY.out ?qs ?qj (AV_one _ _) ?_); (case qs => rfl); (case qj => exact info_ZA)))
  have HY2 := Lib.hid (setCells_block HY.out (show (AV [4] (List.replicate 16 (0 : UInt8))).size = ZA.size from rfl))
  have HG := setCells_grown (w.heap.size + 1 + 1) (AV [4] (List.replicate 16 (0 : UInt8))).toList 0 (((w.alloc (.cells (encs B l).toArray 103)).alloc (.cells ZA 25)).alloc (.cells ZA 25))
  have HX2 := Lib.hid (blk_grown HX.out HG (by intro e; injection e with e; omega))
  have HZ2 := Lib.hid (blk_grown HZ.out HG (by intro e; injection e with e; omega))
  have HB2 := Lib.hid (setCells_below (w.heap.size + 1 + 1) (by omega) (AV [4] (List.replicate 16 (0 : UInt8))).toList 0 _ HB.out)
  clear HG HX HY HZ HB HS2'
  generalize ((((w.alloc (.cells (encs B l).toArray 103)).alloc (.cells ZA 25)).alloc (.cells ZA 25)).setCells (w.heap.size + 1 + 1) 0 (AV [4] (List.replicate 16 (0 : UInt8))).toList) = wx at HX2 HY2 HZ2 HB2 ⊢
  have HR : Hid (RB wx.drew (.slice (some ⟨w.heap.size, 0, none⟩) 4 4) l) := Lib.hid (RB_arr (show wx.drew.heap[w.heap.size]? = _ from HX2.out) 4 HL.out (by rw [HL.out]; decide))
  go_region_held3 (fun _ => True) (trivial) (first | (refine step_copy_wide rfl (.tmp 6) (.tmp 7) rfl (w.heap.size + 1 + 1) 1 0 4 16 [4] (List.replicate 16 0) l 25 _ rfl rfl rfl HY2.out HR.out HL.out (by decide) (by simp) (by decide) ?_; intro w3 hm1 hg1; have HY3 : Hid (w3.heap[w.heap.size + 1 + 1]? = some (.cells (AV [4] L) 25 (0, 0))) := Lib.hid (by rw [← HLL.out]; exact hm1); have HB3 := Lib.hid (grown_below hg1 (below_drew HB2.out) HB2.out.size (by omega)); have HZ3 := Lib.hid (blk_grown (show wx.drew.heap[w.heap.size + 1]? = _ from HZ2.out) hg1 (by intro e; injection e with e; omega)); clear hm1 hg1))
  clear HX2 HY2 HZ2 HB2 HR
  go_wp2_with (first | ((with_reducible refine step_load (b := w.heap.size + 1 + 1) (cs := (AV [4] L)) (T := 25) rfl 25 (.tmp 3) rfl rfl HY3.out _ Try.underlying25 rfl ?qi ?_); (case qi => exact by rw [HS.out]; exact info_ZA)) | ((with_reducible refine step_store (b := w.heap.size + 1) (vs := (AV [4] L)) rfl 25 (.tmp 2) (.tmp 9) rfl rfl rfl HZ3.out ?qs ?qj (AV_one _ _) ?_); (case qs => exact HS.out); (case qj => exact info_ZA)))
  have hload := load_block (setCells_block HZ3.out HS.out) 25 _ Try.underlying25 rfl (by rw [HS.out]; exact info_ZA)
  refine bodyPost_ret (results_c rfl _ _ _ _ _ rfl hload) rfl ⟨rfl, setCells_below _ (Nat.le_succ _) _ _ _ HB3.out⟩
end Go.Proofs.Ytahnibhcfdamdaa.Ad
