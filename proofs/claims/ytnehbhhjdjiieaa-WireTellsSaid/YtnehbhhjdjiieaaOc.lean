/- Package cookie: the message of bytes. -/
import Derived.Test.YtnehbhhjdjiieaaNc
import Derived.Test.YtnehbhhjdjiieaaTn
set_option linter.unusedSimpArgs false
set_option linter.unusedVariables false
set_option maxRecDepth 100000
namespace Go.Proofs.Ytnehbhhjdjiieaa.Mc
open Go.RowKit Go.Proofs.YtnehbhhjdjiieaaW.PrintWords Go.Proofs.Ytnehbhhjdjiieaa.Bs Go.Proofs.Ytnehbhhjdjiieaa.Le Go.Proofs.Ytnehbhhjdjiieaa.Mv Go.Proofs.Ytnehbhhjdjiieaa.Tk

set_option maxHeartbeats 4000000 in
theorem parse_any (A : Option Addr) (c : Nat) (b : List UInt8) (w : World) (hc : b.length ≤ c) (hr : ReadsOf B 0 w A b.length b) (hl : b.length ≤ 1099511627776) :
    Calls Try.prog 19 #[.slice A b.length c] w (Parsed w b) := by
  rcases badM_cases 3 64 b with ⟨hb, h⟩ | ⟨hb, h⟩ | ⟨hb, h, h0⟩ | ⟨hb, h, h0, h1⟩ | ⟨hb, h, h0, h1⟩
  · have hm := ZM_msg b (by rw [hb]; decide)
    unfold Parsed
    rw [hb, hm]
    clear hb hm
    have F1 : Hid (((w.alloc (.cells ZM 26)).alloc (.cells ZM 26)).heap[w.heap.size]? = some (.cells ZM 26 (0, 0))) := Lib.hid (blk_old (blk_new w _) _)
    have F2 : Hid (((w.alloc (.cells ZM 26)).alloc (.cells ZM 26)).heap[w.heap.size + 1]? = some (.cells ZM 26 (0, 0))) := Lib.hid (blk_new1 w _ _)
    go_enter Try.func19, Try.ntmps19
    go_wp2_with (first | ((with_reducible refine step_alloc rfl 26 rfl ZM zeroM ?_)) | ((with_reducible refine step_load (b := w.heap.size + 1) (cs := ZM) (T := 26) rfl 26 (.tmp 4) rfl rfl F2.out _ Try.underlying26 rfl ?i ?_); (case i => exact info_ZM)) | ((with_reducible refine step_store (b := w.heap.size) (vs := ZM) rfl 26 (.tmp 2) (.tmp 10) rfl rfl rfl F1.out ?s ?i ZM_one ?_); (case s => exact rfl); (case i => exact info_ZM)))
    have hload := load_block (setCells_block F1.out rfl) 26 _ Try.underlying26 rfl (info_ZM)
    refine bodyPost_ret (results_c1 rfl _ _ _ _ _ rfl hload) rfl ⟨rfl, setCells_below _ (Nat.le_refl _) _ _ _ (below_alloc (below_alloc (Below.refl _ _) _) _)⟩
  · have hm := ZM_msg b (by rw [hb]; decide)
    unfold Parsed
    rw [hb, hm]
    clear hb hm
    have F1 : Hid (((w.alloc (.cells ZM 26)).alloc (.cells ZM 26)).heap[w.heap.size]? = some (.cells ZM 26 (0, 0))) := Lib.hid (blk_old (blk_new w _) _)
    have F2 : Hid (((w.alloc (.cells ZM 26)).alloc (.cells ZM 26)).heap[w.heap.size + 1]? = some (.cells ZM 26 (0, 0))) := Lib.hid (blk_new1 w _ _)
    go_enter Try.func19, Try.ntmps19
    go_wp2_with (first | ((with_reducible refine step_alloc rfl 26 rfl ZM zeroM ?_)) | ((with_reducible refine step_load (b := w.heap.size + 1) (cs := ZM) (T := 26) rfl 26 (.tmp 4) rfl rfl F2.out _ Try.underlying26 rfl ?i ?_); (case i => exact info_ZM)) | ((with_reducible refine step_store (b := w.heap.size) (vs := ZM) rfl 26 (.tmp 2) (.tmp 15) rfl rfl rfl F1.out ?s ?i ZM_one ?_); (case s => exact rfl); (case i => exact info_ZM)))
    have hload := load_block (setCells_block F1.out rfl) 26 _ Try.underlying26 rfl (info_ZM)
    refine bodyPost_ret (results_c1 rfl _ _ _ _ _ rfl hload) rfl ⟨rfl, setCells_below _ (Nat.le_refl _) _ _ _ (below_alloc (below_alloc (Below.refl _ _) _) _)⟩
  · have hm := ZM_msg b (by rw [hb]; decide)
    unfold Parsed
    rw [hb, hm]
    clear hb hm
    obtain ⟨ad, rfl, hc0⟩ := reads_cell hr 0 (by omega)
    rw [show ad.add 0 = ad by simp [Addr.add]] at hc0
    have hd0 := fun o1 o2 => pw_cell_below (below_alloc (below_alloc (Below.refl w.heap.size w) o1) o2) hc0
    have hy0 := byte_lt (b.getD 0 0)
    have hx0 : ¬ ((b.getD 0 0).toNat : Int) = 3 := fun e => h0 (UInt8.toNat_inj.1 (by rw [show (b.getD 0 0).toNat = 3 by omega]; rfl))
    generalize (b.getD 0 0).toNat = x0 at hd0 hx0 hy0
    clear hc0
    have F1 : Hid (((w.alloc (.cells ZM 26)).alloc (.cells ZM 26)).heap[w.heap.size]? = some (.cells ZM 26 (0, 0))) := Lib.hid (blk_old (blk_new w _) _)
    have F2 : Hid (((w.alloc (.cells ZM 26)).alloc (.cells ZM 26)).heap[w.heap.size + 1]? = some (.cells ZM 26 (0, 0))) := Lib.hid (blk_new1 w _ _)
    go_enter Try.func19, Try.ntmps19
    go_wp2_with (first | ((with_reducible refine step_alloc rfl 26 rfl ZM zeroM ?_)) | ((with_reducible refine step_load (b := w.heap.size + 1) (cs := ZM) (T := 26) rfl 26 (.tmp 4) rfl rfl F2.out _ Try.underlying26 rfl ?i ?_); (case i => exact info_ZM)) | ((with_reducible refine step_store (b := w.heap.size) (vs := ZM) rfl 26 (.tmp 2) (.tmp 21) rfl rfl rfl F1.out ?s ?i ZM_one ?_); (case s => exact rfl); (case i => exact info_ZM)))
    have hload := load_block (setCells_block F1.out rfl) 26 _ Try.underlying26 rfl (info_ZM)
    refine bodyPost_ret (results_c1 rfl _ _ _ _ _ rfl hload) rfl ⟨rfl, setCells_below _ (Nat.le_refl _) _ _ _ (below_alloc (below_alloc (Below.refl _ _) _) _)⟩
  · have hm := ZM_msg b (by rw [hb]; decide)
    unfold Parsed
    rw [hb, hm]
    clear hb hm
    obtain ⟨ad, rfl, hc0⟩ := reads_cell hr 0 (by omega)
    rw [show ad.add 0 = ad by simp [Addr.add]] at hc0
    have hd0 := fun o1 o2 => pw_cell_below (below_alloc (below_alloc (Below.refl w.heap.size w) o1) o2) hc0
    have hy0 := byte_lt (b.getD 0 0)
    have hx0 : ((b.getD 0 0).toNat : Int) = 3 := by rw [h0]; rfl
    generalize (b.getD 0 0).toNat = x0 at hc0 hd0 hx0 hy0
    clear hc0 h0
    have hrd := reads_mid 1 63 (by omega) hr (by decide)
    rw [Option.map_some, add_lit ad 1 (by decide), List.take_of_length_le (by simp; omega)] at hrd
    have hT : (b.drop 1).length = 63 := by rw [List.length_drop]; omega
    have HT0 : Hid (RB ((w.alloc (.cells ZM 26)).alloc (.cells ZM 26)) (.slice (some ⟨ad.block, ad.off + 1, none⟩) 63 (c - 1)) (b.drop 1)) := Lib.hid (by
      refine ⟨_, c - 1, by rw [hT], by rw [hT]; omega, ?_⟩
      rw [hT]
      exact hrd.below (below_alloc (below_alloc (Below.refl _ _) _) _))
    have HTL : Hid ((b.drop 1).length = 63) := Lib.hid hT
    have HZ3 : Hid (¬  (((b.drop 1).drop 0).take 3).all (· == 0) = true) := Lib.hid (by rw [zero_take3 b (by omega)]; exact h1)
    clear hrd hT hr h1
    have F1' : Hid (((w.alloc (.cells ZM 26)).alloc (.cells ZM 26)).heap[w.heap.size]? = some (.cells ZM 26 (0, 0))) := Lib.hid (blk_old (blk_new w _) _)
    have F2' : Hid (((w.alloc (.cells ZM 26)).alloc (.cells ZM 26)).heap[w.heap.size + 1]? = some (.cells ZM 26 (0, 0))) := Lib.hid (blk_new1 w _ _)
    have HB' : Hid (Below w.heap.size w ((w.alloc (.cells ZM 26)).alloc (.cells ZM 26))) := Lib.hid (below_alloc (below_alloc (Below.refl _ _) _) _)
    have HS' : Hid (((w.alloc (.cells ZM 26)).alloc (.cells ZM 26)).heap.size = w.heap.size + 2) := Lib.hid (by rw [size_push, size_push])
    obtain ⟨TT, hTT⟩ : ∃ TT, b.drop 1 = TT := ⟨_, rfl⟩
    rw [hTT] at HT0 HTL HZ3
    go_enter Try.func19, Try.ntmps19
    go_wp2_with (first | ((with_reducible refine step_alloc rfl 26 rfl ZM zeroM ?_)))
    refine (new_own _ TT _ HT0.out (by rw [HTL.out]; decide)).mono ?_
    rintro e w1 ⟨g, q, rfl, hg, ht, hb⟩
    have HT := Lib.hid ht
    have HB := Lib.hid (below_comp HB'.out hb)
    have HZ := Lib.hid (blk_below F1'.out hb)
    have HM := Lib.hid (blk_below F2'.out hb)
    have HG : Hid (w.heap.size + 2 < g) := Lib.hid (by rw [HS'.out] at hg; exact hg)
    have HPB : Hid (((w.alloc (.cells ZM 26)).alloc (.cells ZM 26)).heap.size = w.heap.size + 2) := HS'
    clear ht hb hg HT0 F1' F2' HB' HS' hd0
    generalize ((w.alloc (.cells ZM 26)).alloc (.cells ZM 26)).heap.size = pb at HT HPB
    go_wp2_with fail
    refine (zeros_no g _ q TT 0 3 3 _ HT.out rfl (by rw [HTL.out]; decide) (by decide) HZ3.out).mono ?_
    rintro e w2 ⟨rfl, ht, hgr⟩
    have HB2 := Lib.hid (grown_below hgr HB.out HB.out.size (by have := HG.out; omega))
    have HZ2 := Lib.hid (blk_grown HZ.out hgr (fun e => by injection e with e; have := HG.out; omega))
    have HM2 := Lib.hid (blk_grown HM.out hgr (fun e => by injection e with e; have := HG.out; omega))
    have HT2 := Lib.hid ht
    clear ht hgr HB HZ HM HT
    go_wp2_with fail
    have g1 := range_block HM2.out
    have g2 := there_block HZ2.out
    have hu := Try.underlying26
    have hi : (Try.prog.info? 26).map (·.size) = some ZM.toList.length := by rw [Array.length_toList]; exact info_ZM
    refine wp_region_held_drew (S := fun w' => w'.rangeAt (w.heap.size + 1) 0 ZM.toList) (by kernel_rfl) g1 (fun hS => ?_)
    refine' wpAnyH_take (i := 0) (oi := _) (v := _) rfl (by kernel_rfl) (by kernel_rfl) (by kernel_rfl) (fun _ _ _ h => h) (yieldsIf_load_mid (by rfl) _ _ rfl (w.heap.size + 1) 0 rfl ZM.toList _ (fun w h => h) hu rfl hi) hS ?_
    refine' wpAnyH_take (i := 1) (oi := _) (v := .pointer (some ⟨g, 0, none⟩)) rfl (by kernel_rfl) (by kernel_rfl) (by kernel_rfl) (fun _ _ _ h => h) (Or.inl ⟨by rfl, fun w hw => by go_simp⟩) hS ?_
    refine wpAnyH_ready (rs := [2]) (by kernel_rfl) (by simp) (AllReadyH.cons rfl (fun K' hK => ?_) AllReadyH.nil)
    rw [if_pos (by rfl)]
    go_simp
    refine (fail_any g _ q TT 0 10 _ (HT2.out.below (below_drew (Below.refl _ _)))).mono ?_
    rintro e w' ⟨rfl, rfl⟩
    refine hK.out _ _ hS (fun hS2 => ?_)
    refine wpAnyH_ready (rs := [3]) (by kernel_rfl) (by simp) (AllReadyH.cons rfl (fun K'' hK2 => ?_) AllReadyH.nil)
    rw [if_pos (by rfl)]
    refine wp_store_mid _ _ _ rfl w.heap.size 0 ZM rfl rfl g2 info_ZM ZM_one ?_
    refine hK2.out _ _ (World.rangeAt_setCells_apart hS2 _ _ _ (.inl (by simp))) (fun hS3 => ?_)
    refine' wpAnyH_take (i := 4) (oi := _) (v := .int .i64 10) rfl (by kernel_rfl) (by kernel_rfl) (by kernel_rfl) (fun _ _ _ h => h) (Or.inl ⟨by rfl, fun w hw => by go_simp⟩) hS3 ?_
    refine wpAnyH_done (by kernel_rfl) ?_ _
    go_wp2
    have hload := load_block (setCells_block (show w2.drew.heap[w.heap.size]? = some _ from HZ2.out) rfl) 26 _ Try.underlying26 rfl info_ZM
    refine bodyPost_ret (results_c1 rfl _ _ _ _ _ rfl hload) rfl ⟨rfl, setCells_below _ (Nat.le_refl _) _ _ _ (below_drew HB2.out)⟩
  · have hm : msg1 3 56 b = MV [ofLe ((b.drop 4).take 4)] (b.drop 8) := if_pos hb
    unfold Parsed
    rw [hb, hm]
    clear hb hm
    have hq1 : ofLe ((b.drop 4).take 4) < 4294967296 := by have := ofLe_lt ((b.drop 4).take 4); rw [show ((b.drop 4).take 4).length = 4 by rw [List.length_take, List.length_drop]; omega] at this; exact this
    have HQ1 : Hid (ofLe (((b.drop 1).drop 3).take 4) = ofLe ((b.drop 4).take 4)) := Lib.hid (by rw [List.drop_drop])
    have HLD : Hid ((b.drop 1).drop 7 = b.drop 8) := Lib.hid (by rw [List.drop_drop])
    obtain ⟨L, hL⟩ : ∃ L, b.drop 8 = L := ⟨_, rfl⟩
    have HL : Hid (L.length = 56) := Lib.hid (by rw [← hL, List.length_drop]; omega)
    rw [hL] at HLD ⊢
    clear hL
    generalize ofLe ((b.drop 4).take 4) = q1 at HQ1 hq1 ⊢
    obtain ⟨ad, rfl, hc0⟩ := reads_cell hr 0 (by omega)
    rw [show ad.add 0 = ad by simp [Addr.add]] at hc0
    have hd0 := fun o1 o2 => pw_cell_below (below_alloc (below_alloc (Below.refl w.heap.size w) o1) o2) hc0
    have hy0 := byte_lt (b.getD 0 0)
    have hx0 : ((b.getD 0 0).toNat : Int) = 3 := by rw [h0]; rfl
    generalize (b.getD 0 0).toNat = x0 at hc0 hd0 hx0 hy0
    clear hc0 h0
    have hrd := reads_mid 1 63 (by omega) hr (by decide)
    rw [Option.map_some, add_lit ad 1 (by decide), List.take_of_length_le (by simp; omega)] at hrd
    have hT : (b.drop 1).length = 63 := by rw [List.length_drop]; omega
    have HT0 : Hid (RB ((w.alloc (.cells ZM 26)).alloc (.cells ZM 26)) (.slice (some ⟨ad.block, ad.off + 1, none⟩) 63 (c - 1)) (b.drop 1)) := Lib.hid (by
      refine ⟨_, c - 1, by rw [hT], by rw [hT]; omega, ?_⟩
      rw [hT]
      exact hrd.below (below_alloc (below_alloc (Below.refl _ _) _) _))
    have HTL : Hid ((b.drop 1).length = 63) := Lib.hid hT
    have HZ3 : Hid ( (((b.drop 1).drop 0).take 3).all (· == 0) = true) := Lib.hid (by rw [zero_take3 b (by omega)]; exact h1)
    clear hrd hT hr h1
    have F1' : Hid (((w.alloc (.cells ZM 26)).alloc (.cells ZM 26)).heap[w.heap.size]? = some (.cells ZM 26 (0, 0))) := Lib.hid (blk_old (blk_new w _) _)
    have F2' : Hid (((w.alloc (.cells ZM 26)).alloc (.cells ZM 26)).heap[w.heap.size + 1]? = some (.cells ZM 26 (0, 0))) := Lib.hid (blk_new1 w _ _)
    have HB' : Hid (Below w.heap.size w ((w.alloc (.cells ZM 26)).alloc (.cells ZM 26))) := Lib.hid (below_alloc (below_alloc (Below.refl _ _) _) _)
    have HS' : Hid (((w.alloc (.cells ZM 26)).alloc (.cells ZM 26)).heap.size = w.heap.size + 2) := Lib.hid (by rw [size_push, size_push])
    obtain ⟨TT, hTT⟩ : ∃ TT, b.drop 1 = TT := ⟨_, rfl⟩
    rw [hTT] at HT0 HTL HZ3 HLD HQ1
    go_enter Try.func19, Try.ntmps19
    go_wp2_with (first | ((with_reducible refine step_alloc rfl 26 rfl ZM zeroM ?_)))
    refine (new_own _ TT _ HT0.out (by rw [HTL.out]; decide)).mono ?_
    rintro e w1 ⟨g, q, rfl, hg, ht, hb⟩
    have HT := Lib.hid ht
    have HB := Lib.hid (below_comp HB'.out hb)
    have HZ := Lib.hid (blk_below F1'.out hb)
    have HM := Lib.hid (blk_below F2'.out hb)
    have HG : Hid (w.heap.size + 2 < g) := Lib.hid (by rw [HS'.out] at hg; exact hg)
    have HPB : Hid (((w.alloc (.cells ZM 26)).alloc (.cells ZM 26)).heap.size = w.heap.size + 2) := HS'
    clear ht hb hg HT0 F1' F2' HB' HS' hd0
    generalize ((w.alloc (.cells ZM 26)).alloc (.cells ZM 26)).heap.size = pb at HT HPB
    go_wp2_with fail
    refine (zeros_ok g _ q TT 0 3 3 _ HT.out rfl (by rw [HTL.out]; decide) (by decide) HZ3.out).mono ?_
    rintro e w2 ⟨rfl, ht, hgr⟩
    have HB2 := Lib.hid (grown_below hgr HB.out HB.out.size (by have := HG.out; omega))
    have HZ2 := Lib.hid (blk_grown HZ.out hgr (fun e => by injection e with e; have := HG.out; omega))
    have HM2 := Lib.hid (blk_grown HM.out hgr (fun e => by injection e with e; have := HG.out; omega))
    have HT2 : Hid (Tk w2 g _ q TT 3 0) := Lib.hid ht
    clear ht hgr HB HZ HM HT HZ3
    have HPN : Hid (TT = [] ∨ (Value.slice (some ⟨pb, 0, none⟩) TT.length q).ownBlock ≠ some (w.heap.size + 1)) := Lib.hid (.inr (by simp only [Value.ownBlock]; intro e; injection e with e; have := HPB.out; omega))
    have HGN : Hid (g ≠ w.heap.size + 1) := Lib.hid (by have := HG.out; omega)
    have HM2' : Hid (w2.heap[w.heap.size + 1]? = some (.cells (MV [0] (fillP L 0)) 26 (0, 0))) := Lib.hid (by have h := HM2.out; rw [ZM_eq] at h; rw [part_zero, HL.out]; exact h)
    clear HM2
    have HM2 := HM2'
    clear HM2'
    go_wp2_with fail
    refine (little_ok g _ q TT 3 4 4 _ HT2.out rfl (by decide) (by decide) (by rw [HTL.out]; decide)).mono ?_
    rintro e w3 ⟨rfl, ht, hgr⟩
    have HB3 := Lib.hid (grown_below hgr HB2.out HB2.out.size (by have := HG.out; omega))
    have HZ3 := Lib.hid (blk_grown HZ2.out hgr (fun e => by injection e with e; have := HG.out; omega))
    have HM3 := Lib.hid (blk_grown HM2.out hgr (fun e => by injection e with e; have := HG.out; omega))
    have HT3 : Hid (Tk w3 g _ q TT 7 0) := Lib.hid ht
    clear ht hgr HB2 HZ2 HM2 HT2
    rw [HQ1.out]
    have hc0 := (blk_cell HM3.out 0).trans (MV_num 0 _ _)
    have hf0 := blk_frozen HM3.out 0
    have HM4 : Hid ((w3.setCell ⟨w.heap.size + 1, 0, none⟩ (.int .u32 (q1 : Int))).heap[w.heap.size + 1]? = some (.cells (MV [q1] (fillP L 0)) 26 (0, 0))) := Lib.hid (by rw [blk_set HM3.out 0 _, MV_set0])
    have HZ4 : Hid ((w3.setCell ⟨w.heap.size + 1, 0, none⟩ (.int .u32 (q1 : Int))).heap[w.heap.size]? = some (.cells ZM 26 (0, 0))) := Lib.hid (blk_far HZ3.out (by simp) _)
    have HB4 := Lib.hid (HB3.out.setCell (p := ⟨w.heap.size + 1, 0, none⟩) (Nat.le_succ _) (.int .u32 (q1 : Int)))
    have HT4 := Lib.hid (HT3.out.keep (grown_set w3 (w.heap.size + 1) 0 (.int .u32 (q1 : Int))) HGN.out HPN.out)
    clear HB3 HZ3 HM3 HT3
    go_wp2_with fail
    clear hc0 hf0
    generalize (w3.setCell ⟨w.heap.size + 1, 0, none⟩ (.int .u32 (q1 : Int))) = w4 at HM4 HZ4 HB4 HT4 ⊢
    go_region_held3 (fun _ => True) (trivial) (first | (go_at_call 63; refine (bytes_ok g _ q TT 7 24 24 _ (HT4.out.below (below_drew (Below.refl _ _))) rfl (by rw [HTL.out]; decide) (by decide)).mono ?_; rintro e w5 ⟨v5, rfl, ho, ht, hgr⟩; have HB5 := Lib.hid (grown_below hgr (below_drew HB4.out) (by have := HB4.out.size; exact this) (by have := HG.out; omega)); have HZ5 := Lib.hid (blk_grown (show w4.drew.heap[w.heap.size]? = _ from HZ4.out) hgr (fun e => by injection e with e; have := HG.out; omega)); have HM5 := Lib.hid (blk_grown (show w4.drew.heap[w.heap.size + 1]? = _ from HM4.out) hgr (fun e => by injection e with e; have := HG.out; omega)); have HV5 := Lib.hid ho.rb; have HT5 : Hid (Tk w5 g _ q TT 31 0) := Lib.hid ht; clear ht hgr ho) | (refine step_copy_mid rfl (.tmp 36) (.tmp 38) rfl (w.heap.size + 1) 1 0 24 [q1] (fillP L 0) ((TT.drop 7).take 24) 26 v5 rfl rfl rfl HM5.out HV5.out (by rw [List.length_take, List.length_drop, HTL.out]; decide) (by rw [part_length _ _ (by rw [HL.out]; decide), HL.out]; decide) (by decide) ?_; intro w6 hm1 hg1; have HM6 := Lib.hid hm1; have HB6 := Lib.hid (grown_below hg1 HB5.out HB5.out.size (Nat.le_succ _)); have HZ6 := Lib.hid (blk_grown HZ5.out hg1 (fun e => by injection e with e; omega)); have HT6 := Lib.hid (HT5.out.keep hg1 HGN.out HPN.out); clear hm1 hg1))
    have e0 : (fillP L 0).take 0 ++ (TT.drop 7).take 24 ++ (fillP L 0).drop (0 + 24) = fillP L 24 := by
      rw [show TT.drop 7 = L.drop 0 by rw [← HLD.out, List.drop_drop]]
      exact part_copy L 0 24 (by rw [HL.out]; decide)
    rw [e0] at HM6
    clear e0 HB4 HZ4 HM4 HT4 HB5 HZ5 HM5 HT5
    go_wp2_with fail
    go_region_held3 (fun _ => True) (trivial) (first | (go_at_call 63; refine (bytes_ok g _ q TT 31 32 32 _ (HT6.out.below (below_drew (Below.refl _ _))) rfl (by rw [HTL.out]; decide) (by decide)).mono ?_; rintro e w7 ⟨v7, rfl, ho, ht, hgr⟩; have HB7 := Lib.hid (grown_below hgr (below_drew HB6.out) (by have := HB6.out.size; exact this) (by have := HG.out; omega)); have HZ7 := Lib.hid (blk_grown (show w6.drew.heap[w.heap.size]? = _ from HZ6.out) hgr (fun e => by injection e with e; have := HG.out; omega)); have HM7 := Lib.hid (blk_grown (show w6.drew.heap[w.heap.size + 1]? = _ from HM6.out) hgr (fun e => by injection e with e; have := HG.out; omega)); have HV7 := Lib.hid ho.rb; have HT7 : Hid (Tk w7 g _ q TT 63 0) := Lib.hid ht; clear ht hgr ho) | (refine step_copy_mid rfl (.tmp 41) (.tmp 43) rfl (w.heap.size + 1) 25 24 32 [q1] (fillP L 24) ((TT.drop 31).take 32) 26 v7 rfl rfl rfl HM7.out HV7.out (by rw [List.length_take, List.length_drop, HTL.out]; decide) (by rw [part_length _ _ (by rw [HL.out]; decide), HL.out]; decide) (by decide) ?_; intro w8 hm1 hg1; have HM8 := Lib.hid hm1; have HB8 := Lib.hid (grown_below hg1 HB7.out HB7.out.size (Nat.le_succ _)); have HZ8 := Lib.hid (blk_grown HZ7.out hg1 (fun e => by injection e with e; omega)); have HT8 := Lib.hid (HT7.out.keep hg1 HGN.out HPN.out); clear hm1 hg1))
    have e1 : (fillP L 24).take 24 ++ (TT.drop 31).take 32 ++ (fillP L 24).drop (24 + 32) = fillP L 56 := by
      rw [show TT.drop 31 = L.drop 24 by rw [← HLD.out, List.drop_drop]]
      exact part_copy L 24 32 (by rw [HL.out]; decide)
    rw [e1] at HM8
    clear e1 HB6 HZ6 HM6 HT6 HB7 HZ7 HM7 HT7
    rw [part_all _ _ (by rw [HL.out])] at HM8
    have F1 := HZ8
    have F2 := HM8
    have HS : Hid ((MV [q1] L).size = ZM.size) := Lib.hid (by rw [MV_size, ZM_size, HL.out]; rfl)
    clear HZ8 HM8 HT8
    go_wp2_with (first | ((with_reducible refine step_load (b := w.heap.size + 1) (cs := (MV [q1] L)) (T := 26) rfl 26 (.tmp 4) rfl rfl F2.out _ Try.underlying26 rfl ?i ?_); (case i => exact by rw [HS.out]; exact info_ZM)) | ((with_reducible refine step_store (b := w.heap.size) (vs := (MV [q1] L)) rfl 26 (.tmp 2) (.tmp 45) rfl rfl rfl F1.out ?s ?i (MV_one _ _) ?_); (case s => exact HS.out); (case i => exact info_ZM)))
    have hload := load_block (setCells_block F1.out HS.out) 26 _ Try.underlying26 rfl (by rw [HS.out]; exact info_ZM)
    refine bodyPost_ret (results_c1 rfl _ _ _ _ _ rfl hload) rfl ⟨rfl, setCells_below _ (Nat.le_refl _) _ _ _ HB8.out⟩
end Go.Proofs.Ytnehbhhjdjiieaa.Mc
