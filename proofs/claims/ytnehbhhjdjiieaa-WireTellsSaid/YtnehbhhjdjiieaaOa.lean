/- Package answer: the message of bytes. -/
import Derived.Test.YtnehbhhjdjiieaaNa
import Derived.Test.YtnehbhhjdjiieaaTn
set_option linter.unusedSimpArgs false
set_option linter.unusedVariables false
set_option maxRecDepth 100000
namespace Go.Proofs.Ytnehbhhjdjiieaa.Ma
open Go.RowKit Go.Proofs.YtnehbhhjdjiieaaW.PrintWords Go.Proofs.Ytnehbhhjdjiieaa.Bs Go.Proofs.Ytnehbhhjdjiieaa.Le Go.Proofs.Ytnehbhhjdjiieaa.Mv Go.Proofs.Ytnehbhhjdjiieaa.Tk

set_option maxHeartbeats 4000000 in
theorem parse_any (A : Option Addr) (c : Nat) (b : List UInt8) (w : World) (hc : b.length ≤ c) (hr : ReadsOf B 0 w A b.length b) (hl : b.length ≤ 1099511627776) :
    Calls Try.prog 25 #[.slice A b.length c] w (Parsed w b) := by
  rcases badM_cases 2 92 b with ⟨hb, h⟩ | ⟨hb, h⟩ | ⟨hb, h, h0⟩ | ⟨hb, h, h0, h1⟩ | ⟨hb, h, h0, h1⟩
  · have hm := ZM_msg b (by rw [hb]; decide)
    unfold Parsed
    rw [hb, hm]
    clear hb hm
    have F1 : Hid (((w.alloc (.cells ZM 40)).alloc (.cells ZM 40)).heap[w.heap.size]? = some (.cells ZM 40 (0, 0))) := Lib.hid (blk_old (blk_new w _) _)
    have F2 : Hid (((w.alloc (.cells ZM 40)).alloc (.cells ZM 40)).heap[w.heap.size + 1]? = some (.cells ZM 40 (0, 0))) := Lib.hid (blk_new1 w _ _)
    go_enter Try.func25, Try.ntmps25
    go_wp2_with (first | ((with_reducible refine step_alloc rfl 40 rfl ZM zeroM ?_)) | ((with_reducible refine step_load (b := w.heap.size + 1) (cs := ZM) (T := 40) rfl 40 (.tmp 4) rfl rfl F2.out _ Try.underlying40 rfl ?i ?_); (case i => exact info_ZM)) | ((with_reducible refine step_store (b := w.heap.size) (vs := ZM) rfl 40 (.tmp 2) (.tmp 10) rfl rfl rfl F1.out ?s ?i ZM_one ?_); (case s => exact rfl); (case i => exact info_ZM)))
    have hload := load_block (setCells_block F1.out rfl) 40 _ Try.underlying40 rfl (info_ZM)
    refine bodyPost_ret (results_c1 rfl _ _ _ _ _ rfl hload) rfl ⟨rfl, setCells_below _ (Nat.le_refl _) _ _ _ (below_alloc (below_alloc (Below.refl _ _) _) _)⟩
  · have hm := ZM_msg b (by rw [hb]; decide)
    unfold Parsed
    rw [hb, hm]
    clear hb hm
    have F1 : Hid (((w.alloc (.cells ZM 40)).alloc (.cells ZM 40)).heap[w.heap.size]? = some (.cells ZM 40 (0, 0))) := Lib.hid (blk_old (blk_new w _) _)
    have F2 : Hid (((w.alloc (.cells ZM 40)).alloc (.cells ZM 40)).heap[w.heap.size + 1]? = some (.cells ZM 40 (0, 0))) := Lib.hid (blk_new1 w _ _)
    go_enter Try.func25, Try.ntmps25
    go_wp2_with (first | ((with_reducible refine step_alloc rfl 40 rfl ZM zeroM ?_)) | ((with_reducible refine step_load (b := w.heap.size + 1) (cs := ZM) (T := 40) rfl 40 (.tmp 4) rfl rfl F2.out _ Try.underlying40 rfl ?i ?_); (case i => exact info_ZM)) | ((with_reducible refine step_store (b := w.heap.size) (vs := ZM) rfl 40 (.tmp 2) (.tmp 15) rfl rfl rfl F1.out ?s ?i ZM_one ?_); (case s => exact rfl); (case i => exact info_ZM)))
    have hload := load_block (setCells_block F1.out rfl) 40 _ Try.underlying40 rfl (info_ZM)
    refine bodyPost_ret (results_c1 rfl _ _ _ _ _ rfl hload) rfl ⟨rfl, setCells_below _ (Nat.le_refl _) _ _ _ (below_alloc (below_alloc (Below.refl _ _) _) _)⟩
  · have hm := ZM_msg b (by rw [hb]; decide)
    unfold Parsed
    rw [hb, hm]
    clear hb hm
    obtain ⟨ad, rfl, hc0⟩ := reads_cell hr 0 (by omega)
    rw [show ad.add 0 = ad by simp [Addr.add]] at hc0
    have hd0 := fun o1 o2 => pw_cell_below (below_alloc (below_alloc (Below.refl w.heap.size w) o1) o2) hc0
    have hy0 := byte_lt (b.getD 0 0)
    have hx0 : ¬ ((b.getD 0 0).toNat : Int) = 2 := fun e => h0 (UInt8.toNat_inj.1 (by rw [show (b.getD 0 0).toNat = 2 by omega]; rfl))
    generalize (b.getD 0 0).toNat = x0 at hd0 hx0 hy0
    clear hc0
    have F1 : Hid (((w.alloc (.cells ZM 40)).alloc (.cells ZM 40)).heap[w.heap.size]? = some (.cells ZM 40 (0, 0))) := Lib.hid (blk_old (blk_new w _) _)
    have F2 : Hid (((w.alloc (.cells ZM 40)).alloc (.cells ZM 40)).heap[w.heap.size + 1]? = some (.cells ZM 40 (0, 0))) := Lib.hid (blk_new1 w _ _)
    go_enter Try.func25, Try.ntmps25
    go_wp2_with (first | ((with_reducible refine step_alloc rfl 40 rfl ZM zeroM ?_)) | ((with_reducible refine step_load (b := w.heap.size + 1) (cs := ZM) (T := 40) rfl 40 (.tmp 4) rfl rfl F2.out _ Try.underlying40 rfl ?i ?_); (case i => exact info_ZM)) | ((with_reducible refine step_store (b := w.heap.size) (vs := ZM) rfl 40 (.tmp 2) (.tmp 21) rfl rfl rfl F1.out ?s ?i ZM_one ?_); (case s => exact rfl); (case i => exact info_ZM)))
    have hload := load_block (setCells_block F1.out rfl) 40 _ Try.underlying40 rfl (info_ZM)
    refine bodyPost_ret (results_c1 rfl _ _ _ _ _ rfl hload) rfl ⟨rfl, setCells_below _ (Nat.le_refl _) _ _ _ (below_alloc (below_alloc (Below.refl _ _) _) _)⟩
  · have hm := ZM_msg b (by rw [hb]; decide)
    unfold Parsed
    rw [hb, hm]
    clear hb hm
    obtain ⟨ad, rfl, hc0⟩ := reads_cell hr 0 (by omega)
    rw [show ad.add 0 = ad by simp [Addr.add]] at hc0
    have hd0 := fun o1 o2 => pw_cell_below (below_alloc (below_alloc (Below.refl w.heap.size w) o1) o2) hc0
    have hy0 := byte_lt (b.getD 0 0)
    have hx0 : ((b.getD 0 0).toNat : Int) = 2 := by rw [h0]; rfl
    generalize (b.getD 0 0).toNat = x0 at hc0 hd0 hx0 hy0
    clear hc0 h0
    have hrd := reads_mid 1 91 (by omega) hr (by decide)
    rw [Option.map_some, add_lit ad 1 (by decide), List.take_of_length_le (by simp; omega)] at hrd
    have hT : (b.drop 1).length = 91 := by rw [List.length_drop]; omega
    have HT0 : Hid (RB ((w.alloc (.cells ZM 40)).alloc (.cells ZM 40)) (.slice (some ⟨ad.block, ad.off + 1, none⟩) 91 (c - 1)) (b.drop 1)) := Lib.hid (by
      refine ⟨_, c - 1, by rw [hT], by rw [hT]; omega, ?_⟩
      rw [hT]
      exact hrd.below (below_alloc (below_alloc (Below.refl _ _) _) _))
    have HTL : Hid ((b.drop 1).length = 91) := Lib.hid hT
    have HZ3 : Hid (¬  (((b.drop 1).drop 0).take 3).all (· == 0) = true) := Lib.hid (by rw [zero_take3 b (by omega)]; exact h1)
    clear hrd hT hr h1
    have F1' : Hid (((w.alloc (.cells ZM 40)).alloc (.cells ZM 40)).heap[w.heap.size]? = some (.cells ZM 40 (0, 0))) := Lib.hid (blk_old (blk_new w _) _)
    have F2' : Hid (((w.alloc (.cells ZM 40)).alloc (.cells ZM 40)).heap[w.heap.size + 1]? = some (.cells ZM 40 (0, 0))) := Lib.hid (blk_new1 w _ _)
    have HB' : Hid (Below w.heap.size w ((w.alloc (.cells ZM 40)).alloc (.cells ZM 40))) := Lib.hid (below_alloc (below_alloc (Below.refl _ _) _) _)
    have HS' : Hid (((w.alloc (.cells ZM 40)).alloc (.cells ZM 40)).heap.size = w.heap.size + 2) := Lib.hid (by rw [size_push, size_push])
    obtain ⟨TT, hTT⟩ : ∃ TT, b.drop 1 = TT := ⟨_, rfl⟩
    rw [hTT] at HT0 HTL HZ3
    go_enter Try.func25, Try.ntmps25
    go_wp2_with (first | ((with_reducible refine step_alloc rfl 40 rfl ZM zeroM ?_)))
    refine (new_own _ TT _ HT0.out (by rw [HTL.out]; decide)).mono ?_
    rintro e w1 ⟨g, q, rfl, hg, ht, hb⟩
    have HT := Lib.hid ht
    have HB := Lib.hid (below_comp HB'.out hb)
    have HZ := Lib.hid (blk_below F1'.out hb)
    have HM := Lib.hid (blk_below F2'.out hb)
    have HG : Hid (w.heap.size + 2 < g) := Lib.hid (by rw [HS'.out] at hg; exact hg)
    have HPB : Hid (((w.alloc (.cells ZM 40)).alloc (.cells ZM 40)).heap.size = w.heap.size + 2) := HS'
    clear ht hb hg HT0 F1' F2' HB' HS' hd0
    generalize ((w.alloc (.cells ZM 40)).alloc (.cells ZM 40)).heap.size = pb at HT HPB
    go_wp2_with fail
    refine (zeros_no g _ q TT 0 3 3 _ HT.out rfl (by rw [HTL.out]; decide) (by decide) HZ3.out).mono ?_
    rintro e w2 ⟨rfl, ht, hgr⟩
    have HB2 := Lib.hid (grown_below hgr HB.out HB.out.size (by have := HG.out; omega))
    have HZ2 := Lib.hid (blk_grown HZ.out hgr (fun e => by injection e with e; have := HG.out; omega))
    have HM2 := Lib.hid (blk_grown HM.out hgr (fun e => by injection e with e; have := HG.out; omega))
    have HT2 := Lib.hid ht
    clear ht hgr HB HZ HM HT
    go_wp2_with fail
    have g1 := range_block HM2.out
    have g2 := there_block HZ2.out
    have hu := Try.underlying40
    have hi : (Try.prog.info? 40).map (·.size) = some ZM.toList.length := by rw [Array.length_toList]; exact info_ZM
    refine wp_region_held_drew (S := fun w' => w'.rangeAt (w.heap.size + 1) 0 ZM.toList) (by kernel_rfl) g1 (fun hS => ?_)
    refine' wpAnyH_take (i := 0) (oi := _) (v := _) rfl (by kernel_rfl) (by kernel_rfl) (by kernel_rfl) (fun _ _ _ h => h) (yieldsIf_load_mid (by rfl) _ _ rfl (w.heap.size + 1) 0 rfl ZM.toList _ (fun w h => h) hu rfl hi) hS ?_
    refine' wpAnyH_take (i := 1) (oi := _) (v := .pointer (some ⟨g, 0, none⟩)) rfl (by kernel_rfl) (by kernel_rfl) (by kernel_rfl) (fun _ _ _ h => h) (Or.inl ⟨by rfl, fun w hw => by go_simp⟩) hS ?_
    refine wpAnyH_ready (rs := [2]) (by kernel_rfl) (by simp) (AllReadyH.cons rfl (fun K' hK => ?_) AllReadyH.nil)
    rw [if_pos (by rfl)]
    go_simp
    refine (fail_any g _ q TT 0 10 _ (HT2.out.below (below_drew (Below.refl _ _)))).mono ?_
    rintro e w' ⟨rfl, rfl⟩
    refine hK.out _ _ hS (fun hS2 => ?_)
    refine wpAnyH_ready (rs := [3]) (by kernel_rfl) (by simp) (AllReadyH.cons rfl (fun K'' hK2 => ?_) AllReadyH.nil)
    rw [if_pos (by rfl)]
    refine wp_store_mid _ _ _ rfl w.heap.size 0 ZM rfl rfl g2 info_ZM ZM_one ?_
    refine hK2.out _ _ (World.rangeAt_setCells_apart hS2 _ _ _ (.inl (by simp))) (fun hS3 => ?_)
    refine' wpAnyH_take (i := 4) (oi := _) (v := .int .i64 10) rfl (by kernel_rfl) (by kernel_rfl) (by kernel_rfl) (fun _ _ _ h => h) (Or.inl ⟨by rfl, fun w hw => by go_simp⟩) hS3 ?_
    refine wpAnyH_done (by kernel_rfl) ?_ _
    go_wp2
    have hload := load_block (setCells_block (show w2.drew.heap[w.heap.size]? = some _ from HZ2.out) rfl) 40 _ Try.underlying40 rfl info_ZM
    refine bodyPost_ret (results_c1 rfl _ _ _ _ _ rfl hload) rfl ⟨rfl, setCells_below _ (Nat.le_refl _) _ _ _ (below_drew HB2.out)⟩
  · have hm : msg2 2 80 b = MV [ofLe ((b.drop 4).take 4), ofLe ((b.drop 8).take 4)] (b.drop 12) := if_pos hb
    unfold Parsed
    rw [hb, hm]
    clear hb hm
    have hq1 : ofLe ((b.drop 4).take 4) < 4294967296 := by have := ofLe_lt ((b.drop 4).take 4); rw [show ((b.drop 4).take 4).length = 4 by rw [List.length_take, List.length_drop]; omega] at this; exact this
    have HQ1 : Hid (ofLe (((b.drop 1).drop 3).take 4) = ofLe ((b.drop 4).take 4)) := Lib.hid (by rw [List.drop_drop])
    have hq2 : ofLe ((b.drop 8).take 4) < 4294967296 := by have := ofLe_lt ((b.drop 8).take 4); rw [show ((b.drop 8).take 4).length = 4 by rw [List.length_take, List.length_drop]; omega] at this; exact this
    have HQ2 : Hid (ofLe (((b.drop 1).drop 7).take 4) = ofLe ((b.drop 8).take 4)) := Lib.hid (by rw [List.drop_drop])
    have HLD : Hid ((b.drop 1).drop 11 = b.drop 12) := Lib.hid (by rw [List.drop_drop])
    obtain ⟨L, hL⟩ : ∃ L, b.drop 12 = L := ⟨_, rfl⟩
    have HL : Hid (L.length = 80) := Lib.hid (by rw [← hL, List.length_drop]; omega)
    rw [hL] at HLD ⊢
    clear hL
    generalize ofLe ((b.drop 4).take 4) = q1 at HQ1 hq1 ⊢
    generalize ofLe ((b.drop 8).take 4) = q2 at HQ2 hq2 ⊢
    obtain ⟨ad, rfl, hc0⟩ := reads_cell hr 0 (by omega)
    rw [show ad.add 0 = ad by simp [Addr.add]] at hc0
    have hd0 := fun o1 o2 => pw_cell_below (below_alloc (below_alloc (Below.refl w.heap.size w) o1) o2) hc0
    have hy0 := byte_lt (b.getD 0 0)
    have hx0 : ((b.getD 0 0).toNat : Int) = 2 := by rw [h0]; rfl
    generalize (b.getD 0 0).toNat = x0 at hc0 hd0 hx0 hy0
    clear hc0 h0
    have hrd := reads_mid 1 91 (by omega) hr (by decide)
    rw [Option.map_some, add_lit ad 1 (by decide), List.take_of_length_le (by simp; omega)] at hrd
    have hT : (b.drop 1).length = 91 := by rw [List.length_drop]; omega
    have HT0 : Hid (RB ((w.alloc (.cells ZM 40)).alloc (.cells ZM 40)) (.slice (some ⟨ad.block, ad.off + 1, none⟩) 91 (c - 1)) (b.drop 1)) := Lib.hid (by
      refine ⟨_, c - 1, by rw [hT], by rw [hT]; omega, ?_⟩
      rw [hT]
      exact hrd.below (below_alloc (below_alloc (Below.refl _ _) _) _))
    have HTL : Hid ((b.drop 1).length = 91) := Lib.hid hT
    have HZ3 : Hid ( (((b.drop 1).drop 0).take 3).all (· == 0) = true) := Lib.hid (by rw [zero_take3 b (by omega)]; exact h1)
    clear hrd hT hr h1
    have F1' : Hid (((w.alloc (.cells ZM 40)).alloc (.cells ZM 40)).heap[w.heap.size]? = some (.cells ZM 40 (0, 0))) := Lib.hid (blk_old (blk_new w _) _)
    have F2' : Hid (((w.alloc (.cells ZM 40)).alloc (.cells ZM 40)).heap[w.heap.size + 1]? = some (.cells ZM 40 (0, 0))) := Lib.hid (blk_new1 w _ _)
    have HB' : Hid (Below w.heap.size w ((w.alloc (.cells ZM 40)).alloc (.cells ZM 40))) := Lib.hid (below_alloc (below_alloc (Below.refl _ _) _) _)
    have HS' : Hid (((w.alloc (.cells ZM 40)).alloc (.cells ZM 40)).heap.size = w.heap.size + 2) := Lib.hid (by rw [size_push, size_push])
    obtain ⟨TT, hTT⟩ : ∃ TT, b.drop 1 = TT := ⟨_, rfl⟩
    rw [hTT] at HT0 HTL HZ3 HLD HQ1 HQ2
    go_enter Try.func25, Try.ntmps25
    go_wp2_with (first | ((with_reducible refine step_alloc rfl 40 rfl ZM zeroM ?_)))
    refine (new_own _ TT _ HT0.out (by rw [HTL.out]; decide)).mono ?_
    rintro e w1 ⟨g, q, rfl, hg, ht, hb⟩
    have HT := Lib.hid ht
    have HB := Lib.hid (below_comp HB'.out hb)
    have HZ := Lib.hid (blk_below F1'.out hb)
    have HM := Lib.hid (blk_below F2'.out hb)
    have HG : Hid (w.heap.size + 2 < g) := Lib.hid (by rw [HS'.out] at hg; exact hg)
    have HPB : Hid (((w.alloc (.cells ZM 40)).alloc (.cells ZM 40)).heap.size = w.heap.size + 2) := HS'
    clear ht hb hg HT0 F1' F2' HB' HS' hd0
    generalize ((w.alloc (.cells ZM 40)).alloc (.cells ZM 40)).heap.size = pb at HT HPB
    go_wp2_with fail
    refine (zeros_ok g _ q TT 0 3 3 _ HT.out rfl (by rw [HTL.out]; decide) (by decide) HZ3.out).mono ?_
    rintro e w2 ⟨rfl, ht, hgr⟩
    have HB2 := Lib.hid (grown_below hgr HB.out HB.out.size (by have := HG.out; omega))
    have HZ2 := Lib.hid (blk_grown HZ.out hgr (fun e => by injection e with e; have := HG.out; omega))
    have HM2 := Lib.hid (blk_grown HM.out hgr (fun e => by injection e with e; have := HG.out; omega))
    have HT2 : Hid (Tk w2 g _ q TT 3 0) := Lib.hid ht
    clear ht hgr HB HZ HM HT HZ3
    have HPN : Hid (TT = [] ∨ (Value.slice (some ⟨pb, 0, none⟩) TT.length q).ownBlock ≠ some (w.heap.size + 1)) := Lib.hid (.inr (by simp only [Value.ownBlock]; intro e; injection e with e; have := HPB.out; omega))
    have HGN : Hid (g ≠ w.heap.size + 1) := Lib.hid (by have := HG.out; omega)
    have HM2' : Hid (w2.heap[w.heap.size + 1]? = some (.cells (MV [0, 0] (fillP L 0)) 40 (0, 0))) := Lib.hid (by have h := HM2.out; rw [ZM_eq] at h; rw [part_zero, HL.out]; exact h)
    clear HM2
    have HM2 := HM2'
    clear HM2'
    go_wp2_with fail
    refine (little_ok g _ q TT 3 4 4 _ HT2.out rfl (by decide) (by decide) (by rw [HTL.out]; decide)).mono ?_
    rintro e w3 ⟨rfl, ht, hgr⟩
    have HB3 := Lib.hid (grown_below hgr HB2.out HB2.out.size (by have := HG.out; omega))
    have HZ3 := Lib.hid (blk_grown HZ2.out hgr (fun e => by injection e with e; have := HG.out; omega))
    have HM3 := Lib.hid (blk_grown HM2.out hgr (fun e => by injection e with e; have := HG.out; omega))
    have HT3 : Hid (Tk w3 g _ q TT 7 0) := Lib.hid ht
    clear ht hgr HB2 HZ2 HM2 HT2
    rw [HQ1.out]
    have hc0 := (blk_cell HM3.out 0).trans (MV_num 0 _ _)
    have hf0 := blk_frozen HM3.out 0
    have HM4 : Hid ((w3.setCell ⟨w.heap.size + 1, 0, none⟩ (.int .u32 (q1 : Int))).heap[w.heap.size + 1]? = some (.cells (MV [q1, 0] (fillP L 0)) 40 (0, 0))) := Lib.hid (by rw [blk_set HM3.out 0 _, MV_set0])
    have HZ4 : Hid ((w3.setCell ⟨w.heap.size + 1, 0, none⟩ (.int .u32 (q1 : Int))).heap[w.heap.size]? = some (.cells ZM 40 (0, 0))) := Lib.hid (blk_far HZ3.out (by simp) _)
    have HB4 := Lib.hid (HB3.out.setCell (p := ⟨w.heap.size + 1, 0, none⟩) (Nat.le_succ _) (.int .u32 (q1 : Int)))
    have HT4 := Lib.hid (HT3.out.keep (grown_set w3 (w.heap.size + 1) 0 (.int .u32 (q1 : Int))) HGN.out HPN.out)
    clear HB3 HZ3 HM3 HT3
    go_wp2_with fail
    clear hc0 hf0
    generalize (w3.setCell ⟨w.heap.size + 1, 0, none⟩ (.int .u32 (q1 : Int))) = w4 at HM4 HZ4 HB4 HT4 ⊢
    go_wp2_with fail
    refine (little_ok g _ q TT 7 4 4 _ HT4.out rfl (by decide) (by decide) (by rw [HTL.out]; decide)).mono ?_
    rintro e w5 ⟨rfl, ht, hgr⟩
    have HB5 := Lib.hid (grown_below hgr HB4.out HB4.out.size (by have := HG.out; omega))
    have HZ5 := Lib.hid (blk_grown HZ4.out hgr (fun e => by injection e with e; have := HG.out; omega))
    have HM5 := Lib.hid (blk_grown HM4.out hgr (fun e => by injection e with e; have := HG.out; omega))
    have HT5 : Hid (Tk w5 g _ q TT 11 0) := Lib.hid ht
    clear ht hgr HB4 HZ4 HM4 HT4
    rw [HQ2.out]
    have hc1 := (blk_cell HM5.out 1).trans (MV_num1 q1 0 _ _)
    have hf1 := blk_frozen HM5.out 1
    have HM6 : Hid ((w5.setCell ⟨w.heap.size + 1, 1, none⟩ (.int .u32 (q2 : Int))).heap[w.heap.size + 1]? = some (.cells (MV [q1, q2] (fillP L 0)) 40 (0, 0))) := Lib.hid (by rw [blk_set HM5.out 1 _, MV_set1])
    have HZ6 : Hid ((w5.setCell ⟨w.heap.size + 1, 1, none⟩ (.int .u32 (q2 : Int))).heap[w.heap.size]? = some (.cells ZM 40 (0, 0))) := Lib.hid (blk_far HZ5.out (by simp) _)
    have HB6 := Lib.hid (HB5.out.setCell (p := ⟨w.heap.size + 1, 1, none⟩) (Nat.le_succ _) (.int .u32 (q2 : Int)))
    have HT6 := Lib.hid (HT5.out.keep (grown_set w5 (w.heap.size + 1) 1 (.int .u32 (q2 : Int))) HGN.out HPN.out)
    clear HB5 HZ5 HM5 HT5
    go_wp2_with fail
    clear hc1 hf1
    generalize (w5.setCell ⟨w.heap.size + 1, 1, none⟩ (.int .u32 (q2 : Int))) = w6 at HM6 HZ6 HB6 HT6 ⊢
    go_region_held3 (fun _ => True) (trivial) (first | (go_at_call 63; refine (bytes_ok g _ q TT 11 32 32 _ (HT6.out.below (below_drew (Below.refl _ _))) rfl (by rw [HTL.out]; decide) (by decide)).mono ?_; rintro e w7 ⟨v7, rfl, ho, ht, hgr⟩; have HB7 := Lib.hid (grown_below hgr (below_drew HB6.out) (by have := HB6.out.size; exact this) (by have := HG.out; omega)); have HZ7 := Lib.hid (blk_grown (show w6.drew.heap[w.heap.size]? = _ from HZ6.out) hgr (fun e => by injection e with e; have := HG.out; omega)); have HM7 := Lib.hid (blk_grown (show w6.drew.heap[w.heap.size + 1]? = _ from HM6.out) hgr (fun e => by injection e with e; have := HG.out; omega)); have HV7 := Lib.hid ho.rb; have HT7 : Hid (Tk w7 g _ q TT 43 0) := Lib.hid ht; clear ht hgr ho) | (refine step_copy_mid rfl (.tmp 40) (.tmp 42) rfl (w.heap.size + 1) 2 0 32 [q1, q2] (fillP L 0) ((TT.drop 11).take 32) 40 v7 rfl rfl rfl HM7.out HV7.out (by rw [List.length_take, List.length_drop, HTL.out]; decide) (by rw [part_length _ _ (by rw [HL.out]; decide), HL.out]; decide) (by decide) ?_; intro w8 hm1 hg1; have HM8 := Lib.hid hm1; have HB8 := Lib.hid (grown_below hg1 HB7.out HB7.out.size (Nat.le_succ _)); have HZ8 := Lib.hid (blk_grown HZ7.out hg1 (fun e => by injection e with e; omega)); have HT8 := Lib.hid (HT7.out.keep hg1 HGN.out HPN.out); clear hm1 hg1))
    have e0 : (fillP L 0).take 0 ++ (TT.drop 11).take 32 ++ (fillP L 0).drop (0 + 32) = fillP L 32 := by
      rw [show TT.drop 11 = L.drop 0 by rw [← HLD.out, List.drop_drop]]
      exact part_copy L 0 32 (by rw [HL.out]; decide)
    rw [e0] at HM8
    clear e0 HB6 HZ6 HM6 HT6 HB7 HZ7 HM7 HT7
    go_wp2_with fail
    go_region_held3 (fun _ => True) (trivial) (first | (go_at_call 63; refine (bytes_ok g _ q TT 43 16 16 _ (HT8.out.below (below_drew (Below.refl _ _))) rfl (by rw [HTL.out]; decide) (by decide)).mono ?_; rintro e w9 ⟨v9, rfl, ho, ht, hgr⟩; have HB9 := Lib.hid (grown_below hgr (below_drew HB8.out) (by have := HB8.out.size; exact this) (by have := HG.out; omega)); have HZ9 := Lib.hid (blk_grown (show w8.drew.heap[w.heap.size]? = _ from HZ8.out) hgr (fun e => by injection e with e; have := HG.out; omega)); have HM9 := Lib.hid (blk_grown (show w8.drew.heap[w.heap.size + 1]? = _ from HM8.out) hgr (fun e => by injection e with e; have := HG.out; omega)); have HV9 := Lib.hid ho.rb; have HT9 : Hid (Tk w9 g _ q TT 59 0) := Lib.hid ht; clear ht hgr ho) | (refine step_copy_mid rfl (.tmp 45) (.tmp 47) rfl (w.heap.size + 1) 34 32 16 [q1, q2] (fillP L 32) ((TT.drop 43).take 16) 40 v9 rfl rfl rfl HM9.out HV9.out (by rw [List.length_take, List.length_drop, HTL.out]; decide) (by rw [part_length _ _ (by rw [HL.out]; decide), HL.out]; decide) (by decide) ?_; intro w10 hm1 hg1; have HM10 := Lib.hid hm1; have HB10 := Lib.hid (grown_below hg1 HB9.out HB9.out.size (Nat.le_succ _)); have HZ10 := Lib.hid (blk_grown HZ9.out hg1 (fun e => by injection e with e; omega)); have HT10 := Lib.hid (HT9.out.keep hg1 HGN.out HPN.out); clear hm1 hg1))
    have e1 : (fillP L 32).take 32 ++ (TT.drop 43).take 16 ++ (fillP L 32).drop (32 + 16) = fillP L 48 := by
      rw [show TT.drop 43 = L.drop 32 by rw [← HLD.out, List.drop_drop]]
      exact part_copy L 32 16 (by rw [HL.out]; decide)
    rw [e1] at HM10
    clear e1 HB8 HZ8 HM8 HT8 HB9 HZ9 HM9 HT9
    go_wp2_with fail
    go_region_held3 (fun _ => True) (trivial) (first | (go_at_call 63; refine (bytes_ok g _ q TT 59 16 16 _ (HT10.out.below (below_drew (Below.refl _ _))) rfl (by rw [HTL.out]; decide) (by decide)).mono ?_; rintro e w11 ⟨v11, rfl, ho, ht, hgr⟩; have HB11 := Lib.hid (grown_below hgr (below_drew HB10.out) (by have := HB10.out.size; exact this) (by have := HG.out; omega)); have HZ11 := Lib.hid (blk_grown (show w10.drew.heap[w.heap.size]? = _ from HZ10.out) hgr (fun e => by injection e with e; have := HG.out; omega)); have HM11 := Lib.hid (blk_grown (show w10.drew.heap[w.heap.size + 1]? = _ from HM10.out) hgr (fun e => by injection e with e; have := HG.out; omega)); have HV11 := Lib.hid ho.rb; have HT11 : Hid (Tk w11 g _ q TT 75 0) := Lib.hid ht; clear ht hgr ho) | (refine step_copy_mid rfl (.tmp 50) (.tmp 52) rfl (w.heap.size + 1) 50 48 16 [q1, q2] (fillP L 48) ((TT.drop 59).take 16) 40 v11 rfl rfl rfl HM11.out HV11.out (by rw [List.length_take, List.length_drop, HTL.out]; decide) (by rw [part_length _ _ (by rw [HL.out]; decide), HL.out]; decide) (by decide) ?_; intro w12 hm1 hg1; have HM12 := Lib.hid hm1; have HB12 := Lib.hid (grown_below hg1 HB11.out HB11.out.size (Nat.le_succ _)); have HZ12 := Lib.hid (blk_grown HZ11.out hg1 (fun e => by injection e with e; omega)); have HT12 := Lib.hid (HT11.out.keep hg1 HGN.out HPN.out); clear hm1 hg1))
    have e2 : (fillP L 48).take 48 ++ (TT.drop 59).take 16 ++ (fillP L 48).drop (48 + 16) = fillP L 64 := by
      rw [show TT.drop 59 = L.drop 48 by rw [← HLD.out, List.drop_drop]]
      exact part_copy L 48 16 (by rw [HL.out]; decide)
    rw [e2] at HM12
    clear e2 HB10 HZ10 HM10 HT10 HB11 HZ11 HM11 HT11
    go_wp2_with fail
    go_region_held3 (fun _ => True) (trivial) (first | (go_at_call 63; refine (bytes_ok g _ q TT 75 16 16 _ (HT12.out.below (below_drew (Below.refl _ _))) rfl (by rw [HTL.out]; decide) (by decide)).mono ?_; rintro e w13 ⟨v13, rfl, ho, ht, hgr⟩; have HB13 := Lib.hid (grown_below hgr (below_drew HB12.out) (by have := HB12.out.size; exact this) (by have := HG.out; omega)); have HZ13 := Lib.hid (blk_grown (show w12.drew.heap[w.heap.size]? = _ from HZ12.out) hgr (fun e => by injection e with e; have := HG.out; omega)); have HM13 := Lib.hid (blk_grown (show w12.drew.heap[w.heap.size + 1]? = _ from HM12.out) hgr (fun e => by injection e with e; have := HG.out; omega)); have HV13 := Lib.hid ho.rb; have HT13 : Hid (Tk w13 g _ q TT 91 0) := Lib.hid ht; clear ht hgr ho) | (refine step_copy_mid rfl (.tmp 55) (.tmp 57) rfl (w.heap.size + 1) 66 64 16 [q1, q2] (fillP L 64) ((TT.drop 75).take 16) 40 v13 rfl rfl rfl HM13.out HV13.out (by rw [List.length_take, List.length_drop, HTL.out]; decide) (by rw [part_length _ _ (by rw [HL.out]; decide), HL.out]; decide) (by decide) ?_; intro w14 hm1 hg1; have HM14 := Lib.hid hm1; have HB14 := Lib.hid (grown_below hg1 HB13.out HB13.out.size (Nat.le_succ _)); have HZ14 := Lib.hid (blk_grown HZ13.out hg1 (fun e => by injection e with e; omega)); have HT14 := Lib.hid (HT13.out.keep hg1 HGN.out HPN.out); clear hm1 hg1))
    have e3 : (fillP L 64).take 64 ++ (TT.drop 75).take 16 ++ (fillP L 64).drop (64 + 16) = fillP L 80 := by
      rw [show TT.drop 75 = L.drop 64 by rw [← HLD.out, List.drop_drop]]
      exact part_copy L 64 16 (by rw [HL.out]; decide)
    rw [e3] at HM14
    clear e3 HB12 HZ12 HM12 HT12 HB13 HZ13 HM13 HT13
    rw [part_all _ _ (by rw [HL.out])] at HM14
    have F1 := HZ14
    have F2 := HM14
    have HS : Hid ((MV [q1, q2] L).size = ZM.size) := Lib.hid (by rw [MV_size, ZM_size, HL.out]; rfl)
    clear HZ14 HM14 HT14
    go_wp2_with (first | ((with_reducible refine step_load (b := w.heap.size + 1) (cs := (MV [q1, q2] L)) (T := 40) rfl 40 (.tmp 4) rfl rfl F2.out _ Try.underlying40 rfl ?i ?_); (case i => exact by rw [HS.out]; exact info_ZM)) | ((with_reducible refine step_store (b := w.heap.size) (vs := (MV [q1, q2] L)) rfl 40 (.tmp 2) (.tmp 59) rfl rfl rfl F1.out ?s ?i (MV_one _ _) ?_); (case s => exact HS.out); (case i => exact info_ZM)))
    have hload := load_block (setCells_block F1.out HS.out) 40 _ Try.underlying40 rfl (by rw [HS.out]; exact info_ZM)
    refine bodyPost_ret (results_c1 rfl _ _ _ _ _ rfl hload) rfl ⟨rfl, setCells_below _ (Nat.le_refl _) _ _ _ HB14.out⟩
end Go.Proofs.Ytnehbhhjdjiieaa.Ma
