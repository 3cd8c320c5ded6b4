/- Package answer and its reference: the message of bytes. -/
import Derived.Test.YtnehbhhjdjiieaaMa
set_option linter.unusedSimpArgs false
set_option linter.unusedVariables false
set_option maxRecDepth 100000
namespace Go.Proofs.Ytnehbhhjdjiieaa.Ma
open Go.RowKit Go.Proofs.YtnehbhhjdjiieaaW.PrintWords Go.Proofs.Ytnehbhhjdjiieaa.Bs Go.Proofs.Ytnehbhhjdjiieaa.Le Go.Proofs.Ytnehbhhjdjiieaa.Mv

/-- The zero message's cells. -/
def ZM : Array Value := (MV [0, 0] (List.replicate 80 0))
theorem ZM_eq : ZM = (MV [0, 0] (List.replicate 80 0)) := rfl
theorem zeroM (W : World) : (zeroValue 40).run Try.prog W = .ok (.agg ZM) W := zero_of (by kernel_rfl) W
theorem ZM_size : ZM.size = 82 := by rw [ZM_eq, MV_size]; rfl
theorem ZM_one : ZM.all (·.oneCell') = true := MV_one _ _
theorem infoM : (Try.prog.info? 40).map (·.size) = some 82 := by kernel_rfl
theorem info_MV (ns : List Nat) (l : List UInt8) (h : ns.length + l.length = 82) : (Try.prog.info? 40).map (·.size) = some (MV ns l).size := by rw [MV_size, h]; exact infoM
theorem bad_msg (b : List UInt8) (h : ¬ badM 2 92 b = 0) : msg2 2 80 b = (MV [0, 0] (List.replicate 80 0)) := if_neg h
/-- What parsing hands back. -/
def Parsed (w : World) (b : List UInt8) (e : Ending) (w' : World) : Prop := e = .returned (.tuple #[.agg (msg2 2 80 b), .int .i64 (badM 2 92 b)]) ∧ Below w.heap.size w w'
theorem info_ZM : (Try.prog.info? 40).map (·.size) = some ZM.size := by rw [ZM_size]; exact infoM
theorem ZM_msg (b : List UInt8) (h : ¬ badM 2 92 b = 0) : msg2 2 80 b = ZM := bad_msg b h

set_option maxHeartbeats 4000000 in
theorem refParse_any (A : Option Addr) (c : Nat) (b : List UInt8) (w : World) (hc : b.length ≤ c) (hr : ReadsOf B 0 w A b.length b) (hl : b.length ≤ 1099511627776) :
    Calls Try.prog 28 #[.slice A b.length c] w (Parsed w b) := by
  rcases badM_cases 2 92 b with ⟨hb, h⟩ | ⟨hb, h⟩ | ⟨hb, h, h0⟩ | ⟨hb, h, h0, h1⟩ | ⟨hb, h, h0, h1⟩
  · have hm := ZM_msg b (by rw [hb]; decide)
    unfold Parsed
    rw [hb, hm]
    clear hb hm
    have F1 : Hid (((w.alloc (.cells ZM 40)).alloc (.cells ZM 40)).heap[w.heap.size]? = some (.cells ZM 40 (0, 0))) := Lib.hid (blk_old (blk_new w _) _)
    have F2 : Hid (((w.alloc (.cells ZM 40)).alloc (.cells ZM 40)).heap[w.heap.size + 1]? = some (.cells ZM 40 (0, 0))) := Lib.hid (blk_new1 w _ _)
    go_enter Try.func28, Try.ntmps28
    go_wp2_with (first | ((with_reducible refine step_alloc rfl 40 rfl ZM zeroM ?_)) | ((with_reducible refine step_load (b := w.heap.size + 1) (cs := ZM) (T := 40) rfl 40 (.tmp 4) rfl rfl F2.out _ Try.underlying40 rfl ?i ?_); (case i => exact info_ZM)) | ((with_reducible refine step_store (b := w.heap.size) (vs := ZM) rfl 40 (.tmp 2) (.tmp 12) rfl rfl rfl F1.out ?s ?i ZM_one ?_); (case s => exact rfl); (case i => exact info_ZM)))
    have hload := load_block (setCells_block F1.out rfl) 40 _ Try.underlying40 rfl (info_ZM)
    refine bodyPost_ret (results_c1 rfl _ _ _ _ _ rfl hload) rfl ⟨rfl, setCells_below _ (Nat.le_refl _) _ _ _ (below_alloc (below_alloc (Below.refl _ _) _) _)⟩
  · have hm := ZM_msg b (by rw [hb]; decide)
    unfold Parsed
    rw [hb, hm]
    clear hb hm
    have F1 : Hid (((w.alloc (.cells ZM 40)).alloc (.cells ZM 40)).heap[w.heap.size]? = some (.cells ZM 40 (0, 0))) := Lib.hid (blk_old (blk_new w _) _)
    have F2 : Hid (((w.alloc (.cells ZM 40)).alloc (.cells ZM 40)).heap[w.heap.size + 1]? = some (.cells ZM 40 (0, 0))) := Lib.hid (blk_new1 w _ _)
    go_enter Try.func28, Try.ntmps28
    go_wp2_with (first | ((with_reducible refine step_alloc rfl 40 rfl ZM zeroM ?_)) | ((with_reducible refine step_load (b := w.heap.size + 1) (cs := ZM) (T := 40) rfl 40 (.tmp 4) rfl rfl F2.out _ Try.underlying40 rfl ?i ?_); (case i => exact info_ZM)) | ((with_reducible refine step_store (b := w.heap.size) (vs := ZM) rfl 40 (.tmp 2) (.tmp 16) rfl rfl rfl F1.out ?s ?i ZM_one ?_); (case s => exact rfl); (case i => exact info_ZM)))
    have hload := load_block (setCells_block F1.out rfl) 40 _ Try.underlying40 rfl (info_ZM)
    refine bodyPost_ret (results_c1 rfl _ _ _ _ _ rfl hload) rfl ⟨rfl, setCells_below _ (Nat.le_refl _) _ _ _ (below_alloc (below_alloc (Below.refl _ _) _) _)⟩
  · have hm := ZM_msg b (by rw [hb]; decide)
    unfold Parsed
    rw [hb, hm]
    clear hb hm
    obtain ⟨ad, rfl, hc0⟩ := reads_cell hr 0 (by omega)
    rw [show ad.add 0 = ad by simp [Addr.add]] at hc0
    have hd0 := fun o1 o2 => pw_cell_below (below_alloc (below_alloc (Below.refl w.heap.size w) o1) o2) hc0
    have hy0 := byte_lt (b.getD 0 0)
    have hx0 : ¬ ((b.getD 0 0).toNat : Int) = 2 := fun e => h0 (UInt8.toNat_inj.1 (by rw [show (b.getD 0 0).toNat = 2 by omega]; rfl))
    generalize (b.getD 0 0).toNat = x0 at hd0 hx0 hy0
    clear hc0
    have F1 : Hid (((w.alloc (.cells ZM 40)).alloc (.cells ZM 40)).heap[w.heap.size]? = some (.cells ZM 40 (0, 0))) := Lib.hid (blk_old (blk_new w _) _)
    have F2 : Hid (((w.alloc (.cells ZM 40)).alloc (.cells ZM 40)).heap[w.heap.size + 1]? = some (.cells ZM 40 (0, 0))) := Lib.hid (blk_new1 w _ _)
    go_enter Try.func28, Try.ntmps28
    go_wp2_with (first | ((with_reducible refine step_alloc rfl 40 rfl ZM zeroM ?_)) | ((with_reducible refine step_load (b := w.heap.size + 1) (cs := ZM) (T := 40) rfl 40 (.tmp 4) rfl rfl F2.out _ Try.underlying40 rfl ?i ?_); (case i => exact info_ZM)) | ((with_reducible refine step_store (b := w.heap.size) (vs := ZM) rfl 40 (.tmp 2) (.tmp 21) rfl rfl rfl F1.out ?s ?i ZM_one ?_); (case s => exact rfl); (case i => exact info_ZM)))
    have hload := load_block (setCells_block F1.out rfl) 40 _ Try.underlying40 rfl (info_ZM)
    refine bodyPost_ret (results_c1 rfl _ _ _ _ _ rfl hload) rfl ⟨rfl, setCells_below _ (Nat.le_refl _) _ _ _ (below_alloc (below_alloc (Below.refl _ _) _) _)⟩
  · have hm := ZM_msg b (by rw [hb]; decide)
    unfold Parsed
    rw [hb, hm]
    clear hb hm
    obtain ⟨ad, rfl, hc0⟩ := reads_cell hr 0 (by omega)
    rw [show ad.add 0 = ad by simp [Addr.add]] at hc0
    have hd0 := fun o1 o2 => pw_cell_below (below_alloc (below_alloc (Below.refl w.heap.size w) o1) o2) hc0
    have hy0 := byte_lt (b.getD 0 0)
    obtain ⟨ad1, e1, hc1⟩ := reads_cell hr 1 (by omega)
    injection e1 with e1
    subst e1
    rw [add_lit ad 1 (by decide)] at hc1
    have hd1 := fun o1 o2 => pw_cell_below (below_alloc (below_alloc (Below.refl w.heap.size w) o1) o2) hc1
    have hy1 := byte_lt (b.getD 1 0)
    obtain ⟨ad2, e2, hc2⟩ := reads_cell hr 2 (by omega)
    injection e2 with e2
    subst e2
    rw [add_lit ad 2 (by decide)] at hc2
    have hd2 := fun o1 o2 => pw_cell_below (below_alloc (below_alloc (Below.refl w.heap.size w) o1) o2) hc2
    have hy2 := byte_lt (b.getD 2 0)
    obtain ⟨ad3, e3, hc3⟩ := reads_cell hr 3 (by omega)
    injection e3 with e3
    subst e3
    rw [add_lit ad 3 (by decide)] at hc3
    have hd3 := fun o1 o2 => pw_cell_below (below_alloc (below_alloc (Below.refl w.heap.size w) o1) o2) hc3
    have hy3 := byte_lt (b.getD 3 0)
    have hx0 : ((b.getD 0 0).toNat : Int) = 2 := by rw [h0]; rfl
    have hx : ¬ (((b.getD 1 0).toNat : Int) = 0 ∧ ((b.getD 2 0).toNat : Int) = 0 ∧ ((b.getD 3 0).toNat : Int) = 0) := fun e => h1 ⟨UInt8.toNat_inj.1 (by show _ = 0; omega), UInt8.toNat_inj.1 (by show _ = 0; omega), UInt8.toNat_inj.1 (by show _ = 0; omega)⟩
    generalize (b.getD 0 0).toNat = x0 at hc0 hd0 hx0 hy0
    generalize (b.getD 1 0).toNat = x1 at hc1 hd1 hx hy1
    generalize (b.getD 2 0).toNat = x2 at hc2 hd2 hx hy2
    generalize (b.getD 3 0).toNat = x3 at hc3 hd3 hx hy3
    clear hc0 hc1 hc2 hc3
    have F1 : Hid (((w.alloc (.cells ZM 40)).alloc (.cells ZM 40)).heap[w.heap.size]? = some (.cells ZM 40 (0, 0))) := Lib.hid (blk_old (blk_new w _) _)
    have F2 : Hid (((w.alloc (.cells ZM 40)).alloc (.cells ZM 40)).heap[w.heap.size + 1]? = some (.cells ZM 40 (0, 0))) := Lib.hid (blk_new1 w _ _)
    have h3 : ¬ (x1 : Int) = 0 ∨ ((x1 : Int) = 0 ∧ ¬ (x2 : Int) = 0) ∨ ((x1 : Int) = 0 ∧ (x2 : Int) = 0 ∧ ¬ (x3 : Int) = 0) := by omega
    clear hx
    rcases h3 with h3 | ⟨h3, h4⟩ | ⟨h3, h4, h5⟩
    · go_enter Try.func28, Try.ntmps28
      go_wp2_with (first | ((with_reducible refine step_alloc rfl 40 rfl ZM zeroM ?_)) | ((with_reducible refine step_load (b := w.heap.size + 1) (cs := ZM) (T := 40) rfl 40 (.tmp 4) rfl rfl F2.out _ Try.underlying40 rfl ?i ?_); (case i => exact info_ZM)) | ((with_reducible refine step_store (b := w.heap.size) (vs := ZM) rfl 40 (.tmp 2) (.tmp 38) rfl rfl rfl F1.out ?s ?i ZM_one ?_); (case s => exact rfl); (case i => exact info_ZM)))
      have hload := load_block (setCells_block F1.out rfl) 40 _ Try.underlying40 rfl (info_ZM)
      refine bodyPost_ret (results_c1 rfl _ _ _ _ _ rfl hload) rfl ⟨rfl, setCells_below _ (Nat.le_refl _) _ _ _ (below_alloc (below_alloc (Below.refl _ _) _) _)⟩
    · go_enter Try.func28, Try.ntmps28
      go_wp2_with (first | ((with_reducible refine step_alloc rfl 40 rfl ZM zeroM ?_)) | ((with_reducible refine step_load (b := w.heap.size + 1) (cs := ZM) (T := 40) rfl 40 (.tmp 4) rfl rfl F2.out _ Try.underlying40 rfl ?i ?_); (case i => exact info_ZM)) | ((with_reducible refine step_store (b := w.heap.size) (vs := ZM) rfl 40 (.tmp 2) (.tmp 38) rfl rfl rfl F1.out ?s ?i ZM_one ?_); (case s => exact rfl); (case i => exact info_ZM)))
      have hload := load_block (setCells_block F1.out rfl) 40 _ Try.underlying40 rfl (info_ZM)
      refine bodyPost_ret (results_c1 rfl _ _ _ _ _ rfl hload) rfl ⟨rfl, setCells_below _ (Nat.le_refl _) _ _ _ (below_alloc (below_alloc (Below.refl _ _) _) _)⟩
    · go_enter Try.func28, Try.ntmps28
      go_wp2_with (first | ((with_reducible refine step_alloc rfl 40 rfl ZM zeroM ?_)) | ((with_reducible refine step_load (b := w.heap.size + 1) (cs := ZM) (T := 40) rfl 40 (.tmp 4) rfl rfl F2.out _ Try.underlying40 rfl ?i ?_); (case i => exact info_ZM)) | ((with_reducible refine step_store (b := w.heap.size) (vs := ZM) rfl 40 (.tmp 2) (.tmp 38) rfl rfl rfl F1.out ?s ?i ZM_one ?_); (case s => exact rfl); (case i => exact info_ZM)))
      have hload := load_block (setCells_block F1.out rfl) 40 _ Try.underlying40 rfl (info_ZM)
      refine bodyPost_ret (results_c1 rfl _ _ _ _ _ rfl hload) rfl ⟨rfl, setCells_below _ (Nat.le_refl _) _ _ _ (below_alloc (below_alloc (Below.refl _ _) _) _)⟩
  · have hm : msg2 2 80 b = MV [ofLe ((b.drop 4).take 4), ofLe ((b.drop 8).take 4)] (b.drop 12) := if_pos hb
    unfold Parsed
    rw [hb, hm]
    clear hb hm
    obtain ⟨ad, rfl, hc0⟩ := reads_cell hr 0 (by omega)
    rw [show ad.add 0 = ad by simp [Addr.add]] at hc0
    have hd0 := fun o1 o2 => pw_cell_below (below_alloc (below_alloc (Below.refl w.heap.size w) o1) o2) hc0
    have hy0 := byte_lt (b.getD 0 0)
    obtain ⟨ad1, e1, hc1⟩ := reads_cell hr 1 (by omega)
    injection e1 with e1
    subst e1
    rw [add_lit ad 1 (by decide)] at hc1
    have hd1 := fun o1 o2 => pw_cell_below (below_alloc (below_alloc (Below.refl w.heap.size w) o1) o2) hc1
    have hy1 := byte_lt (b.getD 1 0)
    obtain ⟨ad2, e2, hc2⟩ := reads_cell hr 2 (by omega)
    injection e2 with e2
    subst e2
    rw [add_lit ad 2 (by decide)] at hc2
    have hd2 := fun o1 o2 => pw_cell_below (below_alloc (below_alloc (Below.refl w.heap.size w) o1) o2) hc2
    have hy2 := byte_lt (b.getD 2 0)
    obtain ⟨ad3, e3, hc3⟩ := reads_cell hr 3 (by omega)
    injection e3 with e3
    subst e3
    rw [add_lit ad 3 (by decide)] at hc3
    have hd3 := fun o1 o2 => pw_cell_below (below_alloc (below_alloc (Below.refl w.heap.size w) o1) o2) hc3
    have hy3 := byte_lt (b.getD 3 0)
    obtain ⟨h1, h2, h3⟩ := h1
    have hx0 : ((b.getD 0 0).toNat : Int) = 2 := by rw [h0]; rfl
    have hx1 : ((b.getD 1 0).toNat : Int) = 0 := by rw [h1]; rfl
    have hx2 : ((b.getD 2 0).toNat : Int) = 0 := by rw [h2]; rfl
    have hx3 : ((b.getD 3 0).toNat : Int) = 0 := by rw [h3]; rfl
    generalize (b.getD 0 0).toNat = x0 at hc0 hd0 hx0 hy0
    generalize (b.getD 1 0).toNat = x1 at hc1 hd1 hx1 hy1
    generalize (b.getD 2 0).toNat = x2 at hc2 hd2 hx2 hy2
    generalize (b.getD 3 0).toNat = x3 at hc3 hd3 hx3 hy3
    clear hc0 hc1 hc2 hc3 h0 h1 h2 h3
    have HR := Lib.hid hr
    have hrd1 := reads_mid 4 4 (by omega) hr (by decide)
    rw [Option.map_some, add_lit ad 4 (by decide)] at hrd1
    have hl1 : ((b.drop 4).take 4).length = 4 := by rw [List.length_take, List.length_drop]; omega
    have HD1 : ∀ W : World, Below w.heap.size w W → RB W (.slice (some ⟨ad.block, ad.off + 4, none⟩) 4 (c - 4)) ((b.drop 4).take 4) := fun W hb => by
      refine ⟨_, c - 4, by rw [hl1], by rw [hl1]; omega, ?_⟩
      rw [hl1]
      exact hrd1.below hb
    have hq1 : ofLe ((b.drop 4).take 4) < 4294967296 := by have := ofLe_lt ((b.drop 4).take 4); rw [hl1] at this; exact this
    have HG1 := Lib.hid (fun W (hb : Below w.heap.size w W) => En.get_any _ _ W (HD1 W hb) (by rw [hl1]; decide))
    clear HD1 hrd1 hl1
    have hrd2 := reads_mid 8 4 (by omega) hr (by decide)
    rw [Option.map_some, add_lit ad 8 (by decide)] at hrd2
    have hl2 : ((b.drop 8).take 4).length = 4 := by rw [List.length_take, List.length_drop]; omega
    have HD2 : ∀ W : World, Below w.heap.size w W → RB W (.slice (some ⟨ad.block, ad.off + 8, none⟩) 4 (c - 8)) ((b.drop 8).take 4) := fun W hb => by
      refine ⟨_, c - 8, by rw [hl2], by rw [hl2]; omega, ?_⟩
      rw [hl2]
      exact hrd2.below hb
    have hq2 : ofLe ((b.drop 8).take 4) < 4294967296 := by have := ofLe_lt ((b.drop 8).take 4); rw [hl2] at this; exact this
    have HG2 := Lib.hid (fun W (hb : Below w.heap.size w W) => En.get_any _ _ W (HD2 W hb) (by rw [hl2]; decide))
    clear HD2 hrd2 hl2
    generalize ofLe ((b.drop 4).take 4) = q1 at HG1 hq1 ⊢
    generalize ofLe ((b.drop 8).take 4) = q2 at HG2 hq2 ⊢
    obtain ⟨L, hL⟩ : ∃ L, b.drop 12 = L := ⟨_, rfl⟩
    have HL : Hid (L.length = 80) := Lib.hid (by rw [← hL, List.length_drop]; omega)
    have HLB : Hid (∀ k, k < 80 → b.getD (12 + k) 0 = L.getD k 0) := Lib.hid (fun k _ => by rw [← hL]; simp [List.getD_eq_getElem?_getD, List.getElem?_drop])
    rw [hL]
    clear hr hL
    have hz0 : ZM[0]? = some (.int .u32 0) := MV_num 0 _ _
    have hz1 : ∀ v, (ZM.setIfInBounds 0 v)[1]? = some (.int .u32 0) := fun v => by rw [Array.getElem?_setIfInBounds_ne (by decide)]; exact MV_num1 0 0 _ _
    go_enter Try.func28, Try.ntmps28
    go_wp2_with (first | ((with_reducible refine step_alloc rfl 40 rfl ZM zeroM ?_)))
    refine (HG1.out _ (below_alloc (below_alloc (Below.refl _ _) _) _)).mono ?_
    rintro e w' ⟨rfl, rfl⟩
    go_wp2_with fail
    refine (HG2.out _ (below_alloc (below_alloc (Below.refl _ _) _) _)).mono ?_
    rintro e w' ⟨rfl, rfl⟩
    go_wp2_with fail
    have HM : Hid (((w.alloc (.cells ZM 40)).alloc (.cells ((ZM.setIfInBounds 0 (.int .u32 (q1 : Int))).setIfInBounds 1 (.int .u32 (q2 : Int))) 40)).heap[w.heap.size + 1]? = some (.cells (MV [q1, q2] (fillP L 0)) 40 (0, 0))) := Lib.hid (by
      have e : ((ZM.setIfInBounds 0 (.int .u32 (q1 : Int))).setIfInBounds 1 (.int .u32 (q2 : Int))) = MV [q1, q2] (fillP L 0) := by rw [ZM_eq, MV_set0, MV_set1, part_zero, HL.out]
      rw [← e]; exact blk_new1 w _ _)
    have HZ : Hid (((w.alloc (.cells ZM 40)).alloc (.cells ((ZM.setIfInBounds 0 (.int .u32 (q1 : Int))).setIfInBounds 1 (.int .u32 (q2 : Int))) 40)).heap[w.heap.size]? = some (.cells ZM 40 (0, 0))) := Lib.hid (blk_old (blk_new w _) _)
    have HB : Hid (Below w.heap.size w ((w.alloc (.cells ZM 40)).alloc (.cells ((ZM.setIfInBounds 0 (.int .u32 (q1 : Int))).setIfInBounds 1 (.int .u32 (q2 : Int))) 40))) := Lib.hid (below_alloc (below_alloc (Below.refl _ _) _) _)
    generalize ((w.alloc (.cells ZM 40)).alloc (.cells ((ZM.setIfInBounds 0 (.int .u32 (q1 : Int))).setIfInBounds 1 (.int .u32 (q2 : Int))) 40)) = wx at HM HZ HB ⊢
    clear hz0
    go_loopw [5] (fun v5 wr => ∃ i : Nat, i ≤ 32 ∧ v5 = .int .i64 i ∧ Hid (wr.heap[w.heap.size + 1]? = some (.cells (MV [q1, q2] (fillP L (0 + i))) 40 (0, 0))) ∧ Hid (wr.heap[w.heap.size]? = some (.cells ZM 40 (0, 0))) ∧ Hid (Below w.heap.size w wr)) (fun v5 _ => 32 - (intOf v5).toNat)
    case atStart => exact ⟨0, Nat.zero_le _, rfl, HM, HZ, HB⟩
    case round =>
      obtain ⟨i, hi, rfl, HM, HZ, HB⟩ := hrel
      by_cases hlt : i < 32
      · have hsrc : wr.cell? (ad.add (12 + i)) = some (.int .u8 ((L.getD (0 + i) 0).toNat : Int)) := by
          obtain ⟨ad2, e2, h2⟩ := reads_cell (HR.out.below HB.out) (12 + i) (by omega)
          injection e2 with e2
          subst e2
          rw [show b.getD (12 + i) 0 = L.getD (0 + i) 0 by rw [show 12 + i = 12 + (0 + i) by omega]; exact HLB.out _ (by omega)] at h2
          exact h2
        have hdst := (blk_cell HM.out (2 + i)).trans (MV_at [q1, q2] (fillP L (0 + i)) (2 + i) (0 + i) (by (try simp only [List.length_cons, List.length_nil]); omega) (by rw [part_length _ _ (by have := HL.out; omega), HL.out]; omega))
        have hfr := blk_frozen HM.out (2 + i)
        have hby := byte_lt (L.getD (0 + i) 0)
        have HM2 : Hid ((wr.setCell ⟨w.heap.size + 1, 2 + i, none⟩ (.int .u8 ((L.getD (0 + i) 0).toNat : Int))).heap[w.heap.size + 1]? = some (.cells (MV [q1, q2] (fillP L (0 + (i + 1)))) 40 (0, 0))) := Lib.hid (by
          rw [blk_set HM.out (2 + i) _, show 2 + i = [q1, q2].length + (0 + i) by (try simp only [List.length_cons, List.length_nil]); omega, MV_setb, part_set L _ (by have := HL.out; omega)]
          rfl)
        have HZ2 : Hid ((wr.setCell ⟨w.heap.size + 1, 2 + i, none⟩ (.int .u8 ((L.getD (0 + i) 0).toNat : Int))).heap[w.heap.size]? = some (.cells ZM 40 (0, 0))) := Lib.hid (blk_far HZ.out (by simp) _)
        have HB2 := Lib.hid (HB.out.setCell (p := ⟨w.heap.size + 1, 2 + i, none⟩) (Nat.le_succ _) (.int .u8 ((L.getD (0 + i) 0).toNat : Int)))
        generalize (L.getD (0 + i) 0).toNat = x at hsrc hby HM2 HZ2 HB2
        go_wp2
        go_roundw
        case rel => exact ⟨i + 1, by omega, by go_num, HM2, HZ2, HB2⟩
        case measure => (simp [intOf]) <;> omega
      · have hi0 : i = 32 := by omega
        rw [hi0] at HM
        clear hi0
        go_wp2
        go_loopw [6] (fun v6 wr => ∃ i : Nat, i ≤ 16 ∧ v6 = .int .i64 i ∧ Hid (wr.heap[w.heap.size + 1]? = some (.cells (MV [q1, q2] (fillP L (32 + i))) 40 (0, 0))) ∧ Hid (wr.heap[w.heap.size]? = some (.cells ZM 40 (0, 0))) ∧ Hid (Below w.heap.size w wr)) (fun v6 _ => 16 - (intOf v6).toNat)
        case atStart => exact ⟨0, Nat.zero_le _, rfl, HM, HZ, HB⟩
        case round =>
          obtain ⟨i, hi, rfl, HM, HZ, HB⟩ := hrel
          by_cases hlt : i < 16
          · have hsrc : wr.cell? (ad.add (44 + i)) = some (.int .u8 ((L.getD (32 + i) 0).toNat : Int)) := by
              obtain ⟨ad2, e2, h2⟩ := reads_cell (HR.out.below HB.out) (44 + i) (by omega)
              injection e2 with e2
              subst e2
              rw [show b.getD (44 + i) 0 = L.getD (32 + i) 0 by rw [show 44 + i = 12 + (32 + i) by omega]; exact HLB.out _ (by omega)] at h2
              exact h2
            have hdst := (blk_cell HM.out (34 + i)).trans (MV_at [q1, q2] (fillP L (32 + i)) (34 + i) (32 + i) (by (try simp only [List.length_cons, List.length_nil]); omega) (by rw [part_length _ _ (by have := HL.out; omega), HL.out]; omega))
            have hfr := blk_frozen HM.out (34 + i)
            have hby := byte_lt (L.getD (32 + i) 0)
            have HM2 : Hid ((wr.setCell ⟨w.heap.size + 1, 34 + i, none⟩ (.int .u8 ((L.getD (32 + i) 0).toNat : Int))).heap[w.heap.size + 1]? = some (.cells (MV [q1, q2] (fillP L (32 + (i + 1)))) 40 (0, 0))) := Lib.hid (by
              rw [blk_set HM.out (34 + i) _, show 34 + i = [q1, q2].length + (32 + i) by (try simp only [List.length_cons, List.length_nil]); omega, MV_setb, part_set L _ (by have := HL.out; omega)]
              rfl)
            have HZ2 : Hid ((wr.setCell ⟨w.heap.size + 1, 34 + i, none⟩ (.int .u8 ((L.getD (32 + i) 0).toNat : Int))).heap[w.heap.size]? = some (.cells ZM 40 (0, 0))) := Lib.hid (blk_far HZ.out (by simp) _)
            have HB2 := Lib.hid (HB.out.setCell (p := ⟨w.heap.size + 1, 34 + i, none⟩) (Nat.le_succ _) (.int .u8 ((L.getD (32 + i) 0).toNat : Int)))
            generalize (L.getD (32 + i) 0).toNat = x at hsrc hby HM2 HZ2 HB2
            go_wp2
            go_roundw
            case rel => exact ⟨i + 1, by omega, by go_num, HM2, HZ2, HB2⟩
            case measure => (simp [intOf]) <;> omega
          · have hi1 : i = 16 := by omega
            rw [hi1] at HM
            clear hi1
            go_wp2
            go_loopw [7] (fun v7 wr => ∃ i : Nat, i ≤ 16 ∧ v7 = .int .i64 i ∧ Hid (wr.heap[w.heap.size + 1]? = some (.cells (MV [q1, q2] (fillP L (48 + i))) 40 (0, 0))) ∧ Hid (wr.heap[w.heap.size]? = some (.cells ZM 40 (0, 0))) ∧ Hid (Below w.heap.size w wr)) (fun v7 _ => 16 - (intOf v7).toNat)
            case atStart => exact ⟨0, Nat.zero_le _, rfl, HM, HZ, HB⟩
            case round =>
              obtain ⟨i, hi, rfl, HM, HZ, HB⟩ := hrel
              by_cases hlt : i < 16
              · have hsrc : wr.cell? (ad.add (60 + i)) = some (.int .u8 ((L.getD (48 + i) 0).toNat : Int)) := by
                  obtain ⟨ad2, e2, h2⟩ := reads_cell (HR.out.below HB.out) (60 + i) (by omega)
                  injection e2 with e2
                  subst e2
                  rw [show b.getD (60 + i) 0 = L.getD (48 + i) 0 by rw [show 60 + i = 12 + (48 + i) by omega]; exact HLB.out _ (by omega)] at h2
                  exact h2
                have hdst := (blk_cell HM.out (50 + i)).trans (MV_at [q1, q2] (fillP L (48 + i)) (50 + i) (48 + i) (by (try simp only [List.length_cons, List.length_nil]); omega) (by rw [part_length _ _ (by have := HL.out; omega), HL.out]; omega))
                have hfr := blk_frozen HM.out (50 + i)
                have hby := byte_lt (L.getD (48 + i) 0)
                have HM2 : Hid ((wr.setCell ⟨w.heap.size + 1, 50 + i, none⟩ (.int .u8 ((L.getD (48 + i) 0).toNat : Int))).heap[w.heap.size + 1]? = some (.cells (MV [q1, q2] (fillP L (48 + (i + 1)))) 40 (0, 0))) := Lib.hid (by
                  rw [blk_set HM.out (50 + i) _, show 50 + i = [q1, q2].length + (48 + i) by (try simp only [List.length_cons, List.length_nil]); omega, MV_setb, part_set L _ (by have := HL.out; omega)]
                  rfl)
                have HZ2 : Hid ((wr.setCell ⟨w.heap.size + 1, 50 + i, none⟩ (.int .u8 ((L.getD (48 + i) 0).toNat : Int))).heap[w.heap.size]? = some (.cells ZM 40 (0, 0))) := Lib.hid (blk_far HZ.out (by simp) _)
                have HB2 := Lib.hid (HB.out.setCell (p := ⟨w.heap.size + 1, 50 + i, none⟩) (Nat.le_succ _) (.int .u8 ((L.getD (48 + i) 0).toNat : Int)))
                generalize (L.getD (48 + i) 0).toNat = x at hsrc hby HM2 HZ2 HB2
                go_wp2
                go_roundw
                case rel => exact ⟨i + 1, by omega, by go_num, HM2, HZ2, HB2⟩
                case measure => (simp [intOf]) <;> omega
              · have hi2 : i = 16 := by omega
                rw [hi2] at HM
                clear hi2
                go_wp2
                go_loopw [8] (fun v8 wr => ∃ i : Nat, i ≤ 16 ∧ v8 = .int .i64 i ∧ Hid (wr.heap[w.heap.size + 1]? = some (.cells (MV [q1, q2] (fillP L (64 + i))) 40 (0, 0))) ∧ Hid (wr.heap[w.heap.size]? = some (.cells ZM 40 (0, 0))) ∧ Hid (Below w.heap.size w wr)) (fun v8 _ => 16 - (intOf v8).toNat)
                case atStart => exact ⟨0, Nat.zero_le _, rfl, HM, HZ, HB⟩
                case round =>
                  obtain ⟨i, hi, rfl, HM, HZ, HB⟩ := hrel
                  by_cases hlt : i < 16
                  · have hsrc : wr.cell? (ad.add (76 + i)) = some (.int .u8 ((L.getD (64 + i) 0).toNat : Int)) := by
                      obtain ⟨ad2, e2, h2⟩ := reads_cell (HR.out.below HB.out) (76 + i) (by omega)
                      injection e2 with e2
                      subst e2
                      rw [show b.getD (76 + i) 0 = L.getD (64 + i) 0 by rw [show 76 + i = 12 + (64 + i) by omega]; exact HLB.out _ (by omega)] at h2
                      exact h2
                    have hdst := (blk_cell HM.out (66 + i)).trans (MV_at [q1, q2] (fillP L (64 + i)) (66 + i) (64 + i) (by (try simp only [List.length_cons, List.length_nil]); omega) (by rw [part_length _ _ (by have := HL.out; omega), HL.out]; omega))
                    have hfr := blk_frozen HM.out (66 + i)
                    have hby := byte_lt (L.getD (64 + i) 0)
                    have HM2 : Hid ((wr.setCell ⟨w.heap.size + 1, 66 + i, none⟩ (.int .u8 ((L.getD (64 + i) 0).toNat : Int))).heap[w.heap.size + 1]? = some (.cells (MV [q1, q2] (fillP L (64 + (i + 1)))) 40 (0, 0))) := Lib.hid (by
                      rw [blk_set HM.out (66 + i) _, show 66 + i = [q1, q2].length + (64 + i) by (try simp only [List.length_cons, List.length_nil]); omega, MV_setb, part_set L _ (by have := HL.out; omega)]
                      rfl)
                    have HZ2 : Hid ((wr.setCell ⟨w.heap.size + 1, 66 + i, none⟩ (.int .u8 ((L.getD (64 + i) 0).toNat : Int))).heap[w.heap.size]? = some (.cells ZM 40 (0, 0))) := Lib.hid (blk_far HZ.out (by simp) _)
                    have HB2 := Lib.hid (HB.out.setCell (p := ⟨w.heap.size + 1, 66 + i, none⟩) (Nat.le_succ _) (.int .u8 ((L.getD (64 + i) 0).toNat : Int)))
                    generalize (L.getD (64 + i) 0).toNat = x at hsrc hby HM2 HZ2 HB2
                    go_wp2
                    go_roundw
                    case rel => exact ⟨i + 1, by omega, by go_num, HM2, HZ2, HB2⟩
                    case measure => (simp [intOf]) <;> omega
                  · have hi3 : i = 16 := by omega
                    rw [hi3, part_all _ _ (by rw [HL.out])] at HM
                    clear hi3
                    have F1 := HZ
                    have F2 := HM
                    have HS : Hid ((MV [q1, q2] L).size = ZM.size) := Lib.hid (by rw [MV_size, ZM_size, HL.out]; rfl)
                    clear HZ HM
                    go_wp2_with (first | ((with_reducible refine step_load (b := w.heap.size + 1) (cs := (MV [q1, q2] L)) (T := 40) rfl 40 (.tmp 4) rfl rfl F2.out _ Try.underlying40 rfl ?i ?_); (case i => exact by rw [HS.out]; exact info_ZM)) | ((with_reducible refine step_store (b := w.heap.size) (vs := (MV [q1, q2] L)) rfl 40 (.tmp 2) (.tmp 97) rfl rfl rfl F1.out ?s ?i (MV_one _ _) ?_); (case s => exact HS.out); (case i => exact info_ZM)))
                    have hload := load_block (setCells_block F1.out HS.out) 40 _ Try.underlying40 rfl (by rw [HS.out]; exact info_ZM)
                    refine bodyPost_ret (results_c1 rfl _ _ _ _ _ rfl hload) rfl ⟨rfl, setCells_below _ (Nat.le_refl _) _ _ _ HB.out⟩
end Go.Proofs.Ytnehbhhjdjiieaa.Ma
