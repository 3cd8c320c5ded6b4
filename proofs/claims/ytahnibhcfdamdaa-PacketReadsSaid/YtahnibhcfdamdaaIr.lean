/- The reference's head of bytes, of family 6. -/
import Derived.Test.YtahnibhcfdamdaaIs
set_option linter.unusedSimpArgs false
set_option linter.unusedVariables false
set_option maxRecDepth 100000
namespace Go.Proofs.Ytahnibhcfdamdaa.Is
open Go.RowKit Go.Proofs.YtahnibhcfdamdaaW.PrintWords Go.Proofs.Ytahnibhcfdamdaa.Bs Go.Proofs.Ytahnibhcfdamdaa.Av Go.Proofs.Ytahnibhcfdamdaa.Ad Go.Proofs.Ytahnibhcfdamdaa.Hd Go.Proofs.Ytahnibhcfdamdaa.Mm Go.Proofs.Ytahnibhcfdamdaa.Le Go.Proofs.Ytahnibhcfdamdaa.Ip Go.Proofs.Ytahnibhcfdamdaa.En

set_option maxHeartbeats 1000000 in
theorem refParse6_any (v : Value) (l : List UInt8) (w0 : World) (hr : RB w0 v l) :
    Calls Try.prog 27 #[v] w0 fun e w' => e = .returned (.tuple #[.agg (head6 l), .int .i64 (bad6 l : Nat)]) ∧ Below w0.heap.size w0 w' := by
  have hl := hr.len
  have HR := Lib.hid hr
  obtain ⟨A, c, rfl, hc, hrr⟩ := hr
  clear hrr
  have HM := Lib.hid (Mem.start w0)
  have HB := HM.out.below
  rcases bad6_cases l with ⟨h0, h1⟩ | ⟨h0, h1, h2⟩ | ⟨h0, h1, h2, h3⟩ | ⟨h0, h1, h2, h3⟩
  · have HF : Hid (head6 l = ZH) := Lib.hid (by unfold head6; rw [if_neg (by omega)])
    rw [h0, HF.out]
    clear h0
    go_enter Try.func27, Try.ntmps27
    go_wp2_with (first | refine m_rd ?_ | (refine m_wr ?_; clear HM HB; intro w b HM HB; try clear b) | (refine m_ap ?_; clear HM HB; intro w Aq cq HM HB) | fail)
    apply m_ret_c1
    next => exact rfl
    next => exact rfl
    next => exact rfl
    next => exact HM
    next => ((repeat (first | exact List.Mem.head _ | apply List.Mem.tail)); done)
    next => exact Try.underlying31
    next => rfl
    exact ⟨rfl, HB⟩
  all_goals
    obtain ⟨ad, rfl⟩ := HR.out.some (by omega)
    have hx0 := HR.out.byte 0 (by omega)
    simp only [gb_getD, Mm.add_zero] at hx0
    have hy0 := gb_lt l 0
  · have HF : Hid (head6 l = ZH) := Lib.hid (by unfold head6; rw [if_neg (by omega)])
    rw [h0, HF.out]
    clear h0
    have h2' : (((gb l 0 : Nat) : Int) / 16 != 6) = true := by simp; omega
    generalize gb l 0 = g0 at hx0 hy0 h2'
    clear h2
    go_enter Try.func27, Try.ntmps27
    go_wp2_with (first | refine m_rd ?_ | (refine m_wr ?_; clear HM HB; intro w b HM HB; try clear b) | (refine m_ap ?_; clear HM HB; intro w Aq cq HM HB) | fail)
    apply m_ret_c1
    next => exact rfl
    next => exact rfl
    next => exact rfl
    next => exact HM
    next => ((repeat (first | exact List.Mem.head _ | apply List.Mem.tail)); done)
    next => exact Try.underlying31
    next => rfl
    exact ⟨rfl, HB⟩
  all_goals
    have hx4 := HR.out.byte 4 (by omega)
    have hx5 := HR.out.byte 5 (by omega)
    simp only [gb_getD, add_lit _ 4 (by decide), add_lit _ 5 (by decide)] at hx4 hx5
    have hy4 := gb_lt l 4
    have hy5 := gb_lt l 5
    have h2' : (((gb l 0 : Nat) : Int) / 16 != 6) = false := by simp; omega
    unfold tot6 at h3
  · have HF : Hid (head6 l = ZH) := Lib.hid (by unfold head6; rw [if_neg (by omega)])
    rw [h0, HF.out]
    clear h0 h2
    generalize gb l 0 = g0 at hx0 hy0 h2'
    generalize gb l 4 = g4 at hx4 hy4 h3
    generalize gb l 5 = g5 at hx5 hy5 h3
    go_enter Try.func27, Try.ntmps27
    go_wp2_with (first | refine m_rd ?_ | (refine m_wr ?_; clear HM HB; intro w b HM HB; try clear b) | (refine m_ap ?_; clear HM HB; intro w Aq cq HM HB) | fail)
    try simp only [Act.put, List.setIfInBounds_toArray, List.set_cons_zero, List.set_cons_succ]
    refine wp_region_held_drew (S := fun w' => Below w0.heap.size w0 w') (by kernel_rfl) (below_drew HB) (fun hS => ?_)
    replace HM := Lib.hid HM.out.drew
    replace HB := HM.out.below
    refine tk 0 21 ?_
    refine tk 1 22 ?_
    refine tk 2 23 ?_
    refine tk 3 24 ?_
    refine tk 4 25 ?_
    refine tk 5 26 ?_
    refine tk 6 27 ?_
    refine tk 7 28 ?_
    refine tk 8 29 ?_
    refine tk 9 30 ?_
    refine tk 10 31 ?_
    refine tk 11 4 ?_
    refine wpAnyH_done (by kernel_rfl) ?_ _
    clear hS
    go_wp2_with (first | refine m_rd ?_ | (refine m_wr ?_; clear HM HB; intro w b HM HB; try clear b) | (refine m_ap ?_; clear HM HB; intro w Aq cq HM HB) | fail)
    apply m_ret_c1
    next => exact rfl
    next => exact rfl
    next => exact rfl
    next => exact HM
    next => ((repeat (first | exact List.Mem.head _ | apply List.Mem.tail)); done)
    next => exact Try.underlying31
    next => rfl
    exact ⟨rfl, HB⟩
  · have HF : Hid (head6 l = HV (ns6 l) 6 ((l.drop 8).take 16) 6 ((l.drop 24).take 16)) := Lib.hid (by unfold head6; rw [if_pos h0])
    have hx1 := HR.out.byte 1 (by omega)
    have hx2 := HR.out.byte 2 (by omega)
    have hx3 := HR.out.byte 3 (by omega)
    have hx6 := HR.out.byte 6 (by omega)
    have hx7 := HR.out.byte 7 (by omega)
    simp only [gb_getD, add_lit _ 1 (by decide), add_lit _ 2 (by decide), add_lit _ 3 (by decide), add_lit _ 6 (by decide), add_lit _ 7 (by decide)] at hx1 hx2 hx3 hx6 hx7
    have hy1 := gb_lt l 1
    have hy2 := gb_lt l 2
    have hy3 := gb_lt l 3
    have hy6 := gb_lt l 6
    have hy7 := gb_lt l 7
    have HN : Hid (ns6 l = [6, 40, ((40 + (256 * gb l 4 + gb l 5) : Nat) : Int), ((16 * (gb l 0 % 16) + gb l 1 / 16 : Nat) : Int), ((65536 * (gb l 1 % 16) + 256 * gb l 2 + gb l 3 : Nat) : Int), 0, 0, (gb l 7 : Nat), (gb l 6 : Nat)]) := Lib.hid rfl
    have hs1 := run_cut ad l.length c 8 24 8 16 rfl rfl (by omega) (by omega)
    have hs2 := run_cut ad l.length c 24 40 24 16 rfl rfl (by omega) (by omega)
    have L8 : Hid (((l.drop 8).take 16).length = 16) := Lib.hid (by simp; omega)
    have L24 : Hid (((l.drop 24).take 16).length = 16) := Lib.hid (by simp; omega)
    rw [h0]
    clear h0 h2
    generalize gb l 0 = g0 at hx0 hy0 h2' HN
    generalize gb l 1 = g1 at hx1 hy1 HN
    generalize gb l 2 = g2 at hx2 hy2 HN
    generalize gb l 3 = g3 at hx3 hy3 HN
    generalize gb l 4 = g4 at hx4 hy4 h3 HN
    generalize gb l 5 = g5 at hx5 hy5 h3 HN
    generalize gb l 6 = g6 at hx6 hy6 HN
    generalize gb l 7 = g7 at hx7 hy7 HN
    go_enter Try.func27, Try.ntmps27
    go_wp2_with (first | refine m_rd ?_ | (refine m_wr ?_; clear HM HB; intro w b HM HB; try clear b) | (refine m_ap ?_; clear HM HB; intro w Aq cq HM HB) | fail)
    try simp only [Act.put, List.setIfInBounds_toArray, List.set_cons_zero, List.set_cons_succ]
    refine wp_region_held_drew (S := fun w' => Below w0.heap.size w0 w') (by kernel_rfl) (below_drew HB) (fun hS => ?_)
    replace HM := Lib.hid HM.out.drew
    replace HB := HM.out.below
    refine tk 0 21 ?_
    refine tk 1 22 ?_
    refine tk 2 23 ?_
    refine tk 3 24 ?_
    refine tk 4 25 ?_
    refine tk 5 26 ?_
    refine tk 6 27 ?_
    refine tk 7 28 ?_
    refine tk 8 29 ?_
    refine tk 9 30 ?_
    refine tk 10 31 ?_
    refine tk 11 4 ?_
    refine wpAnyH_done (by kernel_rfl) ?_ _
    clear hS
    go_wp2_with (first | refine m_rd ?_ | (refine m_wr ?_; clear HM HB; intro w b HM HB; try clear b) | (refine m_ap ?_; clear HM HB; intro w Aq cq HM HB) | fail)
    refine (refOf16 _ ((l.drop 8).take 16) _ (by have h := (HR.out.below HB).sub 8 16 (c - 8) (by omega) (by omega); rwa [add_lit _ 8 (by decide)] at h) L8.out).mono ?_
    rintro e w ⟨rfl, hb⟩
    replace HM := Lib.hid (HM.out.call hb)
    replace HB := HM.out.below
    clear hb
    have C8 : Hid (Cells 25 (AV [6] ((l.drop 8).take 16))) := Lib.hid (cellsA _ _ L8.out)
    go_wp2_with (first | refine m_rd ?_ | (refine m_wr ?_; clear HM HB; intro w b HM HB; try clear b) | (refine m_ap ?_; clear HM HB; intro w Aq cq HM HB) | fail)
    refine (refOf16 _ ((l.drop 24).take 16) _ (by have h := (HR.out.below HB).sub 24 16 (c - 24) (by omega) (by omega); rwa [add_lit _ 24 (by decide)] at h) L24.out).mono ?_
    rintro e w ⟨rfl, hb⟩
    replace HM := Lib.hid (HM.out.call hb)
    replace HB := HM.out.below
    clear hb
    have C24 : Hid (Cells 25 (AV [6] ((l.drop 24).take 16))) := Lib.hid (cellsA _ _ L24.out)
    go_wp2_with (first | refine m_rd ?_ | (refine m_wr ?_; clear HM HB; intro w b HM HB; try clear b) | (refine m_ap ?_; clear HM HB; intro w Aq cq HM HB) | fail)
    try simp only [Act.put, List.setIfInBounds_toArray, List.set_cons_zero, List.set_cons_succ]
    refine wp_region_held_drew (S := fun w' => Below w0.heap.size w0 w') (by kernel_rfl) (below_drew HB) (fun hS => ?_)
    replace HM := Lib.hid HM.out.drew
    replace HB := HM.out.below
    refine tk 0 49 ?_
    refine tk 1 50 ?_
    refine tk 2 51 ?_
    refine tk 3 52 ?_
    refine tk 4 53 ?_
    refine tk 5 54 ?_
    refine tk 6 55 ?_
    refine tk 7 56 ?_
    refine tk 8 57 ?_
    refine tk 9 58 ?_
    refine tk 10 59 ?_
    refine tk 11 60 ?_
    refine tk 12 9 ?_
    refine wpAnyH_done (by kernel_rfl) ?_ _
    clear hS
    go_wp2_with (first | refine m_rd ?_ | (refine m_wr ?_; clear HM HB; intro w b HM HB; try clear b) | (refine m_ap ?_; clear HM HB; intro w Aq cq HM HB) | fail)
    try simp only [Act.put, List.setIfInBounds_toArray, List.set_cons_zero, List.set_cons_succ]
    refine wp_region_held_drew (S := fun w' => Below w0.heap.size w0 w') (by kernel_rfl) (below_drew HB) (fun hS => ?_)
    replace HM := Lib.hid HM.out.drew
    replace HB := HM.out.below
    refine tk 0 61 ?_
    refine tk 1 62 ?_
    refine tk 2 63 ?_
    refine tk 3 64 ?_
    refine tk 4 65 ?_
    refine tk 5 66 ?_
    refine tk 6 67 ?_
    refine tk 7 68 ?_
    refine tk 8 69 ?_
    refine tk 9 70 ?_
    refine tk 10 71 ?_
    refine tk 11 72 ?_
    refine tk 12 73 ?_
    refine tk 13 74 ?_
    refine tk 14 75 ?_
    refine tk 15 76 ?_
    refine tk 16 77 ?_
    refine tk 17 10 ?_
    refine wpAnyH_done (by kernel_rfl) ?_ _
    clear hS
    go_wp2_with (first | refine m_rd ?_ | (refine m_wr ?_; clear HM HB; intro w b HM HB; try clear b) | (refine m_ap ?_; clear HM HB; intro w Aq cq HM HB) | fail)
    try simp only [Act.put, List.setIfInBounds_toArray, List.set_cons_zero, List.set_cons_succ]
    refine wp_region_held_drew (S := fun w' => Mem w0 w' _) (by kernel_rfl) (HM.out.drew.two) (fun hS => ?_)
    replace HM := Lib.hid HM.out.drew
    replace HB := HM.out.below
    refine tk 0 78 ?_
    refine tk 1 79 ?_
    refine tk 2 80 ?_
    refine tk 3 81 ?_
    refine tk 4 82 ?_
    refine tk 5 83 ?_
    refine tk 6 84 ?_
    refine tk 7 85 ?_
    refine tk 8 86 ?_
    refine tk 9 87 ?_
    refine tk 10 88 ?_
    refine tkv 11 89 (.agg (AV [6] ((l.drop 8).take 16))) rfl (yields_own rfl rfl (fun _ h => h) (by ((repeat (first | exact List.Mem.head _ | apply List.Mem.tail)); done)) Try.underlying25 rfl C8.out.1 (by kernel_rfl)) ?_
    refine tkv 12 90 (.agg (AV [6] ((l.drop 24).take 16))) rfl (yields_own rfl rfl (fun _ h => h) (by ((repeat (first | exact List.Mem.head _ | apply List.Mem.tail)); done)) Try.underlying25 rfl C24.out.1 (by kernel_rfl)) ?_
    refine tkv 13 91 _ rfl (yields_build rfl #[(0, .int .i64 6), (1, .int .i64 40), (2, .int .i64 (40 + 256 * g4 + g5)), (3, .int .i64 (16 * (g0 % 16) + g1 / 16)), (4, .int .i64 (65536 * (g1 % 16) + 256 * g2 + g3)), (7, .int .i64 g7), (8, .int .i64 g6), (9, .agg (AV [6] ((l.drop 8).take 16))), (10, .agg (AV [6] ((l.drop 24).take 16)))] rfl (build_head _ _ _ _ _ _ _ _ _ _ _ L8.out L24.out) (by kernel_rfl)) ?_
    refine rone 14 rfl fun K' hK => ?_
    apply s_storeC
    next => kernel_rfl
    next => exact rfl
    next => exact rfl
    next => exact rfl
    next => exact HM
    next => ((repeat (first | exact Upd.head _ | apply Upd.tail)); done)
    next => exact (cellsH _ _ _ _ _ rfl L8.out L24.out)
    clear HM HB
    intro w HM HB
    refine hK.out _ _ (HM.out.two) (fun hS2 => ?_)
    clear hS hK
    have hS := hS2
    clear hS2
    try simp only [Act.put, List.setIfInBounds_toArray, List.set_cons_zero, List.set_cons_succ]
    refine tk 15 3 ?_
    refine wpAnyH_done (by kernel_rfl) ?_ _
    clear hS
    go_wp2_with (first | refine m_rd ?_ | (refine m_wr ?_; clear HM HB; intro w b HM HB; try clear b) | (refine m_ap ?_; clear HM HB; intro w Aq cq HM HB) | fail)
    apply m_ret_c1
    next => exact rfl
    next => exact rfl
    next => exact rfl
    next => exact HM
    next => ((repeat (first | exact List.Mem.head _ | apply List.Mem.tail)); done)
    next => exact Try.underlying31
    next => rfl
    refine ⟨?_, HB⟩
    rw [HF.out, HN.out]
    have e : ∀ ns ms : List Int, ns = ms → Ending.returned (.tuple #[.agg (HV ns 6 ((l.drop 8).take 16) 6 ((l.drop 24).take 16)), .int .i64 0]) = .returned (.tuple #[.agg (HV ms 6 ((l.drop 8).take 16) 6 ((l.drop 24).take 16)), .int .i64 0]) := fun ns ms h => by rw [h]
    refine e _ _ ?_
    rw [show ((40 + (256 * g4 + g5) : Nat) : Int) = 40 + 256 * (g4 : Int) + g5 by omega]
    simp
end Go.Proofs.Ytahnibhcfdamdaa.Is
