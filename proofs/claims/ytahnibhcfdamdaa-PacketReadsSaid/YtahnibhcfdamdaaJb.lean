/- Package ipfour: how many bytes a head, and all of it, have. -/
import Derived.Test.YtahnibhcfdamdaaJa
set_option linter.unusedSimpArgs false
set_option linter.unusedVariables false
set_option maxRecDepth 100000
namespace Go.Proofs.Ytahnibhcfdamdaa.Is
open Go.RowKit Go.Proofs.YtahnibhcfdamdaaW.PrintWords Go.Proofs.Ytahnibhcfdamdaa.Bs Go.Proofs.Ytahnibhcfdamdaa.Av Go.Proofs.Ytahnibhcfdamdaa.Ad Go.Proofs.Ytahnibhcfdamdaa.Hd Go.Proofs.Ytahnibhcfdamdaa.Mm Go.Proofs.Ytahnibhcfdamdaa.Le Go.Proofs.Ytahnibhcfdamdaa.Ip Go.Proofs.Ytahnibhcfdamdaa.En Go.Proofs.Ytahnibhcfdamdaa.Co

theorem and15 (x : Nat) (hx : x < 256) : Go.bits .and .u8 (x : Int) 15 = ((x % 16 : Nat) : Int) := by
  rw [show (15 : Int) = ((15 : Nat) : Int) from rfl, u8_and_nat x 15 hx (by decide)]
  congr 1
  exact Nat.and_two_pow_sub_one_eq_mod x 4
set_option maxHeartbeats 2000000 in
theorem sized_four (v : Value) (l : List UInt8) (w0 : World) (hr : RB w0 v l) :
    Calls Try.prog 100 #[v] w0 fun e w' => e = .returned (.tuple #[.int .i64 ((if badS l = 0 then siz4 l else 0 : Nat) : Int), .int .i64 ((if badS l = 0 then tot4 l else 0 : Nat) : Int), .int .i64 (badS l : Nat)]) ∧ Below w0.heap.size w0 w' := by
  have hl := hr.len
  have HR := Lib.hid hr
  obtain ⟨A, c, rfl, hc, hrr⟩ := hr
  clear hrr
  have HM := Lib.hid (Mem.start w0)
  have HB := HM.out.below
  rcases badS_cases l with ⟨h0, h1⟩ | ⟨h0, h1, h2⟩ | ⟨h0, h1, h2, h3⟩ | ⟨h0, h1, h2, h3, h4⟩ | ⟨h0, h1, h2, h3, h4, h5⟩ | ⟨h0, h1, h2, h3, h4, h5, h6⟩ | ⟨h0, h1, h2, h3, h4, h5, h6⟩
  all_goals rw [h0]
  · clear h0
    go_enter Try.func100, Try.ntmps100
    go_wp2_with (first | refine m_rd ?_ | (refine m_wr ?_; clear HM HB; intro w b HM HB; try clear b) | (refine m_ap ?_; clear HM HB; intro w Aq cq HM HB) | fail)
    go_ret3
    exact ⟨rfl, HB⟩
  all_goals
    obtain ⟨ad, rfl⟩ := HR.out.some (by omega)
    have hx0 := HR.out.byte 0 (by omega)
    simp only [gb_getD, Mm.add_zero] at hx0
    have hy0 := gb_lt l 0
  · have h2' : (((gb l 0 : Nat) : Int) / 16 != 4) = true := by simp; omega
    generalize gb l 0 = g0 at hx0 hy0 h2'
    clear h2 h0
    go_enter Try.func100, Try.ntmps100
    go_wp2_with (first | refine m_rd ?_ | (refine m_wr ?_; clear HM HB; intro w b HM HB; try clear b) | (refine m_ap ?_; clear HM HB; intro w Aq cq HM HB) | fail)
    go_ret3
    exact ⟨rfl, HB⟩
  all_goals
    have h2' : (((gb l 0 : Nat) : Int) / 16 != 4) = false := by simp; omega
    have ha := and15 (gb l 0) hy0
    have hg2 := gb_lt l 2
    have hg3 := gb_lt l 3
    have HH := Lib.hid (half2 ad c l)
    have hsz : siz4 l < 64 := by unfold siz4; omega
    have HSZ : Hid (((gb l 0 % 16 : Nat) : Int) * 4 = (siz4 l : Nat)) := Lib.hid (by unfold siz4; omega)
    have HTT : Hid (256 * gb l 2 + gb l 3 = tot4 l) := Lib.hid rfl
    have htt : tot4 l < 65536 := by unfold tot4; omega
    have hsm : gb l 0 % 16 < 16 := Nat.mod_lt _ (by decide)
    clear h2 h0 hg2 hg3
    generalize gb l 0 % 16 = s at ha HSZ hsm
    have HSS : siz4 l = s * 4 := by have := HSZ.out; omega
    rw [HTT.out] at HH
    clear HSZ HTT
    simp only [HSS] at *
    generalize tot4 l = tt at *
    generalize gb l 0 = g0 at hx0 hy0 h2' ha
    clear HSS
  · go_enter Try.func100, Try.ntmps100
    go_wp2_with (first | refine m_rd ?_ | (refine m_wr ?_; clear HM HB; intro w b HM HB; try clear b) | (refine m_ap ?_; clear HM HB; intro w Aq cq HM HB) | fail)
    try simp only [Act.put, List.setIfInBounds_toArray, List.set_cons_zero, List.set_cons_succ]
    refine wp_region_held_drew (S := fun w' => Below w0.heap.size w0 w') (by kernel_rfl) (below_drew HB) (fun hS => ?_)
    replace HM := Lib.hid HM.out.drew
    replace HB := HM.out.below
    refine tk 0 15 ?_
    refine tk 1 16 ?_
    refine tk 2 17 ?_
    refine tk 3 18 ?_
    refine tk 4 19 ?_
    refine tk 5 20 ?_
    refine tk 6 21 ?_
    refine rone 7 rfl fun K' hK => ?_
    go_simp
    refine (HH.out _ (HR.out.below HB) (by omega)).mono ?_
    rintro e w ⟨rfl, hb⟩
    replace HM := Lib.hid (HM.out.call hb)
    replace HB := HM.out.below
    clear hb
    refine hK.out _ _ (HB) (fun hS2 => ?_)
    clear hS hK
    have hS := hS2
    clear hS2
    try simp only [Act.put, List.setIfInBounds_toArray, List.set_cons_zero, List.set_cons_succ]
    refine tk 8 2 ?_
    refine tk 9 3 ?_
    refine wpAnyH_done (by kernel_rfl) ?_ _
    clear hS
    go_wp2_with (first | refine m_rd ?_ | (refine m_wr ?_; clear HM HB; intro w b HM HB; try clear b) | (refine m_ap ?_; clear HM HB; intro w Aq cq HM HB) | fail)
    go_ret3
    exact ⟨rfl, HB⟩
  · go_enter Try.func100, Try.ntmps100
    go_wp2_with (first | refine m_rd ?_ | (refine m_wr ?_; clear HM HB; intro w b HM HB; try clear b) | (refine m_ap ?_; clear HM HB; intro w Aq cq HM HB) | fail)
    try simp only [Act.put, List.setIfInBounds_toArray, List.set_cons_zero, List.set_cons_succ]
    refine wp_region_held_drew (S := fun w' => Below w0.heap.size w0 w') (by kernel_rfl) (below_drew HB) (fun hS => ?_)
    replace HM := Lib.hid HM.out.drew
    replace HB := HM.out.below
    refine tk 0 15 ?_
    refine tk 1 16 ?_
    refine tk 2 17 ?_
    refine tk 3 18 ?_
    refine tk 4 19 ?_
    refine tk 5 20 ?_
    refine tk 6 21 ?_
    refine rone 7 rfl fun K' hK => ?_
    go_simp
    refine (HH.out _ (HR.out.below HB) (by omega)).mono ?_
    rintro e w ⟨rfl, hb⟩
    replace HM := Lib.hid (HM.out.call hb)
    replace HB := HM.out.below
    clear hb
    refine hK.out _ _ (HB) (fun hS2 => ?_)
    clear hS hK
    have hS := hS2
    clear hS2
    try simp only [Act.put, List.setIfInBounds_toArray, List.set_cons_zero, List.set_cons_succ]
    refine tk 8 2 ?_
    refine tk 9 3 ?_
    refine wpAnyH_done (by kernel_rfl) ?_ _
    clear hS
    go_wp2_with (first | refine m_rd ?_ | (refine m_wr ?_; clear HM HB; intro w b HM HB; try clear b) | (refine m_ap ?_; clear HM HB; intro w Aq cq HM HB) | fail)
    go_ret3
    exact ⟨rfl, HB⟩
  · go_enter Try.func100, Try.ntmps100
    go_wp2_with (first | refine m_rd ?_ | (refine m_wr ?_; clear HM HB; intro w b HM HB; try clear b) | (refine m_ap ?_; clear HM HB; intro w Aq cq HM HB) | fail)
    try simp only [Act.put, List.setIfInBounds_toArray, List.set_cons_zero, List.set_cons_succ]
    refine wp_region_held_drew (S := fun w' => Below w0.heap.size w0 w') (by kernel_rfl) (below_drew HB) (fun hS => ?_)
    replace HM := Lib.hid HM.out.drew
    replace HB := HM.out.below
    refine tk 0 15 ?_
    refine tk 1 16 ?_
    refine tk 2 17 ?_
    refine tk 3 18 ?_
    refine tk 4 19 ?_
    refine tk 5 20 ?_
    refine tk 6 21 ?_
    refine rone 7 rfl fun K' hK => ?_
    go_simp
    refine (HH.out _ (HR.out.below HB) (by omega)).mono ?_
    rintro e w ⟨rfl, hb⟩
    replace HM := Lib.hid (HM.out.call hb)
    replace HB := HM.out.below
    clear hb
    refine hK.out _ _ (HB) (fun hS2 => ?_)
    clear hS hK
    have hS := hS2
    clear hS2
    try simp only [Act.put, List.setIfInBounds_toArray, List.set_cons_zero, List.set_cons_succ]
    refine tk 8 2 ?_
    refine tk 9 3 ?_
    refine wpAnyH_done (by kernel_rfl) ?_ _
    clear hS
    go_wp2_with (first | refine m_rd ?_ | (refine m_wr ?_; clear HM HB; intro w b HM HB; try clear b) | (refine m_ap ?_; clear HM HB; intro w Aq cq HM HB) | fail)
    go_ret3
    exact ⟨rfl, HB⟩
  · go_enter Try.func100, Try.ntmps100
    go_wp2_with (first | refine m_rd ?_ | (refine m_wr ?_; clear HM HB; intro w b HM HB; try clear b) | (refine m_ap ?_; clear HM HB; intro w Aq cq HM HB) | fail)
    try simp only [Act.put, List.setIfInBounds_toArray, List.set_cons_zero, List.set_cons_succ]
    refine wp_region_held_drew (S := fun w' => Below w0.heap.size w0 w') (by kernel_rfl) (below_drew HB) (fun hS => ?_)
    replace HM := Lib.hid HM.out.drew
    replace HB := HM.out.below
    refine tk 0 15 ?_
    refine tk 1 16 ?_
    refine tk 2 17 ?_
    refine tk 3 18 ?_
    refine tk 4 19 ?_
    refine tk 5 20 ?_
    refine tk 6 21 ?_
    refine rone 7 rfl fun K' hK => ?_
    go_simp
    refine (HH.out _ (HR.out.below HB) (by omega)).mono ?_
    rintro e w ⟨rfl, hb⟩
    replace HM := Lib.hid (HM.out.call hb)
    replace HB := HM.out.below
    clear hb
    refine hK.out _ _ (HB) (fun hS2 => ?_)
    clear hS hK
    have hS := hS2
    clear hS2
    try simp only [Act.put, List.setIfInBounds_toArray, List.set_cons_zero, List.set_cons_succ]
    refine tk 8 2 ?_
    refine tk 9 3 ?_
    refine wpAnyH_done (by kernel_rfl) ?_ _
    clear hS
    go_wp2_with (first | refine m_rd ?_ | (refine m_wr ?_; clear HM HB; intro w b HM HB; try clear b) | (refine m_ap ?_; clear HM HB; intro w Aq cq HM HB) | fail)
    go_ret3
    exact ⟨rfl, HB⟩
  · go_enter Try.func100, Try.ntmps100
    go_wp2_with (first | refine m_rd ?_ | (refine m_wr ?_; clear HM HB; intro w b HM HB; try clear b) | (refine m_ap ?_; clear HM HB; intro w Aq cq HM HB) | fail)
    try simp only [Act.put, List.setIfInBounds_toArray, List.set_cons_zero, List.set_cons_succ]
    refine wp_region_held_drew (S := fun w' => Below w0.heap.size w0 w') (by kernel_rfl) (below_drew HB) (fun hS => ?_)
    replace HM := Lib.hid HM.out.drew
    replace HB := HM.out.below
    refine tk 0 15 ?_
    refine tk 1 16 ?_
    refine tk 2 17 ?_
    refine tk 3 18 ?_
    refine tk 4 19 ?_
    refine tk 5 20 ?_
    refine tk 6 21 ?_
    refine rone 7 rfl fun K' hK => ?_
    go_simp
    refine (HH.out _ (HR.out.below HB) (by omega)).mono ?_
    rintro e w ⟨rfl, hb⟩
    replace HM := Lib.hid (HM.out.call hb)
    replace HB := HM.out.below
    clear hb
    refine hK.out _ _ (HB) (fun hS2 => ?_)
    clear hS hK
    have hS := hS2
    clear hS2
    try simp only [Act.put, List.setIfInBounds_toArray, List.set_cons_zero, List.set_cons_succ]
    refine tk 8 2 ?_
    refine tk 9 3 ?_
    refine wpAnyH_done (by kernel_rfl) ?_ _
    clear hS
    go_wp2_with (first | refine m_rd ?_ | (refine m_wr ?_; clear HM HB; intro w b HM HB; try clear b) | (refine m_ap ?_; clear HM HB; intro w Aq cq HM HB) | fail)
    go_ret3
    exact ⟨rfl, HB⟩
end Go.Proofs.Ytahnibhcfdamdaa.Is
