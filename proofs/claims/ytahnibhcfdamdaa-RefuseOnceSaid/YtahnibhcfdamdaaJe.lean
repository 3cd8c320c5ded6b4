/- Packages ipfour and its reference: the packets that are refused; PRINTED by gen_put4.py. -/
import Derived.Test.YtahnibhcfdamdaaZd
set_option linter.unusedSimpArgs false
set_option linter.unusedVariables false
set_option maxRecDepth 100000
namespace Go.Proofs.Ytahnibhcfdamdaa.Is
open Go.RowKit Go.Proofs.YtahnibhcfdamdaaW.PrintWords Go.Proofs.Ytahnibhcfdamdaa.Bs Go.Proofs.Ytahnibhcfdamdaa.Av Go.Proofs.Ytahnibhcfdamdaa.Ad Go.Proofs.Ytahnibhcfdamdaa.Hd Go.Proofs.Ytahnibhcfdamdaa.Mm Go.Proofs.Ytahnibhcfdamdaa.Le Go.Proofs.Ytahnibhcfdamdaa.Ip Go.Proofs.Ytahnibhcfdamdaa.En Go.Proofs.Ytahnibhcfdamdaa.Co Go.Proofs.Ytahnibhcfdamdaa.Os


set_option maxHeartbeats 4000000 in
theorem put4_num (n0 n1 n2 n3 n4 n5 n6 n7 n8 s d : Int) (x y : List UInt8) (v : Value) (body : List UInt8) (w0 : World) (hr : RB w0 v body) (hx : x.length = 16) (hy : y.length = 16) (b3 : In64' n3) (b4 : In64' n4) (b5 : In64' n5) (b6 : In64' n6) (b7 : In64' n7) (b8 : In64' n8) (h : ¬ ((0 ≤ n3 ∧ n3 < 256) ∧ (0 ≤ n4 ∧ n4 < 65536) ∧ (0 ≤ n5 ∧ n5 < 8) ∧ (0 ≤ n6 ∧ n6 < 8192) ∧ (0 ≤ n7 ∧ n7 < 256) ∧ (0 ≤ n8 ∧ n8 < 256))) :
    Calls Try.prog 24 #[.agg (HV [n0, n1, n2, n3, n4, n5, n6, n7, n8] s x d y), v] w0 fun e w' => e = .returned (.tuple #[.slice none 0 0, .int .i64 1]) ∧ Below w0.heap.size w0 w' := by
  have HNO := Lib.hid h
  clear h
  have HX := Lib.hid hx
  have HY := Lib.hid hy
  have HC : Hid (Cells 31 (HV [n0, n1, n2, n3, n4, n5, n6, n7, n8] s x d y)) := Lib.hid (cellsH _ _ _ _ _ rfl hx hy)
  have HR := Lib.hid hr
  have hl := hr.len
  obtain ⟨A, cb, rfl, hcb, hrr⟩ := hr
  clear hrr hx hy
  have HM := Lib.hid (Mem.start w0)
  have HB := HM.out.below
  obtain ⟨l3, u3⟩ := b3
  obtain ⟨l4, u4⟩ := b4
  obtain ⟨l5, u5⟩ := b5
  obtain ⟨l6, u6⟩ := b6
  obtain ⟨l7, u7⟩ := b7
  obtain ⟨l8, u8⟩ := b8
  by_cases k0 : Hid (0 ≤ n3 ∧ n3 < 256)
  case neg =>
    have k0 : Hid (¬ (0 ≤ n3 ∧ n3 < 256)) := Lib.hid (fun h => k0 (Lib.hid h))
    go_enter Try.func24, Try.ntmps24
    go_wp2_with (first | refine m_rd ?_ | (refine m_wr ?_; clear HM HB; intro w b HM HB; try clear b) | (refine m_ap ?_; clear HM HB; intro w Aq cq HM HB) | fail)
    refine (fits_no4 n3 8 8 rfl (by decide) _ (by assumption) (by assumption) (by have := k0.out; simpa using this)).mono ?_
    rintro e w' ⟨rfl, rfl⟩
    go_wp2_with (first | refine m_rd ?_ | (refine m_wr ?_; clear HM HB; intro w b HM HB; try clear b) | (refine m_ap ?_; clear HM HB; intro w Aq cq HM HB) | fail)
    go_ret2
    exact ⟨rfl, HB⟩
  by_cases k1 : Hid (0 ≤ n4 ∧ n4 < 65536)
  case neg =>
    have k1 : Hid (¬ (0 ≤ n4 ∧ n4 < 65536)) := Lib.hid (fun h => k1 (Lib.hid h))
    go_enter Try.func24, Try.ntmps24
    go_wp2_with (first | refine m_rd ?_ | (refine m_wr ?_; clear HM HB; intro w b HM HB; try clear b) | (refine m_ap ?_; clear HM HB; intro w Aq cq HM HB) | fail)
    refine (fits_yes4 n3 8 8 rfl (by decide) _ k0.out.1 (by have := k0.out.2; simpa using this)).mono ?_
    rintro e w' ⟨rfl, rfl⟩
    go_wp2_with (first | refine m_rd ?_ | (refine m_wr ?_; clear HM HB; intro w b HM HB; try clear b) | (refine m_ap ?_; clear HM HB; intro w Aq cq HM HB) | fail)
    refine (fits_no4 n4 16 16 rfl (by decide) _ (by assumption) (by assumption) (by have := k1.out; simpa using this)).mono ?_
    rintro e w' ⟨rfl, rfl⟩
    go_wp2_with (first | refine m_rd ?_ | (refine m_wr ?_; clear HM HB; intro w b HM HB; try clear b) | (refine m_ap ?_; clear HM HB; intro w Aq cq HM HB) | fail)
    go_ret2
    exact ⟨rfl, HB⟩
  by_cases k2 : Hid (0 ≤ n5 ∧ n5 < 8)
  case neg =>
    have k2 : Hid (¬ (0 ≤ n5 ∧ n5 < 8)) := Lib.hid (fun h => k2 (Lib.hid h))
    go_enter Try.func24, Try.ntmps24
    go_wp2_with (first | refine m_rd ?_ | (refine m_wr ?_; clear HM HB; intro w b HM HB; try clear b) | (refine m_ap ?_; clear HM HB; intro w Aq cq HM HB) | fail)
    refine (fits_yes4 n3 8 8 rfl (by decide) _ k0.out.1 (by have := k0.out.2; simpa using this)).mono ?_
    rintro e w' ⟨rfl, rfl⟩
    go_wp2_with (first | refine m_rd ?_ | (refine m_wr ?_; clear HM HB; intro w b HM HB; try clear b) | (refine m_ap ?_; clear HM HB; intro w Aq cq HM HB) | fail)
    refine (fits_yes4 n4 16 16 rfl (by decide) _ k1.out.1 (by have := k1.out.2; simpa using this)).mono ?_
    rintro e w' ⟨rfl, rfl⟩
    go_wp2_with (first | refine m_rd ?_ | (refine m_wr ?_; clear HM HB; intro w b HM HB; try clear b) | (refine m_ap ?_; clear HM HB; intro w Aq cq HM HB) | fail)
    refine (fits_no4 n5 3 3 rfl (by decide) _ (by assumption) (by assumption) (by have := k2.out; simpa using this)).mono ?_
    rintro e w' ⟨rfl, rfl⟩
    go_wp2_with (first | refine m_rd ?_ | (refine m_wr ?_; clear HM HB; intro w b HM HB; try clear b) | (refine m_ap ?_; clear HM HB; intro w Aq cq HM HB) | fail)
    go_ret2
    exact ⟨rfl, HB⟩
  by_cases k3 : Hid (0 ≤ n6 ∧ n6 < 8192)
  case neg =>
    have k3 : Hid (¬ (0 ≤ n6 ∧ n6 < 8192)) := Lib.hid (fun h => k3 (Lib.hid h))
    go_enter Try.func24, Try.ntmps24
    go_wp2_with (first | refine m_rd ?_ | (refine m_wr ?_; clear HM HB; intro w b HM HB; try clear b) | (refine m_ap ?_; clear HM HB; intro w Aq cq HM HB) | fail)
    refine (fits_yes4 n3 8 8 rfl (by decide) _ k0.out.1 (by have := k0.out.2; simpa using this)).mono ?_
    rintro e w' ⟨rfl, rfl⟩
    go_wp2_with (first | refine m_rd ?_ | (refine m_wr ?_; clear HM HB; intro w b HM HB; try clear b) | (refine m_ap ?_; clear HM HB; intro w Aq cq HM HB) | fail)
    refine (fits_yes4 n4 16 16 rfl (by decide) _ k1.out.1 (by have := k1.out.2; simpa using this)).mono ?_
    rintro e w' ⟨rfl, rfl⟩
    go_wp2_with (first | refine m_rd ?_ | (refine m_wr ?_; clear HM HB; intro w b HM HB; try clear b) | (refine m_ap ?_; clear HM HB; intro w Aq cq HM HB) | fail)
    refine (fits_yes4 n5 3 3 rfl (by decide) _ k2.out.1 (by have := k2.out.2; simpa using this)).mono ?_
    rintro e w' ⟨rfl, rfl⟩
    go_wp2_with (first | refine m_rd ?_ | (refine m_wr ?_; clear HM HB; intro w b HM HB; try clear b) | (refine m_ap ?_; clear HM HB; intro w Aq cq HM HB) | fail)
    refine (fits_no4 n6 13 13 rfl (by decide) _ (by assumption) (by assumption) (by have := k3.out; simpa using this)).mono ?_
    rintro e w' ⟨rfl, rfl⟩
    go_wp2_with (first | refine m_rd ?_ | (refine m_wr ?_; clear HM HB; intro w b HM HB; try clear b) | (refine m_ap ?_; clear HM HB; intro w Aq cq HM HB) | fail)
    go_ret2
    exact ⟨rfl, HB⟩
  by_cases k4 : Hid (0 ≤ n7 ∧ n7 < 256)
  case neg =>
    have k4 : Hid (¬ (0 ≤ n7 ∧ n7 < 256)) := Lib.hid (fun h => k4 (Lib.hid h))
    go_enter Try.func24, Try.ntmps24
    go_wp2_with (first | refine m_rd ?_ | (refine m_wr ?_; clear HM HB; intro w b HM HB; try clear b) | (refine m_ap ?_; clear HM HB; intro w Aq cq HM HB) | fail)
    refine (fits_yes4 n3 8 8 rfl (by decide) _ k0.out.1 (by have := k0.out.2; simpa using this)).mono ?_
    rintro e w' ⟨rfl, rfl⟩
    go_wp2_with (first | refine m_rd ?_ | (refine m_wr ?_; clear HM HB; intro w b HM HB; try clear b) | (refine m_ap ?_; clear HM HB; intro w Aq cq HM HB) | fail)
    refine (fits_yes4 n4 16 16 rfl (by decide) _ k1.out.1 (by have := k1.out.2; simpa using this)).mono ?_
    rintro e w' ⟨rfl, rfl⟩
    go_wp2_with (first | refine m_rd ?_ | (refine m_wr ?_; clear HM HB; intro w b HM HB; try clear b) | (refine m_ap ?_; clear HM HB; intro w Aq cq HM HB) | fail)
    refine (fits_yes4 n5 3 3 rfl (by decide) _ k2.out.1 (by have := k2.out.2; simpa using this)).mono ?_
    rintro e w' ⟨rfl, rfl⟩
    go_wp2_with (first | refine m_rd ?_ | (refine m_wr ?_; clear HM HB; intro w b HM HB; try clear b) | (refine m_ap ?_; clear HM HB; intro w Aq cq HM HB) | fail)
    refine (fits_yes4 n6 13 13 rfl (by decide) _ k3.out.1 (by have := k3.out.2; simpa using this)).mono ?_
    rintro e w' ⟨rfl, rfl⟩
    go_wp2_with (first | refine m_rd ?_ | (refine m_wr ?_; clear HM HB; intro w b HM HB; try clear b) | (refine m_ap ?_; clear HM HB; intro w Aq cq HM HB) | fail)
    refine (fits_no4 n7 8 8 rfl (by decide) _ (by assumption) (by assumption) (by have := k4.out; simpa using this)).mono ?_
    rintro e w' ⟨rfl, rfl⟩
    go_wp2_with (first | refine m_rd ?_ | (refine m_wr ?_; clear HM HB; intro w b HM HB; try clear b) | (refine m_ap ?_; clear HM HB; intro w Aq cq HM HB) | fail)
    go_ret2
    exact ⟨rfl, HB⟩
  by_cases k5 : Hid (0 ≤ n8 ∧ n8 < 256)
  case neg =>
    have k5 : Hid (¬ (0 ≤ n8 ∧ n8 < 256)) := Lib.hid (fun h => k5 (Lib.hid h))
    go_enter Try.func24, Try.ntmps24
    go_wp2_with (first | refine m_rd ?_ | (refine m_wr ?_; clear HM HB; intro w b HM HB; try clear b) | (refine m_ap ?_; clear HM HB; intro w Aq cq HM HB) | fail)
    refine (fits_yes4 n3 8 8 rfl (by decide) _ k0.out.1 (by have := k0.out.2; simpa using this)).mono ?_
    rintro e w' ⟨rfl, rfl⟩
    go_wp2_with (first | refine m_rd ?_ | (refine m_wr ?_; clear HM HB; intro w b HM HB; try clear b) | (refine m_ap ?_; clear HM HB; intro w Aq cq HM HB) | fail)
    refine (fits_yes4 n4 16 16 rfl (by decide) _ k1.out.1 (by have := k1.out.2; simpa using this)).mono ?_
    rintro e w' ⟨rfl, rfl⟩
    go_wp2_with (first | refine m_rd ?_ | (refine m_wr ?_; clear HM HB; intro w b HM HB; try clear b) | (refine m_ap ?_; clear HM HB; intro w Aq cq HM HB) | fail)
    refine (fits_yes4 n5 3 3 rfl (by decide) _ k2.out.1 (by have := k2.out.2; simpa using this)).mono ?_
    rintro e w' ⟨rfl, rfl⟩
    go_wp2_with (first | refine m_rd ?_ | (refine m_wr ?_; clear HM HB; intro w b HM HB; try clear b) | (refine m_ap ?_; clear HM HB; intro w Aq cq HM HB) | fail)
    refine (fits_yes4 n6 13 13 rfl (by decide) _ k3.out.1 (by have := k3.out.2; simpa using this)).mono ?_
    rintro e w' ⟨rfl, rfl⟩
    go_wp2_with (first | refine m_rd ?_ | (refine m_wr ?_; clear HM HB; intro w b HM HB; try clear b) | (refine m_ap ?_; clear HM HB; intro w Aq cq HM HB) | fail)
    refine (fits_yes4 n7 8 8 rfl (by decide) _ k4.out.1 (by have := k4.out.2; simpa using this)).mono ?_
    rintro e w' ⟨rfl, rfl⟩
    go_wp2_with (first | refine m_rd ?_ | (refine m_wr ?_; clear HM HB; intro w b HM HB; try clear b) | (refine m_ap ?_; clear HM HB; intro w Aq cq HM HB) | fail)
    refine (fits_no4 n8 8 8 rfl (by decide) _ (by assumption) (by assumption) (by have := k5.out; simpa using this)).mono ?_
    rintro e w' ⟨rfl, rfl⟩
    go_wp2_with (first | refine m_rd ?_ | (refine m_wr ?_; clear HM HB; intro w b HM HB; try clear b) | (refine m_ap ?_; clear HM HB; intro w Aq cq HM HB) | fail)
    go_ret2
    exact ⟨rfl, HB⟩
  exact absurd ⟨k0.out, k1.out, k2.out, k3.out, k4.out, k5.out⟩ HNO.out

set_option maxHeartbeats 4000000 in
theorem put4_adr (n0 n1 n2 n3 n4 n5 n6 n7 n8 s d : Int) (x y : List UInt8) (v : Value) (body : List UInt8) (w0 : World) (hr : RB w0 v body) (hx : x.length = 16) (hy : y.length = 16) (b3 : In64' n3) (b4 : In64' n4) (b5 : In64' n5) (b6 : In64' n6) (b7 : In64' n7) (b8 : In64' n8) (h : (0 ≤ n3 ∧ n3 < 256) ∧ (0 ≤ n4 ∧ n4 < 65536) ∧ (0 ≤ n5 ∧ n5 < 8) ∧ (0 ≤ n6 ∧ n6 < 8192) ∧ (0 ≤ n7 ∧ n7 < 256) ∧ (0 ≤ n8 ∧ n8 < 256)) (ha : ¬ (widthA s x = 32 ∧ widthA d y = 32)) :
    Calls Try.prog 24 #[.agg (HV [n0, n1, n2, n3, n4, n5, n6, n7, n8] s x d y), v] w0 fun e w' => e = .returned (.tuple #[.slice none 0 0, .int .i64 1]) ∧ Below w0.heap.size w0 w' := by
  have HNO := Lib.hid h
  clear h
  have HNA := Lib.hid ha
  clear ha
  have HX := Lib.hid hx
  have HY := Lib.hid hy
  have HC : Hid (Cells 31 (HV [n0, n1, n2, n3, n4, n5, n6, n7, n8] s x d y)) := Lib.hid (cellsH _ _ _ _ _ rfl hx hy)
  have HR := Lib.hid hr
  have hl := hr.len
  obtain ⟨A, cb, rfl, hcb, hrr⟩ := hr
  clear hrr hx hy
  have HM := Lib.hid (Mem.start w0)
  have HB := HM.out.below
  obtain ⟨l3, u3⟩ := b3
  obtain ⟨l4, u4⟩ := b4
  obtain ⟨l5, u5⟩ := b5
  obtain ⟨l6, u6⟩ := b6
  obtain ⟨l7, u7⟩ := b7
  obtain ⟨l8, u8⟩ := b8
  have k0 : Hid (0 ≤ n3 ∧ n3 < 256) := Lib.hid HNO.out.1
  have k1 : Hid (0 ≤ n4 ∧ n4 < 65536) := Lib.hid HNO.out.2.1
  have k2 : Hid (0 ≤ n5 ∧ n5 < 8) := Lib.hid HNO.out.2.2.1
  have k3 : Hid (0 ≤ n6 ∧ n6 < 8192) := Lib.hid HNO.out.2.2.2.1
  have k4 : Hid (0 ≤ n7 ∧ n7 < 256) := Lib.hid HNO.out.2.2.2.2.1
  have k5 : Hid (0 ≤ n8 ∧ n8 < 256) := Lib.hid HNO.out.2.2.2.2.2
  by_cases ks : widthA s x = 32
  case neg =>
    have HK : Hid ((widthA s x == 32) = false) := Lib.hid (beq_false_of_ne ks)
    clear ks
    go_enter Try.func24, Try.ntmps24
    go_wp2_with (first | refine m_rd ?_ | (refine m_wr ?_; clear HM HB; intro w b HM HB; try clear b) | (refine m_ap ?_; clear HM HB; intro w Aq cq HM HB) | fail)
    refine (fits_yes4 n3 8 8 rfl (by decide) _ k0.out.1 (by have := k0.out.2; simpa using this)).mono ?_
    rintro e w' ⟨rfl, rfl⟩
    go_wp2_with (first | refine m_rd ?_ | (refine m_wr ?_; clear HM HB; intro w b HM HB; try clear b) | (refine m_ap ?_; clear HM HB; intro w Aq cq HM HB) | fail)
    refine (fits_yes4 n4 16 16 rfl (by decide) _ k1.out.1 (by have := k1.out.2; simpa using this)).mono ?_
    rintro e w' ⟨rfl, rfl⟩
    go_wp2_with (first | refine m_rd ?_ | (refine m_wr ?_; clear HM HB; intro w b HM HB; try clear b) | (refine m_ap ?_; clear HM HB; intro w Aq cq HM HB) | fail)
    refine (fits_yes4 n5 3 3 rfl (by decide) _ k2.out.1 (by have := k2.out.2; simpa using this)).mono ?_
    rintro e w' ⟨rfl, rfl⟩
    go_wp2_with (first | refine m_rd ?_ | (refine m_wr ?_; clear HM HB; intro w b HM HB; try clear b) | (refine m_ap ?_; clear HM HB; intro w Aq cq HM HB) | fail)
    refine (fits_yes4 n6 13 13 rfl (by decide) _ k3.out.1 (by have := k3.out.2; simpa using this)).mono ?_
    rintro e w' ⟨rfl, rfl⟩
    go_wp2_with (first | refine m_rd ?_ | (refine m_wr ?_; clear HM HB; intro w b HM HB; try clear b) | (refine m_ap ?_; clear HM HB; intro w Aq cq HM HB) | fail)
    refine (fits_yes4 n7 8 8 rfl (by decide) _ k4.out.1 (by have := k4.out.2; simpa using this)).mono ?_
    rintro e w' ⟨rfl, rfl⟩
    go_wp2_with (first | refine m_rd ?_ | (refine m_wr ?_; clear HM HB; intro w b HM HB; try clear b) | (refine m_ap ?_; clear HM HB; intro w Aq cq HM HB) | fail)
    refine (fits_yes4 n8 8 8 rfl (by decide) _ k5.out.1 (by have := k5.out.2; simpa using this)).mono ?_
    rintro e w' ⟨rfl, rfl⟩
    go_wp2_with (first | refine m_rd ?_ | (refine m_wr ?_; clear HM HB; intro w b HM HB; try clear b) | (refine m_ap ?_; clear HM HB; intro w Aq cq HM HB) | fail)
    refine (own_any4 s x _ HX.out).mono ?_
    rintro e w ⟨rfl, hb⟩
    replace HM := Lib.hid (HM.out.call hb)
    replace HB := HM.out.below
    clear hb
    rw [HK.out]
    go_wp2_with (first | refine m_rd ?_ | (refine m_wr ?_; clear HM HB; intro w b HM HB; try clear b) | (refine m_ap ?_; clear HM HB; intro w Aq cq HM HB) | fail)
    go_ret2
    exact ⟨rfl, HB⟩
  have HS : Hid ((widthA s x == 32) = true) := Lib.hid (by rw [ks]; rfl)
  have HK : Hid ((widthA d y == 32) = false) := Lib.hid (beq_false_of_ne (fun e => HNA.out ⟨ks, e⟩))
  clear ks
  go_enter Try.func24, Try.ntmps24
  go_wp2_with (first | refine m_rd ?_ | (refine m_wr ?_; clear HM HB; intro w b HM HB; try clear b) | (refine m_ap ?_; clear HM HB; intro w Aq cq HM HB) | fail)
  refine (fits_yes4 n3 8 8 rfl (by decide) _ k0.out.1 (by have := k0.out.2; simpa using this)).mono ?_
  rintro e w' ⟨rfl, rfl⟩
  go_wp2_with (first | refine m_rd ?_ | (refine m_wr ?_; clear HM HB; intro w b HM HB; try clear b) | (refine m_ap ?_; clear HM HB; intro w Aq cq HM HB) | fail)
  refine (fits_yes4 n4 16 16 rfl (by decide) _ k1.out.1 (by have := k1.out.2; simpa using this)).mono ?_
  rintro e w' ⟨rfl, rfl⟩
  go_wp2_with (first | refine m_rd ?_ | (refine m_wr ?_; clear HM HB; intro w b HM HB; try clear b) | (refine m_ap ?_; clear HM HB; intro w Aq cq HM HB) | fail)
  refine (fits_yes4 n5 3 3 rfl (by decide) _ k2.out.1 (by have := k2.out.2; simpa using this)).mono ?_
  rintro e w' ⟨rfl, rfl⟩
  go_wp2_with (first | refine m_rd ?_ | (refine m_wr ?_; clear HM HB; intro w b HM HB; try clear b) | (refine m_ap ?_; clear HM HB; intro w Aq cq HM HB) | fail)
  refine (fits_yes4 n6 13 13 rfl (by decide) _ k3.out.1 (by have := k3.out.2; simpa using this)).mono ?_
  rintro e w' ⟨rfl, rfl⟩
  go_wp2_with (first | refine m_rd ?_ | (refine m_wr ?_; clear HM HB; intro w b HM HB; try clear b) | (refine m_ap ?_; clear HM HB; intro w Aq cq HM HB) | fail)
  refine (fits_yes4 n7 8 8 rfl (by decide) _ k4.out.1 (by have := k4.out.2; simpa using this)).mono ?_
  rintro e w' ⟨rfl, rfl⟩
  go_wp2_with (first | refine m_rd ?_ | (refine m_wr ?_; clear HM HB; intro w b HM HB; try clear b) | (refine m_ap ?_; clear HM HB; intro w Aq cq HM HB) | fail)
  refine (fits_yes4 n8 8 8 rfl (by decide) _ k5.out.1 (by have := k5.out.2; simpa using this)).mono ?_
  rintro e w' ⟨rfl, rfl⟩
  go_wp2_with (first | refine m_rd ?_ | (refine m_wr ?_; clear HM HB; intro w b HM HB; try clear b) | (refine m_ap ?_; clear HM HB; intro w Aq cq HM HB) | fail)
  refine (own_any4 s x _ HX.out).mono ?_
  rintro e w ⟨rfl, hb⟩
  replace HM := Lib.hid (HM.out.call hb)
  replace HB := HM.out.below
  clear hb
  rw [HS.out]
  go_wp2_with (first | refine m_rd ?_ | (refine m_wr ?_; clear HM HB; intro w b HM HB; try clear b) | (refine m_ap ?_; clear HM HB; intro w Aq cq HM HB) | fail)
  refine (own_any4 d y _ HY.out).mono ?_
  rintro e w ⟨rfl, hb⟩
  replace HM := Lib.hid (HM.out.call hb)
  replace HB := HM.out.below
  clear hb
  rw [HK.out]
  go_wp2_with (first | refine m_rd ?_ | (refine m_wr ?_; clear HM HB; intro w b HM HB; try clear b) | (refine m_ap ?_; clear HM HB; intro w Aq cq HM HB) | fail)
  go_ret2
  exact ⟨rfl, HB⟩

set_option maxHeartbeats 4000000 in
theorem refPut4_num (n0 n1 n2 n3 n4 n5 n6 n7 n8 s d : Int) (x y : List UInt8) (v : Value) (body : List UInt8) (w0 : World) (hr : RB w0 v body) (hx : x.length = 16) (hy : y.length = 16) (b3 : In64' n3) (b4 : In64' n4) (b5 : In64' n5) (b6 : In64' n6) (b7 : In64' n7) (b8 : In64' n8) (h : ¬ ((0 ≤ n3 ∧ n3 < 256) ∧ (0 ≤ n4 ∧ n4 < 65536) ∧ (0 ≤ n5 ∧ n5 < 8) ∧ (0 ≤ n6 ∧ n6 < 8192) ∧ (0 ≤ n7 ∧ n7 < 256) ∧ (0 ≤ n8 ∧ n8 < 256))) :
    Calls Try.prog 33 #[.agg (HV [n0, n1, n2, n3, n4, n5, n6, n7, n8] s x d y), v] w0 fun e w' => e = .returned (.tuple #[.slice none 0 0, .int .i64 1]) ∧ Below w0.heap.size w0 w' := by
  have HNO := Lib.hid h
  clear h
  have HX := Lib.hid hx
  have HY := Lib.hid hy
  have HC : Hid (Cells 31 (HV [n0, n1, n2, n3, n4, n5, n6, n7, n8] s x d y)) := Lib.hid (cellsH _ _ _ _ _ rfl hx hy)
  have HR := Lib.hid hr
  have hl := hr.len
  obtain ⟨A, cb, rfl, hcb, hrr⟩ := hr
  clear hrr hx hy
  have HM := Lib.hid (Mem.start w0)
  have HB := HM.out.below
  obtain ⟨l3, u3⟩ := b3
  obtain ⟨l4, u4⟩ := b4
  obtain ⟨l5, u5⟩ := b5
  obtain ⟨l6, u6⟩ := b6
  obtain ⟨l7, u7⟩ := b7
  obtain ⟨l8, u8⟩ := b8
  by_cases k0 : Hid (0 ≤ n3 ∧ n3 < 256)
  case neg =>
    have k0 : Hid (¬ (0 ≤ n3 ∧ n3 < 256)) := Lib.hid (fun h => k0 (Lib.hid h))
    go_enter Try.func33, Try.ntmps33
    go_wp2_with (first | refine m_rd ?_ | (refine m_wr ?_; clear HM HB; intro w b HM HB; try clear b) | (refine m_ap ?_; clear HM HB; intro w Aq cq HM HB) | fail)
    refine (from_no4 n3 255 _ (by have := k0.out; omega)).mono ?_
    rintro e w' ⟨rfl, rfl⟩
    go_wp2_with (first | refine m_rd ?_ | (refine m_wr ?_; clear HM HB; intro w b HM HB; try clear b) | (refine m_ap ?_; clear HM HB; intro w Aq cq HM HB) | fail)
    go_ret2
    exact ⟨rfl, HB⟩
  by_cases k4 : Hid (0 ≤ n7 ∧ n7 < 256)
  case neg =>
    have k4 : Hid (¬ (0 ≤ n7 ∧ n7 < 256)) := Lib.hid (fun h => k4 (Lib.hid h))
    go_enter Try.func33, Try.ntmps33
    go_wp2_with (first | refine m_rd ?_ | (refine m_wr ?_; clear HM HB; intro w b HM HB; try clear b) | (refine m_ap ?_; clear HM HB; intro w Aq cq HM HB) | fail)
    refine (from_yes4 n3 255 _ k0.out.1 (by have := k0.out.2; omega)).mono ?_
    rintro e w' ⟨rfl, rfl⟩
    go_wp2_with (first | refine m_rd ?_ | (refine m_wr ?_; clear HM HB; intro w b HM HB; try clear b) | (refine m_ap ?_; clear HM HB; intro w Aq cq HM HB) | fail)
    refine (from_no4 n7 255 _ (by have := k4.out; omega)).mono ?_
    rintro e w' ⟨rfl, rfl⟩
    go_wp2_with (first | refine m_rd ?_ | (refine m_wr ?_; clear HM HB; intro w b HM HB; try clear b) | (refine m_ap ?_; clear HM HB; intro w Aq cq HM HB) | fail)
    go_ret2
    exact ⟨rfl, HB⟩
  by_cases k5 : Hid (0 ≤ n8 ∧ n8 < 256)
  case neg =>
    have k5 : Hid (¬ (0 ≤ n8 ∧ n8 < 256)) := Lib.hid (fun h => k5 (Lib.hid h))
    go_enter Try.func33, Try.ntmps33
    go_wp2_with (first | refine m_rd ?_ | (refine m_wr ?_; clear HM HB; intro w b HM HB; try clear b) | (refine m_ap ?_; clear HM HB; intro w Aq cq HM HB) | fail)
    refine (from_yes4 n3 255 _ k0.out.1 (by have := k0.out.2; omega)).mono ?_
    rintro e w' ⟨rfl, rfl⟩
    go_wp2_with (first | refine m_rd ?_ | (refine m_wr ?_; clear HM HB; intro w b HM HB; try clear b) | (refine m_ap ?_; clear HM HB; intro w Aq cq HM HB) | fail)
    refine (from_yes4 n7 255 _ k4.out.1 (by have := k4.out.2; omega)).mono ?_
    rintro e w' ⟨rfl, rfl⟩
    go_wp2_with (first | refine m_rd ?_ | (refine m_wr ?_; clear HM HB; intro w b HM HB; try clear b) | (refine m_ap ?_; clear HM HB; intro w Aq cq HM HB) | fail)
    refine (from_no4 n8 255 _ (by have := k5.out; omega)).mono ?_
    rintro e w' ⟨rfl, rfl⟩
    go_wp2_with (first | refine m_rd ?_ | (refine m_wr ?_; clear HM HB; intro w b HM HB; try clear b) | (refine m_ap ?_; clear HM HB; intro w Aq cq HM HB) | fail)
    go_ret2
    exact ⟨rfl, HB⟩
  by_cases k1 : Hid (0 ≤ n4 ∧ n4 < 65536)
  case neg =>
    have k1 : Hid (¬ (0 ≤ n4 ∧ n4 < 65536)) := Lib.hid (fun h => k1 (Lib.hid h))
    go_enter Try.func33, Try.ntmps33
    go_wp2_with (first | refine m_rd ?_ | (refine m_wr ?_; clear HM HB; intro w b HM HB; try clear b) | (refine m_ap ?_; clear HM HB; intro w Aq cq HM HB) | fail)
    refine (from_yes4 n3 255 _ k0.out.1 (by have := k0.out.2; omega)).mono ?_
    rintro e w' ⟨rfl, rfl⟩
    go_wp2_with (first | refine m_rd ?_ | (refine m_wr ?_; clear HM HB; intro w b HM HB; try clear b) | (refine m_ap ?_; clear HM HB; intro w Aq cq HM HB) | fail)
    refine (from_yes4 n7 255 _ k4.out.1 (by have := k4.out.2; omega)).mono ?_
    rintro e w' ⟨rfl, rfl⟩
    go_wp2_with (first | refine m_rd ?_ | (refine m_wr ?_; clear HM HB; intro w b HM HB; try clear b) | (refine m_ap ?_; clear HM HB; intro w Aq cq HM HB) | fail)
    refine (from_yes4 n8 255 _ k5.out.1 (by have := k5.out.2; omega)).mono ?_
    rintro e w' ⟨rfl, rfl⟩
    go_wp2_with (first | refine m_rd ?_ | (refine m_wr ?_; clear HM HB; intro w b HM HB; try clear b) | (refine m_ap ?_; clear HM HB; intro w Aq cq HM HB) | fail)
    refine (from_no4 n4 65535 _ (by have := k1.out; omega)).mono ?_
    rintro e w' ⟨rfl, rfl⟩
    go_wp2_with (first | refine m_rd ?_ | (refine m_wr ?_; clear HM HB; intro w b HM HB; try clear b) | (refine m_ap ?_; clear HM HB; intro w Aq cq HM HB) | fail)
    go_ret2
    exact ⟨rfl, HB⟩
  by_cases k2 : Hid (0 ≤ n5 ∧ n5 < 8)
  case neg =>
    have k2 : Hid (¬ (0 ≤ n5 ∧ n5 < 8)) := Lib.hid (fun h => k2 (Lib.hid h))
    go_enter Try.func33, Try.ntmps33
    go_wp2_with (first | refine m_rd ?_ | (refine m_wr ?_; clear HM HB; intro w b HM HB; try clear b) | (refine m_ap ?_; clear HM HB; intro w Aq cq HM HB) | fail)
    refine (from_yes4 n3 255 _ k0.out.1 (by have := k0.out.2; omega)).mono ?_
    rintro e w' ⟨rfl, rfl⟩
    go_wp2_with (first | refine m_rd ?_ | (refine m_wr ?_; clear HM HB; intro w b HM HB; try clear b) | (refine m_ap ?_; clear HM HB; intro w Aq cq HM HB) | fail)
    refine (from_yes4 n7 255 _ k4.out.1 (by have := k4.out.2; omega)).mono ?_
    rintro e w' ⟨rfl, rfl⟩
    go_wp2_with (first | refine m_rd ?_ | (refine m_wr ?_; clear HM HB; intro w b HM HB; try clear b) | (refine m_ap ?_; clear HM HB; intro w Aq cq HM HB) | fail)
    refine (from_yes4 n8 255 _ k5.out.1 (by have := k5.out.2; omega)).mono ?_
    rintro e w' ⟨rfl, rfl⟩
    go_wp2_with (first | refine m_rd ?_ | (refine m_wr ?_; clear HM HB; intro w b HM HB; try clear b) | (refine m_ap ?_; clear HM HB; intro w Aq cq HM HB) | fail)
    refine (from_yes4 n4 65535 _ k1.out.1 (by have := k1.out.2; omega)).mono ?_
    rintro e w' ⟨rfl, rfl⟩
    go_wp2_with (first | refine m_rd ?_ | (refine m_wr ?_; clear HM HB; intro w b HM HB; try clear b) | (refine m_ap ?_; clear HM HB; intro w Aq cq HM HB) | fail)
    refine (from_no4 n5 7 _ (by have := k2.out; omega)).mono ?_
    rintro e w' ⟨rfl, rfl⟩
    go_wp2_with (first | refine m_rd ?_ | (refine m_wr ?_; clear HM HB; intro w b HM HB; try clear b) | (refine m_ap ?_; clear HM HB; intro w Aq cq HM HB) | fail)
    go_ret2
    exact ⟨rfl, HB⟩
  by_cases k3 : Hid (0 ≤ n6 ∧ n6 < 8192)
  case neg =>
    have k3 : Hid (¬ (0 ≤ n6 ∧ n6 < 8192)) := Lib.hid (fun h => k3 (Lib.hid h))
    go_enter Try.func33, Try.ntmps33
    go_wp2_with (first | refine m_rd ?_ | (refine m_wr ?_; clear HM HB; intro w b HM HB; try clear b) | (refine m_ap ?_; clear HM HB; intro w Aq cq HM HB) | fail)
    refine (from_yes4 n3 255 _ k0.out.1 (by have := k0.out.2; omega)).mono ?_
    rintro e w' ⟨rfl, rfl⟩
    go_wp2_with (first | refine m_rd ?_ | (refine m_wr ?_; clear HM HB; intro w b HM HB; try clear b) | (refine m_ap ?_; clear HM HB; intro w Aq cq HM HB) | fail)
    refine (from_yes4 n7 255 _ k4.out.1 (by have := k4.out.2; omega)).mono ?_
    rintro e w' ⟨rfl, rfl⟩
    go_wp2_with (first | refine m_rd ?_ | (refine m_wr ?_; clear HM HB; intro w b HM HB; try clear b) | (refine m_ap ?_; clear HM HB; intro w Aq cq HM HB) | fail)
    refine (from_yes4 n8 255 _ k5.out.1 (by have := k5.out.2; omega)).mono ?_
    rintro e w' ⟨rfl, rfl⟩
    go_wp2_with (first | refine m_rd ?_ | (refine m_wr ?_; clear HM HB; intro w b HM HB; try clear b) | (refine m_ap ?_; clear HM HB; intro w Aq cq HM HB) | fail)
    refine (from_yes4 n4 65535 _ k1.out.1 (by have := k1.out.2; omega)).mono ?_
    rintro e w' ⟨rfl, rfl⟩
    go_wp2_with (first | refine m_rd ?_ | (refine m_wr ?_; clear HM HB; intro w b HM HB; try clear b) | (refine m_ap ?_; clear HM HB; intro w Aq cq HM HB) | fail)
    refine (from_yes4 n5 7 _ k2.out.1 (by have := k2.out.2; omega)).mono ?_
    rintro e w' ⟨rfl, rfl⟩
    go_wp2_with (first | refine m_rd ?_ | (refine m_wr ?_; clear HM HB; intro w b HM HB; try clear b) | (refine m_ap ?_; clear HM HB; intro w Aq cq HM HB) | fail)
    refine (from_no4 n6 8191 _ (by have := k3.out; omega)).mono ?_
    rintro e w' ⟨rfl, rfl⟩
    go_wp2_with (first | refine m_rd ?_ | (refine m_wr ?_; clear HM HB; intro w b HM HB; try clear b) | (refine m_ap ?_; clear HM HB; intro w Aq cq HM HB) | fail)
    go_ret2
    exact ⟨rfl, HB⟩
  exact absurd ⟨k0.out, k1.out, k2.out, k3.out, k4.out, k5.out⟩ HNO.out

set_option maxHeartbeats 4000000 in
theorem refPut4_adr (n0 n1 n2 n3 n4 n5 n6 n7 n8 s d : Int) (x y : List UInt8) (v : Value) (body : List UInt8) (w0 : World) (hr : RB w0 v body) (hx : x.length = 16) (hy : y.length = 16) (b3 : In64' n3) (b4 : In64' n4) (b5 : In64' n5) (b6 : In64' n6) (b7 : In64' n7) (b8 : In64' n8) (h : (0 ≤ n3 ∧ n3 < 256) ∧ (0 ≤ n4 ∧ n4 < 65536) ∧ (0 ≤ n5 ∧ n5 < 8) ∧ (0 ≤ n6 ∧ n6 < 8192) ∧ (0 ≤ n7 ∧ n7 < 256) ∧ (0 ≤ n8 ∧ n8 < 256)) (ha : ¬ (widthA s x = 32 ∧ widthA d y = 32)) :
    Calls Try.prog 33 #[.agg (HV [n0, n1, n2, n3, n4, n5, n6, n7, n8] s x d y), v] w0 fun e w' => e = .returned (.tuple #[.slice none 0 0, .int .i64 1]) ∧ Below w0.heap.size w0 w' := by
  have HNO := Lib.hid h
  clear h
  have HNA := Lib.hid ha
  clear ha
  have HX := Lib.hid hx
  have HY := Lib.hid hy
  have HC : Hid (Cells 31 (HV [n0, n1, n2, n3, n4, n5, n6, n7, n8] s x d y)) := Lib.hid (cellsH _ _ _ _ _ rfl hx hy)
  have HR := Lib.hid hr
  have hl := hr.len
  obtain ⟨A, cb, rfl, hcb, hrr⟩ := hr
  clear hrr hx hy
  have HM := Lib.hid (Mem.start w0)
  have HB := HM.out.below
  obtain ⟨l3, u3⟩ := b3
  obtain ⟨l4, u4⟩ := b4
  obtain ⟨l5, u5⟩ := b5
  obtain ⟨l6, u6⟩ := b6
  obtain ⟨l7, u7⟩ := b7
  obtain ⟨l8, u8⟩ := b8
  have k0 : Hid (0 ≤ n3 ∧ n3 < 256) := Lib.hid HNO.out.1
  have k1 : Hid (0 ≤ n4 ∧ n4 < 65536) := Lib.hid HNO.out.2.1
  have k2 : Hid (0 ≤ n5 ∧ n5 < 8) := Lib.hid HNO.out.2.2.1
  have k3 : Hid (0 ≤ n6 ∧ n6 < 8192) := Lib.hid HNO.out.2.2.2.1
  have k4 : Hid (0 ≤ n7 ∧ n7 < 256) := Lib.hid HNO.out.2.2.2.2.1
  have k5 : Hid (0 ≤ n8 ∧ n8 < 256) := Lib.hid HNO.out.2.2.2.2.2
  by_cases ks : s = 4
  case neg =>
    have hk : (s != 4) = true := by simpa using ks
    clear ks
    go_enter Try.func33, Try.ntmps33
    go_wp2_with (first | refine m_rd ?_ | (refine m_wr ?_; clear HM HB; intro w b HM HB; try clear b) | (refine m_ap ?_; clear HM HB; intro w Aq cq HM HB) | fail)
    refine (from_yes4 n3 255 _ k0.out.1 (by have := k0.out.2; omega)).mono ?_
    rintro e w' ⟨rfl, rfl⟩
    go_wp2_with (first | refine m_rd ?_ | (refine m_wr ?_; clear HM HB; intro w b HM HB; try clear b) | (refine m_ap ?_; clear HM HB; intro w Aq cq HM HB) | fail)
    refine (from_yes4 n7 255 _ k4.out.1 (by have := k4.out.2; omega)).mono ?_
    rintro e w' ⟨rfl, rfl⟩
    go_wp2_with (first | refine m_rd ?_ | (refine m_wr ?_; clear HM HB; intro w b HM HB; try clear b) | (refine m_ap ?_; clear HM HB; intro w Aq cq HM HB) | fail)
    refine (from_yes4 n8 255 _ k5.out.1 (by have := k5.out.2; omega)).mono ?_
    rintro e w' ⟨rfl, rfl⟩
    go_wp2_with (first | refine m_rd ?_ | (refine m_wr ?_; clear HM HB; intro w b HM HB; try clear b) | (refine m_ap ?_; clear HM HB; intro w Aq cq HM HB) | fail)
    refine (from_yes4 n4 65535 _ k1.out.1 (by have := k1.out.2; omega)).mono ?_
    rintro e w' ⟨rfl, rfl⟩
    go_wp2_with (first | refine m_rd ?_ | (refine m_wr ?_; clear HM HB; intro w b HM HB; try clear b) | (refine m_ap ?_; clear HM HB; intro w Aq cq HM HB) | fail)
    refine (from_yes4 n5 7 _ k2.out.1 (by have := k2.out.2; omega)).mono ?_
    rintro e w' ⟨rfl, rfl⟩
    go_wp2_with (first | refine m_rd ?_ | (refine m_wr ?_; clear HM HB; intro w b HM HB; try clear b) | (refine m_ap ?_; clear HM HB; intro w Aq cq HM HB) | fail)
    refine (from_yes4 n6 8191 _ k3.out.1 (by have := k3.out.2; omega)).mono ?_
    rintro e w' ⟨rfl, rfl⟩
    go_wp2_with (first | refine m_rd ?_ | (refine m_wr ?_; clear HM HB; intro w b HM HB; try clear b) | (refine m_ap ?_; clear HM HB; intro w Aq cq HM HB) | fail)
    go_ret2
    exact ⟨rfl, HB⟩
  subst ks
  by_cases kd : d = 4
  case neg =>
    have hk : (d != 4) = true := by simpa using kd
    clear kd
    go_enter Try.func33, Try.ntmps33
    go_wp2_with (first | refine m_rd ?_ | (refine m_wr ?_; clear HM HB; intro w b HM HB; try clear b) | (refine m_ap ?_; clear HM HB; intro w Aq cq HM HB) | fail)
    refine (from_yes4 n3 255 _ k0.out.1 (by have := k0.out.2; omega)).mono ?_
    rintro e w' ⟨rfl, rfl⟩
    go_wp2_with (first | refine m_rd ?_ | (refine m_wr ?_; clear HM HB; intro w b HM HB; try clear b) | (refine m_ap ?_; clear HM HB; intro w Aq cq HM HB) | fail)
    refine (from_yes4 n7 255 _ k4.out.1 (by have := k4.out.2; omega)).mono ?_
    rintro e w' ⟨rfl, rfl⟩
    go_wp2_with (first | refine m_rd ?_ | (refine m_wr ?_; clear HM HB; intro w b HM HB; try clear b) | (refine m_ap ?_; clear HM HB; intro w Aq cq HM HB) | fail)
    refine (from_yes4 n8 255 _ k5.out.1 (by have := k5.out.2; omega)).mono ?_
    rintro e w' ⟨rfl, rfl⟩
    go_wp2_with (first | refine m_rd ?_ | (refine m_wr ?_; clear HM HB; intro w b HM HB; try clear b) | (refine m_ap ?_; clear HM HB; intro w Aq cq HM HB) | fail)
    refine (from_yes4 n4 65535 _ k1.out.1 (by have := k1.out.2; omega)).mono ?_
    rintro e w' ⟨rfl, rfl⟩
    go_wp2_with (first | refine m_rd ?_ | (refine m_wr ?_; clear HM HB; intro w b HM HB; try clear b) | (refine m_ap ?_; clear HM HB; intro w Aq cq HM HB) | fail)
    refine (from_yes4 n5 7 _ k2.out.1 (by have := k2.out.2; omega)).mono ?_
    rintro e w' ⟨rfl, rfl⟩
    go_wp2_with (first | refine m_rd ?_ | (refine m_wr ?_; clear HM HB; intro w b HM HB; try clear b) | (refine m_ap ?_; clear HM HB; intro w Aq cq HM HB) | fail)
    refine (from_yes4 n6 8191 _ k3.out.1 (by have := k3.out.2; omega)).mono ?_
    rintro e w' ⟨rfl, rfl⟩
    go_wp2_with (first | refine m_rd ?_ | (refine m_wr ?_; clear HM HB; intro w b HM HB; try clear b) | (refine m_ap ?_; clear HM HB; intro w Aq cq HM HB) | fail)
    go_ret2
    exact ⟨rfl, HB⟩
  subst kd
  by_cases kr : rightA 4 x = true
  case neg =>
    have HK : Hid (rightA 4 x = false) := Lib.hid (by simpa using kr)
    clear kr
    go_enter Try.func33, Try.ntmps33
    go_wp2_with (first | refine m_rd ?_ | (refine m_wr ?_; clear HM HB; intro w b HM HB; try clear b) | (refine m_ap ?_; clear HM HB; intro w Aq cq HM HB) | fail)
    refine (from_yes4 n3 255 _ k0.out.1 (by have := k0.out.2; omega)).mono ?_
    rintro e w' ⟨rfl, rfl⟩
    go_wp2_with (first | refine m_rd ?_ | (refine m_wr ?_; clear HM HB; intro w b HM HB; try clear b) | (refine m_ap ?_; clear HM HB; intro w Aq cq HM HB) | fail)
    refine (from_yes4 n7 255 _ k4.out.1 (by have := k4.out.2; omega)).mono ?_
    rintro e w' ⟨rfl, rfl⟩
    go_wp2_with (first | refine m_rd ?_ | (refine m_wr ?_; clear HM HB; intro w b HM HB; try clear b) | (refine m_ap ?_; clear HM HB; intro w Aq cq HM HB) | fail)
    refine (from_yes4 n8 255 _ k5.out.1 (by have := k5.out.2; omega)).mono ?_
    rintro e w' ⟨rfl, rfl⟩
    go_wp2_with (first | refine m_rd ?_ | (refine m_wr ?_; clear HM HB; intro w b HM HB; try clear b) | (refine m_ap ?_; clear HM HB; intro w Aq cq HM HB) | fail)
    refine (from_yes4 n4 65535 _ k1.out.1 (by have := k1.out.2; omega)).mono ?_
    rintro e w' ⟨rfl, rfl⟩
    go_wp2_with (first | refine m_rd ?_ | (refine m_wr ?_; clear HM HB; intro w b HM HB; try clear b) | (refine m_ap ?_; clear HM HB; intro w Aq cq HM HB) | fail)
    refine (from_yes4 n5 7 _ k2.out.1 (by have := k2.out.2; omega)).mono ?_
    rintro e w' ⟨rfl, rfl⟩
    go_wp2_with (first | refine m_rd ?_ | (refine m_wr ?_; clear HM HB; intro w b HM HB; try clear b) | (refine m_ap ?_; clear HM HB; intro w Aq cq HM HB) | fail)
    refine (from_yes4 n6 8191 _ k3.out.1 (by have := k3.out.2; omega)).mono ?_
    rintro e w' ⟨rfl, rfl⟩
    go_wp2_with (first | refine m_rd ?_ | (refine m_wr ?_; clear HM HB; intro w b HM HB; try clear b) | (refine m_ap ?_; clear HM HB; intro w Aq cq HM HB) | fail)
    refine (refRight_any 4 x _ HX.out).mono ?_
    rintro e w ⟨rfl, hb⟩
    replace HM := Lib.hid (HM.out.call hb)
    replace HB := HM.out.below
    clear hb
    rw [HK.out]
    go_wp2_with (first | refine m_rd ?_ | (refine m_wr ?_; clear HM HB; intro w b HM HB; try clear b) | (refine m_ap ?_; clear HM HB; intro w Aq cq HM HB) | fail)
    go_ret2
    exact ⟨rfl, HB⟩
  have HS : Hid (rightA 4 x = true) := Lib.hid kr
  have HK : Hid (rightA 4 y = false) := Lib.hid (by
    by_cases h : rightA 4 y = true
    · exact absurd ⟨(width32 4 x).2 ⟨rfl, kr⟩, (width32 4 y).2 ⟨rfl, h⟩⟩ HNA.out
    · simpa using h)
  clear kr
  go_enter Try.func33, Try.ntmps33
  go_wp2_with (first | refine m_rd ?_ | (refine m_wr ?_; clear HM HB; intro w b HM HB; try clear b) | (refine m_ap ?_; clear HM HB; intro w Aq cq HM HB) | fail)
  refine (from_yes4 n3 255 _ k0.out.1 (by have := k0.out.2; omega)).mono ?_
  rintro e w' ⟨rfl, rfl⟩
  go_wp2_with (first | refine m_rd ?_ | (refine m_wr ?_; clear HM HB; intro w b HM HB; try clear b) | (refine m_ap ?_; clear HM HB; intro w Aq cq HM HB) | fail)
  refine (from_yes4 n7 255 _ k4.out.1 (by have := k4.out.2; omega)).mono ?_
  rintro e w' ⟨rfl, rfl⟩
  go_wp2_with (first | refine m_rd ?_ | (refine m_wr ?_; clear HM HB; intro w b HM HB; try clear b) | (refine m_ap ?_; clear HM HB; intro w Aq cq HM HB) | fail)
  refine (from_yes4 n8 255 _ k5.out.1 (by have := k5.out.2; omega)).mono ?_
  rintro e w' ⟨rfl, rfl⟩
  go_wp2_with (first | refine m_rd ?_ | (refine m_wr ?_; clear HM HB; intro w b HM HB; try clear b) | (refine m_ap ?_; clear HM HB; intro w Aq cq HM HB) | fail)
  refine (from_yes4 n4 65535 _ k1.out.1 (by have := k1.out.2; omega)).mono ?_
  rintro e w' ⟨rfl, rfl⟩
  go_wp2_with (first | refine m_rd ?_ | (refine m_wr ?_; clear HM HB; intro w b HM HB; try clear b) | (refine m_ap ?_; clear HM HB; intro w Aq cq HM HB) | fail)
  refine (from_yes4 n5 7 _ k2.out.1 (by have := k2.out.2; omega)).mono ?_
  rintro e w' ⟨rfl, rfl⟩
  go_wp2_with (first | refine m_rd ?_ | (refine m_wr ?_; clear HM HB; intro w b HM HB; try clear b) | (refine m_ap ?_; clear HM HB; intro w Aq cq HM HB) | fail)
  refine (from_yes4 n6 8191 _ k3.out.1 (by have := k3.out.2; omega)).mono ?_
  rintro e w' ⟨rfl, rfl⟩
  go_wp2_with (first | refine m_rd ?_ | (refine m_wr ?_; clear HM HB; intro w b HM HB; try clear b) | (refine m_ap ?_; clear HM HB; intro w Aq cq HM HB) | fail)
  refine (refRight_any 4 x _ HX.out).mono ?_
  rintro e w ⟨rfl, hb⟩
  replace HM := Lib.hid (HM.out.call hb)
  replace HB := HM.out.below
  clear hb
  rw [HS.out]
  go_wp2_with (first | refine m_rd ?_ | (refine m_wr ?_; clear HM HB; intro w b HM HB; try clear b) | (refine m_ap ?_; clear HM HB; intro w Aq cq HM HB) | fail)
  refine (refRight_any 4 y _ HY.out).mono ?_
  rintro e w ⟨rfl, hb⟩
  replace HM := Lib.hid (HM.out.call hb)
  replace HB := HM.out.below
  clear hb
  rw [HK.out]
  go_wp2_with (first | refine m_rd ?_ | (refine m_wr ?_; clear HM HB; intro w b HM HB; try clear b) | (refine m_ap ?_; clear HM HB; intro w Aq cq HM HB) | fail)
  go_ret2
  exact ⟨rfl, HB⟩

end Go.Proofs.Ytahnibhcfdamdaa.Is
