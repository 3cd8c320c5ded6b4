/- Packages ipsix and its reference: the packet of a head and a body; PRINTED by gen_put.py. -/
import Derived.Test.YtahnibhcfdamdaaZc
set_option linter.unusedSimpArgs false
set_option linter.unusedVariables false
set_option maxRecDepth 100000
namespace Go.Proofs.Ytahnibhcfdamdaa.Is
open Go.RowKit Go.Proofs.YtahnibhcfdamdaaW.PrintWords Go.Proofs.Ytahnibhcfdamdaa.Bs Go.Proofs.Ytahnibhcfdamdaa.Av Go.Proofs.Ytahnibhcfdamdaa.Ad Go.Proofs.Ytahnibhcfdamdaa.Hd Go.Proofs.Ytahnibhcfdamdaa.Mm Go.Proofs.Ytahnibhcfdamdaa.Le Go.Proofs.Ytahnibhcfdamdaa.Ip Go.Proofs.Ytahnibhcfdamdaa.En Go.Proofs.Ytahnibhcfdamdaa.Co

set_option maxHeartbeats 1000000 in
theorem put6_arg (n0 n1 n2 n3 n4 n5 n6 n7 n8 s d : Int) (x y : List UInt8) (v : Value) (body : List UInt8) (w0 : World) (hr : RB w0 v body) (hx : x.length = 16) (hy : y.length = 16) (b3 : In64 n3) (b4 : In64 n4) (b7 : In64 n7) (b8 : In64 n8) (h : ¬ Ok6 n3 n4 n7 n8 s d) :
    Calls Try.prog 28 #[.agg (HV [n0, n1, n2, n3, n4, n5, n6, n7, n8] s x d y), v] w0 fun e w' => e = .returned (.tuple #[.slice none 0 0, .int .i64 1]) ∧ Below w0.heap.size w0 w' := by
  have HNO := Lib.hid h
  clear h
  have HX := Lib.hid hx
  have HY := Lib.hid hy
  have HC : Hid (Cells 31 (HV [n0, n1, n2, n3, n4, n5, n6, n7, n8] s x d y)) := Lib.hid (cellsH _ _ _ _ _ rfl hx hy)
  have HR := Lib.hid hr
  have hl := hr.len
  obtain ⟨A, cb, rfl, hcb, hrr⟩ := hr
  clear hrr hx hy
  have HM := Lib.hid (Mem.start w0)
  have HB := HM.out.below
  obtain ⟨l3, u3⟩ := b3
  obtain ⟨l4, u4⟩ := b4
  obtain ⟨l7, u7⟩ := b7
  obtain ⟨l8, u8⟩ := b8
  by_cases k0 : Hid (0 ≤ n3 ∧ n3 < 256)
  case neg =>
    have k0 : Hid (¬ (0 ≤ n3 ∧ n3 < 256)) := Lib.hid (fun h => k0 (Lib.hid h))
    go_enter Try.func28, Try.ntmps28
    go_wp2_with (first | refine m_rd ?_ | (refine m_wr ?_; clear HM HB; intro w b HM HB; try clear b) | (refine m_ap ?_; clear HM HB; intro w Aq cq HM HB) | fail)
    refine (fits_no6 n3 8 8 rfl (by decide) _ (by assumption) (by assumption) (by have := k0.out; simpa using this)).mono ?_
    rintro e w' ⟨rfl, rfl⟩
    go_wp2_with (first | refine m_rd ?_ | (refine m_wr ?_; clear HM HB; intro w b HM HB; try clear b) | (refine m_ap ?_; clear HM HB; intro w Aq cq HM HB) | fail)
    go_ret2
    exact ⟨rfl, HB⟩
  by_cases k1 : Hid (0 ≤ n4 ∧ n4 < 1048576)
  case neg =>
    have k1 : Hid (¬ (0 ≤ n4 ∧ n4 < 1048576)) := Lib.hid (fun h => k1 (Lib.hid h))
    go_enter Try.func28, Try.ntmps28
    go_wp2_with (first | refine m_rd ?_ | (refine m_wr ?_; clear HM HB; intro w b HM HB; try clear b) | (refine m_ap ?_; clear HM HB; intro w Aq cq HM HB) | fail)
    refine (fits_yes6 n3 8 8 rfl (by decide) _ k0.out.1 (by have := k0.out.2; simpa using this)).mono ?_
    rintro e w' ⟨rfl, rfl⟩
    go_wp2_with (first | refine m_rd ?_ | (refine m_wr ?_; clear HM HB; intro w b HM HB; try clear b) | (refine m_ap ?_; clear HM HB; intro w Aq cq HM HB) | fail)
    refine (fits_no6 n4 20 20 rfl (by decide) _ (by assumption) (by assumption) (by have := k1.out; simpa using this)).mono ?_
    rintro e w' ⟨rfl, rfl⟩
    go_wp2_with (first | refine m_rd ?_ | (refine m_wr ?_; clear HM HB; intro w b HM HB; try clear b) | (refine m_ap ?_; clear HM HB; intro w Aq cq HM HB) | fail)
    go_ret2
    exact ⟨rfl, HB⟩
  by_cases k2 : Hid (0 ≤ n7 ∧ n7 < 256)
  case neg =>
    have k2 : Hid (¬ (0 ≤ n7 ∧ n7 < 256)) := Lib.hid (fun h => k2 (Lib.hid h))
    go_enter Try.func28, Try.ntmps28
    go_wp2_with (first | refine m_rd ?_ | (refine m_wr ?_; clear HM HB; intro w b HM HB; try clear b) | (refine m_ap ?_; clear HM HB; intro w Aq cq HM HB) | fail)
    refine (fits_yes6 n3 8 8 rfl (by decide) _ k0.out.1 (by have := k0.out.2; simpa using this)).mono ?_
    rintro e w' ⟨rfl, rfl⟩
    go_wp2_with (first | refine m_rd ?_ | (refine m_wr ?_; clear HM HB; intro w b HM HB; try clear b) | (refine m_ap ?_; clear HM HB; intro w Aq cq HM HB) | fail)
    refine (fits_yes6 n4 20 20 rfl (by decide) _ k1.out.1 (by have := k1.out.2; simpa using this)).mono ?_
    rintro e w' ⟨rfl, rfl⟩
    go_wp2_with (first | refine m_rd ?_ | (refine m_wr ?_; clear HM HB; intro w b HM HB; try clear b) | (refine m_ap ?_; clear HM HB; intro w Aq cq HM HB) | fail)
    refine (fits_no6 n7 8 8 rfl (by decide) _ (by assumption) (by assumption) (by have := k2.out; simpa using this)).mono ?_
    rintro e w' ⟨rfl, rfl⟩
    go_wp2_with (first | refine m_rd ?_ | (refine m_wr ?_; clear HM HB; intro w b HM HB; try clear b) | (refine m_ap ?_; clear HM HB; intro w Aq cq HM HB) | fail)
    go_ret2
    exact ⟨rfl, HB⟩
  by_cases k3 : Hid (0 ≤ n8 ∧ n8 < 256)
  case neg =>
    have k3 : Hid (¬ (0 ≤ n8 ∧ n8 < 256)) := Lib.hid (fun h => k3 (Lib.hid h))
    go_enter Try.func28, Try.ntmps28
    go_wp2_with (first | refine m_rd ?_ | (refine m_wr ?_; clear HM HB; intro w b HM HB; try clear b) | (refine m_ap ?_; clear HM HB; intro w Aq cq HM HB) | fail)
    refine (fits_yes6 n3 8 8 rfl (by decide) _ k0.out.1 (by have := k0.out.2; simpa using this)).mono ?_
    rintro e w' ⟨rfl, rfl⟩
    go_wp2_with (first | refine m_rd ?_ | (refine m_wr ?_; clear HM HB; intro w b HM HB; try clear b) | (refine m_ap ?_; clear HM HB; intro w Aq cq HM HB) | fail)
    refine (fits_yes6 n4 20 20 rfl (by decide) _ k1.out.1 (by have := k1.out.2; simpa using this)).mono ?_
    rintro e w' ⟨rfl, rfl⟩
    go_wp2_with (first | refine m_rd ?_ | (refine m_wr ?_; clear HM HB; intro w b HM HB; try clear b) | (refine m_ap ?_; clear HM HB; intro w Aq cq HM HB) | fail)
    refine (fits_yes6 n7 8 8 rfl (by decide) _ k2.out.1 (by have := k2.out.2; simpa using this)).mono ?_
    rintro e w' ⟨rfl, rfl⟩
    go_wp2_with (first | refine m_rd ?_ | (refine m_wr ?_; clear HM HB; intro w b HM HB; try clear b) | (refine m_ap ?_; clear HM HB; intro w Aq cq HM HB) | fail)
    refine (fits_no6 n8 8 8 rfl (by decide) _ (by assumption) (by assumption) (by have := k3.out; simpa using this)).mono ?_
    rintro e w' ⟨rfl, rfl⟩
    go_wp2_with (first | refine m_rd ?_ | (refine m_wr ?_; clear HM HB; intro w b HM HB; try clear b) | (refine m_ap ?_; clear HM HB; intro w Aq cq HM HB) | fail)
    go_ret2
    exact ⟨rfl, HB⟩
  by_cases ks : s = 6
  case neg =>
    have HK : Hid ((widthA s x == 128) = false) := Lib.hid (by rw [width128, decide_eq_false ks])
    clear ks
    go_enter Try.func28, Try.ntmps28
    go_wp2_with (first | refine m_rd ?_ | (refine m_wr ?_; clear HM HB; intro w b HM HB; try clear b) | (refine m_ap ?_; clear HM HB; intro w Aq cq HM HB) | fail)
    refine (fits_yes6 n3 8 8 rfl (by decide) _ k0.out.1 (by have := k0.out.2; simpa using this)).mono ?_
    rintro e w' ⟨rfl, rfl⟩
    go_wp2_with (first | refine m_rd ?_ | (refine m_wr ?_; clear HM HB; intro w b HM HB; try clear b) | (refine m_ap ?_; clear HM HB; intro w Aq cq HM HB) | fail)
    refine (fits_yes6 n4 20 20 rfl (by decide) _ k1.out.1 (by have := k1.out.2; simpa using this)).mono ?_
    rintro e w' ⟨rfl, rfl⟩
    go_wp2_with (first | refine m_rd ?_ | (refine m_wr ?_; clear HM HB; intro w b HM HB; try clear b) | (refine m_ap ?_; clear HM HB; intro w Aq cq HM HB) | fail)
    refine (fits_yes6 n7 8 8 rfl (by decide) _ k2.out.1 (by have := k2.out.2; simpa using this)).mono ?_
    rintro e w' ⟨rfl, rfl⟩
    go_wp2_with (first | refine m_rd ?_ | (refine m_wr ?_; clear HM HB; intro w b HM HB; try clear b) | (refine m_ap ?_; clear HM HB; intro w Aq cq HM HB) | fail)
    refine (fits_yes6 n8 8 8 rfl (by decide) _ k3.out.1 (by have := k3.out.2; simpa using this)).mono ?_
    rintro e w' ⟨rfl, rfl⟩
    go_wp2_with (first | refine m_rd ?_ | (refine m_wr ?_; clear HM HB; intro w b HM HB; try clear b) | (refine m_ap ?_; clear HM HB; intro w Aq cq HM HB) | fail)
    refine (own_any6 s x _ HX.out).mono ?_
    rintro e w ⟨rfl, hb⟩
    replace HM := Lib.hid (HM.out.call hb)
    replace HB := HM.out.below
    clear hb
    rw [HK.out]
    go_wp2_with (first | refine m_rd ?_ | (refine m_wr ?_; clear HM HB; intro w b HM HB; try clear b) | (refine m_ap ?_; clear HM HB; intro w Aq cq HM HB) | fail)
    go_ret2
    exact ⟨rfl, HB⟩
  subst ks
  by_cases kd : d = 6
  case neg =>
    have HK : Hid ((widthA d y == 128) = false) := Lib.hid (by rw [width128, decide_eq_false kd])
    clear kd
    go_enter Try.func28, Try.ntmps28
    go_wp2_with (first | refine m_rd ?_ | (refine m_wr ?_; clear HM HB; intro w b HM HB; try clear b) | (refine m_ap ?_; clear HM HB; intro w Aq cq HM HB) | fail)
    refine (fits_yes6 n3 8 8 rfl (by decide) _ k0.out.1 (by have := k0.out.2; simpa using this)).mono ?_
    rintro e w' ⟨rfl, rfl⟩
    go_wp2_with (first | refine m_rd ?_ | (refine m_wr ?_; clear HM HB; intro w b HM HB; try clear b) | (refine m_ap ?_; clear HM HB; intro w Aq cq HM HB) | fail)
    refine (fits_yes6 n4 20 20 rfl (by decide) _ k1.out.1 (by have := k1.out.2; simpa using this)).mono ?_
    rintro e w' ⟨rfl, rfl⟩
    go_wp2_with (first | refine m_rd ?_ | (refine m_wr ?_; clear HM HB; intro w b HM HB; try clear b) | (refine m_ap ?_; clear HM HB; intro w Aq cq HM HB) | fail)
    refine (fits_yes6 n7 8 8 rfl (by decide) _ k2.out.1 (by have := k2.out.2; simpa using this)).mono ?_
    rintro e w' ⟨rfl, rfl⟩
    go_wp2_with (first | refine m_rd ?_ | (refine m_wr ?_; clear HM HB; intro w b HM HB; try clear b) | (refine m_ap ?_; clear HM HB; intro w Aq cq HM HB) | fail)
    refine (fits_yes6 n8 8 8 rfl (by decide) _ k3.out.1 (by have := k3.out.2; simpa using this)).mono ?_
    rintro e w' ⟨rfl, rfl⟩
    go_wp2_with (first | refine m_rd ?_ | (refine m_wr ?_; clear HM HB; intro w b HM HB; try clear b) | (refine m_ap ?_; clear HM HB; intro w Aq cq HM HB) | fail)
    refine (own_any6 6 x _ HX.out).mono ?_
    rintro e w ⟨rfl, hb⟩
    replace HM := Lib.hid (HM.out.call hb)
    replace HB := HM.out.below
    clear hb
    rw [width128]
    go_wp2_with (first | refine m_rd ?_ | (refine m_wr ?_; clear HM HB; intro w b HM HB; try clear b) | (refine m_ap ?_; clear HM HB; intro w Aq cq HM HB) | fail)
    refine (own_any6 d y _ HY.out).mono ?_
    rintro e w ⟨rfl, hb⟩
    replace HM := Lib.hid (HM.out.call hb)
    replace HB := HM.out.below
    clear hb
    rw [HK.out]
    go_wp2_with (first | refine m_rd ?_ | (refine m_wr ?_; clear HM HB; intro w b HM HB; try clear b) | (refine m_ap ?_; clear HM HB; intro w Aq cq HM HB) | fail)
    go_ret2
    exact ⟨rfl, HB⟩
  subst kd
  exact absurd ⟨k0.out, k1.out, k2.out, k3.out, rfl, rfl⟩ HNO.out

set_option maxHeartbeats 1000000 in
theorem put6_long (n0 n1 n2 n5 n6 : Int) (c i t p : Nat) (x y : List UInt8) (v : Value) (body : List UInt8) (w0 : World) (hr : RB w0 v body) (hx : x.length = 16) (hy : y.length = 16) (hc : c < 256) (hi : i < 1048576) (ht : t < 256) (hp : p < 256) (hb : 65495 < body.length) (hbb : body.length ≤ 1099511627776) :
    Calls Try.prog 28 #[.agg (HV [n0, n1, n2, c, i, n5, n6, t, p] 6 x 6 y), v] w0 fun e w' => e = .returned (.tuple #[.slice none 0 0, .int .i64 4]) ∧ Below w0.heap.size w0 w' := by
  have HX := Lib.hid hx
  have HY := Lib.hid hy
  have HC : Hid (Cells 31 (HV [n0, n1, n2, c, i, n5, n6, t, p] 6 x 6 y)) := Lib.hid (cellsH _ _ _ _ _ rfl hx hy)
  have HR := Lib.hid hr
  have hl := hr.len
  obtain ⟨A, cb, rfl, hcb, hrr⟩ := hr
  clear hrr hx hy
  have HM := Lib.hid (Mem.start w0)
  have HB := HM.out.below
  go_enter Try.func28, Try.ntmps28
  go_wp2_with (first | refine m_rd ?_ | (refine m_wr ?_; clear HM HB; intro w b HM HB; try clear b) | (refine m_ap ?_; clear HM HB; intro w Aq cq HM HB) | fail)
  refine (fits_yes6 c 8 8 rfl (by decide) _ (by omega) (by simp; omega)).mono ?_
  rintro e w' ⟨rfl, rfl⟩
  go_wp2_with (first | refine m_rd ?_ | (refine m_wr ?_; clear HM HB; intro w b HM HB; try clear b) | (refine m_ap ?_; clear HM HB; intro w Aq cq HM HB) | fail)
  refine (fits_yes6 i 20 20 rfl (by decide) _ (by omega) (by simp; omega)).mono ?_
  rintro e w' ⟨rfl, rfl⟩
  go_wp2_with (first | refine m_rd ?_ | (refine m_wr ?_; clear HM HB; intro w b HM HB; try clear b) | (refine m_ap ?_; clear HM HB; intro w Aq cq HM HB) | fail)
  refine (fits_yes6 t 8 8 rfl (by decide) _ (by omega) (by simp; omega)).mono ?_
  rintro e w' ⟨rfl, rfl⟩
  go_wp2_with (first | refine m_rd ?_ | (refine m_wr ?_; clear HM HB; intro w b HM HB; try clear b) | (refine m_ap ?_; clear HM HB; intro w Aq cq HM HB) | fail)
  refine (fits_yes6 p 8 8 rfl (by decide) _ (by omega) (by simp; omega)).mono ?_
  rintro e w' ⟨rfl, rfl⟩
  go_wp2_with (first | refine m_rd ?_ | (refine m_wr ?_; clear HM HB; intro w b HM HB; try clear b) | (refine m_ap ?_; clear HM HB; intro w Aq cq HM HB) | fail)
  refine (own_any6 6 x _ HX.out).mono ?_
  rintro e w ⟨rfl, hb⟩
  replace HM := Lib.hid (HM.out.call hb)
  replace HB := HM.out.below
  clear hb
  rw [width128]
  go_wp2_with (first | refine m_rd ?_ | (refine m_wr ?_; clear HM HB; intro w b HM HB; try clear b) | (refine m_ap ?_; clear HM HB; intro w Aq cq HM HB) | fail)
  refine (own_any6 6 y _ HY.out).mono ?_
  rintro e w ⟨rfl, hb⟩
  replace HM := Lib.hid (HM.out.call hb)
  replace HB := HM.out.below
  clear hb
  rw [width128]
  go_wp2_with (first | refine m_rd ?_ | (refine m_wr ?_; clear HM HB; intro w b HM HB; try clear b) | (refine m_ap ?_; clear HM HB; intro w Aq cq HM HB) | fail)
  go_ret2
  exact ⟨rfl, HB⟩

set_option maxHeartbeats 1000000 in
theorem refPut6_arg (n0 n1 n2 n3 n4 n5 n6 n7 n8 s d : Int) (x y : List UInt8) (v : Value) (body : List UInt8) (w0 : World) (hr : RB w0 v body) (hx : x.length = 16) (hy : y.length = 16) (b3 : In64 n3) (b4 : In64 n4) (b7 : In64 n7) (b8 : In64 n8) (h : ¬ Ok6 n3 n4 n7 n8 s d) :
    Calls Try.prog 29 #[.agg (HV [n0, n1, n2, n3, n4, n5, n6, n7, n8] s x d y), v] w0 fun e w' => e = .returned (.tuple #[.slice none 0 0, .int .i64 1]) ∧ Below w0.heap.size w0 w' := by
  have HNO := Lib.hid h
  clear h
  have HX := Lib.hid hx
  have HY := Lib.hid hy
  have HC : Hid (Cells 31 (HV [n0, n1, n2, n3, n4, n5, n6, n7, n8] s x d y)) := Lib.hid (cellsH _ _ _ _ _ rfl hx hy)
  have HR := Lib.hid hr
  have hl := hr.len
  obtain ⟨A, cb, rfl, hcb, hrr⟩ := hr
  clear hrr hx hy
  have HM := Lib.hid (Mem.start w0)
  have HB := HM.out.below
  obtain ⟨l3, u3⟩ := b3
  obtain ⟨l4, u4⟩ := b4
  obtain ⟨l7, u7⟩ := b7
  obtain ⟨l8, u8⟩ := b8
  by_cases k0 : Hid (0 ≤ n3 ∧ n3 < 256)
  case neg =>
    have k0 : Hid (¬ (0 ≤ n3 ∧ n3 < 256)) := Lib.hid (fun h => k0 (Lib.hid h))
    go_enter Try.func29, Try.ntmps29
    go_wp2_with (first | refine m_rd ?_ | (refine m_wr ?_; clear HM HB; intro w b HM HB; try clear b) | (refine m_ap ?_; clear HM HB; intro w Aq cq HM HB) | fail)
    refine (from_no6 n3 255 _ (by have := k0.out; omega)).mono ?_
    rintro e w' ⟨rfl, rfl⟩
    go_wp2_with (first | refine m_rd ?_ | (refine m_wr ?_; clear HM HB; intro w b HM HB; try clear b) | (refine m_ap ?_; clear HM HB; intro w Aq cq HM HB) | fail)
    go_ret2
    exact ⟨rfl, HB⟩
  by_cases k2 : Hid (0 ≤ n7 ∧ n7 < 256)
  case neg =>
    have k2 : Hid (¬ (0 ≤ n7 ∧ n7 < 256)) := Lib.hid (fun h => k2 (Lib.hid h))
    go_enter Try.func29, Try.ntmps29
    go_wp2_with (first | refine m_rd ?_ | (refine m_wr ?_; clear HM HB; intro w b HM HB; try clear b) | (refine m_ap ?_; clear HM HB; intro w Aq cq HM HB) | fail)
    refine (from_yes6 n3 255 _ k0.out.1 (by have := k0.out.2; omega)).mono ?_
    rintro e w' ⟨rfl, rfl⟩
    go_wp2_with (first | refine m_rd ?_ | (refine m_wr ?_; clear HM HB; intro w b HM HB; try clear b) | (refine m_ap ?_; clear HM HB; intro w Aq cq HM HB) | fail)
    refine (from_no6 n7 255 _ (by have := k2.out; omega)).mono ?_
    rintro e w' ⟨rfl, rfl⟩
    go_wp2_with (first | refine m_rd ?_ | (refine m_wr ?_; clear HM HB; intro w b HM HB; try clear b) | (refine m_ap ?_; clear HM HB; intro w Aq cq HM HB) | fail)
    go_ret2
    exact ⟨rfl, HB⟩
  by_cases k3 : Hid (0 ≤ n8 ∧ n8 < 256)
  case neg =>
    have k3 : Hid (¬ (0 ≤ n8 ∧ n8 < 256)) := Lib.hid (fun h => k3 (Lib.hid h))
    go_enter Try.func29, Try.ntmps29
    go_wp2_with (first | refine m_rd ?_ | (refine m_wr ?_; clear HM HB; intro w b HM HB; try clear b) | (refine m_ap ?_; clear HM HB; intro w Aq cq HM HB) | fail)
    refine (from_yes6 n3 255 _ k0.out.1 (by have := k0.out.2; omega)).mono ?_
    rintro e w' ⟨rfl, rfl⟩
    go_wp2_with (first | refine m_rd ?_ | (refine m_wr ?_; clear HM HB; intro w b HM HB; try clear b) | (refine m_ap ?_; clear HM HB; intro w Aq cq HM HB) | fail)
    refine (from_yes6 n7 255 _ k2.out.1 (by have := k2.out.2; omega)).mono ?_
    rintro e w' ⟨rfl, rfl⟩
    go_wp2_with (first | refine m_rd ?_ | (refine m_wr ?_; clear HM HB; intro w b HM HB; try clear b) | (refine m_ap ?_; clear HM HB; intro w Aq cq HM HB) | fail)
    refine (from_no6 n8 255 _ (by have := k3.out; omega)).mono ?_
    rintro e w' ⟨rfl, rfl⟩
    go_wp2_with (first | refine m_rd ?_ | (refine m_wr ?_; clear HM HB; intro w b HM HB; try clear b) | (refine m_ap ?_; clear HM HB; intro w Aq cq HM HB) | fail)
    go_ret2
    exact ⟨rfl, HB⟩
  by_cases k1 : Hid (0 ≤ n4 ∧ n4 < 1048576)
  case neg =>
    have k1 : Hid (¬ (0 ≤ n4 ∧ n4 < 1048576)) := Lib.hid (fun h => k1 (Lib.hid h))
    go_enter Try.func29, Try.ntmps29
    go_wp2_with (first | refine m_rd ?_ | (refine m_wr ?_; clear HM HB; intro w b HM HB; try clear b) | (refine m_ap ?_; clear HM HB; intro w Aq cq HM HB) | fail)
    refine (from_yes6 n3 255 _ k0.out.1 (by have := k0.out.2; omega)).mono ?_
    rintro e w' ⟨rfl, rfl⟩
    go_wp2_with (first | refine m_rd ?_ | (refine m_wr ?_; clear HM HB; intro w b HM HB; try clear b) | (refine m_ap ?_; clear HM HB; intro w Aq cq HM HB) | fail)
    refine (from_yes6 n7 255 _ k2.out.1 (by have := k2.out.2; omega)).mono ?_
    rintro e w' ⟨rfl, rfl⟩
    go_wp2_with (first | refine m_rd ?_ | (refine m_wr ?_; clear HM HB; intro w b HM HB; try clear b) | (refine m_ap ?_; clear HM HB; intro w Aq cq HM HB) | fail)
    refine (from_yes6 n8 255 _ k3.out.1 (by have := k3.out.2; omega)).mono ?_
    rintro e w' ⟨rfl, rfl⟩
    go_wp2_with (first | refine m_rd ?_ | (refine m_wr ?_; clear HM HB; intro w b HM HB; try clear b) | (refine m_ap ?_; clear HM HB; intro w Aq cq HM HB) | fail)
    refine (from_no6 n4 1048575 _ (by have := k1.out; omega)).mono ?_
    rintro e w' ⟨rfl, rfl⟩
    go_wp2_with (first | refine m_rd ?_ | (refine m_wr ?_; clear HM HB; intro w b HM HB; try clear b) | (refine m_ap ?_; clear HM HB; intro w Aq cq HM HB) | fail)
    go_ret2
    exact ⟨rfl, HB⟩
  by_cases ks : s = 6
  case neg =>
    have hk : (s != 6) = true := by simpa using ks
    clear ks
    go_enter Try.func29, Try.ntmps29
    go_wp2_with (first | refine m_rd ?_ | (refine m_wr ?_; clear HM HB; intro w b HM HB; try clear b) | (refine m_ap ?_; clear HM HB; intro w Aq cq HM HB) | fail)
    refine (from_yes6 n3 255 _ k0.out.1 (by have := k0.out.2; omega)).mono ?_
    rintro e w' ⟨rfl, rfl⟩
    go_wp2_with (first | refine m_rd ?_ | (refine m_wr ?_; clear HM HB; intro w b HM HB; try clear b) | (refine m_ap ?_; clear HM HB; intro w Aq cq HM HB) | fail)
    refine (from_yes6 n7 255 _ k2.out.1 (by have := k2.out.2; omega)).mono ?_
    rintro e w' ⟨rfl, rfl⟩
    go_wp2_with (first | refine m_rd ?_ | (refine m_wr ?_; clear HM HB; intro w b HM HB; try clear b) | (refine m_ap ?_; clear HM HB; intro w Aq cq HM HB) | fail)
    refine (from_yes6 n8 255 _ k3.out.1 (by have := k3.out.2; omega)).mono ?_
    rintro e w' ⟨rfl, rfl⟩
    go_wp2_with (first | refine m_rd ?_ | (refine m_wr ?_; clear HM HB; intro w b HM HB; try clear b) | (refine m_ap ?_; clear HM HB; intro w Aq cq HM HB) | fail)
    refine (from_yes6 n4 1048575 _ k1.out.1 (by have := k1.out.2; omega)).mono ?_
    rintro e w' ⟨rfl, rfl⟩
    go_wp2_with (first | refine m_rd ?_ | (refine m_wr ?_; clear HM HB; intro w b HM HB; try clear b) | (refine m_ap ?_; clear HM HB; intro w Aq cq HM HB) | fail)
    go_ret2
    exact ⟨rfl, HB⟩
  subst ks
  by_cases kd : d = 6
  case neg =>
    have hk : (d != 6) = true := by simpa using kd
    clear kd
    go_enter Try.func29, Try.ntmps29
    go_wp2_with (first | refine m_rd ?_ | (refine m_wr ?_; clear HM HB; intro w b HM HB; try clear b) | (refine m_ap ?_; clear HM HB; intro w Aq cq HM HB) | fail)
    refine (from_yes6 n3 255 _ k0.out.1 (by have := k0.out.2; omega)).mono ?_
    rintro e w' ⟨rfl, rfl⟩
    go_wp2_with (first | refine m_rd ?_ | (refine m_wr ?_; clear HM HB; intro w b HM HB; try clear b) | (refine m_ap ?_; clear HM HB; intro w Aq cq HM HB) | fail)
    refine (from_yes6 n7 255 _ k2.out.1 (by have := k2.out.2; omega)).mono ?_
    rintro e w' ⟨rfl, rfl⟩
    go_wp2_with (first | refine m_rd ?_ | (refine m_wr ?_; clear HM HB; intro w b HM HB; try clear b) | (refine m_ap ?_; clear HM HB; intro w Aq cq HM HB) | fail)
    refine (from_yes6 n8 255 _ k3.out.1 (by have := k3.out.2; omega)).mono ?_
    rintro e w' ⟨rfl, rfl⟩
    go_wp2_with (first | refine m_rd ?_ | (refine m_wr ?_; clear HM HB; intro w b HM HB; try clear b) | (refine m_ap ?_; clear HM HB; intro w Aq cq HM HB) | fail)
    refine (from_yes6 n4 1048575 _ k1.out.1 (by have := k1.out.2; omega)).mono ?_
    rintro e w' ⟨rfl, rfl⟩
    go_wp2_with (first | refine m_rd ?_ | (refine m_wr ?_; clear HM HB; intro w b HM HB; try clear b) | (refine m_ap ?_; clear HM HB; intro w Aq cq HM HB) | fail)
    go_ret2
    exact ⟨rfl, HB⟩
  subst kd
  exact absurd ⟨k0.out, k1.out, k2.out, k3.out, rfl, rfl⟩ HNO.out

set_option maxHeartbeats 1000000 in
theorem refPut6_long (n0 n1 n2 n5 n6 : Int) (c i t p : Nat) (x y : List UInt8) (v : Value) (body : List UInt8) (w0 : World) (hr : RB w0 v body) (hx : x.length = 16) (hy : y.length = 16) (hc : c < 256) (hi : i < 1048576) (ht : t < 256) (hp : p < 256) (hb : 65495 < body.length) (hbb : body.length ≤ 1099511627776) :
    Calls Try.prog 29 #[.agg (HV [n0, n1, n2, c, i, n5, n6, t, p] 6 x 6 y), v] w0 fun e w' => e = .returned (.tuple #[.slice none 0 0, .int .i64 4]) ∧ Below w0.heap.size w0 w' := by
  have HX := Lib.hid hx
  have HY := Lib.hid hy
  have HC : Hid (Cells 31 (HV [n0, n1, n2, c, i, n5, n6, t, p] 6 x 6 y)) := Lib.hid (cellsH _ _ _ _ _ rfl hx hy)
  have HR := Lib.hid hr
  have hl := hr.len
  obtain ⟨A, cb, rfl, hcb, hrr⟩ := hr
  clear hrr hx hy
  have HM := Lib.hid (Mem.start w0)
  have HB := HM.out.below
  go_enter Try.func29, Try.ntmps29
  go_wp2_with (first | refine m_rd ?_ | (refine m_wr ?_; clear HM HB; intro w b HM HB; try clear b) | (refine m_ap ?_; clear HM HB; intro w Aq cq HM HB) | fail)
  refine (from_yes6 c 255 _ (by omega) (by omega)).mono ?_
  rintro e w' ⟨rfl, rfl⟩
  go_wp2_with (first | refine m_rd ?_ | (refine m_wr ?_; clear HM HB; intro w b HM HB; try clear b) | (refine m_ap ?_; clear HM HB; intro w Aq cq HM HB) | fail)
  refine (from_yes6 t 255 _ (by omega) (by omega)).mono ?_
  rintro e w' ⟨rfl, rfl⟩
  go_wp2_with (first | refine m_rd ?_ | (refine m_wr ?_; clear HM HB; intro w b HM HB; try clear b) | (refine m_ap ?_; clear HM HB; intro w Aq cq HM HB) | fail)
  refine (from_yes6 p 255 _ (by omega) (by omega)).mono ?_
  rintro e w' ⟨rfl, rfl⟩
  go_wp2_with (first | refine m_rd ?_ | (refine m_wr ?_; clear HM HB; intro w b HM HB; try clear b) | (refine m_ap ?_; clear HM HB; intro w Aq cq HM HB) | fail)
  refine (from_yes6 i 1048575 _ (by omega) (by omega)).mono ?_
  rintro e w' ⟨rfl, rfl⟩
  go_wp2_with (first | refine m_rd ?_ | (refine m_wr ?_; clear HM HB; intro w b HM HB; try clear b) | (refine m_ap ?_; clear HM HB; intro w Aq cq HM HB) | fail)
  go_ret2
  exact ⟨rfl, HB⟩

end Go.Proofs.Ytahnibhcfdamdaa.Is
