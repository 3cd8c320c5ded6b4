/- Package ipfour: the packet of a right head and a body; PRINTED by gen_put4.py. -/
import Derived.Test.YtahnibhcfdamdaaJf
set_option linter.unusedSimpArgs false
set_option linter.unusedVariables false
set_option maxRecDepth 100000
namespace Go.Proofs.Ytahnibhcfdamdaa.Is
open Go.RowKit Go.Proofs.YtahnibhcfdamdaaW.PrintWords Go.Proofs.Ytahnibhcfdamdaa.Bs Go.Proofs.Ytahnibhcfdamdaa.Av Go.Proofs.Ytahnibhcfdamdaa.Ad Go.Proofs.Ytahnibhcfdamdaa.Hd Go.Proofs.Ytahnibhcfdamdaa.Mm Go.Proofs.Ytahnibhcfdamdaa.Le Go.Proofs.Ytahnibhcfdamdaa.Ip Go.Proofs.Ytahnibhcfdamdaa.En Go.Proofs.Ytahnibhcfdamdaa.Co Go.Proofs.Ytahnibhcfdamdaa.Os
set_option maxHeartbeats 4000000 in
theorem put4_ok (n0 n1 n2 : Int) (c i f r t p : Nat) (x y : List UInt8) (v : Value) (body : List UInt8) (w0 : World) (hr : RB w0 v body) (hx : x.length = 16) (hy : y.length = 16) (hc : c < 256) (hi : i < 65536) (hf : f < 8) (hrr : r < 8192) (ht : t < 256) (hp : p < 256) (wx : widthA 4 x = 32) (wy : widthA 4 y = 32) (hb : body.length ≤ 65515) :
    Calls Try.prog 24 #[.agg (HV [n0, n1, n2, c, i, f, r, t, p] 4 x 4 y), v] w0 (RowTup w0 (all4 c i f r t p (x.take 4) (y.take 4) body)) := by
  have HWX : Hid ((widthA 4 x == 32) = true) := Lib.hid (by rw [wx]; rfl)
  have HWY : Hid ((widthA 4 y == 32) = true) := Lib.hid (by rw [wy]; rfl)
  have HBX := Lib.hid (bytesA4 x wx)
  have HBY := Lib.hid (bytesA4 y wy)
  have HL4 : Hid ((x.take 4).length = 4 ∧ (y.take 4).length = 4) := Lib.hid ⟨by simp; omega, by simp; omega⟩
  have HBL : Hid ((bare4 c (20 + body.length) i f r t p (x.take 4) (y.take 4)).length = 20) := Lib.hid (bare4_length _ _ _ _ _ _ _ _ _ HL4.out.1 HL4.out.2)
  have hq1 : 20 + body.length < 65536 := by omega
  have hq2 : 8192 * f + r < 65536 := by omega
  have LT1 : Hid (LitOf 12 #[(0, .int .u8 69), (1, .int .u8 (c : Int)), (2, .int .u8 ((20 + (body.length : Int)) / 256)), (3, .int .u8 ((20 + (body.length : Int)) % 256)), (4, .int .u8 ((i : Int) / 256)), (5, .int .u8 ((i : Int) % 256)), (6, .int .u8 (((8192 * f + r : Nat) : Int) / 256)), (7, .int .u8 (((8192 * f + r : Nat) : Int) % 256)), (8, .int .u8 (t : Int)), (9, .int .u8 (p : Int)), (10, .int .u8 0), (11, .int .u8 0)] (raw4 c (20 + body.length) i f r t p)) := Lib.hid ⟨rfl, by decide, fun W => by
    rw [raw4_cells c (20 + body.length) i f r t p hc hq1 hi hf hrr ht hp]
    exact bytes12 _ _ _ _ _ _ _ _ _ _ _ _ W⟩
  have HSET := Lib.hid (head4_set c (20 + body.length) i f r t p (x.take 4) (y.take 4))
  have HSUM : Hid (65535 - sum16 (bare4 c (20 + body.length) i f r t p (x.take 4) (y.take 4)) < 65536) := Lib.hid (by omega)
  have HALL : Hid (all4 c i f r t p (x.take 4) (y.take 4) body = head4 c (20 + body.length) i f r t p (x.take 4) (y.take 4) ++ body) := Lib.hid rfl
  generalize all4 c i f r t p (x.take 4) (y.take 4) body = L at HALL ⊢
  have HH20 : Hid ((head4 c (20 + body.length) i f r t p (x.take 4) (y.take 4)).length = 20) := Lib.hid (by unfold head4; rw [filled_length, HBL.out])
  clear wx wy
  have HX := Lib.hid hx
  have HY := Lib.hid hy
  have HC : Hid (Cells 31 (HV [n0, n1, n2, c, i, f, r, t, p] 4 x 4 y)) := Lib.hid (cellsH _ _ _ _ _ rfl hx hy)
  have HR := Lib.hid hr
  have hl := hr.len
  obtain ⟨A, cb, rfl, hcb, hrx⟩ := hr
  clear hrx hx hy
  have HM := Lib.hid (Mem.start w0)
  have HB := HM.out.below
  have hor : Go.bits .or .i64 ((f : Int) * 8192) (r : Int) = ((8192 * f + r : Nat) : Int) := by
    have h := i64_join f r 13 hrr (by omega)
    rw [show (2 : Nat) ^ 13 = 8192 from rfl] at h
    rw [show ((f : Int) * 8192) = ((f * 8192 : Nat) : Int) by omega, h]
    congr 1
    omega
  have HFL2 : Hid (raw4 c (20 + body.length) i f r t p ++ x.take 4 ++ y.take 4 = bare4 c (20 + body.length) i f r t p (x.take 4) (y.take 4)) := Lib.hid rfl
  have HFL : Hid ([raw4 c (20 + body.length) i f r t p, x.take 4, y.take 4].flatten = bare4 c (20 + body.length) i f r t p (x.take 4) (y.take 4)) := Lib.hid (by simp [bare4])
  have HLEN : Hid ([raw4 c (20 + body.length) i f r t p, x.take 4, y.take 4].flatten.length ≤ 1099511627776) := Lib.hid (by rw [HFL.out, HBL.out]; decide)
  have HS1 : Hid ([bare4 c (20 + body.length) i f r t p (x.take 4) (y.take 4)].flatten = bare4 c (20 + body.length) i f r t p (x.take 4) (y.take 4)) := Lib.hid (by simp)
  have HN1 : Hid ((raw4 c (20 + body.length) i f r t p).length + (x.take 4).length = 16) := Lib.hid (by rw [HL4.out.1]; rfl)
  have HN2 : Hid ((raw4 c (20 + body.length) i f r t p ++ x.take 4).length + (y.take 4).length = 20) := Lib.hid (by rw [List.length_append, HL4.out.1, HL4.out.2]; rfl)
  have HN3 : Hid ((head4 c (20 + body.length) i f r t p (x.take 4) (y.take 4)).length + body.length = 20 + body.length) := Lib.hid (by rw [HH20.out])
  have HFR : ∃ fr : Nat, Hid (8192 * f + r = fr) := ⟨_, Lib.hid rfl⟩
  obtain ⟨fr, HFR⟩ := HFR
  rw [HFR.out] at hor hq2 LT1
  generalize head4 c (20 + body.length) i f r t p (x.take 4) (y.take 4) = Hq at HSET HALL HH20 HN3
  generalize bare4 c (20 + body.length) i f r t p (x.take 4) (y.take 4) = Bq at HSET HSUM HBL HFL HFL2 HS1
  generalize raw4 c (20 + body.length) i f r t p = R at LT1 HFL HFL2 HLEN HN1 HN2
  generalize x.take 4 = X4 at HBX HL4 HFL HFL2 HLEN HN1 HN2
  generalize y.take 4 = Y4 at HBY HL4 HFL HFL2 HLEN HN2
  go_enter Try.func24, Try.ntmps24
  go_wp2_with (first | refine m_rd ?_ | (refine m_wr ?_; clear HM HB; intro w b HM HB; try clear b) | (refine m_ap ?_; clear HM HB; intro w Aq cq HM HB) | fail)
  refine (fits_yes4 c 8 8 rfl (by decide) _ (by omega) (by simp; omega)).mono ?_
  rintro e w' ⟨rfl, rfl⟩
  go_wp2_with (first | refine m_rd ?_ | (refine m_wr ?_; clear HM HB; intro w b HM HB; try clear b) | (refine m_ap ?_; clear HM HB; intro w Aq cq HM HB) | fail)
  refine (fits_yes4 i 16 16 rfl (by decide) _ (by omega) (by simp; omega)).mono ?_
  rintro e w' ⟨rfl, rfl⟩
  go_wp2_with (first | refine m_rd ?_ | (refine m_wr ?_; clear HM HB; intro w b HM HB; try clear b) | (refine m_ap ?_; clear HM HB; intro w Aq cq HM HB) | fail)
  refine (fits_yes4 f 3 3 rfl (by decide) _ (by omega) (by simp; omega)).mono ?_
  rintro e w' ⟨rfl, rfl⟩
  go_wp2_with (first | refine m_rd ?_ | (refine m_wr ?_; clear HM HB; intro w b HM HB; try clear b) | (refine m_ap ?_; clear HM HB; intro w Aq cq HM HB) | fail)
  refine (fits_yes4 r 13 13 rfl (by decide) _ (by omega) (by simp; omega)).mono ?_
  rintro e w' ⟨rfl, rfl⟩
  go_wp2_with (first | refine m_rd ?_ | (refine m_wr ?_; clear HM HB; intro w b HM HB; try clear b) | (refine m_ap ?_; clear HM HB; intro w Aq cq HM HB) | fail)
  refine (fits_yes4 t 8 8 rfl (by decide) _ (by omega) (by simp; omega)).mono ?_
  rintro e w' ⟨rfl, rfl⟩
  go_wp2_with (first | refine m_rd ?_ | (refine m_wr ?_; clear HM HB; intro w b HM HB; try clear b) | (refine m_ap ?_; clear HM HB; intro w Aq cq HM HB) | fail)
  refine (fits_yes4 p 8 8 rfl (by decide) _ (by omega) (by simp; omega)).mono ?_
  rintro e w' ⟨rfl, rfl⟩
  go_wp2_with (first | refine m_rd ?_ | (refine m_wr ?_; clear HM HB; intro w b HM HB; try clear b) | (refine m_ap ?_; clear HM HB; intro w Aq cq HM HB) | fail)
  refine (own_any4 4 x _ HX.out).mono ?_
  rintro e w ⟨rfl, hb⟩
  replace HM := Lib.hid (HM.out.call hb)
  replace HB := HM.out.below
  clear hb
  rw [HWX.out]
  go_wp2_with (first | refine m_rd ?_ | (refine m_wr ?_; clear HM HB; intro w b HM HB; try clear b) | (refine m_ap ?_; clear HM HB; intro w Aq cq HM HB) | fail)
  refine (own_any4 4 y _ HY.out).mono ?_
  rintro e w ⟨rfl, hb⟩
  replace HM := Lib.hid (HM.out.call hb)
  replace HB := HM.out.below
  clear hb
  rw [HWY.out]
  go_wp2_with (first | refine m_rd ?_ | (refine m_wr ?_; clear HM HB; intro w b HM HB; try clear b) | (refine m_ap ?_; clear HM HB; intro w Aq cq HM HB) | fail)

  try simp only [Act.put, List.setIfInBounds_toArray, List.set_cons_zero, List.set_cons_succ]
  refine wp_region_held_drew (S := fun w' => Mem w0 w' _) (by kernel_rfl) (HM.out.drew.two) (fun hS => ?_)
  replace HM := Lib.hid HM.out.drew
  replace HB := HM.out.below
  refine tk 0 94 ?_
  refine tk 1 95 ?_
  refine tkv 2 96 (.agg (AV [4] x)) rfl (yields_at rfl rfl (fun _ h => h) (by ((repeat (first | exact List.Mem.head _ | apply List.Mem.tail)); done)) (AV [4] x) (HV_src _ _ _ _ _ 9 rfl HX.out) Try.underlying25 rfl (info_AV _ _ HX.out) (by kernel_rfl)) ?_
  refine tk 4 98 ?_
  refine tkv 5 99 (.agg (AV [4] y)) rfl (yields_at rfl rfl (fun _ h => h) (by ((repeat (first | exact List.Mem.head _ | apply List.Mem.tail)); done)) (AV [4] y) (HV_dst _ _ _ _ _ 26 rfl HX.out) Try.underlying25 rfl (info_AV _ _ HY.out) (by kernel_rfl)) ?_
  refine rone 3 rfl fun K' hK => ?_
  go_simp
  refine (bytes_any 4 x _ HX.out).mono ?_
  rintro e w ⟨vx, rfl, ho, hb⟩
  replace HM := Lib.hid (HM.out.row hb ho)
  replace HB := HM.out.below
  clear ho hb
  rw [HBX.out] at HM
  obtain ⟨Ax, cx, rfl, -, -⟩ := HM.out.rb (by ((repeat (first | exact List.Mem.head _ | apply List.Mem.tail)); done))
  refine hK.out _ _ (HM.out.tail) (fun hS2 => ?_)
  clear hS hK
  have hS := hS2
  clear hS2
  try simp only [Act.put, List.setIfInBounds_toArray, List.set_cons_zero, List.set_cons_succ]
  refine rone 6 rfl fun K' hK => ?_
  go_simp
  refine (bytes_any 4 y _ HY.out).mono ?_
  rintro e w ⟨vy, rfl, ho, hb⟩
  replace HM := Lib.hid (HM.out.row hb ho)
  replace HB := HM.out.below
  clear ho hb
  rw [HBY.out] at HM
  obtain ⟨Ay, cy, rfl, -, -⟩ := HM.out.rb (by ((repeat (first | exact List.Mem.head _ | apply List.Mem.tail)); done))
  refine hK.out _ _ (HM.out.tail.tail) (fun hS2 => ?_)
  clear hS hK
  have hS := hS2
  clear hS2
  try simp only [Act.put, List.setIfInBounds_toArray, List.set_cons_zero, List.set_cons_succ]
  refine rone 7 rfl fun K' hK => ?_
  apply s_slices3
  next => exact rfl
  next => kernel_rfl
  iterate 3 (next => exact rfl)
  next => exact HM
  clear HM HB
  intro w b HM HB
  refine hK.out _ _ (HM.out.tail.tail.tail) (fun hS2 => ?_)
  clear hS hK
  have hS := hS2
  clear hS2
  try simp only [Act.put, List.setIfInBounds_toArray, List.set_cons_zero, List.set_cons_succ]
  refine rone 8 rfl fun K' hK => ?_
  go_simp
  refine (concat_any _ _ [R, X4, Y4] _ (HM.out.rbs3 (by ((repeat (first | exact List.Mem.head _ | apply List.Mem.tail)); done)) (HM.out.rb (by ((repeat (first | exact List.Mem.head _ | apply List.Mem.tail)); done))) (HM.out.rb (by ((repeat (first | exact List.Mem.head _ | apply List.Mem.tail)); done))) (HM.out.rb (by ((repeat (first | exact List.Mem.head _ | apply List.Mem.tail)); done)))) HLEN.out).mono ?_
  rintro e w ⟨vr, rfl, ho, hb⟩
  replace HM := Lib.hid (HM.out.row hb ho)
  replace HB := HM.out.below
  clear ho hb
  rw [HFL.out] at HM
  obtain ⟨g, cap, rfl, hcap⟩ := HM.out.form (List.Mem.head _) (by rw [HBL.out]; decide)
  rw [HBL.out] at HM hcap
  rw [HBL.out]
  refine hK.out _ _ (HM.out.tail.tail.tail.tail) (fun hS2 => ?_)
  clear hS hK
  have hS := hS2
  clear hS2
  try simp only [Act.put, List.setIfInBounds_toArray, List.set_cons_zero, List.set_cons_succ]
  refine tk 9 8 ?_
  refine wpAnyH_done (by kernel_rfl) ?_ _
  clear hS
  go_wp2_with (first | refine m_rd ?_ | (refine m_wr ?_; clear HM HB; intro w b HM HB; try clear b) | (refine m_ap ?_; clear HM HB; intro w Aq cq HM HB) | fail)
  refine (check_any _ _ [Bq] _ (HM.out.rbs1 (by ((repeat (first | exact List.Mem.head _ | apply List.Mem.tail)); done)) (HM.out.rb (by ((repeat (first | exact List.Mem.head _ | apply List.Mem.tail)); done)))) (by rw [HS1.out, HBL.out]; decide)).mono ?_
  rintro e w' ⟨rfl, rfl⟩
  rw [HS1.out]
  have HSET2 := Lib.hid (HSET.out _ rfl)
  clear HSET
  generalize 65535 - sum16 Bq = s at HSUM HSET2 ⊢
  have hsum := HSUM.out
  have HSI : Hid (((Bq.set 10 (UInt8.ofNat ((s : Int) / 256).toNat)).set 11 (UInt8.ofNat ((s : Int) % 256).toNat)) = Hq) := Lib.hid (by rw [← HSET2.out]; congr 2)
  have HN4 : Hid (((Bq.set 10 (UInt8.ofNat ((s : Int) / 256).toNat)).set 11 (UInt8.ofNat ((s : Int) % 256).toNat)).length + body.length = 20 + body.length) := Lib.hid (by rw [List.length_set, List.length_set, HBL.out])
  go_wp2_with (first | refine m_rd ?_ | (refine m_wr ?_; clear HM HB; intro w b HM HB; try clear b) | (refine m_ap ?_; clear HM HB; intro w Aq cq HM HB) | fail)
  go_ret2
  exact ⟨_, rfl, by rw [HALL.out, ← HSI.out]; exact HM.out.ob (by ((repeat (first | exact List.Mem.head _ | apply List.Mem.tail)); done)), HB⟩

end Go.Proofs.Ytahnibhcfdamdaa.Is
