/- The reference's packet of a right head and a body, of family 4; PRINTED by gen_put4.py. -/
import Derived.Test.YtahnibhcfdamdaaJf
set_option linter.unusedSimpArgs false
set_option linter.unusedVariables false
set_option maxRecDepth 100000
namespace Go.Proofs.Ytahnibhcfdamdaa.Is
open Go.RowKit Go.Proofs.YtahnibhcfdamdaaW.PrintWords Go.Proofs.Ytahnibhcfdamdaa.Bs Go.Proofs.Ytahnibhcfdamdaa.Av Go.Proofs.Ytahnibhcfdamdaa.Ad Go.Proofs.Ytahnibhcfdamdaa.Hd Go.Proofs.Ytahnibhcfdamdaa.Mm Go.Proofs.Ytahnibhcfdamdaa.Le Go.Proofs.Ytahnibhcfdamdaa.Ip Go.Proofs.Ytahnibhcfdamdaa.En Go.Proofs.Ytahnibhcfdamdaa.Co Go.Proofs.Ytahnibhcfdamdaa.Os
set_option maxHeartbeats 4000000 in
theorem refPut4_ok (n0 n1 n2 : Int) (c i f r t p : Nat) (x y : List UInt8) (v : Value) (body : List UInt8) (w0 : World) (hr : RB w0 v body) (hx : x.length = 16) (hy : y.length = 16) (hc : c < 256) (hi : i < 65536) (hf : f < 8) (hrr : r < 8192) (ht : t < 256) (hp : p < 256) (wx : widthA 4 x = 32) (wy : widthA 4 y = 32) (hb : body.length ≤ 65515) :
    Calls Try.prog 33 #[.agg (HV [n0, n1, n2, c, i, f, r, t, p] 4 x 4 y), v] w0 (RowTup w0 (all4 c i f r t p (x.take 4) (y.take 4) body)) := by
  have HWX : Hid (rightA 4 x = true) := Lib.hid ((width32 4 x).1 wx).2
  have HWY : Hid (rightA 4 y = true) := Lib.hid ((width32 4 y).1 wy).2
  have HBX := Lib.hid (bytesA4 x wx)
  have HBY := Lib.hid (bytesA4 y wy)
  have HL4 : Hid ((x.take 4).length = 4 ∧ (y.take 4).length = 4) := Lib.hid ⟨by simp; omega, by simp; omega⟩
  have HBL : Hid ((bare4 c (20 + body.length) i f r t p (x.take 4) (y.take 4)).length = 20) := Lib.hid (bare4_length _ _ _ _ _ _ _ _ _ HL4.out.1 HL4.out.2)
  have hq1 : 20 + body.length < 65536 := by omega
  have hq2 : 8192 * f + r < 65536 := by omega
  have LT1 : Hid (LitOf 12 #[(0, .int .u8 69), (1, .int .u8 (c : Int)), (2, .int .u8 ((20 + (body.length : Int)) / 256)), (3, .int .u8 ((20 + (body.length : Int)) % 256)), (4, .int .u8 ((i : Int) / 256)), (5, .int .u8 ((i : Int) % 256)), (6, .int .u8 (((8192 * f + r : Nat) : Int) / 256)), (7, .int .u8 (((8192 * f + r : Nat) : Int) % 256)), (8, .int .u8 (t : Int)), (9, .int .u8 (p : Int)), (10, .int .u8 0), (11, .int .u8 0)] (raw4 c (20 + body.length) i f r t p)) := Lib.hid ⟨rfl, by decide, fun W => by
    rw [raw4_cells c (20 + body.length) i f r t p hc hq1 hi hf hrr ht hp]
    exact bytes12 _ _ _ _ _ _ _ _ _ _ _ _ W⟩
  have HSET := Lib.hid (head4_set c (20 + body.length) i f r t p (x.take 4) (y.take 4))
  have HSUM : Hid (65535 - sum16 (bare4 c (20 + body.length) i f r t p (x.take 4) (y.take 4)) < 65536) := Lib.hid (by omega)
  have HALL : Hid (all4 c i f r t p (x.take 4) (y.take 4) body = head4 c (20 + body.length) i f r t p (x.take 4) (y.take 4) ++ body) := Lib.hid rfl
  generalize all4 c i f r t p (x.take 4) (y.take 4) body = L at HALL ⊢
  have HH20 : Hid ((head4 c (20 + body.length) i f r t p (x.take 4) (y.take 4)).length = 20) := Lib.hid (by unfold head4; rw [filled_length, HBL.out])
  clear wx wy
  have HX := Lib.hid hx
  have HY := Lib.hid hy
  have HC : Hid (Cells 31 (HV [n0, n1, n2, c, i, f, r, t, p] 4 x 4 y)) := Lib.hid (cellsH _ _ _ _ _ rfl hx hy)
  have HR := Lib.hid hr
  have hl := hr.len
  obtain ⟨A, cb, rfl, hcb, hrx⟩ := hr
  clear hrx hx hy
  have HM := Lib.hid (Mem.start w0)
  have HB := HM.out.below
  have hor : 8192 * (f : Int) + (r : Int) = ((8192 * f + r : Nat) : Int) := by omega
  have HFL2 : Hid (raw4 c (20 + body.length) i f r t p ++ x.take 4 ++ y.take 4 = bare4 c (20 + body.length) i f r t p (x.take 4) (y.take 4)) := Lib.hid rfl
  have HFL : Hid ([raw4 c (20 + body.length) i f r t p, x.take 4, y.take 4].flatten = bare4 c (20 + body.length) i f r t p (x.take 4) (y.take 4)) := Lib.hid (by simp [bare4])
  have HLEN : Hid ([raw4 c (20 + body.length) i f r t p, x.take 4, y.take 4].flatten.length ≤ 1099511627776) := Lib.hid (by rw [HFL.out, HBL.out]; decide)
  have HS1 : Hid ([bare4 c (20 + body.length) i f r t p (x.take 4) (y.take 4)].flatten = bare4 c (20 + body.length) i f r t p (x.take 4) (y.take 4)) := Lib.hid (by simp)
  have HN1 : Hid ((raw4 c (20 + body.length) i f r t p).length + (x.take 4).length = 16) := Lib.hid (by rw [HL4.out.1]; rfl)
  have HN2 : Hid ((raw4 c (20 + body.length) i f r t p ++ x.take 4).length + (y.take 4).length = 20) := Lib.hid (by rw [List.length_append, HL4.out.1, HL4.out.2]; rfl)
  have HN3 : Hid ((head4 c (20 + body.length) i f r t p (x.take 4) (y.take 4)).length + body.length = 20 + body.length) := Lib.hid (by rw [HH20.out])
  have HFR : ∃ fr : Nat, Hid (8192 * f + r = fr) := ⟨_, Lib.hid rfl⟩
  obtain ⟨fr, HFR⟩ := HFR
  rw [HFR.out] at hor hq2 LT1
  generalize head4 c (20 + body.length) i f r t p (x.take 4) (y.take 4) = Hq at HSET HALL HH20 HN3
  generalize bare4 c (20 + body.length) i f r t p (x.take 4) (y.take 4) = Bq at HSET HSUM HBL HFL HFL2 HS1
  generalize raw4 c (20 + body.length) i f r t p = R at LT1 HFL HFL2 HLEN HN1 HN2
  generalize x.take 4 = X4 at HBX HL4 HFL HFL2 HLEN HN1 HN2
  generalize y.take 4 = Y4 at HBY HL4 HFL HFL2 HLEN HN2
  go_enter Try.func33, Try.ntmps33
  go_wp2_with (first | refine m_rd ?_ | (refine m_wr ?_; clear HM HB; intro w b HM HB; try clear b) | (refine m_ap ?_; clear HM HB; intro w Aq cq HM HB) | fail)
  refine (from_yes4 c 255 _ (by omega) (by omega)).mono ?_
  rintro e w' ⟨rfl, rfl⟩
  go_wp2_with (first | refine m_rd ?_ | (refine m_wr ?_; clear HM HB; intro w b HM HB; try clear b) | (refine m_ap ?_; clear HM HB; intro w Aq cq HM HB) | fail)
  refine (from_yes4 t 255 _ (by omega) (by omega)).mono ?_
  rintro e w' ⟨rfl, rfl⟩
  go_wp2_with (first | refine m_rd ?_ | (refine m_wr ?_; clear HM HB; intro w b HM HB; try clear b) | (refine m_ap ?_; clear HM HB; intro w Aq cq HM HB) | fail)
  refine (from_yes4 p 255 _ (by omega) (by omega)).mono ?_
  rintro e w' ⟨rfl, rfl⟩
  go_wp2_with (first | refine m_rd ?_ | (refine m_wr ?_; clear HM HB; intro w b HM HB; try clear b) | (refine m_ap ?_; clear HM HB; intro w Aq cq HM HB) | fail)
  refine (from_yes4 i 65535 _ (by omega) (by omega)).mono ?_
  rintro e w' ⟨rfl, rfl⟩
  go_wp2_with (first | refine m_rd ?_ | (refine m_wr ?_; clear HM HB; intro w b HM HB; try clear b) | (refine m_ap ?_; clear HM HB; intro w Aq cq HM HB) | fail)
  refine (from_yes4 f 7 _ (by omega) (by omega)).mono ?_
  rintro e w' ⟨rfl, rfl⟩
  go_wp2_with (first | refine m_rd ?_ | (refine m_wr ?_; clear HM HB; intro w b HM HB; try clear b) | (refine m_ap ?_; clear HM HB; intro w Aq cq HM HB) | fail)
  refine (from_yes4 r 8191 _ (by omega) (by omega)).mono ?_
  rintro e w' ⟨rfl, rfl⟩
  go_wp2_with (first | refine m_rd ?_ | (refine m_wr ?_; clear HM HB; intro w b HM HB; try clear b) | (refine m_ap ?_; clear HM HB; intro w Aq cq HM HB) | fail)
  refine (refRight_any 4 x _ HX.out).mono ?_
  rintro e w ⟨rfl, hb⟩
  replace HM := Lib.hid (HM.out.call hb)
  replace HB := HM.out.below
  clear hb
  rw [HWX.out]
  go_wp2_with (first | refine m_rd ?_ | (refine m_wr ?_; clear HM HB; intro w b HM HB; try clear b) | (refine m_ap ?_; clear HM HB; intro w Aq cq HM HB) | fail)
  refine (refRight_any 4 y _ HY.out).mono ?_
  rintro e w ⟨rfl, hb⟩
  replace HM := Lib.hid (HM.out.call hb)
  replace HB := HM.out.below
  clear hb
  rw [HWY.out]
  go_wp2_with (first | refine m_rd ?_ | (refine m_wr ?_; clear HM HB; intro w b HM HB; try clear b) | (refine m_ap ?_; clear HM HB; intro w Aq cq HM HB) | fail)
  refine (refBytes_any 4 x _ HX.out).mono ?_
  rintro e w ⟨vx, rfl, ho, hb⟩
  replace HM := Lib.hid (HM.out.row hb ho)
  replace HB := HM.out.below
  clear ho hb
  rw [HBX.out] at HM
  obtain ⟨Ax, cx, rfl, -, -⟩ := HM.out.rb (List.Mem.head _)
  go_wp2_with (first | refine m_rd ?_ | (refine m_wr ?_; clear HM HB; intro w b HM HB; try clear b) | (refine m_ap ?_; clear HM HB; intro w Aq cq HM HB) | fail)
  refine (refBytes_any 4 y _ HY.out).mono ?_
  rintro e w ⟨vy, rfl, ho, hb⟩
  replace HM := Lib.hid (HM.out.row hb ho)
  replace HB := HM.out.below
  clear ho hb
  rw [HBY.out] at HM
  obtain ⟨Ay, cy, rfl, -, -⟩ := HM.out.rb (List.Mem.head _)
  go_wp2_with (first | refine m_rd ?_ | (refine m_wr ?_; clear HM HB; intro w b HM HB; try clear b) | (refine m_ap ?_; clear HM HB; intro w Aq cq HM HB) | fail)
  rw [HFL2.out] at HM
  obtain ⟨g, cap, e, hcap⟩ := HM.out.form (List.Mem.head _) (by rw [HBL.out]; decide)
  injection e with e1 e2 e3
  subst e1 e3
  clear e2
  refine (refCheck_rb _ Bq _ (by apply Mem.rb HM.out; ((repeat (first | exact List.Mem.head _ | apply List.Mem.tail)); done)) (by rw [HBL.out]; decide)).mono ?_
  rintro e w' ⟨rfl, rfl⟩
  have HSET2 := Lib.hid (HSET.out _ rfl)
  clear HSET
  generalize 65535 - sum16 Bq = s at HSUM HSET2 ⊢
  have hsum := HSUM.out
  have HSI : Hid (((Bq.set 10 (UInt8.ofNat ((s : Int) / 256).toNat)).set 11 (UInt8.ofNat ((s : Int) % 256).toNat)) = Hq) := Lib.hid (by rw [← HSET2.out]; congr 2)
  have HN4 : Hid (((Bq.set 10 (UInt8.ofNat ((s : Int) / 256).toNat)).set 11 (UInt8.ofNat ((s : Int) % 256).toNat)).length + body.length = 20 + body.length) := Lib.hid (by rw [List.length_set, List.length_set, HBL.out])
  go_wp2_with (first | refine m_rd ?_ | (refine m_wr ?_; clear HM HB; intro w b HM HB; try clear b) | (refine m_ap ?_; clear HM HB; intro w Aq cq HM HB) | fail)
  go_ret2
  exact ⟨_, rfl, by rw [HALL.out, ← HSI.out]; exact HM.out.ob (by ((repeat (first | exact List.Mem.head _ | apply List.Mem.tail)); done)), HB⟩

end Go.Proofs.Ytahnibhcfdamdaa.Is
