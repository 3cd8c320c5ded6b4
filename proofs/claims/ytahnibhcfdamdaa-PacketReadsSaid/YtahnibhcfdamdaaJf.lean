/- Packages ipfour and its reference: the packet of a right head and a body; PRINTED by gen_put4.py. -/
import Derived.Test.YtahnibhcfdamdaaJo
import Derived.Test.YtahnibhcfdamdaaCo
set_option linter.unusedSimpArgs false
set_option linter.unusedVariables false
set_option maxRecDepth 100000
namespace Go.Proofs.Ytahnibhcfdamdaa.Is
open Go.RowKit Go.Proofs.YtahnibhcfdamdaaW.PrintWords Go.Proofs.Ytahnibhcfdamdaa.Bs Go.Proofs.Ytahnibhcfdamdaa.Av Go.Proofs.Ytahnibhcfdamdaa.Ad Go.Proofs.Ytahnibhcfdamdaa.Hd Go.Proofs.Ytahnibhcfdamdaa.Mm Go.Proofs.Ytahnibhcfdamdaa.Le Go.Proofs.Ytahnibhcfdamdaa.Ip Go.Proofs.Ytahnibhcfdamdaa.En Go.Proofs.Ytahnibhcfdamdaa.Co Go.Proofs.Ytahnibhcfdamdaa.Os

theorem raw4_cells (c n i f r t p : Nat) (hc : c < 256) (hn : n < 65536) (hi : i < 65536) (hf : f < 8) (hr : r < 8192) (ht : t < 256) (hp : p < 256) :
    (encs B (raw4 c n i f r t p)).toArray = #[.int .u8 69, .int .u8 (c : Int), .int .u8 ((n : Int) / 256), .int .u8 ((n : Int) % 256), .int .u8 ((i : Int) / 256), .int .u8 ((i : Int) % 256), .int .u8 (((8192 * f + r : Nat) : Int) / 256), .int .u8 (((8192 * f + r : Nat) : Int) % 256), .int .u8 (t : Int), .int .u8 (p : Int), .int .u8 0, .int .u8 0] := by
  unfold raw4 encs
  simp only [List.map_cons, List.map_nil]
  rw [B_ofNat c hc, B_ofNat _ (show n / 256 < 256 by omega), B_ofNat _ (show n % 256 < 256 by omega), B_ofNat _ (show i / 256 < 256 by omega), B_ofNat _ (show i % 256 < 256 by omega), B_ofNat _ (show (8192 * f + r) / 256 < 256 by omega), B_ofNat _ (show (8192 * f + r) % 256 < 256 by omega), B_ofNat t ht, B_ofNat p hp]
  rfl
theorem bytesA4 (x : List UInt8) (h : widthA 4 x = 32) : bytesA 4 x = x.take 4 := by unfold bytesA; rw [h]
theorem refCheck_rb (v : Value) (l : List UInt8) (w : World) (hr : RB w v l) (hs : l.length ≤ 1099511627776) :
    Calls Try.prog 107 #[v] w fun e w' => e = .returned (.int .i64 (65535 - sum16 l : Nat)) ∧ w = w' := by
  obtain ⟨A, c, rfl, _, hr⟩ := hr
  exact refCheck_any A c l w hr hs
theorem head4_set (c n i f r t p : Nat) (x y : List UInt8) (s : Nat) (hs : 65535 - sum16 (bare4 c n i f r t p x y) = s) : ((bare4 c n i f r t p x y).set 10 (UInt8.ofNat (s / 256))).set 11 (UInt8.ofNat (s % 256)) = head4 c n i f r t p x y := by
  unfold head4 filled
  rw [hs, bare4_blank]

set_option maxHeartbeats 4000000 in
theorem put4_long (n0 n1 n2 : Int) (c i f r t p : Nat) (x y : List UInt8) (v : Value) (body : List UInt8) (w0 : World) (hr : RB w0 v body) (hx : x.length = 16) (hy : y.length = 16) (hc : c < 256) (hi : i < 65536) (hf : f < 8) (hrr : r < 8192) (ht : t < 256) (hp : p < 256) (wx : widthA 4 x = 32) (wy : widthA 4 y = 32) (hb : 65515 < body.length) (hbb : body.length ≤ 1099511627776) :
    Calls Try.prog 24 #[.agg (HV [n0, n1, n2, c, i, f, r, t, p] 4 x 4 y), v] w0 fun e w' => e = .returned (.tuple #[.slice none 0 0, .int .i64 4]) ∧ Below w0.heap.size w0 w' := by
  have HWX : Hid ((widthA 4 x == 32) = true) := Lib.hid (by rw [wx]; rfl)
  have HWY : Hid ((widthA 4 y == 32) = true) := Lib.hid (by rw [wy]; rfl)
  clear wx wy
  have HX := Lib.hid hx
  have HY := Lib.hid hy
  have HC : Hid (Cells 31 (HV [n0, n1, n2, c, i, f, r, t, p] 4 x 4 y)) := Lib.hid (cellsH _ _ _ _ _ rfl hx hy)
  have HR := Lib.hid hr
  have hl := hr.len
  obtain ⟨A, cb, rfl, hcb, hrx⟩ := hr
  clear hrx hx hy
  have HM := Lib.hid (Mem.start w0)
  have HB := HM.out.below
  go_enter Try.func24, Try.ntmps24
  go_wp2_with (first | refine m_rd ?_ | (refine m_wr ?_; clear HM HB; intro w b HM HB; try clear b) | (refine m_ap ?_; clear HM HB; intro w Aq cq HM HB) | fail)
  refine (fits_yes4 c 8 8 rfl (by decide) _ (by omega) (by simp; omega)).mono ?_
  rintro e w' ⟨rfl, rfl⟩
  go_wp2_with (first | refine m_rd ?_ | (refine m_wr ?_; clear HM HB; intro w b HM HB; try clear b) | (refine m_ap ?_; clear HM HB; intro w Aq cq HM HB) | fail)
  refine (fits_yes4 i 16 16 rfl (by decide) _ (by omega) (by simp; omega)).mono ?_
  rintro e w' ⟨rfl, rfl⟩
  go_wp2_with (first | refine m_rd ?_ | (refine m_wr ?_; clear HM HB; intro w b HM HB; try clear b) | (refine m_ap ?_; clear HM HB; intro w Aq cq HM HB) | fail)
  refine (fits_yes4 f 3 3 rfl (by decide) _ (by omega) (by simp; omega)).mono ?_
  rintro e w' ⟨rfl, rfl⟩
  go_wp2_with (first | refine m_rd ?_ | (refine m_wr ?_; clear HM HB; intro w b HM HB; try clear b) | (refine m_ap ?_; clear HM HB; intro w Aq cq HM HB) | fail)
  refine (fits_yes4 r 13 13 rfl (by decide) _ (by omega) (by simp; omega)).mono ?_
  rintro e w' ⟨rfl, rfl⟩
  go_wp2_with (first | refine m_rd ?_ | (refine m_wr ?_; clear HM HB; intro w b HM HB; try clear b) | (refine m_ap ?_; clear HM HB; intro w Aq cq HM HB) | fail)
  refine (fits_yes4 t 8 8 rfl (by decide) _ (by omega) (by simp; omega)).mono ?_
  rintro e w' ⟨rfl, rfl⟩
  go_wp2_with (first | refine m_rd ?_ | (refine m_wr ?_; clear HM HB; intro w b HM HB; try clear b) | (refine m_ap ?_; clear HM HB; intro w Aq cq HM HB) | fail)
  refine (fits_yes4 p 8 8 rfl (by decide) _ (by omega) (by simp; omega)).mono ?_
  rintro e w' ⟨rfl, rfl⟩
  go_wp2_with (first | refine m_rd ?_ | (refine m_wr ?_; clear HM HB; intro w b HM HB; try clear b) | (refine m_ap ?_; clear HM HB; intro w Aq cq HM HB) | fail)
  refine (own_any4 4 x _ HX.out).mono ?_
  rintro e w ⟨rfl, hb⟩
  replace HM := Lib.hid (HM.out.call hb)
  replace HB := HM.out.below
  clear hb
  rw [HWX.out]
  go_wp2_with (first | refine m_rd ?_ | (refine m_wr ?_; clear HM HB; intro w b HM HB; try clear b) | (refine m_ap ?_; clear HM HB; intro w Aq cq HM HB) | fail)
  refine (own_any4 4 y _ HY.out).mono ?_
  rintro e w ⟨rfl, hb⟩
  replace HM := Lib.hid (HM.out.call hb)
  replace HB := HM.out.below
  clear hb
  rw [HWY.out]
  go_wp2_with (first | refine m_rd ?_ | (refine m_wr ?_; clear HM HB; intro w b HM HB; try clear b) | (refine m_ap ?_; clear HM HB; intro w Aq cq HM HB) | fail)
  go_ret2
  exact ⟨rfl, HB⟩

set_option maxHeartbeats 4000000 in
theorem refPut4_long (n0 n1 n2 : Int) (c i f r t p : Nat) (x y : List UInt8) (v : Value) (body : List UInt8) (w0 : World) (hr : RB w0 v body) (hx : x.length = 16) (hy : y.length = 16) (hc : c < 256) (hi : i < 65536) (hf : f < 8) (hrr : r < 8192) (ht : t < 256) (hp : p < 256) (wx : widthA 4 x = 32) (wy : widthA 4 y = 32) (hb : 65515 < body.length) (hbb : body.length ≤ 1099511627776) :
    Calls Try.prog 33 #[.agg (HV [n0, n1, n2, c, i, f, r, t, p] 4 x 4 y), v] w0 fun e w' => e = .returned (.tuple #[.slice none 0 0, .int .i64 4]) ∧ Below w0.heap.size w0 w' := by
  have HWX : Hid (rightA 4 x = true) := Lib.hid ((width32 4 x).1 wx).2
  have HWY : Hid (rightA 4 y = true) := Lib.hid ((width32 4 y).1 wy).2
  clear wx wy
  have HX := Lib.hid hx
  have HY := Lib.hid hy
  have HC : Hid (Cells 31 (HV [n0, n1, n2, c, i, f, r, t, p] 4 x 4 y)) := Lib.hid (cellsH _ _ _ _ _ rfl hx hy)
  have HR := Lib.hid hr
  have hl := hr.len
  obtain ⟨A, cb, rfl, hcb, hrx⟩ := hr
  clear hrx hx hy
  have HM := Lib.hid (Mem.start w0)
  have HB := HM.out.below
  go_enter Try.func33, Try.ntmps33
  go_wp2_with (first | refine m_rd ?_ | (refine m_wr ?_; clear HM HB; intro w b HM HB; try clear b) | (refine m_ap ?_; clear HM HB; intro w Aq cq HM HB) | fail)
  refine (from_yes4 c 255 _ (by omega) (by omega)).mono ?_
  rintro e w' ⟨rfl, rfl⟩
  go_wp2_with (first | refine m_rd ?_ | (refine m_wr ?_; clear HM HB; intro w b HM HB; try clear b) | (refine m_ap ?_; clear HM HB; intro w Aq cq HM HB) | fail)
  refine (from_yes4 t 255 _ (by omega) (by omega)).mono ?_
  rintro e w' ⟨rfl, rfl⟩
  go_wp2_with (first | refine m_rd ?_ | (refine m_wr ?_; clear HM HB; intro w b HM HB; try clear b) | (refine m_ap ?_; clear HM HB; intro w Aq cq HM HB) | fail)
  refine (from_yes4 p 255 _ (by omega) (by omega)).mono ?_
  rintro e w' ⟨rfl, rfl⟩
  go_wp2_with (first | refine m_rd ?_ | (refine m_wr ?_; clear HM HB; intro w b HM HB; try clear b) | (refine m_ap ?_; clear HM HB; intro w Aq cq HM HB) | fail)
  refine (from_yes4 i 65535 _ (by omega) (by omega)).mono ?_
  rintro e w' ⟨rfl, rfl⟩
  go_wp2_with (first | refine m_rd ?_ | (refine m_wr ?_; clear HM HB; intro w b HM HB; try clear b) | (refine m_ap ?_; clear HM HB; intro w Aq cq HM HB) | fail)
  refine (from_yes4 f 7 _ (by omega) (by omega)).mono ?_
  rintro e w' ⟨rfl, rfl⟩
  go_wp2_with (first | refine m_rd ?_ | (refine m_wr ?_; clear HM HB; intro w b HM HB; try clear b) | (refine m_ap ?_; clear HM HB; intro w Aq cq HM HB) | fail)
  refine (from_yes4 r 8191 _ (by omega) (by omega)).mono ?_
  rintro e w' ⟨rfl, rfl⟩
  go_wp2_with (first | refine m_rd ?_ | (refine m_wr ?_; clear HM HB; intro w b HM HB; try clear b) | (refine m_ap ?_; clear HM HB; intro w Aq cq HM HB) | fail)
  refine (refRight_any 4 x _ HX.out).mono ?_
  rintro e w ⟨rfl, hb⟩
  replace HM := Lib.hid (HM.out.call hb)
  replace HB := HM.out.below
  clear hb
  rw [HWX.out]
  go_wp2_with (first | refine m_rd ?_ | (refine m_wr ?_; clear HM HB; intro w b HM HB; try clear b) | (refine m_ap ?_; clear HM HB; intro w Aq cq HM HB) | fail)
  refine (refRight_any 4 y _ HY.out).mono ?_
  rintro e w ⟨rfl, hb⟩
  replace HM := Lib.hid (HM.out.call hb)
  replace HB := HM.out.below
  clear hb
  rw [HWY.out]
  go_wp2_with (first | refine m_rd ?_ | (refine m_wr ?_; clear HM HB; intro w b HM HB; try clear b) | (refine m_ap ?_; clear HM HB; intro w Aq cq HM HB) | fail)
  go_ret2
  exact ⟨rfl, HB⟩

end Go.Proofs.Ytahnibhcfdamdaa.Is
