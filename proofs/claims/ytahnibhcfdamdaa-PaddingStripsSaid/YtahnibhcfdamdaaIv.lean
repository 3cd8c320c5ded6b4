/- Package ipsix: the packet of a right head and a body. -/
import Derived.Test.YtahnibhcfdamdaaIq
import Derived.Test.YtahnibhcfdamdaaMx
set_option linter.unusedSimpArgs false
set_option linter.unusedVariables false
set_option maxRecDepth 100000
namespace Go.Proofs.Ytahnibhcfdamdaa.Is
open Go.RowKit Go.Proofs.YtahnibhcfdamdaaW.PrintWords Go.Proofs.Ytahnibhcfdamdaa.Bs Go.Proofs.Ytahnibhcfdamdaa.Av Go.Proofs.Ytahnibhcfdamdaa.Ad Go.Proofs.Ytahnibhcfdamdaa.Hd Go.Proofs.Ytahnibhcfdamdaa.Mm Go.Proofs.Ytahnibhcfdamdaa.Le Go.Proofs.Ytahnibhcfdamdaa.Ip Go.Proofs.Ytahnibhcfdamdaa.En Go.Proofs.Ytahnibhcfdamdaa.Co

set_option maxHeartbeats 1000000 in
theorem put6_ok (n0 n1 n2 n5 n6 : Int) (c i t p : Nat) (x y : List UInt8) (v : Value) (body : List UInt8) (w0 : World) (hr : RB w0 v body) (hx : x.length = 16) (hy : y.length = 16) (hc : c < 256) (hi : i < 1048576) (ht : t < 256) (hp : p < 256) (hb : body.length ≤ 65495) :
    Calls Try.prog 28 #[.agg (HV [n0, n1, n2, c, i, n5, n6, t, p] 6 x 6 y), v] w0 (RowTup w0 (all6 c i p t x y body)) := by
  have HX := Lib.hid hx
  have HY := Lib.hid hy
  have HC : Hid (Cells 31 (HV [n0, n1, n2, c, i, n5, n6, t, p] 6 x 6 y)) := Lib.hid (cellsH _ _ _ _ _ rfl hx hy)
  have HR := Lib.hid hr
  have hl := hr.len
  obtain ⟨A, cb, rfl, hcb, hrr⟩ := hr
  have HF : Hid (all6 c i p t x y body = [raw6 c i body.length p t, bytesA 6 x, bytesA 6 y, body].flatten) := Lib.hid (by rw [bytesA6 x hx, bytesA6 y hy]; simp [all6])
  have HB8 := Lib.hid (raw6_big c i body.length p t hc hi (by omega) hp ht)
  have HLEN : Hid ([raw6 c i body.length p t, bytesA 6 x, bytesA 6 y, body].flatten.length ≤ 1099511627776) := Lib.hid (by rw [bytesA6 x hx, bytesA6 y hy]; simp [raw6, hx, hy]; omega)
  obtain ⟨g1, g2, g3, g4, g5⟩ := raw6_or c i body.length p t hc hi (by omega) hp ht
  simp only [Int.natCast_add, Int.natCast_mul, Int.cast_ofNat_Int] at g1 g2 g3 g4 g5
  clear hrr hx hy
  have HM := Lib.hid (Mem.start w0)
  have HB := HM.out.below
  go_enter Try.func28, Try.ntmps28
  go_wp2_with (first | refine m_rd ?_ | (refine m_wr ?_; clear HM HB; intro w b HM HB; try clear b) | (refine m_ap ?_; clear HM HB; intro w Aq cq HM HB) | fail)
  refine (fits_yes6 c 8 8 rfl (by decide) _ (by omega) (by simp; omega)).mono ?_
  rintro e w' ⟨rfl, rfl⟩
  go_wp2_with (first | refine m_rd ?_ | (refine m_wr ?_; clear HM HB; intro w b HM HB; try clear b) | (refine m_ap ?_; clear HM HB; intro w Aq cq HM HB) | fail)
  refine (fits_yes6 i 20 20 rfl (by decide) _ (by omega) (by simp; omega)).mono ?_
  rintro e w' ⟨rfl, rfl⟩
  go_wp2_with (first | refine m_rd ?_ | (refine m_wr ?_; clear HM HB; intro w b HM HB; try clear b) | (refine m_ap ?_; clear HM HB; intro w Aq cq HM HB) | fail)
  refine (fits_yes6 t 8 8 rfl (by decide) _ (by omega) (by simp; omega)).mono ?_
  rintro e w' ⟨rfl, rfl⟩
  go_wp2_with (first | refine m_rd ?_ | (refine m_wr ?_; clear HM HB; intro w b HM HB; try clear b) | (refine m_ap ?_; clear HM HB; intro w Aq cq HM HB) | fail)
  refine (fits_yes6 p 8 8 rfl (by decide) _ (by omega) (by simp; omega)).mono ?_
  rintro e w' ⟨rfl, rfl⟩
  go_wp2_with (first | refine m_rd ?_ | (refine m_wr ?_; clear HM HB; intro w b HM HB; try clear b) | (refine m_ap ?_; clear HM HB; intro w Aq cq HM HB) | fail)
  refine (own_any6 6 x _ HX.out).mono ?_
  rintro e w ⟨rfl, hb⟩
  replace HM := Lib.hid (HM.out.call hb)
  replace HB := HM.out.below
  clear hb
  rw [width128]
  go_wp2_with (first | refine m_rd ?_ | (refine m_wr ?_; clear HM HB; intro w b HM HB; try clear b) | (refine m_ap ?_; clear HM HB; intro w Aq cq HM HB) | fail)
  refine (own_any6 6 y _ HY.out).mono ?_
  rintro e w ⟨rfl, hb⟩
  replace HM := Lib.hid (HM.out.call hb)
  replace HB := HM.out.below
  clear hb
  rw [width128]
  go_wp2_with (first | refine m_rd ?_ | (refine m_wr ?_; clear HM HB; intro w b HM HB; try clear b) | (refine m_ap ?_; clear HM HB; intro w Aq cq HM HB) | fail)
  have hFl : 6917529027641081856 + c * 4503599627370496 + i * 4294967296 + body.length * 65536 + p * 256 + t < 18446744073709551616 := by omega
  rw [show (6917529027641081856 + (c : Int) * 4503599627370496 + (i : Int) * 4294967296 + (body.length : Int) * 65536 + (p : Int) * 256 + (t : Int)) = ((6917529027641081856 + c * 4503599627370496 + i * 4294967296 + body.length * 65536 + p * 256 + t : Nat) : Int) from by simp only [Int.natCast_add, Int.natCast_mul, Int.cast_ofNat_Int]]
  generalize 6917529027641081856 + c * 4503599627370496 + i * 4294967296 + body.length * 65536 + p * 256 + t = F at HB8 hFl ⊢
  clear g1 g2 g3 g4 g5
  have HFl := Lib.hid hFl
  clear hFl
  refine (big_any F 8 _ HFl.out (by decide) (by decide) (fun h => absurd h (by decide))).mono ?_
  rintro e w ⟨v8, rfl, ho, hb⟩
  replace HM := Lib.hid (HM.out.row hb ho)
  replace HB := HM.out.below
  clear ho hb
  rw [HB8.out] at HM
  obtain ⟨A8, c8, rfl, -, -⟩ := HM.out.rb (by ((repeat (first | exact List.Mem.head _ | apply List.Mem.tail)); done))
  go_wp2_with (first | refine m_rd ?_ | (refine m_wr ?_; clear HM HB; intro w b HM HB; try clear b) | (refine m_ap ?_; clear HM HB; intro w Aq cq HM HB) | fail)
  try simp only [Act.put, List.setIfInBounds_toArray, List.set_cons_zero, List.set_cons_succ]
  refine wp_region_held_drew (S := fun w' => Mem w0 w' _) (by kernel_rfl) (HM.out.drew.two) (fun hS => ?_)
  replace HM := Lib.hid HM.out.drew
  replace HB := HM.out.below
  refine tk 0 78 ?_
  refine tk 1 79 ?_
  refine tkv 2 80 (.agg (AV [6] x)) rfl (yields_at rfl rfl (fun _ h => h) (by ((repeat (first | exact List.Mem.head _ | apply List.Mem.tail)); done)) (AV [6] x) (HV_src _ _ _ _ _ 9 rfl HX.out) Try.underlying25 rfl (info_AV _ _ HX.out) (by kernel_rfl)) ?_
  refine tk 4 82 ?_
  refine tkv 5 83 (.agg (AV [6] y)) rfl (yields_at rfl rfl (fun _ h => h) (by ((repeat (first | exact List.Mem.head _ | apply List.Mem.tail)); done)) (AV [6] y) (HV_dst _ _ _ _ _ 26 rfl HX.out) Try.underlying25 rfl (info_AV _ _ HY.out) (by kernel_rfl)) ?_
  refine tk 7 85 ?_
  refine rone 3 rfl fun K' hK => ?_
  go_simp
  refine (bytes_any 6 x _ HX.out).mono ?_
  rintro e w ⟨vx, rfl, ho, hb⟩
  replace HM := Lib.hid (HM.out.row hb ho)
  replace HB := HM.out.below
  clear ho hb
  obtain ⟨Ax, cx, rfl, -, -⟩ := HM.out.rb (by ((repeat (first | exact List.Mem.head _ | apply List.Mem.tail)); done))
  refine hK.out _ _ (HM.out.tail) (fun hS2 => ?_)
  clear hS hK
  have hS := hS2
  clear hS2
  try simp only [Act.put, List.setIfInBounds_toArray, List.set_cons_zero, List.set_cons_succ]
  refine rone 6 rfl fun K' hK => ?_
  go_simp
  refine (bytes_any 6 y _ HY.out).mono ?_
  rintro e w ⟨vy, rfl, ho, hb⟩
  replace HM := Lib.hid (HM.out.row hb ho)
  replace HB := HM.out.below
  clear ho hb
  obtain ⟨Ay, cy, rfl, -, -⟩ := HM.out.rb (by ((repeat (first | exact List.Mem.head _ | apply List.Mem.tail)); done))
  refine hK.out _ _ (HM.out.tail.tail) (fun hS2 => ?_)
  clear hS hK
  have hS := hS2
  clear hS2
  try simp only [Act.put, List.setIfInBounds_toArray, List.set_cons_zero, List.set_cons_succ]
  refine rone 8 rfl fun K' hK => ?_
  apply s_slices4
  next => exact rfl
  next => kernel_rfl
  iterate 4 (next => exact rfl)
  next => exact HM
  clear HM HB
  intro w b HM HB
  refine hK.out _ _ (HM.out.tail.tail.tail) (fun hS2 => ?_)
  clear hS hK
  have hS := hS2
  clear hS2
  try simp only [Act.put, List.setIfInBounds_toArray, List.set_cons_zero, List.set_cons_succ]
  refine rone 9 rfl fun K' hK => ?_
  go_simp
  refine (concat_any _ _ [raw6 c i body.length p t, bytesA 6 x, bytesA 6 y, body] _ (HM.out.rbs4 (by ((repeat (first | exact List.Mem.head _ | apply List.Mem.tail)); done)) (HM.out.rb (by ((repeat (first | exact List.Mem.head _ | apply List.Mem.tail)); done))) (HM.out.rb (by ((repeat (first | exact List.Mem.head _ | apply List.Mem.tail)); done))) (HM.out.rb (by ((repeat (first | exact List.Mem.head _ | apply List.Mem.tail)); done))) (HR.out.below HB)) HLEN.out).mono ?_
  rintro e w ⟨vr, rfl, ho, hb⟩
  replace HM := Lib.hid (HM.out.row hb ho)
  replace HB := HM.out.below
  clear ho hb
  refine hK.out _ _ (HM.out.tail.tail.tail.tail) (fun hS2 => ?_)
  clear hS hK
  have hS := hS2
  clear hS2
  try simp only [Act.put, List.setIfInBounds_toArray, List.set_cons_zero, List.set_cons_succ]
  refine tk 10 4 ?_
  refine tk 11 5 ?_
  refine wpAnyH_done (by kernel_rfl) ?_ _
  clear hS
  go_wp2_with (first | refine m_rd ?_ | (refine m_wr ?_; clear HM HB; intro w b HM HB; try clear b) | (refine m_ap ?_; clear HM HB; intro w Aq cq HM HB) | fail)
  go_ret2
  exact ⟨_, rfl, by rw [HF.out]; exact HM.out.ob (by ((repeat (first | exact List.Mem.head _ | apply List.Mem.tail)); done)), HB⟩
end Go.Proofs.Ytahnibhcfdamdaa.Is
