/- The reference's packet of a right head and a body, of family 6. -/
import Derived.Test.YtahnibhcfdamdaaIu
import Derived.Test.YtahnibhcfdamdaaZb
set_option linter.unusedSimpArgs false
set_option linter.unusedVariables false
set_option maxRecDepth 100000
namespace Go.Proofs.Ytahnibhcfdamdaa.Is
open Go.RowKit Go.Proofs.YtahnibhcfdamdaaW.PrintWords Go.Proofs.Ytahnibhcfdamdaa.Bs Go.Proofs.Ytahnibhcfdamdaa.Av Go.Proofs.Ytahnibhcfdamdaa.Ad Go.Proofs.Ytahnibhcfdamdaa.Hd Go.Proofs.Ytahnibhcfdamdaa.Mm Go.Proofs.Ytahnibhcfdamdaa.Le Go.Proofs.Ytahnibhcfdamdaa.Ip Go.Proofs.Ytahnibhcfdamdaa.En Go.Proofs.Ytahnibhcfdamdaa.Co

theorem raw6_cells (c i n p t : Nat) (hc : c < 256) (hi : i < 1048576) (hn : n < 65536) (hp : p < 256) (ht : t < 256) :
    (encs B (raw6 c i n p t)).toArray = #[.int .u8 (96 + (c : Int) / 16), .int .u8 (16 * ((c : Int) % 16) + (i : Int) / 65536), .int .u8 ((i : Int) / 256 % 256), .int .u8 ((i : Int) % 256), .int .u8 ((n : Int) / 256), .int .u8 ((n : Int) % 256), .int .u8 p, .int .u8 t] := by
  unfold raw6 encs
  simp only [List.map_cons, List.map_nil]
  rw [B_ofNat _ (show 96 + c / 16 < 256 by omega), B_ofNat _ (show 16 * (c % 16) + i / 65536 < 256 by omega), B_ofNat _ (show i / 256 % 256 < 256 by omega), B_ofNat _ (show i % 256 < 256 by omega), B_ofNat _ (show n / 256 < 256 by omega), B_ofNat _ (show n % 256 < 256 by omega), B_ofNat p hp, B_ofNat t ht]
  rfl
set_option maxHeartbeats 1000000 in
theorem refPut6_ok (n0 n1 n2 n5 n6 : Int) (c i t p : Nat) (x y : List UInt8) (v : Value) (body : List UInt8) (w0 : World) (hr : RB w0 v body) (hx : x.length = 16) (hy : y.length = 16) (hc : c < 256) (hi : i < 1048576) (ht : t < 256) (hp : p < 256) (hb : body.length ≤ 65495) :
    Calls Try.prog 29 #[.agg (HV [n0, n1, n2, c, i, n5, n6, t, p] 6 x 6 y), v] w0 (RowTup w0 (all6 c i p t x y body)) := by
  have HX := Lib.hid hx
  have HY := Lib.hid hy
  have HC : Hid (Cells 31 (HV [n0, n1, n2, c, i, n5, n6, t, p] 6 x 6 y)) := Lib.hid (cellsH _ _ _ _ _ rfl hx hy)
  have HR := Lib.hid hr
  have hl := hr.len
  obtain ⟨A, cb, rfl, hcb, hrr⟩ := hr
  have HCS := Lib.hid (raw6_cells c i body.length p t hc hi (by omega) hp ht)
  have HR8 : Hid ((raw6 c i body.length p t).length = 8) := Lib.hid rfl
  have HN1 : Hid ((raw6 c i body.length p t).length + x.length = 24) := Lib.hid (by rw [hx]; rfl)
  have HN2 : Hid ((raw6 c i body.length p t ++ x).length + y.length = 40) := Lib.hid (by rw [List.length_append, hx, hy]; rfl)
  have HN3 : Hid ((raw6 c i body.length p t ++ x ++ y).length + body.length = 40 + body.length) := Lib.hid (by rw [List.length_append, List.length_append, hx, hy]; rfl)
  clear hrr hx hy
  have HM := Lib.hid (Mem.start w0)
  have HB := HM.out.below
  go_enter Try.func29, Try.ntmps29
  go_wp2_with (first | refine m_rd ?_ | (refine m_wr ?_; clear HM HB; intro w b HM HB; try clear b) | (refine m_ap ?_; clear HM HB; intro w Aq cq HM HB) | fail)
  refine (from_yes6 c 255 _ (by omega) (by omega)).mono ?_
  rintro e w' ⟨rfl, rfl⟩
  go_wp2_with (first | refine m_rd ?_ | (refine m_wr ?_; clear HM HB; intro w b HM HB; try clear b) | (refine m_ap ?_; clear HM HB; intro w Aq cq HM HB) | fail)
  refine (from_yes6 t 255 _ (by omega) (by omega)).mono ?_
  rintro e w' ⟨rfl, rfl⟩
  go_wp2_with (first | refine m_rd ?_ | (refine m_wr ?_; clear HM HB; intro w b HM HB; try clear b) | (refine m_ap ?_; clear HM HB; intro w Aq cq HM HB) | fail)
  refine (from_yes6 p 255 _ (by omega) (by omega)).mono ?_
  rintro e w' ⟨rfl, rfl⟩
  go_wp2_with (first | refine m_rd ?_ | (refine m_wr ?_; clear HM HB; intro w b HM HB; try clear b) | (refine m_ap ?_; clear HM HB; intro w Aq cq HM HB) | fail)
  refine (from_yes6 i 1048575 _ (by omega) (by omega)).mono ?_
  rintro e w' ⟨rfl, rfl⟩
  go_wp2_with (first | ((with_reducible refine m_lit ?_ rfl (raw6 c i body.length p t) rfl (by decide) HCS.out (bytes8 _ _ _ _ _ _ _ _) ?_ HM ?_); (next => kernel_rfl); (next => exact rfl); clear HM HB; intro w b HM HB) | refine m_rd ?_ | (refine m_wr ?_; clear HM HB; intro w b HM HB; try clear b) | (refine m_ap ?_; clear HM HB; intro w Aq cq HM HB) | fail)
  refine (refBytes_any 6 x _ HX.out).mono ?_
  rintro e w ⟨vx, rfl, ho, hb⟩
  replace HM := Lib.hid (HM.out.row hb ho)
  replace HB := HM.out.below
  clear ho hb
  rw [bytesA6 x HX.out] at HM
  obtain ⟨Ax, cx, rfl, -, -⟩ := HM.out.rb (by ((repeat (first | exact List.Mem.head _ | apply List.Mem.tail)); done))
  go_wp2_with (first | refine m_rd ?_ | (refine m_wr ?_; clear HM HB; intro w b HM HB; try clear b) | (refine m_ap ?_; clear HM HB; intro w Aq cq HM HB) | fail)
  refine (refBytes_any 6 y _ HY.out).mono ?_
  rintro e w ⟨vy, rfl, ho, hb⟩
  replace HM := Lib.hid (HM.out.row hb ho)
  replace HB := HM.out.below
  clear ho hb
  rw [bytesA6 y HY.out] at HM
  obtain ⟨Ay, cy, rfl, -, -⟩ := HM.out.rb (by ((repeat (first | exact List.Mem.head _ | apply List.Mem.tail)); done))
  go_wp2_with (first | refine m_rd ?_ | (refine m_wr ?_; clear HM HB; intro w b HM HB; try clear b) | (refine m_ap ?_; clear HM HB; intro w Aq cq HM HB) | fail)
  go_ret2
  exact ⟨_, rfl, HM.out.ob (by ((repeat (first | exact List.Mem.head _ | apply List.Mem.tail)); done)), HB⟩
end Go.Proofs.Ytahnibhcfdamdaa.Is
