/- The laws of layer 20: what they run, and that it says true. -/
import Derived.Test.YtahnibhcfdamdaaZc
import Derived.Test.YtahnibhcfdamdaaIw
import Derived.Test.YtahnibhcfdamdaaZb
set_option linter.unusedSimpArgs false
set_option linter.unusedVariables false
set_option maxRecDepth 100000
namespace Go.Proofs.Ytahnibhcfdamdaa.Is
open Go.RowKit Go.Proofs.YtahnibhcfdamdaaW.PrintWords Go.Proofs.Ytahnibhcfdamdaa.Bs Go.Proofs.Ytahnibhcfdamdaa.Av Go.Proofs.Ytahnibhcfdamdaa.Ad Go.Proofs.Ytahnibhcfdamdaa.Hd Go.Proofs.Ytahnibhcfdamdaa.Mm Go.Proofs.Ytahnibhcfdamdaa.Le Go.Proofs.Ytahnibhcfdamdaa.Ip Go.Proofs.Ytahnibhcfdamdaa.En Go.Proofs.Ytahnibhcfdamdaa.Co

def end16 (n : UInt8) : List UInt8 := List.replicate 15 0 ++ [n]
set_option maxHeartbeats 1000000 in
theorem alive20_any (w0 : World) : Calls Try.prog 25 #[] w0 fun e w' => e = .returned (.bool true) ∧ Below w0.heap.size w0 w' := by
  have BH1 : Hid (Built 23 #[(15, .int .u8 1)] (.agg (encs B (end16 1)).toArray)) := Lib.hid (fun W => by kernel_rfl)
  have BH2 : Hid (Built 23 #[(15, .int .u8 2)] (.agg (encs B (end16 2)).toArray)) := Lib.hid (fun W => by kernel_rfl)
  have BH3 := Lib.hid (built_six (end16 1) rfl)
  have BH4 := Lib.hid (built_six (end16 2) rfl)
  have BH5 := Lib.hid (built_ends 6 6 (end16 1) (end16 2) rfl rfl)
  have LT1 : Hid (LitOf 1 #[(0, .int .u8 7)] [7]) := Lib.hid ⟨rfl, by decide, fun W => by kernel_rfl⟩
  have HM := Lib.hid (Mem.start w0)
  have HB := HM.out.below
  go_enter Try.func25, Try.ntmps25
  go_wp2_with (first | refine m_rd ?_ | (refine m_wr ?_; clear HM HB; intro w b HM HB; try clear b) | (refine m_ap ?_; clear HM HB; intro w Aq cq HM HB) | fail)
  refine (put6_ok 0 0 0 0 0 0 0 0 0 (end16 1) (end16 2) _ [7] _ (HM.out.rb (by ((repeat (first | exact List.Mem.head _ | apply List.Mem.tail)); done))) rfl rfl (by decide) (by decide) (by decide) (by decide) (by decide)).mono ?_
  rintro e w ⟨v, rfl, ho, hb⟩
  replace HM := Lib.hid (HM.out.row hb ho)
  replace HB := HM.out.below
  clear ho hb
  obtain ⟨g, cap, rfl, -, -, hcap⟩ := (HM.out.ob (List.Mem.head _)).form (by decide)
  have c0 := ((HM.out.ob (List.Mem.head _)).at_ 0 (by decide)).1
  have c40 := ((HM.out.ob (List.Mem.head _)).at_ 40 (by decide)).1
  rw [show ((all6 0 0 0 0 (end16 1) (end16 2) [7]).getD 0 0).toNat = 96 from rfl] at c0
  rw [show ((all6 0 0 0 0 (end16 1) (end16 2) [7]).getD 40 0).toNat = 7 from rfl] at c40
  rw [show (all6 0 0 0 0 (end16 1) (end16 2) [7]).length = 41 from rfl] at HM hcap ⊢
  go_wp2_with (first | refine m_rd ?_ | (refine m_wr ?_; clear HM HB; intro w b HM HB; try clear b) | (refine m_ap ?_; clear HM HB; intro w Aq cq HM HB) | fail)
  go_ret
  exact ⟨rfl, HB⟩
set_option maxHeartbeats 1000000 in
theorem ipsixReads_walk (A : Option Addr) (c : Nat) (l : List UInt8) (w0 : World) (hr : RB w0 (.slice A l.length c) l) :
    Calls Try.prog 4 #[.slice A l.length c] w0 fun e w' => e = .returned (.bool true) ∧ Below w0.heap.size w0 w' := by
  have hl := hr.len
  have HR := Lib.hid hr
  clear hr
  have HM := Lib.hid (Mem.start w0)
  have HB := HM.out.below
  by_cases h3 : 300 < l.length
  · go_enter Try.func4, Try.ntmps4
    go_wp2_with (first | refine m_rd ?_ | (refine m_wr ?_; clear HM HB; intro w b HM HB; try clear b) | (refine m_ap ?_; clear HM HB; intro w Aq cq HM HB) | fail)
    refine (alive20_any _).mono ?_
    rintro e w ⟨rfl, hb⟩
    replace HM := Lib.hid (HM.out.call hb)
    replace HB := HM.out.below
    clear hb
    go_wp2_with (first | refine m_rd ?_ | (refine m_wr ?_; clear HM HB; intro w b HM HB; try clear b) | (refine m_ap ?_; clear HM HB; intro w Aq cq HM HB) | fail)
    go_ret
    exact ⟨rfl, HB⟩
  · have HC := Lib.hid (cells_head6 l)
    have EQ1 := Lib.hid (eql_head6 l)
    go_enter Try.func4, Try.ntmps4
    go_wp2_with (first | refine m_rd ?_ | (refine m_wr ?_; clear HM HB; intro w b HM HB; try clear b) | (refine m_ap ?_; clear HM HB; intro w Aq cq HM HB) | fail)
    refine (parse6_any _ l _ (HR.out.below HB)).mono ?_
    rintro e w ⟨rfl, hb⟩
    replace HM := Lib.hid (HM.out.call hb)
    replace HB := HM.out.below
    clear hb
    go_wp2_with (first | refine m_rd ?_ | (refine m_wr ?_; clear HM HB; intro w b HM HB; try clear b) | (refine m_ap ?_; clear HM HB; intro w Aq cq HM HB) | fail)
    refine (refParse6_any _ l _ (HR.out.below HB)).mono ?_
    rintro e w ⟨rfl, hb⟩
    replace HM := Lib.hid (HM.out.call hb)
    replace HB := HM.out.below
    clear hb
    go_wp2_with (first | refine m_rd ?_ | (refine m_wr ?_; clear HM HB; intro w b HM HB; try clear b) | (refine m_ap ?_; clear HM HB; intro w Aq cq HM HB) | fail)
    refine (alive20_any _).mono ?_
    rintro e w ⟨rfl, hb⟩
    replace HM := Lib.hid (HM.out.call hb)
    replace HB := HM.out.below
    clear hb
    go_wp2_with (first | refine m_rd ?_ | (refine m_wr ?_; clear HM HB; intro w b HM HB; try clear b) | (refine m_ap ?_; clear HM HB; intro w Aq cq HM HB) | fail)
    go_ret
    exact ⟨rfl, HB⟩
set_option maxHeartbeats 2000000 in
theorem ipsixPuts_walk (n0 n1 n2 n3 n4 n5 n6 n7 n8 s d : Int) (x y : List UInt8) (A : Option Addr) (c : Nat) (l : List UInt8) (w0 : World) (hf : Fits ([n0, n1, n2, n3, n4, n5, n6, n7, n8] ++ [s, d])) (hx : x.length = 16) (hy : y.length = 16) (hr : RB w0 (.slice A l.length c) l) :
    Calls Try.prog 5 #[.agg (HV [n0, n1, n2, n3, n4, n5, n6, n7, n8] s x d y), .slice A l.length c] w0 fun e w' => e = .returned (.bool true) ∧ Below w0.heap.size w0 w' := by
  have hl := hr.len
  have HR := Lib.hid hr
  have HX := Lib.hid hx
  have HY := Lib.hid hy
  have HC : Hid (Cells 31 (HV [n0, n1, n2, n3, n4, n5, n6, n7, n8] s x d y)) := Lib.hid (cellsH _ _ _ _ _ rfl hx hy)
  have b3 : In64 n3 := hf n3 (by simp)
  have b4 : In64 n4 := hf n4 (by simp)
  have b7 : In64 n7 := hf n7 (by simp)
  have b8 : In64 n8 := hf n8 (by simp)
  clear hr hx hy
  have HM := Lib.hid (Mem.start w0)
  have HB := HM.out.below
  by_cases h3 : 300 < l.length
  · go_enter Try.func5, Try.ntmps5
    go_wp2_with (first | refine m_rd ?_ | (refine m_wr ?_; clear HM HB; intro w b HM HB; try clear b) | (refine m_ap ?_; clear HM HB; intro w Aq cq HM HB) | fail)
    refine (alive20_any _).mono ?_
    rintro e w ⟨rfl, hb⟩
    replace HM := Lib.hid (HM.out.call hb)
    replace HB := HM.out.below
    clear hb
    go_wp2_with (first | refine m_rd ?_ | (refine m_wr ?_; clear HM HB; intro w b HM HB; try clear b) | (refine m_ap ?_; clear HM HB; intro w Aq cq HM HB) | fail)
    go_ret
    exact ⟨rfl, HB⟩
  by_cases hok : Ok6 n3 n4 n7 n8 s d
  case neg =>
    have HNO := Lib.hid hok
    have B3 := Lib.hid b3
    have B4 := Lib.hid b4
    have B7 := Lib.hid b7
    have B8 := Lib.hid b8
    clear hok b3 b4 b7 b8 hf
    go_enter Try.func5, Try.ntmps5
    go_wp2_with (first | refine m_rd ?_ | (refine m_wr ?_; clear HM HB; intro w b HM HB; try clear b) | (refine m_ap ?_; clear HM HB; intro w Aq cq HM HB) | fail)
    refine (put6_arg n0 n1 n2 n3 n4 n5 n6 n7 n8 s d x y _ l _ (HR.out.below HB) HX.out HY.out B3.out B4.out B7.out B8.out HNO.out).mono ?_
    rintro e w ⟨rfl, hb⟩
    replace HM := Lib.hid (HM.out.call hb)
    replace HB := HM.out.below
    clear hb
    go_wp2_with (first | refine m_rd ?_ | (refine m_wr ?_; clear HM HB; intro w b HM HB; try clear b) | (refine m_ap ?_; clear HM HB; intro w Aq cq HM HB) | fail)
    refine (refPut6_arg n0 n1 n2 n3 n4 n5 n6 n7 n8 s d x y _ l _ (HR.out.below HB) HX.out HY.out B3.out B4.out B7.out B8.out HNO.out).mono ?_
    rintro e w ⟨rfl, hb⟩
    replace HM := Lib.hid (HM.out.call hb)
    replace HB := HM.out.below
    clear hb
    go_wp2_with (first | refine m_rd ?_ | (refine m_wr ?_; clear HM HB; intro w b HM HB; try clear b) | (refine m_ap ?_; clear HM HB; intro w Aq cq HM HB) | fail)
    refine (same_any _ _ [] [] _ (RB.nil _) (RB.nil _)).mono ?_
    rintro e w ⟨rfl, hb⟩
    replace HM := Lib.hid (HM.out.call hb)
    replace HB := HM.out.below
    clear hb
    rw [decide_eq_true (rfl : ([] : List UInt8) = [])]
    go_wp2_with (first | refine m_rd ?_ | (refine m_wr ?_; clear HM HB; intro w b HM HB; try clear b) | (refine m_ap ?_; clear HM HB; intro w Aq cq HM HB) | fail)
    refine (alive20_any _).mono ?_
    rintro e w ⟨rfl, hb⟩
    replace HM := Lib.hid (HM.out.call hb)
    replace HB := HM.out.below
    clear hb
    go_wp2_with (first | refine m_rd ?_ | (refine m_wr ?_; clear HM HB; intro w b HM HB; try clear b) | (refine m_ap ?_; clear HM HB; intro w Aq cq HM HB) | fail)
    go_ret
    exact ⟨rfl, HB⟩
  obtain ⟨⟨k0, k1⟩, ⟨k2, k3⟩, ⟨k4, k5⟩, ⟨k6, k7⟩, rfl, rfl⟩ := hok
  obtain ⟨cl, rfl⟩ := Int.eq_ofNat_of_zero_le k0
  obtain ⟨id, rfl⟩ := Int.eq_ofNat_of_zero_le k2
  obtain ⟨tt, rfl⟩ := Int.eq_ofNat_of_zero_le k4
  obtain ⟨pr, rfl⟩ := Int.eq_ofNat_of_zero_le k6
  have hc1 : cl < 256 := by omega
  have hi1 : id < 1048576 := by omega
  have ht1 : tt < 256 := by omega
  have hp1 : pr < 256 := by omega
  have hbk := all6_back cl id pr tt x y l hc1 hi1 (by omega) hp1 ht1 HX.out HY.out
  have HH : Hid (head6 (all6 cl id pr tt x y l) = HV [6, 40, ((40 + l.length : Nat) : Int), cl, id, 0, 0, tt, pr] 6 x 6 y ∧ bad6 (all6 cl id pr tt x y l) = 0 ∧ (all6 cl id pr tt x y l).length = 40 + l.length) := Lib.hid (by
    obtain ⟨e1, e2, e3, e4, e5⟩ := hbk
    exact ⟨by unfold head6; rw [if_pos e1, e2, e3, e4], e1, e5⟩)
  have EQ1 : Hid (EqlOf 31 (HV [6, 40, ((40 + l.length : Nat) : Int), cl, id, 0, 0, tt, pr] 6 x 6 y) (HV [6, 40, ((40 + l.length : Nat) : Int), cl, id, 0, 0, tt, pr] 6 x 6 y) true) := Lib.hid (eql_head_self _ _ _ _ _ rfl HX.out HY.out (by
    intro n hn
    simp only [List.cons_append, List.nil_append, List.mem_cons, List.not_mem_nil, or_false] at hn
    rcases hn with rfl | rfl | rfl | rfl | rfl | rfl | rfl | rfl | rfl | rfl | rfl <;> omega))
  have HC2 : Hid (Cells 31 (HV [6, 40, ((40 + l.length : Nat) : Int), cl, id, 0, 0, tt, pr] 6 x 6 y)) := Lib.hid (cellsH _ _ _ _ _ rfl HX.out HY.out)
  clear hbk b3 b4 b7 b8 hf k0 k1 k2 k3 k4 k5 k6 k7
  go_enter Try.func5, Try.ntmps5
  go_wp2_with (first | refine m_rd ?_ | (refine m_wr ?_; clear HM HB; intro w b HM HB; try clear b) | (refine m_ap ?_; clear HM HB; intro w Aq cq HM HB) | fail)
  refine (put6_ok n0 n1 n2 n5 n6 cl id tt pr x y _ l _ (HR.out.below HB) HX.out HY.out hc1 hi1 ht1 hp1 (by omega)).mono ?_
  rintro e w ⟨v1, rfl, ho, hb⟩
  replace HM := Lib.hid (HM.out.row hb ho)
  replace HB := HM.out.below
  clear ho hb
  obtain ⟨A1, c1, rfl, -, -⟩ := HM.out.rb (by ((repeat (first | exact List.Mem.head _ | apply List.Mem.tail)); done))
  rw [HH.out.2.2] at HM ⊢
  go_wp2_with (first | refine m_rd ?_ | (refine m_wr ?_; clear HM HB; intro w b HM HB; try clear b) | (refine m_ap ?_; clear HM HB; intro w Aq cq HM HB) | fail)
  refine (refPut6_ok n0 n1 n2 n5 n6 cl id tt pr x y _ l _ (HR.out.below HB) HX.out HY.out hc1 hi1 ht1 hp1 (by omega)).mono ?_
  rintro e w ⟨v2, rfl, ho, hb⟩
  replace HM := Lib.hid (HM.out.row hb ho)
  replace HB := HM.out.below
  clear ho hb
  obtain ⟨A2, c2, rfl, -, -⟩ := HM.out.rb (by ((repeat (first | exact List.Mem.head _ | apply List.Mem.tail)); done))
  rw [HH.out.2.2] at HM ⊢
  go_wp2_with (first | refine m_rd ?_ | (refine m_wr ?_; clear HM HB; intro w b HM HB; try clear b) | (refine m_ap ?_; clear HM HB; intro w Aq cq HM HB) | fail)
  refine (same_any _ _ (all6 cl id pr tt x y l) (all6 cl id pr tt x y l) _ (by apply Mem.rb HM.out; ((repeat (first | exact List.Mem.head _ | apply List.Mem.tail)); done)) (by apply Mem.rb HM.out; ((repeat (first | exact List.Mem.head _ | apply List.Mem.tail)); done))).mono ?_
  rintro e w ⟨rfl, hb⟩
  replace HM := Lib.hid (HM.out.call hb)
  replace HB := HM.out.below
  clear hb
  rw [decide_eq_true rfl]
  go_wp2_with (first | refine m_rd ?_ | (refine m_wr ?_; clear HM HB; intro w b HM HB; try clear b) | (refine m_ap ?_; clear HM HB; intro w Aq cq HM HB) | fail)
  refine (parse6_any _ (all6 cl id pr tt x y l) _ (by apply Mem.rb HM.out; ((repeat (first | exact List.Mem.head _ | apply List.Mem.tail)); done))).mono ?_
  rintro e w ⟨rfl, hb⟩
  replace HM := Lib.hid (HM.out.call hb)
  replace HB := HM.out.below
  clear hb
  rw [HH.out.1, HH.out.2.1]
  go_wp2_with (first | refine m_rd ?_ | (refine m_wr ?_; clear HM HB; intro w b HM HB; try clear b) | (refine m_ap ?_; clear HM HB; intro w Aq cq HM HB) | fail)
  refine (alive20_any _).mono ?_
  rintro e w ⟨rfl, hb⟩
  replace HM := Lib.hid (HM.out.call hb)
  replace HB := HM.out.below
  clear hb
  go_wp2_with (first | refine m_rd ?_ | (refine m_wr ?_; clear HM HB; intro w b HM HB; try clear b) | (refine m_ap ?_; clear HM HB; intro w Aq cq HM HB) | fail)
  go_ret
  exact ⟨rfl, HB⟩
end Go.Proofs.Ytahnibhcfdamdaa.Is
