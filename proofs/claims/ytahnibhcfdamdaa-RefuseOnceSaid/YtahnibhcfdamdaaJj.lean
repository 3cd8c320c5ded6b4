/- The laws of layer 19: packets put, and parsed again. -/
import Derived.Test.YtahnibhcfdamdaaZd
import Derived.Test.YtahnibhcfdamdaaJe
set_option linter.unusedSimpArgs false
set_option linter.unusedVariables false
set_option maxRecDepth 100000
namespace Go.Proofs.Ytahnibhcfdamdaa.Is
open Go.RowKit Go.Proofs.YtahnibhcfdamdaaW.PrintWords Go.Proofs.Ytahnibhcfdamdaa.Bs Go.Proofs.Ytahnibhcfdamdaa.Av Go.Proofs.Ytahnibhcfdamdaa.Ad Go.Proofs.Ytahnibhcfdamdaa.Hd Go.Proofs.Ytahnibhcfdamdaa.Mm Go.Proofs.Ytahnibhcfdamdaa.Le Go.Proofs.Ytahnibhcfdamdaa.Ip Go.Proofs.Ytahnibhcfdamdaa.En Go.Proofs.Ytahnibhcfdamdaa.Co Go.Proofs.Ytahnibhcfdamdaa.Os

/-- An address of family 4 that is right is its first four bytes. -/
theorem pad_take (x : List UInt8) (hx : x.length = 16) (h : widthA 4 x = 32) : pad16 (x.take 4) = x := by
  have hr := ((width32 4 x).1 h).2
  unfold rightA at hr
  simp at hr
  have h2 : x.drop 4 = List.replicate 12 0 := List.eq_replicate_iff.2 ⟨by rw [List.length_drop, hx], fun b hb => by simpa using hr b hb⟩
  unfold pad16
  rw [← h2, List.take_append_drop]
theorem put4_arg (n0 n1 n2 n3 n4 n5 n6 n7 n8 s d : Int) (x y : List UInt8) (v : Value) (body : List UInt8) (w0 : World) (hr : RB w0 v body) (hx : x.length = 16) (hy : y.length = 16) (b3 : In64' n3) (b4 : In64' n4) (b5 : In64' n5) (b6 : In64' n6) (b7 : In64' n7) (b8 : In64' n8) (h : ¬ Ok4 n3 n4 n5 n6 n7 n8 s x d y) :
    Calls Try.prog 24 #[.agg (HV [n0, n1, n2, n3, n4, n5, n6, n7, n8] s x d y), v] w0 fun e w' => e = .returned (.tuple #[.slice none 0 0, .int .i64 1]) ∧ Below w0.heap.size w0 w' := by
  by_cases hn : (0 ≤ n3 ∧ n3 < 256) ∧ (0 ≤ n4 ∧ n4 < 65536) ∧ (0 ≤ n5 ∧ n5 < 8) ∧ (0 ≤ n6 ∧ n6 < 8192) ∧ (0 ≤ n7 ∧ n7 < 256) ∧ (0 ≤ n8 ∧ n8 < 256)
  · exact put4_adr n0 n1 n2 n3 n4 n5 n6 n7 n8 s d x y v body w0 hr hx hy b3 b4 b5 b6 b7 b8 hn (fun hw => h ⟨hn.1, hn.2.1, hn.2.2.1, hn.2.2.2.1, hn.2.2.2.2.1, hn.2.2.2.2.2, hw.1, hw.2⟩)
  · exact put4_num n0 n1 n2 n3 n4 n5 n6 n7 n8 s d x y v body w0 hr hx hy b3 b4 b5 b6 b7 b8 hn
theorem refPut4_arg (n0 n1 n2 n3 n4 n5 n6 n7 n8 s d : Int) (x y : List UInt8) (v : Value) (body : List UInt8) (w0 : World) (hr : RB w0 v body) (hx : x.length = 16) (hy : y.length = 16) (b3 : In64' n3) (b4 : In64' n4) (b5 : In64' n5) (b6 : In64' n6) (b7 : In64' n7) (b8 : In64' n8) (h : ¬ Ok4 n3 n4 n5 n6 n7 n8 s x d y) :
    Calls Try.prog 33 #[.agg (HV [n0, n1, n2, n3, n4, n5, n6, n7, n8] s x d y), v] w0 fun e w' => e = .returned (.tuple #[.slice none 0 0, .int .i64 1]) ∧ Below w0.heap.size w0 w' := by
  by_cases hn : (0 ≤ n3 ∧ n3 < 256) ∧ (0 ≤ n4 ∧ n4 < 65536) ∧ (0 ≤ n5 ∧ n5 < 8) ∧ (0 ≤ n6 ∧ n6 < 8192) ∧ (0 ≤ n7 ∧ n7 < 256) ∧ (0 ≤ n8 ∧ n8 < 256)
  · exact refPut4_adr n0 n1 n2 n3 n4 n5 n6 n7 n8 s d x y v body w0 hr hx hy b3 b4 b5 b6 b7 b8 hn (fun hw => h ⟨hn.1, hn.2.1, hn.2.2.1, hn.2.2.2.1, hn.2.2.2.2.1, hn.2.2.2.2.2, hw.1, hw.2⟩)
  · exact refPut4_num n0 n1 n2 n3 n4 n5 n6 n7 n8 s d x y v body w0 hr hx hy b3 b4 b5 b6 b7 b8 hn
set_option maxHeartbeats 2000000 in
theorem ipfourPuts_walk (n0 n1 n2 n3 n4 n5 n6 n7 n8 s d : Int) (x y : List UInt8) (A : Option Addr) (c : Nat) (l : List UInt8) (w0 : World) (hf : Fits ([n0, n1, n2, n3, n4, n5, n6, n7, n8] ++ [s, d])) (hx : x.length = 16) (hy : y.length = 16) (hr : RB w0 (.slice A l.length c) l) :
    Calls Try.prog 7 #[.agg (HV [n0, n1, n2, n3, n4, n5, n6, n7, n8] s x d y), .slice A l.length c] w0 fun e w' => e = .returned (.bool true) ∧ Below w0.heap.size w0 w' := by
  have hl := hr.len
  have HR := Lib.hid hr
  have HX := Lib.hid hx
  have HY := Lib.hid hy
  have HC : Hid (Cells 31 (HV [n0, n1, n2, n3, n4, n5, n6, n7, n8] s x d y)) := Lib.hid (cellsH _ _ _ _ _ rfl hx hy)
  have HF := Lib.hid hf
  clear hr hx hy hf
  have HM := Lib.hid (Mem.start w0)
  have HB := HM.out.below
  by_cases h3 : 300 < l.length
  · go_enter Try.func7, Try.ntmps7
    go_wp2_with (first | refine m_rd ?_ | (refine m_wr ?_; clear HM HB; intro w b HM HB; try clear b) | (refine m_ap ?_; clear HM HB; intro w Aq cq HM HB) | fail)
    refine (alive19_any _).mono ?_
    rintro e w ⟨rfl, hb⟩
    replace HM := Lib.hid (HM.out.call hb)
    replace HB := HM.out.below
    clear hb
    go_wp2_with (first | refine m_rd ?_ | (refine m_wr ?_; clear HM HB; intro w b HM HB; try clear b) | (refine m_ap ?_; clear HM HB; intro w Aq cq HM HB) | fail)
    go_ret
    exact ⟨rfl, HB⟩
  by_cases hok : Ok4 n3 n4 n5 n6 n7 n8 s x d y
  case neg =>
    have HNO := Lib.hid hok
    have HB6 : Hid (In64' n3 ∧ In64' n4 ∧ In64' n5 ∧ In64' n6 ∧ In64' n7 ∧ In64' n8) := Lib.hid ⟨HF.out n3 (by simp), HF.out n4 (by simp), HF.out n5 (by simp), HF.out n6 (by simp), HF.out n7 (by simp), HF.out n8 (by simp)⟩
    clear hok HF
    go_enter Try.func7, Try.ntmps7
    go_wp2_with (first | refine m_rd ?_ | (refine m_wr ?_; clear HM HB; intro w b HM HB; try clear b) | (refine m_ap ?_; clear HM HB; intro w Aq cq HM HB) | fail)
    refine (put4_arg n0 n1 n2 n3 n4 n5 n6 n7 n8 s d x y _ l _ (HR.out.below HB) HX.out HY.out HB6.out.1 HB6.out.2.1 HB6.out.2.2.1 HB6.out.2.2.2.1 HB6.out.2.2.2.2.1 HB6.out.2.2.2.2.2 HNO.out).mono ?_
    rintro e w ⟨rfl, hb⟩
    replace HM := Lib.hid (HM.out.call hb)
    replace HB := HM.out.below
    clear hb
    go_wp2_with (first | refine m_rd ?_ | (refine m_wr ?_; clear HM HB; intro w b HM HB; try clear b) | (refine m_ap ?_; clear HM HB; intro w Aq cq HM HB) | fail)
    refine (refPut4_arg n0 n1 n2 n3 n4 n5 n6 n7 n8 s d x y _ l _ (HR.out.below HB) HX.out HY.out HB6.out.1 HB6.out.2.1 HB6.out.2.2.1 HB6.out.2.2.2.1 HB6.out.2.2.2.2.1 HB6.out.2.2.2.2.2 HNO.out).mono ?_
    rintro e w ⟨rfl, hb⟩
    replace HM := Lib.hid (HM.out.call hb)
    replace HB := HM.out.below
    clear hb
    go_wp2_with (first | refine m_rd ?_ | (refine m_wr ?_; clear HM HB; intro w b HM HB; try clear b) | (refine m_ap ?_; clear HM HB; intro w Aq cq HM HB) | fail)
    refine (same_any _ _ [] [] _ (RB.nil _) (RB.nil _)).mono ?_
    rintro e w ⟨rfl, hb⟩
    replace HM := Lib.hid (HM.out.call hb)
    replace HB := HM.out.below
    clear hb
    rw [decide_eq_true (rfl : ([] : List UInt8) = [])]
    go_wp2_with (first | refine m_rd ?_ | (refine m_wr ?_; clear HM HB; intro w b HM HB; try clear b) | (refine m_ap ?_; clear HM HB; intro w Aq cq HM HB) | fail)
    refine (alive19_any _).mono ?_
    rintro e w ⟨rfl, hb⟩
    replace HM := Lib.hid (HM.out.call hb)
    replace HB := HM.out.below
    clear hb
    go_wp2_with (first | refine m_rd ?_ | (refine m_wr ?_; clear HM HB; intro w b HM HB; try clear b) | (refine m_ap ?_; clear HM HB; intro w Aq cq HM HB) | fail)
    go_ret
    exact ⟨rfl, HB⟩
  obtain ⟨⟨k0, k1⟩, ⟨k2, k3⟩, ⟨k4, k5⟩, ⟨k6, k7⟩, ⟨k8, k9⟩, ⟨ka, kb⟩, wx, wy⟩ := hok
  obtain ⟨rfl, _⟩ := (width32 s x).1 wx
  obtain ⟨rfl, _⟩ := (width32 d y).1 wy
  obtain ⟨cl, rfl⟩ := Int.eq_ofNat_of_zero_le k0
  obtain ⟨id, rfl⟩ := Int.eq_ofNat_of_zero_le k2
  obtain ⟨fl, rfl⟩ := Int.eq_ofNat_of_zero_le k4
  obtain ⟨fr, rfl⟩ := Int.eq_ofNat_of_zero_le k6
  obtain ⟨tt, rfl⟩ := Int.eq_ofNat_of_zero_le k8
  obtain ⟨pr, rfl⟩ := Int.eq_ofNat_of_zero_le ka
  have hc1 : cl < 256 := by omega
  have hi1 : id < 65536 := by omega
  have hf1 : fl < 8 := by omega
  have hr1 : fr < 8192 := by omega
  have ht1 : tt < 256 := by omega
  have hp1 : pr < 256 := by omega
  have L4 : (x.take 4).length = 4 := by have := HX.out; simp; omega
  have M4 : (y.take 4).length = 4 := by have := HY.out; simp; omega
  have hbk := all4_back cl id fl fr tt pr (x.take 4) (y.take 4) l hc1 hi1 (by omega) hf1 hr1 ht1 hp1 L4 M4
  have HH : Hid (head4v (all4 cl id fl fr tt pr (x.take 4) (y.take 4) l) = HV [4, 20, ((20 + l.length : Nat) : Int), cl, id, fl, fr, tt, pr] 4 x 4 y ∧ bad4 (all4 cl id fl fr tt pr (x.take 4) (y.take 4) l) = 0 ∧ (all4 cl id fl fr tt pr (x.take 4) (y.take 4) l).length = 20 + l.length) := Lib.hid (by
    obtain ⟨e1, e2, e3, e4, e5, _⟩ := hbk
    exact ⟨by unfold head4v; rw [if_pos e1, e2, e3, e4, pad_take x HX.out wx, pad_take y HY.out wy], e1, e5⟩)
  have EQ1 : Hid (EqlOf 31 (HV [4, 20, ((20 + l.length : Nat) : Int), cl, id, fl, fr, tt, pr] 4 x 4 y) (HV [4, 20, ((20 + l.length : Nat) : Int), cl, id, fl, fr, tt, pr] 4 x 4 y) true) := Lib.hid (eql_head_self _ _ _ _ _ rfl HX.out HY.out (by
    intro n hn
    simp only [List.cons_append, List.nil_append, List.mem_cons, List.not_mem_nil, or_false] at hn
    rcases hn with rfl | rfl | rfl | rfl | rfl | rfl | rfl | rfl | rfl | rfl | rfl <;> omega))
  have HC2 : Hid (Cells 31 (HV [4, 20, ((20 + l.length : Nat) : Int), cl, id, fl, fr, tt, pr] 4 x 4 y)) := Lib.hid (cellsH _ _ _ _ _ rfl HX.out HY.out)
  have HP : Hid (∀ v1 w1, RB w1 v1 l → Calls Try.prog 24 #[.agg (HV [n0, n1, n2, cl, id, fl, fr, tt, pr] 4 x 4 y), v1] w1 (RowTup w1 (all4 cl id fl fr tt pr (x.take 4) (y.take 4) l))) := Lib.hid (fun v1 w1 h => put4_ok n0 n1 n2 cl id fl fr tt pr x y v1 l w1 h HX.out HY.out hc1 hi1 hf1 hr1 ht1 hp1 wx wy (by omega))
  have HQ : Hid (∀ v1 w1, RB w1 v1 l → Calls Try.prog 33 #[.agg (HV [n0, n1, n2, cl, id, fl, fr, tt, pr] 4 x 4 y), v1] w1 (RowTup w1 (all4 cl id fl fr tt pr (x.take 4) (y.take 4) l))) := Lib.hid (fun v1 w1 h => refPut4_ok n0 n1 n2 cl id fl fr tt pr x y v1 l w1 h HX.out HY.out hc1 hi1 hf1 hr1 ht1 hp1 wx wy (by omega))
  clear hbk HF k0 k1 k2 k3 k4 k5 k6 k7 k8 k9 ka kb wx wy L4 M4
  generalize all4 cl id fl fr tt pr (x.take 4) (y.take 4) l = L at HH HP HQ
  go_enter Try.func7, Try.ntmps7
  go_wp2_with (first | refine m_rd ?_ | (refine m_wr ?_; clear HM HB; intro w b HM HB; try clear b) | (refine m_ap ?_; clear HM HB; intro w Aq cq HM HB) | fail)
  refine (HP.out _ _ (HR.out.below HB)).mono ?_
  rintro e w ⟨v1, rfl, ho, hb⟩
  replace HM := Lib.hid (HM.out.row hb ho)
  replace HB := HM.out.below
  clear ho hb
  obtain ⟨A1, c1, rfl, -, -⟩ := HM.out.rb (by ((repeat (first | exact List.Mem.head _ | apply List.Mem.tail)); done))
  rw [HH.out.2.2] at HM ⊢
  go_wp2_with (first | refine m_rd ?_ | (refine m_wr ?_; clear HM HB; intro w b HM HB; try clear b) | (refine m_ap ?_; clear HM HB; intro w Aq cq HM HB) | fail)
  refine (HQ.out _ _ (HR.out.below HB)).mono ?_
  rintro e w ⟨v2, rfl, ho, hb⟩
  replace HM := Lib.hid (HM.out.row hb ho)
  replace HB := HM.out.below
  clear ho hb
  obtain ⟨A2, c2, rfl, -, -⟩ := HM.out.rb (by ((repeat (first | exact List.Mem.head _ | apply List.Mem.tail)); done))
  rw [HH.out.2.2] at HM ⊢
  go_wp2_with (first | refine m_rd ?_ | (refine m_wr ?_; clear HM HB; intro w b HM HB; try clear b) | (refine m_ap ?_; clear HM HB; intro w Aq cq HM HB) | fail)
  refine (same_any _ _ L L _ (by apply Mem.rb HM.out; ((repeat (first | exact List.Mem.head _ | apply List.Mem.tail)); done)) (by apply Mem.rb HM.out; ((repeat (first | exact List.Mem.head _ | apply List.Mem.tail)); done))).mono ?_
  rintro e w ⟨rfl, hb⟩
  replace HM := Lib.hid (HM.out.call hb)
  replace HB := HM.out.below
  clear hb
  rw [decide_eq_true rfl]
  go_wp2_with (first | refine m_rd ?_ | (refine m_wr ?_; clear HM HB; intro w b HM HB; try clear b) | (refine m_ap ?_; clear HM HB; intro w Aq cq HM HB) | fail)
  refine (parse4_any _ L _ (by apply Mem.rb HM.out; ((repeat (first | exact List.Mem.head _ | apply List.Mem.tail)); done))).mono ?_
  rintro e w ⟨rfl, hb⟩
  replace HM := Lib.hid (HM.out.call hb)
  replace HB := HM.out.below
  clear hb
  rw [HH.out.1, HH.out.2.1]
  go_wp2_with (first | refine m_rd ?_ | (refine m_wr ?_; clear HM HB; intro w b HM HB; try clear b) | (refine m_ap ?_; clear HM HB; intro w Aq cq HM HB) | fail)
  refine (alive19_any _).mono ?_
  rintro e w ⟨rfl, hb⟩
  replace HM := Lib.hid (HM.out.call hb)
  replace HB := HM.out.below
  clear hb
  go_wp2_with (first | refine m_rd ?_ | (refine m_wr ?_; clear HM HB; intro w b HM HB; try clear b) | (refine m_ap ?_; clear HM HB; intro w Aq cq HM HB) | fail)
  go_ret
  exact ⟨rfl, HB⟩
end Go.Proofs.Ytahnibhcfdamdaa.Is
