/- Packets of either family: the reference head of bytes; whether bytes are one whole packet. -/
import Derived.Test.YtahnibhcfdamdaaKa
set_option linter.unusedSimpArgs false
set_option linter.unusedVariables false
set_option maxRecDepth 100000
namespace Go.Proofs.Ytahnibhcfdamdaa.Pk
open Go.RowKit Go.Proofs.YtahnibhcfdamdaaW.PrintWords Go.Proofs.Ytahnibhcfdamdaa.Bs Go.Proofs.Ytahnibhcfdamdaa.Av Go.Proofs.Ytahnibhcfdamdaa.Ad Go.Proofs.Ytahnibhcfdamdaa.Hd Go.Proofs.Ytahnibhcfdamdaa.Mm Go.Proofs.Ytahnibhcfdamdaa.Le Go.Proofs.Ytahnibhcfdamdaa.Ip Go.Proofs.Ytahnibhcfdamdaa.En Go.Proofs.Ytahnibhcfdamdaa.Co Go.Proofs.Ytahnibhcfdamdaa.Os Go.Proofs.Ytahnibhcfdamdaa.Is

set_option maxHeartbeats 2000000 in
theorem refParseP_any (v : Value) (l : List UInt8) (w0 : World) (hr : RB w0 v l) :
    Calls Try.prog 43 #[v] w0 fun e w' => e = .returned (.tuple #[.agg (headP l), .int .i64 (badP l : Nat)]) ∧ Below w0.heap.size w0 w' := by
  have hl := hr.len
  have HR := Lib.hid hr
  obtain ⟨A, c, rfl, hc, hrr⟩ := hr
  clear hrr
  have HM := Lib.hid (Mem.start w0)
  have HB := HM.out.below
  by_cases h0 : l.length = 0
  · have e1 : headP l = ZH := by unfold headP; rw [if_pos h0]
    have e2 : badP l = 3 := by unfold badP; rw [if_pos h0]
    rw [e1, e2]
    clear e1 e2
    have HR0 : Hid (l.length = 0) := Lib.hid h0
    have h0' : (((l.length : Nat) : Int) == 0) = true := by rw [h0]; rfl
    go_enter Try.func43, Try.ntmps43
    go_wp2_with (first | refine m_rd ?_ | (refine m_wr ?_; clear HM HB; intro w b HM HB; try clear b) | (refine m_ap ?_; clear HM HB; intro w Aq cq HM HB) | fail)
    apply m_ret_c1
    next => exact rfl
    next => exact rfl
    next => exact rfl
    next => exact HM
    next => ((repeat (first | exact List.Mem.head _ | apply List.Mem.tail)); done)
    next => exact Try.underlying31
    next => rfl
    exact ⟨rfl, HB⟩
  have h0' : (((l.length : Nat) : Int) == 0) = false := beq_false_of_ne (by omega)
  obtain ⟨ad, rfl⟩ := HR.out.some (by omega)
  have hpos : 0 < l.length := by omega
  have hx0 := HR.out.byte 0 hpos
  simp only [gb_getD, Mm.add_zero] at hx0
  have hy0 := gb_lt l 0
  by_cases h4 : gb l 0 / 16 = 4
  · have e1 : headP l = head4v l := by unfold headP; rw [if_neg h0, if_pos h4]
    have e2 : badP l = bad4 l := by unfold badP; rw [if_neg h0, if_pos h4]
    rw [e1, e2]
    have h4' : (((gb l 0 : Nat) : Int) / 16 == 4) = true := by simp; omega
    have HP := Lib.hid (refParse4_any (.slice (some ad) l.length c) l)
    have HC := Lib.hid (cells_head4 l)
    clear e1 e2 h0 h4
    generalize gb l 0 = g0 at hx0 hy0 h4'
    generalize head4v l = hv at HP HC ⊢
    generalize bad4 l = bq at HP ⊢
    go_enter Try.func43, Try.ntmps43
    go_wp2_with (first | refine m_rd ?_ | (refine m_wr ?_; clear HM HB; intro w b HM HB; try clear b) | (refine m_ap ?_; clear HM HB; intro w Aq cq HM HB) | fail)
    refine (HP.out _ (HR.out.below HB)).mono ?_
    rintro e w ⟨rfl, hb⟩
    replace HM := Lib.hid (HM.out.call hb)
    replace HB := HM.out.below
    clear hb
    go_wp2_with (first | refine m_rd ?_ | (refine m_wr ?_; clear HM HB; intro w b HM HB; try clear b) | (refine m_ap ?_; clear HM HB; intro w Aq cq HM HB) | fail)
    apply m_ret_c1
    next => exact rfl
    next => exact rfl
    next => exact rfl
    next => exact HM
    next => ((repeat (first | exact List.Mem.head _ | apply List.Mem.tail)); done)
    next => exact Try.underlying31
    next => rfl
    exact ⟨rfl, HB⟩
  have h4' : (((gb l 0 : Nat) : Int) / 16 == 4) = false := by simp; omega
  by_cases h6 : gb l 0 / 16 = 6
  · have e1 : headP l = head6 l := by unfold headP; rw [if_neg h0, if_neg h4, if_pos h6]
    have e2 : badP l = bad6 l := by unfold badP; rw [if_neg h0, if_neg h4, if_pos h6]
    rw [e1, e2]
    have h6' : (((gb l 0 : Nat) : Int) / 16 == 6) = true := by simp; omega
    have HP := Lib.hid (refParse6_any (.slice (some ad) l.length c) l)
    have HC := Lib.hid (cells_head6 l)
    clear e1 e2 h0 h4 h6
    generalize gb l 0 = g0 at hx0 hy0 h4' h6'
    generalize head6 l = hv at HP HC ⊢
    generalize bad6 l = bq at HP ⊢
    go_enter Try.func43, Try.ntmps43
    go_wp2_with (first | refine m_rd ?_ | (refine m_wr ?_; clear HM HB; intro w b HM HB; try clear b) | (refine m_ap ?_; clear HM HB; intro w Aq cq HM HB) | fail)
    refine (HP.out _ (HR.out.below HB)).mono ?_
    rintro e w ⟨rfl, hb⟩
    replace HM := Lib.hid (HM.out.call hb)
    replace HB := HM.out.below
    clear hb
    go_wp2_with (first | refine m_rd ?_ | (refine m_wr ?_; clear HM HB; intro w b HM HB; try clear b) | (refine m_ap ?_; clear HM HB; intro w Aq cq HM HB) | fail)
    apply m_ret_c1
    next => exact rfl
    next => exact rfl
    next => exact rfl
    next => exact HM
    next => ((repeat (first | exact List.Mem.head _ | apply List.Mem.tail)); done)
    next => exact Try.underlying31
    next => rfl
    exact ⟨rfl, HB⟩
  have e1 : headP l = ZH := by unfold headP; rw [if_neg h0, if_neg h4, if_neg h6]
  have e2 : badP l = 9 := by unfold badP; rw [if_neg h0, if_neg h4, if_neg h6]
  rw [e1, e2]
  have h6' : (((gb l 0 : Nat) : Int) / 16 == 6) = false := by simp; omega
  clear e1 e2 h0 h4 h6
  generalize gb l 0 = g0 at hx0 hy0 h4' h6'
  go_enter Try.func43, Try.ntmps43
  go_wp2_with (first | refine m_rd ?_ | (refine m_wr ?_; clear HM HB; intro w b HM HB; try clear b) | (refine m_ap ?_; clear HM HB; intro w Aq cq HM HB) | fail)
  apply m_ret_c1
  next => exact rfl
  next => exact rfl
  next => exact rfl
  next => exact HM
  next => ((repeat (first | exact List.Mem.head _ | apply List.Mem.tail)); done)
  next => exact Try.underlying31
  next => rfl
  exact ⟨rfl, HB⟩

def wholeB (l : List UInt8) : Bool := decide (badP l = 0 ∧ totP l = l.length ∧ l.length ≤ 65535)
set_option maxHeartbeats 1000000 in
theorem whole_any (A : Option Addr) (c : Nat) (l : List UInt8) (w0 : World) (hr : RB w0 (.slice A l.length c) l) :
    Calls Try.prog 44 #[.slice A l.length c] w0 fun e w' => e = .returned (.bool (wholeB l)) ∧ Below w0.heap.size w0 w' := by
  have hl := hr.len
  have HR := Lib.hid hr
  clear hr
  have HP := Lib.hid (parseP_any (.slice A l.length c) l)
  have HC := Lib.hid (cells_headP l)
  unfold wholeB
  by_cases hb : badP l = 0
  · obtain ⟨v, sz, tt, cl, id, fl, fr, tl, pr, x, y, K⟩ := known l hb
    have HX := Lib.hid K.lx
    have HY := Lib.hid K.ly
    have hd := K.low
    have ht := K.tot
    rw [hb, K.head] at HP
    rw [K.head] at HC
    rw [hb, ← ht]
    clear K ht
    have hq : (((0 : Nat) : Int) == 0) = true := rfl
    by_cases q1 : tt = l.length
    · by_cases q2 : l.length ≤ 65535
      · have e1 : (((tt : Nat) : Int) == ((l.length : Nat) : Int)) = true := by simp [q1]
        have e2 : decide (((l.length : Nat) : Int) ≤ 65535) = true := by simp; omega
        rw [decide_eq_true (show 0 = 0 ∧ tt = l.length ∧ l.length ≤ 65535 from ⟨rfl, q1, q2⟩)]
        clear q1 q2
        have HM := Lib.hid (Mem.start w0)
        have HB := HM.out.below
        go_enter Try.func44, Try.ntmps44
        go_wp2_with (first | refine m_rd ?_ | (refine m_wr ?_; clear HM HB; intro w b HM HB; try clear b) | (refine m_ap ?_; clear HM HB; intro w Aq cq HM HB) | fail)
        refine (HP.out _ (HR.out.below HB)).mono ?_
        rintro e w ⟨rfl, hb⟩
        replace HM := Lib.hid (HM.out.call hb)
        replace HB := HM.out.below
        clear hb
        go_wp2_with (first | refine m_rd ?_ | (refine m_wr ?_; clear HM HB; intro w b HM HB; try clear b) | (refine m_ap ?_; clear HM HB; intro w Aq cq HM HB) | fail)
        go_ret
        exact ⟨rfl, HB⟩
      · have e1 : (((tt : Nat) : Int) == ((l.length : Nat) : Int)) = true := by simp [q1]
        have e2 : decide (((l.length : Nat) : Int) ≤ 65535) = false := by simp; omega
        rw [decide_eq_false (show ¬ (0 = 0 ∧ tt = l.length ∧ l.length ≤ 65535) from fun h => q2 h.2.2)]
        clear q1 q2
        have HM := Lib.hid (Mem.start w0)
        have HB := HM.out.below
        go_enter Try.func44, Try.ntmps44
        go_wp2_with (first | refine m_rd ?_ | (refine m_wr ?_; clear HM HB; intro w b HM HB; try clear b) | (refine m_ap ?_; clear HM HB; intro w Aq cq HM HB) | fail)
        refine (HP.out _ (HR.out.below HB)).mono ?_
        rintro e w ⟨rfl, hb⟩
        replace HM := Lib.hid (HM.out.call hb)
        replace HB := HM.out.below
        clear hb
        go_wp2_with (first | refine m_rd ?_ | (refine m_wr ?_; clear HM HB; intro w b HM HB; try clear b) | (refine m_ap ?_; clear HM HB; intro w Aq cq HM HB) | fail)
        go_ret
        exact ⟨rfl, HB⟩
    · have e1 : (((tt : Nat) : Int) == ((l.length : Nat) : Int)) = false := beq_false_of_ne (by omega)
      rw [decide_eq_false (show ¬ (0 = 0 ∧ tt = l.length ∧ l.length ≤ 65535) from fun h => q1 h.2.1)]
      clear q1
      have HM := Lib.hid (Mem.start w0)
      have HB := HM.out.below
      go_enter Try.func44, Try.ntmps44
      go_wp2_with (first | refine m_rd ?_ | (refine m_wr ?_; clear HM HB; intro w b HM HB; try clear b) | (refine m_ap ?_; clear HM HB; intro w Aq cq HM HB) | fail)
      refine (HP.out _ (HR.out.below HB)).mono ?_
      rintro e w ⟨rfl, hb⟩
      replace HM := Lib.hid (HM.out.call hb)
      replace HB := HM.out.below
      clear hb
      go_wp2_with (first | refine m_rd ?_ | (refine m_wr ?_; clear HM HB; intro w b HM HB; try clear b) | (refine m_ap ?_; clear HM HB; intro w Aq cq HM HB) | fail)
      go_ret
      exact ⟨rfl, HB⟩
  · have hq : (((badP l : Nat) : Int) == 0) = false := beq_false_of_ne (by omega)
    rw [decide_eq_false (show ¬ (badP l = 0 ∧ totP l = l.length ∧ l.length ≤ 65535) from fun h => hb h.1)]
    generalize headP l = hv at HP HC
    generalize badP l = bq at HP hq
    clear hb
    have HM := Lib.hid (Mem.start w0)
    have HB := HM.out.below
    go_enter Try.func44, Try.ntmps44
    go_wp2_with (first | refine m_rd ?_ | (refine m_wr ?_; clear HM HB; intro w b HM HB; try clear b) | (refine m_ap ?_; clear HM HB; intro w Aq cq HM HB) | fail)
    refine (HP.out _ (HR.out.below HB)).mono ?_
    rintro e w ⟨rfl, hb⟩
    replace HM := Lib.hid (HM.out.call hb)
    replace HB := HM.out.below
    clear hb
    go_wp2_with (first | refine m_rd ?_ | (refine m_wr ?_; clear HM HB; intro w b HM HB; try clear b) | (refine m_ap ?_; clear HM HB; intro w Aq cq HM HB) | fail)
    go_ret
    exact ⟨rfl, HB⟩
set_option maxHeartbeats 1000000 in
theorem refWhole_any (A : Option Addr) (c : Nat) (l : List UInt8) (w0 : World) (hr : RB w0 (.slice A l.length c) l) :
    Calls Try.prog 40 #[.slice A l.length c] w0 fun e w' => e = .returned (.bool (wholeB l)) ∧ Below w0.heap.size w0 w' := by
  have hl := hr.len
  have HR := Lib.hid hr
  clear hr
  have HP := Lib.hid (refParseP_any (.slice A l.length c) l)
  have HC := Lib.hid (cells_headP l)
  unfold wholeB
  by_cases hb : badP l = 0
  · obtain ⟨v, sz, tt, cl, id, fl, fr, tl, pr, x, y, K⟩ := known l hb
    have HX := Lib.hid K.lx
    have HY := Lib.hid K.ly
    have hd := K.low
    have ht := K.tot
    rw [hb, K.head] at HP
    rw [K.head] at HC
    rw [hb, ← ht]
    clear K ht
    have hq : (((0 : Nat) : Int) == 0) = true := rfl
    by_cases q1 : tt = l.length
    · by_cases q2 : l.length ≤ 65535
      · have e1 : (((tt : Nat) : Int) == ((l.length : Nat) : Int)) = true := by simp [q1]
        have e2 : decide (((l.length : Nat) : Int) ≤ 65535) = true := by simp; omega
        rw [decide_eq_true (show 0 = 0 ∧ tt = l.length ∧ l.length ≤ 65535 from ⟨rfl, q1, q2⟩)]
        clear q1 q2
        have HM := Lib.hid (Mem.start w0)
        have HB := HM.out.below
        go_enter Try.func40, Try.ntmps40
        go_wp2_with (first | refine m_rd ?_ | (refine m_wr ?_; clear HM HB; intro w b HM HB; try clear b) | (refine m_ap ?_; clear HM HB; intro w Aq cq HM HB) | fail)
        refine (HP.out _ (HR.out.below HB)).mono ?_
        rintro e w ⟨rfl, hb⟩
        replace HM := Lib.hid (HM.out.call hb)
        replace HB := HM.out.below
        clear hb
        go_wp2_with (first | refine m_rd ?_ | (refine m_wr ?_; clear HM HB; intro w b HM HB; try clear b) | (refine m_ap ?_; clear HM HB; intro w Aq cq HM HB) | fail)
        go_ret
        exact ⟨rfl, HB⟩
      · have e1 : (((tt : Nat) : Int) == ((l.length : Nat) : Int)) = true := by simp [q1]
        have e2 : decide (((l.length : Nat) : Int) ≤ 65535) = false := by simp; omega
        rw [decide_eq_false (show ¬ (0 = 0 ∧ tt = l.length ∧ l.length ≤ 65535) from fun h => q2 h.2.2)]
        clear q1 q2
        have HM := Lib.hid (Mem.start w0)
        have HB := HM.out.below
        go_enter Try.func40, Try.ntmps40
        go_wp2_with (first | refine m_rd ?_ | (refine m_wr ?_; clear HM HB; intro w b HM HB; try clear b) | (refine m_ap ?_; clear HM HB; intro w Aq cq HM HB) | fail)
        refine (HP.out _ (HR.out.below HB)).mono ?_
        rintro e w ⟨rfl, hb⟩
        replace HM := Lib.hid (HM.out.call hb)
        replace HB := HM.out.below
        clear hb
        go_wp2_with (first | refine m_rd ?_ | (refine m_wr ?_; clear HM HB; intro w b HM HB; try clear b) | (refine m_ap ?_; clear HM HB; intro w Aq cq HM HB) | fail)
        go_ret
        exact ⟨rfl, HB⟩
    · have e1 : (((tt : Nat) : Int) == ((l.length : Nat) : Int)) = false := beq_false_of_ne (by omega)
      rw [decide_eq_false (show ¬ (0 = 0 ∧ tt = l.length ∧ l.length ≤ 65535) from fun h => q1 h.2.1)]
      clear q1
      have HM := Lib.hid (Mem.start w0)
      have HB := HM.out.below
      go_enter Try.func40, Try.ntmps40
      go_wp2_with (first | refine m_rd ?_ | (refine m_wr ?_; clear HM HB; intro w b HM HB; try clear b) | (refine m_ap ?_; clear HM HB; intro w Aq cq HM HB) | fail)
      refine (HP.out _ (HR.out.below HB)).mono ?_
      rintro e w ⟨rfl, hb⟩
      replace HM := Lib.hid (HM.out.call hb)
      replace HB := HM.out.below
      clear hb
      go_wp2_with (first | refine m_rd ?_ | (refine m_wr ?_; clear HM HB; intro w b HM HB; try clear b) | (refine m_ap ?_; clear HM HB; intro w Aq cq HM HB) | fail)
      go_ret
      exact ⟨rfl, HB⟩
  · have hq : (((badP l : Nat) : Int) == 0) = false := beq_false_of_ne (by omega)
    rw [decide_eq_false (show ¬ (badP l = 0 ∧ totP l = l.length ∧ l.length ≤ 65535) from fun h => hb h.1)]
    generalize headP l = hv at HP HC
    generalize badP l = bq at HP hq
    clear hb
    have HM := Lib.hid (Mem.start w0)
    have HB := HM.out.below
    go_enter Try.func40, Try.ntmps40
    go_wp2_with (first | refine m_rd ?_ | (refine m_wr ?_; clear HM HB; intro w b HM HB; try clear b) | (refine m_ap ?_; clear HM HB; intro w Aq cq HM HB) | fail)
    refine (HP.out _ (HR.out.below HB)).mono ?_
    rintro e w ⟨rfl, hb⟩
    replace HM := Lib.hid (HM.out.call hb)
    replace HB := HM.out.below
    clear hb
    go_wp2_with (first | refine m_rd ?_ | (refine m_wr ?_; clear HM HB; intro w b HM HB; try clear b) | (refine m_ap ?_; clear HM HB; intro w Aq cq HM HB) | fail)
    go_ret
    exact ⟨rfl, HB⟩
end Go.Proofs.Ytahnibhcfdamdaa.Pk
