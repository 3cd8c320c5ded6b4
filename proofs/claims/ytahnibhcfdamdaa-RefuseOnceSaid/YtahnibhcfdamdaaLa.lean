/- Packets of either family: a packet without what stands behind it. Layer 21: what PacketReads runs, and that it says true. -/
import Derived.Test.YtahnibhcfdamdaaZk
set_option linter.unusedSimpArgs false
set_option linter.unusedVariables false
set_option maxRecDepth 100000
namespace Go.Proofs.Ytahnibhcfdamdaa.Pk
open Go.RowKit Go.Proofs.YtahnibhcfdamdaaW.PrintWords Go.Proofs.Ytahnibhcfdamdaa.Bs Go.Proofs.Ytahnibhcfdamdaa.Av Go.Proofs.Ytahnibhcfdamdaa.Ad Go.Proofs.Ytahnibhcfdamdaa.Hd Go.Proofs.Ytahnibhcfdamdaa.Mm Go.Proofs.Ytahnibhcfdamdaa.Le Go.Proofs.Ytahnibhcfdamdaa.Ip Go.Proofs.Ytahnibhcfdamdaa.En Go.Proofs.Ytahnibhcfdamdaa.Co Go.Proofs.Ytahnibhcfdamdaa.Os Go.Proofs.Ytahnibhcfdamdaa.Is

theorem gb_front {l m : List UInt8} {t : Nat} (h : m.take t = l.take t) (i : Nat) (hi : i < t) : gb m i = gb l i := by
  have e : (m.take t)[i]? = (l.take t)[i]? := by rw [h]
  rw [List.getElem?_take, List.getElem?_take, if_pos hi, if_pos hi] at e
  unfold gb
  rw [List.getD_eq_getElem?_getD, List.getD_eq_getElem?_getD, e]
theorem take_front {l m : List UInt8} {t : Nat} (h : m.take t = l.take t) (s : Nat) (hs : s ≤ t) : m.take s = l.take s := by
  have e : (m.take t).take s = (l.take t).take s := by rw [h]
  rwa [List.take_take, List.take_take, Nat.min_eq_left hs] at e
/-- Bytes that begin as a packet does are a packet, with the same head. -/
theorem same_front (l m : List UInt8) (h : badP l = 0) (hm : m.take (totP l) = l.take (totP l)) (hl : totP l ≤ m.length) : badP m = 0 ∧ totP m = totP l := by
  obtain ⟨_, _, _, _, _, _, _, _, _, _, _, K⟩ := known l h
  have kl := K.low
  have kt := K.tot
  have ks := K.siz
  have hpos : l.length ≠ 0 := by omega
  have hpm : m.length ≠ 0 := by omega
  have g := gb_front hm
  have g0 := g 0 (by omega)
  unfold badP at h ⊢
  rw [if_neg hpos] at h
  rw [if_neg hpm, g0]
  by_cases h4 : gb l 0 / 16 = 4
  · rw [if_pos h4] at h ⊢
    have i4 : is4 l := h4
    have i4m : is4 m := by unfold is4; rw [g0]; exact h4
    have et : totP l = tot4 l := by unfold totP; rw [if_pos i4]
    have etm : totP m = tot4 m := by unfold totP; rw [if_pos i4m]
    obtain ⟨q0, q1, q2, q3, q4, q5, q6, q7⟩ := len4 l h
    rw [et] at hm hl g
    have e1 : siz4 m = siz4 l := by unfold siz4; rw [g0]
    have e2 : tot4 m = tot4 l := by unfold tot4; rw [g 2 (by omega), g 3 (by omega)]
    refine ⟨?_, by rw [etm, e2, et]⟩
    have b0 : badS m = 0 := by
      unfold badS
      rw [if_neg (by omega), if_neg (by omega), if_neg (by omega), if_neg (by omega), if_neg (by omega), if_neg (by omega)]
    unfold bad4
    rw [if_neg (by omega), e1, take_front hm _ q4, if_neg (by omega)]
  · rw [if_neg h4] at h ⊢
    by_cases h6 : gb l 0 / 16 = 6
    · rw [if_pos h6] at h ⊢
      have i4 : ¬ is4 l := h4
      have i4m : ¬ is4 m := by unfold is4; rw [g0]; exact h4
      have et : totP l = tot6 l := by unfold totP; rw [if_neg i4]
      have etm : totP m = tot6 m := by unfold totP; rw [if_neg i4m]
      have q : 40 ≤ l.length ∧ tot6 l ≤ l.length := by rcases bad6_cases l with q | q | q | q <;> omega
      rw [et] at hm hl g
      have q2 : 40 ≤ tot6 l := by unfold tot6; omega
      have e2 : tot6 m = tot6 l := by unfold tot6; rw [g 4 (by omega), g 5 (by omega)]
      refine ⟨?_, by rw [etm, e2, et]⟩
      unfold bad6
      rw [if_neg (by omega), if_neg (by omega), if_neg (by omega)]
    · rw [if_neg h6] at h
      exact absurd h (by decide)
theorem front_whole (l : List UInt8) (h : badP l = 0) (hl : l.length ≤ 65535) : wholeB (l.take (totP l)) = true := by
  obtain ⟨_, _, _, _, _, _, _, _, _, _, _, K⟩ := known l h
  have kl := K.low
  have kt := K.tot
  obtain ⟨h1, h2⟩ := same_front l (l.take (totP l)) h (by rw [List.take_take, Nat.min_self]) (by rw [List.length_take]; omega)
  unfold wholeB
  exact decide_eq_true ⟨h1, by rw [h2, List.length_take]; omega, by rw [List.length_take]; omega⟩
theorem strip_bad (A : Option Addr) (c : Nat) (l : List UInt8) (w0 : World) (hr : RB w0 (.slice A l.length c) l) (hb : badP l ≠ 0) :
    Calls Try.prog 45 #[.slice A l.length c] w0 fun e w' => e = .returned (.tuple #[.slice none 0 0, .int .i64 (badP l : Nat)]) ∧ Below w0.heap.size w0 w' := by
  have HR := Lib.hid hr
  have HP := Lib.hid (parseP_any (.slice A l.length c) l)
  have HC := Lib.hid (cells_headP l)
  have hq : (((badP l : Nat) : Int) == 0) = false := beq_false_of_ne (by omega)
  generalize headP l = hv at HP HC
  generalize badP l = bq at HP hq ⊢
  clear hr hb
  have HM := Lib.hid (Mem.start w0)
  have HB := HM.out.below
  go_enter Try.func45, Try.ntmps45
  go_wp2_with (first | refine m_rd ?_ | (refine m_wr ?_; clear HM HB; intro w b HM HB; try clear b) | (refine m_ap ?_; clear HM HB; intro w Aq cq HM HB) | fail)
  refine (HP.out _ (HR.out.below HB)).mono ?_
  rintro e w ⟨rfl, hb⟩
  replace HM := Lib.hid (HM.out.call hb)
  replace HB := HM.out.below
  clear hb
  go_wp2_with (first | refine m_rd ?_ | (refine m_wr ?_; clear HM HB; intro w b HM HB; try clear b) | (refine m_ap ?_; clear HM HB; intro w Aq cq HM HB) | fail)
  go_ret2
  exact ⟨rfl, HB⟩
theorem strip_ok (A : Option Addr) (c : Nat) (l : List UInt8) (w0 : World) (hr : RB w0 (.slice A l.length c) l) (hb : badP l = 0) :
    Calls Try.prog 45 #[.slice A l.length c] w0 fun e w' => ∃ v, e = .returned (.tuple #[v, .int .i64 0]) ∧ OB w0.heap.size w' v (l.take (totP l)) ∧ Below w0.heap.size w0 w' := by
  have hl := hr.len
  have HR := Lib.hid hr
  have hc : l.length ≤ c := by obtain ⟨A, c2, e, h, _⟩ := hr; injection e with _ _ e; omega
  obtain ⟨v, sz, tt, cl, id, fl, fr, tl, pr, x, y, K⟩ := known l hb
  obtain ⟨d1, d2, d3, d4, d5⟩ := K.low
  obtain ⟨ad, rfl⟩ := HR.out.some (by omega)
  have HP := Lib.hid (parseP_any (.slice (some ad) l.length c) l)
  have HC := Lib.hid (cells_headP l)
  rw [hb, K.head] at HP
  rw [K.head] at HC
  rw [← K.tot]
  have hs := run_to ad l.length c tt tt rfl (by omega) (by omega)
  have HCL := Lib.hid (fun (w : World) (hb : Below w0.heap.size w0 w) => clone_any ad tt c (l.take tt) w ((HR.out.below hb).front tt c (by omega) (by omega)) (by simp; omega))
  clear hr hb K d1 d2 hl
  have HM := Lib.hid (Mem.start w0)
  have HB := HM.out.below
  go_enter Try.func45, Try.ntmps45
  go_wp2_with (first | refine m_rd ?_ | (refine m_wr ?_; clear HM HB; intro w b HM HB; try clear b) | (refine m_ap ?_; clear HM HB; intro w Aq cq HM HB) | fail)
  refine (HP.out _ (HR.out.below HB)).mono ?_
  rintro e w ⟨rfl, hb⟩
  replace HM := Lib.hid (HM.out.call hb)
  replace HB := HM.out.below
  clear hb
  go_wp2_with (first | refine m_rd ?_ | (refine m_wr ?_; clear HM HB; intro w b HM HB; try clear b) | (refine m_ap ?_; clear HM HB; intro w Aq cq HM HB) | fail)
  refine (HCL.out _ HB).mono ?_
  rintro e w ⟨vr, rfl, ho, hb⟩
  replace HM := Lib.hid (HM.out.row hb ho)
  replace HB := HM.out.below
  clear ho hb
  go_wp2_with (first | refine m_rd ?_ | (refine m_wr ?_; clear HM HB; intro w b HM HB; try clear b) | (refine m_ap ?_; clear HM HB; intro w Aq cq HM HB) | fail)
  go_ret2
  exact ⟨_, rfl, HM.out.ob (by ((repeat (first | exact List.Mem.head _ | apply List.Mem.tail)); done)), HB⟩
/-- What is left of a packet. -/
def stripL (l : List UInt8) : List UInt8 := if badP l = 0 then l.take (totP l) else []
theorem strip_any (A : Option Addr) (c : Nat) (l : List UInt8) (w0 : World) (hr : RB w0 (.slice A l.length c) l) :
    Calls Try.prog 45 #[.slice A l.length c] w0 fun e w' => ∃ v, e = .returned (.tuple #[v, .int .i64 (badP l : Nat)]) ∧ OB w0.heap.size w' v (stripL l) ∧ Below w0.heap.size w0 w' := by
  unfold stripL
  by_cases hb : badP l = 0
  · rw [if_pos hb]
    refine (strip_ok A c l w0 hr hb).mono ?_
    rintro e w' ⟨v, rfl, ho, hb2⟩
    rw [hb]
    exact ⟨v, rfl, ho, hb2⟩
  · rw [if_neg hb]
    refine (strip_bad A c l w0 hr hb).mono ?_
    rintro e w' ⟨rfl, hb2⟩
    exact ⟨_, rfl, OB.nil _ _, hb2⟩
set_option maxHeartbeats 1000000 in
theorem packetReads_walk (A : Option Addr) (c : Nat) (l : List UInt8) (w0 : World) (hr : RB w0 (.slice A l.length c) l) :
    Calls Try.prog 11 #[.slice A l.length c] w0 fun e w' => e = .returned (.bool true) ∧ Below w0.heap.size w0 w' := by
  have hl := hr.len
  have HR := Lib.hid hr
  clear hr
  have HP := Lib.hid (parseP_any (.slice A l.length c) l)
  have HQ := Lib.hid (refParseP_any (.slice A l.length c) l)
  have HW := Lib.hid (whole_any A c l)
  have HV := Lib.hid (refWhole_any A c l)
  have EQ1 := Lib.hid (eql_headP l)
  have HC := Lib.hid (cells_headP l)
  have HM := Lib.hid (Mem.start w0)
  have HB := HM.out.below
  by_cases h3 : 300 < l.length
  · go_enter Try.func11, Try.ntmps11
    go_wp2_with (first | refine m_rd ?_ | (refine m_wr ?_; clear HM HB; intro w b HM HB; try clear b) | (refine m_ap ?_; clear HM HB; intro w Aq cq HM HB) | fail)
    refine (alive21_any _).mono ?_
    rintro e w ⟨rfl, hb⟩
    replace HM := Lib.hid (HM.out.call hb)
    replace HB := HM.out.below
    clear hb
    go_wp2_with (first | refine m_rd ?_ | (refine m_wr ?_; clear HM HB; intro w b HM HB; try clear b) | (refine m_ap ?_; clear HM HB; intro w Aq cq HM HB) | fail)
    go_ret
    exact ⟨rfl, HB⟩
  have hs300 : l.length ≤ 300 := by omega
  by_cases hb : badP l = 0
  case neg =>
    have hS := Lib.hid (fun w0 hr => strip_bad A c l w0 hr hb)
    have hq : (((badP l : Nat) : Int) == 0) = false := beq_false_of_ne (by omega)
    generalize headP l = hv at HP HQ EQ1 HC
    generalize badP l = bq at HP HQ hS hq
    generalize wholeB l = wb at HW HV
    clear hb
    go_enter Try.func11, Try.ntmps11
    go_wp2_with (first | refine m_rd ?_ | (refine m_wr ?_; clear HM HB; intro w b HM HB; try clear b) | (refine m_ap ?_; clear HM HB; intro w Aq cq HM HB) | fail)
    refine (HP.out _ (HR.out.below HB)).mono ?_
    rintro e w ⟨rfl, hb⟩
    replace HM := Lib.hid (HM.out.call hb)
    replace HB := HM.out.below
    clear hb
    go_wp2_with (first | refine m_rd ?_ | (refine m_wr ?_; clear HM HB; intro w b HM HB; try clear b) | (refine m_ap ?_; clear HM HB; intro w Aq cq HM HB) | fail)
    refine (HQ.out _ (HR.out.below HB)).mono ?_
    rintro e w ⟨rfl, hb⟩
    replace HM := Lib.hid (HM.out.call hb)
    replace HB := HM.out.below
    clear hb
    go_wp2_with (first | refine m_rd ?_ | (refine m_wr ?_; clear HM HB; intro w b HM HB; try clear b) | (refine m_ap ?_; clear HM HB; intro w Aq cq HM HB) | fail)
    refine (HW.out _ (HR.out.below HB)).mono ?_
    rintro e w ⟨rfl, hb⟩
    replace HM := Lib.hid (HM.out.call hb)
    replace HB := HM.out.below
    clear hb
    go_wp2_with (first | refine m_rd ?_ | (refine m_wr ?_; clear HM HB; intro w b HM HB; try clear b) | (refine m_ap ?_; clear HM HB; intro w Aq cq HM HB) | fail)
    refine (HV.out _ (HR.out.below HB)).mono ?_
    rintro e w ⟨rfl, hb⟩
    replace HM := Lib.hid (HM.out.call hb)
    replace HB := HM.out.below
    clear hb
    go_wp2_with (first | refine m_rd ?_ | (refine m_wr ?_; clear HM HB; intro w b HM HB; try clear b) | (refine m_ap ?_; clear HM HB; intro w Aq cq HM HB) | fail)
    refine (hS.out _ (HR.out.below HB)).mono ?_
    rintro e w ⟨rfl, hb⟩
    replace HM := Lib.hid (HM.out.call hb)
    replace HB := HM.out.below
    clear hb
    go_wp2_with (first | refine m_rd ?_ | (refine m_wr ?_; clear HM HB; intro w b HM HB; try clear b) | (refine m_ap ?_; clear HM HB; intro w Aq cq HM HB) | fail)
    refine (alive21_any _).mono ?_
    rintro e w ⟨rfl, hb⟩
    replace HM := Lib.hid (HM.out.call hb)
    replace HB := HM.out.below
    clear hb
    go_wp2_with (first | refine m_rd ?_ | (refine m_wr ?_; clear HM HB; intro w b HM HB; try clear b) | (refine m_ap ?_; clear HM HB; intro w Aq cq HM HB) | fail)
    go_ret
    exact ⟨rfl, HB⟩
  obtain ⟨v, sz, tt, cl, id, fl, fr, tl, pr, x, y, K⟩ := known l hb
  have d := K.low
  have HX := Lib.hid K.lx
  have HY := Lib.hid K.ly
  obtain ⟨ad, rfl⟩ := HR.out.some (by omega)
  have hc : l.length ≤ c := by obtain ⟨A, c2, e, h, _⟩ := HR.out; injection e with _ _ e; omega
  have HS := Lib.hid (fun w0 hr => strip_ok (some ad) c l w0 hr hb)
  have HWS : Hid (wholeB (l.take tt) = true ∧ (l.take tt).length = tt) := Lib.hid ⟨by rw [K.tot]; exact front_whole l hb (by omega), by rw [List.length_take]; omega⟩
  rw [hb, K.head] at HP HQ
  rw [K.head] at EQ1 HC
  rw [← K.tot] at HS
  have hs := run_to ad l.length c tt tt rfl (by omega) (by omega)
  have HF := Lib.hid (fun (w : World) (hb : Below w0.heap.size w0 w) => (HR.out.below hb).front tt c (by omega) (by omega))
  generalize wholeB l = wb at HW HV
  clear hb K hl
  go_enter Try.func11, Try.ntmps11
  go_wp2_with (first | refine m_rd ?_ | (refine m_wr ?_; clear HM HB; intro w b HM HB; try clear b) | (refine m_ap ?_; clear HM HB; intro w Aq cq HM HB) | fail)
  refine (HP.out _ (HR.out.below HB)).mono ?_
  rintro e w ⟨rfl, hb⟩
  replace HM := Lib.hid (HM.out.call hb)
  replace HB := HM.out.below
  clear hb
  go_wp2_with (first | refine m_rd ?_ | (refine m_wr ?_; clear HM HB; intro w b HM HB; try clear b) | (refine m_ap ?_; clear HM HB; intro w Aq cq HM HB) | fail)
  refine (HQ.out _ (HR.out.below HB)).mono ?_
  rintro e w ⟨rfl, hb⟩
  replace HM := Lib.hid (HM.out.call hb)
  replace HB := HM.out.below
  clear hb
  go_wp2_with (first | refine m_rd ?_ | (refine m_wr ?_; clear HM HB; intro w b HM HB; try clear b) | (refine m_ap ?_; clear HM HB; intro w Aq cq HM HB) | fail)
  refine (HW.out _ (HR.out.below HB)).mono ?_
  rintro e w ⟨rfl, hb⟩
  replace HM := Lib.hid (HM.out.call hb)
  replace HB := HM.out.below
  clear hb
  go_wp2_with (first | refine m_rd ?_ | (refine m_wr ?_; clear HM HB; intro w b HM HB; try clear b) | (refine m_ap ?_; clear HM HB; intro w Aq cq HM HB) | fail)
  refine (HV.out _ (HR.out.below HB)).mono ?_
  rintro e w ⟨rfl, hb⟩
  replace HM := Lib.hid (HM.out.call hb)
  replace HB := HM.out.below
  clear hb
  go_wp2_with (first | refine m_rd ?_ | (refine m_wr ?_; clear HM HB; intro w b HM HB; try clear b) | (refine m_ap ?_; clear HM HB; intro w Aq cq HM HB) | fail)
  refine (HS.out _ (HR.out.below HB)).mono ?_
  rintro e w ⟨v, rfl, ho, hb⟩
  replace HM := Lib.hid (HM.out.row hb ho)
  replace HB := HM.out.below
  clear ho hb
  go_wp2_with (first | refine m_rd ?_ | (refine m_wr ?_; clear HM HB; intro w b HM HB; try clear b) | (refine m_ap ?_; clear HM HB; intro w Aq cq HM HB) | fail)
  refine (same_any _ _ (l.take tt) (l.take tt) _ (HM.out.rb (by ((repeat (first | exact List.Mem.head _ | apply List.Mem.tail)); done))) (HF.out _ HB)).mono ?_
  rintro e w ⟨rfl, hb⟩
  replace HM := Lib.hid (HM.out.call hb)
  replace HB := HM.out.below
  clear hb
  rw [decide_eq_true (rfl : l.take tt = l.take tt)]
  go_wp2_with (first | refine m_rd ?_ | (refine m_wr ?_; clear HM HB; intro w b HM HB; try clear b) | (refine m_ap ?_; clear HM HB; intro w Aq cq HM HB) | fail)
  obtain ⟨A2, c2, rfl, -, -⟩ := HM.out.rb (by ((repeat (first | exact List.Mem.head _ | apply List.Mem.tail)); done))
  refine (whole_any A2 c2 (l.take tt) _ (HM.out.rb (by ((repeat (first | exact List.Mem.head _ | apply List.Mem.tail)); done)))).mono ?_
  rintro e w ⟨rfl, hb⟩
  replace HM := Lib.hid (HM.out.call hb)
  replace HB := HM.out.below
  clear hb
  rw [HWS.out.1]
  go_wp2_with (first | refine m_rd ?_ | (refine m_wr ?_; clear HM HB; intro w b HM HB; try clear b) | (refine m_ap ?_; clear HM HB; intro w Aq cq HM HB) | fail)
  refine (alive21_any _).mono ?_
  rintro e w ⟨rfl, hb⟩
  replace HM := Lib.hid (HM.out.call hb)
  replace HB := HM.out.below
  clear hb
  go_wp2_with (first | refine m_rd ?_ | (refine m_wr ?_; clear HM HB; intro w b HM HB; try clear b) | (refine m_ap ?_; clear HM HB; intro w Aq cq HM HB) | fail)
  go_ret
  exact ⟨rfl, HB⟩
end Go.Proofs.Ytahnibhcfdamdaa.Pk
