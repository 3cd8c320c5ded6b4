/- Layer 24: what is answered; what RefuseAnswers and RefuseOnce run, and that they say true. -/
import Derived.Test.YtahnibhcfdamdaaLk
set_option linter.unusedSimpArgs false
set_option linter.unusedVariables false
set_option maxRecDepth 100000
namespace Go.Proofs.Ytahnibhcfdamdaa.Rf
open Go.RowKit Go.Proofs.YtahnibhcfdamdaaW.PrintWords Go.Proofs.Ytahnibhcfdamdaa.Bs Go.Proofs.Ytahnibhcfdamdaa.Av Go.Proofs.Ytahnibhcfdamdaa.Ad Go.Proofs.Ytahnibhcfdamdaa.Hd Go.Proofs.Ytahnibhcfdamdaa.Mm Go.Proofs.Ytahnibhcfdamdaa.Le Go.Proofs.Ytahnibhcfdamdaa.Ip Go.Proofs.Ytahnibhcfdamdaa.En Go.Proofs.Ytahnibhcfdamdaa.Co Go.Proofs.Ytahnibhcfdamdaa.Os Go.Proofs.Ytahnibhcfdamdaa.Is Go.Proofs.Ytahnibhcfdamdaa.Pk

open I4 (who4 msg22) in
open I6 (who6 msg23) in
/-- The message that is due. -/
def ansL (l : List UInt8) : List UInt8 := if dueB l = true then (if is4 l then msg22 l else msg23 l) else []
theorem due_whole (l : List UInt8) (h : dueB l = true) : wholeB l = true := by
  unfold dueB at h
  simp only [Bool.and_eq_true] at h
  exact h.1
set_option maxHeartbeats 2000000 in
theorem answer_any (A : Option Addr) (c : Nat) (l : List UInt8) (w0 : World) (hr : RB w0 (.slice A l.length c) l) :
    Calls Try.prog 61 #[.slice A l.length c] w0 fun e w' => ∃ v, e = .returned (.tuple #[v, .bool (dueB l)]) ∧ OB w0.heap.size w' v (ansL l) ∧ Below w0.heap.size w0 w' := by
  have HR := Lib.hid hr
  have HD := Lib.hid (due_any A c l)
  have HP := Lib.hid (parseP_any (.slice A l.length c) l)
  have HC := Lib.hid (cells_headP l)
  clear hr
  unfold ansL
  by_cases hd : dueB l = true
  case neg =>
    rw [if_neg hd]
    rw [show dueB l = false by simpa using hd] at HD ⊢
    clear hd
    have HM := Lib.hid (Mem.start w0)
    have HB := HM.out.below
    go_enter Try.func61, Try.ntmps61
    go_wp2_with (first | refine m_rdg ?_ | (refine m_wrg ?_; clear HM HB; intro w b HM HB; try clear b) | (refine m_ap ?_; clear HM HB; intro w Aq cq HM HB) | fail)
    refine (HD.out _ (HR.out.below HB)).mono ?_
    rintro e w ⟨rfl, hb⟩
    replace HM := Lib.hid (HM.out.call hb)
    replace HB := HM.out.below
    clear hb
    go_wp2_with (first | refine m_rdg ?_ | (refine m_wrg ?_; clear HM HB; intro w b HM HB; try clear b) | (refine m_ap ?_; clear HM HB; intro w Aq cq HM HB) | fail)
    go_ret2
    exact ⟨_, rfl, OB.nil _ _, HB⟩
  rw [if_pos hd]
  have hw := due_whole l hd
  rw [hd] at HD ⊢
  obtain ⟨hb, ht, hl5⟩ := I4.whole_bad l hw
  obtain ⟨v, sz, tt, cl, id, fl, fr, tl, pr, x, y, K⟩ := known l hb
  rw [hb, K.head] at HP
  rw [K.head] at HC
  have HX := Lib.hid K.lx
  have HY := Lib.hid K.ly
  rcases K.fam with ⟨hv, hi⟩ | ⟨hv, hi, -⟩
  · subst hv
    rw [if_pos hi]
    have HU := Lib.hid (fun w hr => I4.unreach_ok A c l w hr ⟨hw, hi⟩)
    generalize I4.msg22 l = Mq at HU ⊢
    clear K hw hd hb ht hl5 hi
    have HM := Lib.hid (Mem.start w0)
    have HB := HM.out.below
    go_enter Try.func61, Try.ntmps61
    go_wp2_with (first | refine m_rdg ?_ | (refine m_wrg ?_; clear HM HB; intro w b HM HB; try clear b) | (refine m_ap ?_; clear HM HB; intro w Aq cq HM HB) | fail)
    refine (HD.out _ (HR.out.below HB)).mono ?_
    rintro e w ⟨rfl, hb⟩
    replace HM := Lib.hid (HM.out.call hb)
    replace HB := HM.out.below
    clear hb
    go_wp2_with (first | refine m_rdg ?_ | (refine m_wrg ?_; clear HM HB; intro w b HM HB; try clear b) | (refine m_ap ?_; clear HM HB; intro w Aq cq HM HB) | fail)
    refine (HP.out _ (HR.out.below HB)).mono ?_
    rintro e w ⟨rfl, hb⟩
    replace HM := Lib.hid (HM.out.call hb)
    replace HB := HM.out.below
    clear hb
    go_wp2_with (first | refine m_rdg ?_ | (refine m_wrg ?_; clear HM HB; intro w b HM HB; try clear b) | (refine m_ap ?_; clear HM HB; intro w Aq cq HM HB) | fail)
    refine (HU.out _ (HR.out.below HB)).mono ?_
    rintro e w ⟨vm, rfl, ho, hb⟩
    replace HM := Lib.hid (HM.out.row hb ho)
    replace HB := HM.out.below
    clear ho hb
    go_wp2_with (first | refine m_rdg ?_ | (refine m_wrg ?_; clear HM HB; intro w b HM HB; try clear b) | (refine m_ap ?_; clear HM HB; intro w Aq cq HM HB) | fail)
    go_ret2
    exact ⟨_, rfl, HM.out.ob (by ((repeat (first | exact List.Mem.head _ | apply List.Mem.tail)); done)), HB⟩
  · subst hv
    rw [if_neg hi]
    have HU := Lib.hid (fun w hr => I6.unreach_ok A c l w hr ⟨hw, hi⟩)
    generalize I6.msg23 l = Mq at HU ⊢
    clear K hw hd hb ht hl5 hi
    have HM := Lib.hid (Mem.start w0)
    have HB := HM.out.below
    go_enter Try.func61, Try.ntmps61
    go_wp2_with (first | refine m_rdg ?_ | (refine m_wrg ?_; clear HM HB; intro w b HM HB; try clear b) | (refine m_ap ?_; clear HM HB; intro w Aq cq HM HB) | fail)
    refine (HD.out _ (HR.out.below HB)).mono ?_
    rintro e w ⟨rfl, hb⟩
    replace HM := Lib.hid (HM.out.call hb)
    replace HB := HM.out.below
    clear hb
    go_wp2_with (first | refine m_rdg ?_ | (refine m_wrg ?_; clear HM HB; intro w b HM HB; try clear b) | (refine m_ap ?_; clear HM HB; intro w Aq cq HM HB) | fail)
    refine (HP.out _ (HR.out.below HB)).mono ?_
    rintro e w ⟨rfl, hb⟩
    replace HM := Lib.hid (HM.out.call hb)
    replace HB := HM.out.below
    clear hb
    go_wp2_with (first | refine m_rdg ?_ | (refine m_wrg ?_; clear HM HB; intro w b HM HB; try clear b) | (refine m_ap ?_; clear HM HB; intro w Aq cq HM HB) | fail)
    refine (HU.out _ (HR.out.below HB)).mono ?_
    rintro e w ⟨vm, rfl, ho, hb⟩
    replace HM := Lib.hid (HM.out.row hb ho)
    replace HB := HM.out.below
    clear ho hb
    go_wp2_with (first | refine m_rdg ?_ | (refine m_wrg ?_; clear HM HB; intro w b HM HB; try clear b) | (refine m_ap ?_; clear HM HB; intro w Aq cq HM HB) | fail)
    go_ret2
    exact ⟨_, rfl, HM.out.ob (by ((repeat (first | exact List.Mem.head _ | apply List.Mem.tail)); done)), HB⟩
set_option maxHeartbeats 2000000 in
theorem refAnswer_any (A : Option Addr) (c : Nat) (l : List UInt8) (w0 : World) (hr : RB w0 (.slice A l.length c) l) :
    Calls Try.prog 64 #[.slice A l.length c] w0 fun e w' => ∃ v, e = .returned v ∧ OB w0.heap.size w' v (ansL l) ∧ Below w0.heap.size w0 w' := by
  have HR := Lib.hid hr
  have HD := Lib.hid (refDue_any A c l)
  have HP := Lib.hid (refParseP_any (.slice A l.length c) l)
  have HC := Lib.hid (cells_headP l)
  clear hr
  unfold ansL
  by_cases hd : dueB l = true
  case neg =>
    rw [if_neg hd]
    rw [show dueB l = false by simpa using hd] at HD
    clear hd
    have HM := Lib.hid (Mem.start w0)
    have HB := HM.out.below
    go_enter Try.func64, Try.ntmps64
    go_wp2_with (first | refine m_rdg ?_ | (refine m_wrg ?_; clear HM HB; intro w b HM HB; try clear b) | (refine m_ap ?_; clear HM HB; intro w Aq cq HM HB) | fail)
    refine (HD.out _ (HR.out.below HB)).mono ?_
    rintro e w ⟨rfl, hb⟩
    replace HM := Lib.hid (HM.out.call hb)
    replace HB := HM.out.below
    clear hb
    go_wp2_with (first | refine m_rdg ?_ | (refine m_wrg ?_; clear HM HB; intro w b HM HB; try clear b) | (refine m_ap ?_; clear HM HB; intro w Aq cq HM HB) | fail)
    go_ret
    exact ⟨_, rfl, OB.nil _ _, HB⟩
  rw [if_pos hd]
  have hw := due_whole l hd
  rw [hd] at HD
  obtain ⟨hb, ht, hl5⟩ := I4.whole_bad l hw
  obtain ⟨v, sz, tt, cl, id, fl, fr, tl, pr, x, y, K⟩ := known l hb
  rw [hb, K.head] at HP
  rw [K.head] at HC
  have HX := Lib.hid K.lx
  have HY := Lib.hid K.ly
  rcases K.fam with ⟨hv, hi⟩ | ⟨hv, hi, -⟩
  · subst hv
    rw [if_pos hi]
    have HU := Lib.hid (fun w hr => I4.refUnreach_ok A c l w hr ⟨hw, hi⟩)
    generalize I4.msg22 l = Mq at HU ⊢
    clear K hw hd hb ht hl5 hi
    have HM := Lib.hid (Mem.start w0)
    have HB := HM.out.below
    go_enter Try.func64, Try.ntmps64
    go_wp2_with (first | refine m_rdg ?_ | (refine m_wrg ?_; clear HM HB; intro w b HM HB; try clear b) | (refine m_ap ?_; clear HM HB; intro w Aq cq HM HB) | fail)
    refine (HD.out _ (HR.out.below HB)).mono ?_
    rintro e w ⟨rfl, hb⟩
    replace HM := Lib.hid (HM.out.call hb)
    replace HB := HM.out.below
    clear hb
    go_wp2_with (first | refine m_rdg ?_ | (refine m_wrg ?_; clear HM HB; intro w b HM HB; try clear b) | (refine m_ap ?_; clear HM HB; intro w Aq cq HM HB) | fail)
    refine (HP.out _ (HR.out.below HB)).mono ?_
    rintro e w ⟨rfl, hb⟩
    replace HM := Lib.hid (HM.out.call hb)
    replace HB := HM.out.below
    clear hb
    go_wp2_with (first | refine m_rdg ?_ | (refine m_wrg ?_; clear HM HB; intro w b HM HB; try clear b) | (refine m_ap ?_; clear HM HB; intro w Aq cq HM HB) | fail)
    refine (HU.out _ (HR.out.below HB)).mono ?_
    rintro e w ⟨vm, rfl, ho, hb⟩
    replace HM := Lib.hid (HM.out.row hb ho)
    replace HB := HM.out.below
    clear ho hb
    go_wp2_with (first | refine m_rdg ?_ | (refine m_wrg ?_; clear HM HB; intro w b HM HB; try clear b) | (refine m_ap ?_; clear HM HB; intro w Aq cq HM HB) | fail)
    go_ret
    exact ⟨_, rfl, HM.out.ob (by ((repeat (first | exact List.Mem.head _ | apply List.Mem.tail)); done)), HB⟩
  · subst hv
    rw [if_neg hi]
    have HU := Lib.hid (fun w hr => I6.refUnreach_ok A c l w hr ⟨hw, hi⟩)
    generalize I6.msg23 l = Mq at HU ⊢
    clear K hw hd hb ht hl5 hi
    have HM := Lib.hid (Mem.start w0)
    have HB := HM.out.below
    go_enter Try.func64, Try.ntmps64
    go_wp2_with (first | refine m_rdg ?_ | (refine m_wrg ?_; clear HM HB; intro w b HM HB; try clear b) | (refine m_ap ?_; clear HM HB; intro w Aq cq HM HB) | fail)
    refine (HD.out _ (HR.out.below HB)).mono ?_
    rintro e w ⟨rfl, hb⟩
    replace HM := Lib.hid (HM.out.call hb)
    replace HB := HM.out.below
    clear hb
    go_wp2_with (first | refine m_rdg ?_ | (refine m_wrg ?_; clear HM HB; intro w b HM HB; try clear b) | (refine m_ap ?_; clear HM HB; intro w Aq cq HM HB) | fail)
    refine (HP.out _ (HR.out.below HB)).mono ?_
    rintro e w ⟨rfl, hb⟩
    replace HM := Lib.hid (HM.out.call hb)
    replace HB := HM.out.below
    clear hb
    go_wp2_with (first | refine m_rdg ?_ | (refine m_wrg ?_; clear HM HB; intro w b HM HB; try clear b) | (refine m_ap ?_; clear HM HB; intro w Aq cq HM HB) | fail)
    refine (HU.out _ (HR.out.below HB)).mono ?_
    rintro e w ⟨vm, rfl, ho, hb⟩
    replace HM := Lib.hid (HM.out.row hb ho)
    replace HB := HM.out.below
    clear ho hb
    go_wp2_with (first | refine m_rdg ?_ | (refine m_wrg ?_; clear HM HB; intro w b HM HB; try clear b) | (refine m_ap ?_; clear HM HB; intro w Aq cq HM HB) | fail)
    go_ret
    exact ⟨_, rfl, HM.out.ob (by ((repeat (first | exact List.Mem.head _ | apply List.Mem.tail)); done)), HB⟩
/-- No answer is answered. -/
theorem ans_not (l : List UInt8) (h : dueB l = true) : errB (ansL l) = true ∧ wholeB (ansL l) = true := by
  have hw := due_whole l h
  unfold ansL
  rw [if_pos h]
  by_cases hi : is4 l
  · rw [if_pos hi]
    have k := I4.msg22_known l ⟨hw, hi⟩
    exact ⟨k.2.1, k.1⟩
  · rw [if_neg hi]
    have k := I6.msg23_known l ⟨hw, hi⟩
    exact ⟨k.2.1, k.1⟩
theorem due_of_err (l : List UInt8) (h : errB l = true) : dueB l = false := by
  unfold dueB
  rw [h]
  simp
/-- Whom an answer is for. -/
theorem ans_head (l : List UInt8) (h : dueB l = true) {v sz tt cl id fl fr tl pr : Nat} {x y : List UInt8} (K : Known l v sz tt cl id fl fr tl pr x y) : badP (ansL l) = 0 ∧ ∃ v' sz' tt' cl' id' fl' fr' tl' pr', headP (ansL l) = HV [((v' : Nat) : Int), ((sz' : Nat) : Int), ((tt' : Nat) : Int), ((cl' : Nat) : Int), ((id' : Nat) : Int), ((fl' : Nat) : Int), ((fr' : Nat) : Int), ((tl' : Nat) : Int), ((pr' : Nat) : Int)] v y v x ∧ v' = v := by
  have hw := due_whole l h
  have hb := (I4.whole_bad l hw).1
  unfold ansL
  rw [if_pos h]
  rcases K.fam with ⟨hv, hi⟩ | ⟨hv, hi, -⟩
  · subst hv
    rw [if_pos hi]
    obtain ⟨b1, b2, b3, b4, b5, b6, b7, b8, b9⟩ := I4.msg22_back l ⟨hw, hi⟩
    have hm := I4.badP_of4 _ b1
    obtain ⟨sz', tt', cl', id', fl', fr', tl', pr', x', y', K', _⟩ := I4.known4b _ b1
    obtain ⟨_, _, _, _, _, _, _, _, _, K4, hwx, hwy, _, _⟩ := I4.known4 l ⟨hw, hi⟩
    have hx4 : widthA 4 x = 32 := by rw [K.src, ← K4.src]; exact hwx
    have hy4 : widthA 4 y = 32 := by rw [K.dst, ← K4.dst]; exact hwy
    have e1 : x' = y := by
      rw [K'.src]; unfold srcP; rw [if_pos (bad4_is _ b1), b8, ← K.dst]
      exact pad_take y K.ly hy4
    have e2 : y' = x := by
      rw [K'.dst]; unfold dstP; rw [if_pos (bad4_is _ b1), b9, ← K.src]
      exact pad_take x K.lx hx4
    subst e1 e2
    exact ⟨hm.1, 4, _, _, _, _, _, _, _, _, K'.head, rfl⟩
  · subst hv
    rw [if_neg hi]
    obtain ⟨b1, b2, b4, b5, b6, b8, b9, hx, hy⟩ := I6.msg23_back l ⟨hw, hi⟩
    have hm := I6.badP_of6 _ b1
    obtain ⟨_, _, _, h4⟩ := I6.is6_of _ b1
    obtain ⟨sz', tt', cl', id', fl', fr', tl', pr', x', y', K', _⟩ := I6.known6b _ b1
    have e1 : x' = y := by
      rw [K'.src]; unfold srcP; rw [if_neg h4, b8, ← K.dst]
    have e2 : y' = x := by
      rw [K'.dst]; unfold dstP; rw [if_neg h4, b9, ← K.src]
    subst e1 e2
    exact ⟨hm.1, 6, _, _, _, _, _, _, _, _, K'.head, rfl⟩
def four4 (a b c d : UInt8) : List UInt8 := [a, b, c, d] ++ List.replicate 12 0
def zb1 : List UInt8 := all4 0 0 0 0 0 0 ((four4 10 0 0 1).take 4) ((four4 224 0 0 1).take 4) []
def zb2 : List UInt8 := all4 0 0 0 0 0 0 ((four4 10 0 0 1).take 4) ((four4 10 0 0 1).take 4) []
theorem zb_due : dueB zb1 = false ∧ ansL zb1 = [] ∧ dueB zb2 = true ∧ (ansL zb2).length = 48 := ⟨by kernel_rfl, by kernel_rfl, by kernel_rfl, by kernel_rfl⟩
set_option maxHeartbeats 1000000 in
theorem alive24_any (w0 : World) : Calls Try.prog 60 #[] w0 fun e w' => e = .returned (.bool true) ∧ Below w0.heap.size w0 w' := by
  have BH1 : Hid (Built 23 #[(0, .int .u8 10), (1, .int .u8 0), (2, .int .u8 0), (3, .int .u8 1)] (.agg (encs B (four4 10 0 0 1)).toArray)) := Lib.hid (fun W => by kernel_rfl)
  have BH2 : Hid (Built 23 #[(0, .int .u8 224), (1, .int .u8 0), (2, .int .u8 0), (3, .int .u8 1)] (.agg (encs B (four4 224 0 0 1)).toArray)) := Lib.hid (fun W => by kernel_rfl)
  have BH3 := Lib.hid (built_four (four4 10 0 0 1) rfl)
  have BH4 := Lib.hid (built_four (four4 224 0 0 1) rfl)
  have BH5 := Lib.hid (built_ends 4 4 (four4 10 0 0 1) (four4 224 0 0 1) rfl rfl)
  have BH6 := Lib.hid (built_ends 4 4 (four4 10 0 0 1) (four4 10 0 0 1) rfl rfl)
  have HC1 := Lib.hid (cellsA 4 (four4 10 0 0 1) rfl)
  have HP1 := Lib.hid (fun (w : World) => put4_ok 0 0 0 0 0 0 0 0 0 (four4 10 0 0 1) (four4 224 0 0 1) (.slice none 0 0) [] w (RB.nil _) rfl rfl (by decide) (by decide) (by decide) (by decide) (by decide) (by decide) (by kernel_rfl) (by kernel_rfl) (by decide))
  have HP2 := Lib.hid (fun (w : World) => put4_ok 0 0 0 0 0 0 0 0 0 (four4 10 0 0 1) (four4 10 0 0 1) (.slice none 0 0) [] w (RB.nil _) rfl rfl (by decide) (by decide) (by decide) (by decide) (by decide) (by decide) (by kernel_rfl) (by kernel_rfl) (by decide))
  have e1 : all4 0 0 0 0 0 0 ((four4 10 0 0 1).take 4) ((four4 224 0 0 1).take 4) [] = zb1 := rfl
  have e2 : all4 0 0 0 0 0 0 ((four4 10 0 0 1).take 4) ((four4 10 0 0 1).take 4) [] = zb2 := rfl
  rw [e1] at HP1
  rw [e2] at HP2
  clear e1 e2
  unfold RowTup at HP1 HP2
  obtain ⟨d1, d2, d3, d4⟩ := zb_due
  have HA1 := Lib.hid (fun A c w hr => answer_any A c zb1 w hr)
  have HA2 := Lib.hid (fun A c w hr => answer_any A c zb2 w hr)
  rw [d1, d2] at HA1
  rw [d3] at HA2
  have HL := Lib.hid d4
  clear d1 d2 d3 d4
  generalize ansL zb2 = M2 at HA2 HL
  generalize zb1 = L1 at *
  generalize zb2 = L2 at *
  generalize four4 10 0 0 1 = Z1 at *
  generalize four4 224 0 0 1 = Z2 at *
  have HM := Lib.hid (Mem.start w0)
  have HB := HM.out.below
  go_enter Try.func60, Try.ntmps60
  go_wp2_with (first | refine m_rdg ?_ | (refine m_wrg ?_; clear HM HB; intro w b HM HB; try clear b) | (refine m_ap ?_; clear HM HB; intro w Aq cq HM HB) | fail)
  refine (HP1.out _).mono ?_
  rintro e w ⟨v, rfl, ho, hb⟩
  replace HM := Lib.hid (HM.out.row hb ho)
  replace HB := HM.out.below
  clear ho hb
  obtain ⟨A1, c1, rfl, -, -⟩ := HM.out.rb (by ((repeat (first | exact List.Mem.head _ | apply List.Mem.tail)); done))
  go_wp2_with (first | refine m_rdg ?_ | (refine m_wrg ?_; clear HM HB; intro w b HM HB; try clear b) | (refine m_ap ?_; clear HM HB; intro w Aq cq HM HB) | fail)
  refine (HP2.out _).mono ?_
  rintro e w ⟨v, rfl, ho, hb⟩
  replace HM := Lib.hid (HM.out.row hb ho)
  replace HB := HM.out.below
  clear ho hb
  obtain ⟨A2, c2, rfl, -, -⟩ := HM.out.rb (by ((repeat (first | exact List.Mem.head _ | apply List.Mem.tail)); done))
  go_wp2_with (first | refine m_rdg ?_ | (refine m_wrg ?_; clear HM HB; intro w b HM HB; try clear b) | (refine m_ap ?_; clear HM HB; intro w Aq cq HM HB) | fail)
  refine (HA1.out A1 c1 _ (HM.out.rb (by ((repeat (first | exact List.Mem.head _ | apply List.Mem.tail)); done)))).mono ?_
  rintro e w ⟨v, rfl, ho, hb⟩
  replace HM := Lib.hid (HM.out.row hb ho)
  replace HB := HM.out.below
  clear ho hb
  go_wp2_with (first | refine m_rdg ?_ | (refine m_wrg ?_; clear HM HB; intro w b HM HB; try clear b) | (refine m_ap ?_; clear HM HB; intro w Aq cq HM HB) | fail)
  refine (HA2.out A2 c2 _ (HM.out.rb (by ((repeat (first | exact List.Mem.head _ | apply List.Mem.tail)); done)))).mono ?_
  rintro e w ⟨v, rfl, ho, hb⟩
  replace HM := Lib.hid (HM.out.row hb ho)
  replace HB := HM.out.below
  clear ho hb
  obtain ⟨A3, c3, rfl, -, -⟩ := HM.out.rb (by ((repeat (first | exact List.Mem.head _ | apply List.Mem.tail)); done))
  rw [HL.out]
  go_wp2_with (first | refine m_rdg ?_ | (refine m_wrg ?_; clear HM HB; intro w b HM HB; try clear b) | (refine m_ap ?_; clear HM HB; intro w Aq cq HM HB) | fail)
  go_ret
  exact ⟨rfl, HB⟩
set_option maxHeartbeats 1000000 in
theorem refuseAnswers_walk (A : Option Addr) (c : Nat) (l : List UInt8) (w0 : World) (hr : RB w0 (.slice A l.length c) l) :
    Calls Try.prog 17 #[.slice A l.length c] w0 fun e w' => e = .returned (.bool true) ∧ Below w0.heap.size w0 w' := by
  have hl := hr.len
  have HR := Lib.hid hr
  clear hr
  have HS := Lib.hid (answer_any A c l)
  have HD := Lib.hid (due_any A c l)
  have HE := Lib.hid (refDue_any A c l)
  have HQ := Lib.hid (refAnswer_any A c l)
  generalize dueB l = du at HS HD HE
  generalize ansL l = sl at HS HQ
  have HM := Lib.hid (Mem.start w0)
  have HB := HM.out.below
  by_cases h3 : 3000 < l.length
  · go_enter Try.func17, Try.ntmps17
    go_wp2_with (first | refine m_rdg ?_ | (refine m_wrg ?_; clear HM HB; intro w b HM HB; try clear b) | (refine m_ap ?_; clear HM HB; intro w Aq cq HM HB) | fail)
    refine (alive24_any _).mono ?_
    rintro e w ⟨rfl, hb⟩
    replace HM := Lib.hid (HM.out.call hb)
    replace HB := HM.out.below
    clear hb
    go_wp2_with (first | refine m_rdg ?_ | (refine m_wrg ?_; clear HM HB; intro w b HM HB; try clear b) | (refine m_ap ?_; clear HM HB; intro w Aq cq HM HB) | fail)
    go_ret
    exact ⟨rfl, HB⟩
  · cases du
    all_goals
      go_enter Try.func17, Try.ntmps17
      go_wp2_with (first | refine m_rdg ?_ | (refine m_wrg ?_; clear HM HB; intro w b HM HB; try clear b) | (refine m_ap ?_; clear HM HB; intro w Aq cq HM HB) | fail)
      refine (HS.out _ (HR.out.below HB)).mono ?_
      rintro e w ⟨v, rfl, ho, hb⟩
      replace HM := Lib.hid (HM.out.row hb ho)
      replace HB := HM.out.below
      clear ho hb
      go_wp2_with (first | refine m_rdg ?_ | (refine m_wrg ?_; clear HM HB; intro w b HM HB; try clear b) | (refine m_ap ?_; clear HM HB; intro w Aq cq HM HB) | fail)
      refine (HD.out _ (HR.out.below HB)).mono ?_
      rintro e w ⟨rfl, hb⟩
      replace HM := Lib.hid (HM.out.call hb)
      replace HB := HM.out.below
      clear hb
      go_wp2_with (first | refine m_rdg ?_ | (refine m_wrg ?_; clear HM HB; intro w b HM HB; try clear b) | (refine m_ap ?_; clear HM HB; intro w Aq cq HM HB) | fail)
      refine (HE.out _ (HR.out.below HB)).mono ?_
      rintro e w ⟨rfl, hb⟩
      replace HM := Lib.hid (HM.out.call hb)
      replace HB := HM.out.below
      clear hb
      go_wp2_with (first | refine m_rdg ?_ | (refine m_wrg ?_; clear HM HB; intro w b HM HB; try clear b) | (refine m_ap ?_; clear HM HB; intro w Aq cq HM HB) | fail)
      refine (HE.out _ (HR.out.below HB)).mono ?_
      rintro e w ⟨rfl, hb⟩
      replace HM := Lib.hid (HM.out.call hb)
      replace HB := HM.out.below
      clear hb
      go_wp2_with (first | refine m_rdg ?_ | (refine m_wrg ?_; clear HM HB; intro w b HM HB; try clear b) | (refine m_ap ?_; clear HM HB; intro w Aq cq HM HB) | fail)
      refine (HQ.out _ (HR.out.below HB)).mono ?_
      rintro e w ⟨u, rfl, ho, hb⟩
      replace HM := Lib.hid (HM.out.row hb ho)
      replace HB := HM.out.below
      clear ho hb
      go_wp2_with (first | refine m_rdg ?_ | (refine m_wrg ?_; clear HM HB; intro w b HM HB; try clear b) | (refine m_ap ?_; clear HM HB; intro w Aq cq HM HB) | fail)
      refine (same_any _ _ sl sl _ (HM.out.rb (by ((repeat (first | exact List.Mem.head _ | apply List.Mem.tail)); done))) (HM.out.rb (by ((repeat (first | exact List.Mem.head _ | apply List.Mem.tail)); done)))).mono ?_
      rintro e w ⟨rfl, hb⟩
      replace HM := Lib.hid (HM.out.call hb)
      replace HB := HM.out.below
      clear hb
      rw [decide_eq_true (rfl : sl = sl)]
      go_wp2_with (first | refine m_rdg ?_ | (refine m_wrg ?_; clear HM HB; intro w b HM HB; try clear b) | (refine m_ap ?_; clear HM HB; intro w Aq cq HM HB) | fail)
      refine (alive24_any _).mono ?_
      rintro e w ⟨rfl, hb⟩
      replace HM := Lib.hid (HM.out.call hb)
      replace HB := HM.out.below
      clear hb
      go_wp2_with (first | refine m_rdg ?_ | (refine m_wrg ?_; clear HM HB; intro w b HM HB; try clear b) | (refine m_ap ?_; clear HM HB; intro w Aq cq HM HB) | fail)
      go_ret
      exact ⟨rfl, HB⟩
theorem eql_addr_self (v : Int) (x : List UInt8) (hx : x.length = 16) (h0 : -9223372036854775808 ≤ v) (h1 : v ≤ 9223372036854775807) : EqlOf 25 (AV [v] x) (AV [v] x) true := fun W => by
  rw [run_eql_struct, eq_addr v v x x h0 h1 h0 h1 hx hx]
  simp [Result.andThen]
set_option maxHeartbeats 2000000 in
theorem refuseOnce_walk (A : Option Addr) (c : Nat) (l : List UInt8) (w0 : World) (hr : RB w0 (.slice A l.length c) l) :
    Calls Try.prog 18 #[.slice A l.length c] w0 fun e w' => e = .returned (.bool true) ∧ Below w0.heap.size w0 w' := by
  have hl := hr.len
  have HR := Lib.hid hr
  clear hr
  have HM := Lib.hid (Mem.start w0)
  have HB := HM.out.below
  by_cases h3 : 3000 < l.length
  · go_enter Try.func18, Try.ntmps18
    go_wp2_with (first | refine m_rdg ?_ | (refine m_wrg ?_; clear HM HB; intro w b HM HB; try clear b) | (refine m_ap ?_; clear HM HB; intro w Aq cq HM HB) | fail)
    refine (alive24_any _).mono ?_
    rintro e w ⟨rfl, hb⟩
    replace HM := Lib.hid (HM.out.call hb)
    replace HB := HM.out.below
    clear hb
    go_wp2_with (first | refine m_rdg ?_ | (refine m_wrg ?_; clear HM HB; intro w b HM HB; try clear b) | (refine m_ap ?_; clear HM HB; intro w Aq cq HM HB) | fail)
    go_ret
    exact ⟨rfl, HB⟩
  have HS := Lib.hid (answer_any A c l)
  by_cases hd : dueB l = true
  case neg =>
    rw [show dueB l = false by simpa using hd] at HS
    have ha : ansL l = [] := by unfold ansL; rw [if_neg hd]
    rw [ha] at HS
    clear hd ha
    go_enter Try.func18, Try.ntmps18
    go_wp2_with (first | refine m_rdg ?_ | (refine m_wrg ?_; clear HM HB; intro w b HM HB; try clear b) | (refine m_ap ?_; clear HM HB; intro w Aq cq HM HB) | fail)
    refine (HS.out _ (HR.out.below HB)).mono ?_
    rintro e w ⟨v, rfl, ho, hb⟩
    replace HM := Lib.hid (HM.out.row hb ho)
    replace HB := HM.out.below
    clear ho hb
    obtain ⟨A1, c1, rfl, -, -⟩ := HM.out.rb (by ((repeat (first | exact List.Mem.head _ | apply List.Mem.tail)); done))
    go_wp2_with (first | refine m_rdg ?_ | (refine m_wrg ?_; clear HM HB; intro w b HM HB; try clear b) | (refine m_ap ?_; clear HM HB; intro w Aq cq HM HB) | fail)
    refine (alive24_any _).mono ?_
    rintro e w ⟨rfl, hb⟩
    replace HM := Lib.hid (HM.out.call hb)
    replace HB := HM.out.below
    clear hb
    go_wp2_with (first | refine m_rdg ?_ | (refine m_wrg ?_; clear HM HB; intro w b HM HB; try clear b) | (refine m_ap ?_; clear HM HB; intro w Aq cq HM HB) | fail)
    go_ret
    exact ⟨rfl, HB⟩
  rw [hd] at HS
  have hw := due_whole l hd
  obtain ⟨hb, ht, hl5⟩ := I4.whole_bad l hw
  obtain ⟨v, sz, tt, cl, id, fl, fr, tl, pr, x, y, K⟩ := known l hb
  obtain ⟨hab, v', sz', tt', cl', id', fl', fr', tl', pr', hah, hvv⟩ := ans_head l hd K
  obtain ⟨he, hwh⟩ := ans_not l hd
  have hv4 : (v : Int) ≤ 9 := by rcases K.fam with ⟨h, _⟩ | ⟨h, _⟩ <;> omega
  subst hvv
  have HP := Lib.hid (refParseP_any (.slice A l.length c) l)
  have HC := Lib.hid (cells_headP l)
  have HX := Lib.hid K.lx
  have HY := Lib.hid K.ly
  rw [hb, K.head] at HP
  rw [K.head] at HC
  have HP2 := Lib.hid (fun v => refParseP_any v (ansL l))
  have HC2 := Lib.hid (cells_headP (ansL l))
  rw [hab, hah] at HP2
  rw [hah] at HC2
  have HA2 := Lib.hid (fun A c => answer_any A c (ansL l))
  rw [due_of_err _ he] at HA2
  have HW2 := Lib.hid (fun A c => refWhole_any A c (ansL l))
  rw [hwh] at HW2
  have EQ1 := Lib.hid (eql_addr_self (v' : Int) x K.lx (by omega) (by omega))
  have EQ2 := Lib.hid (eql_addr_self (v' : Int) y K.ly (by omega) (by omega))
  generalize ansL (ansL l) = M2 at HA2
  generalize ansL l = M at HS HP2 HA2 HW2
  clear hd hw hb ht hl5 K hab hah he hwh
  go_enter Try.func18, Try.ntmps18
  go_wp2_with (first | refine m_rdg ?_ | (refine m_wrg ?_; clear HM HB; intro w b HM HB; try clear b) | (refine m_ap ?_; clear HM HB; intro w Aq cq HM HB) | fail)
  refine (HS.out _ (HR.out.below HB)).mono ?_
  rintro e w ⟨v, rfl, ho, hb⟩
  replace HM := Lib.hid (HM.out.row hb ho)
  replace HB := HM.out.below
  clear ho hb
  obtain ⟨A1, c1, rfl, -, -⟩ := HM.out.rb (by ((repeat (first | exact List.Mem.head _ | apply List.Mem.tail)); done))
  go_wp2_with (first | refine m_rdg ?_ | (refine m_wrg ?_; clear HM HB; intro w b HM HB; try clear b) | (refine m_ap ?_; clear HM HB; intro w Aq cq HM HB) | fail)
  refine (HP.out _ (HR.out.below HB)).mono ?_
  rintro e w ⟨rfl, hb⟩
  replace HM := Lib.hid (HM.out.call hb)
  replace HB := HM.out.below
  clear hb
  go_wp2_with (first | refine m_rdg ?_ | (refine m_wrg ?_; clear HM HB; intro w b HM HB; try clear b) | (refine m_ap ?_; clear HM HB; intro w Aq cq HM HB) | fail)
  refine (HP2.out _ _ (HM.out.rb (by ((repeat (first | exact List.Mem.head _ | apply List.Mem.tail)); done)))).mono ?_
  rintro e w ⟨rfl, hb⟩
  replace HM := Lib.hid (HM.out.call hb)
  replace HB := HM.out.below
  clear hb
  go_wp2_with (first | refine m_rdg ?_ | (refine m_wrg ?_; clear HM HB; intro w b HM HB; try clear b) | (refine m_ap ?_; clear HM HB; intro w Aq cq HM HB) | fail)
  refine (HA2.out A1 c1 _ (HM.out.rb (by ((repeat (first | exact List.Mem.head _ | apply List.Mem.tail)); done)))).mono ?_
  rintro e w ⟨v2, rfl, ho, hb⟩
  replace HM := Lib.hid (HM.out.row hb ho)
  replace HB := HM.out.below
  clear ho hb
  go_wp2_with (first | refine m_rdg ?_ | (refine m_wrg ?_; clear HM HB; intro w b HM HB; try clear b) | (refine m_ap ?_; clear HM HB; intro w Aq cq HM HB) | fail)
  refine (HW2.out A1 c1 _ (HM.out.rb (by ((repeat (first | exact List.Mem.head _ | apply List.Mem.tail)); done)))).mono ?_
  rintro e w ⟨rfl, hb⟩
  replace HM := Lib.hid (HM.out.call hb)
  replace HB := HM.out.below
  clear hb
  go_wp2_with (first | refine m_rdg ?_ | (refine m_wrg ?_; clear HM HB; intro w b HM HB; try clear b) | (refine m_ap ?_; clear HM HB; intro w Aq cq HM HB) | fail)
  refine (alive24_any _).mono ?_
  rintro e w ⟨rfl, hb⟩
  replace HM := Lib.hid (HM.out.call hb)
  replace HB := HM.out.below
  clear hb
  go_wp2_with (first | refine m_rdg ?_ | (refine m_wrg ?_; clear HM HB; intro w b HM HB; try clear b) | (refine m_ap ?_; clear HM HB; intro w Aq cq HM HB) | fail)
  go_ret
  exact ⟨rfl, HB⟩
end Go.Proofs.Ytahnibhcfdamdaa.Rf
