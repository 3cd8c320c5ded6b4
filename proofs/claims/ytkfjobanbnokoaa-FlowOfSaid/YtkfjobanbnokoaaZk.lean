/- Packets of either family: plain facts; package packet and its reference: the head of bytes. Packets of either family: the reference head of bytes; whether bytes are one whole packet. Packets of either family: whether one tells an error. Layer 21: the chapter's example. bytes.Equal: whether bytes are the same. -/
import Derived.Test.YtkfjobanbnokoaaZd
import Derived.Test.YtkfjobanbnokoaaZc
import Derived.Test.YtkfjobanbnokoaaZa
import Derived.Laws.BytesString
import Derived.Laws.BytesArg
import Derived.Laws.IdiomStrings
import Derived.Lib.Strings
import Derived.Lib.Bytes
import Derived.Laws.StructEq
set_option linter.unusedSimpArgs false
set_option linter.unusedVariables false
set_option maxRecDepth 100000
namespace Go.Proofs.Ytkfjobanbnokoaa.Pk
open Go.RowKit Go.Proofs.YtkfjobanbnokoaaW.PrintWords Go.Proofs.Ytkfjobanbnokoaa.Bs Go.Proofs.Ytkfjobanbnokoaa.Av Go.Proofs.Ytkfjobanbnokoaa.Ad Go.Proofs.Ytkfjobanbnokoaa.Hd Go.Proofs.Ytkfjobanbnokoaa.Mm Go.Proofs.Ytkfjobanbnokoaa.Le Go.Proofs.Ytkfjobanbnokoaa.Ip Go.Proofs.Ytkfjobanbnokoaa.En Go.Proofs.Ytkfjobanbnokoaa.Co Go.Proofs.Ytkfjobanbnokoaa.Os Go.Proofs.Ytkfjobanbnokoaa.Is

def badP (l : List UInt8) : Nat := if l.length = 0 then 3 else if gb l 0 / 16 = 4 then bad4 l else if gb l 0 / 16 = 6 then bad6 l else 9
def headP (l : List UInt8) : Array Value := if l.length = 0 then ZH else if gb l 0 / 16 = 4 then head4v l else if gb l 0 / 16 = 6 then head6 l else ZH
def is4 (l : List UInt8) : Prop := gb l 0 / 16 = 4
instance (l : List UInt8) : Decidable (is4 l) := inferInstanceAs (Decidable (gb l 0 / 16 = 4))
def verP (l : List UInt8) : Nat := if is4 l then 4 else 6
def sizP (l : List UInt8) : Nat := if is4 l then siz4 l else 40
def totP (l : List UInt8) : Nat := if is4 l then tot4 l else tot6 l
def frgP (l : List UInt8) : Nat := if is4 l then (256 * gb l 6 + gb l 7) % 8192 else 0
def proP (l : List UInt8) : Nat := if is4 l then gb l 9 else gb l 6
def srcP (l : List UInt8) : List UInt8 := if is4 l then pad16 ((l.drop 12).take 4) else (l.drop 8).take 16
def dstP (l : List UInt8) : List UInt8 := if is4 l then pad16 ((l.drop 16).take 4) else (l.drop 24).take 16
theorem bad4_is (l : List UInt8) (h : bad4 l = 0) : is4 l := (len4 l h).2.2.2.2.2.2.2
/-- What is known of a head. -/
structure Known (l : List UInt8) (v sz tt cl id fl fr tl pr : Nat) (x y : List UInt8) : Prop where
  head : headP l = HV [(v : Int), (sz : Int), (tt : Int), (cl : Int), (id : Int), (fl : Int), (fr : Int), (tl : Int), (pr : Int)] v x v y
  ver : v = verP l
  siz : sz = sizP l
  tot : tt = totP l
  frg : fr = frgP l
  pro : pr = proP l
  src : x = srcP l
  dst : y = dstP l
  lx : x.length = 16
  ly : y.length = 16
  low : 20 ≤ sz ∧ sz ≤ tt ∧ tt ≤ l.length ∧ sz < 64 ∧ tt < 65600
  small : cl < 256 ∧ id < 1048576 ∧ fl < 8 ∧ fr < 8192 ∧ tl < 256 ∧ pr < 256
  fam : v = 4 ∧ is4 l ∨ v = 6 ∧ ¬ is4 l ∧ sz = 40 ∧ fr = 0
theorem known (l : List UInt8) (h : badP l = 0) : ∃ v sz tt cl id fl fr tl pr x y, Known l v sz tt cl id fl fr tl pr x y := by
  unfold badP at h
  by_cases h0 : l.length = 0
  · rw [if_pos h0] at h; exact absurd h (by decide)
  rw [if_neg h0] at h
  by_cases h4 : gb l 0 / 16 = 4
  · rw [if_pos h4] at h
    have h4' : is4 l := h4
    obtain ⟨q0, q1, q2, q3, q4, q5, q6, q7⟩ := len4 l h
    have t4 : tot4 l < 65536 := by unfold tot4; have := gb_lt l 2; have := gb_lt l 3; omega
    have s4 : siz4 l < 64 := by unfold siz4; omega
    refine ⟨4, siz4 l, tot4 l, gb l 1, 256 * gb l 4 + gb l 5, gb l 6 / 32, (256 * gb l 6 + gb l 7) % 8192, gb l 8, gb l 9, pad16 ((l.drop 12).take 4), pad16 ((l.drop 16).take 4), ?_, ?_, ?_, ?_, ?_, ?_, ?_, ?_, pad16_length _ (by simp; omega), pad16_length _ (by simp; omega), ⟨q2, q4, q5, s4, by omega⟩, ⟨gb_lt _ _, by have := gb_lt l 4; have := gb_lt l 5; omega, by have := gb_lt l 6; omega, Nat.mod_lt _ (by decide), gb_lt _ _, gb_lt _ _⟩, .inl ⟨rfl, h4'⟩⟩
    · unfold headP head4v
      rw [if_neg h0, if_pos h4, if_pos h]
      rfl
    · unfold verP; rw [if_pos h4']
    · unfold sizP; rw [if_pos h4']
    · unfold totP; rw [if_pos h4']
    · unfold frgP; rw [if_pos h4']
    · unfold proP; rw [if_pos h4']
    · unfold srcP; rw [if_pos h4']
    · unfold dstP; rw [if_pos h4']
  · rw [if_neg h4] at h
    have h4' : ¬ is4 l := h4
    by_cases h6 : gb l 0 / 16 = 6
    · rw [if_pos h6] at h
      have q : 40 ≤ l.length ∧ tot6 l ≤ l.length := by rcases bad6_cases l with q | q | q | q <;> omega
      have t6 : tot6 l < 65600 ∧ 40 ≤ tot6 l := by unfold tot6; have := gb_lt l 4; have := gb_lt l 5; omega
      refine ⟨6, 40, tot6 l, 16 * (gb l 0 % 16) + gb l 1 / 16, 65536 * (gb l 1 % 16) + 256 * gb l 2 + gb l 3, 0, 0, gb l 7, gb l 6, (l.drop 8).take 16, (l.drop 24).take 16, ?_, ?_, ?_, ?_, ?_, ?_, ?_, ?_, by simp; omega, by simp; omega, ⟨by omega, t6.2, q.2, by omega, t6.1⟩, ⟨by have := gb_lt l 1; omega, by have := gb_lt l 1; have := gb_lt l 2; have := gb_lt l 3; omega, by omega, by omega, gb_lt _ _, gb_lt _ _⟩, .inr ⟨rfl, h4', rfl, rfl⟩⟩
      · unfold headP head6
        rw [if_neg h0, if_neg h4, if_pos h6, if_pos h]
        rfl
      · unfold verP; rw [if_neg h4']
      · unfold sizP; rw [if_neg h4']
      · unfold totP; rw [if_neg h4']
      · unfold frgP; rw [if_neg h4']
      · unfold proP; rw [if_neg h4']
      · unfold srcP; rw [if_neg h4']
      · unfold dstP; rw [if_neg h4']
    · rw [if_neg h6] at h; exact absurd h (by decide)
theorem headP_bad (l : List UInt8) (h : badP l ≠ 0) : headP l = ZH := by
  unfold badP at h
  unfold headP
  by_cases h0 : l.length = 0
  · rw [if_pos h0]
  rw [if_neg h0] at h ⊢
  by_cases h4 : gb l 0 / 16 = 4
  · rw [if_pos h4] at h ⊢
    unfold head4v; rw [if_neg h]
  rw [if_neg h4] at h ⊢
  by_cases h6 : gb l 0 / 16 = 6
  · rw [if_pos h6] at h ⊢
    unfold head6; rw [if_neg h]
  rw [if_neg h6]
theorem cells_headP (l : List UInt8) : Cells 67 (headP l) := by
  unfold headP
  split
  · exact cellsZH
  · split
    · exact cells_head4 l
    · split
      · exact cells_head6 l
      · exact cellsZH
theorem eql_ZH : EqlOf 67 ZH ZH true := eql_head_self _ _ _ _ _ rfl rfl rfl fits_zero
theorem eql_headP (l : List UInt8) : EqlOf 67 (headP l) (headP l) true := by
  unfold headP
  split
  · exact eql_ZH
  · split
    · exact eql_head4 l
    · split
      · exact eql_head6 l
      · exact eql_ZH
set_option maxHeartbeats 2000000 in
theorem parseP_any (v : Value) (l : List UInt8) (w0 : World) (hr : RB w0 v l) :
    Calls Try.prog 29 #[v] w0 fun e w' => e = .returned (.tuple #[.agg (headP l), .int .i64 (badP l : Nat)]) ∧ Below w0.heap.size w0 w' := by
  have hl := hr.len
  have HR := Lib.hid hr
  obtain ⟨A, c, rfl, hc, hrr⟩ := hr
  clear hrr
  have HM := Lib.hid (Mem.start w0)
  have HB := HM.out.below
  by_cases h0 : l.length = 0
  · have e1 : headP l = ZH := by unfold headP; rw [if_pos h0]
    have e2 : badP l = 3 := by unfold badP; rw [if_pos h0]
    rw [e1, e2]
    clear e1 e2
    have HR0 : Hid (l.length = 0) := Lib.hid h0
    have h0' : (((l.length : Nat) : Int) == 0) = true := by rw [h0]; rfl
    go_enter Try.func29, Try.ntmps29
    go_wp2_with (first | refine m_rd ?_ | (refine m_wr ?_; clear HM HB; intro w b HM HB; try clear b) | (refine m_ap ?_; clear HM HB; intro w Aq cq HM HB) | fail)
    apply m_ret_c1
    next => exact rfl
    next => exact rfl
    next => exact rfl
    next => exact HM
    next => (first | ((repeat (first | with_reducible exact List.Mem.head _ | with_reducible apply List.Mem.tail)); done) | ((repeat (first | exact List.Mem.head _ | apply List.Mem.tail)); done))
    next => exact Try.underlying67
    next => rfl
    exact ⟨rfl, HB⟩
  have h0' : (((l.length : Nat) : Int) == 0) = false := beq_false_of_ne (by omega)
  obtain ⟨ad, rfl⟩ := HR.out.some (by omega)
  have hpos : 0 < l.length := by omega
  have hx0 := HR.out.byte 0 hpos
  simp only [gb_getD, Mm.add_zero] at hx0
  have hy0 := gb_lt l 0
  by_cases h4 : gb l 0 / 16 = 4
  · have e1 : headP l = head4v l := by unfold headP; rw [if_neg h0, if_pos h4]
    have e2 : badP l = bad4 l := by unfold badP; rw [if_neg h0, if_pos h4]
    rw [e1, e2]
    have h4' : (((gb l 0 : Nat) : Int) / 16 == 4) = true := by simp; omega
    have HP := Lib.hid (parse4_any (.slice (some ad) l.length c) l)
    have HC := Lib.hid (cells_head4 l)
    clear e1 e2 h0 h4
    generalize gb l 0 = g0 at hx0 hy0 h4'
    generalize head4v l = hv at HP HC ⊢
    generalize bad4 l = bq at HP ⊢
    go_enter Try.func29, Try.ntmps29
    go_wp2_with (first | refine m_rd ?_ | (refine m_wr ?_; clear HM HB; intro w b HM HB; try clear b) | (refine m_ap ?_; clear HM HB; intro w Aq cq HM HB) | fail)
    refine (HP.out _ (HR.out.below HB)).mono ?_
    rintro e w ⟨rfl, hb⟩
    replace HM := Lib.hid (HM.out.call hb)
    replace HB := HM.out.below
    clear hb
    go_wp2_with (first | refine m_rd ?_ | (refine m_wr ?_; clear HM HB; intro w b HM HB; try clear b) | (refine m_ap ?_; clear HM HB; intro w Aq cq HM HB) | fail)
    apply m_ret_c1
    next => exact rfl
    next => exact rfl
    next => exact rfl
    next => exact HM
    next => (first | ((repeat (first | with_reducible exact List.Mem.head _ | with_reducible apply List.Mem.tail)); done) | ((repeat (first | exact List.Mem.head _ | apply List.Mem.tail)); done))
    next => exact Try.underlying67
    next => rfl
    exact ⟨rfl, HB⟩
  have h4' : (((gb l 0 : Nat) : Int) / 16 == 4) = false := by simp; omega
  by_cases h6 : gb l 0 / 16 = 6
  · have e1 : headP l = head6 l := by unfold headP; rw [if_neg h0, if_neg h4, if_pos h6]
    have e2 : badP l = bad6 l := by unfold badP; rw [if_neg h0, if_neg h4, if_pos h6]
    rw [e1, e2]
    have h6' : (((gb l 0 : Nat) : Int) / 16 == 6) = true := by simp; omega
    have HP := Lib.hid (parse6_any (.slice (some ad) l.length c) l)
    have HC := Lib.hid (cells_head6 l)
    clear e1 e2 h0 h4 h6
    generalize gb l 0 = g0 at hx0 hy0 h4' h6'
    generalize head6 l = hv at HP HC ⊢
    generalize bad6 l = bq at HP ⊢
    go_enter Try.func29, Try.ntmps29
    go_wp2_with (first | refine m_rd ?_ | (refine m_wr ?_; clear HM HB; intro w b HM HB; try clear b) | (refine m_ap ?_; clear HM HB; intro w Aq cq HM HB) | fail)
    refine (HP.out _ (HR.out.below HB)).mono ?_
    rintro e w ⟨rfl, hb⟩
    replace HM := Lib.hid (HM.out.call hb)
    replace HB := HM.out.below
    clear hb
    go_wp2_with (first | refine m_rd ?_ | (refine m_wr ?_; clear HM HB; intro w b HM HB; try clear b) | (refine m_ap ?_; clear HM HB; intro w Aq cq HM HB) | fail)
    apply m_ret_c1
    next => exact rfl
    next => exact rfl
    next => exact rfl
    next => exact HM
    next => (first | ((repeat (first | with_reducible exact List.Mem.head _ | with_reducible apply List.Mem.tail)); done) | ((repeat (first | exact List.Mem.head _ | apply List.Mem.tail)); done))
    next => exact Try.underlying67
    next => rfl
    exact ⟨rfl, HB⟩
  have e1 : headP l = ZH := by unfold headP; rw [if_neg h0, if_neg h4, if_neg h6]
  have e2 : badP l = 9 := by unfold badP; rw [if_neg h0, if_neg h4, if_neg h6]
  rw [e1, e2]
  have h6' : (((gb l 0 : Nat) : Int) / 16 == 6) = false := by simp; omega
  clear e1 e2 h0 h4 h6
  generalize gb l 0 = g0 at hx0 hy0 h4' h6'
  go_enter Try.func29, Try.ntmps29
  go_wp2_with (first | refine m_rd ?_ | (refine m_wr ?_; clear HM HB; intro w b HM HB; try clear b) | (refine m_ap ?_; clear HM HB; intro w Aq cq HM HB) | fail)
  apply m_ret_c1
  next => exact rfl
  next => exact rfl
  next => exact rfl
  next => exact HM
  next => (first | ((repeat (first | with_reducible exact List.Mem.head _ | with_reducible apply List.Mem.tail)); done) | ((repeat (first | exact List.Mem.head _ | apply List.Mem.tail)); done))
  next => exact Try.underlying67
  next => rfl
  exact ⟨rfl, HB⟩
end Go.Proofs.Ytkfjobanbnokoaa.Pk

set_option linter.unusedSimpArgs false
set_option linter.unusedVariables false
set_option maxRecDepth 100000
namespace Go.Proofs.Ytkfjobanbnokoaa.Pk
open Go.RowKit Go.Proofs.YtkfjobanbnokoaaW.PrintWords Go.Proofs.Ytkfjobanbnokoaa.Bs Go.Proofs.Ytkfjobanbnokoaa.Av Go.Proofs.Ytkfjobanbnokoaa.Ad Go.Proofs.Ytkfjobanbnokoaa.Hd Go.Proofs.Ytkfjobanbnokoaa.Mm Go.Proofs.Ytkfjobanbnokoaa.Le Go.Proofs.Ytkfjobanbnokoaa.Ip Go.Proofs.Ytkfjobanbnokoaa.En Go.Proofs.Ytkfjobanbnokoaa.Co Go.Proofs.Ytkfjobanbnokoaa.Os Go.Proofs.Ytkfjobanbnokoaa.Is

set_option maxHeartbeats 2000000 in
theorem refParseP_any (v : Value) (l : List UInt8) (w0 : World) (hr : RB w0 v l) :
    Calls Try.prog 32 #[v] w0 fun e w' => e = .returned (.tuple #[.agg (headP l), .int .i64 (badP l : Nat)]) ∧ Below w0.heap.size w0 w' := by
  have hl := hr.len
  have HR := Lib.hid hr
  obtain ⟨A, c, rfl, hc, hrr⟩ := hr
  clear hrr
  have HM := Lib.hid (Mem.start w0)
  have HB := HM.out.below
  by_cases h0 : l.length = 0
  · have e1 : headP l = ZH := by unfold headP; rw [if_pos h0]
    have e2 : badP l = 3 := by unfold badP; rw [if_pos h0]
    rw [e1, e2]
    clear e1 e2
    have HR0 : Hid (l.length = 0) := Lib.hid h0
    have h0' : (((l.length : Nat) : Int) == 0) = true := by rw [h0]; rfl
    go_enter Try.func32, Try.ntmps32
    go_wp2_with (first | refine m_rd ?_ | (refine m_wr ?_; clear HM HB; intro w b HM HB; try clear b) | (refine m_ap ?_; clear HM HB; intro w Aq cq HM HB) | fail)
    apply m_ret_c1
    next => exact rfl
    next => exact rfl
    next => exact rfl
    next => exact HM
    next => (first | ((repeat (first | with_reducible exact List.Mem.head _ | with_reducible apply List.Mem.tail)); done) | ((repeat (first | exact List.Mem.head _ | apply List.Mem.tail)); done))
    next => exact Try.underlying67
    next => rfl
    exact ⟨rfl, HB⟩
  have h0' : (((l.length : Nat) : Int) == 0) = false := beq_false_of_ne (by omega)
  obtain ⟨ad, rfl⟩ := HR.out.some (by omega)
  have hpos : 0 < l.length := by omega
  have hx0 := HR.out.byte 0 hpos
  simp only [gb_getD, Mm.add_zero] at hx0
  have hy0 := gb_lt l 0
  by_cases h4 : gb l 0 / 16 = 4
  · have e1 : headP l = head4v l := by unfold headP; rw [if_neg h0, if_pos h4]
    have e2 : badP l = bad4 l := by unfold badP; rw [if_neg h0, if_pos h4]
    rw [e1, e2]
    have h4' : (((gb l 0 : Nat) : Int) / 16 == 4) = true := by simp; omega
    have HP := Lib.hid (refParse4_any (.slice (some ad) l.length c) l)
    have HC := Lib.hid (cells_head4 l)
    clear e1 e2 h0 h4
    generalize gb l 0 = g0 at hx0 hy0 h4'
    generalize head4v l = hv at HP HC ⊢
    generalize bad4 l = bq at HP ⊢
    go_enter Try.func32, Try.ntmps32
    go_wp2_with (first | refine m_rd ?_ | (refine m_wr ?_; clear HM HB; intro w b HM HB; try clear b) | (refine m_ap ?_; clear HM HB; intro w Aq cq HM HB) | fail)
    refine (HP.out _ (HR.out.below HB)).mono ?_
    rintro e w ⟨rfl, hb⟩
    replace HM := Lib.hid (HM.out.call hb)
    replace HB := HM.out.below
    clear hb
    go_wp2_with (first | refine m_rd ?_ | (refine m_wr ?_; clear HM HB; intro w b HM HB; try clear b) | (refine m_ap ?_; clear HM HB; intro w Aq cq HM HB) | fail)
    apply m_ret_c1
    next => exact rfl
    next => exact rfl
    next => exact rfl
    next => exact HM
    next => (first | ((repeat (first | with_reducible exact List.Mem.head _ | with_reducible apply List.Mem.tail)); done) | ((repeat (first | exact List.Mem.head _ | apply List.Mem.tail)); done))
    next => exact Try.underlying67
    next => rfl
    exact ⟨rfl, HB⟩
  have h4' : (((gb l 0 : Nat) : Int) / 16 == 4) = false := by simp; omega
  by_cases h6 : gb l 0 / 16 = 6
  · have e1 : headP l = head6 l := by unfold headP; rw [if_neg h0, if_neg h4, if_pos h6]
    have e2 : badP l = bad6 l := by unfold badP; rw [if_neg h0, if_neg h4, if_pos h6]
    rw [e1, e2]
    have h6' : (((gb l 0 : Nat) : Int) / 16 == 6) = true := by simp; omega
    have HP := Lib.hid (refParse6_any (.slice (some ad) l.length c) l)
    have HC := Lib.hid (cells_head6 l)
    clear e1 e2 h0 h4 h6
    generalize gb l 0 = g0 at hx0 hy0 h4' h6'
    generalize head6 l = hv at HP HC ⊢
    generalize bad6 l = bq at HP ⊢
    go_enter Try.func32, Try.ntmps32
    go_wp2_with (first | refine m_rd ?_ | (refine m_wr ?_; clear HM HB; intro w b HM HB; try clear b) | (refine m_ap ?_; clear HM HB; intro w Aq cq HM HB) | fail)
    refine (HP.out _ (HR.out.below HB)).mono ?_
    rintro e w ⟨rfl, hb⟩
    replace HM := Lib.hid (HM.out.call hb)
    replace HB := HM.out.below
    clear hb
    go_wp2_with (first | refine m_rd ?_ | (refine m_wr ?_; clear HM HB; intro w b HM HB; try clear b) | (refine m_ap ?_; clear HM HB; intro w Aq cq HM HB) | fail)
    apply m_ret_c1
    next => exact rfl
    next => exact rfl
    next => exact rfl
    next => exact HM
    next => (first | ((repeat (first | with_reducible exact List.Mem.head _ | with_reducible apply List.Mem.tail)); done) | ((repeat (first | exact List.Mem.head _ | apply List.Mem.tail)); done))
    next => exact Try.underlying67
    next => rfl
    exact ⟨rfl, HB⟩
  have e1 : headP l = ZH := by unfold headP; rw [if_neg h0, if_neg h4, if_neg h6]
  have e2 : badP l = 9 := by unfold badP; rw [if_neg h0, if_neg h4, if_neg h6]
  rw [e1, e2]
  have h6' : (((gb l 0 : Nat) : Int) / 16 == 6) = false := by simp; omega
  clear e1 e2 h0 h4 h6
  generalize gb l 0 = g0 at hx0 hy0 h4' h6'
  go_enter Try.func32, Try.ntmps32
  go_wp2_with (first | refine m_rd ?_ | (refine m_wr ?_; clear HM HB; intro w b HM HB; try clear b) | (refine m_ap ?_; clear HM HB; intro w Aq cq HM HB) | fail)
  apply m_ret_c1
  next => exact rfl
  next => exact rfl
  next => exact rfl
  next => exact HM
  next => (first | ((repeat (first | with_reducible exact List.Mem.head _ | with_reducible apply List.Mem.tail)); done) | ((repeat (first | exact List.Mem.head _ | apply List.Mem.tail)); done))
  next => exact Try.underlying67
  next => rfl
  exact ⟨rfl, HB⟩

def wholeB (l : List UInt8) : Bool := decide (badP l = 0 ∧ totP l = l.length ∧ l.length ≤ 65535)
set_option maxHeartbeats 1000000 in
theorem whole_any (A : Option Addr) (c : Nat) (l : List UInt8) (w0 : World) (hr : RB w0 (.slice A l.length c) l) :
    Calls Try.prog 30 #[.slice A l.length c] w0 fun e w' => e = .returned (.bool (wholeB l)) ∧ Below w0.heap.size w0 w' := by
  have hl := hr.len
  have HR := Lib.hid hr
  clear hr
  have HP := Lib.hid (parseP_any (.slice A l.length c) l)
  have HC := Lib.hid (cells_headP l)
  unfold wholeB
  by_cases hb : badP l = 0
  · obtain ⟨v, sz, tt, cl, id, fl, fr, tl, pr, x, y, K⟩ := known l hb
    have HX := Lib.hid K.lx
    have HY := Lib.hid K.ly
    have hd := K.low
    have ht := K.tot
    rw [hb, K.head] at HP
    rw [K.head] at HC
    rw [hb, ← ht]
    clear K ht
    have hq : (((0 : Nat) : Int) == 0) = true := rfl
    by_cases q1 : tt = l.length
    · by_cases q2 : l.length ≤ 65535
      · have e1 : (((tt : Nat) : Int) == ((l.length : Nat) : Int)) = true := by simp [q1]
        have e2 : decide (((l.length : Nat) : Int) ≤ 65535) = true := by simp; omega
        rw [decide_eq_true (show 0 = 0 ∧ tt = l.length ∧ l.length ≤ 65535 from ⟨rfl, q1, q2⟩)]
        clear q1 q2
        have HM := Lib.hid (Mem.start w0)
        have HB := HM.out.below
        go_enter Try.func30, Try.ntmps30
        go_wp2_with (first | refine m_rd ?_ | (refine m_wr ?_; clear HM HB; intro w b HM HB; try clear b) | (refine m_ap ?_; clear HM HB; intro w Aq cq HM HB) | fail)
        refine (HP.out _ (HR.out.below HB)).mono ?_
        rintro e w ⟨rfl, hb⟩
        replace HM := Lib.hid (HM.out.call hb)
        replace HB := HM.out.below
        clear hb
        go_wp2_with (first | refine m_rd ?_ | (refine m_wr ?_; clear HM HB; intro w b HM HB; try clear b) | (refine m_ap ?_; clear HM HB; intro w Aq cq HM HB) | fail)
        go_ret
        exact ⟨rfl, HB⟩
      · have e1 : (((tt : Nat) : Int) == ((l.length : Nat) : Int)) = true := by simp [q1]
        have e2 : decide (((l.length : Nat) : Int) ≤ 65535) = false := by simp; omega
        rw [decide_eq_false (show ¬ (0 = 0 ∧ tt = l.length ∧ l.length ≤ 65535) from fun h => q2 h.2.2)]
        clear q1 q2
        have HM := Lib.hid (Mem.start w0)
        have HB := HM.out.below
        go_enter Try.func30, Try.ntmps30
        go_wp2_with (first | refine m_rd ?_ | (refine m_wr ?_; clear HM HB; intro w b HM HB; try clear b) | (refine m_ap ?_; clear HM HB; intro w Aq cq HM HB) | fail)
        refine (HP.out _ (HR.out.below HB)).mono ?_
        rintro e w ⟨rfl, hb⟩
        replace HM := Lib.hid (HM.out.call hb)
        replace HB := HM.out.below
        clear hb
        go_wp2_with (first | refine m_rd ?_ | (refine m_wr ?_; clear HM HB; intro w b HM HB; try clear b) | (refine m_ap ?_; clear HM HB; intro w Aq cq HM HB) | fail)
        go_ret
        exact ⟨rfl, HB⟩
    · have e1 : (((tt : Nat) : Int) == ((l.length : Nat) : Int)) = false := beq_false_of_ne (by omega)
      rw [decide_eq_false (show ¬ (0 = 0 ∧ tt = l.length ∧ l.length ≤ 65535) from fun h => q1 h.2.1)]
      clear q1
      have HM := Lib.hid (Mem.start w0)
      have HB := HM.out.below
      go_enter Try.func30, Try.ntmps30
      go_wp2_with (first | refine m_rd ?_ | (refine m_wr ?_; clear HM HB; intro w b HM HB; try clear b) | (refine m_ap ?_; clear HM HB; intro w Aq cq HM HB) | fail)
      refine (HP.out _ (HR.out.below HB)).mono ?_
      rintro e w ⟨rfl, hb⟩
      replace HM := Lib.hid (HM.out.call hb)
      replace HB := HM.out.below
      clear hb
      go_wp2_with (first | refine m_rd ?_ | (refine m_wr ?_; clear HM HB; intro w b HM HB; try clear b) | (refine m_ap ?_; clear HM HB; intro w Aq cq HM HB) | fail)
      go_ret
      exact ⟨rfl, HB⟩
  · have hq : (((badP l : Nat) : Int) == 0) = false := beq_false_of_ne (by omega)
    rw [decide_eq_false (show ¬ (badP l = 0 ∧ totP l = l.length ∧ l.length ≤ 65535) from fun h => hb h.1)]
    generalize headP l = hv at HP HC
    generalize badP l = bq at HP hq
    clear hb
    have HM := Lib.hid (Mem.start w0)
    have HB := HM.out.below
    go_enter Try.func30, Try.ntmps30
    go_wp2_with (first | refine m_rd ?_ | (refine m_wr ?_; clear HM HB; intro w b HM HB; try clear b) | (refine m_ap ?_; clear HM HB; intro w Aq cq HM HB) | fail)
    refine (HP.out _ (HR.out.below HB)).mono ?_
    rintro e w ⟨rfl, hb⟩
    replace HM := Lib.hid (HM.out.call hb)
    replace HB := HM.out.below
    clear hb
    go_wp2_with (first | refine m_rd ?_ | (refine m_wr ?_; clear HM HB; intro w b HM HB; try clear b) | (refine m_ap ?_; clear HM HB; intro w Aq cq HM HB) | fail)
    go_ret
    exact ⟨rfl, HB⟩
set_option maxHeartbeats 1000000 in
theorem refWhole_any (A : Option Addr) (c : Nat) (l : List UInt8) (w0 : World) (hr : RB w0 (.slice A l.length c) l) :
    Calls Try.prog 33 #[.slice A l.length c] w0 fun e w' => e = .returned (.bool (wholeB l)) ∧ Below w0.heap.size w0 w' := by
  have hl := hr.len
  have HR := Lib.hid hr
  clear hr
  have HP := Lib.hid (refParseP_any (.slice A l.length c) l)
  have HC := Lib.hid (cells_headP l)
  unfold wholeB
  by_cases hb : badP l = 0
  · obtain ⟨v, sz, tt, cl, id, fl, fr, tl, pr, x, y, K⟩ := known l hb
    have HX := Lib.hid K.lx
    have HY := Lib.hid K.ly
    have hd := K.low
    have ht := K.tot
    rw [hb, K.head] at HP
    rw [K.head] at HC
    rw [hb, ← ht]
    clear K ht
    have hq : (((0 : Nat) : Int) == 0) = true := rfl
    by_cases q1 : tt = l.length
    · by_cases q2 : l.length ≤ 65535
      · have e1 : (((tt : Nat) : Int) == ((l.length : Nat) : Int)) = true := by simp [q1]
        have e2 : decide (((l.length : Nat) : Int) ≤ 65535) = true := by simp; omega
        rw [decide_eq_true (show 0 = 0 ∧ tt = l.length ∧ l.length ≤ 65535 from ⟨rfl, q1, q2⟩)]
        clear q1 q2
        have HM := Lib.hid (Mem.start w0)
        have HB := HM.out.below
        go_enter Try.func33, Try.ntmps33
        go_wp2_with (first | refine m_rd ?_ | (refine m_wr ?_; clear HM HB; intro w b HM HB; try clear b) | (refine m_ap ?_; clear HM HB; intro w Aq cq HM HB) | fail)
        refine (HP.out _ (HR.out.below HB)).mono ?_
        rintro e w ⟨rfl, hb⟩
        replace HM := Lib.hid (HM.out.call hb)
        replace HB := HM.out.below
        clear hb
        go_wp2_with (first | refine m_rd ?_ | (refine m_wr ?_; clear HM HB; intro w b HM HB; try clear b) | (refine m_ap ?_; clear HM HB; intro w Aq cq HM HB) | fail)
        go_ret
        exact ⟨rfl, HB⟩
      · have e1 : (((tt : Nat) : Int) == ((l.length : Nat) : Int)) = true := by simp [q1]
        have e2 : decide (((l.length : Nat) : Int) ≤ 65535) = false := by simp; omega
        rw [decide_eq_false (show ¬ (0 = 0 ∧ tt = l.length ∧ l.length ≤ 65535) from fun h => q2 h.2.2)]
        clear q1 q2
        have HM := Lib.hid (Mem.start w0)
        have HB := HM.out.below
        go_enter Try.func33, Try.ntmps33
        go_wp2_with (first | refine m_rd ?_ | (refine m_wr ?_; clear HM HB; intro w b HM HB; try clear b) | (refine m_ap ?_; clear HM HB; intro w Aq cq HM HB) | fail)
        refine (HP.out _ (HR.out.below HB)).mono ?_
        rintro e w ⟨rfl, hb⟩
        replace HM := Lib.hid (HM.out.call hb)
        replace HB := HM.out.below
        clear hb
        go_wp2_with (first | refine m_rd ?_ | (refine m_wr ?_; clear HM HB; intro w b HM HB; try clear b) | (refine m_ap ?_; clear HM HB; intro w Aq cq HM HB) | fail)
        go_ret
        exact ⟨rfl, HB⟩
    · have e1 : (((tt : Nat) : Int) == ((l.length : Nat) : Int)) = false := beq_false_of_ne (by omega)
      rw [decide_eq_false (show ¬ (0 = 0 ∧ tt = l.length ∧ l.length ≤ 65535) from fun h => q1 h.2.1)]
      clear q1
      have HM := Lib.hid (Mem.start w0)
      have HB := HM.out.below
      go_enter Try.func33, Try.ntmps33
      go_wp2_with (first | refine m_rd ?_ | (refine m_wr ?_; clear HM HB; intro w b HM HB; try clear b) | (refine m_ap ?_; clear HM HB; intro w Aq cq HM HB) | fail)
      refine (HP.out _ (HR.out.below HB)).mono ?_
      rintro e w ⟨rfl, hb⟩
      replace HM := Lib.hid (HM.out.call hb)
      replace HB := HM.out.below
      clear hb
      go_wp2_with (first | refine m_rd ?_ | (refine m_wr ?_; clear HM HB; intro w b HM HB; try clear b) | (refine m_ap ?_; clear HM HB; intro w Aq cq HM HB) | fail)
      go_ret
      exact ⟨rfl, HB⟩
  · have hq : (((badP l : Nat) : Int) == 0) = false := beq_false_of_ne (by omega)
    rw [decide_eq_false (show ¬ (badP l = 0 ∧ totP l = l.length ∧ l.length ≤ 65535) from fun h => hb h.1)]
    generalize headP l = hv at HP HC
    generalize badP l = bq at HP hq
    clear hb
    have HM := Lib.hid (Mem.start w0)
    have HB := HM.out.below
    go_enter Try.func33, Try.ntmps33
    go_wp2_with (first | refine m_rd ?_ | (refine m_wr ?_; clear HM HB; intro w b HM HB; try clear b) | (refine m_ap ?_; clear HM HB; intro w Aq cq HM HB) | fail)
    refine (HP.out _ (HR.out.below HB)).mono ?_
    rintro e w ⟨rfl, hb⟩
    replace HM := Lib.hid (HM.out.call hb)
    replace HB := HM.out.below
    clear hb
    go_wp2_with (first | refine m_rd ?_ | (refine m_wr ?_; clear HM HB; intro w b HM HB; try clear b) | (refine m_ap ?_; clear HM HB; intro w Aq cq HM HB) | fail)
    go_ret
    exact ⟨rfl, HB⟩
end Go.Proofs.Ytkfjobanbnokoaa.Pk

set_option linter.unusedSimpArgs false
set_option linter.unusedVariables false
set_option maxRecDepth 100000
namespace Go.Proofs.Ytkfjobanbnokoaa.Pk
open Go.RowKit Go.Proofs.YtkfjobanbnokoaaW.PrintWords Go.Proofs.Ytkfjobanbnokoaa.Bs Go.Proofs.Ytkfjobanbnokoaa.Av Go.Proofs.Ytkfjobanbnokoaa.Ad Go.Proofs.Ytkfjobanbnokoaa.Hd Go.Proofs.Ytkfjobanbnokoaa.Mm Go.Proofs.Ytkfjobanbnokoaa.Le Go.Proofs.Ytkfjobanbnokoaa.Ip Go.Proofs.Ytkfjobanbnokoaa.En Go.Proofs.Ytkfjobanbnokoaa.Co Go.Proofs.Ytkfjobanbnokoaa.Os Go.Proofs.Ytkfjobanbnokoaa.Is


def kindB (t : Nat) : Bool := decide (t = 3 ∨ t = 4 ∨ t = 5 ∨ t = 11 ∨ t = 12)
def failB (pr t : Nat) : Bool := if pr = 58 then decide (t < 128) else kindB t
def KF (t : Nat) (b3 b4 b5 b11 b12 : Bool) : Prop := ((t : Int) == 3) = b3 ∧ ((t : Int) == 4) = b4 ∧ ((t : Int) == 5) = b5 ∧ ((t : Int) == 11) = b11 ∧ ((t : Int) == 12) = b12 ∧ kindB t = (b3 || b4 || b5 || b11 || b12)
theorem kinds (t : Nat) : KF t true false false false false ∨ KF t false true false false false ∨ KF t false false true false false ∨ KF t false false false true false ∨ KF t false false false false true ∨ KF t false false false false false := by
  unfold KF kindB
  by_cases h3 : t = 3
  · subst h3; left; decide
  by_cases h4 : t = 4
  · subst h4; right; left; decide
  by_cases h5 : t = 5
  · subst h5; right; right; left; decide
  by_cases h11 : t = 11
  · subst h11; right; right; right; left; decide
  by_cases h12 : t = 12
  · subst h12; right; right; right; right; left; decide
  right; right; right; right; right
  refine ⟨beq_false_of_ne (by omega), beq_false_of_ne (by omega), beq_false_of_ne (by omega), beq_false_of_ne (by omega), beq_false_of_ne (by omega), ?_⟩
  simp [h3, h4, h5, h11, h12]
end Go.Proofs.Ytkfjobanbnokoaa.Pk

set_option linter.unusedSimpArgs false
set_option linter.unusedVariables false
set_option maxRecDepth 100000
namespace Go.Proofs.Ytkfjobanbnokoaa.Pk
open Go.RowKit Go.Proofs.YtkfjobanbnokoaaW.PrintWords Go.Proofs.Ytkfjobanbnokoaa.Bs Go.Proofs.Ytkfjobanbnokoaa.Av Go.Proofs.Ytkfjobanbnokoaa.Ad Go.Proofs.Ytkfjobanbnokoaa.Hd Go.Proofs.Ytkfjobanbnokoaa.Mm Go.Proofs.Ytkfjobanbnokoaa.Le Go.Proofs.Ytkfjobanbnokoaa.Ip Go.Proofs.Ytkfjobanbnokoaa.En Go.Proofs.Ytkfjobanbnokoaa.Co Go.Proofs.Ytkfjobanbnokoaa.Os Go.Proofs.Ytkfjobanbnokoaa.Is


theorem unguard {ops : Array Oper} {rest : List Oper} {op : Oper} {a : Act} {Q : Exit → Act → World → Prop} {w : World} (hw : Region.wanted op (yielded ops a.tmps) = true)
    (h : wpList Try.prog ops Q ({ op with guard := none } :: rest) a w) : wpList Try.prog ops Q (op :: rest) a w := by
  obtain ⟨dst, o, ty, pos, af, gd⟩ := op
  unfold wpList at h ⊢
  rw [if_pos hw]
  split at h
  · exact h
  · rename_i hn; exact absurd (by simp [Region.wanted]) hn
def zero16 : List UInt8 := List.replicate 16 0
theorem built_zero6 : Built 26 #[(0, .int .i64 6)] (.agg (AV [6] zero16)) := fun W => by kernel_rfl
def zs40 : List UInt8 := all6 0 0 0 0 zero16 zero16 []
end Go.Proofs.Ytkfjobanbnokoaa.Pk

set_option linter.unusedSimpArgs false
set_option linter.unusedVariables false
set_option maxRecDepth 100000
namespace Go.Proofs.Ytkfjobanbnokoaa.Eqb
open Go.RowKit Go.Proofs.YtkfjobanbnokoaaW.PrintWords Go.Proofs.Ytkfjobanbnokoaa.Bs

theorem RB.str {w : World} {v : Value} {l : List UInt8} (h : RB w v l) : (convert 22 9 v).run Try.prog w = .ok (.string ⟨l.toArray⟩) w := by
  obtain ⟨A, c, rfl, _, hr⟩ := h
  cases A with
  | none =>
    have hl : l = [] := by
      by_cases h0 : 0 < l.length
      · obtain ⟨ad, e, _⟩ := hr.2.2 h0; cases e
      · exact List.eq_nil_of_length_eq_zero (by omega)
    subst hl
    exact run_convert_bytes_nil w 22 5 Try.underlying22 Try.underlying5 _ _ 9 Try.underlying9
  | some ad =>
    refine run_convert_bytes_back w 22 9 5 ad c l Try.underlying22 Try.underlying5 Try.underlying9 (fun j hj => ?_)
    obtain ⟨ad', e, hc⟩ := hr.2.2 (by omega)
    injection e with e
    subst e
    rw [hc j hj]
    simp [B, List.getD_eq_getElem?_getD, List.getElem?_eq_getElem hj]

end Go.Proofs.Ytkfjobanbnokoaa.Eqb
