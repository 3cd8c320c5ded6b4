/- Packets of either family: plain facts; package packet and its reference: the head of bytes. -/
import Derived.Test.YtahnibhcfdamdaaJi
import Derived.Test.YtahnibhcfdamdaaIr
set_option linter.unusedSimpArgs false
set_option linter.unusedVariables false
set_option maxRecDepth 100000
namespace Go.Proofs.Ytahnibhcfdamdaa.Pk
open Go.RowKit Go.Proofs.YtahnibhcfdamdaaW.PrintWords Go.Proofs.Ytahnibhcfdamdaa.Bs Go.Proofs.Ytahnibhcfdamdaa.Av Go.Proofs.Ytahnibhcfdamdaa.Ad Go.Proofs.Ytahnibhcfdamdaa.Hd Go.Proofs.Ytahnibhcfdamdaa.Mm Go.Proofs.Ytahnibhcfdamdaa.Le Go.Proofs.Ytahnibhcfdamdaa.Ip Go.Proofs.Ytahnibhcfdamdaa.En Go.Proofs.Ytahnibhcfdamdaa.Co Go.Proofs.Ytahnibhcfdamdaa.Os Go.Proofs.Ytahnibhcfdamdaa.Is

def badP (l : List UInt8) : Nat := if l.length = 0 then 3 else if gb l 0 / 16 = 4 then bad4 l else if gb l 0 / 16 = 6 then bad6 l else 9
def headP (l : List UInt8) : Array Value := if l.length = 0 then ZH else if gb l 0 / 16 = 4 then head4v l else if gb l 0 / 16 = 6 then head6 l else ZH
def is4 (l : List UInt8) : Prop := gb l 0 / 16 = 4
instance (l : List UInt8) : Decidable (is4 l) := inferInstanceAs (Decidable (gb l 0 / 16 = 4))
def verP (l : List UInt8) : Nat := if is4 l then 4 else 6
def sizP (l : List UInt8) : Nat := if is4 l then siz4 l else 40
def totP (l : List UInt8) : Nat := if is4 l then tot4 l else tot6 l
def frgP (l : List UInt8) : Nat := if is4 l then (256 * gb l 6 + gb l 7) % 8192 else 0
def proP (l : List UInt8) : Nat := if is4 l then gb l 9 else gb l 6
def srcP (l : List UInt8) : List UInt8 := if is4 l then pad16 ((l.drop 12).take 4) else (l.drop 8).take 16
def dstP (l : List UInt8) : List UInt8 := if is4 l then pad16 ((l.drop 16).take 4) else (l.drop 24).take 16
theorem bad4_is (l : List UInt8) (h : bad4 l = 0) : is4 l := (len4 l h).2.2.2.2.2.2.2
/-- What is known of a head. -/
structure Known (l : List UInt8) (v sz tt cl id fl fr tl pr : Nat) (x y : List UInt8) : Prop where
  head : headP l = HV [(v : Int), (sz : Int), (tt : Int), (cl : Int), (id : Int), (fl : Int), (fr : Int), (tl : Int), (pr : Int)] v x v y
  ver : v = verP l
  siz : sz = sizP l
  tot : tt = totP l
  frg : fr = frgP l
  pro : pr = proP l
  src : x = srcP l
  dst : y = dstP l
  lx : x.length = 16
  ly : y.length = 16
  low : 20 ≤ sz ∧ sz ≤ tt ∧ tt ≤ l.length ∧ sz < 64 ∧ tt < 65600
  small : cl < 256 ∧ id < 1048576 ∧ fl < 8 ∧ fr < 8192 ∧ tl < 256 ∧ pr < 256
  fam : v = 4 ∧ is4 l ∨ v = 6 ∧ ¬ is4 l ∧ sz = 40 ∧ fr = 0
theorem known (l : List UInt8) (h : badP l = 0) : ∃ v sz tt cl id fl fr tl pr x y, Known l v sz tt cl id fl fr tl pr x y := by
  unfold badP at h
  by_cases h0 : l.length = 0
  · rw [if_pos h0] at h; exact absurd h (by decide)
  rw [if_neg h0] at h
  by_cases h4 : gb l 0 / 16 = 4
  · rw [if_pos h4] at h
    have h4' : is4 l := h4
    obtain ⟨q0, q1, q2, q3, q4, q5, q6, q7⟩ := len4 l h
    have t4 : tot4 l < 65536 := by unfold tot4; have := gb_lt l 2; have := gb_lt l 3; omega
    have s4 : siz4 l < 64 := by unfold siz4; omega
    refine ⟨4, siz4 l, tot4 l, gb l 1, 256 * gb l 4 + gb l 5, gb l 6 / 32, (256 * gb l 6 + gb l 7) % 8192, gb l 8, gb l 9, pad16 ((l.drop 12).take 4), pad16 ((l.drop 16).take 4), ?_, ?_, ?_, ?_, ?_, ?_, ?_, ?_, pad16_length _ (by simp; omega), pad16_length _ (by simp; omega), ⟨q2, q4, q5, s4, by omega⟩, ⟨gb_lt _ _, by have := gb_lt l 4; have := gb_lt l 5; omega, by have := gb_lt l 6; omega, Nat.mod_lt _ (by decide), gb_lt _ _, gb_lt _ _⟩, .inl ⟨rfl, h4'⟩⟩
    · unfold headP head4v
      rw [if_neg h0, if_pos h4, if_pos h]
      rfl
    · unfold verP; rw [if_pos h4']
    · unfold sizP; rw [if_pos h4']
    · unfold totP; rw [if_pos h4']
    · unfold frgP; rw [if_pos h4']
    · unfold proP; rw [if_pos h4']
    · unfold srcP; rw [if_pos h4']
    · unfold dstP; rw [if_pos h4']
  · rw [if_neg h4] at h
    have h4' : ¬ is4 l := h4
    by_cases h6 : gb l 0 / 16 = 6
    · rw [if_pos h6] at h
      have q : 40 ≤ l.length ∧ tot6 l ≤ l.length := by rcases bad6_cases l with q | q | q | q <;> omega
      have t6 : tot6 l < 65600 ∧ 40 ≤ tot6 l := by unfold tot6; have := gb_lt l 4; have := gb_lt l 5; omega
      refine ⟨6, 40, tot6 l, 16 * (gb l 0 % 16) + gb l 1 / 16, 65536 * (gb l 1 % 16) + 256 * gb l 2 + gb l 3, 0, 0, gb l 7, gb l 6, (l.drop 8).take 16, (l.drop 24).take 16, ?_, ?_, ?_, ?_, ?_, ?_, ?_, ?_, by simp; omega, by simp; omega, ⟨by omega, t6.2, q.2, by omega, t6.1⟩, ⟨by have := gb_lt l 1; omega, by have := gb_lt l 1; have := gb_lt l 2; have := gb_lt l 3; omega, by omega, by omega, gb_lt _ _, gb_lt _ _⟩, .inr ⟨rfl, h4', rfl, rfl⟩⟩
      · unfold headP head6
        rw [if_neg h0, if_neg h4, if_pos h6, if_pos h]
        rfl
      · unfold verP; rw [if_neg h4']
      · unfold sizP; rw [if_neg h4']
      · unfold totP; rw [if_neg h4']
      · unfold frgP; rw [if_neg h4']
      · unfold proP; rw [if_neg h4']
      · unfold srcP; rw [if_neg h4']
      · unfold dstP; rw [if_neg h4']
    · rw [if_neg h6] at h; exact absurd h (by decide)
theorem headP_bad (l : List UInt8) (h : badP l ≠ 0) : headP l = ZH := by
  unfold badP at h
  unfold headP
  by_cases h0 : l.length = 0
  · rw [if_pos h0]
  rw [if_neg h0] at h ⊢
  by_cases h4 : gb l 0 / 16 = 4
  · rw [if_pos h4] at h ⊢
    unfold head4v; rw [if_neg h]
  rw [if_neg h4] at h ⊢
  by_cases h6 : gb l 0 / 16 = 6
  · rw [if_pos h6] at h ⊢
    unfold head6; rw [if_neg h]
  rw [if_neg h6]
theorem cells_headP (l : List UInt8) : Cells 31 (headP l) := by
  unfold headP
  split
  · exact cellsZH
  · split
    · exact cells_head4 l
    · split
      · exact cells_head6 l
      · exact cellsZH
theorem eql_ZH : EqlOf 31 ZH ZH true := eql_head_self _ _ _ _ _ rfl rfl rfl fits_zero
theorem eql_headP (l : List UInt8) : EqlOf 31 (headP l) (headP l) true := by
  unfold headP
  split
  · exact eql_ZH
  · split
    · exact eql_head4 l
    · split
      · exact eql_head6 l
      · exact eql_ZH
set_option maxHeartbeats 2000000 in
theorem parseP_any (v : Value) (l : List UInt8) (w0 : World) (hr : RB w0 v l) :
    Calls Try.prog 42 #[v] w0 fun e w' => e = .returned (.tuple #[.agg (headP l), .int .i64 (badP l : Nat)]) ∧ Below w0.heap.size w0 w' := by
  have hl := hr.len
  have HR := Lib.hid hr
  obtain ⟨A, c, rfl, hc, hrr⟩ := hr
  clear hrr
  have HM := Lib.hid (Mem.start w0)
  have HB := HM.out.below
  by_cases h0 : l.length = 0
  · have e1 : headP l = ZH := by unfold headP; rw [if_pos h0]
    have e2 : badP l = 3 := by unfold badP; rw [if_pos h0]
    rw [e1, e2]
    clear e1 e2
    have HR0 : Hid (l.length = 0) := Lib.hid h0
    have h0' : (((l.length : Nat) : Int) == 0) = true := by rw [h0]; rfl
    go_enter Try.func42, Try.ntmps42
    go_wp2_with (first | refine m_rd ?_ | (refine m_wr ?_; clear HM HB; intro w b HM HB; try clear b) | (refine m_ap ?_; clear HM HB; intro w Aq cq HM HB) | fail)
    apply m_ret_c1
    next => exact rfl
    next => exact rfl
    next => exact rfl
    next => exact HM
    next => ((repeat (first | exact List.Mem.head _ | apply List.Mem.tail)); done)
    next => exact Try.underlying31
    next => rfl
    exact ⟨rfl, HB⟩
  have h0' : (((l.length : Nat) : Int) == 0) = false := beq_false_of_ne (by omega)
  obtain ⟨ad, rfl⟩ := HR.out.some (by omega)
  have hpos : 0 < l.length := by omega
  have hx0 := HR.out.byte 0 hpos
  simp only [gb_getD, Mm.add_zero] at hx0
  have hy0 := gb_lt l 0
  by_cases h4 : gb l 0 / 16 = 4
  · have e1 : headP l = head4v l := by unfold headP; rw [if_neg h0, if_pos h4]
    have e2 : badP l = bad4 l := by unfold badP; rw [if_neg h0, if_pos h4]
    rw [e1, e2]
    have h4' : (((gb l 0 : Nat) : Int) / 16 == 4) = true := by simp; omega
    have HP := Lib.hid (parse4_any (.slice (some ad) l.length c) l)
    have HC := Lib.hid (cells_head4 l)
    clear e1 e2 h0 h4
    generalize gb l 0 = g0 at hx0 hy0 h4'
    generalize head4v l = hv at HP HC ⊢
    generalize bad4 l = bq at HP ⊢
    go_enter Try.func42, Try.ntmps42
    go_wp2_with (first | refine m_rd ?_ | (refine m_wr ?_; clear HM HB; intro w b HM HB; try clear b) | (refine m_ap ?_; clear HM HB; intro w Aq cq HM HB) | fail)
    refine (HP.out _ (HR.out.below HB)).mono ?_
    rintro e w ⟨rfl, hb⟩
    replace HM := Lib.hid (HM.out.call hb)
    replace HB := HM.out.below
    clear hb
    go_wp2_with (first | refine m_rd ?_ | (refine m_wr ?_; clear HM HB; intro w b HM HB; try clear b) | (refine m_ap ?_; clear HM HB; intro w Aq cq HM HB) | fail)
    apply m_ret_c1
    next => exact rfl
    next => exact rfl
    next => exact rfl
    next => exact HM
    next => ((repeat (first | exact List.Mem.head _ | apply List.Mem.tail)); done)
    next => exact Try.underlying31
    next => rfl
    exact ⟨rfl, HB⟩
  have h4' : (((gb l 0 : Nat) : Int) / 16 == 4) = false := by simp; omega
  by_cases h6 : gb l 0 / 16 = 6
  · have e1 : headP l = head6 l := by unfold headP; rw [if_neg h0, if_neg h4, if_pos h6]
    have e2 : badP l = bad6 l := by unfold badP; rw [if_neg h0, if_neg h4, if_pos h6]
    rw [e1, e2]
    have h6' : (((gb l 0 : Nat) : Int) / 16 == 6) = true := by simp; omega
    have HP := Lib.hid (parse6_any (.slice (some ad) l.length c) l)
    have HC := Lib.hid (cells_head6 l)
    clear e1 e2 h0 h4 h6
    generalize gb l 0 = g0 at hx0 hy0 h4' h6'
    generalize head6 l = hv at HP HC ⊢
    generalize bad6 l = bq at HP ⊢
    go_enter Try.func42, Try.ntmps42
    go_wp2_with (first | refine m_rd ?_ | (refine m_wr ?_; clear HM HB; intro w b HM HB; try clear b) | (refine m_ap ?_; clear HM HB; intro w Aq cq HM HB) | fail)
    refine (HP.out _ (HR.out.below HB)).mono ?_
    rintro e w ⟨rfl, hb⟩
    replace HM := Lib.hid (HM.out.call hb)
    replace HB := HM.out.below
    clear hb
    go_wp2_with (first | refine m_rd ?_ | (refine m_wr ?_; clear HM HB; intro w b HM HB; try clear b) | (refine m_ap ?_; clear HM HB; intro w Aq cq HM HB) | fail)
    apply m_ret_c1
    next => exact rfl
    next => exact rfl
    next => exact rfl
    next => exact HM
    next => ((repeat (first | exact List.Mem.head _ | apply List.Mem.tail)); done)
    next => exact Try.underlying31
    next => rfl
    exact ⟨rfl, HB⟩
  have e1 : headP l = ZH := by unfold headP; rw [if_neg h0, if_neg h4, if_neg h6]
  have e2 : badP l = 9 := by unfold badP; rw [if_neg h0, if_neg h4, if_neg h6]
  rw [e1, e2]
  have h6' : (((gb l 0 : Nat) : Int) / 16 == 6) = false := by simp; omega
  clear e1 e2 h0 h4 h6
  generalize gb l 0 = g0 at hx0 hy0 h4' h6'
  go_enter Try.func42, Try.ntmps42
  go_wp2_with (first | refine m_rd ?_ | (refine m_wr ?_; clear HM HB; intro w b HM HB; try clear b) | (refine m_ap ?_; clear HM HB; intro w Aq cq HM HB) | fail)
  apply m_ret_c1
  next => exact rfl
  next => exact rfl
  next => exact rfl
  next => exact HM
  next => ((repeat (first | exact List.Mem.head _ | apply List.Mem.tail)); done)
  next => exact Try.underlying31
  next => rfl
  exact ⟨rfl, HB⟩
end Go.Proofs.Ytahnibhcfdamdaa.Pk
