/- Packets of either family: whether one tells an error, the reference. -/
import Derived.Test.YtahnibhcfdamdaaKd
set_option linter.unusedSimpArgs false
set_option linter.unusedVariables false
set_option maxRecDepth 100000
namespace Go.Proofs.Ytahnibhcfdamdaa.Pk
open Go.RowKit Go.Proofs.YtahnibhcfdamdaaW.PrintWords Go.Proofs.Ytahnibhcfdamdaa.Bs Go.Proofs.Ytahnibhcfdamdaa.Av Go.Proofs.Ytahnibhcfdamdaa.Ad Go.Proofs.Ytahnibhcfdamdaa.Hd Go.Proofs.Ytahnibhcfdamdaa.Mm Go.Proofs.Ytahnibhcfdamdaa.Le Go.Proofs.Ytahnibhcfdamdaa.Ip Go.Proofs.Ytahnibhcfdamdaa.En Go.Proofs.Ytahnibhcfdamdaa.Co Go.Proofs.Ytahnibhcfdamdaa.Os Go.Proofs.Ytahnibhcfdamdaa.Is

set_option maxHeartbeats 2000000 in
theorem refIsError_any (A : Option Addr) (c : Nat) (l : List UInt8) (w0 : World) (hr : RB w0 (.slice A l.length c) l) :
    Calls Try.prog 50 #[.slice A l.length c] w0 fun e w' => e = .returned (.bool (errB l)) ∧ Below w0.heap.size w0 w' := by
  have hl := hr.len
  have HR := Lib.hid hr
  clear hr
  have HP := Lib.hid (refParseP_any (.slice A l.length c) l)
  have HC := Lib.hid (cells_headP l)
  by_cases hb : badP l = 0
  · obtain ⟨v, sz, tt, cl, ident, fl, fr, tl, pr, x, y, K⟩ := known l hb
    have HX := Lib.hid K.lx
    have HY := Lib.hid K.ly
    have hd := K.low
    have hsm := K.small
    have ht := K.tot
    have hz := K.siz
    have hf := K.frg
    have hp := K.pro
    have hv : (v = 4 ∧ is4 l) ∨ (v = 6 ∧ ¬ is4 l) := K.fam.imp id (fun h => ⟨h.1, h.2.1⟩)
    rw [hb, K.head] at HP
    rw [K.head] at HC
    clear K
    obtain ⟨ad, rfl⟩ := HR.out.some (by omega)
    by_cases h1 : sz < tt
    · have e1 : ¬ tt ≤ sz := by omega
      have hx0 := HR.out.byte sz (by omega)
      simp only [gb_getD] at hx0
      have hg := gb_lt l sz
      rcases hv with ⟨hv4, h4⟩ | ⟨hv4, h4⟩
      · have e4 : (((v : Nat) : Int) == 4) = true := by rw [hv4]; rfl
        clear hv4
        by_cases h3 : pr = 1
        · have e3 : (((pr : Nat) : Int) == 1) = true := by rw [h3]; rfl
          by_cases h2 : fr = 0
          · have e5 : errB l = kindB (gb l sz) := by rw [errB_yes l ⟨hb, by rw [← hz, ← ht]; exact h1, by rw [← hf]; exact h2, by rw [if_pos h4, ← hp]; exact h3⟩, ← hp, ← hz, h3]; rfl
            rw [e5]
            have e2 : (((fr : Nat) : Int) == 0) = true := by rw [h2]; rfl
            clear e5 hb ht hz hf hp h4
            generalize gb l sz = g at hx0 hg ⊢
            clear h2 h3
            rcases kinds g with h | h | h | h | h | h
            all_goals
              obtain ⟨k3, k4, k5, k11, k12, hk⟩ := h
              rw [hk]
              clear hk
              have HM := Lib.hid (Mem.start w0)
              have HB := HM.out.below
              go_enter Try.func50, Try.ntmps50
              go_wp2_with (first | refine m_rd ?_ | (refine m_wr ?_; clear HM HB; intro w b HM HB; try clear b) | (refine m_ap ?_; clear HM HB; intro w Aq cq HM HB) | fail)
              refine (HP.out _ (HR.out.below HB)).mono ?_
              rintro e w ⟨rfl, hb⟩
              replace HM := Lib.hid (HM.out.call hb)
              replace HB := HM.out.below
              clear hb
              go_wp2_with (first | refine m_rd ?_ | (refine m_wr ?_; clear HM HB; intro w b HM HB; try clear b) | (refine m_ap ?_; clear HM HB; intro w Aq cq HM HB) | fail)
              go_ret
              exact ⟨rfl, HB⟩
          · have e5 : errB l = false := errB_no l (by rw [← hf]; exact fun h => h2 h.2.2.1)
            rw [e5]
            have e2 : (((fr : Nat) : Int) == 0) = false := beq_false_of_ne (by omega)
            clear e5 hb ht hz hf hp h4
            generalize gb l sz = g at hx0 hg
            clear h2 h3
            have HM := Lib.hid (Mem.start w0)
            have HB := HM.out.below
            go_enter Try.func50, Try.ntmps50
            go_wp2_with (first | refine m_rd ?_ | (refine m_wr ?_; clear HM HB; intro w b HM HB; try clear b) | (refine m_ap ?_; clear HM HB; intro w Aq cq HM HB) | fail)
            refine (HP.out _ (HR.out.below HB)).mono ?_
            rintro e w ⟨rfl, hb⟩
            replace HM := Lib.hid (HM.out.call hb)
            replace HB := HM.out.below
            clear hb
            go_wp2_with (first | refine m_rd ?_ | (refine m_wr ?_; clear HM HB; intro w b HM HB; try clear b) | (refine m_ap ?_; clear HM HB; intro w Aq cq HM HB) | fail)
            go_ret
            exact ⟨rfl, HB⟩
        · have e5 : errB l = false := errB_no l (by rw [if_pos h4, ← hp]; exact fun h => h3 h.2.2.2)
          rw [e5]
          have e3 : (((pr : Nat) : Int) == 1) = false := beq_false_of_ne (by omega)
          clear e5 hb ht hz hf hp h4
          generalize gb l sz = g at hx0 hg
          clear h3
          have HM := Lib.hid (Mem.start w0)
          have HB := HM.out.below
          go_enter Try.func50, Try.ntmps50
          go_wp2_with (first | refine m_rd ?_ | (refine m_wr ?_; clear HM HB; intro w b HM HB; try clear b) | (refine m_ap ?_; clear HM HB; intro w Aq cq HM HB) | fail)
          refine (HP.out _ (HR.out.below HB)).mono ?_
          rintro e w ⟨rfl, hb⟩
          replace HM := Lib.hid (HM.out.call hb)
          replace HB := HM.out.below
          clear hb
          go_wp2_with (first | refine m_rd ?_ | (refine m_wr ?_; clear HM HB; intro w b HM HB; try clear b) | (refine m_ap ?_; clear HM HB; intro w Aq cq HM HB) | fail)
          go_ret
          exact ⟨rfl, HB⟩
      · have e4 : (((v : Nat) : Int) == 4) = false := by rw [hv4]; rfl
        clear hv4
        have h2 : fr = 0 := by rw [hf]; unfold frgP; rw [if_neg h4]
        by_cases h3 : pr = 58
        · have e3 : (((pr : Nat) : Int) == 58) = true := by rw [h3]; rfl
          have e5 : errB l = decide (gb l sz < 128) := by rw [errB_yes l ⟨hb, by rw [← hz, ← ht]; exact h1, by rw [← hf]; exact h2, by rw [if_neg h4, ← hp]; exact h3⟩, ← hp, ← hz, h3]; rfl
          rw [e5]
          clear e5 hb ht hz hf hp h4
          generalize gb l sz = g at hx0 hg ⊢
          clear h2 h3
          by_cases q : g < 128
          · have q1 : decide ((g : Int) < 128) = true := by simp; omega
            rw [decide_eq_true q]
            clear q
            have HM := Lib.hid (Mem.start w0)
            have HB := HM.out.below
            go_enter Try.func50, Try.ntmps50
            go_wp2_with (first | refine m_rd ?_ | (refine m_wr ?_; clear HM HB; intro w b HM HB; try clear b) | (refine m_ap ?_; clear HM HB; intro w Aq cq HM HB) | fail)
            refine (HP.out _ (HR.out.below HB)).mono ?_
            rintro e w ⟨rfl, hb⟩
            replace HM := Lib.hid (HM.out.call hb)
            replace HB := HM.out.below
            clear hb
            go_wp2_with (first | refine m_rd ?_ | (refine m_wr ?_; clear HM HB; intro w b HM HB; try clear b) | (refine m_ap ?_; clear HM HB; intro w Aq cq HM HB) | fail)
            go_ret
            exact ⟨rfl, HB⟩
          · have q1 : decide ((g : Int) < 128) = false := by simp; omega
            rw [decide_eq_false q]
            clear q
            have HM := Lib.hid (Mem.start w0)
            have HB := HM.out.below
            go_enter Try.func50, Try.ntmps50
            go_wp2_with (first | refine m_rd ?_ | (refine m_wr ?_; clear HM HB; intro w b HM HB; try clear b) | (refine m_ap ?_; clear HM HB; intro w Aq cq HM HB) | fail)
            refine (HP.out _ (HR.out.below HB)).mono ?_
            rintro e w ⟨rfl, hb⟩
            replace HM := Lib.hid (HM.out.call hb)
            replace HB := HM.out.below
            clear hb
            go_wp2_with (first | refine m_rd ?_ | (refine m_wr ?_; clear HM HB; intro w b HM HB; try clear b) | (refine m_ap ?_; clear HM HB; intro w Aq cq HM HB) | fail)
            go_ret
            exact ⟨rfl, HB⟩
        · have e5 : errB l = false := errB_no l (by rw [if_neg h4, ← hp]; exact fun h => h3 h.2.2.2)
          rw [e5]
          have e3 : (((pr : Nat) : Int) == 58) = false := beq_false_of_ne (by omega)
          clear e5 hb ht hz hf hp h4
          generalize gb l sz = g at hx0 hg
          clear h2 h3
          have HM := Lib.hid (Mem.start w0)
          have HB := HM.out.below
          go_enter Try.func50, Try.ntmps50
          go_wp2_with (first | refine m_rd ?_ | (refine m_wr ?_; clear HM HB; intro w b HM HB; try clear b) | (refine m_ap ?_; clear HM HB; intro w Aq cq HM HB) | fail)
          refine (HP.out _ (HR.out.below HB)).mono ?_
          rintro e w ⟨rfl, hb⟩
          replace HM := Lib.hid (HM.out.call hb)
          replace HB := HM.out.below
          clear hb
          go_wp2_with (first | refine m_rd ?_ | (refine m_wr ?_; clear HM HB; intro w b HM HB; try clear b) | (refine m_ap ?_; clear HM HB; intro w Aq cq HM HB) | fail)
          go_ret
          exact ⟨rfl, HB⟩
    · have e1 : tt ≤ sz := by omega
      have e3 : errB l = false := errB_no l (by rw [← hz, ← ht]; exact fun h => h1 h.2.1)
      rw [e3]
      clear e3 hb ht hz hf hp hv
      have HM := Lib.hid (Mem.start w0)
      have HB := HM.out.below
      go_enter Try.func50, Try.ntmps50
      go_wp2_with (first | refine m_rd ?_ | (refine m_wr ?_; clear HM HB; intro w b HM HB; try clear b) | (refine m_ap ?_; clear HM HB; intro w Aq cq HM HB) | fail)
      refine (HP.out _ (HR.out.below HB)).mono ?_
      rintro e w ⟨rfl, hb⟩
      replace HM := Lib.hid (HM.out.call hb)
      replace HB := HM.out.below
      clear hb
      go_wp2_with (first | refine m_rd ?_ | (refine m_wr ?_; clear HM HB; intro w b HM HB; try clear b) | (refine m_ap ?_; clear HM HB; intro w Aq cq HM HB) | fail)
      go_ret
      exact ⟨rfl, HB⟩
  · have hq : (((badP l : Nat) : Int) != 0) = true := bne_iff_ne.2 (by omega)
    rw [errB_no l (fun h => hb h.1)]
    generalize headP l = hv at HP HC
    generalize badP l = bq at HP hq
    clear hb
    have HM := Lib.hid (Mem.start w0)
    have HB := HM.out.below
    go_enter Try.func50, Try.ntmps50
    go_wp2_with (first | refine m_rd ?_ | (refine m_wr ?_; clear HM HB; intro w b HM HB; try clear b) | (refine m_ap ?_; clear HM HB; intro w Aq cq HM HB) | fail)
    refine (HP.out _ (HR.out.below HB)).mono ?_
    rintro e w ⟨rfl, hb⟩
    replace HM := Lib.hid (HM.out.call hb)
    replace HB := HM.out.below
    clear hb
    go_wp2_with (first | refine m_rd ?_ | (refine m_wr ?_; clear HM HB; intro w b HM HB; try clear b) | (refine m_ap ?_; clear HM HB; intro w Aq cq HM HB) | fail)
    go_ret
    exact ⟨rfl, HB⟩
end Go.Proofs.Ytahnibhcfdamdaa.Pk
