/- Packets of either family: whether one is a later part, the reference. -/
import Derived.Test.YtahnibhcfdamdaaKf
set_option linter.unusedSimpArgs false
set_option linter.unusedVariables false
set_option maxRecDepth 100000
namespace Go.Proofs.Ytahnibhcfdamdaa.Pk
open Go.RowKit Go.Proofs.YtahnibhcfdamdaaW.PrintWords Go.Proofs.Ytahnibhcfdamdaa.Bs Go.Proofs.Ytahnibhcfdamdaa.Av Go.Proofs.Ytahnibhcfdamdaa.Ad Go.Proofs.Ytahnibhcfdamdaa.Hd Go.Proofs.Ytahnibhcfdamdaa.Mm Go.Proofs.Ytahnibhcfdamdaa.Le Go.Proofs.Ytahnibhcfdamdaa.Ip Go.Proofs.Ytahnibhcfdamdaa.En Go.Proofs.Ytahnibhcfdamdaa.Co Go.Proofs.Ytahnibhcfdamdaa.Os Go.Proofs.Ytahnibhcfdamdaa.Is


theorem lateI (g k : Nat) : decide (8 ≤ 256 * (g : Int) + (k : Int)) = decide (8 ≤ 256 * g + k) := decide_eq_decide.2 (by omega)
set_option maxHeartbeats 2000000 in
theorem refLater_any (A : Option Addr) (c : Nat) (l : List UInt8) (w0 : World) (hr : RB w0 (.slice A l.length c) l) :
    Calls Try.prog 54 #[.slice A l.length c] w0 fun e w' => e = .returned (.bool (lateB l)) ∧ Below w0.heap.size w0 w' := by
  have hl := hr.len
  have HR := Lib.hid hr
  clear hr
  have HP := Lib.hid (refParseP_any (.slice A l.length c) l)
  have HC := Lib.hid (cells_headP l)
  by_cases hb : badP l = 0
  · obtain ⟨v, sz, tt, cl, ident, fl, fr, tl, pr, x, y, K⟩ := known l hb
    have HX := Lib.hid K.lx
    have HY := Lib.hid K.ly
    have hd := K.low
    have hsm := K.small
    have ht := K.tot
    have hz := K.siz
    have hf := K.frg
    have hp := K.pro
    have hv : (v = 4 ∧ is4 l) ∨ (v = 6 ∧ ¬ is4 l ∧ sz = 40) := K.fam.imp id (fun h => ⟨h.1, h.2.1, h.2.2.1⟩)
    rw [hb, K.head] at HP
    rw [K.head] at HC
    clear K
    obtain ⟨ad, rfl⟩ := HR.out.some (by omega)
    rcases hv with ⟨hv4, h4⟩ | ⟨hv4, h4, h40⟩
    · have e4 : (((v : Nat) : Int) == 4) = true := by rw [hv4]; rfl
      have e5 : lateB l = decide (fr ≠ 0) := lateB_is l _ (by rw [if_pos h4, ← hf]; exact ⟨fun h => h.2, fun h => ⟨hb, h⟩⟩)
      rw [e5]
      clear e5 hb ht hz hf hp h4 hv4
      by_cases h2 : fr = 0
      · have e2 : (((fr : Nat) : Int) != 0) = false := by rw [h2]; rfl
        rw [decide_eq_false (show ¬ fr ≠ 0 from fun h => h h2)]
        clear h2
        have HM := Lib.hid (Mem.start w0)
        have HB := HM.out.below
        go_enter Try.func54, Try.ntmps54
        go_wp2_with (first | refine m_rd ?_ | (refine m_wr ?_; clear HM HB; intro w b HM HB; try clear b) | (refine m_ap ?_; clear HM HB; intro w Aq cq HM HB) | fail)
        refine (HP.out _ (HR.out.below HB)).mono ?_
        rintro e w ⟨rfl, hb⟩
        replace HM := Lib.hid (HM.out.call hb)
        replace HB := HM.out.below
        clear hb
        go_wp2_with (first | refine m_rd ?_ | (refine m_wr ?_; clear HM HB; intro w b HM HB; try clear b) | (refine m_ap ?_; clear HM HB; intro w Aq cq HM HB) | fail)
        go_ret
        exact ⟨rfl, HB⟩
      · have e2 : (((fr : Nat) : Int) != 0) = true := bne_iff_ne.2 (by omega)
        rw [decide_eq_true (show fr ≠ 0 from h2)]
        clear h2
        have HM := Lib.hid (Mem.start w0)
        have HB := HM.out.below
        go_enter Try.func54, Try.ntmps54
        go_wp2_with (first | refine m_rd ?_ | (refine m_wr ?_; clear HM HB; intro w b HM HB; try clear b) | (refine m_ap ?_; clear HM HB; intro w Aq cq HM HB) | fail)
        refine (HP.out _ (HR.out.below HB)).mono ?_
        rintro e w ⟨rfl, hb⟩
        replace HM := Lib.hid (HM.out.call hb)
        replace HB := HM.out.below
        clear hb
        go_wp2_with (first | refine m_rd ?_ | (refine m_wr ?_; clear HM HB; intro w b HM HB; try clear b) | (refine m_ap ?_; clear HM HB; intro w Aq cq HM HB) | fail)
        go_ret
        exact ⟨rfl, HB⟩
    · have e4 : (((v : Nat) : Int) == 4) = false := by rw [hv4]; rfl
      have e5 : lateB l = decide (pr = 44 ∧ 48 ≤ tt ∧ 8 ≤ 256 * gb l 42 + gb l 43) := lateB_is l _ (by rw [if_neg h4, ← hp, ← ht]; exact ⟨fun h => h.2, fun h => ⟨hb, h⟩⟩)
      rw [e5]
      clear e5 hb ht hz hf hp h4 hv4
      by_cases h3 : pr = 44
      · by_cases h8 : 48 ≤ tt
        · have hx2 := HR.out.byte 42 (by omega)
          have hx3 := HR.out.byte 43 (by omega)
          simp only [gb_getD] at hx2 hx3
          rw [add_lit ad 42 (by decide)] at hx2
          rw [add_lit ad 43 (by decide)] at hx3
          have hg2 := gb_lt l 42
          have hg3 := gb_lt l 43
          generalize gb l 42 = g at hx2 hg2 ⊢
          generalize gb l 43 = k at hx3 hg3 ⊢
          rw [show decide (pr = 44 ∧ 48 ≤ tt ∧ 8 ≤ 256 * g + k) = decide (8 ≤ 256 * g + k) from decide_eq_decide.2 ⟨fun h => h.2.2, fun h => ⟨h3, h8, h⟩⟩]
          have e3 : (((pr : Nat) : Int) == 44) = true := by rw [h3]; rfl
          have e8 : decide ((48 : Int) ≤ ((tt : Nat) : Int)) = true := by simp; omega
          clear h3 h40
          have HM := Lib.hid (Mem.start w0)
          have HB := HM.out.below
          go_enter Try.func54, Try.ntmps54
          go_wp2_with (first | refine m_rd ?_ | (refine m_wr ?_; clear HM HB; intro w b HM HB; try clear b) | (refine m_ap ?_; clear HM HB; intro w Aq cq HM HB) | fail)
          refine (HP.out _ (HR.out.below HB)).mono ?_
          rintro e w ⟨rfl, hb⟩
          replace HM := Lib.hid (HM.out.call hb)
          replace HB := HM.out.below
          clear hb
          go_wp2_with (first | refine m_rd ?_ | (refine m_wr ?_; clear HM HB; intro w b HM HB; try clear b) | (refine m_ap ?_; clear HM HB; intro w Aq cq HM HB) | fail)
          try simp only [Act.put, List.setIfInBounds_toArray, List.set_cons_zero, List.set_cons_succ]
          refine wp_region_held_drew (S := fun w' => Mem w0 w' _) (by kernel_rfl) (HM.out.drew) (fun hS => ?_)
          replace HM := Lib.hid HM.out.drew
          replace HB := HM.out.below
          refine tk 0 18 ?_
          refine tkv 1 19 (.int .i64 (pr : Nat)) rfl (yields_num rfl rfl (fun _ h => h) (by ((repeat (first | exact List.Mem.head _ | apply List.Mem.tail)); done)) (HV_num _ _ _ _ _ 8 _ rfl) (by kernel_rfl)) ?_
          refine tk 2 20 ?_
          refine tk 3 21 ?_
          refine tk 4 22 ?_
          refine tkv 5 23 (.int .i64 (tt : Nat)) rfl (yields_num rfl rfl (fun _ h => h) (by ((repeat (first | exact List.Mem.head _ | apply List.Mem.tail)); done)) (HV_num _ _ _ _ _ 2 _ rfl) (by kernel_rfl)) ?_
          refine tk 6 24 ?_
          refine tk 7 25 ?_
          refine tk 8 26 ?_
          refine tk 9 27 ?_
          refine tk 10 28 ?_
          refine tk 11 29 ?_
          refine tk 12 30 ?_
          refine tk 13 31 ?_
          refine tk 14 32 ?_
          refine tk 15 33 ?_
          refine tk 16 34 ?_
          refine tk 17 35 ?_
          refine tk 18 36 ?_
          refine tk 19 37 ?_
          refine tk 20 38 ?_
          refine tk 21 2 ?_
          refine wpAnyH_done (by kernel_rfl) ?_ _
          clear hS
          go_wp2_with (first | refine m_rd ?_ | (refine m_wr ?_; clear HM HB; intro w b HM HB; try clear b) | (refine m_ap ?_; clear HM HB; intro w Aq cq HM HB) | fail)
          go_ret
          rw [← lateI g k]
          exact ⟨rfl, HB⟩
        · rw [decide_eq_false (show ¬ (pr = 44 ∧ 48 ≤ tt ∧ 8 ≤ 256 * gb l 42 + gb l 43) from fun h => h8 h.2.1)]
          have e3 : (((pr : Nat) : Int) == 44) = true := by rw [h3]; rfl
          have e8 : decide ((48 : Int) ≤ ((tt : Nat) : Int)) = false := by simp; omega
          clear h3 h8 h40
          have HM := Lib.hid (Mem.start w0)
          have HB := HM.out.below
          go_enter Try.func54, Try.ntmps54
          go_wp2_with (first | refine m_rd ?_ | (refine m_wr ?_; clear HM HB; intro w b HM HB; try clear b) | (refine m_ap ?_; clear HM HB; intro w Aq cq HM HB) | fail)
          refine (HP.out _ (HR.out.below HB)).mono ?_
          rintro e w ⟨rfl, hb⟩
          replace HM := Lib.hid (HM.out.call hb)
          replace HB := HM.out.below
          clear hb
          go_wp2_with (first | refine m_rd ?_ | (refine m_wr ?_; clear HM HB; intro w b HM HB; try clear b) | (refine m_ap ?_; clear HM HB; intro w Aq cq HM HB) | fail)
          try simp only [Act.put, List.setIfInBounds_toArray, List.set_cons_zero, List.set_cons_succ]
          refine wp_region_held_drew (S := fun w' => Mem w0 w' _) (by kernel_rfl) (HM.out.drew) (fun hS => ?_)
          replace HM := Lib.hid HM.out.drew
          replace HB := HM.out.below
          refine tk 0 18 ?_
          refine tkv 1 19 (.int .i64 (pr : Nat)) rfl (yields_num rfl rfl (fun _ h => h) (by ((repeat (first | exact List.Mem.head _ | apply List.Mem.tail)); done)) (HV_num _ _ _ _ _ 8 _ rfl) (by kernel_rfl)) ?_
          refine tk 2 20 ?_
          refine tk 3 21 ?_
          refine tk 4 22 ?_
          refine tkv 5 23 (.int .i64 (tt : Nat)) rfl (yields_num rfl rfl (fun _ h => h) (by ((repeat (first | exact List.Mem.head _ | apply List.Mem.tail)); done)) (HV_num _ _ _ _ _ 2 _ rfl) (by kernel_rfl)) ?_
          refine tk 6 24 ?_
          refine tk 7 25 ?_
          refine tk 8 26 ?_
          refine tku 9 27 ?_
          refine tku 10 28 ?_
          refine tku 11 29 ?_
          refine tku 12 30 ?_
          refine tku 13 31 ?_
          refine tku 14 32 ?_
          refine tku 15 33 ?_
          refine tku 16 34 ?_
          refine tku 17 35 ?_
          refine tku 18 36 ?_
          refine tku 19 37 ?_
          refine tk 20 38 ?_
          refine tk 21 2 ?_
          refine wpAnyH_done (by kernel_rfl) ?_ _
          clear hS
          go_wp2_with (first | refine m_rd ?_ | (refine m_wr ?_; clear HM HB; intro w b HM HB; try clear b) | (refine m_ap ?_; clear HM HB; intro w Aq cq HM HB) | fail)
          go_ret
          exact ⟨rfl, HB⟩
      · rw [decide_eq_false (show ¬ (pr = 44 ∧ 48 ≤ tt ∧ 8 ≤ 256 * gb l 42 + gb l 43) from fun h => h3 h.1)]
        have e3 : (((pr : Nat) : Int) == 44) = false := beq_false_of_ne (by omega)
        clear h3 h40
        have HM := Lib.hid (Mem.start w0)
        have HB := HM.out.below
        go_enter Try.func54, Try.ntmps54
        go_wp2_with (first | refine m_rd ?_ | (refine m_wr ?_; clear HM HB; intro w b HM HB; try clear b) | (refine m_ap ?_; clear HM HB; intro w Aq cq HM HB) | fail)
        refine (HP.out _ (HR.out.below HB)).mono ?_
        rintro e w ⟨rfl, hb⟩
        replace HM := Lib.hid (HM.out.call hb)
        replace HB := HM.out.below
        clear hb
        go_wp2_with (first | refine m_rd ?_ | (refine m_wr ?_; clear HM HB; intro w b HM HB; try clear b) | (refine m_ap ?_; clear HM HB; intro w Aq cq HM HB) | fail)
        try simp only [Act.put, List.setIfInBounds_toArray, List.set_cons_zero, List.set_cons_succ]
        refine wp_region_held_drew (S := fun w' => Mem w0 w' _) (by kernel_rfl) (HM.out.drew) (fun hS => ?_)
        replace HM := Lib.hid HM.out.drew
        replace HB := HM.out.below
        refine tk 0 18 ?_
        refine tkv 1 19 (.int .i64 (pr : Nat)) rfl (yields_num rfl rfl (fun _ h => h) (by ((repeat (first | exact List.Mem.head _ | apply List.Mem.tail)); done)) (HV_num _ _ _ _ _ 8 _ rfl) (by kernel_rfl)) ?_
        refine tk 2 20 ?_
        refine tk 3 21 ?_
        refine tku 4 22 ?_
        refine tku 5 23 ?_
        refine tku 6 24 ?_
        refine tk 7 25 ?_
        refine tk 8 26 ?_
        refine tku 9 27 ?_
        refine tku 10 28 ?_
        refine tku 11 29 ?_
        refine tku 12 30 ?_
        refine tku 13 31 ?_
        refine tku 14 32 ?_
        refine tku 15 33 ?_
        refine tku 16 34 ?_
        refine tku 17 35 ?_
        refine tku 18 36 ?_
        refine tku 19 37 ?_
        refine tk 20 38 ?_
        refine tk 21 2 ?_
        refine wpAnyH_done (by kernel_rfl) ?_ _
        clear hS
        go_wp2_with (first | refine m_rd ?_ | (refine m_wr ?_; clear HM HB; intro w b HM HB; try clear b) | (refine m_ap ?_; clear HM HB; intro w Aq cq HM HB) | fail)
        go_ret
        exact ⟨rfl, HB⟩
  · have hq : (((badP l : Nat) : Int) != 0) = true := bne_iff_ne.2 (by omega)
    rw [lateB_is l False (by constructor; exact fun h => hb h.1; exact fun h => h.elim), decide_eq_false (fun h => h)]
    generalize headP l = hv at HP HC
    generalize badP l = bq at HP hq
    clear hb
    have HM := Lib.hid (Mem.start w0)
    have HB := HM.out.below
    go_enter Try.func54, Try.ntmps54
    go_wp2_with (first | refine m_rd ?_ | (refine m_wr ?_; clear HM HB; intro w b HM HB; try clear b) | (refine m_ap ?_; clear HM HB; intro w Aq cq HM HB) | fail)
    refine (HP.out _ (HR.out.below HB)).mono ?_
    rintro e w ⟨rfl, hb⟩
    replace HM := Lib.hid (HM.out.call hb)
    replace HB := HM.out.below
    clear hb
    go_wp2_with (first | refine m_rd ?_ | (refine m_wr ?_; clear HM HB; intro w b HM HB; try clear b) | (refine m_ap ?_; clear HM HB; intro w Aq cq HM HB) | fail)
    go_ret
    exact ⟨rfl, HB⟩
end Go.Proofs.Ytahnibhcfdamdaa.Pk
