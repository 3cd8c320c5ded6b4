/- Packets of either family: whether one tells an error. Packets of either family: whether one tells an error, the reference. Packets of either family: whether one is a later part. Packets of either family: whether one is a later part, the reference. -/
import Derived.Test.YtkfjobanbnokoaaZk
set_option linter.unusedSimpArgs false
set_option linter.unusedVariables false
set_option maxRecDepth 100000
namespace Go.Proofs.Ytkfjobanbnokoaa.Pk
open Go.RowKit Go.Proofs.YtkfjobanbnokoaaW.PrintWords Go.Proofs.Ytkfjobanbnokoaa.Bs Go.Proofs.Ytkfjobanbnokoaa.Av Go.Proofs.Ytkfjobanbnokoaa.Ad Go.Proofs.Ytkfjobanbnokoaa.Hd Go.Proofs.Ytkfjobanbnokoaa.Mm Go.Proofs.Ytkfjobanbnokoaa.Le Go.Proofs.Ytkfjobanbnokoaa.Ip Go.Proofs.Ytkfjobanbnokoaa.En Go.Proofs.Ytkfjobanbnokoaa.Co Go.Proofs.Ytkfjobanbnokoaa.Os Go.Proofs.Ytkfjobanbnokoaa.Is


def errB (l : List UInt8) : Bool := decide (badP l = 0 ∧ sizP l < totP l ∧ frgP l = 0 ∧ proP l = (if is4 l then 1 else 58)) && failB (proP l) (gb l (sizP l))
section
variable {ops : Array Oper} {op : Oper} {a : Act} {w0 : World} {es : List Ent}
theorem yields_num {x : Operand} (ho : op.op = .load 3 x) {b o : Nat} (hx : a.eval x = .pointer (some ⟨b, o, none⟩)) {S : World → Prop} (hS : ∀ w', S w' → Mem w0 w' es) {cs : Array Value} {T : TypeId} (m : Ent.blk b cs T ∈ es)
    {v : Value} (hv : cs[o]? = some v) (hw : Region.wanted op (yielded ops a.tmps) = true) : YieldsIf Try.prog ops S op v a :=
  .inl ⟨hw, fun w' h => by
    have hc := (blk_cell ((hS w' h).get m) o).trans hv
    have hr := run_loadI w' _ _ hc
    simp [execOp, ho, resolve, hx, hr, Result.andThen, Instr.loadAt, Instr.sureAddr]⟩
end
theorem errB_no (l : List UInt8) (h : ¬ (badP l = 0 ∧ sizP l < totP l ∧ frgP l = 0 ∧ proP l = (if is4 l then 1 else 58))) : errB l = false := by unfold errB; rw [decide_eq_false h]; rfl
theorem errB_yes (l : List UInt8) (h : badP l = 0 ∧ sizP l < totP l ∧ frgP l = 0 ∧ proP l = (if is4 l then 1 else 58)) : errB l = failB (proP l) (gb l (sizP l)) := by unfold errB; rw [decide_eq_true h]; rfl
end Go.Proofs.Ytkfjobanbnokoaa.Pk

set_option linter.unusedSimpArgs false
set_option linter.unusedVariables false
set_option maxRecDepth 100000
namespace Go.Proofs.Ytkfjobanbnokoaa.Pk
open Go.RowKit Go.Proofs.YtkfjobanbnokoaaW.PrintWords Go.Proofs.Ytkfjobanbnokoaa.Bs Go.Proofs.Ytkfjobanbnokoaa.Av Go.Proofs.Ytkfjobanbnokoaa.Ad Go.Proofs.Ytkfjobanbnokoaa.Hd Go.Proofs.Ytkfjobanbnokoaa.Mm Go.Proofs.Ytkfjobanbnokoaa.Le Go.Proofs.Ytkfjobanbnokoaa.Ip Go.Proofs.Ytkfjobanbnokoaa.En Go.Proofs.Ytkfjobanbnokoaa.Co Go.Proofs.Ytkfjobanbnokoaa.Os Go.Proofs.Ytkfjobanbnokoaa.Is

end Go.Proofs.Ytkfjobanbnokoaa.Pk

set_option linter.unusedSimpArgs false
set_option linter.unusedVariables false
set_option maxRecDepth 100000
namespace Go.Proofs.Ytkfjobanbnokoaa.Pk
open Go.RowKit Go.Proofs.YtkfjobanbnokoaaW.PrintWords Go.Proofs.Ytkfjobanbnokoaa.Bs Go.Proofs.Ytkfjobanbnokoaa.Av Go.Proofs.Ytkfjobanbnokoaa.Ad Go.Proofs.Ytkfjobanbnokoaa.Hd Go.Proofs.Ytkfjobanbnokoaa.Mm Go.Proofs.Ytkfjobanbnokoaa.Le Go.Proofs.Ytkfjobanbnokoaa.Ip Go.Proofs.Ytkfjobanbnokoaa.En Go.Proofs.Ytkfjobanbnokoaa.Co Go.Proofs.Ytkfjobanbnokoaa.Os Go.Proofs.Ytkfjobanbnokoaa.Is


def lateB (l : List UInt8) : Bool := decide (badP l = 0 ∧ (if is4 l then frgP l ≠ 0 else proP l = 44 ∧ 48 ≤ totP l ∧ 8 ≤ 256 * gb l 42 + gb l 43))
theorem or_u16 (a b : Nat) (ha : a < 65536) (hb : b < 65536) : Go.bits .or .u16 (a : Int) (b : Int) = ((a ||| b : Nat) : Int) := by
  show IntKind.u16.wrap ((BitVec.ofInt 16 (a : Int) ||| BitVec.ofInt 16 (b : Int)).toNat : Int) = _
  rw [BitVec.toNat_or, BitVec.ofInt_natCast, BitVec.ofInt_natCast, BitVec.toNat_ofNat, BitVec.toNat_ofNat, Nat.mod_eq_of_lt (by omega), Nat.mod_eq_of_lt (by omega), IntKind.wrap_u16]
  have : a ||| b < 2 ^ 16 := Nat.or_lt_two_pow ha hb
  omega
theorem late16 (g k : Nat) (hg : g < 256) (hk : k < 256) : (Go.bits BinOp.or IntKind.u16 (IntKind.u16.wrap (IntKind.u16.wrap (g : Int) * 256)) (IntKind.u16.wrap (k : Int)) / 8 != 0) = decide (8 ≤ 256 * g + k) := by
  rw [show IntKind.u16.wrap (IntKind.u16.wrap (g : Int) * 256) = ((256 * g : Nat) : Int) from by rw [IntKind.wrap_u16, IntKind.wrap_u16]; omega, show IntKind.u16.wrap (k : Int) = ((k : Nat) : Int) from by rw [IntKind.wrap_u16]; omega, or_u16 _ _ (by omega) (by omega)]
  have e := Nat.two_pow_add_eq_or_of_lt (i := 8) (b := k) hk g
  rw [show 256 * g ||| k = 256 * g + k from e.symm]
  by_cases h : 8 ≤ 256 * g + k
  · rw [decide_eq_true h]; exact bne_iff_ne.2 (by omega)
  · rw [decide_eq_false h]
    have : (((256 * g + k : Nat) : Int) / 8) = 0 := by omega
    rw [this]; rfl
theorem lateB_is (l : List UInt8) (p : Prop) [Decidable p] (h : (badP l = 0 ∧ (if is4 l then frgP l ≠ 0 else proP l = 44 ∧ 48 ≤ totP l ∧ 8 ≤ 256 * gb l 42 + gb l 43)) ↔ p) : lateB l = decide p := by
  unfold lateB; exact decide_eq_decide.2 h
set_option maxHeartbeats 2000000 in
theorem later_any (A : Option Addr) (c : Nat) (l : List UInt8) (w0 : World) (hr : RB w0 (.slice A l.length c) l) :
    Calls Try.prog 31 #[.slice A l.length c] w0 fun e w' => e = .returned (.bool (lateB l)) ∧ Below w0.heap.size w0 w' := by
  have hl := hr.len
  have HR := Lib.hid hr
  clear hr
  have HP := Lib.hid (parseP_any (.slice A l.length c) l)
  have HC := Lib.hid (cells_headP l)
  by_cases hb : badP l = 0
  · obtain ⟨v, sz, tt, cl, ident, fl, fr, tl, pr, x, y, K⟩ := known l hb
    have HX := Lib.hid K.lx
    have HY := Lib.hid K.ly
    have hd := K.low
    have hsm := K.small
    have ht := K.tot
    have hz := K.siz
    have hf := K.frg
    have hp := K.pro
    have hv : (v = 4 ∧ is4 l) ∨ (v = 6 ∧ ¬ is4 l ∧ sz = 40) := K.fam.imp id (fun h => ⟨h.1, h.2.1, h.2.2.1⟩)
    rw [hb, K.head] at HP
    rw [K.head] at HC
    clear K
    obtain ⟨ad, rfl⟩ := HR.out.some (by omega)
    rcases hv with ⟨hv4, h4⟩ | ⟨hv4, h4, h40⟩
    · have e4 : (((v : Nat) : Int) == 4) = true := by rw [hv4]; rfl
      have e5 : lateB l = decide (fr ≠ 0) := lateB_is l _ (by rw [if_pos h4, ← hf]; exact ⟨fun h => h.2, fun h => ⟨hb, h⟩⟩)
      rw [e5]
      clear e5 hb ht hz hf hp h4 hv4
      by_cases h2 : fr = 0
      · have e2 : (((fr : Nat) : Int) != 0) = false := by rw [h2]; rfl
        rw [decide_eq_false (show ¬ fr ≠ 0 from fun h => h h2)]
        clear h2
        have HM := Lib.hid (Mem.start w0)
        have HB := HM.out.below
        go_enter Try.func31, Try.ntmps31
        go_wp2_with (first | refine m_rd ?_ | (refine m_wr ?_; clear HM HB; intro w b HM HB; try clear b) | (refine m_ap ?_; clear HM HB; intro w Aq cq HM HB) | fail)
        refine (HP.out _ (HR.out.below HB)).mono ?_
        rintro e w ⟨rfl, hb⟩
        replace HM := Lib.hid (HM.out.call hb)
        replace HB := HM.out.below
        clear hb
        go_wp2_with (first | refine m_rd ?_ | (refine m_wr ?_; clear HM HB; intro w b HM HB; try clear b) | (refine m_ap ?_; clear HM HB; intro w Aq cq HM HB) | fail)
        go_ret
        exact ⟨rfl, HB⟩
      · have e2 : (((fr : Nat) : Int) != 0) = true := bne_iff_ne.2 (by omega)
        rw [decide_eq_true (show fr ≠ 0 from h2)]
        clear h2
        have HM := Lib.hid (Mem.start w0)
        have HB := HM.out.below
        go_enter Try.func31, Try.ntmps31
        go_wp2_with (first | refine m_rd ?_ | (refine m_wr ?_; clear HM HB; intro w b HM HB; try clear b) | (refine m_ap ?_; clear HM HB; intro w Aq cq HM HB) | fail)
        refine (HP.out _ (HR.out.below HB)).mono ?_
        rintro e w ⟨rfl, hb⟩
        replace HM := Lib.hid (HM.out.call hb)
        replace HB := HM.out.below
        clear hb
        go_wp2_with (first | refine m_rd ?_ | (refine m_wr ?_; clear HM HB; intro w b HM HB; try clear b) | (refine m_ap ?_; clear HM HB; intro w Aq cq HM HB) | fail)
        go_ret
        exact ⟨rfl, HB⟩
    · have e4 : (((v : Nat) : Int) == 4) = false := by rw [hv4]; rfl
      have e5 : lateB l = decide (pr = 44 ∧ 48 ≤ tt ∧ 8 ≤ 256 * gb l 42 + gb l 43) := lateB_is l _ (by rw [if_neg h4, ← hp, ← ht]; exact ⟨fun h => h.2, fun h => ⟨hb, h⟩⟩)
      rw [e5]
      clear e5 hb ht hz hf hp h4 hv4
      by_cases h3 : pr = 44
      · by_cases h8 : 48 ≤ tt
        · have hx2 := HR.out.byte (sz + 2) (by omega)
          have hx3 := HR.out.byte (sz + 3) (by omega)
          simp only [gb_getD] at hx2 hx3
          rw [show gb l 42 = gb l (sz + 2) from by rw [h40], show gb l 43 = gb l (sz + 3) from by rw [h40]]
          have hg2 := gb_lt l (sz + 2)
          have hg3 := gb_lt l (sz + 3)
          generalize gb l (sz + 2) = g at hx2 hg2 ⊢
          generalize gb l (sz + 3) = k at hx3 hg3 ⊢
          rw [show sz + 2 = ((sz : Int) + 2).toNat from by omega] at hx2
          rw [show sz + 3 = ((sz : Int) + 3).toNat from by omega] at hx3
          rw [show decide (pr = 44 ∧ 48 ≤ tt ∧ 8 ≤ 256 * g + k) = decide (8 ≤ 256 * g + k) from decide_eq_decide.2 ⟨fun h => h.2.2, fun h => ⟨h3, h8, h⟩⟩]
          have e3 : (((pr : Nat) : Int) != 44) = false := by rw [h3]; rfl
          have e8 : ¬ ((tt : Nat) : Int) < (sz : Int) + 8 := by omega
          clear h3 h40
          have HM := Lib.hid (Mem.start w0)
          have HB := HM.out.below
          go_enter Try.func31, Try.ntmps31
          go_wp2_with (first | refine m_rd ?_ | (refine m_wr ?_; clear HM HB; intro w b HM HB; try clear b) | (refine m_ap ?_; clear HM HB; intro w Aq cq HM HB) | fail)
          refine (HP.out _ (HR.out.below HB)).mono ?_
          rintro e w ⟨rfl, hb⟩
          replace HM := Lib.hid (HM.out.call hb)
          replace HB := HM.out.below
          clear hb
          go_wp2_with (first | refine m_rd ?_ | (refine m_wr ?_; clear HM HB; intro w b HM HB; try clear b) | (refine m_ap ?_; clear HM HB; intro w Aq cq HM HB) | fail)
          try simp only [Act.put, List.setIfInBounds_toArray, List.set_cons_zero, List.set_cons_succ]
          refine wp_region_held_drew (S := fun w' => Mem w0 w' _) (by kernel_rfl) (HM.out.drew) (fun hS => ?_)
          replace HM := Lib.hid HM.out.drew
          replace HB := HM.out.below
          refine tk 0 31 ?_
          refine tk 1 32 ?_
          refine tkv 2 33 (.int .i64 (sz : Nat)) rfl (yields_num rfl rfl (fun _ h => h) (by (first | ((repeat (first | with_reducible exact List.Mem.head _ | with_reducible apply List.Mem.tail)); done) | ((repeat (first | exact List.Mem.head _ | apply List.Mem.tail)); done))) (HV_num _ _ _ _ _ 1 _ rfl) (by kernel_rfl)) ?_
          refine tk 3 34 ?_
          refine tk 4 35 ?_
          refine tk 5 36 ?_
          refine tk 6 37 ?_
          refine tk 7 38 ?_
          refine tk 8 39 ?_
          refine tk 9 40 ?_
          refine tkv 10 41 (.int .i64 (sz : Nat)) rfl (yields_num rfl rfl (fun _ h => h) (by (first | ((repeat (first | with_reducible exact List.Mem.head _ | with_reducible apply List.Mem.tail)); done) | ((repeat (first | exact List.Mem.head _ | apply List.Mem.tail)); done))) (HV_num _ _ _ _ _ 1 _ rfl) (by kernel_rfl)) ?_
          refine tk 11 42 ?_
          refine tk 12 43 ?_
          refine tk 13 44 ?_
          refine tk 14 45 ?_
          refine tk 15 46 ?_
          refine tk 16 47 ?_
          refine tk 17 48 ?_
          refine tk 18 2 ?_
          refine wpAnyH_done (by kernel_rfl) ?_ _
          clear hS
          go_wp2_with (first | refine m_rd ?_ | (refine m_wr ?_; clear HM HB; intro w b HM HB; try clear b) | (refine m_ap ?_; clear HM HB; intro w Aq cq HM HB) | fail)
          go_ret
          rw [← late16 g k hg2 hg3]
          exact ⟨rfl, HB⟩
        · rw [decide_eq_false (show ¬ (pr = 44 ∧ 48 ≤ tt ∧ 8 ≤ 256 * gb l 42 + gb l 43) from fun h => h8 h.2.1)]
          have e3 : (((pr : Nat) : Int) != 44) = false := by rw [h3]; rfl
          have e8 : ((tt : Nat) : Int) < (sz : Int) + 8 := by omega
          clear h3 h8 h40
          have HM := Lib.hid (Mem.start w0)
          have HB := HM.out.below
          go_enter Try.func31, Try.ntmps31
          go_wp2_with (first | refine m_rd ?_ | (refine m_wr ?_; clear HM HB; intro w b HM HB; try clear b) | (refine m_ap ?_; clear HM HB; intro w Aq cq HM HB) | fail)
          refine (HP.out _ (HR.out.below HB)).mono ?_
          rintro e w ⟨rfl, hb⟩
          replace HM := Lib.hid (HM.out.call hb)
          replace HB := HM.out.below
          clear hb
          go_wp2_with (first | refine m_rd ?_ | (refine m_wr ?_; clear HM HB; intro w b HM HB; try clear b) | (refine m_ap ?_; clear HM HB; intro w Aq cq HM HB) | fail)
          go_ret
          exact ⟨rfl, HB⟩
      · rw [decide_eq_false (show ¬ (pr = 44 ∧ 48 ≤ tt ∧ 8 ≤ 256 * gb l 42 + gb l 43) from fun h => h3 h.1)]
        have e3 : (((pr : Nat) : Int) != 44) = true := bne_iff_ne.2 (by omega)
        clear h3 h40
        have HM := Lib.hid (Mem.start w0)
        have HB := HM.out.below
        go_enter Try.func31, Try.ntmps31
        go_wp2_with (first | refine m_rd ?_ | (refine m_wr ?_; clear HM HB; intro w b HM HB; try clear b) | (refine m_ap ?_; clear HM HB; intro w Aq cq HM HB) | fail)
        refine (HP.out _ (HR.out.below HB)).mono ?_
        rintro e w ⟨rfl, hb⟩
        replace HM := Lib.hid (HM.out.call hb)
        replace HB := HM.out.below
        clear hb
        go_wp2_with (first | refine m_rd ?_ | (refine m_wr ?_; clear HM HB; intro w b HM HB; try clear b) | (refine m_ap ?_; clear HM HB; intro w Aq cq HM HB) | fail)
        go_ret
        exact ⟨rfl, HB⟩
  · have hq : (((badP l : Nat) : Int) != 0) = true := bne_iff_ne.2 (by omega)
    rw [lateB_is l False (by constructor; exact fun h => hb h.1; exact fun h => h.elim), decide_eq_false (fun h => h)]
    generalize headP l = hv at HP HC
    generalize badP l = bq at HP hq
    clear hb
    have HM := Lib.hid (Mem.start w0)
    have HB := HM.out.below
    go_enter Try.func31, Try.ntmps31
    go_wp2_with (first | refine m_rd ?_ | (refine m_wr ?_; clear HM HB; intro w b HM HB; try clear b) | (refine m_ap ?_; clear HM HB; intro w Aq cq HM HB) | fail)
    refine (HP.out _ (HR.out.below HB)).mono ?_
    rintro e w ⟨rfl, hb⟩
    replace HM := Lib.hid (HM.out.call hb)
    replace HB := HM.out.below
    clear hb
    go_wp2_with (first | refine m_rd ?_ | (refine m_wr ?_; clear HM HB; intro w b HM HB; try clear b) | (refine m_ap ?_; clear HM HB; intro w Aq cq HM HB) | fail)
    go_ret
    exact ⟨rfl, HB⟩
end Go.Proofs.Ytkfjobanbnokoaa.Pk

set_option linter.unusedSimpArgs false
set_option linter.unusedVariables false
set_option maxRecDepth 100000
namespace Go.Proofs.Ytkfjobanbnokoaa.Pk
open Go.RowKit Go.Proofs.YtkfjobanbnokoaaW.PrintWords Go.Proofs.Ytkfjobanbnokoaa.Bs Go.Proofs.Ytkfjobanbnokoaa.Av Go.Proofs.Ytkfjobanbnokoaa.Ad Go.Proofs.Ytkfjobanbnokoaa.Hd Go.Proofs.Ytkfjobanbnokoaa.Mm Go.Proofs.Ytkfjobanbnokoaa.Le Go.Proofs.Ytkfjobanbnokoaa.Ip Go.Proofs.Ytkfjobanbnokoaa.En Go.Proofs.Ytkfjobanbnokoaa.Co Go.Proofs.Ytkfjobanbnokoaa.Os Go.Proofs.Ytkfjobanbnokoaa.Is


theorem lateI (g k : Nat) : decide (8 ≤ 256 * (g : Int) + (k : Int)) = decide (8 ≤ 256 * g + k) := decide_eq_decide.2 (by omega)
set_option maxHeartbeats 2000000 in
theorem refLater_any (A : Option Addr) (c : Nat) (l : List UInt8) (w0 : World) (hr : RB w0 (.slice A l.length c) l) :
    Calls Try.prog 34 #[.slice A l.length c] w0 fun e w' => e = .returned (.bool (lateB l)) ∧ Below w0.heap.size w0 w' := by
  have hl := hr.len
  have HR := Lib.hid hr
  clear hr
  have HP := Lib.hid (refParseP_any (.slice A l.length c) l)
  have HC := Lib.hid (cells_headP l)
  by_cases hb : badP l = 0
  · obtain ⟨v, sz, tt, cl, ident, fl, fr, tl, pr, x, y, K⟩ := known l hb
    have HX := Lib.hid K.lx
    have HY := Lib.hid K.ly
    have hd := K.low
    have hsm := K.small
    have ht := K.tot
    have hz := K.siz
    have hf := K.frg
    have hp := K.pro
    have hv : (v = 4 ∧ is4 l) ∨ (v = 6 ∧ ¬ is4 l ∧ sz = 40) := K.fam.imp id (fun h => ⟨h.1, h.2.1, h.2.2.1⟩)
    rw [hb, K.head] at HP
    rw [K.head] at HC
    clear K
    obtain ⟨ad, rfl⟩ := HR.out.some (by omega)
    rcases hv with ⟨hv4, h4⟩ | ⟨hv4, h4, h40⟩
    · have e4 : (((v : Nat) : Int) == 4) = true := by rw [hv4]; rfl
      have e5 : lateB l = decide (fr ≠ 0) := lateB_is l _ (by rw [if_pos h4, ← hf]; exact ⟨fun h => h.2, fun h => ⟨hb, h⟩⟩)
      rw [e5]
      clear e5 hb ht hz hf hp h4 hv4
      by_cases h2 : fr = 0
      · have e2 : (((fr : Nat) : Int) != 0) = false := by rw [h2]; rfl
        rw [decide_eq_false (show ¬ fr ≠ 0 from fun h => h h2)]
        clear h2
        have HM := Lib.hid (Mem.start w0)
        have HB := HM.out.below
        go_enter Try.func34, Try.ntmps34
        go_wp2_with (first | refine m_rd ?_ | (refine m_wr ?_; clear HM HB; intro w b HM HB; try clear b) | (refine m_ap ?_; clear HM HB; intro w Aq cq HM HB) | fail)
        refine (HP.out _ (HR.out.below HB)).mono ?_
        rintro e w ⟨rfl, hb⟩
        replace HM := Lib.hid (HM.out.call hb)
        replace HB := HM.out.below
        clear hb
        go_wp2_with (first | refine m_rd ?_ | (refine m_wr ?_; clear HM HB; intro w b HM HB; try clear b) | (refine m_ap ?_; clear HM HB; intro w Aq cq HM HB) | fail)
        go_ret
        exact ⟨rfl, HB⟩
      · have e2 : (((fr : Nat) : Int) != 0) = true := bne_iff_ne.2 (by omega)
        rw [decide_eq_true (show fr ≠ 0 from h2)]
        clear h2
        have HM := Lib.hid (Mem.start w0)
        have HB := HM.out.below
        go_enter Try.func34, Try.ntmps34
        go_wp2_with (first | refine m_rd ?_ | (refine m_wr ?_; clear HM HB; intro w b HM HB; try clear b) | (refine m_ap ?_; clear HM HB; intro w Aq cq HM HB) | fail)
        refine (HP.out _ (HR.out.below HB)).mono ?_
        rintro e w ⟨rfl, hb⟩
        replace HM := Lib.hid (HM.out.call hb)
        replace HB := HM.out.below
        clear hb
        go_wp2_with (first | refine m_rd ?_ | (refine m_wr ?_; clear HM HB; intro w b HM HB; try clear b) | (refine m_ap ?_; clear HM HB; intro w Aq cq HM HB) | fail)
        go_ret
        exact ⟨rfl, HB⟩
    · have e4 : (((v : Nat) : Int) == 4) = false := by rw [hv4]; rfl
      have e5 : lateB l = decide (pr = 44 ∧ 48 ≤ tt ∧ 8 ≤ 256 * gb l 42 + gb l 43) := lateB_is l _ (by rw [if_neg h4, ← hp, ← ht]; exact ⟨fun h => h.2, fun h => ⟨hb, h⟩⟩)
      rw [e5]
      clear e5 hb ht hz hf hp h4 hv4
      by_cases h3 : pr = 44
      · by_cases h8 : 48 ≤ tt
        · have hx2 := HR.out.byte 42 (by omega)
          have hx3 := HR.out.byte 43 (by omega)
          simp only [gb_getD] at hx2 hx3
          rw [add_lit ad 42 (by decide)] at hx2
          rw [add_lit ad 43 (by decide)] at hx3
          have hg2 := gb_lt l 42
          have hg3 := gb_lt l 43
          generalize gb l 42 = g at hx2 hg2 ⊢
          generalize gb l 43 = k at hx3 hg3 ⊢
          rw [show decide (pr = 44 ∧ 48 ≤ tt ∧ 8 ≤ 256 * g + k) = decide (8 ≤ 256 * g + k) from decide_eq_decide.2 ⟨fun h => h.2.2, fun h => ⟨h3, h8, h⟩⟩]
          have e3 : (((pr : Nat) : Int) == 44) = true := by rw [h3]; rfl
          have e8 : decide ((48 : Int) ≤ ((tt : Nat) : Int)) = true := by simp; omega
          clear h3 h40
          have HM := Lib.hid (Mem.start w0)
          have HB := HM.out.below
          go_enter Try.func34, Try.ntmps34
          go_wp2_with (first | refine m_rd ?_ | (refine m_wr ?_; clear HM HB; intro w b HM HB; try clear b) | (refine m_ap ?_; clear HM HB; intro w Aq cq HM HB) | fail)
          refine (HP.out _ (HR.out.below HB)).mono ?_
          rintro e w ⟨rfl, hb⟩
          replace HM := Lib.hid (HM.out.call hb)
          replace HB := HM.out.below
          clear hb
          go_wp2_with (first | refine m_rd ?_ | (refine m_wr ?_; clear HM HB; intro w b HM HB; try clear b) | (refine m_ap ?_; clear HM HB; intro w Aq cq HM HB) | fail)
          try simp only [Act.put, List.setIfInBounds_toArray, List.set_cons_zero, List.set_cons_succ]
          refine wp_region_held_drew (S := fun w' => Mem w0 w' _) (by kernel_rfl) (HM.out.drew) (fun hS => ?_)
          replace HM := Lib.hid HM.out.drew
          replace HB := HM.out.below
          refine tk 0 18 ?_
          refine tkv 1 19 (.int .i64 (pr : Nat)) rfl (yields_num rfl rfl (fun _ h => h) (by (first | ((repeat (first | with_reducible exact List.Mem.head _ | with_reducible apply List.Mem.tail)); done) | ((repeat (first | exact List.Mem.head _ | apply List.Mem.tail)); done))) (HV_num _ _ _ _ _ 8 _ rfl) (by kernel_rfl)) ?_
          refine tk 2 20 ?_
          refine tk 3 21 ?_
          refine tk 4 22 ?_
          refine tkv 5 23 (.int .i64 (tt : Nat)) rfl (yields_num rfl rfl (fun _ h => h) (by (first | ((repeat (first | with_reducible exact List.Mem.head _ | with_reducible apply List.Mem.tail)); done) | ((repeat (first | exact List.Mem.head _ | apply List.Mem.tail)); done))) (HV_num _ _ _ _ _ 2 _ rfl) (by kernel_rfl)) ?_
          refine tk 6 24 ?_
          refine tk 7 25 ?_
          refine tk 8 26 ?_
          refine tk 9 27 ?_
          refine tk 10 28 ?_
          refine tk 11 29 ?_
          refine tk 12 30 ?_
          refine tk 13 31 ?_
          refine tk 14 32 ?_
          refine tk 15 33 ?_
          refine tk 16 34 ?_
          refine tk 17 35 ?_
          refine tk 18 36 ?_
          refine tk 19 37 ?_
          refine tk 20 38 ?_
          refine tk 21 2 ?_
          refine wpAnyH_done (by kernel_rfl) ?_ _
          clear hS
          go_wp2_with (first | refine m_rd ?_ | (refine m_wr ?_; clear HM HB; intro w b HM HB; try clear b) | (refine m_ap ?_; clear HM HB; intro w Aq cq HM HB) | fail)
          go_ret
          rw [← lateI g k]
          exact ⟨rfl, HB⟩
        · rw [decide_eq_false (show ¬ (pr = 44 ∧ 48 ≤ tt ∧ 8 ≤ 256 * gb l 42 + gb l 43) from fun h => h8 h.2.1)]
          have e3 : (((pr : Nat) : Int) == 44) = true := by rw [h3]; rfl
          have e8 : decide ((48 : Int) ≤ ((tt : Nat) : Int)) = false := by simp; omega
          clear h3 h8 h40
          have HM := Lib.hid (Mem.start w0)
          have HB := HM.out.below
          go_enter Try.func34, Try.ntmps34
          go_wp2_with (first | refine m_rd ?_ | (refine m_wr ?_; clear HM HB; intro w b HM HB; try clear b) | (refine m_ap ?_; clear HM HB; intro w Aq cq HM HB) | fail)
          refine (HP.out _ (HR.out.below HB)).mono ?_
          rintro e w ⟨rfl, hb⟩
          replace HM := Lib.hid (HM.out.call hb)
          replace HB := HM.out.below
          clear hb
          go_wp2_with (first | refine m_rd ?_ | (refine m_wr ?_; clear HM HB; intro w b HM HB; try clear b) | (refine m_ap ?_; clear HM HB; intro w Aq cq HM HB) | fail)
          try simp only [Act.put, List.setIfInBounds_toArray, List.set_cons_zero, List.set_cons_succ]
          refine wp_region_held_drew (S := fun w' => Mem w0 w' _) (by kernel_rfl) (HM.out.drew) (fun hS => ?_)
          replace HM := Lib.hid HM.out.drew
          replace HB := HM.out.below
          refine tk 0 18 ?_
          refine tkv 1 19 (.int .i64 (pr : Nat)) rfl (yields_num rfl rfl (fun _ h => h) (by (first | ((repeat (first | with_reducible exact List.Mem.head _ | with_reducible apply List.Mem.tail)); done) | ((repeat (first | exact List.Mem.head _ | apply List.Mem.tail)); done))) (HV_num _ _ _ _ _ 8 _ rfl) (by kernel_rfl)) ?_
          refine tk 2 20 ?_
          refine tk 3 21 ?_
          refine tk 4 22 ?_
          refine tkv 5 23 (.int .i64 (tt : Nat)) rfl (yields_num rfl rfl (fun _ h => h) (by (first | ((repeat (first | with_reducible exact List.Mem.head _ | with_reducible apply List.Mem.tail)); done) | ((repeat (first | exact List.Mem.head _ | apply List.Mem.tail)); done))) (HV_num _ _ _ _ _ 2 _ rfl) (by kernel_rfl)) ?_
          refine tk 6 24 ?_
          refine tk 7 25 ?_
          refine tk 8 26 ?_
          refine tku 9 27 ?_
          refine tku 10 28 ?_
          refine tku 11 29 ?_
          refine tku 12 30 ?_
          refine tku 13 31 ?_
          refine tku 14 32 ?_
          refine tku 15 33 ?_
          refine tku 16 34 ?_
          refine tku 17 35 ?_
          refine tku 18 36 ?_
          refine tku 19 37 ?_
          refine tk 20 38 ?_
          refine tk 21 2 ?_
          refine wpAnyH_done (by kernel_rfl) ?_ _
          clear hS
          go_wp2_with (first | refine m_rd ?_ | (refine m_wr ?_; clear HM HB; intro w b HM HB; try clear b) | (refine m_ap ?_; clear HM HB; intro w Aq cq HM HB) | fail)
          go_ret
          exact ⟨rfl, HB⟩
      · rw [decide_eq_false (show ¬ (pr = 44 ∧ 48 ≤ tt ∧ 8 ≤ 256 * gb l 42 + gb l 43) from fun h => h3 h.1)]
        have e3 : (((pr : Nat) : Int) == 44) = false := beq_false_of_ne (by omega)
        clear h3 h40
        have HM := Lib.hid (Mem.start w0)
        have HB := HM.out.below
        go_enter Try.func34, Try.ntmps34
        go_wp2_with (first | refine m_rd ?_ | (refine m_wr ?_; clear HM HB; intro w b HM HB; try clear b) | (refine m_ap ?_; clear HM HB; intro w Aq cq HM HB) | fail)
        refine (HP.out _ (HR.out.below HB)).mono ?_
        rintro e w ⟨rfl, hb⟩
        replace HM := Lib.hid (HM.out.call hb)
        replace HB := HM.out.below
        clear hb
        go_wp2_with (first | refine m_rd ?_ | (refine m_wr ?_; clear HM HB; intro w b HM HB; try clear b) | (refine m_ap ?_; clear HM HB; intro w Aq cq HM HB) | fail)
        try simp only [Act.put, List.setIfInBounds_toArray, List.set_cons_zero, List.set_cons_succ]
        refine wp_region_held_drew (S := fun w' => Mem w0 w' _) (by kernel_rfl) (HM.out.drew) (fun hS => ?_)
        replace HM := Lib.hid HM.out.drew
        replace HB := HM.out.below
        refine tk 0 18 ?_
        refine tkv 1 19 (.int .i64 (pr : Nat)) rfl (yields_num rfl rfl (fun _ h => h) (by (first | ((repeat (first | with_reducible exact List.Mem.head _ | with_reducible apply List.Mem.tail)); done) | ((repeat (first | exact List.Mem.head _ | apply List.Mem.tail)); done))) (HV_num _ _ _ _ _ 8 _ rfl) (by kernel_rfl)) ?_
        refine tk 2 20 ?_
        refine tk 3 21 ?_
        refine tku 4 22 ?_
        refine tku 5 23 ?_
        refine tku 6 24 ?_
        refine tk 7 25 ?_
        refine tk 8 26 ?_
        refine tku 9 27 ?_
        refine tku 10 28 ?_
        refine tku 11 29 ?_
        refine tku 12 30 ?_
        refine tku 13 31 ?_
        refine tku 14 32 ?_
        refine tku 15 33 ?_
        refine tku 16 34 ?_
        refine tku 17 35 ?_
        refine tku 18 36 ?_
        refine tku 19 37 ?_
        refine tk 20 38 ?_
        refine tk 21 2 ?_
        refine wpAnyH_done (by kernel_rfl) ?_ _
        clear hS
        go_wp2_with (first | refine m_rd ?_ | (refine m_wr ?_; clear HM HB; intro w b HM HB; try clear b) | (refine m_ap ?_; clear HM HB; intro w Aq cq HM HB) | fail)
        go_ret
        exact ⟨rfl, HB⟩
  · have hq : (((badP l : Nat) : Int) != 0) = true := bne_iff_ne.2 (by omega)
    rw [lateB_is l False (by constructor; exact fun h => hb h.1; exact fun h => h.elim), decide_eq_false (fun h => h)]
    generalize headP l = hv at HP HC
    generalize badP l = bq at HP hq
    clear hb
    have HM := Lib.hid (Mem.start w0)
    have HB := HM.out.below
    go_enter Try.func34, Try.ntmps34
    go_wp2_with (first | refine m_rd ?_ | (refine m_wr ?_; clear HM HB; intro w b HM HB; try clear b) | (refine m_ap ?_; clear HM HB; intro w Aq cq HM HB) | fail)
    refine (HP.out _ (HR.out.below HB)).mono ?_
    rintro e w ⟨rfl, hb⟩
    replace HM := Lib.hid (HM.out.call hb)
    replace HB := HM.out.below
    clear hb
    go_wp2_with (first | refine m_rd ?_ | (refine m_wr ?_; clear HM HB; intro w b HM HB; try clear b) | (refine m_ap ?_; clear HM HB; intro w Aq cq HM HB) | fail)
    go_ret
    exact ⟨rfl, HB⟩
end Go.Proofs.Ytkfjobanbnokoaa.Pk
