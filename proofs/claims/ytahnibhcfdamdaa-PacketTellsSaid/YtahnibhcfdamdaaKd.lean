/- Packets of either family: whether one tells an error. -/
import Derived.Test.YtahnibhcfdamdaaKc
set_option linter.unusedSimpArgs false
set_option linter.unusedVariables false
set_option maxRecDepth 100000
namespace Go.Proofs.Ytahnibhcfdamdaa.Pk
open Go.RowKit Go.Proofs.YtahnibhcfdamdaaW.PrintWords Go.Proofs.Ytahnibhcfdamdaa.Bs Go.Proofs.Ytahnibhcfdamdaa.Av Go.Proofs.Ytahnibhcfdamdaa.Ad Go.Proofs.Ytahnibhcfdamdaa.Hd Go.Proofs.Ytahnibhcfdamdaa.Mm Go.Proofs.Ytahnibhcfdamdaa.Le Go.Proofs.Ytahnibhcfdamdaa.Ip Go.Proofs.Ytahnibhcfdamdaa.En Go.Proofs.Ytahnibhcfdamdaa.Co Go.Proofs.Ytahnibhcfdamdaa.Os Go.Proofs.Ytahnibhcfdamdaa.Is


def errB (l : List UInt8) : Bool := decide (badP l = 0 ∧ sizP l < totP l ∧ frgP l = 0 ∧ proP l = (if is4 l then 1 else 58)) && failB (proP l) (gb l (sizP l))
section
variable {ops : Array Oper} {op : Oper} {a : Act} {w0 : World} {es : List Ent}
theorem yields_num {x : Operand} (ho : op.op = .load 3 x) {b o : Nat} (hx : a.eval x = .pointer (some ⟨b, o, none⟩)) {S : World → Prop} (hS : ∀ w', S w' → Mem w0 w' es) {cs : Array Value} {T : TypeId} (m : Ent.blk b cs T ∈ es)
    {v : Value} (hv : cs[o]? = some v) (hw : Region.wanted op (yielded ops a.tmps) = true) : YieldsIf Try.prog ops S op v a :=
  .inl ⟨hw, fun w' h => by
    have hc := (blk_cell ((hS w' h).get m) o).trans hv
    have hr := run_loadI w' _ _ hc
    simp [execOp, ho, resolve, hx, hr, Result.andThen, Instr.loadAt, Instr.sureAddr]⟩
end
theorem errB_no (l : List UInt8) (h : ¬ (badP l = 0 ∧ sizP l < totP l ∧ frgP l = 0 ∧ proP l = (if is4 l then 1 else 58))) : errB l = false := by unfold errB; rw [decide_eq_false h]; rfl
theorem errB_yes (l : List UInt8) (h : badP l = 0 ∧ sizP l < totP l ∧ frgP l = 0 ∧ proP l = (if is4 l then 1 else 58)) : errB l = failB (proP l) (gb l (sizP l)) := by unfold errB; rw [decide_eq_true h]; rfl
set_option maxHeartbeats 2000000 in
theorem isError_any (A : Option Addr) (c : Nat) (l : List UInt8) (w0 : World) (hr : RB w0 (.slice A l.length c) l) :
    Calls Try.prog 52 #[.slice A l.length c] w0 fun e w' => e = .returned (.bool (errB l)) ∧ Below w0.heap.size w0 w' := by
  have hl := hr.len
  have HR := Lib.hid hr
  clear hr
  have HP := Lib.hid (parseP_any (.slice A l.length c) l)
  have HC := Lib.hid (cells_headP l)
  by_cases hb : badP l = 0
  · obtain ⟨v, sz, tt, cl, ident, fl, fr, tl, pr, x, y, K⟩ := known l hb
    have HX := Lib.hid K.lx
    have HY := Lib.hid K.ly
    have hd := K.low
    have hsm := K.small
    have ht := K.tot
    have hz := K.siz
    have hf := K.frg
    have hp := K.pro
    have hv : (v = 4 ∧ is4 l) ∨ (v = 6 ∧ ¬ is4 l) := K.fam.imp id (fun h => ⟨h.1, h.2.1⟩)
    rw [hb, K.head] at HP
    rw [K.head] at HC
    clear K
    obtain ⟨ad, rfl⟩ := HR.out.some (by omega)
    by_cases h1 : sz < tt
    · by_cases h2 : fr = 0
      · have e1 : ¬ tt ≤ sz := by omega
        have e2 : (((fr : Nat) : Int) != 0) = false := by rw [h2]; rfl
        have hx0 := HR.out.byte sz (by omega)
        simp only [gb_getD] at hx0
        have hg := gb_lt l sz
        rcases hv with ⟨hv4, h4⟩ | ⟨hv4, h4⟩
        · by_cases h3 : pr = 1
          · have e3 : errB l = failB pr (gb l sz) := by rw [errB_yes l ⟨hb, by rw [← hz, ← ht]; exact h1, by rw [← hf]; exact h2, by rw [if_pos h4, ← hp]; exact h3⟩, ← hp, ← hz]
            rw [e3]
            clear e3 hb ht hz hf hp h4
            generalize gb l sz = g at hx0 hg ⊢
            have HW := Lib.hid (fail_any v sz tt cl ident fl fr tl pr g v v x y hg HX.out HY.out)
            have e4 : (((v : Nat) : Int) == 6) = false := by rw [hv4]; rfl
            clear hv4
            have e3 : (((pr : Nat) : Int) == 1) = true := by rw [h3]; rfl
            generalize failB pr g = r at HW ⊢
            clear h2 h3
            have HM := Lib.hid (Mem.start w0)
            have HB := HM.out.below
            go_enter Try.func52, Try.ntmps52
            go_wp2_with (first | refine m_rd ?_ | (refine m_wr ?_; clear HM HB; intro w b HM HB; try clear b) | (refine m_ap ?_; clear HM HB; intro w Aq cq HM HB) | fail)
            refine (HP.out _ (HR.out.below HB)).mono ?_
            rintro e w ⟨rfl, hb⟩
            replace HM := Lib.hid (HM.out.call hb)
            replace HB := HM.out.below
            clear hb
            go_wp2_with (first | refine m_rd ?_ | (refine m_wr ?_; clear HM HB; intro w b HM HB; try clear b) | (refine m_ap ?_; clear HM HB; intro w Aq cq HM HB) | fail)
            try simp only [Act.put, List.setIfInBounds_toArray, List.set_cons_zero, List.set_cons_succ]
            refine wp_region_held_drew (S := fun w' => Mem w0 w' _) (by kernel_rfl) (HM.out.drew) (fun hS => ?_)
            replace HM := Lib.hid HM.out.drew
            replace HB := HM.out.below
            refine tk 0 28 ?_
            refine tkv 1 29 (.int .i64 (pr : Nat)) rfl (yields_num rfl rfl (fun _ h => h) (by ((repeat (first | exact List.Mem.head _ | apply List.Mem.tail)); done)) (HV_num _ _ _ _ _ 8 _ rfl) (by kernel_rfl)) ?_
            refine tk 2 30 ?_
            refine tk 3 31 ?_
            refine tk 4 32 ?_
            refine tkv 5 33 (.agg _) rfl (yields_own rfl rfl (fun _ h => h) (by ((repeat (first | exact List.Mem.head _ | apply List.Mem.tail)); done)) Try.underlying31 rfl (info_HV _ _ _ _ _ rfl HX.out HY.out) (by kernel_rfl)) ?_
            refine tk 6 34 ?_
            refine tk 7 35 ?_
            refine tkv 8 36 (.int .i64 (sz : Nat)) rfl (yields_num rfl rfl (fun _ h => h) (by ((repeat (first | exact List.Mem.head _ | apply List.Mem.tail)); done)) (HV_num _ _ _ _ _ 1 _ rfl) (by kernel_rfl)) ?_
            refine tk 9 37 ?_
            refine tk 10 38 ?_
            refine rone 11 rfl fun K' hK => ?_
            go_simp
            refine (HW.out _).mono ?_
            rintro e w ⟨rfl, hb⟩
            replace HM := Lib.hid (HM.out.call hb)
            replace HB := HM.out.below
            clear hb
            refine hK.out _ _ (HM.out) (fun hS2 => ?_)
            clear hS hK
            have hS := hS2
            clear hS2
            try simp only [Act.put, List.setIfInBounds_toArray, List.set_cons_zero, List.set_cons_succ]
            refine tk 12 40 ?_
            refine tk 13 2 ?_
            refine wpAnyH_done (by kernel_rfl) ?_ _
            clear hS
            go_wp2_with (first | refine m_rd ?_ | (refine m_wr ?_; clear HM HB; intro w b HM HB; try clear b) | (refine m_ap ?_; clear HM HB; intro w Aq cq HM HB) | fail)
            go_ret
            exact ⟨rfl, HB⟩
          · have e3 : errB l = false := errB_no l (by rw [if_pos h4, ← hp]; exact fun h => h3 h.2.2.2)
            rw [e3]
            clear e3 hb ht hz hf hp h4
            have e4 : (((v : Nat) : Int) == 6) = false := by rw [hv4]; rfl
            clear hv4
            have e3 : (((pr : Nat) : Int) == 1) = false := beq_false_of_ne (by omega)
            generalize gb l sz = g at hx0 hg
            clear h2 h3
            have HM := Lib.hid (Mem.start w0)
            have HB := HM.out.below
            go_enter Try.func52, Try.ntmps52
            go_wp2_with (first | refine m_rd ?_ | (refine m_wr ?_; clear HM HB; intro w b HM HB; try clear b) | (refine m_ap ?_; clear HM HB; intro w Aq cq HM HB) | fail)
            refine (HP.out _ (HR.out.below HB)).mono ?_
            rintro e w ⟨rfl, hb⟩
            replace HM := Lib.hid (HM.out.call hb)
            replace HB := HM.out.below
            clear hb
            go_wp2_with (first | refine m_rd ?_ | (refine m_wr ?_; clear HM HB; intro w b HM HB; try clear b) | (refine m_ap ?_; clear HM HB; intro w Aq cq HM HB) | fail)
            try simp only [Act.put, List.setIfInBounds_toArray, List.set_cons_zero, List.set_cons_succ]
            refine wp_region_held_drew (S := fun w' => Mem w0 w' _) (by kernel_rfl) (HM.out.drew) (fun hS => ?_)
            replace HM := Lib.hid HM.out.drew
            replace HB := HM.out.below
            refine tk 0 28 ?_
            refine tkv 1 29 (.int .i64 (pr : Nat)) rfl (yields_num rfl rfl (fun _ h => h) (by ((repeat (first | exact List.Mem.head _ | apply List.Mem.tail)); done)) (HV_num _ _ _ _ _ 8 _ rfl) (by kernel_rfl)) ?_
            refine tk 2 30 ?_
            refine tk 3 31 ?_
            refine tk 4 32 ?_
            refine tku 5 33 ?_
            refine tku 6 34 ?_
            refine tku 7 35 ?_
            refine tku 8 36 ?_
            refine tku 9 37 ?_
            refine tku 10 38 ?_
            refine tku 11 39 ?_
            refine tk 12 40 ?_
            refine tk 13 2 ?_
            refine wpAnyH_done (by kernel_rfl) ?_ _
            clear hS
            go_wp2_with (first | refine m_rd ?_ | (refine m_wr ?_; clear HM HB; intro w b HM HB; try clear b) | (refine m_ap ?_; clear HM HB; intro w Aq cq HM HB) | fail)
            go_ret
            exact ⟨rfl, HB⟩
        · by_cases h3 : pr = 58
          · have e3 : errB l = failB pr (gb l sz) := by rw [errB_yes l ⟨hb, by rw [← hz, ← ht]; exact h1, by rw [← hf]; exact h2, by rw [if_neg h4, ← hp]; exact h3⟩, ← hp, ← hz]
            rw [e3]
            clear e3 hb ht hz hf hp h4
            generalize gb l sz = g at hx0 hg ⊢
            have HW := Lib.hid (fail_any v sz tt cl ident fl fr tl pr g v v x y hg HX.out HY.out)
            have e4 : (((v : Nat) : Int) == 6) = true := by rw [hv4]; rfl
            clear hv4
            have e3 : (((pr : Nat) : Int) == 58) = true := by rw [h3]; rfl
            generalize failB pr g = r at HW ⊢
            clear h2 h3
            have HM := Lib.hid (Mem.start w0)
            have HB := HM.out.below
            go_enter Try.func52, Try.ntmps52
            go_wp2_with (first | refine m_rd ?_ | (refine m_wr ?_; clear HM HB; intro w b HM HB; try clear b) | (refine m_ap ?_; clear HM HB; intro w Aq cq HM HB) | fail)
            refine (HP.out _ (HR.out.below HB)).mono ?_
            rintro e w ⟨rfl, hb⟩
            replace HM := Lib.hid (HM.out.call hb)
            replace HB := HM.out.below
            clear hb
            go_wp2_with (first | refine m_rd ?_ | (refine m_wr ?_; clear HM HB; intro w b HM HB; try clear b) | (refine m_ap ?_; clear HM HB; intro w Aq cq HM HB) | fail)
            try simp only [Act.put, List.setIfInBounds_toArray, List.set_cons_zero, List.set_cons_succ]
            refine wp_region_held_drew (S := fun w' => Mem w0 w' _) (by kernel_rfl) (HM.out.drew) (fun hS => ?_)
            replace HM := Lib.hid HM.out.drew
            replace HB := HM.out.below
            refine tk 0 28 ?_
            refine tkv 1 29 (.int .i64 (pr : Nat)) rfl (yields_num rfl rfl (fun _ h => h) (by ((repeat (first | exact List.Mem.head _ | apply List.Mem.tail)); done)) (HV_num _ _ _ _ _ 8 _ rfl) (by kernel_rfl)) ?_
            refine tk 2 30 ?_
            refine tk 3 31 ?_
            refine tk 4 32 ?_
            refine tkv 5 33 (.agg _) rfl (yields_own rfl rfl (fun _ h => h) (by ((repeat (first | exact List.Mem.head _ | apply List.Mem.tail)); done)) Try.underlying31 rfl (info_HV _ _ _ _ _ rfl HX.out HY.out) (by kernel_rfl)) ?_
            refine tk 6 34 ?_
            refine tk 7 35 ?_
            refine tkv 8 36 (.int .i64 (sz : Nat)) rfl (yields_num rfl rfl (fun _ h => h) (by ((repeat (first | exact List.Mem.head _ | apply List.Mem.tail)); done)) (HV_num _ _ _ _ _ 1 _ rfl) (by kernel_rfl)) ?_
            refine tk 9 37 ?_
            refine tk 10 38 ?_
            refine rone 11 rfl fun K' hK => ?_
            go_simp
            refine (HW.out _).mono ?_
            rintro e w ⟨rfl, hb⟩
            replace HM := Lib.hid (HM.out.call hb)
            replace HB := HM.out.below
            clear hb
            refine hK.out _ _ (HM.out) (fun hS2 => ?_)
            clear hS hK
            have hS := hS2
            clear hS2
            try simp only [Act.put, List.setIfInBounds_toArray, List.set_cons_zero, List.set_cons_succ]
            refine tk 12 40 ?_
            refine tk 13 2 ?_
            refine wpAnyH_done (by kernel_rfl) ?_ _
            clear hS
            go_wp2_with (first | refine m_rd ?_ | (refine m_wr ?_; clear HM HB; intro w b HM HB; try clear b) | (refine m_ap ?_; clear HM HB; intro w Aq cq HM HB) | fail)
            go_ret
            exact ⟨rfl, HB⟩
          · have e3 : errB l = false := errB_no l (by rw [if_neg h4, ← hp]; exact fun h => h3 h.2.2.2)
            rw [e3]
            clear e3 hb ht hz hf hp h4
            have e4 : (((v : Nat) : Int) == 6) = true := by rw [hv4]; rfl
            clear hv4
            have e3 : (((pr : Nat) : Int) == 58) = false := beq_false_of_ne (by omega)
            generalize gb l sz = g at hx0 hg
            clear h2 h3
            have HM := Lib.hid (Mem.start w0)
            have HB := HM.out.below
            go_enter Try.func52, Try.ntmps52
            go_wp2_with (first | refine m_rd ?_ | (refine m_wr ?_; clear HM HB; intro w b HM HB; try clear b) | (refine m_ap ?_; clear HM HB; intro w Aq cq HM HB) | fail)
            refine (HP.out _ (HR.out.below HB)).mono ?_
            rintro e w ⟨rfl, hb⟩
            replace HM := Lib.hid (HM.out.call hb)
            replace HB := HM.out.below
            clear hb
            go_wp2_with (first | refine m_rd ?_ | (refine m_wr ?_; clear HM HB; intro w b HM HB; try clear b) | (refine m_ap ?_; clear HM HB; intro w Aq cq HM HB) | fail)
            try simp only [Act.put, List.setIfInBounds_toArray, List.set_cons_zero, List.set_cons_succ]
            refine wp_region_held_drew (S := fun w' => Mem w0 w' _) (by kernel_rfl) (HM.out.drew) (fun hS => ?_)
            replace HM := Lib.hid HM.out.drew
            replace HB := HM.out.below
            refine tk 0 28 ?_
            refine tkv 1 29 (.int .i64 (pr : Nat)) rfl (yields_num rfl rfl (fun _ h => h) (by ((repeat (first | exact List.Mem.head _ | apply List.Mem.tail)); done)) (HV_num _ _ _ _ _ 8 _ rfl) (by kernel_rfl)) ?_
            refine tk 2 30 ?_
            refine tk 3 31 ?_
            refine tk 4 32 ?_
            refine tku 5 33 ?_
            refine tku 6 34 ?_
            refine tku 7 35 ?_
            refine tku 8 36 ?_
            refine tku 9 37 ?_
            refine tku 10 38 ?_
            refine tku 11 39 ?_
            refine tk 12 40 ?_
            refine tk 13 2 ?_
            refine wpAnyH_done (by kernel_rfl) ?_ _
            clear hS
            go_wp2_with (first | refine m_rd ?_ | (refine m_wr ?_; clear HM HB; intro w b HM HB; try clear b) | (refine m_ap ?_; clear HM HB; intro w Aq cq HM HB) | fail)
            go_ret
            exact ⟨rfl, HB⟩
      · have e1 : ¬ tt ≤ sz := by omega
        have e2 : (((fr : Nat) : Int) != 0) = true := bne_iff_ne.2 (by omega)
        have e3 : errB l = false := errB_no l (by rw [← hf]; exact fun h => h2 h.2.2.1)
        rw [e3]
        clear e3 hb ht hz hf hp hv h2
        have HM := Lib.hid (Mem.start w0)
        have HB := HM.out.below
        go_enter Try.func52, Try.ntmps52
        go_wp2_with (first | refine m_rd ?_ | (refine m_wr ?_; clear HM HB; intro w b HM HB; try clear b) | (refine m_ap ?_; clear HM HB; intro w Aq cq HM HB) | fail)
        refine (HP.out _ (HR.out.below HB)).mono ?_
        rintro e w ⟨rfl, hb⟩
        replace HM := Lib.hid (HM.out.call hb)
        replace HB := HM.out.below
        clear hb
        go_wp2_with (first | refine m_rd ?_ | (refine m_wr ?_; clear HM HB; intro w b HM HB; try clear b) | (refine m_ap ?_; clear HM HB; intro w Aq cq HM HB) | fail)
        go_ret
        exact ⟨rfl, HB⟩
    · have e1 : tt ≤ sz := by omega
      have e3 : errB l = false := errB_no l (by rw [← hz, ← ht]; exact fun h => h1 h.2.1)
      rw [e3]
      clear e3 hb ht hz hf hp hv
      have HM := Lib.hid (Mem.start w0)
      have HB := HM.out.below
      go_enter Try.func52, Try.ntmps52
      go_wp2_with (first | refine m_rd ?_ | (refine m_wr ?_; clear HM HB; intro w b HM HB; try clear b) | (refine m_ap ?_; clear HM HB; intro w Aq cq HM HB) | fail)
      refine (HP.out _ (HR.out.below HB)).mono ?_
      rintro e w ⟨rfl, hb⟩
      replace HM := Lib.hid (HM.out.call hb)
      replace HB := HM.out.below
      clear hb
      go_wp2_with (first | refine m_rd ?_ | (refine m_wr ?_; clear HM HB; intro w b HM HB; try clear b) | (refine m_ap ?_; clear HM HB; intro w Aq cq HM HB) | fail)
      go_ret
      exact ⟨rfl, HB⟩
  · have hq : (((badP l : Nat) : Int) != 0) = true := bne_iff_ne.2 (by omega)
    rw [errB_no l (fun h => hb h.1)]
    generalize headP l = hv at HP HC
    generalize badP l = bq at HP hq
    clear hb
    have HM := Lib.hid (Mem.start w0)
    have HB := HM.out.below
    go_enter Try.func52, Try.ntmps52
    go_wp2_with (first | refine m_rd ?_ | (refine m_wr ?_; clear HM HB; intro w b HM HB; try clear b) | (refine m_ap ?_; clear HM HB; intro w Aq cq HM HB) | fail)
    refine (HP.out _ (HR.out.below HB)).mono ?_
    rintro e w ⟨rfl, hb⟩
    replace HM := Lib.hid (HM.out.call hb)
    replace HB := HM.out.below
    clear hb
    go_wp2_with (first | refine m_rd ?_ | (refine m_wr ?_; clear HM HB; intro w b HM HB; try clear b) | (refine m_ap ?_; clear HM HB; intro w Aq cq HM HB) | fail)
    go_ret
    exact ⟨rfl, HB⟩
end Go.Proofs.Ytahnibhcfdamdaa.Pk
