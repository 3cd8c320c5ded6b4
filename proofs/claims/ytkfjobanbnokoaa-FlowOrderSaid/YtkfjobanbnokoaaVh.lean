/- Layer 54: the document's flow of any bytes. -/
import Derived.Test.YtkfjobanbnokoaaVg
set_option linter.unusedSimpArgs false
set_option linter.unusedVariables false
set_option linter.unusedSectionVars false
set_option maxRecDepth 100000
namespace Go.Proofs.Ytkfjobanbnokoaa.Fw
open Go.RowKit Go.Proofs.YtkfjobanbnokoaaW.PrintWords Go.Proofs.Ytkfjobanbnokoaa.Bs Go.Proofs.Ytkfjobanbnokoaa.Gm
open Go.Proofs.Ytkfjobanbnokoaa.Hd (HV) 
open Go.Proofs.Ytkfjobanbnokoaa.Ip (gb gb_lt)
open Go.Proofs.Ytkfjobanbnokoaa.Av (AV)
open Go.Proofs.Ytkfjobanbnokoaa.Pk (badP headP verP sizP totP proP srcP dstP wholeB lateB Known known)

theorem join8' {g k : Nat} (hg : g < 256) (hk : k < 256) : IntKind.i64.wrap (IntKind.i64.wrap (256 * IntKind.i64.wrap (g : Int)) + IntKind.i64.wrap (k : Int)) = 256 * (g : Int) + (k : Int) := by
  have e1 : IntKind.i64.wrap (g : Int) = g := by rw [IntKind.wrap_i64]; omega
  have e2 : IntKind.i64.wrap (k : Int) = k := by rw [IntKind.wrap_i64]; omega
  have e3 : IntKind.i64.wrap (256 * (g : Int)) = 256 * (g : Int) := by rw [IntKind.wrap_i64]; omega
  rw [e1, e2, e3, IntKind.wrap_i64]
  omega
theorem built_zR : Built 32 #[] (.agg (flowC zF)) := fun W => by kernel_rfl
set_option maxHeartbeats 1000000 in
theorem refOf_bad {A : Option Addr} {c : Nat} {l : List UInt8} {w0 : World} (hr : RB w0 (.slice A l.length c) l) (hb : badP l ≠ 0) : Calls Try.prog 9 #[.slice A l.length c] w0 fun e w' => e = .returned (.tuple #[.agg (flowC zF), .int .i64 (badP l : Nat)]) ∧ Below w0.heap.size w0 w' := by
  have HR := Lib.hid hr
  have HP := Lib.hid (Pk.refParseP_any (.slice A l.length c) l)
  have HH := Lib.hid (headP_cells l)
  have AL1 := Lib.hid zeroRFlow
  have AL2 := Lib.hid zeroHead
  have BH1 := Lib.hid built_zR
  have HZ := Lib.hid (cellsRFlow zF)
  have e1 : (((badP l : Nat) : Int) != 0) = true := bne_iff_ne.2 (by omega)
  generalize badP l = bb at *
  generalize headP l = hh at *
  generalize flowC zF = zf at *
  clear hb hr
  have HM := Lib.hid (Mem.start w0)
  have HB := HM.out.below
  go_enter Try.func9, Try.ntmps9
  go_wp2_with (first | refine m_rd ?_ | (refine m_wr ?_; clear HM HB; intro w b HM HB; try clear b) | fail)
  refine (HP.out _ (HR.out.below HB)).mono ?_
  rintro e w ⟨rfl, hb⟩
  replace HM := Lib.hid (HM.out.call hb)
  replace HB := HM.out.below
  clear hb
  go_wp2_with (first | refine m_rd ?_ | (refine m_wr ?_; clear HM HB; intro w b HM HB; try clear b) | fail)
  apply m_ret_c1
  next => exact rfl
  next => exact rfl
  next => exact rfl
  next => exact HM
  next => (first | ((repeat (first | with_reducible exact List.Mem.head _ | with_reducible apply List.Mem.tail)); done) | ((repeat (first | exact List.Mem.head _ | apply List.Mem.tail)); done))
  next => exact Try.underlying32
  next => rfl
  exact ⟨rfl, HB⟩
set_option maxHeartbeats 1000000 in
theorem refOf_form {A : Option Addr} {c : Nat} {l : List UInt8} {w0 : World} (hr : RB w0 (.slice A l.length c) l) (hb : badP l = 0) (hw : wholeB l = false) : Calls Try.prog 9 #[.slice A l.length c] w0 fun e w' => e = .returned (.tuple #[.agg (flowC zF), .int .i64 5]) ∧ Below w0.heap.size w0 w' := by
  have HR := Lib.hid hr
  have HP := Lib.hid (Pk.refParseP_any (.slice A l.length c) l)
  have HW := Lib.hid (Pk.refWhole_any A c l)
  rw [hb] at HP
  rw [hw] at HW
  have HH := Lib.hid (headP_cells l)
  have AL1 := Lib.hid zeroRFlow
  have AL2 := Lib.hid zeroHead
  have BH1 := Lib.hid built_zR
  have HZ := Lib.hid (cellsRFlow zF)
  generalize headP l = hh at *
  generalize flowC zF = zf at *
  clear hb hr hw
  have HM := Lib.hid (Mem.start w0)
  have HB := HM.out.below
  go_enter Try.func9, Try.ntmps9
  go_wp2_with (first | refine m_rd ?_ | (refine m_wr ?_; clear HM HB; intro w b HM HB; try clear b) | fail)
  refine (HP.out _ (HR.out.below HB)).mono ?_
  rintro e w ⟨rfl, hb⟩
  replace HM := Lib.hid (HM.out.call hb)
  replace HB := HM.out.below
  clear hb
  go_wp2_with (first | refine m_rd ?_ | (refine m_wr ?_; clear HM HB; intro w b HM HB; try clear b) | fail)
  refine (HW.out _ (HR.out.below HB)).mono ?_
  rintro e w ⟨rfl, hb⟩
  replace HM := Lib.hid (HM.out.call hb)
  replace HB := HM.out.below
  clear hb
  go_wp2_with (first | refine m_rd ?_ | (refine m_wr ?_; clear HM HB; intro w b HM HB; try clear b) | fail)
  apply m_ret_c1
  next => exact rfl
  next => exact rfl
  next => exact rfl
  next => exact HM
  next => (first | ((repeat (first | with_reducible exact List.Mem.head _ | with_reducible apply List.Mem.tail)); done) | ((repeat (first | exact List.Mem.head _ | apply List.Mem.tail)); done))
  next => exact Try.underlying32
  next => rfl
  exact ⟨rfl, HB⟩
set_option maxHeartbeats 10000000 in
theorem refOf_none {A : Option Addr} {c n v pr sz : Nat} {l : List UInt8} {hv cf sC dC : Array Value} {lt : Bool} {w0 : World} (K : OfK l n hv cf v pr sz sC dC) (CV6 : Hid (hv[2]? = some (.int .i64 n))) (hr : RB w0 (.slice A l.length c) l) (HP : Hid (∀ w, RB w (.slice A n c) l → Calls Try.prog 32 #[.slice A n c] w fun e w' => e = .returned (.tuple #[.agg hv, .int .i64 0]) ∧ Below w.heap.size w w'))
    (HW : Hid (∀ w, RB w (.slice A n c) l → Calls Try.prog 33 #[.slice A n c] w fun e w' => e = .returned (.bool true) ∧ Below w.heap.size w w')) (HT : Hid (∀ w, RB w (.slice A n c) l → Calls Try.prog 34 #[.slice A n c] w fun e w' => e = .returned (.bool lt) ∧ Below w.heap.size w w'))
    (hA : 0 < n) (hp : ((pr == 6 || pr == 17) && (!lt) && decide (4 ≤ n - sz)) = false) : Calls Try.prog 9 #[.slice A n c] w0 fun e w' => e = .returned (.tuple #[.agg cf, .int .i64 0]) ∧ Below w0.heap.size w0 w' := by
  have hc : n ≤ c := by obtain ⟨_, _, e, h, _⟩ := hr; injection e with e1 e2 e3; subst e3; rw [K.len] at h; exact h
  have hn : n ≤ 9223372036854775807 := by have := hr.len; rw [K.len] at this; exact this
  obtain ⟨ad, rfl⟩ := hr.some (by rw [K.len]; exact hA)
  rw [K.len] at hr
  have HR := Lib.hid hr
  have HH := Lib.hid K.cells
  have AL1 := Lib.hid zeroRFlow
  have AL2 := Lib.hid zeroHead
  have BH1 := Lib.hid K.b2
  have CV1 := Lib.hid K.v0
  have CV2 := Lib.hid K.v8
  have CV3 := Lib.hid K.v1
  have PT1 := Lib.hid K.s
  have PT2 := Lib.hid K.d
  have HZ := Lib.hid K.c2
  have hsz := K.sz
  obtain ⟨p6, e6⟩ : ∃ b, ((pr : Int) == 6) = b := ⟨_, rfl⟩
  obtain ⟨p17, e17⟩ : ∃ b, ((pr : Int) == 17) = b := ⟨_, rfl⟩
  obtain ⟨sh, e4⟩ : ∃ b, decide ((4 : Int) ≤ ((n - sz : Nat) : Int)) = b := ⟨_, rfl⟩
  have hp2 : ((p6 || p17) && (!lt) && sh) = false := by
    rw [← e6, ← e17, ← e4, ← hp]
    have a1 : ((pr : Int) == 6) = (pr == 6) := by rw [Bool.eq_iff_iff]; simp; omega
    have a2 : ((pr : Int) == 17) = (pr == 17) := by rw [Bool.eq_iff_iff]; simp; omega
    have a3 : decide ((4 : Int) ≤ ((n - sz : Nat) : Int)) = decide (4 ≤ n - sz) := by rw [Bool.eq_iff_iff]; simp; omega
    rw [a1, a2, a3]
  clear hp K hA hr
  generalize flowC zF = zf at *
  have hsub : IntKind.i64.wrap ((n : Int) - (sz : Int)) = ((n - sz : Nat) : Int) := by rw [IntKind.wrap_i64]; omega
  have hcase : (p6 = false ∧ p17 = false) ∨ (p6 = false ∧ p17 = true ∧ lt = true) ∨ (p6 = false ∧ p17 = true ∧ lt = false ∧ sh = false) ∨ (p6 = true ∧ lt = true) ∨ (p6 = true ∧ lt = false ∧ sh = false) := by
    cases p6 <;> cases p17 <;> cases lt <;> cases sh <;> simp_all
  clear hp2
  rcases hcase with ⟨rfl, rfl⟩ | ⟨rfl, rfl, rfl⟩ | ⟨rfl, rfl, rfl, rfl⟩ | ⟨rfl, rfl⟩ | ⟨rfl, rfl, rfl⟩
  all_goals
    have HM := Lib.hid (Mem.start w0)
    have HB := HM.out.below
    go_enter Try.func9, Try.ntmps9
    go_wp2_with (first | refine m_rd ?_ | (refine m_wr ?_; clear HM HB; intro w b HM HB; try clear b) | fail)
    refine (HP.out _ (HR.out.below HB)).mono ?_
    rintro e w ⟨rfl, hb⟩
    replace HM := Lib.hid (HM.out.call hb)
    replace HB := HM.out.below
    clear hb
    go_wp2_with (first | refine m_rd ?_ | (refine m_wr ?_; clear HM HB; intro w b HM HB; try clear b) | fail)
    refine (HW.out _ (HR.out.below HB)).mono ?_
    rintro e w ⟨rfl, hb⟩
    replace HM := Lib.hid (HM.out.call hb)
    replace HB := HM.out.below
    clear hb
    go_wp2_with (first | refine m_rd ?_ | (refine m_wr ?_; clear HM HB; intro w b HM HB; try clear b) | fail)
    try (refine (HT.out _ (HR.out.below HB)).mono ?_)
    try (rintro e w ⟨rfl, hb⟩; replace HM := Lib.hid (HM.out.call hb); replace HB := HM.out.below; clear hb)
    go_wp2_with (first | refine m_rd ?_ | (refine m_wr ?_; clear HM HB; intro w b HM HB; try clear b) | fail)
    apply m_ret_c1
    next => exact rfl
    next => exact rfl
    next => exact rfl
    next => exact HM
    next => (first | ((repeat (first | with_reducible exact List.Mem.head _ | with_reducible apply List.Mem.tail)); done) | ((repeat (first | exact List.Mem.head _ | apply List.Mem.tail)); done))
    next => exact Try.underlying32
    next => rfl
    exact ⟨rfl, HB⟩
set_option maxHeartbeats 10000000 in
theorem refOf_some {A : Option Addr} {c n v pr sz g0 g1 g2 g3 : Nat} {l : List UInt8} {hv cf cf1 cf2 sC dC : Array Value} {w0 : World} (K : OfK l n hv cf v pr sz sC dC) (CV6 : Hid (hv[2]? = some (.int .i64 n))) (hr : RB w0 (.slice A l.length c) l) (HP : Hid (∀ w, RB w (.slice A n c) l → Calls Try.prog 32 #[.slice A n c] w fun e w' => e = .returned (.tuple #[.agg hv, .int .i64 0]) ∧ Below w.heap.size w w'))
    (HW : Hid (∀ w, RB w (.slice A n c) l → Calls Try.prog 33 #[.slice A n c] w fun e w' => e = .returned (.bool true) ∧ Below w.heap.size w w')) (HT : Hid (∀ w, RB w (.slice A n c) l → Calls Try.prog 34 #[.slice A n c] w fun e w' => e = .returned (.bool false) ∧ Below w.heap.size w w'))
    (hA : 0 < n) (hp : (pr == 6 || pr == 17) = true) (h4 : 4 ≤ n - sz) (hg0 : gb l (sz + 0) = g0) (hg1 : gb l (sz + 1) = g1) (hg2 : gb l (sz + 2) = g2) (hg3 : gb l (sz + 3) = g3)
    (CV4 : Hid (cf[36]? = some (.int .i64 0))) (PU1 : Hid (cf.setIfInBounds 36 (.int .i64 ((256 * g0 + g1 : Nat) : Int)) = cf1)) (CV5 : Hid (cf1[37]? = some (.int .i64 0))) (PU2 : Hid (cf1.setIfInBounds 37 (.int .i64 ((256 * g2 + g3 : Nat) : Int)) = cf2)) (HZ2 : Hid (Cells 32 cf2)) : Calls Try.prog 9 #[.slice A n c] w0 fun e w' => e = .returned (.tuple #[.agg cf2, .int .i64 0]) ∧ Below w0.heap.size w0 w' := by
  have hc : n ≤ c := by obtain ⟨_, _, e, h, _⟩ := hr; injection e with e1 e2 e3; subst e3; rw [K.len] at h; exact h
  have hn : n ≤ 9223372036854775807 := by have := hr.len; rw [K.len] at this; exact this
  obtain ⟨ad, rfl⟩ := hr.some (by rw [K.len]; exact hA)
  have hb0 := hr.byte (sz + 0) (by rw [K.len]; omega)
  have hb1 := hr.byte (sz + 1) (by rw [K.len]; omega)
  have hb2 := hr.byte (sz + 2) (by rw [K.len]; omega)
  have hb3 := hr.byte (sz + 3) (by rw [K.len]; omega)
  change ∀ W, Below w0.heap.size w0 W → W.cell? (ad.add (sz + 0)) = some (.int .u8 ((gb l (sz + 0) : Nat) : Int)) at hb0
  change ∀ W, Below w0.heap.size w0 W → W.cell? (ad.add (sz + 1)) = some (.int .u8 ((gb l (sz + 1) : Nat) : Int)) at hb1
  change ∀ W, Below w0.heap.size w0 W → W.cell? (ad.add (sz + 2)) = some (.int .u8 ((gb l (sz + 2) : Nat) : Int)) at hb2
  change ∀ W, Below w0.heap.size w0 W → W.cell? (ad.add (sz + 3)) = some (.int .u8 ((gb l (sz + 3) : Nat) : Int)) at hb3
  have l0 := gb_lt l (sz + 0)
  have l1 := gb_lt l (sz + 1)
  have l2 := gb_lt l (sz + 2)
  have l3 := gb_lt l (sz + 3)
  rw [hg0] at hb0 l0
  rw [hg1] at hb1 l1
  rw [hg2] at hb2 l2
  rw [hg3] at hb3 l3
  rw [Nat.add_zero] at hb0
  rw [Av.add_lit _ _ (by omega)] at hb1 hb2 hb3
  have HJ0 := Lib.hid (join8' l0 l1)
  have HJ1 := Lib.hid (join8' l2 l3)
  rw [K.len] at hr
  have HR := Lib.hid hr
  have HH := Lib.hid K.cells
  have AL1 := Lib.hid zeroRFlow
  have AL2 := Lib.hid zeroHead
  have BH1 := Lib.hid K.b2
  have CV1 := Lib.hid K.v0
  have CV2 := Lib.hid K.v8
  have CV3 := Lib.hid K.v1
  have PT1 := Lib.hid K.s
  have PT2 := Lib.hid K.d
  have HZ := Lib.hid K.c2
  have hsz := K.sz
  obtain ⟨p6, e6⟩ : ∃ b, ((pr : Int) == 6) = b := ⟨_, rfl⟩
  obtain ⟨p17, e17⟩ : ∃ b, ((pr : Int) == 17) = b := ⟨_, rfl⟩
  have e4 : decide ((4 : Int) ≤ ((n - sz : Nat) : Int)) = true := decide_eq_true (by omega)
  have hp2 : (p6 || p17) = true := by
    rw [← e6, ← e17, ← hp]
    have a1 : ((pr : Int) == 6) = (pr == 6) := by rw [Bool.eq_iff_iff]; simp; omega
    have a2 : ((pr : Int) == 17) = (pr == 17) := by rw [Bool.eq_iff_iff]; simp; omega
    rw [a1, a2]
  have HA1 : Hid (IntKind.i64.wrap ((sz : Int) + 1) = (sz : Int) + 1) := Lib.hid (by rw [IntKind.wrap_i64]; omega)
  have HA2 : Hid (IntKind.i64.wrap ((sz : Int) + 2) = (sz : Int) + 2) := Lib.hid (by rw [IntKind.wrap_i64]; omega)
  have HA3 : Hid (IntKind.i64.wrap ((sz : Int) + 3) = (sz : Int) + 3) := Lib.hid (by rw [IntKind.wrap_i64]; omega)
  have ht2 : ((sz : Int) + 2).toNat = sz + 2 := by omega
  have ht3 : ((sz : Int) + 3).toNat = sz + 3 := by omega
  have hi1 : sz + 1 < n := by omega
  have hi2 : sz + 2 < n := by omega
  have hi3 : sz + 3 < n := by omega
  have hi0 : sz < n := by omega
  have hsub : IntKind.i64.wrap ((n : Int) - (sz : Int)) = ((n - sz : Nat) : Int) := by rw [IntKind.wrap_i64]; omega
  clear hp K hA hr hg0 hg1 hg2 hg3
  generalize flowC zF = zf at *
  have hcase : (p6 = false ∧ p17 = true) ∨ p6 = true := by cases p6 <;> cases p17 <;> simp_all
  clear hp2
  rcases hcase with ⟨rfl, rfl⟩ | rfl
  all_goals
    have HM := Lib.hid (Mem.start w0)
    have HB := HM.out.below
    go_enter Try.func9, Try.ntmps9
    go_wp2_with (first | refine m_rd ?_ | (refine m_wr ?_; clear HM HB; intro w b HM HB; try clear b) | fail)
    refine (HP.out _ (HR.out.below HB)).mono ?_
    rintro e w ⟨rfl, hb⟩
    replace HM := Lib.hid (HM.out.call hb)
    replace HB := HM.out.below
    clear hb
    go_wp2_with (first | refine m_rd ?_ | (refine m_wr ?_; clear HM HB; intro w b HM HB; try clear b) | fail)
    refine (HW.out _ (HR.out.below HB)).mono ?_
    rintro e w ⟨rfl, hb⟩
    replace HM := Lib.hid (HM.out.call hb)
    replace HB := HM.out.below
    clear hb
    go_wp2_with (first | refine m_rd ?_ | (refine m_wr ?_; clear HM HB; intro w b HM HB; try clear b) | fail)
    refine (HT.out _ (HR.out.below HB)).mono ?_
    rintro e w ⟨rfl, hb⟩
    replace HM := Lib.hid (HM.out.call hb)
    replace HB := HM.out.below
    clear hb
    go_wp2_with (first | refine m_rd ?_ | (refine m_wr ?_; clear HM HB; intro w b HM HB; try clear b) | fail)
    try simp only [Act.put, List.setIfInBounds_toArray, List.set_cons_zero, List.set_cons_succ]
    refine wp_region_held_drew (S := fun w' => Mem w0 w' [Ent.blk _ hv 67]) (by kernel_rfl) (HM.out.drew.keep (by (first | ((repeat (first | with_reducible exact List.Mem.head _ | with_reducible apply List.Mem.tail)); done) | ((repeat (first | exact List.Mem.head _ | apply List.Mem.tail)); done)))) (fun hS => ?_)
    replace HM := Lib.hid HM.out.drew
    replace HB := HM.out.below
    refine tk 0 50 ?_
    refine tk 1 51 ?_
    refine tkv 2 52 (.int .i64 sz) rfl (yields_cell rfl (by kernel_rfl) rfl (fun _ h => h) (by (first | ((repeat (first | with_reducible exact List.Mem.head _ | with_reducible apply List.Mem.tail)); done) | ((repeat (first | exact List.Mem.head _ | apply List.Mem.tail)); done))) CV3.out (by kernel_rfl)) ?_
    refine tk 3 53 ?_
    refine tk 4 54 ?_
    refine tk 5 55 ?_
    refine tk 6 56 ?_
    refine tk 7 57 ?_
    refine tk 8 58 ?_
    refine tkv 9 59 (.int .i64 sz) rfl (yields_cell rfl (by kernel_rfl) rfl (fun _ h => h) (by (first | ((repeat (first | with_reducible exact List.Mem.head _ | with_reducible apply List.Mem.tail)); done) | ((repeat (first | exact List.Mem.head _ | apply List.Mem.tail)); done))) CV3.out (by kernel_rfl)) ?_
    refine tkv 10 60 (.int .i64 ((sz + 1 : Nat) : Int)) rfl (.inl ⟨by kernel_rfl, fun w' hw => by go_simp; exact HA1.out⟩) ?_
    refine tk 11 61 ?_
    refine tk 12 62 ?_
    refine tk 13 63 ?_
    refine tkv 14 64 (.int .i64 ((256 * g0 + g1 : Nat) : Int)) rfl (.inl ⟨by kernel_rfl, fun w' hw => by go_simp; exact HJ0.out⟩) ?_
    refine tk 15 65 ?_
    refine rone 16 rfl fun K' hK => ?_
    refine s_wr ?_ HM (Wr.put rfl (by kernel_rfl) rfl rfl rfl (by (first | ((repeat (first | with_reducible exact Upd.head _ | with_reducible apply Upd.tail)); done) | ((repeat (first | exact Upd.head _ | apply Upd.tail)); done))) CV4.out PU1.out) (by kernel_rfl)
    clear HM HB
    intro w _ HM HB
    refine hK.out _ _ (HM.out.keep (by (first | ((repeat (first | with_reducible exact List.Mem.head _ | with_reducible apply List.Mem.tail)); done) | ((repeat (first | exact List.Mem.head _ | apply List.Mem.tail)); done)))) (fun hS2 => ?_)
    clear hS hK
    have hS := hS2
    clear hS2
    try simp only [Act.put, List.setIfInBounds_toArray, List.set_cons_zero, List.set_cons_succ]
    refine wpAnyH_done (by kernel_rfl) ?_ _
    clear hS
    go_wp2_with (first | refine m_rd ?_ | (refine m_wr ?_; clear HM HB; intro w b HM HB; try clear b) | fail)
    try simp only [Act.put, List.setIfInBounds_toArray, List.set_cons_zero, List.set_cons_succ]
    refine wp_region_held_drew (S := fun w' => Mem w0 w' [Ent.blk _ hv 67]) (by kernel_rfl) (HM.out.drew.keep (by (first | ((repeat (first | with_reducible exact List.Mem.head _ | with_reducible apply List.Mem.tail)); done) | ((repeat (first | exact List.Mem.head _ | apply List.Mem.tail)); done)))) (fun hS => ?_)
    replace HM := Lib.hid HM.out.drew
    replace HB := HM.out.below
    refine tk 0 66 ?_
    refine tk 1 67 ?_
    refine tkv 2 68 (.int .i64 sz) rfl (yields_cell rfl (by kernel_rfl) rfl (fun _ h => h) (by (first | ((repeat (first | with_reducible exact List.Mem.head _ | with_reducible apply List.Mem.tail)); done) | ((repeat (first | exact List.Mem.head _ | apply List.Mem.tail)); done))) CV3.out (by kernel_rfl)) ?_
    refine tkv 3 69 (.int .i64 ((sz + 2 : Nat) : Int)) rfl (.inl ⟨by kernel_rfl, fun w' hw => by go_simp; exact HA2.out⟩) ?_
    refine tk 4 70 ?_
    refine tk 5 71 ?_
    refine tk 6 72 ?_
    refine tk 7 73 ?_
    refine tk 8 74 ?_
    refine tk 9 75 ?_
    refine tkv 10 76 (.int .i64 sz) rfl (yields_cell rfl (by kernel_rfl) rfl (fun _ h => h) (by (first | ((repeat (first | with_reducible exact List.Mem.head _ | with_reducible apply List.Mem.tail)); done) | ((repeat (first | exact List.Mem.head _ | apply List.Mem.tail)); done))) CV3.out (by kernel_rfl)) ?_
    refine tkv 11 77 (.int .i64 ((sz + 3 : Nat) : Int)) rfl (.inl ⟨by kernel_rfl, fun w' hw => by go_simp; exact HA3.out⟩) ?_
    refine tk 12 78 ?_
    refine tk 13 79 ?_
    refine tk 14 80 ?_
    refine tkv 15 81 (.int .i64 ((256 * g2 + g3 : Nat) : Int)) rfl (.inl ⟨by kernel_rfl, fun w' hw => by go_simp; exact HJ1.out⟩) ?_
    refine tk 16 82 ?_
    refine rone 17 rfl fun K' hK => ?_
    refine s_wr ?_ HM (Wr.put rfl (by kernel_rfl) rfl rfl rfl (by (first | ((repeat (first | with_reducible exact Upd.head _ | with_reducible apply Upd.tail)); done) | ((repeat (first | exact Upd.head _ | apply Upd.tail)); done))) CV5.out PU2.out) (by kernel_rfl)
    clear HM HB
    intro w _ HM HB
    refine hK.out _ _ (HM.out.keep (by (first | ((repeat (first | with_reducible exact List.Mem.head _ | with_reducible apply List.Mem.tail)); done) | ((repeat (first | exact List.Mem.head _ | apply List.Mem.tail)); done)))) (fun hS2 => ?_)
    clear hS hK
    have hS := hS2
    clear hS2
    try simp only [Act.put, List.setIfInBounds_toArray, List.set_cons_zero, List.set_cons_succ]
    refine wpAnyH_done (by kernel_rfl) ?_ _
    clear hS
    go_wp2_with (first | refine m_rd ?_ | (refine m_wr ?_; clear HM HB; intro w b HM HB; try clear b) | fail)
    apply m_ret_c1
    next => exact rfl
    next => exact rfl
    next => exact rfl
    next => exact HM
    next => (first | ((repeat (first | with_reducible exact List.Mem.head _ | with_reducible apply List.Mem.tail)); done) | ((repeat (first | exact List.Mem.head _ | apply List.Mem.tail)); done))
    next => exact Try.underlying32
    next => rfl
    exact ⟨rfl, HB⟩
theorem tot_of {l : List UInt8} (hb : badP l = 0) (hw : wholeB l = true) : (headP l)[2]? = some (.int .i64 (l.length : Nat)) := by
  obtain ⟨v, sz, tt, cl, id, fl, fr, tl, pr, x, y, K⟩ := known l hb
  unfold wholeB at hw
  have h := (of_decide_eq_true hw).2.1
  rw [K.head, ← h, ← K.tot]
  exact Hd.HV_num _ _ _ _ _ 2 _ rfl
theorem refOf_any (A : Option Addr) (c : Nat) (l : List UInt8) (w0 : World) (hr : RB w0 (.slice A l.length c) l) : Calls Try.prog 9 #[.slice A l.length c] w0 fun e w' => e = .returned (.tuple #[.agg (flowC (ofF l)), .int .i64 (ofBad l : Nat)]) ∧ Below w0.heap.size w0 w' := by
  by_cases hb : badP l = 0
  · cases hw : wholeB l
    · have e1 : ofBad l = 5 := by unfold ofBad; rw [if_pos hb, hw]; rfl
      have e2 : ofF l = zF := by unfold ofF; rw [e1]; rfl
      rw [e1, e2]
      exact refOf_form hr hb hw
    · have e1 : ofBad l = 0 := by unfold ofBad; rw [if_pos hb, hw]; rfl
      have hlow := low_of hb
      have htot := tot_of hb hw
      have hP := fun w hr' => (Pk.refParseP_any (.slice A l.length c) l w hr')
      have hW := fun w hr' => (Pk.refWhole_any A c l w hr')
      have hT := fun w hr' => (Pk.refLater_any A c l w hr')
      rw [hb] at hP
      rw [hw] at hW
      rw [ofF_eq e1, e1]
      cases hp : portsB l
      · have p0 : ∀ i, port l i = 0 := fun i => by unfold port; rw [hp]; rfl
        rw [p0, p0]
        exact refOf_none (ofK hb) (Lib.hid htot) hr (Lib.hid hP) (Lib.hid hW) (Lib.hid hT) (by omega) hp
      · have p0 : ∀ i, port l i = 256 * gb l (sizP l + i) + gb l (sizP l + i + 1) := fun i => by unfold port; rw [hp]; rfl
        unfold portsB at hp
        rw [Bool.and_eq_true, Bool.and_eq_true, decide_eq_true_eq] at hp
        obtain ⟨⟨hp1, hp2⟩, hp3⟩ := hp
        have hlt : lateB l = false := by simpa using hp2
        rw [hlt] at hT
        have b0 : ∀ i j, 256 * gb l i + gb l j < 9223372036854775808 := fun i j => by have := gb_lt l i; have := gb_lt l j; omega
        rw [p0, p0]
        refine refOf_some (cf1 := flowC (fl0 l (256 * gb l (sizP l + 0) + gb l (sizP l + 0 + 1)) 0)) (ofK hb) (Lib.hid htot) hr (Lib.hid hP) (Lib.hid hW) (Lib.hid hT) (by omega) hp1 hp3 rfl rfl rfl rfl (Lib.hid ((flow_sp _).trans (congrArg some (iV_nat (by omega))))) (Lib.hid ?_) (Lib.hid ((flow_dp _).trans (congrArg some (iV_nat (by omega))))) (Lib.hid ?_) (Lib.hid (cellsRFlow _))
        · exact (congrArg _ (iV_nat (b0 _ _)).symm).trans (set_sp _ _)
        · exact (congrArg _ (iV_nat (b0 _ _)).symm).trans (set_dp _ _)
  · have e1 : ofBad l = badP l := by unfold ofBad; rw [if_neg hb]
    have e2 : ofF l = zF := by unfold ofF; rw [e1, if_neg hb]
    rw [e1, e2]
    exact refOf_bad hr hb
end Go.Proofs.Ytkfjobanbnokoaa.Fw
