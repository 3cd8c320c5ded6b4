/- Package sessions: a session goes. -/
import Derived.Test.YtapncdgeigbgmaaTd
set_option linter.unusedSimpArgs false
set_option linter.unusedVariables false
set_option linter.unusedSectionVars false
set_option maxRecDepth 100000
namespace Go.Proofs.Ytapncdgeigbgmaa.Tb
open Go.RowKit Go.Proofs.YtapncdgeigbgmaaW.PrintWords Go.Proofs.Ytapncdgeigbgmaa.Bs Go.Proofs.Ytapncdgeigbgmaa.Gm Go.Proofs.Ytapncdgeigbgmaa.Sf

theorem _root_.Go.Proofs.Ytapncdgeigbgmaa.Gm.Mem.three {w0 w : World} {e f g : Ent} {r : List Ent} (h : Mem w0 w (e :: f :: g :: r)) : Mem w0 w [e, f, g] := h.sub (List.Sublist.cons_cons _ (List.Sublist.cons_cons _ (List.Sublist.cons_cons _ (List.nil_sublist _))))
theorem yields_key {ops : Array Oper} {op : Oper} {a : Act} {w0 : World} {es : List Ent} {x : Operand} (ho : op.op = .load 29 x) {b : Nat} (hx : a.eval x = .pointer (some ⟨b, 0, none⟩)) {S : World → Prop} (hS : ∀ w', S w' → Mem w0 w' es) {k : Key} {lo re n : Int} {m : List Nat} (mm : sesE b (keyC k) lo re n m ∈ es)
    (hw : Region.wanted op (yielded ops a.tmps) = true) : YieldsIf Try.prog ops S op (.agg (keyC k)) a := by
  have h := yieldsIf_load_mid (P := Try.prog) hw 29 x ho b 0 hx (keyC k).toList _ (S := S) (fun w' h => key_range ((hS w' h).sesAt mm) (keyC_size k)) Try.underlying29 rfl (by rw [Array.length_toList, keyC_size]; kernel_rfl)
  simpa using h
/-- What holds behind a region whose orders choose nothing anew. -/
def Leaf0 (w0 : World) (F : Act) (E : List Ent) : Exit → Act → World → Prop
  | .normal, a, w => a = F ∧ Mem w0 w E
  | _, _, _ => False
theorem leaf0 {w0 w : World} {F : Act} {E es : List Ent} (HM : HMem w0 w es) (hp : es.Perm E) {a : Act} (ha : a = F) : Leaf0 w0 F E .normal a w := ⟨ha, HM.out.perm hp⟩
theorem region_cut0 {id : Nat} {ops : Array Oper} {d : Bool} {a : Act} {w w0 : World} {Q : Exit → Act → World → Prop} {F : Act} (E : List Ent) (h : (Code.region id ops d).wp Try.prog (Leaf0 w0 F E) a w)
    (k : ∀ w, HMem w0 w E → Q .normal F w) : (Code.region id ops d).wp Try.prog Q a w := by
  refine Code.wp_mono (fun e a w q => ?_) h
  cases e <;> first | exact q.elim | skip
  obtain ⟨rfl, hm⟩ := q
  exact k w (Lib.hid hm)
theorem forget_none {w0 w : World} {es : List Ent} {bt bb bo : Nat} {l : List (UInt32 × Nat)} (lo : UInt32) (HM : HMem w0 w (tabB bt bb bo :: mapE MB bb l :: es)) (hg : getK l lo = none) :
    Calls Try.prog 39 #[.pointer (some ⟨bt, 0, none⟩), .int .u32 (lo.toNat : Int)] w fun e w' => e = .returned (.int .i64 8) ∧ HMem w0 w' (tabB bt bb bo :: mapE MB bb l :: es) := by
  have HG := Lib.hid hg
  have HB := HM.out.below
  clear hg
  go_enter Try.func39, Try.ntmps39
  go_wp2_with fail
  replace HM := Lib.hid (HM.out.alloc #[.int .u32 (lo.toNat : Int)] 23 (by kernel_rfl))
  replace HB := HM.out.below
  generalize Array.size (World.heap w) = bx at HM ⊢
  generalize World.alloc w (.cells #[.int .u32 (lo.toNat : Int)] 23) = w at HM HB ⊢
  refine (made_yes (tab_cells HM.out (by (first | ((repeat (first | with_reducible exact List.Mem.head _ | with_reducible apply List.Mem.tail)); done) | ((repeat (first | exact List.Mem.head _ | apply List.Mem.tail)); done)))).1).mono ?_
  rintro e w' ⟨rfl, rfl⟩
  go_wp2_with fail
  try simp only [Act.put, List.setIfInBounds_toArray, List.set_cons_zero, List.set_cons_succ]
  refine wp_region_held_drew (S := fun w' => Mem w0 w' (Ent.blk bx #[.int .u32 (lo.toNat : Int)] 23 :: tabB bt bb bo :: [])) (by kernel_rfl) (HM.out.drew.two) (fun hS => ?_)
  replace HM := Lib.hid HM.out.drew
  replace HB := HM.out.below
  refine tk 0 12 ?_
  refine tk 1 13 ?_
  refine tk 2 14 ?_
  refine tkv 3 15 (.map (some bb)) rfl (yields_cell rfl (by kernel_rfl) rfl (fun _ h => h) (by (first | ((repeat (first | with_reducible exact List.Mem.head _ | with_reducible apply List.Mem.tail)); done) | ((repeat (first | exact List.Mem.head _ | apply List.Mem.tail)); done))) rfl (by kernel_rfl)) ?_
  refine tkv 4 16 (.int .u32 (lo.toNat : Int)) rfl (yields_cell rfl (by kernel_rfl) rfl (fun _ h => h) (by (first | ((repeat (first | with_reducible exact List.Mem.head _ | with_reducible apply List.Mem.tail)); done) | ((repeat (first | exact List.Mem.head _ | apply List.Mem.tail)); done))) rfl (by kernel_rfl)) ?_
  refine rone 5 rfl fun K' hK => ?_
  refine s_rd ?_ HM (look_b0 (x := lo) rfl rfl rfl (by (first | ((repeat (first | with_reducible exact List.Mem.head _ | with_reducible apply List.Mem.tail)); done) | ((repeat (first | exact List.Mem.head _ | apply List.Mem.tail)); done))) HG.out) (by kernel_rfl)
  refine hK.out _ _ (HM.out.two) (fun hS2 => ?_)
  clear hS hK
  have hS := hS2
  clear hS2
  try simp only [Act.put, List.setIfInBounds_toArray, List.set_cons_zero, List.set_cons_succ]
  refine tk 6 11 ?_
  refine tk 7 18 ?_
  refine tk 8 19 ?_
  refine tk 9 5 ?_
  refine tk 10 6 ?_
  refine wpAnyH_done (by kernel_rfl) ?_ _
  clear hS
  go_wp2_with fail
  go_ret
  exact ⟨rfl, Lib.hid HM.out.tail⟩
set_option maxHeartbeats 1000000 in
theorem forget_some {w0 w : World} {es : List Ent} {bt bb bo y n c : Nat} {l : List (UInt32 × Nat)} {o : List (Key × Value)} {k : Key} {A : Option Addr} {xs ys : List UInt32} {lo' re nn : Int} {m : List Nat} (lo : UInt32) (HM : HMem w0 w (tabB bt bb bo :: sesE y (keyC k) lo' re nn m :: mapE MB bb l :: mapE MO bo o :: rowE RN (.slice A n c) xs :: es)) (hg : getK l lo = some y) (ho : getK o k = some (.slice A n c)) (hx : 0 < xs.length) (hy : (xs.filter fun x => !decide (x = lo)) = ys) :
    Calls Try.prog 39 #[.pointer (some ⟨bt, 0, none⟩), .int .u32 (lo.toNat : Int)] w fun e w' => e = .returned (.int .i64 0) ∧ HMem w0 w' (tabB bt bb bo :: mapE MB bb (delK l lo) :: mapE MO bo (if ys.length = 0 then delK o k else putK o k (.slice A ys.length c)) :: rowE RN (.slice A ys.length c) ys :: sesE y (keyC k) lo' re nn m :: es) := by
  have HG := Lib.hid hg
  have HO := Lib.hid ho
  have HX := Lib.hid hx
  have HY := Lib.hid hy
  have HB := HM.out.below
  clear hg ho hx hy
  obtain ⟨o', ho'⟩ : ∃ o', (if ys.length = 0 then delK o k else putK o k (.slice A ys.length c)) = o' := ⟨_, rfl⟩
  rw [ho']
  have HQ := Lib.hid ho'
  clear ho'
  go_enter Try.func39, Try.ntmps39
  go_wp2_with fail
  replace HM := Lib.hid (HM.out.alloc #[.int .u32 (lo.toNat : Int)] 23 (by kernel_rfl))
  replace HB := HM.out.below
  generalize Array.size (World.heap w) = bx at HM ⊢
  generalize World.alloc w (.cells #[.int .u32 (lo.toNat : Int)] 23) = w at HM HB ⊢
  refine (made_yes (tab_cells HM.out (by (first | ((repeat (first | with_reducible exact List.Mem.head _ | with_reducible apply List.Mem.tail)); done) | ((repeat (first | exact List.Mem.head _ | apply List.Mem.tail)); done)))).1).mono ?_
  rintro e w' ⟨rfl, rfl⟩
  go_wp2_with fail
  try simp only [Act.put, List.setIfInBounds_toArray, List.set_cons_zero, List.set_cons_succ]
  refine wp_region_held_drew (S := fun w' => Mem w0 w' (Ent.blk bx #[.int .u32 (lo.toNat : Int)] 23 :: tabB bt bb bo :: [])) (by kernel_rfl) (HM.out.drew.two) (fun hS => ?_)
  replace HM := Lib.hid HM.out.drew
  replace HB := HM.out.below
  refine tk 0 12 ?_
  refine tk 1 13 ?_
  refine tk 2 14 ?_
  refine tkv 3 15 (.map (some bb)) rfl (yields_cell rfl (by kernel_rfl) rfl (fun _ h => h) (by (first | ((repeat (first | with_reducible exact List.Mem.head _ | with_reducible apply List.Mem.tail)); done) | ((repeat (first | exact List.Mem.head _ | apply List.Mem.tail)); done))) rfl (by kernel_rfl)) ?_
  refine tkv 4 16 (.int .u32 (lo.toNat : Int)) rfl (yields_cell rfl (by kernel_rfl) rfl (fun _ h => h) (by (first | ((repeat (first | with_reducible exact List.Mem.head _ | with_reducible apply List.Mem.tail)); done) | ((repeat (first | exact List.Mem.head _ | apply List.Mem.tail)); done))) rfl (by kernel_rfl)) ?_
  refine rone 5 rfl fun K' hK => ?_
  refine s_rd ?_ HM (look_b1 (x := lo) rfl rfl rfl (by (first | ((repeat (first | with_reducible exact List.Mem.head _ | with_reducible apply List.Mem.tail)); done) | ((repeat (first | exact List.Mem.head _ | apply List.Mem.tail)); done))) HG.out) (by kernel_rfl)
  refine hK.out _ _ (HM.out.two) (fun hS2 => ?_)
  clear hS hK
  have hS := hS2
  clear hS2
  try simp only [Act.put, List.setIfInBounds_toArray, List.set_cons_zero, List.set_cons_succ]
  refine tk 6 11 ?_
  refine tk 7 18 ?_
  refine tk 8 19 ?_
  refine tk 9 5 ?_
  refine tk 10 6 ?_
  refine wpAnyH_done (by kernel_rfl) ?_ _
  clear hS
  go_wp2_with fail
  try simp only [Act.put, List.setIfInBounds_toArray, List.set_cons_zero, List.set_cons_succ]
  refine wp_region_held_drew (S := fun w' => Mem w0 w' (Ent.blk bx #[.int .u32 (lo.toNat : Int)] 23 :: tabB bt bb bo :: [])) (by kernel_rfl) (HM.out.drew.two) (fun hS => ?_)
  replace HM := Lib.hid HM.out.drew
  replace HB := HM.out.below
  refine tk 0 22 ?_
  refine tk 1 23 ?_
  refine tk 2 24 ?_
  refine tkv 3 25 (.map (some bb)) rfl (yields_cell rfl (by kernel_rfl) rfl (fun _ h => h) (by (first | ((repeat (first | with_reducible exact List.Mem.head _ | with_reducible apply List.Mem.tail)); done) | ((repeat (first | exact List.Mem.head _ | apply List.Mem.tail)); done))) rfl (by kernel_rfl)) ?_
  refine tkv 4 26 (.int .u32 (lo.toNat : Int)) rfl (yields_cell rfl (by kernel_rfl) rfl (fun _ h => h) (by (first | ((repeat (first | with_reducible exact List.Mem.head _ | with_reducible apply List.Mem.tail)); done) | ((repeat (first | exact List.Mem.head _ | apply List.Mem.tail)); done))) rfl (by kernel_rfl)) ?_
  refine rone 5 rfl fun K' hK => ?_
  refine s_wr ?_ HM (Wr.mdel LB (x := lo) rfl rfl rfl (by (first | ((repeat (first | with_reducible exact Upd.head _ | with_reducible apply Upd.tail)); done) | ((repeat (first | exact Upd.head _ | apply Upd.tail)); done)))) (by kernel_rfl)
  clear HM HB
  intro w _ HM HB
  refine hK.out _ _ (HM.out.two) (fun hS2 => ?_)
  clear hS hK
  have hS := hS2
  clear hS2
  try simp only [Act.put, List.setIfInBounds_toArray, List.set_cons_zero, List.set_cons_succ]
  refine wpAnyH_done (by kernel_rfl) ?_ _
  clear hS
  go_wp2_with fail
  apply region_cut0 (w0 := w0) (Ent.blk bx #[.int .u32 (lo.toNat : Int)] 23 :: tabB bt bb bo :: sesE y (keyC k) lo' re nn m :: mapE MB bb (delK l lo) :: mapE MO bo o :: rowE RN (.slice A ys.length c) ys :: es)
  case h =>
    try simp only [Act.put, List.setIfInBounds_toArray, List.set_cons_zero, List.set_cons_succ]
    refine wp_region_held_drew (S := fun w' => Mem w0 w' (Ent.blk bx #[.int .u32 (lo.toNat : Int)] 23 :: tabB bt bb bo :: sesE y (keyC k) lo' re nn m :: [])) (by kernel_rfl) (HM.out.drew.three) (fun hS => ?_)
    replace HM := Lib.hid HM.out.drew
    replace HB := HM.out.below
    refine tk 0 27 ?_
    refine tk 1 28 ?_
    refine tk 2 29 ?_
    refine tkv 3 30 (.map (some bo)) rfl (yields_cell rfl (by kernel_rfl) rfl (fun _ h => h) (by (first | ((repeat (first | with_reducible exact List.Mem.head _ | with_reducible apply List.Mem.tail)); done) | ((repeat (first | exact List.Mem.head _ | apply List.Mem.tail)); done))) rfl (by kernel_rfl)) ?_
    refine tk 4 31 ?_
    refine tk 5 32 ?_
    refine tk 6 33 ?_
    refine tkv 7 34 _ rfl (yields_key rfl rfl (fun _ h => h) (by (first | ((repeat (first | with_reducible exact List.Mem.head _ | with_reducible apply List.Mem.tail)); done) | ((repeat (first | exact List.Mem.head _ | apply List.Mem.tail)); done))) (by kernel_rfl)) ?_
    refine wpAnyH_ready (rs := [8, 9]) (by kernel_rfl) (by simp) (rmore 8 rfl (fun K' hK => ?_) (rmore 9 rfl (fun K' hK => ?_) AllReadyH.nil))
    · refine s_rd ?_ HM (look_o1 (k := k) rfl rfl rfl (by (first | ((repeat (first | with_reducible exact List.Mem.head _ | with_reducible apply List.Mem.tail)); done) | ((repeat (first | exact List.Mem.head _ | apply List.Mem.tail)); done))) HO.out) (by kernel_rfl)
      refine hK.out _ _ (HM.out.three) (fun hS2 => ?_)
      clear hS hK
      have hS := hS2
      clear hS2
      try simp only [Act.put, List.setIfInBounds_toArray, List.set_cons_zero, List.set_cons_succ]
      refine rone 9 rfl fun K' hK => ?_
      go_simp
      refine hK.out _ _ (HM.out.three) (fun hS2 => ?_)
      clear hS hK
      have hS := hS2
      clear hS2
      try simp only [Act.put, List.setIfInBounds_toArray, List.set_cons_zero, List.set_cons_succ]
      refine rone 10 rfl fun K' hK => ?_
      go_simp
      have HM2 : HMem w0 _ (Ent.blk bx #[.int .u32 (lo.toNat : Int)] 23 :: rowE RN (.slice A n c) xs :: tabB bt bb bo :: sesE y (keyC k) lo' re nn m :: mapE MB bb (delK l lo) :: mapE MO bo o :: es) := Lib.hid (HM.out.perm (by ((repeat (first | exact List.Perm.refl _ | (refine List.Perm.trans (Del.perm (by (first | ((repeat (first | with_reducible exact Del.head _ | with_reducible apply Del.tail)); done) | ((repeat (first | exact Del.head _ | apply Del.tail)); done)))) (List.Perm.cons _ ?_)))); done)))
      refine (del_any lo HM2 HX.out).mono ?_
      clear HM2
      rintro e w ⟨m1, hm1, rfl, HM'⟩
      rw [HY.out] at HM' hm1
      subst hm1
      replace HM : HMem w0 w (Ent.blk bx #[.int .u32 (lo.toNat : Int)] 23 :: tabB bt bb bo :: sesE y (keyC k) lo' re nn m :: mapE MB bb (delK l lo) :: mapE MO bo o :: rowE RN (.slice A ys.length c) ys :: es) := Lib.hid (HM'.out.perm (by ((repeat (first | exact List.Perm.refl _ | (refine List.Perm.trans (Del.perm (by (first | ((repeat (first | with_reducible exact Del.head _ | with_reducible apply Del.tail)); done) | ((repeat (first | exact Del.head _ | apply Del.tail)); done)))) (List.Perm.cons _ ?_)))); done)))
      replace HB := HM.out.below
      clear HM'
      refine hK.out _ _ (HM.out.three) (fun hS2 => ?_)
      clear hS hK
      have hS := hS2
      clear hS2
      try simp only [Act.put, List.setIfInBounds_toArray, List.set_cons_zero, List.set_cons_succ]
      refine tk 11 7 ?_
      refine wpAnyH_done (by kernel_rfl) ?_ _
      clear hS
      exact leaf0 HM (List.Perm.refl _) rfl
    · go_simp
      refine hK.out _ _ (HM.out.three) (fun hS2 => ?_)
      clear hS hK
      have hS := hS2
      clear hS2
      try simp only [Act.put, List.setIfInBounds_toArray, List.set_cons_zero, List.set_cons_succ]
      refine rone 8 rfl fun K' hK => ?_
      refine s_rd ?_ HM (look_o1 (k := k) rfl rfl rfl (by (first | ((repeat (first | with_reducible exact List.Mem.head _ | with_reducible apply List.Mem.tail)); done) | ((repeat (first | exact List.Mem.head _ | apply List.Mem.tail)); done))) HO.out) (by kernel_rfl)
      refine hK.out _ _ (HM.out.three) (fun hS2 => ?_)
      clear hS hK
      have hS := hS2
      clear hS2
      try simp only [Act.put, List.setIfInBounds_toArray, List.set_cons_zero, List.set_cons_succ]
      refine rone 10 rfl fun K' hK => ?_
      go_simp
      have HM2 : HMem w0 _ (Ent.blk bx #[.int .u32 (lo.toNat : Int)] 23 :: rowE RN (.slice A n c) xs :: tabB bt bb bo :: sesE y (keyC k) lo' re nn m :: mapE MB bb (delK l lo) :: mapE MO bo o :: es) := Lib.hid (HM.out.perm (by ((repeat (first | exact List.Perm.refl _ | (refine List.Perm.trans (Del.perm (by (first | ((repeat (first | with_reducible exact Del.head _ | with_reducible apply Del.tail)); done) | ((repeat (first | exact Del.head _ | apply Del.tail)); done)))) (List.Perm.cons _ ?_)))); done)))
      refine (del_any lo HM2 HX.out).mono ?_
      clear HM2
      rintro e w ⟨m1, hm1, rfl, HM'⟩
      rw [HY.out] at HM' hm1
      subst hm1
      replace HM : HMem w0 w (Ent.blk bx #[.int .u32 (lo.toNat : Int)] 23 :: tabB bt bb bo :: sesE y (keyC k) lo' re nn m :: mapE MB bb (delK l lo) :: mapE MO bo o :: rowE RN (.slice A ys.length c) ys :: es) := Lib.hid (HM'.out.perm (by ((repeat (first | exact List.Perm.refl _ | (refine List.Perm.trans (Del.perm (by (first | ((repeat (first | with_reducible exact Del.head _ | with_reducible apply Del.tail)); done) | ((repeat (first | exact Del.head _ | apply Del.tail)); done)))) (List.Perm.cons _ ?_)))); done)))
      replace HB := HM.out.below
      clear HM'
      refine hK.out _ _ (HM.out.three) (fun hS2 => ?_)
      clear hS hK
      have hS := hS2
      clear hS2
      try simp only [Act.put, List.setIfInBounds_toArray, List.set_cons_zero, List.set_cons_succ]
      refine tk 11 7 ?_
      refine wpAnyH_done (by kernel_rfl) ?_ _
      clear hS
      exact leaf0 HM (List.Perm.refl _) rfl
  case k =>
    intro w HM
    have HB := HM.out.below
    by_cases h0 : ys.length = 0
    · replace HQ := Lib.hid ((if_pos h0).symm.trans HQ.out)
      rw [h0] at HM ⊢
      go_wp2_with fail
      try simp only [Act.put, List.setIfInBounds_toArray, List.set_cons_zero, List.set_cons_succ]
      refine wp_region_held_drew (S := fun w' => Mem w0 w' (Ent.blk bx #[.int .u32 (lo.toNat : Int)] 23 :: tabB bt bb bo :: sesE y (keyC k) lo' re nn m :: [])) (by kernel_rfl) (HM.out.drew.three) (fun hS => ?_)
      replace HM := Lib.hid HM.out.drew
      replace HB := HM.out.below
      refine tk 0 41 ?_
      refine tk 1 42 ?_
      refine tk 2 43 ?_
      refine tkv 3 44 (.map (some bo)) rfl (yields_cell rfl (by kernel_rfl) rfl (fun _ h => h) (by (first | ((repeat (first | with_reducible exact List.Mem.head _ | with_reducible apply List.Mem.tail)); done) | ((repeat (first | exact List.Mem.head _ | apply List.Mem.tail)); done))) rfl (by kernel_rfl)) ?_
      refine tk 4 45 ?_
      refine tk 5 46 ?_
      refine tk 6 47 ?_
      refine tkv 7 48 _ rfl (yields_key rfl rfl (fun _ h => h) (by (first | ((repeat (first | with_reducible exact List.Mem.head _ | with_reducible apply List.Mem.tail)); done) | ((repeat (first | exact List.Mem.head _ | apply List.Mem.tail)); done))) (by kernel_rfl)) ?_
      refine rone 8 rfl fun K' hK => ?_
      refine s_wr ?_ HM (Wr.mdel LO (x := k) rfl rfl rfl (by (first | ((repeat (first | with_reducible exact Upd.head _ | with_reducible apply Upd.tail)); done) | ((repeat (first | exact Upd.head _ | apply Upd.tail)); done)))) (by kernel_rfl)
      clear HM HB
      intro w _ HM HB
      refine hK.out _ _ (HM.out.three) (fun hS2 => ?_)
      clear hS hK
      have hS := hS2
      clear hS2
      try simp only [Act.put, List.setIfInBounds_toArray, List.set_cons_zero, List.set_cons_succ]
      refine wpAnyH_done (by kernel_rfl) ?_ _
      clear hS
      go_wp2_with fail
      go_ret
      refine ⟨rfl, Lib.hid ?_⟩
      rw [← HQ.out, h0]
      exact HM.out.tail.perm (by ((repeat (first | exact List.Perm.refl _ | (refine List.Perm.trans (Del.perm (by (first | ((repeat (first | with_reducible exact Del.head _ | with_reducible apply Del.tail)); done) | ((repeat (first | exact Del.head _ | apply Del.tail)); done)))) (List.Perm.cons _ ?_)))); done))
    · replace HQ := Lib.hid ((if_neg h0).symm.trans HQ.out)
      obtain ⟨j, hj⟩ : ∃ j, ys.length = j := ⟨_, rfl⟩
      rw [hj] at HM h0 ⊢
      have hz : ((j : Int) == 0) = false := beq_false_of_ne (by omega)
      go_wp2_with fail
      try simp only [Act.put, List.setIfInBounds_toArray, List.set_cons_zero, List.set_cons_succ]
      refine wp_region_held_drew (S := fun w' => Mem w0 w' (Ent.blk bx #[.int .u32 (lo.toNat : Int)] 23 :: tabB bt bb bo :: sesE y (keyC k) lo' re nn m :: [])) (by kernel_rfl) (HM.out.drew.three) (fun hS => ?_)
      replace HM := Lib.hid HM.out.drew
      replace HB := HM.out.below
      refine tk 0 49 ?_
      refine tk 1 50 ?_
      refine tk 2 51 ?_
      refine tkv 3 52 (.map (some bo)) rfl (yields_cell rfl (by kernel_rfl) rfl (fun _ h => h) (by (first | ((repeat (first | with_reducible exact List.Mem.head _ | with_reducible apply List.Mem.tail)); done) | ((repeat (first | exact List.Mem.head _ | apply List.Mem.tail)); done))) rfl (by kernel_rfl)) ?_
      refine tk 4 53 ?_
      refine tk 5 54 ?_
      refine tk 6 55 ?_
      refine tkv 7 56 _ rfl (yields_key rfl rfl (fun _ h => h) (by (first | ((repeat (first | with_reducible exact List.Mem.head _ | with_reducible apply List.Mem.tail)); done) | ((repeat (first | exact List.Mem.head _ | apply List.Mem.tail)); done))) (by kernel_rfl)) ?_
      refine tk 8 57 ?_
      refine rone 9 rfl fun K' hK => ?_
      refine s_wr ?_ HM (Wr.mput LO (x := k) (y := .slice A j c) rfl rfl rfl rfl (by (first | ((repeat (first | with_reducible exact Upd.head _ | with_reducible apply Upd.tail)); done) | ((repeat (first | exact Upd.head _ | apply Upd.tail)); done)))) (by kernel_rfl)
      clear HM HB
      intro w _ HM HB
      refine hK.out _ _ (HM.out.three) (fun hS2 => ?_)
      clear hS hK
      have hS := hS2
      clear hS2
      try simp only [Act.put, List.setIfInBounds_toArray, List.set_cons_zero, List.set_cons_succ]
      refine wpAnyH_done (by kernel_rfl) ?_ _
      clear hS
      go_wp2_with fail
      go_ret
      refine ⟨rfl, Lib.hid ?_⟩
      rw [← HQ.out, hj]
      exact HM.out.tail.perm (by ((repeat (first | exact List.Perm.refl _ | (refine List.Perm.trans (Del.perm (by (first | ((repeat (first | with_reducible exact Del.head _ | with_reducible apply Del.tail)); done) | ((repeat (first | exact Del.head _ | apply Del.tail)); done)))) (List.Perm.cons _ ?_)))); done))
end Go.Proofs.Ytapncdgeigbgmaa.Tb
