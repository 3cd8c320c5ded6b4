/- Package flow: Note, where it counts. -/
import Derived.Test.YtkfjobanbnokoaaVl
set_option linter.unusedSimpArgs false
set_option linter.unusedVariables false
set_option linter.unusedSectionVars false
set_option maxRecDepth 100000
namespace Go.Proofs.Ytkfjobanbnokoaa.Fw
open Go.RowKit Go.Proofs.YtkfjobanbnokoaaW.PrintWords Go.Proofs.Ytkfjobanbnokoaa.Bs Go.Proofs.Ytkfjobanbnokoaa.Gm

section
variable {w0 w : World} {es : List Ent} {bt bm n N : Nat} {room a d : Int} {A : Option Addr} {c : Nat} {l l' : List (Flow × Tal)} {is : Bool} {cf ck cx c1 c2 c3 : Array Value}
set_option maxHeartbeats 8000000 in
theorem note_put_true (HM : HMem w0 w (tblB bt room bm :: mapE MT bm l :: es)) (HO : Hid (Calls Try.prog 8 #[.slice A n c] w fun e w' => e = .returned (.tuple #[.agg cf, .int .i64 0]) ∧ Below w.heap.size w w'))
    (HT : Hid (∀ w0, Calls Try.prog 13 #[.agg cf] w0 fun e w' => e = .returned (.agg ck) ∧ Below w0.heap.size w0 w')) (HZ : Hid (Cells 28 cf)) (HK : Hid (Cells 28 ck)) (HX : Hid (Cells 57 cx)) (HC3 : Hid (Cells 57 c3)) (EQ1 : Hid (EqlOf 28 cf ck true))
    (HLK : Hid (∀ {es : List Ent} (op : Oper) (a : Act) {tm tk : Operand}, op.op = .lookup 75 tm tk true → a.eval tm = .map (some bm) → a.eval tk = .agg ck → mapE MT bm l ∈ es → Rd w0 es op a (.tuple #[.agg cx, .bool is])))
    (HPT : Hid (∀ {es es' : List Ent} (op : Oper) (a : Act) {tm tk tx : Operand}, op.op = .mapUpdate 75 tm tk tx → a.eval tm = .map (some bm) → a.eval tk = .agg ck → a.eval tx = .agg c3 → (Unit → Upd (mapE MT bm l) (mapE MT bm l') es es') → Wr w0 es op a (fun _ => undef) (fun _ => es')))
    (hN : l.length = N) (hfull : is = false → decide (room ≤ (N : Int)) = false) (SP1 : Hid (PartTo 28 cx 0 ck c1)) (CV1 : Hid (c1[38]? = some (.int .i64 a))) (CV2 : Hid (c1[40]? = some (.int .i64 d))) (ha : IntKind.i64.wrap (a + 1) = a + 1) (hd : IntKind.i64.wrap (d + n) = d + n) (PU1 : Hid (c1.setIfInBounds 38 (.int .i64 (a + 1)) = c2)) (CV3 : Hid (c2[40]? = some (.int .i64 d))) (PU2 : Hid (c2.setIfInBounds 40 (.int .i64 (d + n)) = c3)) :
    Calls Try.prog 20 #[.pointer (some ⟨bt, 0, none⟩), .slice A n c] w fun e w' => e = .returned (.int .i64 0) ∧ HMem w0 w' (tblB bt room bm :: mapE MT bm l' :: es) := by
  have AL1 := Lib.hid zeroFlow
  have AL2 := Lib.hid zeroTal
  have heq := eqMapT
  have hcell := tbl_cell HM.out (List.Mem.head _)
  have HB := HM.out.below
  generalize flowC zF = zf at AL1
  generalize tallyC zT = zt at AL2
  cases is
  · have hfu := hfull rfl
    clear hfull
    go_enter Try.func20, Try.ntmps20
    go_wp2_with fail
    refine HO.out.mono ?_
    rintro e w ⟨rfl, hb⟩
    replace HM := Lib.hid (HM.out.call hb)
    replace HB := HM.out.below
    clear hb hcell
    go_wp2_with (first | (refine m_wr ?_ HM (Wr.alloc rfl AL1.out.1 AL1.out.2) (wanted_none rfl); clear HM HB; intro w b5 HM HB) | refine m_rd ?_ | (refine m_wr ?_; clear HM HB; intro w b HM HB; try clear b) | fail)
    refine (HT.out w).mono ?_
    rintro e w ⟨rfl, hb⟩
    replace HM := Lib.hid (HM.out.call hb)
    replace HB := HM.out.below
    clear hb
    go_wp2_with (first | (refine m_wr ?_ HM (Wr.alloc rfl AL1.out.1 AL1.out.2) (wanted_none rfl); clear HM HB; intro w b7 HM HB) | refine m_rd ?_ | (refine m_wr ?_; clear HM HB; intro w b HM HB; try clear b) | fail)
    apply region_cut1 (w0 := w0) (fun (b8 : Nat) => .blk b8 cx 57 :: .blk b7 ck 28 :: .blk b5 cf 28 :: tblB bt room bm :: mapE MT bm l :: es)
    case h =>
      try simp only [Act.put, List.setIfInBounds_toArray, List.set_cons_zero, List.set_cons_succ]
      refine wp_region_held_drew (S := fun w' => Mem w0 w' [Ent.blk b7 ck 28, tblB bt room bm]) (by kernel_rfl) (HM.out.drew.sub (by repeat (first | exact List.nil_sublist _ | apply List.Sublist.cons_cons | apply List.Sublist.cons))) (fun hS => ?_)
      replace HM := Lib.hid HM.out.drew
      replace HB := HM.out.below
      refine tk 0 30 ?_
      refine tk 1 31 ?_
      refine tk 2 32 ?_
      refine tkv 3 33 (.map (some bm)) rfl (yields_cell rfl (by kernel_rfl) rfl (fun _ h => h) (by (first | ((repeat (first | with_reducible exact List.Mem.head _ | with_reducible apply List.Mem.tail)); done) | ((repeat (first | exact List.Mem.head _ | apply List.Mem.tail)); done))) rfl (by kernel_rfl)) ?_
      refine tkv 4 34 (.agg ck) rfl (yields_own rfl rfl (fun _ h => h) (by (first | ((repeat (first | with_reducible exact List.Mem.head _ | with_reducible apply List.Mem.tail)); done) | ((repeat (first | exact List.Mem.head _ | apply List.Mem.tail)); done))) Try.underlying28 rfl HK.out.1 (by kernel_rfl)) ?_
      refine wpAnyH_ready (rs := [5, 9]) (by kernel_rfl) (by simp) (rmore 5 rfl (fun K' hK => ?_) (rmore 9 rfl (fun K' hK => ?_) AllReadyH.nil))
      · refine s_rd ?_ HM (HLK.out _ _ rfl rfl rfl (by (first | ((repeat (first | with_reducible exact List.Mem.head _ | with_reducible apply List.Mem.tail)); done) | ((repeat (first | exact List.Mem.head _ | apply List.Mem.tail)); done)))) (by kernel_rfl)
        refine hK.out _ _ (HM.out.sub (by repeat (first | exact List.nil_sublist _ | apply List.Sublist.cons_cons | apply List.Sublist.cons))) (fun hS2 => ?_)
        clear hS hK
        have hS := hS2
        clear hS2
        try simp only [Act.put, List.setIfInBounds_toArray, List.set_cons_zero, List.set_cons_succ]
        refine tk 6 29 ?_
        refine tk 7 36 ?_
        refine tk 8 37 ?_
        refine rone 9 rfl fun K' hK => ?_
        refine s_wr ?_ HM (Wr.alloc rfl AL2.out.1 AL2.out.2) (by kernel_rfl)
        clear HM HB
        intro w b8 HM HB
        refine hK.out _ _ (HM.out.sub (by repeat (first | exact List.nil_sublist _ | apply List.Sublist.cons_cons | apply List.Sublist.cons))) (fun hS2 => ?_)
        clear hS hK
        have hS := hS2
        clear hS2
        try simp only [Act.put, List.setIfInBounds_toArray, List.set_cons_zero, List.set_cons_succ]
        refine rone 10 rfl fun K' hK => ?_
        refine s_wr ?_ HM (Wr.whole rfl rfl rfl (by (first | ((repeat (first | with_reducible exact Upd.head _ | with_reducible apply Upd.tail)); done) | ((repeat (first | exact Upd.head _ | apply Upd.tail)); done))) HX.out) (by kernel_rfl)
        clear HM HB
        intro w _ HM HB
        refine hK.out _ _ (HM.out.sub (by repeat (first | exact List.nil_sublist _ | apply List.Sublist.cons_cons | apply List.Sublist.cons))) (fun hS2 => ?_)
        clear hS hK
        have hS := hS2
        clear hS2
        try simp only [Act.put, List.setIfInBounds_toArray, List.set_cons_zero, List.set_cons_succ]
        refine tk 11 9 ?_
        refine wpAnyH_done (by kernel_rfl) ?_ _
        clear hS
        exact leaf1 HM b8 (List.Perm.refl _) rfl
      · refine s_wr ?_ HM (Wr.alloc rfl AL2.out.1 AL2.out.2) (by kernel_rfl)
        clear HM HB
        intro w b8 HM HB
        refine hK.out _ _ (HM.out.sub (by repeat (first | exact List.nil_sublist _ | apply List.Sublist.cons_cons | apply List.Sublist.cons))) (fun hS2 => ?_)
        clear hS hK
        have hS := hS2
        clear hS2
        try simp only [Act.put, List.setIfInBounds_toArray, List.set_cons_zero, List.set_cons_succ]
        refine rone 5 rfl fun K' hK => ?_
        refine s_rd ?_ HM (HLK.out _ _ rfl rfl rfl (by (first | ((repeat (first | with_reducible exact List.Mem.head _ | with_reducible apply List.Mem.tail)); done) | ((repeat (first | exact List.Mem.head _ | apply List.Mem.tail)); done)))) (by kernel_rfl)
        refine hK.out _ _ (HM.out.sub (by repeat (first | exact List.nil_sublist _ | apply List.Sublist.cons_cons | apply List.Sublist.cons))) (fun hS2 => ?_)
        clear hS hK
        have hS := hS2
        clear hS2
        try simp only [Act.put, List.setIfInBounds_toArray, List.set_cons_zero, List.set_cons_succ]
        refine tk 6 29 ?_
        refine tk 7 36 ?_
        refine tk 8 37 ?_
        refine rone 10 rfl fun K' hK => ?_
        refine s_wr ?_ HM (Wr.whole rfl rfl rfl (by (first | ((repeat (first | with_reducible exact Upd.head _ | with_reducible apply Upd.tail)); done) | ((repeat (first | exact Upd.head _ | apply Upd.tail)); done))) HX.out) (by kernel_rfl)
        clear HM HB
        intro w _ HM HB
        refine hK.out _ _ (HM.out.sub (by repeat (first | exact List.nil_sublist _ | apply List.Sublist.cons_cons | apply List.Sublist.cons))) (fun hS2 => ?_)
        clear hS hK
        have hS := hS2
        clear hS2
        try simp only [Act.put, List.setIfInBounds_toArray, List.set_cons_zero, List.set_cons_succ]
        refine tk 11 9 ?_
        refine wpAnyH_done (by kernel_rfl) ?_ _
        clear hS
        exact leaf1 HM b8 (List.Perm.refl _) rfl
    case k =>
      intro b8 w HM
      have HB := HM.out.below
      go_wp2_with fail
      try simp only [Act.put, List.setIfInBounds_toArray, List.set_cons_zero, List.set_cons_succ]
      refine wp_region_held_drew (S := fun w' => Mem w0 w' [tblB bt room bm, mapE MT bm l]) (by kernel_rfl) (HM.out.drew.sub (by repeat (first | exact List.nil_sublist _ | apply List.Sublist.cons_cons | apply List.Sublist.cons))) (fun hS => ?_)
      replace HM := Lib.hid HM.out.drew
      replace HB := HM.out.below
      refine tk 0 38 ?_
      refine tk 1 39 ?_
      refine tk 2 40 ?_
      refine tk 3 41 ?_
      refine tk 4 42 ?_
      refine tk 5 43 ?_
      refine tkv 6 44 (.map (some bm)) rfl (yields_cell rfl (by kernel_rfl) rfl (fun _ h => h) (by (first | ((repeat (first | with_reducible exact List.Mem.head _ | with_reducible apply List.Mem.tail)); done) | ((repeat (first | exact List.Mem.head _ | apply List.Mem.tail)); done))) rfl (by kernel_rfl)) ?_
      refine tkv 7 45 (.int .i64 N) rfl (yields_mlen LT rfl rfl (fun _ h => h) (by (first | ((repeat (first | with_reducible exact List.Mem.head _ | with_reducible apply List.Mem.tail)); done) | ((repeat (first | exact List.Mem.head _ | apply List.Mem.tail)); done))) hN (by kernel_rfl)) ?_
      refine tk 8 46 ?_
      refine tk 9 47 ?_
      refine tk 10 48 ?_
      refine tkv 11 49 (.int .i64 room) rfl (yields_cell rfl (by kernel_rfl) rfl (fun _ h => h) (by (first | ((repeat (first | with_reducible exact List.Mem.head _ | with_reducible apply List.Mem.tail)); done) | ((repeat (first | exact List.Mem.head _ | apply List.Mem.tail)); done))) rfl (by kernel_rfl)) ?_
      refine tk 12 50 ?_
      refine tk 13 51 ?_
      refine wpAnyH_done (by kernel_rfl) ?_ _
      clear hS
      go_wp2_with (first | refine m_rd ?_ | (refine m_wr ?_; clear HM HB; intro w b HM HB; try clear b) | fail)
      try simp only [Act.put, List.setIfInBounds_toArray, List.set_cons_zero, List.set_cons_succ]
      refine wp_region_held_drew (S := fun w' => Mem w0 w' [Ent.blk b8 c3 57, Ent.blk b7 ck 28, tblB bt room bm]) (by kernel_rfl) (HM.out.drew.sub (by repeat (first | exact List.nil_sublist _ | apply List.Sublist.cons_cons | apply List.Sublist.cons))) (fun hS => ?_)
      replace HM := Lib.hid HM.out.drew
      replace HB := HM.out.below
      refine tk 0 77 ?_
      refine tk 1 78 ?_
      refine tk 2 79 ?_
      refine tkv 3 80 (.map (some bm)) rfl (yields_cell rfl (by kernel_rfl) rfl (fun _ h => h) (by (first | ((repeat (first | with_reducible exact List.Mem.head _ | with_reducible apply List.Mem.tail)); done) | ((repeat (first | exact List.Mem.head _ | apply List.Mem.tail)); done))) rfl (by kernel_rfl)) ?_
      refine tkv 4 81 (.agg ck) rfl (yields_own rfl rfl (fun _ h => h) (by (first | ((repeat (first | with_reducible exact List.Mem.head _ | with_reducible apply List.Mem.tail)); done) | ((repeat (first | exact List.Mem.head _ | apply List.Mem.tail)); done))) Try.underlying28 rfl HK.out.1 (by kernel_rfl)) ?_
      refine tkv 5 82 (.agg c3) rfl (yields_own rfl rfl (fun _ h => h) (by (first | ((repeat (first | with_reducible exact List.Mem.head _ | with_reducible apply List.Mem.tail)); done) | ((repeat (first | exact List.Mem.head _ | apply List.Mem.tail)); done))) Try.underlying57 rfl HC3.out.1 (by kernel_rfl)) ?_
      refine rone 6 rfl fun K' hK => ?_
      refine s_wr ?_ HM (HPT.out _ _ rfl rfl rfl rfl (fun _ => by (first | ((repeat (first | with_reducible exact Upd.head _ | with_reducible apply Upd.tail)); done) | ((repeat (first | exact Upd.head _ | apply Upd.tail)); done)))) (by kernel_rfl)
      clear HM HB
      intro w _ HM HB
      refine hK.out _ _ (HM.out.sub (by repeat (first | exact List.nil_sublist _ | apply List.Sublist.cons_cons | apply List.Sublist.cons))) (fun hS2 => ?_)
      clear hS hK
      have hS := hS2
      clear hS2
      try simp only [Act.put, List.setIfInBounds_toArray, List.set_cons_zero, List.set_cons_succ]
      refine wpAnyH_done (by kernel_rfl) ?_ _
      clear hS
      go_wp2_with fail
      go_ret
      exact ⟨rfl, Lib.hid HM.out.tail.tail.tail⟩
  · clear hfull
    go_enter Try.func20, Try.ntmps20
    go_wp2_with fail
    refine HO.out.mono ?_
    rintro e w ⟨rfl, hb⟩
    replace HM := Lib.hid (HM.out.call hb)
    replace HB := HM.out.below
    clear hb hcell
    go_wp2_with (first | (refine m_wr ?_ HM (Wr.alloc rfl AL1.out.1 AL1.out.2) (wanted_none rfl); clear HM HB; intro w b5 HM HB) | refine m_rd ?_ | (refine m_wr ?_; clear HM HB; intro w b HM HB; try clear b) | fail)
    refine (HT.out w).mono ?_
    rintro e w ⟨rfl, hb⟩
    replace HM := Lib.hid (HM.out.call hb)
    replace HB := HM.out.below
    clear hb
    go_wp2_with (first | (refine m_wr ?_ HM (Wr.alloc rfl AL1.out.1 AL1.out.2) (wanted_none rfl); clear HM HB; intro w b7 HM HB) | refine m_rd ?_ | (refine m_wr ?_; clear HM HB; intro w b HM HB; try clear b) | fail)
    apply region_cut1 (w0 := w0) (fun (b8 : Nat) => .blk b8 cx 57 :: .blk b7 ck 28 :: .blk b5 cf 28 :: tblB bt room bm :: mapE MT bm l :: es)
    case h =>
      try simp only [Act.put, List.setIfInBounds_toArray, List.set_cons_zero, List.set_cons_succ]
      refine wp_region_held_drew (S := fun w' => Mem w0 w' [Ent.blk b7 ck 28, tblB bt room bm]) (by kernel_rfl) (HM.out.drew.sub (by repeat (first | exact List.nil_sublist _ | apply List.Sublist.cons_cons | apply List.Sublist.cons))) (fun hS => ?_)
      replace HM := Lib.hid HM.out.drew
      replace HB := HM.out.below
      refine tk 0 30 ?_
      refine tk 1 31 ?_
      refine tk 2 32 ?_
      refine tkv 3 33 (.map (some bm)) rfl (yields_cell rfl (by kernel_rfl) rfl (fun _ h => h) (by (first | ((repeat (first | with_reducible exact List.Mem.head _ | with_reducible apply List.Mem.tail)); done) | ((repeat (first | exact List.Mem.head _ | apply List.Mem.tail)); done))) rfl (by kernel_rfl)) ?_
      refine tkv 4 34 (.agg ck) rfl (yields_own rfl rfl (fun _ h => h) (by (first | ((repeat (first | with_reducible exact List.Mem.head _ | with_reducible apply List.Mem.tail)); done) | ((repeat (first | exact List.Mem.head _ | apply List.Mem.tail)); done))) Try.underlying28 rfl HK.out.1 (by kernel_rfl)) ?_
      refine wpAnyH_ready (rs := [5, 9]) (by kernel_rfl) (by simp) (rmore 5 rfl (fun K' hK => ?_) (rmore 9 rfl (fun K' hK => ?_) AllReadyH.nil))
      · refine s_rd ?_ HM (HLK.out _ _ rfl rfl rfl (by (first | ((repeat (first | with_reducible exact List.Mem.head _ | with_reducible apply List.Mem.tail)); done) | ((repeat (first | exact List.Mem.head _ | apply List.Mem.tail)); done)))) (by kernel_rfl)
        refine hK.out _ _ (HM.out.sub (by repeat (first | exact List.nil_sublist _ | apply List.Sublist.cons_cons | apply List.Sublist.cons))) (fun hS2 => ?_)
        clear hS hK
        have hS := hS2
        clear hS2
        try simp only [Act.put, List.setIfInBounds_toArray, List.set_cons_zero, List.set_cons_succ]
        refine tk 6 29 ?_
        refine tk 7 36 ?_
        refine tk 8 37 ?_
        refine rone 9 rfl fun K' hK => ?_
        refine s_wr ?_ HM (Wr.alloc rfl AL2.out.1 AL2.out.2) (by kernel_rfl)
        clear HM HB
        intro w b8 HM HB
        refine hK.out _ _ (HM.out.sub (by repeat (first | exact List.nil_sublist _ | apply List.Sublist.cons_cons | apply List.Sublist.cons))) (fun hS2 => ?_)
        clear hS hK
        have hS := hS2
        clear hS2
        try simp only [Act.put, List.setIfInBounds_toArray, List.set_cons_zero, List.set_cons_succ]
        refine rone 10 rfl fun K' hK => ?_
        refine s_wr ?_ HM (Wr.whole rfl rfl rfl (by (first | ((repeat (first | with_reducible exact Upd.head _ | with_reducible apply Upd.tail)); done) | ((repeat (first | exact Upd.head _ | apply Upd.tail)); done))) HX.out) (by kernel_rfl)
        clear HM HB
        intro w _ HM HB
        refine hK.out _ _ (HM.out.sub (by repeat (first | exact List.nil_sublist _ | apply List.Sublist.cons_cons | apply List.Sublist.cons))) (fun hS2 => ?_)
        clear hS hK
        have hS := hS2
        clear hS2
        try simp only [Act.put, List.setIfInBounds_toArray, List.set_cons_zero, List.set_cons_succ]
        refine tk 11 9 ?_
        refine wpAnyH_done (by kernel_rfl) ?_ _
        clear hS
        exact leaf1 HM b8 (List.Perm.refl _) rfl
      · refine s_wr ?_ HM (Wr.alloc rfl AL2.out.1 AL2.out.2) (by kernel_rfl)
        clear HM HB
        intro w b8 HM HB
        refine hK.out _ _ (HM.out.sub (by repeat (first | exact List.nil_sublist _ | apply List.Sublist.cons_cons | apply List.Sublist.cons))) (fun hS2 => ?_)
        clear hS hK
        have hS := hS2
        clear hS2
        try simp only [Act.put, List.setIfInBounds_toArray, List.set_cons_zero, List.set_cons_succ]
        refine rone 5 rfl fun K' hK => ?_
        refine s_rd ?_ HM (HLK.out _ _ rfl rfl rfl (by (first | ((repeat (first | with_reducible exact List.Mem.head _ | with_reducible apply List.Mem.tail)); done) | ((repeat (first | exact List.Mem.head _ | apply List.Mem.tail)); done)))) (by kernel_rfl)
        refine hK.out _ _ (HM.out.sub (by repeat (first | exact List.nil_sublist _ | apply List.Sublist.cons_cons | apply List.Sublist.cons))) (fun hS2 => ?_)
        clear hS hK
        have hS := hS2
        clear hS2
        try simp only [Act.put, List.setIfInBounds_toArray, List.set_cons_zero, List.set_cons_succ]
        refine tk 6 29 ?_
        refine tk 7 36 ?_
        refine tk 8 37 ?_
        refine rone 10 rfl fun K' hK => ?_
        refine s_wr ?_ HM (Wr.whole rfl rfl rfl (by (first | ((repeat (first | with_reducible exact Upd.head _ | with_reducible apply Upd.tail)); done) | ((repeat (first | exact Upd.head _ | apply Upd.tail)); done))) HX.out) (by kernel_rfl)
        clear HM HB
        intro w _ HM HB
        refine hK.out _ _ (HM.out.sub (by repeat (first | exact List.nil_sublist _ | apply List.Sublist.cons_cons | apply List.Sublist.cons))) (fun hS2 => ?_)
        clear hS hK
        have hS := hS2
        clear hS2
        try simp only [Act.put, List.setIfInBounds_toArray, List.set_cons_zero, List.set_cons_succ]
        refine tk 11 9 ?_
        refine wpAnyH_done (by kernel_rfl) ?_ _
        clear hS
        exact leaf1 HM b8 (List.Perm.refl _) rfl
    case k =>
      intro b8 w HM
      have HB := HM.out.below
      go_wp2_with fail
      try simp only [Act.put, List.setIfInBounds_toArray, List.set_cons_zero, List.set_cons_succ]
      refine wp_region_held_drew (S := fun w' => Mem w0 w' [tblB bt room bm, mapE MT bm l]) (by kernel_rfl) (HM.out.drew.sub (by repeat (first | exact List.nil_sublist _ | apply List.Sublist.cons_cons | apply List.Sublist.cons))) (fun hS => ?_)
      replace HM := Lib.hid HM.out.drew
      replace HB := HM.out.below
      refine tk 0 38 ?_
      refine tk 1 39 ?_
      refine tk 2 40 ?_
      refine tku 3 41 ?_
      refine tku 4 42 ?_
      refine tku 5 43 ?_
      refine tku 6 44 ?_
      refine tku 7 45 ?_
      refine tku 8 46 ?_
      refine tku 9 47 ?_
      refine tku 10 48 ?_
      refine tku 11 49 ?_
      refine tku 12 50 ?_
      refine tk 13 51 ?_
      refine wpAnyH_done (by kernel_rfl) ?_ _
      clear hS
      go_wp2_with (first | refine m_rd ?_ | (refine m_wr ?_; clear HM HB; intro w b HM HB; try clear b) | fail)
      try simp only [Act.put, List.setIfInBounds_toArray, List.set_cons_zero, List.set_cons_succ]
      refine wp_region_held_drew (S := fun w' => Mem w0 w' [Ent.blk b8 c3 57, Ent.blk b7 ck 28, tblB bt room bm]) (by kernel_rfl) (HM.out.drew.sub (by repeat (first | exact List.nil_sublist _ | apply List.Sublist.cons_cons | apply List.Sublist.cons))) (fun hS => ?_)
      replace HM := Lib.hid HM.out.drew
      replace HB := HM.out.below
      refine tk 0 77 ?_
      refine tk 1 78 ?_
      refine tk 2 79 ?_
      refine tkv 3 80 (.map (some bm)) rfl (yields_cell rfl (by kernel_rfl) rfl (fun _ h => h) (by (first | ((repeat (first | with_reducible exact List.Mem.head _ | with_reducible apply List.Mem.tail)); done) | ((repeat (first | exact List.Mem.head _ | apply List.Mem.tail)); done))) rfl (by kernel_rfl)) ?_
      refine tkv 4 81 (.agg ck) rfl (yields_own rfl rfl (fun _ h => h) (by (first | ((repeat (first | with_reducible exact List.Mem.head _ | with_reducible apply List.Mem.tail)); done) | ((repeat (first | exact List.Mem.head _ | apply List.Mem.tail)); done))) Try.underlying28 rfl HK.out.1 (by kernel_rfl)) ?_
      refine tkv 5 82 (.agg c3) rfl (yields_own rfl rfl (fun _ h => h) (by (first | ((repeat (first | with_reducible exact List.Mem.head _ | with_reducible apply List.Mem.tail)); done) | ((repeat (first | exact List.Mem.head _ | apply List.Mem.tail)); done))) Try.underlying57 rfl HC3.out.1 (by kernel_rfl)) ?_
      refine rone 6 rfl fun K' hK => ?_
      refine s_wr ?_ HM (HPT.out _ _ rfl rfl rfl rfl (fun _ => by (first | ((repeat (first | with_reducible exact Upd.head _ | with_reducible apply Upd.tail)); done) | ((repeat (first | exact Upd.head _ | apply Upd.tail)); done)))) (by kernel_rfl)
      clear HM HB
      intro w _ HM HB
      refine hK.out _ _ (HM.out.sub (by repeat (first | exact List.nil_sublist _ | apply List.Sublist.cons_cons | apply List.Sublist.cons))) (fun hS2 => ?_)
      clear hS hK
      have hS := hS2
      clear hS2
      try simp only [Act.put, List.setIfInBounds_toArray, List.set_cons_zero, List.set_cons_succ]
      refine wpAnyH_done (by kernel_rfl) ?_ _
      clear hS
      go_wp2_with fail
      go_ret
      exact ⟨rfl, Lib.hid HM.out.tail.tail.tail⟩
set_option maxHeartbeats 8000000 in
theorem note_put_false (HM : HMem w0 w (tblB bt room bm :: mapE MT bm l :: es)) (HO : Hid (Calls Try.prog 8 #[.slice A n c] w fun e w' => e = .returned (.tuple #[.agg cf, .int .i64 0]) ∧ Below w.heap.size w w'))
    (HT : Hid (∀ w0, Calls Try.prog 13 #[.agg cf] w0 fun e w' => e = .returned (.agg ck) ∧ Below w0.heap.size w0 w')) (HZ : Hid (Cells 28 cf)) (HK : Hid (Cells 28 ck)) (HX : Hid (Cells 57 cx)) (HC3 : Hid (Cells 57 c3)) (EQ1 : Hid (EqlOf 28 cf ck false))
    (HLK : Hid (∀ {es : List Ent} (op : Oper) (a : Act) {tm tk : Operand}, op.op = .lookup 75 tm tk true → a.eval tm = .map (some bm) → a.eval tk = .agg ck → mapE MT bm l ∈ es → Rd w0 es op a (.tuple #[.agg cx, .bool is])))
    (HPT : Hid (∀ {es es' : List Ent} (op : Oper) (a : Act) {tm tk tx : Operand}, op.op = .mapUpdate 75 tm tk tx → a.eval tm = .map (some bm) → a.eval tk = .agg ck → a.eval tx = .agg c3 → (Unit → Upd (mapE MT bm l) (mapE MT bm l') es es') → Wr w0 es op a (fun _ => undef) (fun _ => es')))
    (hN : l.length = N) (hfull : is = false → decide (room ≤ (N : Int)) = false) (SP1 : Hid (PartTo 28 cx 0 ck c1)) (CV1 : Hid (c1[39]? = some (.int .i64 a))) (CV2 : Hid (c1[41]? = some (.int .i64 d))) (ha : IntKind.i64.wrap (a + 1) = a + 1) (hd : IntKind.i64.wrap (d + n) = d + n) (PU1 : Hid (c1.setIfInBounds 39 (.int .i64 (a + 1)) = c2)) (CV3 : Hid (c2[41]? = some (.int .i64 d))) (PU2 : Hid (c2.setIfInBounds 41 (.int .i64 (d + n)) = c3)) :
    Calls Try.prog 20 #[.pointer (some ⟨bt, 0, none⟩), .slice A n c] w fun e w' => e = .returned (.int .i64 0) ∧ HMem w0 w' (tblB bt room bm :: mapE MT bm l' :: es) := by
  have AL1 := Lib.hid zeroFlow
  have AL2 := Lib.hid zeroTal
  have heq := eqMapT
  have hcell := tbl_cell HM.out (List.Mem.head _)
  have HB := HM.out.below
  generalize flowC zF = zf at AL1
  generalize tallyC zT = zt at AL2
  cases is
  · have hfu := hfull rfl
    clear hfull
    go_enter Try.func20, Try.ntmps20
    go_wp2_with fail
    refine HO.out.mono ?_
    rintro e w ⟨rfl, hb⟩
    replace HM := Lib.hid (HM.out.call hb)
    replace HB := HM.out.below
    clear hb hcell
    go_wp2_with (first | (refine m_wr ?_ HM (Wr.alloc rfl AL1.out.1 AL1.out.2) (wanted_none rfl); clear HM HB; intro w b5 HM HB) | refine m_rd ?_ | (refine m_wr ?_; clear HM HB; intro w b HM HB; try clear b) | fail)
    refine (HT.out w).mono ?_
    rintro e w ⟨rfl, hb⟩
    replace HM := Lib.hid (HM.out.call hb)
    replace HB := HM.out.below
    clear hb
    go_wp2_with (first | (refine m_wr ?_ HM (Wr.alloc rfl AL1.out.1 AL1.out.2) (wanted_none rfl); clear HM HB; intro w b7 HM HB) | refine m_rd ?_ | (refine m_wr ?_; clear HM HB; intro w b HM HB; try clear b) | fail)
    apply region_cut1 (w0 := w0) (fun (b8 : Nat) => .blk b8 cx 57 :: .blk b7 ck 28 :: .blk b5 cf 28 :: tblB bt room bm :: mapE MT bm l :: es)
    case h =>
      try simp only [Act.put, List.setIfInBounds_toArray, List.set_cons_zero, List.set_cons_succ]
      refine wp_region_held_drew (S := fun w' => Mem w0 w' [Ent.blk b7 ck 28, tblB bt room bm]) (by kernel_rfl) (HM.out.drew.sub (by repeat (first | exact List.nil_sublist _ | apply List.Sublist.cons_cons | apply List.Sublist.cons))) (fun hS => ?_)
      replace HM := Lib.hid HM.out.drew
      replace HB := HM.out.below
      refine tk 0 30 ?_
      refine tk 1 31 ?_
      refine tk 2 32 ?_
      refine tkv 3 33 (.map (some bm)) rfl (yields_cell rfl (by kernel_rfl) rfl (fun _ h => h) (by (first | ((repeat (first | with_reducible exact List.Mem.head _ | with_reducible apply List.Mem.tail)); done) | ((repeat (first | exact List.Mem.head _ | apply List.Mem.tail)); done))) rfl (by kernel_rfl)) ?_
      refine tkv 4 34 (.agg ck) rfl (yields_own rfl rfl (fun _ h => h) (by (first | ((repeat (first | with_reducible exact List.Mem.head _ | with_reducible apply List.Mem.tail)); done) | ((repeat (first | exact List.Mem.head _ | apply List.Mem.tail)); done))) Try.underlying28 rfl HK.out.1 (by kernel_rfl)) ?_
      refine wpAnyH_ready (rs := [5, 9]) (by kernel_rfl) (by simp) (rmore 5 rfl (fun K' hK => ?_) (rmore 9 rfl (fun K' hK => ?_) AllReadyH.nil))
      · refine s_rd ?_ HM (HLK.out _ _ rfl rfl rfl (by (first | ((repeat (first | with_reducible exact List.Mem.head _ | with_reducible apply List.Mem.tail)); done) | ((repeat (first | exact List.Mem.head _ | apply List.Mem.tail)); done)))) (by kernel_rfl)
        refine hK.out _ _ (HM.out.sub (by repeat (first | exact List.nil_sublist _ | apply List.Sublist.cons_cons | apply List.Sublist.cons))) (fun hS2 => ?_)
        clear hS hK
        have hS := hS2
        clear hS2
        try simp only [Act.put, List.setIfInBounds_toArray, List.set_cons_zero, List.set_cons_succ]
        refine tk 6 29 ?_
        refine tk 7 36 ?_
        refine tk 8 37 ?_
        refine rone 9 rfl fun K' hK => ?_
        refine s_wr ?_ HM (Wr.alloc rfl AL2.out.1 AL2.out.2) (by kernel_rfl)
        clear HM HB
        intro w b8 HM HB
        refine hK.out _ _ (HM.out.sub (by repeat (first | exact List.nil_sublist _ | apply List.Sublist.cons_cons | apply List.Sublist.cons))) (fun hS2 => ?_)
        clear hS hK
        have hS := hS2
        clear hS2
        try simp only [Act.put, List.setIfInBounds_toArray, List.set_cons_zero, List.set_cons_succ]
        refine rone 10 rfl fun K' hK => ?_
        refine s_wr ?_ HM (Wr.whole rfl rfl rfl (by (first | ((repeat (first | with_reducible exact Upd.head _ | with_reducible apply Upd.tail)); done) | ((repeat (first | exact Upd.head _ | apply Upd.tail)); done))) HX.out) (by kernel_rfl)
        clear HM HB
        intro w _ HM HB
        refine hK.out _ _ (HM.out.sub (by repeat (first | exact List.nil_sublist _ | apply List.Sublist.cons_cons | apply List.Sublist.cons))) (fun hS2 => ?_)
        clear hS hK
        have hS := hS2
        clear hS2
        try simp only [Act.put, List.setIfInBounds_toArray, List.set_cons_zero, List.set_cons_succ]
        refine tk 11 9 ?_
        refine wpAnyH_done (by kernel_rfl) ?_ _
        clear hS
        exact leaf1 HM b8 (List.Perm.refl _) rfl
      · refine s_wr ?_ HM (Wr.alloc rfl AL2.out.1 AL2.out.2) (by kernel_rfl)
        clear HM HB
        intro w b8 HM HB
        refine hK.out _ _ (HM.out.sub (by repeat (first | exact List.nil_sublist _ | apply List.Sublist.cons_cons | apply List.Sublist.cons))) (fun hS2 => ?_)
        clear hS hK
        have hS := hS2
        clear hS2
        try simp only [Act.put, List.setIfInBounds_toArray, List.set_cons_zero, List.set_cons_succ]
        refine rone 5 rfl fun K' hK => ?_
        refine s_rd ?_ HM (HLK.out _ _ rfl rfl rfl (by (first | ((repeat (first | with_reducible exact List.Mem.head _ | with_reducible apply List.Mem.tail)); done) | ((repeat (first | exact List.Mem.head _ | apply List.Mem.tail)); done)))) (by kernel_rfl)
        refine hK.out _ _ (HM.out.sub (by repeat (first | exact List.nil_sublist _ | apply List.Sublist.cons_cons | apply List.Sublist.cons))) (fun hS2 => ?_)
        clear hS hK
        have hS := hS2
        clear hS2
        try simp only [Act.put, List.setIfInBounds_toArray, List.set_cons_zero, List.set_cons_succ]
        refine tk 6 29 ?_
        refine tk 7 36 ?_
        refine tk 8 37 ?_
        refine rone 10 rfl fun K' hK => ?_
        refine s_wr ?_ HM (Wr.whole rfl rfl rfl (by (first | ((repeat (first | with_reducible exact Upd.head _ | with_reducible apply Upd.tail)); done) | ((repeat (first | exact Upd.head _ | apply Upd.tail)); done))) HX.out) (by kernel_rfl)
        clear HM HB
        intro w _ HM HB
        refine hK.out _ _ (HM.out.sub (by repeat (first | exact List.nil_sublist _ | apply List.Sublist.cons_cons | apply List.Sublist.cons))) (fun hS2 => ?_)
        clear hS hK
        have hS := hS2
        clear hS2
        try simp only [Act.put, List.setIfInBounds_toArray, List.set_cons_zero, List.set_cons_succ]
        refine tk 11 9 ?_
        refine wpAnyH_done (by kernel_rfl) ?_ _
        clear hS
        exact leaf1 HM b8 (List.Perm.refl _) rfl
    case k =>
      intro b8 w HM
      have HB := HM.out.below
      go_wp2_with fail
      try simp only [Act.put, List.setIfInBounds_toArray, List.set_cons_zero, List.set_cons_succ]
      refine wp_region_held_drew (S := fun w' => Mem w0 w' [tblB bt room bm, mapE MT bm l]) (by kernel_rfl) (HM.out.drew.sub (by repeat (first | exact List.nil_sublist _ | apply List.Sublist.cons_cons | apply List.Sublist.cons))) (fun hS => ?_)
      replace HM := Lib.hid HM.out.drew
      replace HB := HM.out.below
      refine tk 0 38 ?_
      refine tk 1 39 ?_
      refine tk 2 40 ?_
      refine tk 3 41 ?_
      refine tk 4 42 ?_
      refine tk 5 43 ?_
      refine tkv 6 44 (.map (some bm)) rfl (yields_cell rfl (by kernel_rfl) rfl (fun _ h => h) (by (first | ((repeat (first | with_reducible exact List.Mem.head _ | with_reducible apply List.Mem.tail)); done) | ((repeat (first | exact List.Mem.head _ | apply List.Mem.tail)); done))) rfl (by kernel_rfl)) ?_
      refine tkv 7 45 (.int .i64 N) rfl (yields_mlen LT rfl rfl (fun _ h => h) (by (first | ((repeat (first | with_reducible exact List.Mem.head _ | with_reducible apply List.Mem.tail)); done) | ((repeat (first | exact List.Mem.head _ | apply List.Mem.tail)); done))) hN (by kernel_rfl)) ?_
      refine tk 8 46 ?_
      refine tk 9 47 ?_
      refine tk 10 48 ?_
      refine tkv 11 49 (.int .i64 room) rfl (yields_cell rfl (by kernel_rfl) rfl (fun _ h => h) (by (first | ((repeat (first | with_reducible exact List.Mem.head _ | with_reducible apply List.Mem.tail)); done) | ((repeat (first | exact List.Mem.head _ | apply List.Mem.tail)); done))) rfl (by kernel_rfl)) ?_
      refine tk 12 50 ?_
      refine tk 13 51 ?_
      refine wpAnyH_done (by kernel_rfl) ?_ _
      clear hS
      go_wp2_with (first | refine m_rd ?_ | (refine m_wr ?_; clear HM HB; intro w b HM HB; try clear b) | fail)
      try simp only [Act.put, List.setIfInBounds_toArray, List.set_cons_zero, List.set_cons_succ]
      refine wp_region_held_drew (S := fun w' => Mem w0 w' [Ent.blk b8 c3 57, Ent.blk b7 ck 28, tblB bt room bm]) (by kernel_rfl) (HM.out.drew.sub (by repeat (first | exact List.nil_sublist _ | apply List.Sublist.cons_cons | apply List.Sublist.cons))) (fun hS => ?_)
      replace HM := Lib.hid HM.out.drew
      replace HB := HM.out.below
      refine tk 0 77 ?_
      refine tk 1 78 ?_
      refine tk 2 79 ?_
      refine tkv 3 80 (.map (some bm)) rfl (yields_cell rfl (by kernel_rfl) rfl (fun _ h => h) (by (first | ((repeat (first | with_reducible exact List.Mem.head _ | with_reducible apply List.Mem.tail)); done) | ((repeat (first | exact List.Mem.head _ | apply List.Mem.tail)); done))) rfl (by kernel_rfl)) ?_
      refine tkv 4 81 (.agg ck) rfl (yields_own rfl rfl (fun _ h => h) (by (first | ((repeat (first | with_reducible exact List.Mem.head _ | with_reducible apply List.Mem.tail)); done) | ((repeat (first | exact List.Mem.head _ | apply List.Mem.tail)); done))) Try.underlying28 rfl HK.out.1 (by kernel_rfl)) ?_
      refine tkv 5 82 (.agg c3) rfl (yields_own rfl rfl (fun _ h => h) (by (first | ((repeat (first | with_reducible exact List.Mem.head _ | with_reducible apply List.Mem.tail)); done) | ((repeat (first | exact List.Mem.head _ | apply List.Mem.tail)); done))) Try.underlying57 rfl HC3.out.1 (by kernel_rfl)) ?_
      refine rone 6 rfl fun K' hK => ?_
      refine s_wr ?_ HM (HPT.out _ _ rfl rfl rfl rfl (fun _ => by (first | ((repeat (first | with_reducible exact Upd.head _ | with_reducible apply Upd.tail)); done) | ((repeat (first | exact Upd.head _ | apply Upd.tail)); done)))) (by kernel_rfl)
      clear HM HB
      intro w _ HM HB
      refine hK.out _ _ (HM.out.sub (by repeat (first | exact List.nil_sublist _ | apply List.Sublist.cons_cons | apply List.Sublist.cons))) (fun hS2 => ?_)
      clear hS hK
      have hS := hS2
      clear hS2
      try simp only [Act.put, List.setIfInBounds_toArray, List.set_cons_zero, List.set_cons_succ]
      refine wpAnyH_done (by kernel_rfl) ?_ _
      clear hS
      go_wp2_with fail
      go_ret
      exact ⟨rfl, Lib.hid HM.out.tail.tail.tail⟩
  · clear hfull
    go_enter Try.func20, Try.ntmps20
    go_wp2_with fail
    refine HO.out.mono ?_
    rintro e w ⟨rfl, hb⟩
    replace HM := Lib.hid (HM.out.call hb)
    replace HB := HM.out.below
    clear hb hcell
    go_wp2_with (first | (refine m_wr ?_ HM (Wr.alloc rfl AL1.out.1 AL1.out.2) (wanted_none rfl); clear HM HB; intro w b5 HM HB) | refine m_rd ?_ | (refine m_wr ?_; clear HM HB; intro w b HM HB; try clear b) | fail)
    refine (HT.out w).mono ?_
    rintro e w ⟨rfl, hb⟩
    replace HM := Lib.hid (HM.out.call hb)
    replace HB := HM.out.below
    clear hb
    go_wp2_with (first | (refine m_wr ?_ HM (Wr.alloc rfl AL1.out.1 AL1.out.2) (wanted_none rfl); clear HM HB; intro w b7 HM HB) | refine m_rd ?_ | (refine m_wr ?_; clear HM HB; intro w b HM HB; try clear b) | fail)
    apply region_cut1 (w0 := w0) (fun (b8 : Nat) => .blk b8 cx 57 :: .blk b7 ck 28 :: .blk b5 cf 28 :: tblB bt room bm :: mapE MT bm l :: es)
    case h =>
      try simp only [Act.put, List.setIfInBounds_toArray, List.set_cons_zero, List.set_cons_succ]
      refine wp_region_held_drew (S := fun w' => Mem w0 w' [Ent.blk b7 ck 28, tblB bt room bm]) (by kernel_rfl) (HM.out.drew.sub (by repeat (first | exact List.nil_sublist _ | apply List.Sublist.cons_cons | apply List.Sublist.cons))) (fun hS => ?_)
      replace HM := Lib.hid HM.out.drew
      replace HB := HM.out.below
      refine tk 0 30 ?_
      refine tk 1 31 ?_
      refine tk 2 32 ?_
      refine tkv 3 33 (.map (some bm)) rfl (yields_cell rfl (by kernel_rfl) rfl (fun _ h => h) (by (first | ((repeat (first | with_reducible exact List.Mem.head _ | with_reducible apply List.Mem.tail)); done) | ((repeat (first | exact List.Mem.head _ | apply List.Mem.tail)); done))) rfl (by kernel_rfl)) ?_
      refine tkv 4 34 (.agg ck) rfl (yields_own rfl rfl (fun _ h => h) (by (first | ((repeat (first | with_reducible exact List.Mem.head _ | with_reducible apply List.Mem.tail)); done) | ((repeat (first | exact List.Mem.head _ | apply List.Mem.tail)); done))) Try.underlying28 rfl HK.out.1 (by kernel_rfl)) ?_
      refine wpAnyH_ready (rs := [5, 9]) (by kernel_rfl) (by simp) (rmore 5 rfl (fun K' hK => ?_) (rmore 9 rfl (fun K' hK => ?_) AllReadyH.nil))
      · refine s_rd ?_ HM (HLK.out _ _ rfl rfl rfl (by (first | ((repeat (first | with_reducible exact List.Mem.head _ | with_reducible apply List.Mem.tail)); done) | ((repeat (first | exact List.Mem.head _ | apply List.Mem.tail)); done)))) (by kernel_rfl)
        refine hK.out _ _ (HM.out.sub (by repeat (first | exact List.nil_sublist _ | apply List.Sublist.cons_cons | apply List.Sublist.cons))) (fun hS2 => ?_)
        clear hS hK
        have hS := hS2
        clear hS2
        try simp only [Act.put, List.setIfInBounds_toArray, List.set_cons_zero, List.set_cons_succ]
        refine tk 6 29 ?_
        refine tk 7 36 ?_
        refine tk 8 37 ?_
        refine rone 9 rfl fun K' hK => ?_
        refine s_wr ?_ HM (Wr.alloc rfl AL2.out.1 AL2.out.2) (by kernel_rfl)
        clear HM HB
        intro w b8 HM HB
        refine hK.out _ _ (HM.out.sub (by repeat (first | exact List.nil_sublist _ | apply List.Sublist.cons_cons | apply List.Sublist.cons))) (fun hS2 => ?_)
        clear hS hK
        have hS := hS2
        clear hS2
        try simp only [Act.put, List.setIfInBounds_toArray, List.set_cons_zero, List.set_cons_succ]
        refine rone 10 rfl fun K' hK => ?_
        refine s_wr ?_ HM (Wr.whole rfl rfl rfl (by (first | ((repeat (first | with_reducible exact Upd.head _ | with_reducible apply Upd.tail)); done) | ((repeat (first | exact Upd.head _ | apply Upd.tail)); done))) HX.out) (by kernel_rfl)
        clear HM HB
        intro w _ HM HB
        refine hK.out _ _ (HM.out.sub (by repeat (first | exact List.nil_sublist _ | apply List.Sublist.cons_cons | apply List.Sublist.cons))) (fun hS2 => ?_)
        clear hS hK
        have hS := hS2
        clear hS2
        try simp only [Act.put, List.setIfInBounds_toArray, List.set_cons_zero, List.set_cons_succ]
        refine tk 11 9 ?_
        refine wpAnyH_done (by kernel_rfl) ?_ _
        clear hS
        exact leaf1 HM b8 (List.Perm.refl _) rfl
      · refine s_wr ?_ HM (Wr.alloc rfl AL2.out.1 AL2.out.2) (by kernel_rfl)
        clear HM HB
        intro w b8 HM HB
        refine hK.out _ _ (HM.out.sub (by repeat (first | exact List.nil_sublist _ | apply List.Sublist.cons_cons | apply List.Sublist.cons))) (fun hS2 => ?_)
        clear hS hK
        have hS := hS2
        clear hS2
        try simp only [Act.put, List.setIfInBounds_toArray, List.set_cons_zero, List.set_cons_succ]
        refine rone 5 rfl fun K' hK => ?_
        refine s_rd ?_ HM (HLK.out _ _ rfl rfl rfl (by (first | ((repeat (first | with_reducible exact List.Mem.head _ | with_reducible apply List.Mem.tail)); done) | ((repeat (first | exact List.Mem.head _ | apply List.Mem.tail)); done)))) (by kernel_rfl)
        refine hK.out _ _ (HM.out.sub (by repeat (first | exact List.nil_sublist _ | apply List.Sublist.cons_cons | apply List.Sublist.cons))) (fun hS2 => ?_)
        clear hS hK
        have hS := hS2
        clear hS2
        try simp only [Act.put, List.setIfInBounds_toArray, List.set_cons_zero, List.set_cons_succ]
        refine tk 6 29 ?_
        refine tk 7 36 ?_
        refine tk 8 37 ?_
        refine rone 10 rfl fun K' hK => ?_
        refine s_wr ?_ HM (Wr.whole rfl rfl rfl (by (first | ((repeat (first | with_reducible exact Upd.head _ | with_reducible apply Upd.tail)); done) | ((repeat (first | exact Upd.head _ | apply Upd.tail)); done))) HX.out) (by kernel_rfl)
        clear HM HB
        intro w _ HM HB
        refine hK.out _ _ (HM.out.sub (by repeat (first | exact List.nil_sublist _ | apply List.Sublist.cons_cons | apply List.Sublist.cons))) (fun hS2 => ?_)
        clear hS hK
        have hS := hS2
        clear hS2
        try simp only [Act.put, List.setIfInBounds_toArray, List.set_cons_zero, List.set_cons_succ]
        refine tk 11 9 ?_
        refine wpAnyH_done (by kernel_rfl) ?_ _
        clear hS
        exact leaf1 HM b8 (List.Perm.refl _) rfl
    case k =>
      intro b8 w HM
      have HB := HM.out.below
      go_wp2_with fail
      try simp only [Act.put, List.setIfInBounds_toArray, List.set_cons_zero, List.set_cons_succ]
      refine wp_region_held_drew (S := fun w' => Mem w0 w' [tblB bt room bm, mapE MT bm l]) (by kernel_rfl) (HM.out.drew.sub (by repeat (first | exact List.nil_sublist _ | apply List.Sublist.cons_cons | apply List.Sublist.cons))) (fun hS => ?_)
      replace HM := Lib.hid HM.out.drew
      replace HB := HM.out.below
      refine tk 0 38 ?_
      refine tk 1 39 ?_
      refine tk 2 40 ?_
      refine tku 3 41 ?_
      refine tku 4 42 ?_
      refine tku 5 43 ?_
      refine tku 6 44 ?_
      refine tku 7 45 ?_
      refine tku 8 46 ?_
      refine tku 9 47 ?_
      refine tku 10 48 ?_
      refine tku 11 49 ?_
      refine tku 12 50 ?_
      refine tk 13 51 ?_
      refine wpAnyH_done (by kernel_rfl) ?_ _
      clear hS
      go_wp2_with (first | refine m_rd ?_ | (refine m_wr ?_; clear HM HB; intro w b HM HB; try clear b) | fail)
      try simp only [Act.put, List.setIfInBounds_toArray, List.set_cons_zero, List.set_cons_succ]
      refine wp_region_held_drew (S := fun w' => Mem w0 w' [Ent.blk b8 c3 57, Ent.blk b7 ck 28, tblB bt room bm]) (by kernel_rfl) (HM.out.drew.sub (by repeat (first | exact List.nil_sublist _ | apply List.Sublist.cons_cons | apply List.Sublist.cons))) (fun hS => ?_)
      replace HM := Lib.hid HM.out.drew
      replace HB := HM.out.below
      refine tk 0 77 ?_
      refine tk 1 78 ?_
      refine tk 2 79 ?_
      refine tkv 3 80 (.map (some bm)) rfl (yields_cell rfl (by kernel_rfl) rfl (fun _ h => h) (by (first | ((repeat (first | with_reducible exact List.Mem.head _ | with_reducible apply List.Mem.tail)); done) | ((repeat (first | exact List.Mem.head _ | apply List.Mem.tail)); done))) rfl (by kernel_rfl)) ?_
      refine tkv 4 81 (.agg ck) rfl (yields_own rfl rfl (fun _ h => h) (by (first | ((repeat (first | with_reducible exact List.Mem.head _ | with_reducible apply List.Mem.tail)); done) | ((repeat (first | exact List.Mem.head _ | apply List.Mem.tail)); done))) Try.underlying28 rfl HK.out.1 (by kernel_rfl)) ?_
      refine tkv 5 82 (.agg c3) rfl (yields_own rfl rfl (fun _ h => h) (by (first | ((repeat (first | with_reducible exact List.Mem.head _ | with_reducible apply List.Mem.tail)); done) | ((repeat (first | exact List.Mem.head _ | apply List.Mem.tail)); done))) Try.underlying57 rfl HC3.out.1 (by kernel_rfl)) ?_
      refine rone 6 rfl fun K' hK => ?_
      refine s_wr ?_ HM (HPT.out _ _ rfl rfl rfl rfl (fun _ => by (first | ((repeat (first | with_reducible exact Upd.head _ | with_reducible apply Upd.tail)); done) | ((repeat (first | exact Upd.head _ | apply Upd.tail)); done)))) (by kernel_rfl)
      clear HM HB
      intro w _ HM HB
      refine hK.out _ _ (HM.out.sub (by repeat (first | exact List.nil_sublist _ | apply List.Sublist.cons_cons | apply List.Sublist.cons))) (fun hS2 => ?_)
      clear hS hK
      have hS := hS2
      clear hS2
      try simp only [Act.put, List.setIfInBounds_toArray, List.set_cons_zero, List.set_cons_succ]
      refine wpAnyH_done (by kernel_rfl) ?_ _
      clear hS
      go_wp2_with fail
      go_ret
      exact ⟨rfl, Lib.hid HM.out.tail.tail.tail⟩
end
end Go.Proofs.Ytkfjobanbnokoaa.Fw
