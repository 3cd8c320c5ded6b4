/- Package sessions: what a table is read as: how many there are, one by its number, the current one. -/
import Derived.Test.YtapncdgeigbgmaaTb
set_option linter.unusedSimpArgs false
set_option linter.unusedVariables false
set_option linter.unusedSectionVars false
set_option maxRecDepth 100000
namespace Go.Proofs.Ytapncdgeigbgmaa.Tb
open Go.RowKit Go.Proofs.YtapncdgeigbgmaaW.PrintWords Go.Proofs.Ytapncdgeigbgmaa.Bs Go.Proofs.Ytapncdgeigbgmaa.Gm Go.Proofs.Ytapncdgeigbgmaa.Sf

section
variable {w0 : World} {es : List Ent} {op : Oper} {a : Act} {tm tk : Operand} {b y : Nat} {l : List (UInt32 × Nat)} {x : UInt32} {o : List (Key × Value)} {k : Key} {v : Value}
theorem look_b1 (ho : op.op = .lookup MB.t tm tk true) (hm : a.eval tm = .map (some b)) (hk : a.eval tk = .int .u32 (x.toNat : Int)) (m : mapE MB b l ∈ es) (hg : getK l x = some y) : Rd w0 es op a (.tuple #[.pointer (some ⟨y, 0, none⟩), .bool true]) := Rd.look LB ho hm hk m hg
theorem look_b0 (ho : op.op = .lookup MB.t tm tk true) (hm : a.eval tm = .map (some b)) (hk : a.eval tk = .int .u32 (x.toNat : Int)) (m : mapE MB b l ∈ es) (hg : getK l x = none) : Rd w0 es op a (.tuple #[.pointer none, .bool false]) := Rd.look LB ho hm hk m hg
theorem look_o1 (ho : op.op = .lookup MO.t tm tk false) (hm : a.eval tm = .map (some b)) (hk : a.eval tk = .agg (keyC k)) (m : mapE MO b o ∈ es) (hg : getK o k = some v) : Rd w0 es op a v := Rd.look LO ho hm hk m hg
theorem look_o0 (ho : op.op = .lookup MO.t tm tk false) (hm : a.eval tm = .map (some b)) (hk : a.eval tk = .agg (keyC k)) (m : mapE MO b o ∈ es) (hg : getK o k = none) : Rd w0 es op a (.slice none 0 0) := Rd.look LO ho hm hk m hg
end
theorem tab_cells {w0 w : World} {es : List Ent} {bt bb bo : Nat} (HM : Mem w0 w es) (m : tabB bt bb bo ∈ es) : w.cell? ⟨bt, 0, none⟩ = some (.map (some bb)) ∧ w.cell? ⟨bt, 1, none⟩ = some (.map (some bo)) := ⟨(blk_cell (HM.get m) 0).trans rfl, (blk_cell (HM.get m) 1).trans rfl⟩
theorem len_any {w0 w : World} {es : List Ent} {bt bb bo : Nat} {L : List Ses} (HM : HMem w0 w es) (m1 : tabB bt bb bo ∈ es) (m2 : mapE MB bb (byL L) ∈ es) : Calls Try.prog 23 #[.pointer (some ⟨bt, 0, none⟩)] w fun e w' => e = .returned (.int .i64 L.length) ∧ w = w' := by
  have hc := (tab_cells HM.out m1).1
  have HC := Lib.hid hc
  have hl : (byL L).length = L.length := by simp [byL]
  go_enter Try.func23, Try.ntmps23
  go_wp2_with fail
  refine (made_yes HC.out).mono ?_
  rintro e w' ⟨rfl, rfl⟩
  go_wp2_with (first | (refine m_rd ?_ HM (Rd.mlen LB rfl rfl m2 hl) (wanted_none rfl)) | fail)
  go_ret
  exact ⟨rfl, rfl⟩
theorem get_some {w0 w : World} {es : List Ent} {bt bb bo b : Nat} {l : List (UInt32 × Nat)} (HM : HMem w0 w es) (m1 : tabB bt bb bo ∈ es) (m2 : mapE MB bb l ∈ es) {lo : UInt32} (hg : getK l lo = some b) : Calls Try.prog 37 #[.pointer (some ⟨bt, 0, none⟩), .int .u32 (lo.toNat : Int)] w fun e w' => e = .returned (.tuple #[.pointer (some ⟨b, 0, none⟩), .bool true]) ∧ w = w' := by
  have hc := (tab_cells HM.out m1).1
  have HC := Lib.hid hc
  have HG := Lib.hid hg
  clear hg
  go_enter Try.func37, Try.ntmps37
  go_wp2_with fail
  refine (made_yes HC.out).mono ?_
  rintro e w' ⟨rfl, rfl⟩
  go_wp2_with (first | (refine m_rd ?_ HM (look_b1 (x := lo) rfl rfl rfl m2 HG.out) (wanted_none rfl)) | fail)
  go_ret2
  exact ⟨rfl, rfl⟩
theorem get_none {w0 w : World} {es : List Ent} {bt bb bo : Nat} {l : List (UInt32 × Nat)} (HM : HMem w0 w es) (m1 : tabB bt bb bo ∈ es) (m2 : mapE MB bb l ∈ es) {lo : UInt32} (hg : getK l lo = none) : Calls Try.prog 37 #[.pointer (some ⟨bt, 0, none⟩), .int .u32 (lo.toNat : Int)] w fun e w' => e = .returned (.tuple #[.pointer none, .bool false]) ∧ w = w' := by
  have hc := (tab_cells HM.out m1).1
  have HC := Lib.hid hc
  have HG := Lib.hid hg
  clear hg
  go_enter Try.func37, Try.ntmps37
  go_wp2_with fail
  refine (made_yes HC.out).mono ?_
  rintro e w' ⟨rfl, rfl⟩
  go_wp2_with (first | (refine m_rd ?_ HM (look_b0 (x := lo) rfl rfl rfl m2 HG.out) (wanted_none rfl)) | fail)
  go_ret2
  exact ⟨rfl, rfl⟩
theorem current_none {w0 w : World} {es : List Ent} {bt bb bo : Nat} {o : List (Key × Value)} (HM : HMem w0 w (tabB bt bb bo :: mapE MO bo o :: es)) {k : Key} (hg : getK o k = none) : Calls Try.prog 38 #[.pointer (some ⟨bt, 0, none⟩), .agg (keyC k)] w fun e w' => e = .returned (.tuple #[.pointer none, .bool false]) ∧ HMem w0 w' (tabB bt bb bo :: mapE MO bo o :: es) := by
  have HC := Lib.hid (cells_key (keyC k) (keyC_size k) (keyC_one k))
  have HG := Lib.hid hg
  have HB := HM.out.below
  clear hg
  go_enter Try.func38, Try.ntmps38
  go_wp2_with (first | refine m_rd ?_ | (refine m_wr ?_; clear HM HB; intro w b HM HB; try clear b) | fail)
  try simp only [Act.put, List.setIfInBounds_toArray, List.set_cons_zero, List.set_cons_succ]
  refine wp_region_held_drew (S := fun w' => Mem w0 w' (Ent.blk b (keyC k) 29 :: tabB bt bb bo :: [])) (by kernel_rfl) (HM.out.drew.two) (fun hS => ?_)
  replace HM := Lib.hid HM.out.drew
  replace HB := HM.out.below
  refine tk 0 7 ?_
  refine rone 1 rfl fun K' hK => ?_
  go_simp
  refine (made_yes (tab_cells HM.out (by (first | ((repeat (first | with_reducible exact List.Mem.head _ | with_reducible apply List.Mem.tail)); done) | ((repeat (first | exact List.Mem.head _ | apply List.Mem.tail)); done)))).1).mono ?_
  rintro e w' ⟨rfl, rfl⟩
  refine hK.out _ _ (HM.out.two) (fun hS2 => ?_)
  clear hS hK
  have hS := hS2
  clear hS2
  try simp only [Act.put, List.setIfInBounds_toArray, List.set_cons_zero, List.set_cons_succ]
  refine tk 2 9 ?_
  refine tk 3 10 ?_
  refine tk 4 11 ?_
  refine tk 5 12 ?_
  refine tk 6 13 ?_
  refine tkv 7 14 _ rfl (yields_cell rfl (by kernel_rfl) rfl (fun _ h => h) (by (first | ((repeat (first | with_reducible exact List.Mem.head _ | with_reducible apply List.Mem.tail)); done) | ((repeat (first | exact List.Mem.head _ | apply List.Mem.tail)); done))) rfl (by kernel_rfl)) ?_
  refine tkv 8 15 _ rfl (yields_own rfl rfl (fun _ h => h) (by (first | ((repeat (first | with_reducible exact List.Mem.head _ | with_reducible apply List.Mem.tail)); done) | ((repeat (first | exact List.Mem.head _ | apply List.Mem.tail)); done))) Try.underlying29 rfl HC.out.1 (by kernel_rfl)) ?_
  refine rone 9 rfl fun K' hK => ?_
  refine s_rd ?_ HM (look_o0 rfl rfl rfl (by (first | ((repeat (first | with_reducible exact List.Mem.head _ | with_reducible apply List.Mem.tail)); done) | ((repeat (first | exact List.Mem.head _ | apply List.Mem.tail)); done))) HG.out) (by kernel_rfl)
  refine hK.out _ _ (HM.out.two) (fun hS2 => ?_)
  clear hS hK
  have hS := hS2
  clear hS2
  try simp only [Act.put, List.setIfInBounds_toArray, List.set_cons_zero, List.set_cons_succ]
  refine tk 10 17 ?_
  refine tk 11 18 ?_
  refine tk 12 19 ?_
  refine wpAnyH_done (by kernel_rfl) ?_ _
  clear hS
  go_wp2_with fail
  go_ret2
  exact ⟨rfl, Lib.hid HM.out.tail⟩
theorem current_1 {w0 w : World} {es : List Ent} {bt bb bo c y : Nat} {A : Option Addr} {xs : List UInt32} {lo : UInt32} {l : List (UInt32 × Nat)} {o : List (Key × Value)} (HM : HMem w0 w (tabB bt bb bo :: mapE MO bo o :: mapE MB bb l :: rowE RN (.slice A 1 c) xs :: es)) {k : Key} (hg : getK o k = some (.slice A 1 c)) (hx : xs[0]? = some lo) (hb : getK l lo = some y) :
    Calls Try.prog 38 #[.pointer (some ⟨bt, 0, none⟩), .agg (keyC k)] w fun e w' => e = .returned (.tuple #[.pointer (some ⟨y, 0, none⟩), .bool true]) ∧ HMem w0 w' (tabB bt bb bo :: mapE MO bo o :: mapE MB bb l :: rowE RN (.slice A 1 c) xs :: es) := by
  have HC := Lib.hid (cells_key (keyC k) (keyC_size k) (keyC_one k))
  have HG := Lib.hid hg
  have HX := Lib.hid hx
  have HY := Lib.hid hb
  have HB := HM.out.below
  clear hg hx hb
  go_enter Try.func38, Try.ntmps38
  go_wp2_with (first | refine m_rd ?_ | (refine m_wr ?_; clear HM HB; intro w b HM HB; try clear b) | fail)
  try simp only [Act.put, List.setIfInBounds_toArray, List.set_cons_zero, List.set_cons_succ]
  refine wp_region_held_drew (S := fun w' => Mem w0 w' (Ent.blk b (keyC k) 29 :: tabB bt bb bo :: [])) (by kernel_rfl) (HM.out.drew.two) (fun hS => ?_)
  replace HM := Lib.hid HM.out.drew
  replace HB := HM.out.below
  refine tk 0 7 ?_
  refine rone 1 rfl fun K' hK => ?_
  go_simp
  refine (made_yes (tab_cells HM.out (by (first | ((repeat (first | with_reducible exact List.Mem.head _ | with_reducible apply List.Mem.tail)); done) | ((repeat (first | exact List.Mem.head _ | apply List.Mem.tail)); done)))).1).mono ?_
  rintro e w' ⟨rfl, rfl⟩
  refine hK.out _ _ (HM.out.two) (fun hS2 => ?_)
  clear hS hK
  have hS := hS2
  clear hS2
  try simp only [Act.put, List.setIfInBounds_toArray, List.set_cons_zero, List.set_cons_succ]
  refine tk 2 9 ?_
  refine tk 3 10 ?_
  refine tk 4 11 ?_
  refine tk 5 12 ?_
  refine tk 6 13 ?_
  refine tkv 7 14 _ rfl (yields_cell rfl (by kernel_rfl) rfl (fun _ h => h) (by (first | ((repeat (first | with_reducible exact List.Mem.head _ | with_reducible apply List.Mem.tail)); done) | ((repeat (first | exact List.Mem.head _ | apply List.Mem.tail)); done))) rfl (by kernel_rfl)) ?_
  refine tkv 8 15 _ rfl (yields_own rfl rfl (fun _ h => h) (by (first | ((repeat (first | with_reducible exact List.Mem.head _ | with_reducible apply List.Mem.tail)); done) | ((repeat (first | exact List.Mem.head _ | apply List.Mem.tail)); done))) Try.underlying29 rfl HC.out.1 (by kernel_rfl)) ?_
  refine rone 9 rfl fun K' hK => ?_
  refine s_rd ?_ HM (look_o1 rfl rfl rfl (by (first | ((repeat (first | with_reducible exact List.Mem.head _ | with_reducible apply List.Mem.tail)); done) | ((repeat (first | exact List.Mem.head _ | apply List.Mem.tail)); done))) HG.out) (by kernel_rfl)
  refine hK.out _ _ (HM.out.two) (fun hS2 => ?_)
  clear hS hK
  have hS := hS2
  clear hS2
  try simp only [Act.put, List.setIfInBounds_toArray, List.set_cons_zero, List.set_cons_succ]
  refine tk 10 17 ?_
  refine tk 11 18 ?_
  refine tk 12 19 ?_
  refine wpAnyH_done (by kernel_rfl) ?_ _
  clear hS
  go_wp2_with fail
  try simp only [Act.put, List.setIfInBounds_toArray, List.set_cons_zero, List.set_cons_succ]
  refine wp_region_held_drew (S := fun w' => Mem w0 w' (Ent.blk b (keyC k) 29 :: tabB bt bb bo :: [])) (by kernel_rfl) (HM.out.drew.two) (fun hS => ?_)
  replace HM := Lib.hid HM.out.drew
  replace HB := HM.out.below
  refine tk 0 20 ?_
  refine tk 1 21 ?_
  refine tk 2 22 ?_
  refine tkv 3 23 _ rfl (yields_cell rfl (by kernel_rfl) rfl (fun _ h => h) (by (first | ((repeat (first | with_reducible exact List.Mem.head _ | with_reducible apply List.Mem.tail)); done) | ((repeat (first | exact List.Mem.head _ | apply List.Mem.tail)); done))) rfl (by kernel_rfl)) ?_
  refine tkv 4 24 _ rfl (yields_own rfl rfl (fun _ h => h) (by (first | ((repeat (first | with_reducible exact List.Mem.head _ | with_reducible apply List.Mem.tail)); done) | ((repeat (first | exact List.Mem.head _ | apply List.Mem.tail)); done))) Try.underlying29 rfl HC.out.1 (by kernel_rfl)) ?_
  refine rone 5 rfl fun K' hK => ?_
  refine s_rd ?_ HM (look_o1 rfl rfl rfl (by (first | ((repeat (first | with_reducible exact List.Mem.head _ | with_reducible apply List.Mem.tail)); done) | ((repeat (first | exact List.Mem.head _ | apply List.Mem.tail)); done))) HG.out) (by kernel_rfl)
  refine hK.out _ _ (HM.out.two) (fun hS2 => ?_)
  clear hS hK
  have hS := hS2
  clear hS2
  try simp only [Act.put, List.setIfInBounds_toArray, List.set_cons_zero, List.set_cons_succ]
  refine tk 6 6 ?_
  refine wpAnyH_done (by kernel_rfl) ?_ _
  clear hS
  obtain ⟨ad, rfl, hr⟩ := (HM.out.rw_ LN (by (first | ((repeat (first | with_reducible exact List.Mem.head _ | with_reducible apply List.Mem.tail)); done) | ((repeat (first | exact List.Mem.head _ | apply List.Mem.tail)); done)))).elem LN HX.out
  have hc := hr 0 _ rfl
  simp [Addr.add, RN] at hc
  clear hr
  go_wp2_with fail
  refine (get_some HM (by (first | ((repeat (first | with_reducible exact List.Mem.head _ | with_reducible apply List.Mem.tail)); done) | ((repeat (first | exact List.Mem.head _ | apply List.Mem.tail)); done))) (by (first | ((repeat (first | with_reducible exact List.Mem.head _ | with_reducible apply List.Mem.tail)); done) | ((repeat (first | exact List.Mem.head _ | apply List.Mem.tail)); done))) HY.out).mono ?_
  rintro e w' ⟨rfl, rfl⟩
  go_wp2_with fail
  go_ret2
  exact ⟨rfl, Lib.hid HM.out.tail⟩
theorem current_2 {w0 w : World} {es : List Ent} {bt bb bo c y : Nat} {A : Option Addr} {xs : List UInt32} {lo : UInt32} {l : List (UInt32 × Nat)} {o : List (Key × Value)} (HM : HMem w0 w (tabB bt bb bo :: mapE MO bo o :: mapE MB bb l :: rowE RN (.slice A 2 c) xs :: es)) {k : Key} (hg : getK o k = some (.slice A 2 c)) (hx : xs[1]? = some lo) (hb : getK l lo = some y) :
    Calls Try.prog 38 #[.pointer (some ⟨bt, 0, none⟩), .agg (keyC k)] w fun e w' => e = .returned (.tuple #[.pointer (some ⟨y, 0, none⟩), .bool true]) ∧ HMem w0 w' (tabB bt bb bo :: mapE MO bo o :: mapE MB bb l :: rowE RN (.slice A 2 c) xs :: es) := by
  have HC := Lib.hid (cells_key (keyC k) (keyC_size k) (keyC_one k))
  have HG := Lib.hid hg
  have HX := Lib.hid hx
  have HY := Lib.hid hb
  have HB := HM.out.below
  clear hg hx hb
  go_enter Try.func38, Try.ntmps38
  go_wp2_with (first | refine m_rd ?_ | (refine m_wr ?_; clear HM HB; intro w b HM HB; try clear b) | fail)
  try simp only [Act.put, List.setIfInBounds_toArray, List.set_cons_zero, List.set_cons_succ]
  refine wp_region_held_drew (S := fun w' => Mem w0 w' (Ent.blk b (keyC k) 29 :: tabB bt bb bo :: [])) (by kernel_rfl) (HM.out.drew.two) (fun hS => ?_)
  replace HM := Lib.hid HM.out.drew
  replace HB := HM.out.below
  refine tk 0 7 ?_
  refine rone 1 rfl fun K' hK => ?_
  go_simp
  refine (made_yes (tab_cells HM.out (by (first | ((repeat (first | with_reducible exact List.Mem.head _ | with_reducible apply List.Mem.tail)); done) | ((repeat (first | exact List.Mem.head _ | apply List.Mem.tail)); done)))).1).mono ?_
  rintro e w' ⟨rfl, rfl⟩
  refine hK.out _ _ (HM.out.two) (fun hS2 => ?_)
  clear hS hK
  have hS := hS2
  clear hS2
  try simp only [Act.put, List.setIfInBounds_toArray, List.set_cons_zero, List.set_cons_succ]
  refine tk 2 9 ?_
  refine tk 3 10 ?_
  refine tk 4 11 ?_
  refine tk 5 12 ?_
  refine tk 6 13 ?_
  refine tkv 7 14 _ rfl (yields_cell rfl (by kernel_rfl) rfl (fun _ h => h) (by (first | ((repeat (first | with_reducible exact List.Mem.head _ | with_reducible apply List.Mem.tail)); done) | ((repeat (first | exact List.Mem.head _ | apply List.Mem.tail)); done))) rfl (by kernel_rfl)) ?_
  refine tkv 8 15 _ rfl (yields_own rfl rfl (fun _ h => h) (by (first | ((repeat (first | with_reducible exact List.Mem.head _ | with_reducible apply List.Mem.tail)); done) | ((repeat (first | exact List.Mem.head _ | apply List.Mem.tail)); done))) Try.underlying29 rfl HC.out.1 (by kernel_rfl)) ?_
  refine rone 9 rfl fun K' hK => ?_
  refine s_rd ?_ HM (look_o1 rfl rfl rfl (by (first | ((repeat (first | with_reducible exact List.Mem.head _ | with_reducible apply List.Mem.tail)); done) | ((repeat (first | exact List.Mem.head _ | apply List.Mem.tail)); done))) HG.out) (by kernel_rfl)
  refine hK.out _ _ (HM.out.two) (fun hS2 => ?_)
  clear hS hK
  have hS := hS2
  clear hS2
  try simp only [Act.put, List.setIfInBounds_toArray, List.set_cons_zero, List.set_cons_succ]
  refine tk 10 17 ?_
  refine tk 11 18 ?_
  refine tk 12 19 ?_
  refine wpAnyH_done (by kernel_rfl) ?_ _
  clear hS
  go_wp2_with fail
  try simp only [Act.put, List.setIfInBounds_toArray, List.set_cons_zero, List.set_cons_succ]
  refine wp_region_held_drew (S := fun w' => Mem w0 w' (Ent.blk b (keyC k) 29 :: tabB bt bb bo :: [])) (by kernel_rfl) (HM.out.drew.two) (fun hS => ?_)
  replace HM := Lib.hid HM.out.drew
  replace HB := HM.out.below
  refine tk 0 20 ?_
  refine tk 1 21 ?_
  refine tk 2 22 ?_
  refine tkv 3 23 _ rfl (yields_cell rfl (by kernel_rfl) rfl (fun _ h => h) (by (first | ((repeat (first | with_reducible exact List.Mem.head _ | with_reducible apply List.Mem.tail)); done) | ((repeat (first | exact List.Mem.head _ | apply List.Mem.tail)); done))) rfl (by kernel_rfl)) ?_
  refine tkv 4 24 _ rfl (yields_own rfl rfl (fun _ h => h) (by (first | ((repeat (first | with_reducible exact List.Mem.head _ | with_reducible apply List.Mem.tail)); done) | ((repeat (first | exact List.Mem.head _ | apply List.Mem.tail)); done))) Try.underlying29 rfl HC.out.1 (by kernel_rfl)) ?_
  refine rone 5 rfl fun K' hK => ?_
  refine s_rd ?_ HM (look_o1 rfl rfl rfl (by (first | ((repeat (first | with_reducible exact List.Mem.head _ | with_reducible apply List.Mem.tail)); done) | ((repeat (first | exact List.Mem.head _ | apply List.Mem.tail)); done))) HG.out) (by kernel_rfl)
  refine hK.out _ _ (HM.out.two) (fun hS2 => ?_)
  clear hS hK
  have hS := hS2
  clear hS2
  try simp only [Act.put, List.setIfInBounds_toArray, List.set_cons_zero, List.set_cons_succ]
  refine tk 6 6 ?_
  refine wpAnyH_done (by kernel_rfl) ?_ _
  clear hS
  obtain ⟨ad, rfl, hr⟩ := (HM.out.rw_ LN (by (first | ((repeat (first | with_reducible exact List.Mem.head _ | with_reducible apply List.Mem.tail)); done) | ((repeat (first | exact List.Mem.head _ | apply List.Mem.tail)); done)))).elem LN HX.out
  have hc := hr 0 _ rfl
  simp [Addr.add, RN] at hc
  clear hr
  go_wp2_with fail
  refine (get_some HM (by (first | ((repeat (first | with_reducible exact List.Mem.head _ | with_reducible apply List.Mem.tail)); done) | ((repeat (first | exact List.Mem.head _ | apply List.Mem.tail)); done))) (by (first | ((repeat (first | with_reducible exact List.Mem.head _ | with_reducible apply List.Mem.tail)); done) | ((repeat (first | exact List.Mem.head _ | apply List.Mem.tail)); done))) HY.out).mono ?_
  rintro e w' ⟨rfl, rfl⟩
  go_wp2_with fail
  go_ret2
  exact ⟨rfl, Lib.hid HM.out.tail⟩
end Go.Proofs.Ytapncdgeigbgmaa.Tb
