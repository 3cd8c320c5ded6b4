/- Package sessions: what each function does with no table; a new table; what a table is read as. -/
import Derived.Test.YtapncdgeigbgmaaTa
set_option linter.unusedSimpArgs false
set_option linter.unusedVariables false
set_option linter.unusedSectionVars false
set_option maxRecDepth 100000
namespace Go.Proofs.Ytapncdgeigbgmaa.Tb
open Go.RowKit Go.Proofs.YtapncdgeigbgmaaW.PrintWords Go.Proofs.Ytapncdgeigbgmaa.Bs Go.Proofs.Ytapncdgeigbgmaa.Gm Go.Proofs.Ytapncdgeigbgmaa.Sf

/-- A session: its block, with whom, its numbers; and where the document keeps what it has taken. -/
structure Ses where
  b : Nat
  k : Key
  lo : UInt32
  re : UInt32
  n : Int
  m : List Nat
  A : Option Addr
  c : Nat
abbrev Own := List (Key × Value × List UInt32)
def sesO (s : Ses) : Ent := sesE s.b (keyC s.k) s.lo.toNat s.re.toNat s.n s.m
def byL (L : List Ses) : List (UInt32 × Nat) := L.map fun s => (s.lo, s.b)
def ownO (O : Own) : List (Key × Value) := O.map fun o => (o.1, o.2.1)
def rowO (o : Key × Value × List UInt32) : Ent := rowE RN o.2.1 o.2.2
def tabB (bt bb bo : Nat) : Ent := .blk bt #[.map (some bb), .map (some bo)] 92

/-- No table: nil, or a zero one. -/
def NoTab (w : World) (v : Value) : Prop := v = .pointer none ∨ ∃ b, v = .pointer (some ⟨b, 0, none⟩) ∧ w.cell? ⟨b, 0, none⟩ = some (.map none)
theorem NoTab.below {w w1 : World} {v : Value} (h : NoTab w v) (hb : Below w.heap.size w w1) : NoTab w1 v := by
  rcases h with h | ⟨b, h, hc⟩
  · exact .inl h
  · exact .inr ⟨b, h, pw_cell_below hb hc⟩
theorem made_no {w : World} {v : Value} (h : NoTab w v) : Calls Try.prog 57 #[v] w fun e w' => e = .returned (.bool false) ∧ w = w' := by
  rcases h with rfl | ⟨b, rfl, hc⟩
  · have hne := neqMap
    go_enter Try.func57, Try.ntmps57
    go_wp2
    go_ret
    exact ⟨rfl, rfl⟩
  · have hne := neqMap
    go_enter Try.func57, Try.ntmps57
    go_wp2
    go_ret
    exact ⟨rfl, rfl⟩
theorem made_yes {w : World} {b bb : Nat} (hc : w.cell? ⟨b, 0, none⟩ = some (.map (some bb))) : Calls Try.prog 57 #[.pointer (some ⟨b, 0, none⟩)] w fun e w' => e = .returned (.bool true) ∧ w = w' := by
  have hne := neqMap
  go_enter Try.func57, Try.ntmps57
  go_wp2
  go_ret
  exact ⟨rfl, rfl⟩
theorem len_no {w : World} {v : Value} (h : NoTab w v) : Calls Try.prog 23 #[v] w fun e w' => e = .returned (.int .i64 0) ∧ w = w' := by
  have H := Lib.hid h
  clear h
  go_enter Try.func23, Try.ntmps23
  go_wp2_with fail
  refine (made_no H.out).mono ?_
  rintro e w' ⟨rfl, rfl⟩
  go_wp2_with fail
  go_ret
  exact ⟨rfl, rfl⟩
theorem get_no {w : World} {v : Value} (h : NoTab w v) (lo : Int) : Calls Try.prog 37 #[v, .int .u32 lo] w fun e w' => e = .returned (.tuple #[.pointer none, .bool false]) ∧ w = w' := by
  have H := Lib.hid h
  clear h
  go_enter Try.func37, Try.ntmps37
  go_wp2_with fail
  refine (made_no H.out).mono ?_
  rintro e w' ⟨rfl, rfl⟩
  go_wp2_with fail
  go_ret2
  exact ⟨rfl, rfl⟩
theorem locals_no {w : World} {v : Value} (h : NoTab w v) : Calls Try.prog 41 #[v] w fun e w' => e = .returned (.slice none 0 0) ∧ w = w' := by
  have H := Lib.hid h
  clear h
  go_enter Try.func41, Try.ntmps41
  go_wp2_with fail
  refine (made_no H.out).mono ?_
  rintro e w' ⟨rfl, rfl⟩
  go_wp2_with fail
  go_ret
  exact ⟨rfl, rfl⟩
theorem forget_no {w0 : World} {v : Value} (h : NoTab w0 v) (lo : Int) : Calls Try.prog 39 #[v, .int .u32 lo] w0 fun e w' => e = .returned (.int .i64 2) ∧ Below w0.heap.size w0 w' := by
  have H := Lib.hid h
  clear h
  have HM := Lib.hid (Mem.start w0)
  have HB := HM.out.below
  go_enter Try.func39, Try.ntmps39
  go_wp2_with fail
  replace HM := Lib.hid (HM.out.alloc #[.int .u32 lo] 23 (by kernel_rfl))
  replace HB := HM.out.below
  generalize World.alloc w0 (.cells #[.int .u32 lo] 23) = w at HM HB ⊢
  refine (made_no (H.out.below HB)).mono ?_
  rintro e w' ⟨rfl, rfl⟩
  go_wp2_with fail
  go_ret
  exact ⟨rfl, HB⟩
theorem install_no {w0 : World} {v : Value} (h : NoTab w0 v) (k : Key) (lo re n : Int) : Calls Try.prog 22 #[v, .agg (keyC k), .int .u32 lo, .int .u32 re, .int .u64 n] w0 fun e w' => e = .returned (.int .i64 2) ∧ Below w0.heap.size w0 w' := by
  have H := Lib.hid h
  have HC := Lib.hid (cells_key (keyC k) (keyC_size k) (keyC_one k))
  clear h
  have HM := Lib.hid (Mem.start w0)
  have HB := HM.out.below
  go_enter Try.func22, Try.ntmps22
  go_wp2_with (first | refine m_rd ?_ | (refine m_wr ?_; clear HM HB; intro w b HM HB; try clear b) | fail)
  refine (made_no (H.out.below HB)).mono ?_
  rintro e w' ⟨rfl, rfl⟩
  go_wp2_with fail
  go_ret
  exact ⟨rfl, HB⟩
theorem drop_no {w0 : World} {v : Value} (h : NoTab w0 v) (k : Key) : Calls Try.prog 40 #[v, .agg (keyC k)] w0 fun e w' => e = .returned (.int .i64 0) ∧ Below w0.heap.size w0 w' := by
  have H := Lib.hid h
  have HC := Lib.hid (cells_key (keyC k) (keyC_size k) (keyC_one k))
  clear h
  have HM := Lib.hid (Mem.start w0)
  have HB := HM.out.below
  go_enter Try.func40, Try.ntmps40
  go_wp2_with (first | refine m_rd ?_ | (refine m_wr ?_; clear HM HB; intro w b HM HB; try clear b) | fail)
  refine (made_no (H.out.below HB)).mono ?_
  rintro e w' ⟨rfl, rfl⟩
  go_wp2_with fail
  go_ret
  exact ⟨rfl, HB⟩
theorem current_no {w0 : World} {v : Value} (h : NoTab w0 v) (k : Key) : Calls Try.prog 38 #[v, .agg (keyC k)] w0 fun e w' => e = .returned (.tuple #[.pointer none, .bool false]) ∧ Below w0.heap.size w0 w' := by
  have H := Lib.hid h
  have HC := Lib.hid (cells_key (keyC k) (keyC_size k) (keyC_one k))
  clear h
  have HM := Lib.hid (Mem.start w0)
  have HB := HM.out.below
  go_enter Try.func38, Try.ntmps38
  go_wp2_with (first | refine m_rd ?_ | (refine m_wr ?_; clear HM HB; intro w b HM HB; try clear b) | fail)
  try simp only [Act.put, List.setIfInBounds_toArray, List.set_cons_zero, List.set_cons_succ]
  refine wp_region_held_drew (S := fun w' => Below w0.heap.size w0 w') (by kernel_rfl) (below_drew HB) (fun hS => ?_)
  replace HM := Lib.hid HM.out.drew
  replace HB := HM.out.below
  refine tk 0 7 ?_
  refine rone 1 rfl fun K' hK => ?_
  go_simp
  refine (made_no (H.out.below HB)).mono ?_
  rintro e w' ⟨rfl, rfl⟩
  refine hK.out _ _ (HB) (fun hS2 => ?_)
  clear hS hK
  have hS := hS2
  clear hS2
  try simp only [Act.put, List.setIfInBounds_toArray, List.set_cons_zero, List.set_cons_succ]
  refine tk 2 9 ?_
  refine tk 3 10 ?_
  refine tku 4 11 ?_
  refine tku 5 12 ?_
  refine tku 6 13 ?_
  refine tku 7 14 ?_
  refine tku 8 15 ?_
  refine rone 9 rfl fun K' hK => ?_
  refine skip_if (by kernel_rfl) ?_
  refine hK.out _ _ (HB) (fun hS2 => ?_)
  clear hS hK
  have hS := hS2
  clear hS2
  try simp only [Act.put, List.setIfInBounds_toArray, List.set_cons_zero, List.set_cons_succ]
  refine tku 10 17 ?_
  refine tku 11 18 ?_
  refine tk 12 19 ?_
  refine wpAnyH_done (by kernel_rfl) ?_ _
  clear hS
  go_wp2_with fail
  go_ret2
  exact ⟨rfl, HB⟩
/-- A new table. -/
theorem built_tab (x y : Nat) : Built 92 #[(0, .map (some x)), (1, .map (some y))] (.agg #[.map (some x), .map (some y)]) := fun W => by kernel_rfl
theorem cells_tab (x y : Nat) : Cells 92 #[.map (some x), .map (some y)] := ⟨by kernel_rfl, by simp [Value.oneCell']⟩
theorem new_tab (w0 : World) : Calls Try.prog 21 #[] w0 fun e w' => ∃ bt bb bo, e = .returned (.pointer (some ⟨bt, 0, none⟩)) ∧ HMem w0 w' [tabB bt bb bo, mapE MB bb [], mapE MO bo []] := by
  have HM := Lib.hid (Mem.start w0)
  have HB := HM.out.below
  go_enter Try.func21, Try.ntmps21
  go_wp2_with (first | (refine m_wr ?_ HM (Wr.mnew LB rfl) (wanted_none rfl); clear HM HB; intro w bb HM HB) | (refine m_wr ?_ HM (Wr.mnew LO rfl) (wanted_none rfl); clear HM HB; intro w bo HM HB) | (refine m_rd ?_ HM (Rd.build rfl (built_tab bb bo) rfl) (wanted_none rfl)) | (refine m_wr ?_ HM (Wr.box rfl rfl (cells_tab bb bo)) (wanted_none rfl); clear HM HB; intro w bt HM HB))
  go_ret
  exact ⟨bt, bb, bo, rfl, Lib.hid (HM.out.perm (List.Perm.cons _ (List.Perm.swap _ _ _)))⟩
end Go.Proofs.Ytapncdgeigbgmaa.Tb
