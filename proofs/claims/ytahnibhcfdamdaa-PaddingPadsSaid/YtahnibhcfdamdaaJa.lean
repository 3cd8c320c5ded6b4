/- Packages ipfour and its reference: two bytes at a place; how many bytes a head and all of it have. -/
import Derived.Test.YtahnibhcfdamdaaIt
import Derived.Test.YtahnibhcfdamdaaMz
set_option linter.unusedSimpArgs false
set_option linter.unusedVariables false
set_option maxRecDepth 100000
namespace Go.Proofs.Ytahnibhcfdamdaa.Is
open Go.RowKit Go.Proofs.YtahnibhcfdamdaaW.PrintWords Go.Proofs.Ytahnibhcfdamdaa.Bs Go.Proofs.Ytahnibhcfdamdaa.Av Go.Proofs.Ytahnibhcfdamdaa.Ad Go.Proofs.Ytahnibhcfdamdaa.Hd Go.Proofs.Ytahnibhcfdamdaa.Mm Go.Proofs.Ytahnibhcfdamdaa.Le Go.Proofs.Ytahnibhcfdamdaa.Ip Go.Proofs.Ytahnibhcfdamdaa.En Go.Proofs.Ytahnibhcfdamdaa.Co

set_option maxHeartbeats 1000000 in
theorem half2 (ad : Addr) (c : Nat) (l : List UInt8) (w0 : World) (hr : RB w0 (.slice (some ad) l.length c) l) (hl : 3 < l.length) :
    Calls Try.prog 102 #[.slice (some ad) l.length c, .int .i64 2] w0 fun e w' => e = .returned (.int .i64 ((256 * gb l 2 + gb l 3 : Nat) : Int)) ∧ Below w0.heap.size w0 w' := by
  have hc : l.length ≤ c := by obtain ⟨A, c2, e, h, _⟩ := hr; injection e with _ _ e; omega
  have hlen := hr.len
  have HR := Lib.hid hr
  have hs := run_cut ad l.length c 2 (2 + 2) 2 2 rfl rfl (by omega) (by omega)
  have HT := Lib.hid (two_eq l 2 (by omega))
  have hb : 256 * gb l 2 + gb l 3 < 65536 := by have := gb_lt l 2; have := gb_lt l 3; omega
  generalize 256 * gb l 2 + gb l 3 = n at HT hb ⊢
  clear hr
  have HM := Lib.hid (Mem.start w0)
  have HB := HM.out.below
  go_enter Try.func102, Try.ntmps102
  go_wp2_with (first | refine m_rd ?_ | (refine m_wr ?_; clear HM HB; intro w b HM HB; try clear b) | (refine m_ap ?_; clear HM HB; intro w Aq cq HM HB) | fail)
  refine (ofBig_any _ ((l.drop 2).take 2) _ (by have h := (HR.out.below HB).sub 2 2 (c - 2) (by omega) (by omega); rwa [add_lit _ 2 (by decide)] at h) (by simp; omega) (by simp; omega)).mono ?_
  rintro e w' ⟨rfl, rfl⟩
  rw [HT.out]
  go_wp2_with (first | refine m_rd ?_ | (refine m_wr ?_; clear HM HB; intro w b HM HB; try clear b) | (refine m_ap ?_; clear HM HB; intro w Aq cq HM HB) | fail)
  go_ret
  exact ⟨rfl, HB⟩
set_option maxHeartbeats 1000000 in
theorem half4 (ad : Addr) (c : Nat) (l : List UInt8) (w0 : World) (hr : RB w0 (.slice (some ad) l.length c) l) (hl : 5 < l.length) :
    Calls Try.prog 102 #[.slice (some ad) l.length c, .int .i64 4] w0 fun e w' => e = .returned (.int .i64 ((256 * gb l 4 + gb l 5 : Nat) : Int)) ∧ Below w0.heap.size w0 w' := by
  have hc : l.length ≤ c := by obtain ⟨A, c2, e, h, _⟩ := hr; injection e with _ _ e; omega
  have hlen := hr.len
  have HR := Lib.hid hr
  have hs := run_cut ad l.length c 4 (4 + 2) 4 2 rfl rfl (by omega) (by omega)
  have HT := Lib.hid (two_eq l 4 (by omega))
  have hb : 256 * gb l 4 + gb l 5 < 65536 := by have := gb_lt l 4; have := gb_lt l 5; omega
  generalize 256 * gb l 4 + gb l 5 = n at HT hb ⊢
  clear hr
  have HM := Lib.hid (Mem.start w0)
  have HB := HM.out.below
  go_enter Try.func102, Try.ntmps102
  go_wp2_with (first | refine m_rd ?_ | (refine m_wr ?_; clear HM HB; intro w b HM HB; try clear b) | (refine m_ap ?_; clear HM HB; intro w Aq cq HM HB) | fail)
  refine (ofBig_any _ ((l.drop 4).take 2) _ (by have h := (HR.out.below HB).sub 4 2 (c - 4) (by omega) (by omega); rwa [add_lit _ 4 (by decide)] at h) (by simp; omega) (by simp; omega)).mono ?_
  rintro e w' ⟨rfl, rfl⟩
  rw [HT.out]
  go_wp2_with (first | refine m_rd ?_ | (refine m_wr ?_; clear HM HB; intro w b HM HB; try clear b) | (refine m_ap ?_; clear HM HB; intro w Aq cq HM HB) | fail)
  go_ret
  exact ⟨rfl, HB⟩
set_option maxHeartbeats 1000000 in
theorem half6 (ad : Addr) (c : Nat) (l : List UInt8) (w0 : World) (hr : RB w0 (.slice (some ad) l.length c) l) (hl : 7 < l.length) :
    Calls Try.prog 102 #[.slice (some ad) l.length c, .int .i64 6] w0 fun e w' => e = .returned (.int .i64 ((256 * gb l 6 + gb l 7 : Nat) : Int)) ∧ Below w0.heap.size w0 w' := by
  have hc : l.length ≤ c := by obtain ⟨A, c2, e, h, _⟩ := hr; injection e with _ _ e; omega
  have hlen := hr.len
  have HR := Lib.hid hr
  have hs := run_cut ad l.length c 6 (6 + 2) 6 2 rfl rfl (by omega) (by omega)
  have HT := Lib.hid (two_eq l 6 (by omega))
  have hb : 256 * gb l 6 + gb l 7 < 65536 := by have := gb_lt l 6; have := gb_lt l 7; omega
  generalize 256 * gb l 6 + gb l 7 = n at HT hb ⊢
  clear hr
  have HM := Lib.hid (Mem.start w0)
  have HB := HM.out.below
  go_enter Try.func102, Try.ntmps102
  go_wp2_with (first | refine m_rd ?_ | (refine m_wr ?_; clear HM HB; intro w b HM HB; try clear b) | (refine m_ap ?_; clear HM HB; intro w Aq cq HM HB) | fail)
  refine (ofBig_any _ ((l.drop 6).take 2) _ (by have h := (HR.out.below HB).sub 6 2 (c - 6) (by omega) (by omega); rwa [add_lit _ 6 (by decide)] at h) (by simp; omega) (by simp; omega)).mono ?_
  rintro e w' ⟨rfl, rfl⟩
  rw [HT.out]
  go_wp2_with (first | refine m_rd ?_ | (refine m_wr ?_; clear HM HB; intro w b HM HB; try clear b) | (refine m_ap ?_; clear HM HB; intro w Aq cq HM HB) | fail)
  go_ret
  exact ⟨rfl, HB⟩
set_option maxHeartbeats 1000000 in
theorem two2 (ad : Addr) (c : Nat) (l : List UInt8) (w0 : World) (hr : RB w0 (.slice (some ad) l.length c) l) (hl : 3 < l.length) :
    Calls Try.prog 104 #[.slice (some ad) l.length c, .int .i64 2] w0 fun e w' => e = .returned (.int .i64 ((256 * gb l 2 + gb l 3 : Nat) : Int)) ∧ Below w0.heap.size w0 w' := by
  have hlen := hr.len
  have HR := Lib.hid hr
  have hx := hr.byte 2 (by omega)
  have hy := hr.byte 3 hl
  simp only [gb_getD, add_lit _ 2 (by decide), add_lit _ 3 (by decide)] at hx hy
  have b1 := gb_lt l 2
  have b2 := gb_lt l 3
  have e : ((256 * gb l 2 + gb l 3 : Nat) : Int) = 256 * (gb l 2 : Int) + (gb l 3 : Int) := by omega
  rw [e]
  clear e hr
  generalize gb l 2 = x at hx b1 ⊢
  generalize gb l 3 = y at hy b2 ⊢
  have HM := Lib.hid (Mem.start w0)
  have HB := HM.out.below
  go_enter Try.func104, Try.ntmps104
  go_wp2_with (first | refine m_rd ?_ | (refine m_wr ?_; clear HM HB; intro w b HM HB; try clear b) | (refine m_ap ?_; clear HM HB; intro w Aq cq HM HB) | fail)
  try simp only [Act.put, List.setIfInBounds_toArray, List.set_cons_zero, List.set_cons_succ]
  refine wp_region_held_drew (S := fun w' => Below w0.heap.size w0 w') (by kernel_rfl) (below_drew HB) (fun hS => ?_)
  replace HM := Lib.hid HM.out.drew
  replace HB := HM.out.below
  refine tk 0 5 ?_
  refine tk 1 6 ?_
  refine tk 2 7 ?_
  refine tk 3 8 ?_
  refine tk 4 9 ?_
  refine tk 5 10 ?_
  refine tk 6 11 ?_
  refine tk 7 12 ?_
  refine tk 8 13 ?_
  refine tk 9 14 ?_
  refine tk 10 15 ?_
  refine tk 11 16 ?_
  refine tk 12 17 ?_
  refine tk 13 4 ?_
  refine wpAnyH_done (by kernel_rfl) ?_ _
  clear hS
  go_wp2_with (first | refine m_rd ?_ | (refine m_wr ?_; clear HM HB; intro w b HM HB; try clear b) | (refine m_ap ?_; clear HM HB; intro w Aq cq HM HB) | fail)
  go_ret
  exact ⟨rfl, HB⟩
set_option maxHeartbeats 1000000 in
theorem two4 (ad : Addr) (c : Nat) (l : List UInt8) (w0 : World) (hr : RB w0 (.slice (some ad) l.length c) l) (hl : 5 < l.length) :
    Calls Try.prog 104 #[.slice (some ad) l.length c, .int .i64 4] w0 fun e w' => e = .returned (.int .i64 ((256 * gb l 4 + gb l 5 : Nat) : Int)) ∧ Below w0.heap.size w0 w' := by
  have hlen := hr.len
  have HR := Lib.hid hr
  have hx := hr.byte 4 (by omega)
  have hy := hr.byte 5 hl
  simp only [gb_getD, add_lit _ 4 (by decide), add_lit _ 5 (by decide)] at hx hy
  have b1 := gb_lt l 4
  have b2 := gb_lt l 5
  have e : ((256 * gb l 4 + gb l 5 : Nat) : Int) = 256 * (gb l 4 : Int) + (gb l 5 : Int) := by omega
  rw [e]
  clear e hr
  generalize gb l 4 = x at hx b1 ⊢
  generalize gb l 5 = y at hy b2 ⊢
  have HM := Lib.hid (Mem.start w0)
  have HB := HM.out.below
  go_enter Try.func104, Try.ntmps104
  go_wp2_with (first | refine m_rd ?_ | (refine m_wr ?_; clear HM HB; intro w b HM HB; try clear b) | (refine m_ap ?_; clear HM HB; intro w Aq cq HM HB) | fail)
  try simp only [Act.put, List.setIfInBounds_toArray, List.set_cons_zero, List.set_cons_succ]
  refine wp_region_held_drew (S := fun w' => Below w0.heap.size w0 w') (by kernel_rfl) (below_drew HB) (fun hS => ?_)
  replace HM := Lib.hid HM.out.drew
  replace HB := HM.out.below
  refine tk 0 5 ?_
  refine tk 1 6 ?_
  refine tk 2 7 ?_
  refine tk 3 8 ?_
  refine tk 4 9 ?_
  refine tk 5 10 ?_
  refine tk 6 11 ?_
  refine tk 7 12 ?_
  refine tk 8 13 ?_
  refine tk 9 14 ?_
  refine tk 10 15 ?_
  refine tk 11 16 ?_
  refine tk 12 17 ?_
  refine tk 13 4 ?_
  refine wpAnyH_done (by kernel_rfl) ?_ _
  clear hS
  go_wp2_with (first | refine m_rd ?_ | (refine m_wr ?_; clear HM HB; intro w b HM HB; try clear b) | (refine m_ap ?_; clear HM HB; intro w Aq cq HM HB) | fail)
  go_ret
  exact ⟨rfl, HB⟩
set_option maxHeartbeats 1000000 in
theorem two6 (ad : Addr) (c : Nat) (l : List UInt8) (w0 : World) (hr : RB w0 (.slice (some ad) l.length c) l) (hl : 7 < l.length) :
    Calls Try.prog 104 #[.slice (some ad) l.length c, .int .i64 6] w0 fun e w' => e = .returned (.int .i64 ((256 * gb l 6 + gb l 7 : Nat) : Int)) ∧ Below w0.heap.size w0 w' := by
  have hlen := hr.len
  have HR := Lib.hid hr
  have hx := hr.byte 6 (by omega)
  have hy := hr.byte 7 hl
  simp only [gb_getD, add_lit _ 6 (by decide), add_lit _ 7 (by decide)] at hx hy
  have b1 := gb_lt l 6
  have b2 := gb_lt l 7
  have e : ((256 * gb l 6 + gb l 7 : Nat) : Int) = 256 * (gb l 6 : Int) + (gb l 7 : Int) := by omega
  rw [e]
  clear e hr
  generalize gb l 6 = x at hx b1 ⊢
  generalize gb l 7 = y at hy b2 ⊢
  have HM := Lib.hid (Mem.start w0)
  have HB := HM.out.below
  go_enter Try.func104, Try.ntmps104
  go_wp2_with (first | refine m_rd ?_ | (refine m_wr ?_; clear HM HB; intro w b HM HB; try clear b) | (refine m_ap ?_; clear HM HB; intro w Aq cq HM HB) | fail)
  try simp only [Act.put, List.setIfInBounds_toArray, List.set_cons_zero, List.set_cons_succ]
  refine wp_region_held_drew (S := fun w' => Below w0.heap.size w0 w') (by kernel_rfl) (below_drew HB) (fun hS => ?_)
  replace HM := Lib.hid HM.out.drew
  replace HB := HM.out.below
  refine tk 0 5 ?_
  refine tk 1 6 ?_
  refine tk 2 7 ?_
  refine tk 3 8 ?_
  refine tk 4 9 ?_
  refine tk 5 10 ?_
  refine tk 6 11 ?_
  refine tk 7 12 ?_
  refine tk 8 13 ?_
  refine tk 9 14 ?_
  refine tk 10 15 ?_
  refine tk 11 16 ?_
  refine tk 12 17 ?_
  refine tk 13 4 ?_
  refine wpAnyH_done (by kernel_rfl) ?_ _
  clear hS
  go_wp2_with (first | refine m_rd ?_ | (refine m_wr ?_; clear HM HB; intro w b HM HB; try clear b) | (refine m_ap ?_; clear HM HB; intro w Aq cq HM HB) | fail)
  go_ret
  exact ⟨rfl, HB⟩
end Go.Proofs.Ytahnibhcfdamdaa.Is
