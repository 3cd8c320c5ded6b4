/- Packages ipfour and its reference: two bytes at a place; how many bytes a head and all of it have. Package ipfour: how many bytes a head, and all of it, have. Package ipfour: the head of bytes; PRINTED by gen_p4.py. The reference's head of bytes, of family 4; PRINTED by gen_r4.py. What a head of family 4 must have; PRINTED by gen_put4.py. Packages ipfour and its reference: the packet of a right head and a body; PRINTED by gen_put4.py. Package ipfour: the packet of a right head and a body; PRINTED by gen_put4.py. The reference's packet of a right head and a body, of family 4; PRINTED by gen_put4.py. The laws of layer 19: what they run, and that it says true. -/
import Derived.Test.YtkfjobanbnokoaaZc
import Derived.Test.YtkfjobanbnokoaaZb
import Derived.Test.YtkfjobanbnokoaaZa
set_option linter.unusedSimpArgs false
set_option linter.unusedVariables false
set_option maxRecDepth 100000
namespace Go.Proofs.Ytkfjobanbnokoaa.Is
open Go.RowKit Go.Proofs.YtkfjobanbnokoaaW.PrintWords Go.Proofs.Ytkfjobanbnokoaa.Bs Go.Proofs.Ytkfjobanbnokoaa.Av Go.Proofs.Ytkfjobanbnokoaa.Ad Go.Proofs.Ytkfjobanbnokoaa.Hd Go.Proofs.Ytkfjobanbnokoaa.Mm Go.Proofs.Ytkfjobanbnokoaa.Le Go.Proofs.Ytkfjobanbnokoaa.Ip Go.Proofs.Ytkfjobanbnokoaa.En Go.Proofs.Ytkfjobanbnokoaa.Co

set_option maxHeartbeats 1000000 in
theorem half2 (ad : Addr) (c : Nat) (l : List UInt8) (w0 : World) (hr : RB w0 (.slice (some ad) l.length c) l) (hl : 3 < l.length) :
    Calls Try.prog 65 #[.slice (some ad) l.length c, .int .i64 2] w0 fun e w' => e = .returned (.int .i64 ((256 * gb l 2 + gb l 3 : Nat) : Int)) ∧ Below w0.heap.size w0 w' := by
  have hc : l.length ≤ c := by obtain ⟨A, c2, e, h, _⟩ := hr; injection e with _ _ e; omega
  have hlen := hr.len
  have HR := Lib.hid hr
  have hs := run_cut ad l.length c 2 (2 + 2) 2 2 rfl rfl (by omega) (by omega)
  have HT := Lib.hid (two_eq l 2 (by omega))
  have hb : 256 * gb l 2 + gb l 3 < 65536 := by have := gb_lt l 2; have := gb_lt l 3; omega
  generalize 256 * gb l 2 + gb l 3 = n at HT hb ⊢
  clear hr
  have HM := Lib.hid (Mem.start w0)
  have HB := HM.out.below
  go_enter Try.func65, Try.ntmps65
  go_wp2_with (first | refine m_rd ?_ | (refine m_wr ?_; clear HM HB; intro w b HM HB; try clear b) | (refine m_ap ?_; clear HM HB; intro w Aq cq HM HB) | fail)
  refine (ofBig_any _ ((l.drop 2).take 2) _ (by have h := (HR.out.below HB).sub 2 2 (c - 2) (by omega) (by omega); rwa [add_lit _ 2 (by decide)] at h) (by simp; omega) (by simp; omega)).mono ?_
  rintro e w' ⟨rfl, rfl⟩
  rw [HT.out]
  go_wp2_with (first | refine m_rd ?_ | (refine m_wr ?_; clear HM HB; intro w b HM HB; try clear b) | (refine m_ap ?_; clear HM HB; intro w Aq cq HM HB) | fail)
  go_ret
  exact ⟨rfl, HB⟩
set_option maxHeartbeats 1000000 in
theorem half4 (ad : Addr) (c : Nat) (l : List UInt8) (w0 : World) (hr : RB w0 (.slice (some ad) l.length c) l) (hl : 5 < l.length) :
    Calls Try.prog 65 #[.slice (some ad) l.length c, .int .i64 4] w0 fun e w' => e = .returned (.int .i64 ((256 * gb l 4 + gb l 5 : Nat) : Int)) ∧ Below w0.heap.size w0 w' := by
  have hc : l.length ≤ c := by obtain ⟨A, c2, e, h, _⟩ := hr; injection e with _ _ e; omega
  have hlen := hr.len
  have HR := Lib.hid hr
  have hs := run_cut ad l.length c 4 (4 + 2) 4 2 rfl rfl (by omega) (by omega)
  have HT := Lib.hid (two_eq l 4 (by omega))
  have hb : 256 * gb l 4 + gb l 5 < 65536 := by have := gb_lt l 4; have := gb_lt l 5; omega
  generalize 256 * gb l 4 + gb l 5 = n at HT hb ⊢
  clear hr
  have HM := Lib.hid (Mem.start w0)
  have HB := HM.out.below
  go_enter Try.func65, Try.ntmps65
  go_wp2_with (first | refine m_rd ?_ | (refine m_wr ?_; clear HM HB; intro w b HM HB; try clear b) | (refine m_ap ?_; clear HM HB; intro w Aq cq HM HB) | fail)
  refine (ofBig_any _ ((l.drop 4).take 2) _ (by have h := (HR.out.below HB).sub 4 2 (c - 4) (by omega) (by omega); rwa [add_lit _ 4 (by decide)] at h) (by simp; omega) (by simp; omega)).mono ?_
  rintro e w' ⟨rfl, rfl⟩
  rw [HT.out]
  go_wp2_with (first | refine m_rd ?_ | (refine m_wr ?_; clear HM HB; intro w b HM HB; try clear b) | (refine m_ap ?_; clear HM HB; intro w Aq cq HM HB) | fail)
  go_ret
  exact ⟨rfl, HB⟩
set_option maxHeartbeats 1000000 in
theorem half6 (ad : Addr) (c : Nat) (l : List UInt8) (w0 : World) (hr : RB w0 (.slice (some ad) l.length c) l) (hl : 7 < l.length) :
    Calls Try.prog 65 #[.slice (some ad) l.length c, .int .i64 6] w0 fun e w' => e = .returned (.int .i64 ((256 * gb l 6 + gb l 7 : Nat) : Int)) ∧ Below w0.heap.size w0 w' := by
  have hc : l.length ≤ c := by obtain ⟨A, c2, e, h, _⟩ := hr; injection e with _ _ e; omega
  have hlen := hr.len
  have HR := Lib.hid hr
  have hs := run_cut ad l.length c 6 (6 + 2) 6 2 rfl rfl (by omega) (by omega)
  have HT := Lib.hid (two_eq l 6 (by omega))
  have hb : 256 * gb l 6 + gb l 7 < 65536 := by have := gb_lt l 6; have := gb_lt l 7; omega
  generalize 256 * gb l 6 + gb l 7 = n at HT hb ⊢
  clear hr
  have HM := Lib.hid (Mem.start w0)
  have HB := HM.out.below
  go_enter Try.func65, Try.ntmps65
  go_wp2_with (first | refine m_rd ?_ | (refine m_wr ?_; clear HM HB; intro w b HM HB; try clear b) | (refine m_ap ?_; clear HM HB; intro w Aq cq HM HB) | fail)
  refine (ofBig_any _ ((l.drop 6).take 2) _ (by have h := (HR.out.below HB).sub 6 2 (c - 6) (by omega) (by omega); rwa [add_lit _ 6 (by decide)] at h) (by simp; omega) (by simp; omega)).mono ?_
  rintro e w' ⟨rfl, rfl⟩
  rw [HT.out]
  go_wp2_with (first | refine m_rd ?_ | (refine m_wr ?_; clear HM HB; intro w b HM HB; try clear b) | (refine m_ap ?_; clear HM HB; intro w Aq cq HM HB) | fail)
  go_ret
  exact ⟨rfl, HB⟩
set_option maxHeartbeats 1000000 in
theorem two2 (ad : Addr) (c : Nat) (l : List UInt8) (w0 : World) (hr : RB w0 (.slice (some ad) l.length c) l) (hl : 3 < l.length) :
    Calls Try.prog 70 #[.slice (some ad) l.length c, .int .i64 2] w0 fun e w' => e = .returned (.int .i64 ((256 * gb l 2 + gb l 3 : Nat) : Int)) ∧ Below w0.heap.size w0 w' := by
  have hlen := hr.len
  have HR := Lib.hid hr
  have hx := hr.byte 2 (by omega)
  have hy := hr.byte 3 hl
  simp only [gb_getD, add_lit _ 2 (by decide), add_lit _ 3 (by decide)] at hx hy
  have b1 := gb_lt l 2
  have b2 := gb_lt l 3
  have e : ((256 * gb l 2 + gb l 3 : Nat) : Int) = 256 * (gb l 2 : Int) + (gb l 3 : Int) := by omega
  rw [e]
  clear e hr
  generalize gb l 2 = x at hx b1 ⊢
  generalize gb l 3 = y at hy b2 ⊢
  have HM := Lib.hid (Mem.start w0)
  have HB := HM.out.below
  go_enter Try.func70, Try.ntmps70
  go_wp2_with (first | refine m_rd ?_ | (refine m_wr ?_; clear HM HB; intro w b HM HB; try clear b) | (refine m_ap ?_; clear HM HB; intro w Aq cq HM HB) | fail)
  try simp only [Act.put, List.setIfInBounds_toArray, List.set_cons_zero, List.set_cons_succ]
  refine wp_region_held_drew (S := fun w' => Below w0.heap.size w0 w') (by kernel_rfl) (below_drew HB) (fun hS => ?_)
  replace HM := Lib.hid HM.out.drew
  replace HB := HM.out.below
  refine tk 0 5 ?_
  refine tk 1 6 ?_
  refine tk 2 7 ?_
  refine tk 3 8 ?_
  refine tk 4 9 ?_
  refine tk 5 10 ?_
  refine tk 6 11 ?_
  refine tk 7 12 ?_
  refine tk 8 13 ?_
  refine tk 9 14 ?_
  refine tk 10 15 ?_
  refine tk 11 16 ?_
  refine tk 12 17 ?_
  refine tk 13 4 ?_
  refine wpAnyH_done (by kernel_rfl) ?_ _
  clear hS
  go_wp2_with (first | refine m_rd ?_ | (refine m_wr ?_; clear HM HB; intro w b HM HB; try clear b) | (refine m_ap ?_; clear HM HB; intro w Aq cq HM HB) | fail)
  go_ret
  exact ⟨rfl, HB⟩
set_option maxHeartbeats 1000000 in
theorem two4 (ad : Addr) (c : Nat) (l : List UInt8) (w0 : World) (hr : RB w0 (.slice (some ad) l.length c) l) (hl : 5 < l.length) :
    Calls Try.prog 70 #[.slice (some ad) l.length c, .int .i64 4] w0 fun e w' => e = .returned (.int .i64 ((256 * gb l 4 + gb l 5 : Nat) : Int)) ∧ Below w0.heap.size w0 w' := by
  have hlen := hr.len
  have HR := Lib.hid hr
  have hx := hr.byte 4 (by omega)
  have hy := hr.byte 5 hl
  simp only [gb_getD, add_lit _ 4 (by decide), add_lit _ 5 (by decide)] at hx hy
  have b1 := gb_lt l 4
  have b2 := gb_lt l 5
  have e : ((256 * gb l 4 + gb l 5 : Nat) : Int) = 256 * (gb l 4 : Int) + (gb l 5 : Int) := by omega
  rw [e]
  clear e hr
  generalize gb l 4 = x at hx b1 ⊢
  generalize gb l 5 = y at hy b2 ⊢
  have HM := Lib.hid (Mem.start w0)
  have HB := HM.out.below
  go_enter Try.func70, Try.ntmps70
  go_wp2_with (first | refine m_rd ?_ | (refine m_wr ?_; clear HM HB; intro w b HM HB; try clear b) | (refine m_ap ?_; clear HM HB; intro w Aq cq HM HB) | fail)
  try simp only [Act.put, List.setIfInBounds_toArray, List.set_cons_zero, List.set_cons_succ]
  refine wp_region_held_drew (S := fun w' => Below w0.heap.size w0 w') (by kernel_rfl) (below_drew HB) (fun hS => ?_)
  replace HM := Lib.hid HM.out.drew
  replace HB := HM.out.below
  refine tk 0 5 ?_
  refine tk 1 6 ?_
  refine tk 2 7 ?_
  refine tk 3 8 ?_
  refine tk 4 9 ?_
  refine tk 5 10 ?_
  refine tk 6 11 ?_
  refine tk 7 12 ?_
  refine tk 8 13 ?_
  refine tk 9 14 ?_
  refine tk 10 15 ?_
  refine tk 11 16 ?_
  refine tk 12 17 ?_
  refine tk 13 4 ?_
  refine wpAnyH_done (by kernel_rfl) ?_ _
  clear hS
  go_wp2_with (first | refine m_rd ?_ | (refine m_wr ?_; clear HM HB; intro w b HM HB; try clear b) | (refine m_ap ?_; clear HM HB; intro w Aq cq HM HB) | fail)
  go_ret
  exact ⟨rfl, HB⟩
set_option maxHeartbeats 1000000 in
theorem two6 (ad : Addr) (c : Nat) (l : List UInt8) (w0 : World) (hr : RB w0 (.slice (some ad) l.length c) l) (hl : 7 < l.length) :
    Calls Try.prog 70 #[.slice (some ad) l.length c, .int .i64 6] w0 fun e w' => e = .returned (.int .i64 ((256 * gb l 6 + gb l 7 : Nat) : Int)) ∧ Below w0.heap.size w0 w' := by
  have hlen := hr.len
  have HR := Lib.hid hr
  have hx := hr.byte 6 (by omega)
  have hy := hr.byte 7 hl
  simp only [gb_getD, add_lit _ 6 (by decide), add_lit _ 7 (by decide)] at hx hy
  have b1 := gb_lt l 6
  have b2 := gb_lt l 7
  have e : ((256 * gb l 6 + gb l 7 : Nat) : Int) = 256 * (gb l 6 : Int) + (gb l 7 : Int) := by omega
  rw [e]
  clear e hr
  generalize gb l 6 = x at hx b1 ⊢
  generalize gb l 7 = y at hy b2 ⊢
  have HM := Lib.hid (Mem.start w0)
  have HB := HM.out.below
  go_enter Try.func70, Try.ntmps70
  go_wp2_with (first | refine m_rd ?_ | (refine m_wr ?_; clear HM HB; intro w b HM HB; try clear b) | (refine m_ap ?_; clear HM HB; intro w Aq cq HM HB) | fail)
  try simp only [Act.put, List.setIfInBounds_toArray, List.set_cons_zero, List.set_cons_succ]
  refine wp_region_held_drew (S := fun w' => Below w0.heap.size w0 w') (by kernel_rfl) (below_drew HB) (fun hS => ?_)
  replace HM := Lib.hid HM.out.drew
  replace HB := HM.out.below
  refine tk 0 5 ?_
  refine tk 1 6 ?_
  refine tk 2 7 ?_
  refine tk 3 8 ?_
  refine tk 4 9 ?_
  refine tk 5 10 ?_
  refine tk 6 11 ?_
  refine tk 7 12 ?_
  refine tk 8 13 ?_
  refine tk 9 14 ?_
  refine tk 10 15 ?_
  refine tk 11 16 ?_
  refine tk 12 17 ?_
  refine tk 13 4 ?_
  refine wpAnyH_done (by kernel_rfl) ?_ _
  clear hS
  go_wp2_with (first | refine m_rd ?_ | (refine m_wr ?_; clear HM HB; intro w b HM HB; try clear b) | (refine m_ap ?_; clear HM HB; intro w Aq cq HM HB) | fail)
  go_ret
  exact ⟨rfl, HB⟩
end Go.Proofs.Ytkfjobanbnokoaa.Is

set_option linter.unusedSimpArgs false
set_option linter.unusedVariables false
set_option maxRecDepth 100000
namespace Go.Proofs.Ytkfjobanbnokoaa.Is
open Go.RowKit Go.Proofs.YtkfjobanbnokoaaW.PrintWords Go.Proofs.Ytkfjobanbnokoaa.Bs Go.Proofs.Ytkfjobanbnokoaa.Av Go.Proofs.Ytkfjobanbnokoaa.Ad Go.Proofs.Ytkfjobanbnokoaa.Hd Go.Proofs.Ytkfjobanbnokoaa.Mm Go.Proofs.Ytkfjobanbnokoaa.Le Go.Proofs.Ytkfjobanbnokoaa.Ip Go.Proofs.Ytkfjobanbnokoaa.En Go.Proofs.Ytkfjobanbnokoaa.Co

theorem and15 (x : Nat) (hx : x < 256) : Go.bits .and .u8 (x : Int) 15 = ((x % 16 : Nat) : Int) := by
  rw [show (15 : Int) = ((15 : Nat) : Int) from rfl, u8_and_nat x 15 hx (by decide)]
  congr 1
  exact Nat.and_two_pow_sub_one_eq_mod x 4
set_option maxHeartbeats 2000000 in
theorem sized_four (v : Value) (l : List UInt8) (w0 : World) (hr : RB w0 v l) :
    Calls Try.prog 63 #[v] w0 fun e w' => e = .returned (.tuple #[.int .i64 ((if badS l = 0 then siz4 l else 0 : Nat) : Int), .int .i64 ((if badS l = 0 then tot4 l else 0 : Nat) : Int), .int .i64 (badS l : Nat)]) ∧ Below w0.heap.size w0 w' := by
  have hl := hr.len
  have HR := Lib.hid hr
  obtain ⟨A, c, rfl, hc, hrr⟩ := hr
  clear hrr
  have HM := Lib.hid (Mem.start w0)
  have HB := HM.out.below
  rcases badS_cases l with ⟨h0, h1⟩ | ⟨h0, h1, h2⟩ | ⟨h0, h1, h2, h3⟩ | ⟨h0, h1, h2, h3, h4⟩ | ⟨h0, h1, h2, h3, h4, h5⟩ | ⟨h0, h1, h2, h3, h4, h5, h6⟩ | ⟨h0, h1, h2, h3, h4, h5, h6⟩
  all_goals rw [h0]
  · clear h0
    go_enter Try.func63, Try.ntmps63
    go_wp2_with (first | refine m_rd ?_ | (refine m_wr ?_; clear HM HB; intro w b HM HB; try clear b) | (refine m_ap ?_; clear HM HB; intro w Aq cq HM HB) | fail)
    go_ret3
    exact ⟨rfl, HB⟩
  all_goals
    obtain ⟨ad, rfl⟩ := HR.out.some (by omega)
    have hx0 := HR.out.byte 0 (by omega)
    simp only [gb_getD, Mm.add_zero] at hx0
    have hy0 := gb_lt l 0
  · have h2' : (((gb l 0 : Nat) : Int) / 16 != 4) = true := by simp; omega
    generalize gb l 0 = g0 at hx0 hy0 h2'
    clear h2 h0
    go_enter Try.func63, Try.ntmps63
    go_wp2_with (first | refine m_rd ?_ | (refine m_wr ?_; clear HM HB; intro w b HM HB; try clear b) | (refine m_ap ?_; clear HM HB; intro w Aq cq HM HB) | fail)
    go_ret3
    exact ⟨rfl, HB⟩
  all_goals
    have h2' : (((gb l 0 : Nat) : Int) / 16 != 4) = false := by simp; omega
    have ha := and15 (gb l 0) hy0
    have hg2 := gb_lt l 2
    have hg3 := gb_lt l 3
    have HH := Lib.hid (half2 ad c l)
    have hsz : siz4 l < 64 := by unfold siz4; omega
    have HSZ : Hid (((gb l 0 % 16 : Nat) : Int) * 4 = (siz4 l : Nat)) := Lib.hid (by unfold siz4; omega)
    have HTT : Hid (256 * gb l 2 + gb l 3 = tot4 l) := Lib.hid rfl
    have htt : tot4 l < 65536 := by unfold tot4; omega
    have hsm : gb l 0 % 16 < 16 := Nat.mod_lt _ (by decide)
    clear h2 h0 hg2 hg3
    generalize gb l 0 % 16 = s at ha HSZ hsm
    have HSS : siz4 l = s * 4 := by have := HSZ.out; omega
    rw [HTT.out] at HH
    clear HSZ HTT
    simp only [HSS] at *
    generalize tot4 l = tt at *
    generalize gb l 0 = g0 at hx0 hy0 h2' ha
    clear HSS
  · go_enter Try.func63, Try.ntmps63
    go_wp2_with (first | refine m_rd ?_ | (refine m_wr ?_; clear HM HB; intro w b HM HB; try clear b) | (refine m_ap ?_; clear HM HB; intro w Aq cq HM HB) | fail)
    try simp only [Act.put, List.setIfInBounds_toArray, List.set_cons_zero, List.set_cons_succ]
    refine wp_region_held_drew (S := fun w' => Below w0.heap.size w0 w') (by kernel_rfl) (below_drew HB) (fun hS => ?_)
    replace HM := Lib.hid HM.out.drew
    replace HB := HM.out.below
    refine tk 0 15 ?_
    refine tk 1 16 ?_
    refine tk 2 17 ?_
    refine tk 3 18 ?_
    refine tk 4 19 ?_
    refine tk 5 20 ?_
    refine tk 6 21 ?_
    refine rone 7 rfl fun K' hK => ?_
    go_simp
    refine (HH.out _ (HR.out.below HB) (by omega)).mono ?_
    rintro e w ⟨rfl, hb⟩
    replace HM := Lib.hid (HM.out.call hb)
    replace HB := HM.out.below
    clear hb
    refine hK.out _ _ (HB) (fun hS2 => ?_)
    clear hS hK
    have hS := hS2
    clear hS2
    try simp only [Act.put, List.setIfInBounds_toArray, List.set_cons_zero, List.set_cons_succ]
    refine tk 8 2 ?_
    refine tk 9 3 ?_
    refine wpAnyH_done (by kernel_rfl) ?_ _
    clear hS
    go_wp2_with (first | refine m_rd ?_ | (refine m_wr ?_; clear HM HB; intro w b HM HB; try clear b) | (refine m_ap ?_; clear HM HB; intro w Aq cq HM HB) | fail)
    go_ret3
    exact ⟨rfl, HB⟩
  · go_enter Try.func63, Try.ntmps63
    go_wp2_with (first | refine m_rd ?_ | (refine m_wr ?_; clear HM HB; intro w b HM HB; try clear b) | (refine m_ap ?_; clear HM HB; intro w Aq cq HM HB) | fail)
    try simp only [Act.put, List.setIfInBounds_toArray, List.set_cons_zero, List.set_cons_succ]
    refine wp_region_held_drew (S := fun w' => Below w0.heap.size w0 w') (by kernel_rfl) (below_drew HB) (fun hS => ?_)
    replace HM := Lib.hid HM.out.drew
    replace HB := HM.out.below
    refine tk 0 15 ?_
    refine tk 1 16 ?_
    refine tk 2 17 ?_
    refine tk 3 18 ?_
    refine tk 4 19 ?_
    refine tk 5 20 ?_
    refine tk 6 21 ?_
    refine rone 7 rfl fun K' hK => ?_
    go_simp
    refine (HH.out _ (HR.out.below HB) (by omega)).mono ?_
    rintro e w ⟨rfl, hb⟩
    replace HM := Lib.hid (HM.out.call hb)
    replace HB := HM.out.below
    clear hb
    refine hK.out _ _ (HB) (fun hS2 => ?_)
    clear hS hK
    have hS := hS2
    clear hS2
    try simp only [Act.put, List.setIfInBounds_toArray, List.set_cons_zero, List.set_cons_succ]
    refine tk 8 2 ?_
    refine tk 9 3 ?_
    refine wpAnyH_done (by kernel_rfl) ?_ _
    clear hS
    go_wp2_with (first | refine m_rd ?_ | (refine m_wr ?_; clear HM HB; intro w b HM HB; try clear b) | (refine m_ap ?_; clear HM HB; intro w Aq cq HM HB) | fail)
    go_ret3
    exact ⟨rfl, HB⟩
  · go_enter Try.func63, Try.ntmps63
    go_wp2_with (first | refine m_rd ?_ | (refine m_wr ?_; clear HM HB; intro w b HM HB; try clear b) | (refine m_ap ?_; clear HM HB; intro w Aq cq HM HB) | fail)
    try simp only [Act.put, List.setIfInBounds_toArray, List.set_cons_zero, List.set_cons_succ]
    refine wp_region_held_drew (S := fun w' => Below w0.heap.size w0 w') (by kernel_rfl) (below_drew HB) (fun hS => ?_)
    replace HM := Lib.hid HM.out.drew
    replace HB := HM.out.below
    refine tk 0 15 ?_
    refine tk 1 16 ?_
    refine tk 2 17 ?_
    refine tk 3 18 ?_
    refine tk 4 19 ?_
    refine tk 5 20 ?_
    refine tk 6 21 ?_
    refine rone 7 rfl fun K' hK => ?_
    go_simp
    refine (HH.out _ (HR.out.below HB) (by omega)).mono ?_
    rintro e w ⟨rfl, hb⟩
    replace HM := Lib.hid (HM.out.call hb)
    replace HB := HM.out.below
    clear hb
    refine hK.out _ _ (HB) (fun hS2 => ?_)
    clear hS hK
    have hS := hS2
    clear hS2
    try simp only [Act.put, List.setIfInBounds_toArray, List.set_cons_zero, List.set_cons_succ]
    refine tk 8 2 ?_
    refine tk 9 3 ?_
    refine wpAnyH_done (by kernel_rfl) ?_ _
    clear hS
    go_wp2_with (first | refine m_rd ?_ | (refine m_wr ?_; clear HM HB; intro w b HM HB; try clear b) | (refine m_ap ?_; clear HM HB; intro w Aq cq HM HB) | fail)
    go_ret3
    exact ⟨rfl, HB⟩
  · go_enter Try.func63, Try.ntmps63
    go_wp2_with (first | refine m_rd ?_ | (refine m_wr ?_; clear HM HB; intro w b HM HB; try clear b) | (refine m_ap ?_; clear HM HB; intro w Aq cq HM HB) | fail)
    try simp only [Act.put, List.setIfInBounds_toArray, List.set_cons_zero, List.set_cons_succ]
    refine wp_region_held_drew (S := fun w' => Below w0.heap.size w0 w') (by kernel_rfl) (below_drew HB) (fun hS => ?_)
    replace HM := Lib.hid HM.out.drew
    replace HB := HM.out.below
    refine tk 0 15 ?_
    refine tk 1 16 ?_
    refine tk 2 17 ?_
    refine tk 3 18 ?_
    refine tk 4 19 ?_
    refine tk 5 20 ?_
    refine tk 6 21 ?_
    refine rone 7 rfl fun K' hK => ?_
    go_simp
    refine (HH.out _ (HR.out.below HB) (by omega)).mono ?_
    rintro e w ⟨rfl, hb⟩
    replace HM := Lib.hid (HM.out.call hb)
    replace HB := HM.out.below
    clear hb
    refine hK.out _ _ (HB) (fun hS2 => ?_)
    clear hS hK
    have hS := hS2
    clear hS2
    try simp only [Act.put, List.setIfInBounds_toArray, List.set_cons_zero, List.set_cons_succ]
    refine tk 8 2 ?_
    refine tk 9 3 ?_
    refine wpAnyH_done (by kernel_rfl) ?_ _
    clear hS
    go_wp2_with (first | refine m_rd ?_ | (refine m_wr ?_; clear HM HB; intro w b HM HB; try clear b) | (refine m_ap ?_; clear HM HB; intro w Aq cq HM HB) | fail)
    go_ret3
    exact ⟨rfl, HB⟩
  · go_enter Try.func63, Try.ntmps63
    go_wp2_with (first | refine m_rd ?_ | (refine m_wr ?_; clear HM HB; intro w b HM HB; try clear b) | (refine m_ap ?_; clear HM HB; intro w Aq cq HM HB) | fail)
    try simp only [Act.put, List.setIfInBounds_toArray, List.set_cons_zero, List.set_cons_succ]
    refine wp_region_held_drew (S := fun w' => Below w0.heap.size w0 w') (by kernel_rfl) (below_drew HB) (fun hS => ?_)
    replace HM := Lib.hid HM.out.drew
    replace HB := HM.out.below
    refine tk 0 15 ?_
    refine tk 1 16 ?_
    refine tk 2 17 ?_
    refine tk 3 18 ?_
    refine tk 4 19 ?_
    refine tk 5 20 ?_
    refine tk 6 21 ?_
    refine rone 7 rfl fun K' hK => ?_
    go_simp
    refine (HH.out _ (HR.out.below HB) (by omega)).mono ?_
    rintro e w ⟨rfl, hb⟩
    replace HM := Lib.hid (HM.out.call hb)
    replace HB := HM.out.below
    clear hb
    refine hK.out _ _ (HB) (fun hS2 => ?_)
    clear hS hK
    have hS := hS2
    clear hS2
    try simp only [Act.put, List.setIfInBounds_toArray, List.set_cons_zero, List.set_cons_succ]
    refine tk 8 2 ?_
    refine tk 9 3 ?_
    refine wpAnyH_done (by kernel_rfl) ?_ _
    clear hS
    go_wp2_with (first | refine m_rd ?_ | (refine m_wr ?_; clear HM HB; intro w b HM HB; try clear b) | (refine m_ap ?_; clear HM HB; intro w Aq cq HM HB) | fail)
    go_ret3
    exact ⟨rfl, HB⟩
end Go.Proofs.Ytkfjobanbnokoaa.Is

set_option linter.unusedSimpArgs false
set_option linter.unusedVariables false
set_option maxRecDepth 100000
namespace Go.Proofs.Ytkfjobanbnokoaa.Is
open Go.RowKit Go.Proofs.YtkfjobanbnokoaaW.PrintWords Go.Proofs.Ytkfjobanbnokoaa.Bs Go.Proofs.Ytkfjobanbnokoaa.Av Go.Proofs.Ytkfjobanbnokoaa.Ad Go.Proofs.Ytkfjobanbnokoaa.Hd Go.Proofs.Ytkfjobanbnokoaa.Mm Go.Proofs.Ytkfjobanbnokoaa.Le Go.Proofs.Ytkfjobanbnokoaa.Ip Go.Proofs.Ytkfjobanbnokoaa.En Go.Proofs.Ytkfjobanbnokoaa.Co Go.Proofs.Ytkfjobanbnokoaa.Os

/-- Four bytes as an address's sixteen. -/
def pad16 (l : List UInt8) : List UInt8 := l ++ List.replicate 12 0
theorem pad16_length (l : List UInt8) (h : l.length = 4) : (pad16 l).length = 16 := by unfold pad16; rw [List.length_append, h]; rfl
/-- The head of bytes, of family 4. -/
def head4v (l : List UInt8) : Array Value := if bad4 l = 0 then HV (ns4 l) 4 (pad16 ((l.drop 12).take 4)) 4 (pad16 ((l.drop 16).take 4)) else ZH
theorem build5 (n1 n2 n3 n4 : Int) (W : World) : (Instr.build 67 #[(0, .int .i64 4), (1, .int .i64 n1), (2, .int .i64 n2), (3, .int .i64 n3), (4, .int .i64 n4)]).run Try.prog W = .ok (.agg (HV [4, n1, n2, n3, n4, 0, 0, 0, 0] 0 (List.replicate 16 0) 0 (List.replicate 16 0))) W := by kernel_rfl
theorem i64_and8191 (n : Int) : bits .and .i64 n 8191 = n % 8192 := by
  have h127 : (BitVec.ofInt 64 8191).toNat = 2 ^ 13 - 1 := by decide
  have key : (BitVec.ofInt 64 n &&& BitVec.ofInt 64 8191).toNat = (n % ((2 ^ 64 : Nat) : Int)).toNat % 2 ^ 13 := by
    rw [BitVec.toNat_and, BitVec.toNat_ofInt, h127, Nat.and_two_pow_sub_one_eq_mod]
  show IntKind.i64.wrap ((BitVec.ofInt 64 n &&& BitVec.ofInt 64 8191).toNat : Nat) = n % 8192
  rw [key, IntKind.wrap_i64]
  omega
theorem and13 (x : Nat) (hx : x < 65536) : Go.bits .and .i64 (x : Int) 8191 = ((x % 8192 : Nat) : Int) := by rw [i64_and8191]; omega
set_option maxHeartbeats 4000000 in
theorem parse4_any (v : Value) (l : List UInt8) (w0 : World) (hr : RB w0 v l) :
    Calls Try.prog 48 #[v] w0 fun e w' => e = .returned (.tuple #[.agg (head4v l), .int .i64 (bad4 l : Nat)]) ∧ Below w0.heap.size w0 w' := by
  have hl := hr.len
  have HR := Lib.hid hr
  obtain ⟨A, c, rfl, hc, hrr⟩ := hr
  clear hrr
  have HM := Lib.hid (Mem.start w0)
  have HB := HM.out.below
  by_cases hs : badS l = 0
  case neg =>
    have hb : bad4 l = badS l := by unfold bad4; rw [if_pos hs]
    have HF : Hid (head4v l = ZH) := Lib.hid (by unfold head4v; rw [hb, if_neg hs])
    have hle : badS l < 10 := by rcases badS_cases l with h | h | h | h | h | h | h <;> omega
    have hs2 : (((badS l : Nat) : Int) != 0) = true := by simp; omega
    have HZ : Hid ((if badS l = 0 then siz4 l else 0) = 0) := Lib.hid (if_neg hs)
    have HZ2 : Hid ((if badS l = 0 then tot4 l else 0) = 0) := Lib.hid (if_neg hs)
    rw [hb, HF.out]
    have HSD := Lib.hid (sized_four (.slice A l.length c) l)
    rw [HZ.out, HZ2.out] at HSD
    clear hb hs
    generalize badS l = q at *
    go_enter Try.func48, Try.ntmps48
    go_wp2_with (first | refine m_rd ?_ | (refine m_wr ?_; clear HM HB; intro w b HM HB; try clear b) | (refine m_ap ?_; clear HM HB; intro w Aq cq HM HB) | fail)
    refine (HSD.out _ (HR.out.below HB)).mono ?_
    rintro e w ⟨rfl, hb⟩
    replace HM := Lib.hid (HM.out.call hb)
    replace HB := HM.out.below
    clear hb
    go_wp2_with (first | refine m_rd ?_ | (refine m_wr ?_; clear HM HB; intro w b HM HB; try clear b) | (refine m_ap ?_; clear HM HB; intro w Aq cq HM HB) | fail)
    apply m_ret_c1
    next => exact rfl
    next => exact rfl
    next => exact rfl
    next => exact HM
    next => (first | ((repeat (first | with_reducible exact List.Mem.head _ | with_reducible apply List.Mem.tail)); done) | ((repeat (first | exact List.Mem.head _ | apply List.Mem.tail)); done))
    next => exact Try.underlying67
    next => rfl
    exact ⟨rfl, HB⟩
  have hin : 20 ≤ l.length ∧ 20 ≤ siz4 l ∧ siz4 l ≤ l.length ∧ tot4 l ≤ l.length := by rcases badS_cases l with h | h | h | h | h | h | h <;> omega
  obtain ⟨i1, i2, i3, i4⟩ := hin
  obtain ⟨ad, rfl⟩ := HR.out.some (by omega)
  have HSD := Lib.hid (sized_four (.slice (some ad) l.length c) l)
  rw [if_pos hs, if_pos hs, hs] at HSD
  have hsz : siz4 l < 64 := by unfold siz4; omega
  have htt : tot4 l < 65536 := by unfold tot4; have := gb_lt l 2; have := gb_lt l 3; omega
  by_cases hg : sum16 (l.take (siz4 l)) = 65535
  case neg =>
    have hb : bad4 l = 11 := by unfold bad4; rw [if_neg (by omega), if_pos hg]
    have HF : Hid (head4v l = ZH) := Lib.hid (by unfold head4v; rw [hb]; rfl)
    have HG : Hid ((((sum16 [l.take (siz4 l)].flatten : Nat) : Int) == 65535) = false) := Lib.hid (by rw [show [l.take (siz4 l)].flatten = l.take (siz4 l) by simp]; exact beq_false_of_ne (by omega))
    rw [hb, HF.out]
    clear hb hs hg
    generalize siz4 l = sz at *
    generalize tot4 l = tt at *
    go_enter Try.func48, Try.ntmps48
    go_wp2_with (first | refine m_rd ?_ | (refine m_wr ?_; clear HM HB; intro w b HM HB; try clear b) | (refine m_ap ?_; clear HM HB; intro w Aq cq HM HB) | fail)
    refine (HSD.out _ (HR.out.below HB)).mono ?_
    rintro e w ⟨rfl, hb⟩
    replace HM := Lib.hid (HM.out.call hb)
    replace HB := HM.out.below
    clear hb
    go_wp2_with (first | refine m_rd ?_ | (refine m_wr ?_; clear HM HB; intro w b HM HB; try clear b) | (refine m_ap ?_; clear HM HB; intro w Aq cq HM HB) | fail)
    refine (good_any _ _ [l.take sz] _ (HM.out.rbs1 (by (first | ((repeat (first | with_reducible exact List.Mem.head _ | with_reducible apply List.Mem.tail)); done) | ((repeat (first | exact List.Mem.head _ | apply List.Mem.tail)); done))) ((HR.out.below HB).front sz c (by omega) (by omega))) (by simp; omega)).mono ?_
    rintro e w' ⟨rfl, rfl⟩
    rw [HG.out]
    go_wp2_with (first | refine m_rd ?_ | (refine m_wr ?_; clear HM HB; intro w b HM HB; try clear b) | (refine m_ap ?_; clear HM HB; intro w Aq cq HM HB) | fail)
    apply m_ret_c1
    next => exact rfl
    next => exact rfl
    next => exact rfl
    next => exact HM
    next => (first | ((repeat (first | with_reducible exact List.Mem.head _ | with_reducible apply List.Mem.tail)); done) | ((repeat (first | exact List.Mem.head _ | apply List.Mem.tail)); done))
    next => exact Try.underlying67
    next => rfl
    exact ⟨rfl, HB⟩
  have hb : bad4 l = 0 := by unfold bad4; rw [if_neg (by omega), if_neg (by omega)]
  have HF : Hid (head4v l = HV (ns4 l) 4 (pad16 ((l.drop 12).take 4)) 4 (pad16 ((l.drop 16).take 4))) := Lib.hid (by unfold head4v; rw [if_pos hb])
  have HG : Hid ((((sum16 [l.take (siz4 l)].flatten : Nat) : Int) == 65535) = true) := Lib.hid (by rw [show [l.take (siz4 l)].flatten = l.take (siz4 l) by simp, hg]; rfl)
  have HN : Hid (ns4 l = [4, ((siz4 l : Nat) : Int), ((tot4 l : Nat) : Int), ((gb l 1 : Nat) : Int), ((256 * gb l 4 + gb l 5 : Nat) : Int), (((256 * gb l 6 + gb l 7) / 8192 : Nat) : Int), (((256 * gb l 6 + gb l 7) % 8192 : Nat) : Int), ((gb l 8 : Nat) : Int), ((gb l 9 : Nat) : Int)]) := Lib.hid (by
    unfold ns4
    rw [show (256 * gb l 6 + gb l 7) / 8192 = gb l 6 / 32 by have := gb_lt l 7; omega])
  have H4 := Lib.hid (half4 ad c l)
  have H6 := Lib.hid (half6 ad c l)
  have b4 : 256 * gb l 4 + gb l 5 < 65536 := by have := gb_lt l 4; have := gb_lt l 5; omega
  have b6 : 256 * gb l 6 + gb l 7 < 65536 := by have := gb_lt l 6; have := gb_lt l 7; omega
  have ha := and13 _ b6
  have hx1 := HR.out.byte 1 (by omega)
  have hx8 := HR.out.byte 8 (by omega)
  have hx9 := HR.out.byte 9 (by omega)
  simp only [gb_getD, add_lit _ 1 (by decide), add_lit _ 8 (by decide), add_lit _ 9 (by decide)] at hx1 hx8 hx9
  have hy1 := gb_lt l 1
  have hy8 := gb_lt l 8
  have hy9 := gb_lt l 9
  have hs1 := run_cut ad l.length c 12 16 12 4 rfl rfl (by omega) (by omega)
  have hs2 := run_cut ad l.length c 16 20 16 4 rfl rfl (by omega) (by omega)
  have ha1 := fun W => Ad.run_arrayAt (P := Try.prog) W 104 Try.underlying104 (some ⟨ad.block, ad.off + 12, none⟩) 4 (c - 12) (by decide)
  have ha2 := fun W => Ad.run_arrayAt (P := Try.prog) W 104 Try.underlying104 (some ⟨ad.block, ad.off + 16, none⟩) 4 (c - 16) (by decide)
  have HI : Hid ((Try.prog.info? 104).map (·.size) = some 4) := Lib.hid info4
  have L12 : Hid (((l.drop 12).take 4).length = 4) := Lib.hid (by simp; omega)
  have L16 : Hid (((l.drop 16).take 4).length = 4) := Lib.hid (by simp; omega)
  have P12 := Lib.hid (pad16_length _ L12.out)
  have P16 := Lib.hid (pad16_length _ L16.out)
  rw [hb]
  clear hb hs hg
  generalize siz4 l = sz at *
  generalize tot4 l = tt at *
  generalize 256 * gb l 4 + gb l 5 = idn at *
  generalize 256 * gb l 6 + gb l 7 = fr at *
  generalize gb l 1 = g1 at *
  generalize gb l 8 = g8 at *
  generalize gb l 9 = g9 at *
  have hfl : fr / 8192 < 8 := by omega
  have hfg : fr % 8192 < 8192 := Nat.mod_lt _ (by decide)
  have CH : Hid (Cells 67 (HV [4, (sz : Int), (tt : Int), (g1 : Int), (idn : Int), 0, 0, 0, 0] 0 (List.replicate 16 0) 0 (List.replicate 16 0))) := Lib.hid (cellsH _ _ _ _ _ rfl rfl rfl)
  go_enter Try.func48, Try.ntmps48
  go_wp2_with (first | refine m_rd ?_ | (refine m_wr ?_; clear HM HB; intro w b HM HB; try clear b) | (refine m_ap ?_; clear HM HB; intro w Aq cq HM HB) | fail)
  refine (HSD.out _ (HR.out.below HB)).mono ?_
  rintro e w ⟨rfl, hb⟩
  replace HM := Lib.hid (HM.out.call hb)
  replace HB := HM.out.below
  clear hb
  go_wp2_with (first | refine m_rd ?_ | (refine m_wr ?_; clear HM HB; intro w b HM HB; try clear b) | (refine m_ap ?_; clear HM HB; intro w Aq cq HM HB) | fail)
  refine (good_any _ _ [l.take sz] _ (HM.out.rbs1 (by (first | ((repeat (first | with_reducible exact List.Mem.head _ | with_reducible apply List.Mem.tail)); done) | ((repeat (first | exact List.Mem.head _ | apply List.Mem.tail)); done))) ((HR.out.below HB).front sz c (by omega) (by omega))) (by simp; omega)).mono ?_
  rintro e w' ⟨rfl, rfl⟩
  rw [HG.out]
  go_wp2_with (first | refine m_rd ?_ | (refine m_wr ?_; clear HM HB; intro w b HM HB; try clear b) | (refine m_ap ?_; clear HM HB; intro w Aq cq HM HB) | fail)
  try simp only [Act.put, List.setIfInBounds_toArray, List.set_cons_zero, List.set_cons_succ]
  refine wp_region_held_drew (S := fun w' => Below w0.heap.size w0 w') (by kernel_rfl) (below_drew HB) (fun hS => ?_)
  replace HM := Lib.hid HM.out.drew
  replace HB := HM.out.below
  refine tk 0 28 ?_
  refine tk 1 29 ?_
  refine tk 2 30 ?_
  refine tk 3 31 ?_
  refine tk 4 32 ?_
  refine tk 5 33 ?_
  refine tk 6 34 ?_
  refine wpAnyH_ready (rs := [7, 9]) (by kernel_rfl) (by simp) (AllReadyH.cons rfl (fun K' hK => ?_) (AllReadyH.cons rfl (fun K' hK => ?_) AllReadyH.nil))
  · go_simp
    refine (H4.out _ (HR.out.below HB) (by omega)).mono ?_
    rintro e w ⟨rfl, hb⟩
    replace HM := Lib.hid (HM.out.call hb)
    replace HB := HM.out.below
    clear hb
    refine hK.out _ _ (HB) (fun hS2 => ?_)
    clear hS hK
    have hS := hS2
    clear hS2
    try simp only [Act.put, List.setIfInBounds_toArray, List.set_cons_zero, List.set_cons_succ]
    refine tkv 8 36 _ rfl (yields_build rfl #[(0, .int .i64 4), (1, .int .i64 (sz : Int)), (2, .int .i64 (tt : Int)), (3, .int .i64 (g1 : Int)), (4, .int .i64 (idn : Int))] rfl (build5 _ _ _ _) (by kernel_rfl)) ?_
    refine rone 9 rfl fun K' hK => ?_
    apply s_allocC
    next => kernel_rfl
    next => exact rfl
    next => exact zeroH
    next => exact cellsZH
    next => exact HM
    clear HM HB
    intro w b HM HB
    refine hK.out _ _ (HB) (fun hS2 => ?_)
    clear hS hK
    have hS := hS2
    clear hS2
    try simp only [Act.put, List.setIfInBounds_toArray, List.set_cons_zero, List.set_cons_succ]
    refine rone 10 rfl fun K' hK => ?_
    apply s_storeC
    next => kernel_rfl
    next => exact rfl
    next => exact rfl
    next => exact rfl
    next => exact HM
    next => (first | ((repeat (first | with_reducible exact Upd.head _ | with_reducible apply Upd.tail)); done) | ((repeat (first | exact Upd.head _ | apply Upd.tail)); done))
    next => exact CH.out
    clear HM HB
    intro w HM HB
    refine hK.out _ _ (HB) (fun hS2 => ?_)
    clear hS hK
    have hS := hS2
    clear hS2
    try simp only [Act.put, List.setIfInBounds_toArray, List.set_cons_zero, List.set_cons_succ]
    refine wpAnyH_done (by kernel_rfl) ?_ _
    clear hS
    go_wp2_with (first | refine m_rd ?_ | (refine m_wr ?_; clear HM HB; intro w b HM HB; try clear b) | (refine m_ap ?_; clear HM HB; intro w Aq cq HM HB) | fail)
    refine (H6.out _ (HR.out.below HB) (by omega)).mono ?_
    rintro e w ⟨rfl, hb⟩
    replace HM := Lib.hid (HM.out.call hb)
    replace HB := HM.out.below
    clear hb
    go_wp2_with (first | refine m_rd ?_ | (refine m_wr ?_; clear HM HB; intro w b HM HB; try clear b) | (refine m_ap ?_; clear HM HB; intro w Aq cq HM HB) | fail)
    try simp only [Act.put, List.setIfInBounds_toArray, List.set_cons_zero, List.set_cons_succ]
    refine wp_region_held_drew (S := fun w' => Below w0.heap.size w0 w') (by kernel_rfl) (below_drew HB) (fun hS => ?_)
    replace HM := Lib.hid HM.out.drew
    replace HB := HM.out.below
    refine tk 0 45 ?_
    refine tk 1 46 ?_
    refine tk 2 47 ?_
    refine tk 3 48 ?_
    refine tk 4 49 ?_
    refine tk 5 50 ?_
    refine tk 6 51 ?_
    refine tk 7 52 ?_
    refine tk 8 53 ?_
    refine rone 9 rfl fun K' hK => ?_
    apply s_putI
    next => kernel_rfl
    next => exact rfl
    next => exact rfl
    next => exact rfl
    next => exact HM
    next => (first | ((repeat (first | with_reducible exact Upd.head _ | with_reducible apply Upd.tail)); done) | ((repeat (first | exact Upd.head _ | apply Upd.tail)); done))
    next => exact HV_num _ _ _ _ _ _ _ rfl
    next => exact HV_set1 _ _ _ _ _ _ _ rfl
    clear HM HB
    intro w HM HB
    refine hK.out _ _ (HB) (fun hS2 => ?_)
    clear hS hK
    have hS := hS2
    clear hS2
    try simp only [Act.put, List.setIfInBounds_toArray, List.set_cons_zero, List.set_cons_succ]
    refine tk 10 54 ?_
    refine rone 11 rfl fun K' hK => ?_
    apply s_putI
    next => kernel_rfl
    next => exact rfl
    next => exact rfl
    next => exact rfl
    next => exact HM
    next => (first | ((repeat (first | with_reducible exact Upd.head _ | with_reducible apply Upd.tail)); done) | ((repeat (first | exact Upd.head _ | apply Upd.tail)); done))
    next => exact HV_num _ _ _ _ _ _ _ rfl
    next => exact HV_set1 _ _ _ _ _ _ _ rfl
    clear HM HB
    intro w HM HB
    refine hK.out _ _ (HB) (fun hS2 => ?_)
    clear hS hK
    have hS := hS2
    clear hS2
    try simp only [Act.put, List.setIfInBounds_toArray, List.set_cons_zero, List.set_cons_succ]
    refine wpAnyH_done (by kernel_rfl) ?_ _
    clear hS
    go_wp2_with (first | refine m_rd ?_ | (refine m_wr ?_; clear HM HB; intro w b HM HB; try clear b) | (refine m_ap ?_; clear HM HB; intro w Aq cq HM HB) | fail)
    try simp only [Act.put, List.setIfInBounds_toArray, List.set_cons_zero, List.set_cons_succ]
    refine wp_region_held_drew (S := fun w' => Below w0.heap.size w0 w') (by kernel_rfl) (below_drew HB) (fun hS => ?_)
    replace HM := Lib.hid HM.out.drew
    replace HB := HM.out.below
    refine tk 0 55 ?_
    refine tk 1 56 ?_
    refine tk 2 57 ?_
    refine tkv 3 58 (.agg (encs B ((l.drop 12).take 4)).toArray) rfl (yields_arr rfl (ad := ad) (k := 12) rfl HR.out 4 (by decide) (by omega) Try.underlying104 HI.out _ (fun _ h => h) (by kernel_rfl)) ?_
    refine tk 5 60 ?_
    refine tk 6 61 ?_
    refine tk 7 62 ?_
    refine tkv 8 63 (.agg (encs B ((l.drop 16).take 4)).toArray) rfl (yields_arr rfl (ad := ad) (k := 16) rfl HR.out 4 (by decide) (by omega) Try.underlying104 HI.out _ (fun _ h => h) (by kernel_rfl)) ?_
    refine rone 4 rfl fun K' hK => ?_
    go_simp
    refine (four_any ((l.drop 12).take 4) _ L12.out).mono ?_
    rintro e w ⟨rfl, hb⟩
    replace HM := Lib.hid (HM.out.call hb)
    replace HB := HM.out.below
    clear hb
    refine hK.out _ _ (HB) (fun hS2 => ?_)
    clear hS hK
    have hS := hS2
    clear hS2
    try simp only [Act.put, List.setIfInBounds_toArray, List.set_cons_zero, List.set_cons_succ]
    refine tk 10 65 ?_
    refine rone 9 rfl fun K' hK => ?_
    go_simp
    refine (four_any ((l.drop 16).take 4) _ L16.out).mono ?_
    rintro e w ⟨rfl, hb⟩
    replace HM := Lib.hid (HM.out.call hb)
    replace HB := HM.out.below
    clear hb
    refine hK.out _ _ (HB) (fun hS2 => ?_)
    clear hS hK
    have hS := hS2
    clear hS2
    try simp only [Act.put, List.setIfInBounds_toArray, List.set_cons_zero, List.set_cons_succ]
    refine rone 11 rfl fun K' hK => ?_
    apply s_src
    next => kernel_rfl
    next => exact rfl
    next => exact rfl
    next => exact rfl
    next => exact HM
    next => (first | ((repeat (first | with_reducible exact Upd.head _ | with_reducible apply Upd.tail)); done) | ((repeat (first | exact Upd.head _ | apply Upd.tail)); done))
    next => exact rfl
    next => exact rfl
    next => exact rfl
    next => exact P12.out
    clear HM HB
    intro w HM HB
    refine hK.out _ _ (HB) (fun hS2 => ?_)
    clear hS hK
    have hS := hS2
    clear hS2
    try simp only [Act.put, List.setIfInBounds_toArray, List.set_cons_zero, List.set_cons_succ]
    refine tk 12 66 ?_
    refine rone 13 rfl fun K' hK => ?_
    apply s_dst
    next => kernel_rfl
    next => exact rfl
    next => exact rfl
    next => exact rfl
    next => exact HM
    next => (first | ((repeat (first | with_reducible exact Upd.head _ | with_reducible apply Upd.tail)); done) | ((repeat (first | exact Upd.head _ | apply Upd.tail)); done))
    next => exact rfl
    next => exact P12.out
    next => exact rfl
    next => exact P16.out
    clear HM HB
    intro w HM HB
    refine hK.out _ _ (HB) (fun hS2 => ?_)
    clear hS hK
    have hS := hS2
    clear hS2
    try simp only [Act.put, List.setIfInBounds_toArray, List.set_cons_zero, List.set_cons_succ]
    refine wpAnyH_done (by kernel_rfl) ?_ _
    clear hS
    have CH2 : Hid (Cells 67 (HV [4, (sz : Int), (tt : Int), (g1 : Int), (idn : Int), ((fr / 8192 : Nat) : Int), ((fr % 8192 : Nat) : Int), (g8 : Int), (g9 : Int)] 4 (pad16 ((l.drop 12).take 4)) 4 (pad16 ((l.drop 16).take 4)))) := Lib.hid (cellsH _ _ _ _ _ rfl P12.out P16.out)
    go_wp2_with (first | refine m_rd ?_ | (refine m_wr ?_; clear HM HB; intro w b HM HB; try clear b) | (refine m_ap ?_; clear HM HB; intro w Aq cq HM HB) | fail)
    apply m_ret_c1
    next => exact rfl
    next => exact rfl
    next => exact rfl
    next => exact HM
    next => (first | ((repeat (first | with_reducible exact List.Mem.head _ | with_reducible apply List.Mem.tail)); done) | ((repeat (first | exact List.Mem.head _ | apply List.Mem.tail)); done))
    next => exact Try.underlying67
    next => rfl
    refine ⟨?_, HB⟩
    rw [HF.out, HN.out]
    rfl
  · apply s_allocC
    next => kernel_rfl
    next => exact rfl
    next => exact zeroH
    next => exact cellsZH
    next => exact HM
    clear HM HB
    intro w b HM HB
    refine hK.out _ _ (HB) (fun hS2 => ?_)
    clear hS hK
    have hS := hS2
    clear hS2
    try simp only [Act.put, List.setIfInBounds_toArray, List.set_cons_zero, List.set_cons_succ]
    refine rone 7 rfl fun K' hK => ?_
    go_simp
    refine (H4.out _ (HR.out.below HB) (by omega)).mono ?_
    rintro e w ⟨rfl, hb⟩
    replace HM := Lib.hid (HM.out.call hb)
    replace HB := HM.out.below
    clear hb
    refine hK.out _ _ (HB) (fun hS2 => ?_)
    clear hS hK
    have hS := hS2
    clear hS2
    try simp only [Act.put, List.setIfInBounds_toArray, List.set_cons_zero, List.set_cons_succ]
    refine tkv 8 36 _ rfl (yields_build rfl #[(0, .int .i64 4), (1, .int .i64 (sz : Int)), (2, .int .i64 (tt : Int)), (3, .int .i64 (g1 : Int)), (4, .int .i64 (idn : Int))] rfl (build5 _ _ _ _) (by kernel_rfl)) ?_
    refine rone 10 rfl fun K' hK => ?_
    apply s_storeC
    next => kernel_rfl
    next => exact rfl
    next => exact rfl
    next => exact rfl
    next => exact HM
    next => (first | ((repeat (first | with_reducible exact Upd.head _ | with_reducible apply Upd.tail)); done) | ((repeat (first | exact Upd.head _ | apply Upd.tail)); done))
    next => exact CH.out
    clear HM HB
    intro w HM HB
    refine hK.out _ _ (HB) (fun hS2 => ?_)
    clear hS hK
    have hS := hS2
    clear hS2
    try simp only [Act.put, List.setIfInBounds_toArray, List.set_cons_zero, List.set_cons_succ]
    refine wpAnyH_done (by kernel_rfl) ?_ _
    clear hS
    go_wp2_with (first | refine m_rd ?_ | (refine m_wr ?_; clear HM HB; intro w b HM HB; try clear b) | (refine m_ap ?_; clear HM HB; intro w Aq cq HM HB) | fail)
    refine (H6.out _ (HR.out.below HB) (by omega)).mono ?_
    rintro e w ⟨rfl, hb⟩
    replace HM := Lib.hid (HM.out.call hb)
    replace HB := HM.out.below
    clear hb
    go_wp2_with (first | refine m_rd ?_ | (refine m_wr ?_; clear HM HB; intro w b HM HB; try clear b) | (refine m_ap ?_; clear HM HB; intro w Aq cq HM HB) | fail)
    try simp only [Act.put, List.setIfInBounds_toArray, List.set_cons_zero, List.set_cons_succ]
    refine wp_region_held_drew (S := fun w' => Below w0.heap.size w0 w') (by kernel_rfl) (below_drew HB) (fun hS => ?_)
    replace HM := Lib.hid HM.out.drew
    replace HB := HM.out.below
    refine tk 0 45 ?_
    refine tk 1 46 ?_
    refine tk 2 47 ?_
    refine tk 3 48 ?_
    refine tk 4 49 ?_
    refine tk 5 50 ?_
    refine tk 6 51 ?_
    refine tk 7 52 ?_
    refine tk 8 53 ?_
    refine rone 9 rfl fun K' hK => ?_
    apply s_putI
    next => kernel_rfl
    next => exact rfl
    next => exact rfl
    next => exact rfl
    next => exact HM
    next => (first | ((repeat (first | with_reducible exact Upd.head _ | with_reducible apply Upd.tail)); done) | ((repeat (first | exact Upd.head _ | apply Upd.tail)); done))
    next => exact HV_num _ _ _ _ _ _ _ rfl
    next => exact HV_set1 _ _ _ _ _ _ _ rfl
    clear HM HB
    intro w HM HB
    refine hK.out _ _ (HB) (fun hS2 => ?_)
    clear hS hK
    have hS := hS2
    clear hS2
    try simp only [Act.put, List.setIfInBounds_toArray, List.set_cons_zero, List.set_cons_succ]
    refine tk 10 54 ?_
    refine rone 11 rfl fun K' hK => ?_
    apply s_putI
    next => kernel_rfl
    next => exact rfl
    next => exact rfl
    next => exact rfl
    next => exact HM
    next => (first | ((repeat (first | with_reducible exact Upd.head _ | with_reducible apply Upd.tail)); done) | ((repeat (first | exact Upd.head _ | apply Upd.tail)); done))
    next => exact HV_num _ _ _ _ _ _ _ rfl
    next => exact HV_set1 _ _ _ _ _ _ _ rfl
    clear HM HB
    intro w HM HB
    refine hK.out _ _ (HB) (fun hS2 => ?_)
    clear hS hK
    have hS := hS2
    clear hS2
    try simp only [Act.put, List.setIfInBounds_toArray, List.set_cons_zero, List.set_cons_succ]
    refine wpAnyH_done (by kernel_rfl) ?_ _
    clear hS
    go_wp2_with (first | refine m_rd ?_ | (refine m_wr ?_; clear HM HB; intro w b HM HB; try clear b) | (refine m_ap ?_; clear HM HB; intro w Aq cq HM HB) | fail)
    try simp only [Act.put, List.setIfInBounds_toArray, List.set_cons_zero, List.set_cons_succ]
    refine wp_region_held_drew (S := fun w' => Below w0.heap.size w0 w') (by kernel_rfl) (below_drew HB) (fun hS => ?_)
    replace HM := Lib.hid HM.out.drew
    replace HB := HM.out.below
    refine tk 0 55 ?_
    refine tk 1 56 ?_
    refine tk 2 57 ?_
    refine tkv 3 58 (.agg (encs B ((l.drop 12).take 4)).toArray) rfl (yields_arr rfl (ad := ad) (k := 12) rfl HR.out 4 (by decide) (by omega) Try.underlying104 HI.out _ (fun _ h => h) (by kernel_rfl)) ?_
    refine tk 5 60 ?_
    refine tk 6 61 ?_
    refine tk 7 62 ?_
    refine tkv 8 63 (.agg (encs B ((l.drop 16).take 4)).toArray) rfl (yields_arr rfl (ad := ad) (k := 16) rfl HR.out 4 (by decide) (by omega) Try.underlying104 HI.out _ (fun _ h => h) (by kernel_rfl)) ?_
    refine rone 4 rfl fun K' hK => ?_
    go_simp
    refine (four_any ((l.drop 12).take 4) _ L12.out).mono ?_
    rintro e w ⟨rfl, hb⟩
    replace HM := Lib.hid (HM.out.call hb)
    replace HB := HM.out.below
    clear hb
    refine hK.out _ _ (HB) (fun hS2 => ?_)
    clear hS hK
    have hS := hS2
    clear hS2
    try simp only [Act.put, List.setIfInBounds_toArray, List.set_cons_zero, List.set_cons_succ]
    refine tk 10 65 ?_
    refine rone 9 rfl fun K' hK => ?_
    go_simp
    refine (four_any ((l.drop 16).take 4) _ L16.out).mono ?_
    rintro e w ⟨rfl, hb⟩
    replace HM := Lib.hid (HM.out.call hb)
    replace HB := HM.out.below
    clear hb
    refine hK.out _ _ (HB) (fun hS2 => ?_)
    clear hS hK
    have hS := hS2
    clear hS2
    try simp only [Act.put, List.setIfInBounds_toArray, List.set_cons_zero, List.set_cons_succ]
    refine rone 11 rfl fun K' hK => ?_
    apply s_src
    next => kernel_rfl
    next => exact rfl
    next => exact rfl
    next => exact rfl
    next => exact HM
    next => (first | ((repeat (first | with_reducible exact Upd.head _ | with_reducible apply Upd.tail)); done) | ((repeat (first | exact Upd.head _ | apply Upd.tail)); done))
    next => exact rfl
    next => exact rfl
    next => exact rfl
    next => exact P12.out
    clear HM HB
    intro w HM HB
    refine hK.out _ _ (HB) (fun hS2 => ?_)
    clear hS hK
    have hS := hS2
    clear hS2
    try simp only [Act.put, List.setIfInBounds_toArray, List.set_cons_zero, List.set_cons_succ]
    refine tk 12 66 ?_
    refine rone 13 rfl fun K' hK => ?_
    apply s_dst
    next => kernel_rfl
    next => exact rfl
    next => exact rfl
    next => exact rfl
    next => exact HM
    next => (first | ((repeat (first | with_reducible exact Upd.head _ | with_reducible apply Upd.tail)); done) | ((repeat (first | exact Upd.head _ | apply Upd.tail)); done))
    next => exact rfl
    next => exact P12.out
    next => exact rfl
    next => exact P16.out
    clear HM HB
    intro w HM HB
    refine hK.out _ _ (HB) (fun hS2 => ?_)
    clear hS hK
    have hS := hS2
    clear hS2
    try simp only [Act.put, List.setIfInBounds_toArray, List.set_cons_zero, List.set_cons_succ]
    refine wpAnyH_done (by kernel_rfl) ?_ _
    clear hS
    have CH2 : Hid (Cells 67 (HV [4, (sz : Int), (tt : Int), (g1 : Int), (idn : Int), ((fr / 8192 : Nat) : Int), ((fr % 8192 : Nat) : Int), (g8 : Int), (g9 : Int)] 4 (pad16 ((l.drop 12).take 4)) 4 (pad16 ((l.drop 16).take 4)))) := Lib.hid (cellsH _ _ _ _ _ rfl P12.out P16.out)
    go_wp2_with (first | refine m_rd ?_ | (refine m_wr ?_; clear HM HB; intro w b HM HB; try clear b) | (refine m_ap ?_; clear HM HB; intro w Aq cq HM HB) | fail)
    apply m_ret_c1
    next => exact rfl
    next => exact rfl
    next => exact rfl
    next => exact HM
    next => (first | ((repeat (first | with_reducible exact List.Mem.head _ | with_reducible apply List.Mem.tail)); done) | ((repeat (first | exact List.Mem.head _ | apply List.Mem.tail)); done))
    next => exact Try.underlying67
    next => rfl
    refine ⟨?_, HB⟩
    rw [HF.out, HN.out]
    rfl
end Go.Proofs.Ytkfjobanbnokoaa.Is

set_option linter.unusedSimpArgs false
set_option linter.unusedVariables false
set_option maxRecDepth 100000
namespace Go.Proofs.Ytkfjobanbnokoaa.Is
open Go.RowKit Go.Proofs.YtkfjobanbnokoaaW.PrintWords Go.Proofs.Ytkfjobanbnokoaa.Bs Go.Proofs.Ytkfjobanbnokoaa.Av Go.Proofs.Ytkfjobanbnokoaa.Ad Go.Proofs.Ytkfjobanbnokoaa.Hd Go.Proofs.Ytkfjobanbnokoaa.Mm Go.Proofs.Ytkfjobanbnokoaa.Le Go.Proofs.Ytkfjobanbnokoaa.Ip Go.Proofs.Ytkfjobanbnokoaa.En Go.Proofs.Ytkfjobanbnokoaa.Co Go.Proofs.Ytkfjobanbnokoaa.Os

theorem refOf_rb (v : Value) (l : List UInt8) (w : World) (hr : RB w v l) (hs : l.length ≤ 1099511627776) :
    Calls Try.prog 71 #[v] w fun e w' => e = .returned (.int .i64 (sum16 l)) ∧ w = w' := by
  obtain ⟨A, c, rfl, _, hr⟩ := hr
  exact refOf_any A c l w hr hs
theorem refOf4 (v : Value) (l : List UInt8) (w : World) (hr : RB w v l) (hl : l.length = 4) :
    Calls Try.prog 72 #[v] w fun e w' => e = .returned (.tuple #[.agg (AV [4] (pad16 l)), .bool true]) ∧ Below w.heap.size w w' := refOf_at4 v l w hr hl
theorem bad4_of (l : List UInt8) (q : Nat) (h : badS l = q) (hq : q ≠ 0) : bad4 l = q ∧ head4v l = ZH := by
  have hb : bad4 l = q := by unfold bad4; rw [if_pos (by omega), h]
  exact ⟨hb, by unfold head4v; rw [if_neg (by omega)]⟩
set_option maxHeartbeats 4000000 in
theorem refParse4_any (v : Value) (l : List UInt8) (w0 : World) (hr : RB w0 v l) :
    Calls Try.prog 50 #[v] w0 fun e w' => e = .returned (.tuple #[.agg (head4v l), .int .i64 (bad4 l : Nat)]) ∧ Below w0.heap.size w0 w' := by
  have hl := hr.len
  have HR := Lib.hid hr
  obtain ⟨A, c, rfl, hc, hrr⟩ := hr
  clear hrr
  have HM := Lib.hid (Mem.start w0)
  have HB := HM.out.below
  by_cases h1 : l.length < 20
  · obtain ⟨e1, e2⟩ := bad4_of l 3 (by rcases badS_cases l with h | h | h | h | h | h | h <;> omega) (by decide)
    rw [e1, e2]
    go_enter Try.func50, Try.ntmps50
    go_wp2_with (first | refine m_rd ?_ | (refine m_wr ?_; clear HM HB; intro w b HM HB; try clear b) | (refine m_ap ?_; clear HM HB; intro w Aq cq HM HB) | fail)
    apply m_ret_c1
    next => exact rfl
    next => exact rfl
    next => exact rfl
    next => exact HM
    next => (first | ((repeat (first | with_reducible exact List.Mem.head _ | with_reducible apply List.Mem.tail)); done) | ((repeat (first | exact List.Mem.head _ | apply List.Mem.tail)); done))
    next => exact Try.underlying67
    next => rfl
    exact ⟨rfl, HB⟩
  obtain ⟨ad, rfl⟩ := HR.out.some (by omega)
  have hx0 := HR.out.byte 0 (by omega)
  simp only [gb_getD, Mm.add_zero] at hx0
  have hy0 := gb_lt l 0
  by_cases h2 : gb l 0 / 16 ≠ 4
  · obtain ⟨e1, e2⟩ := bad4_of l 9 (by rcases badS_cases l with h | h | h | h | h | h | h <;> omega) (by decide)
    rw [e1, e2]
    have h2' : (((gb l 0 : Nat) : Int) / 16 != 4) = true := by simp; omega
    clear h2 e1 e2
    generalize gb l 0 = g0 at hx0 hy0 h2'
    go_enter Try.func50, Try.ntmps50
    go_wp2_with (first | refine m_rd ?_ | (refine m_wr ?_; clear HM HB; intro w b HM HB; try clear b) | (refine m_ap ?_; clear HM HB; intro w Aq cq HM HB) | fail)
    apply m_ret_c1
    next => exact rfl
    next => exact rfl
    next => exact rfl
    next => exact HM
    next => (first | ((repeat (first | with_reducible exact List.Mem.head _ | with_reducible apply List.Mem.tail)); done) | ((repeat (first | exact List.Mem.head _ | apply List.Mem.tail)); done))
    next => exact Try.underlying67
    next => rfl
    exact ⟨rfl, HB⟩
  have h2' : (((gb l 0 : Nat) : Int) / 16 != 4) = false := by simp; omega
  have hsz : 4 * (((gb l 0 : Nat) : Int) % 16) = ((siz4 l : Nat) : Int) := by unfold siz4; omega
  have hs64 : siz4 l < 64 := by unfold siz4; omega
  have H2 := Lib.hid (two2 ad c l)
  have htt : tot4 l < 65536 := by unfold tot4; have := gb_lt l 2; have := gb_lt l 3; omega
  have HT2 : Hid (256 * gb l 2 + gb l 3 = tot4 l) := Lib.hid rfl
  rw [HT2.out] at H2
  clear HT2
  by_cases h3 : siz4 l < 20
  · obtain ⟨e1, e2⟩ := bad4_of l 5 (by rcases badS_cases l with h | h | h | h | h | h | h <;> omega) (by decide)
    rw [e1, e2]
    clear e1 e2 h2
    generalize siz4 l = sz at *
    generalize tot4 l = tt at *
    generalize gb l 0 = g0 at hx0 hy0 h2' hsz
    go_enter Try.func50, Try.ntmps50
    go_wp2_with (first | refine m_rd ?_ | (refine m_wr ?_; clear HM HB; intro w b HM HB; try clear b) | (refine m_ap ?_; clear HM HB; intro w Aq cq HM HB) | fail)
    apply m_ret_c1
    next => exact rfl
    next => exact rfl
    next => exact rfl
    next => exact HM
    next => (first | ((repeat (first | with_reducible exact List.Mem.head _ | with_reducible apply List.Mem.tail)); done) | ((repeat (first | exact List.Mem.head _ | apply List.Mem.tail)); done))
    next => exact Try.underlying67
    next => rfl
    exact ⟨rfl, HB⟩
  by_cases h4 : l.length < siz4 l
  · obtain ⟨e1, e2⟩ := bad4_of l 3 (by rcases badS_cases l with h | h | h | h | h | h | h <;> omega) (by decide)
    rw [e1, e2]
    clear e1 e2 h2
    generalize siz4 l = sz at *
    generalize tot4 l = tt at *
    generalize gb l 0 = g0 at hx0 hy0 h2' hsz
    go_enter Try.func50, Try.ntmps50
    go_wp2_with (first | refine m_rd ?_ | (refine m_wr ?_; clear HM HB; intro w b HM HB; try clear b) | (refine m_ap ?_; clear HM HB; intro w Aq cq HM HB) | fail)
    apply m_ret_c1
    next => exact rfl
    next => exact rfl
    next => exact rfl
    next => exact HM
    next => (first | ((repeat (first | with_reducible exact List.Mem.head _ | with_reducible apply List.Mem.tail)); done) | ((repeat (first | exact List.Mem.head _ | apply List.Mem.tail)); done))
    next => exact Try.underlying67
    next => rfl
    exact ⟨rfl, HB⟩
  by_cases h5 : tot4 l < siz4 l
  · obtain ⟨e1, e2⟩ := bad4_of l 5 (by rcases badS_cases l with h | h | h | h | h | h | h <;> omega) (by decide)
    rw [e1, e2]
    clear e1 e2 h2
    generalize siz4 l = sz at *
    generalize tot4 l = tt at *
    generalize gb l 0 = g0 at hx0 hy0 h2' hsz
    go_enter Try.func50, Try.ntmps50
    go_wp2_with (first | refine m_rd ?_ | (refine m_wr ?_; clear HM HB; intro w b HM HB; try clear b) | (refine m_ap ?_; clear HM HB; intro w Aq cq HM HB) | fail)
    refine (H2.out _ (HR.out.below HB) (by omega)).mono ?_
    rintro e w ⟨rfl, hb⟩
    replace HM := Lib.hid (HM.out.call hb)
    replace HB := HM.out.below
    clear hb
    go_wp2_with (first | refine m_rd ?_ | (refine m_wr ?_; clear HM HB; intro w b HM HB; try clear b) | (refine m_ap ?_; clear HM HB; intro w Aq cq HM HB) | fail)
    apply m_ret_c1
    next => exact rfl
    next => exact rfl
    next => exact rfl
    next => exact HM
    next => (first | ((repeat (first | with_reducible exact List.Mem.head _ | with_reducible apply List.Mem.tail)); done) | ((repeat (first | exact List.Mem.head _ | apply List.Mem.tail)); done))
    next => exact Try.underlying67
    next => rfl
    exact ⟨rfl, HB⟩
  by_cases h6 : l.length < tot4 l
  · obtain ⟨e1, e2⟩ := bad4_of l 3 (by rcases badS_cases l with h | h | h | h | h | h | h <;> omega) (by decide)
    rw [e1, e2]
    clear e1 e2 h2
    generalize siz4 l = sz at *
    generalize tot4 l = tt at *
    generalize gb l 0 = g0 at hx0 hy0 h2' hsz
    go_enter Try.func50, Try.ntmps50
    go_wp2_with (first | refine m_rd ?_ | (refine m_wr ?_; clear HM HB; intro w b HM HB; try clear b) | (refine m_ap ?_; clear HM HB; intro w Aq cq HM HB) | fail)
    refine (H2.out _ (HR.out.below HB) (by omega)).mono ?_
    rintro e w ⟨rfl, hb⟩
    replace HM := Lib.hid (HM.out.call hb)
    replace HB := HM.out.below
    clear hb
    go_wp2_with (first | refine m_rd ?_ | (refine m_wr ?_; clear HM HB; intro w b HM HB; try clear b) | (refine m_ap ?_; clear HM HB; intro w Aq cq HM HB) | fail)
    refine (H2.out _ (HR.out.below HB) (by omega)).mono ?_
    rintro e w ⟨rfl, hb⟩
    replace HM := Lib.hid (HM.out.call hb)
    replace HB := HM.out.below
    clear hb
    go_wp2_with (first | refine m_rd ?_ | (refine m_wr ?_; clear HM HB; intro w b HM HB; try clear b) | (refine m_ap ?_; clear HM HB; intro w Aq cq HM HB) | fail)
    apply m_ret_c1
    next => exact rfl
    next => exact rfl
    next => exact rfl
    next => exact HM
    next => (first | ((repeat (first | with_reducible exact List.Mem.head _ | with_reducible apply List.Mem.tail)); done) | ((repeat (first | exact List.Mem.head _ | apply List.Mem.tail)); done))
    next => exact Try.underlying67
    next => rfl
    exact ⟨rfl, HB⟩
  have hs : badS l = 0 := by rcases badS_cases l with h | h | h | h | h | h | h <;> omega
  by_cases hg : sum16 (l.take (siz4 l)) = 65535
  case neg =>
    have hb : bad4 l = 11 := by unfold bad4; rw [if_neg (by omega), if_pos hg]
    have HF : Hid (head4v l = ZH) := Lib.hid (by unfold head4v; rw [hb]; rfl)
    have HG : (((sum16 (l.take (siz4 l)) : Nat) : Int) != 65535) = true := by simp; omega
    rw [hb, HF.out]
    clear hb hs hg h2
    generalize siz4 l = sz at *
    generalize tot4 l = tt at *
    generalize gb l 0 = g0 at hx0 hy0 h2' hsz
    generalize hq : sum16 (l.take sz) = q at HG
    have HQ := Lib.hid hq
    clear hq
    go_enter Try.func50, Try.ntmps50
    go_wp2_with (first | refine m_rd ?_ | (refine m_wr ?_; clear HM HB; intro w b HM HB; try clear b) | (refine m_ap ?_; clear HM HB; intro w Aq cq HM HB) | fail)
    refine (H2.out _ (HR.out.below HB) (by omega)).mono ?_
    rintro e w ⟨rfl, hb⟩
    replace HM := Lib.hid (HM.out.call hb)
    replace HB := HM.out.below
    clear hb
    go_wp2_with (first | refine m_rd ?_ | (refine m_wr ?_; clear HM HB; intro w b HM HB; try clear b) | (refine m_ap ?_; clear HM HB; intro w Aq cq HM HB) | fail)
    refine (H2.out _ (HR.out.below HB) (by omega)).mono ?_
    rintro e w ⟨rfl, hb⟩
    replace HM := Lib.hid (HM.out.call hb)
    replace HB := HM.out.below
    clear hb
    go_wp2_with (first | refine m_rd ?_ | (refine m_wr ?_; clear HM HB; intro w b HM HB; try clear b) | (refine m_ap ?_; clear HM HB; intro w Aq cq HM HB) | fail)
    refine (refOf_rb _ (l.take sz) _ ((HR.out.below HB).front sz c (by omega) (by omega)) (by simp; omega)).mono ?_
    rintro e w' ⟨rfl, rfl⟩
    rw [HQ.out]
    go_wp2_with (first | refine m_rd ?_ | (refine m_wr ?_; clear HM HB; intro w b HM HB; try clear b) | (refine m_ap ?_; clear HM HB; intro w Aq cq HM HB) | fail)
    apply m_ret_c1
    next => exact rfl
    next => exact rfl
    next => exact rfl
    next => exact HM
    next => (first | ((repeat (first | with_reducible exact List.Mem.head _ | with_reducible apply List.Mem.tail)); done) | ((repeat (first | exact List.Mem.head _ | apply List.Mem.tail)); done))
    next => exact Try.underlying67
    next => rfl
    exact ⟨rfl, HB⟩
  have hb : bad4 l = 0 := by unfold bad4; rw [if_neg (by omega), if_neg (by omega)]
  have HF : Hid (head4v l = HV (ns4 l) 4 (pad16 ((l.drop 12).take 4)) 4 (pad16 ((l.drop 16).take 4))) := Lib.hid (by unfold head4v; rw [if_pos hb])
  have HQ := Lib.hid hg
  have HN : Hid (ns4 l = [4, ((siz4 l : Nat) : Int), ((tot4 l : Nat) : Int), ((gb l 1 : Nat) : Int), ((256 * gb l 4 + gb l 5 : Nat) : Int), ((gb l 6 / 32 : Nat) : Int), (((256 * gb l 6 + gb l 7) % 8192 : Nat) : Int), ((gb l 8 : Nat) : Int), ((gb l 9 : Nat) : Int)]) := Lib.hid rfl
  have H4 := Lib.hid (two4 ad c l)
  have H6 := Lib.hid (two6 ad c l)
  have b4 : 256 * gb l 4 + gb l 5 < 65536 := by have := gb_lt l 4; have := gb_lt l 5; omega
  have b6 : 256 * gb l 6 + gb l 7 < 65536 := by have := gb_lt l 6; have := gb_lt l 7; omega
  have hx1 := HR.out.byte 1 (by omega)
  have hx6 := HR.out.byte 6 (by omega)
  have hx8 := HR.out.byte 8 (by omega)
  have hx9 := HR.out.byte 9 (by omega)
  simp only [gb_getD, add_lit _ 1 (by decide), add_lit _ 6 (by decide), add_lit _ 8 (by decide), add_lit _ 9 (by decide)] at hx1 hx6 hx8 hx9
  have hy1 := gb_lt l 1
  have hy6 := gb_lt l 6
  have hy8 := gb_lt l 8
  have hy9 := gb_lt l 9
  have hs1 := run_cut ad l.length c 12 16 12 4 rfl rfl (by omega) (by omega)
  have hs2 := run_cut ad l.length c 16 20 16 4 rfl rfl (by omega) (by omega)
  have L12 : Hid (((l.drop 12).take 4).length = 4) := Lib.hid (by simp; omega)
  have L16 : Hid (((l.drop 16).take 4).length = 4) := Lib.hid (by simp; omega)
  have P12 := Lib.hid (pad16_length _ L12.out)
  have P16 := Lib.hid (pad16_length _ L16.out)
  have C12 : Hid (Cells 26 (AV [4] (pad16 ((l.drop 12).take 4)))) := Lib.hid (cellsA _ _ P12.out)
  have C16 : Hid (Cells 26 (AV [4] (pad16 ((l.drop 16).take 4)))) := Lib.hid (cellsA _ _ P16.out)
  rw [hb]
  clear hb hs hg h2
  generalize siz4 l = sz at *
  generalize tot4 l = tt at *
  generalize 256 * gb l 4 + gb l 5 = idn at *
  generalize 256 * gb l 6 + gb l 7 = fr at *
  generalize gb l 0 = g0 at *
  generalize gb l 1 = g1 at *
  generalize gb l 6 = g6 at *
  generalize gb l 8 = g8 at *
  generalize gb l 9 = g9 at *
  go_enter Try.func50, Try.ntmps50
  go_wp2_with (first | refine m_rd ?_ | (refine m_wr ?_; clear HM HB; intro w b HM HB; try clear b) | (refine m_ap ?_; clear HM HB; intro w Aq cq HM HB) | fail)
  refine (H2.out _ (HR.out.below HB) (by omega)).mono ?_
  rintro e w ⟨rfl, hb⟩
  replace HM := Lib.hid (HM.out.call hb)
  replace HB := HM.out.below
  clear hb
  go_wp2_with (first | refine m_rd ?_ | (refine m_wr ?_; clear HM HB; intro w b HM HB; try clear b) | (refine m_ap ?_; clear HM HB; intro w Aq cq HM HB) | fail)
  refine (H2.out _ (HR.out.below HB) (by omega)).mono ?_
  rintro e w ⟨rfl, hb⟩
  replace HM := Lib.hid (HM.out.call hb)
  replace HB := HM.out.below
  clear hb
  go_wp2_with (first | refine m_rd ?_ | (refine m_wr ?_; clear HM HB; intro w b HM HB; try clear b) | (refine m_ap ?_; clear HM HB; intro w Aq cq HM HB) | fail)
  refine (refOf_rb _ (l.take sz) _ ((HR.out.below HB).front sz c (by omega) (by omega)) (by simp; omega)).mono ?_
  rintro e w' ⟨rfl, rfl⟩
  rw [HQ.out]
  go_wp2_with (first | refine m_rd ?_ | (refine m_wr ?_; clear HM HB; intro w b HM HB; try clear b) | (refine m_ap ?_; clear HM HB; intro w Aq cq HM HB) | fail)
  refine (refOf4 _ ((l.drop 12).take 4) _ (by have h := (HR.out.below HB).sub 12 4 (c - 12) (by omega) (by omega); rwa [add_lit _ 12 (by decide)] at h) L12.out).mono ?_
  rintro e w ⟨rfl, hb⟩
  replace HM := Lib.hid (HM.out.call hb)
  replace HB := HM.out.below
  clear hb
  go_wp2_with (first | refine m_rd ?_ | (refine m_wr ?_; clear HM HB; intro w b HM HB; try clear b) | (refine m_ap ?_; clear HM HB; intro w Aq cq HM HB) | fail)
  refine (refOf4 _ ((l.drop 16).take 4) _ (by have h := (HR.out.below HB).sub 16 4 (c - 16) (by omega) (by omega); rwa [add_lit _ 16 (by decide)] at h) L16.out).mono ?_
  rintro e w ⟨rfl, hb⟩
  replace HM := Lib.hid (HM.out.call hb)
  replace HB := HM.out.below
  clear hb
  go_wp2_with (first | refine m_rd ?_ | (refine m_wr ?_; clear HM HB; intro w b HM HB; try clear b) | (refine m_ap ?_; clear HM HB; intro w Aq cq HM HB) | fail)
  try simp only [Act.put, List.setIfInBounds_toArray, List.set_cons_zero, List.set_cons_succ]
  refine wp_region_held_drew (S := fun w' => Mem w0 w' _) (by kernel_rfl) (HM.out.drew.two) (fun hS => ?_)
  replace HM := Lib.hid HM.out.drew
  replace HB := HM.out.below
  refine tk 0 62 ?_
  refine tk 1 63 ?_
  refine tk 3 65 ?_
  refine tk 4 66 ?_
  refine tk 5 67 ?_
  refine tk 6 68 ?_
  refine tk 7 69 ?_
  refine tk 9 71 ?_
  refine tk 10 72 ?_
  refine tk 11 73 ?_
  refine tk 12 74 ?_
  refine tk 13 75 ?_
  refine tk 14 76 ?_
  refine tk 17 79 ?_
  refine tk 18 80 ?_
  refine tk 19 81 ?_
  refine tk 20 82 ?_
  refine tk 21 83 ?_
  refine tk 22 84 ?_
  refine tk 23 85 ?_
  refine tk 24 86 ?_
  refine tkv 25 87 (.agg (AV [4] (pad16 ((l.drop 12).take 4)))) rfl (yields_own rfl rfl (fun _ h => h) (by (first | ((repeat (first | with_reducible exact List.Mem.head _ | with_reducible apply List.Mem.tail)); done) | ((repeat (first | exact List.Mem.head _ | apply List.Mem.tail)); done))) Try.underlying26 rfl C12.out.1 (by kernel_rfl)) ?_
  refine tkv 26 88 (.agg (AV [4] (pad16 ((l.drop 16).take 4)))) rfl (yields_own rfl rfl (fun _ h => h) (by (first | ((repeat (first | with_reducible exact List.Mem.head _ | with_reducible apply List.Mem.tail)); done) | ((repeat (first | exact List.Mem.head _ | apply List.Mem.tail)); done))) Try.underlying26 rfl C16.out.1 (by kernel_rfl)) ?_
  refine rone 2 rfl fun K' hK => ?_
  go_simp
  refine (H2.out _ (HR.out.below HB) (by omega)).mono ?_
  rintro e w ⟨rfl, hb⟩
  replace HM := Lib.hid (HM.out.call hb)
  replace HB := HM.out.below
  clear hb
  refine hK.out _ _ (HM.out.two) (fun hS2 => ?_)
  clear hS hK
  have hS := hS2
  clear hS2
  try simp only [Act.put, List.setIfInBounds_toArray, List.set_cons_zero, List.set_cons_succ]
  refine rone 8 rfl fun K' hK => ?_
  go_simp
  refine (H4.out _ (HR.out.below HB) (by omega)).mono ?_
  rintro e w ⟨rfl, hb⟩
  replace HM := Lib.hid (HM.out.call hb)
  replace HB := HM.out.below
  clear hb
  refine hK.out _ _ (HM.out.two) (fun hS2 => ?_)
  clear hS hK
  have hS := hS2
  clear hS2
  try simp only [Act.put, List.setIfInBounds_toArray, List.set_cons_zero, List.set_cons_succ]
  refine rone 15 rfl fun K' hK => ?_
  go_simp
  refine (H6.out _ (HR.out.below HB) (by omega)).mono ?_
  rintro e w ⟨rfl, hb⟩
  replace HM := Lib.hid (HM.out.call hb)
  replace HB := HM.out.below
  clear hb
  refine hK.out _ _ (HM.out.two) (fun hS2 => ?_)
  clear hS hK
  have hS := hS2
  clear hS2
  try simp only [Act.put, List.setIfInBounds_toArray, List.set_cons_zero, List.set_cons_succ]
  refine tk 16 78 ?_
  refine tkv 27 89 _ rfl (yields_build rfl #[(0, .int .i64 4), (1, .int .i64 sz), (2, .int .i64 tt), (3, .int .i64 g1), (4, .int .i64 idn), (5, .int .i64 (g6 / 32)), (6, .int .i64 (fr % 8192)), (7, .int .i64 g8), (8, .int .i64 g9), (9, .agg (AV [4] (pad16 ((l.drop 12).take 4)))), (10, .agg (AV [4] (pad16 ((l.drop 16).take 4))))] rfl (build_head9 _ _ _ _ _ _ _ _ _ _ _ _ _ P12.out P16.out) (by kernel_rfl)) ?_
  refine rone 28 rfl fun K' hK => ?_
  apply s_storeC
  next => kernel_rfl
  next => exact rfl
  next => exact rfl
  next => exact rfl
  next => exact HM
  next => (first | ((repeat (first | with_reducible exact Upd.head _ | with_reducible apply Upd.tail)); done) | ((repeat (first | exact Upd.head _ | apply Upd.tail)); done))
  next => exact (cellsH _ _ _ _ _ rfl P12.out P16.out)
  clear HM HB
  intro w HM HB
  refine hK.out _ _ (HM.out.two) (fun hS2 => ?_)
  clear hS hK
  have hS := hS2
  clear hS2
  try simp only [Act.put, List.setIfInBounds_toArray, List.set_cons_zero, List.set_cons_succ]
  refine tk 29 3 ?_
  refine wpAnyH_done (by kernel_rfl) ?_ _
  clear hS
  go_wp2_with (first | refine m_rd ?_ | (refine m_wr ?_; clear HM HB; intro w b HM HB; try clear b) | (refine m_ap ?_; clear HM HB; intro w Aq cq HM HB) | fail)
  apply m_ret_c1
  next => exact rfl
  next => exact rfl
  next => exact rfl
  next => exact HM
  next => (first | ((repeat (first | with_reducible exact List.Mem.head _ | with_reducible apply List.Mem.tail)); done) | ((repeat (first | exact List.Mem.head _ | apply List.Mem.tail)); done))
  next => exact Try.underlying67
  next => rfl
  refine ⟨?_, HB⟩
  rw [HF.out, HN.out]
  rfl
end Go.Proofs.Ytkfjobanbnokoaa.Is

set_option linter.unusedSimpArgs false
set_option linter.unusedVariables false
set_option maxRecDepth 100000
namespace Go.Proofs.Ytkfjobanbnokoaa.Is
open Go.RowKit Go.Proofs.YtkfjobanbnokoaaW.PrintWords Go.Proofs.Ytkfjobanbnokoaa.Bs Go.Proofs.Ytkfjobanbnokoaa.Av Go.Proofs.Ytkfjobanbnokoaa.Ad Go.Proofs.Ytkfjobanbnokoaa.Hd Go.Proofs.Ytkfjobanbnokoaa.Mm Go.Proofs.Ytkfjobanbnokoaa.Le Go.Proofs.Ytkfjobanbnokoaa.Ip Go.Proofs.Ytkfjobanbnokoaa.En Go.Proofs.Ytkfjobanbnokoaa.Co Go.Proofs.Ytkfjobanbnokoaa.Os

/-- What a head of family 4 must have. -/
def Ok4 (c i f r t p s : Int) (x : List UInt8) (d : Int) (y : List UInt8) : Prop := (0 ≤ c ∧ c < 256) ∧ (0 ≤ i ∧ i < 65536) ∧ (0 ≤ f ∧ f < 8) ∧ (0 ≤ r ∧ r < 8192) ∧ (0 ≤ t ∧ t < 256) ∧ (0 ≤ p ∧ p < 256) ∧ widthA s x = 32 ∧ widthA d y = 32
theorem width32 (s : Int) (x : List UInt8) : widthA s x = 32 ↔ s = 4 ∧ rightA s x = true := by
  rcases widthA_cases s x with ⟨h, h1⟩ | ⟨h, h1, h2⟩ | ⟨h, h1, h2⟩
  · rw [h, h1]; simp
  · rw [h, h1, h2]; simp
  · rw [h, h2]; simp
def In64' (n : Int) : Prop := -9223372036854775808 ≤ n ∧ n ≤ 9223372036854775807
end Go.Proofs.Ytkfjobanbnokoaa.Is

set_option linter.unusedSimpArgs false
set_option linter.unusedVariables false
set_option maxRecDepth 100000
namespace Go.Proofs.Ytkfjobanbnokoaa.Is
open Go.RowKit Go.Proofs.YtkfjobanbnokoaaW.PrintWords Go.Proofs.Ytkfjobanbnokoaa.Bs Go.Proofs.Ytkfjobanbnokoaa.Av Go.Proofs.Ytkfjobanbnokoaa.Ad Go.Proofs.Ytkfjobanbnokoaa.Hd Go.Proofs.Ytkfjobanbnokoaa.Mm Go.Proofs.Ytkfjobanbnokoaa.Le Go.Proofs.Ytkfjobanbnokoaa.Ip Go.Proofs.Ytkfjobanbnokoaa.En Go.Proofs.Ytkfjobanbnokoaa.Co Go.Proofs.Ytkfjobanbnokoaa.Os

theorem raw4_cells (c n i f r t p : Nat) (hc : c < 256) (hn : n < 65536) (hi : i < 65536) (hf : f < 8) (hr : r < 8192) (ht : t < 256) (hp : p < 256) :
    (encs B (raw4 c n i f r t p)).toArray = #[.int .u8 69, .int .u8 (c : Int), .int .u8 ((n : Int) / 256), .int .u8 ((n : Int) % 256), .int .u8 ((i : Int) / 256), .int .u8 ((i : Int) % 256), .int .u8 (((8192 * f + r : Nat) : Int) / 256), .int .u8 (((8192 * f + r : Nat) : Int) % 256), .int .u8 (t : Int), .int .u8 (p : Int), .int .u8 0, .int .u8 0] := by
  unfold raw4 encs
  simp only [List.map_cons, List.map_nil]
  rw [B_ofNat c hc, B_ofNat _ (show n / 256 < 256 by omega), B_ofNat _ (show n % 256 < 256 by omega), B_ofNat _ (show i / 256 < 256 by omega), B_ofNat _ (show i % 256 < 256 by omega), B_ofNat _ (show (8192 * f + r) / 256 < 256 by omega), B_ofNat _ (show (8192 * f + r) % 256 < 256 by omega), B_ofNat t ht, B_ofNat p hp]
  rfl
theorem bytesA4 (x : List UInt8) (h : widthA 4 x = 32) : bytesA 4 x = x.take 4 := by unfold bytesA; rw [h]
theorem head4_set (c n i f r t p : Nat) (x y : List UInt8) (s : Nat) (hs : 65535 - sum16 (bare4 c n i f r t p x y) = s) : ((bare4 c n i f r t p x y).set 10 (UInt8.ofNat (s / 256))).set 11 (UInt8.ofNat (s % 256)) = head4 c n i f r t p x y := by
  unfold head4 filled
  rw [hs, bare4_blank]

set_option maxHeartbeats 4000000 in
theorem put4_long (n0 n1 n2 : Int) (c i f r t p : Nat) (x y : List UInt8) (v : Value) (body : List UInt8) (w0 : World) (hr : RB w0 v body) (hx : x.length = 16) (hy : y.length = 16) (hc : c < 256) (hi : i < 65536) (hf : f < 8) (hrr : r < 8192) (ht : t < 256) (hp : p < 256) (wx : widthA 4 x = 32) (wy : widthA 4 y = 32) (hb : 65515 < body.length) (hbb : body.length ≤ 1099511627776) :
    Calls Try.prog 28 #[.agg (HV [n0, n1, n2, c, i, f, r, t, p] 4 x 4 y), v] w0 fun e w' => e = .returned (.tuple #[.slice none 0 0, .int .i64 4]) ∧ Below w0.heap.size w0 w' := by
  have HWX : Hid ((widthA 4 x == 32) = true) := Lib.hid (by rw [wx]; rfl)
  have HWY : Hid ((widthA 4 y == 32) = true) := Lib.hid (by rw [wy]; rfl)
  clear wx wy
  have HX := Lib.hid hx
  have HY := Lib.hid hy
  have HC : Hid (Cells 67 (HV [n0, n1, n2, c, i, f, r, t, p] 4 x 4 y)) := Lib.hid (cellsH _ _ _ _ _ rfl hx hy)
  have HR := Lib.hid hr
  have hl := hr.len
  obtain ⟨A, cb, rfl, hcb, hrx⟩ := hr
  clear hrx hx hy
  have HM := Lib.hid (Mem.start w0)
  have HB := HM.out.below
  go_enter Try.func28, Try.ntmps28
  go_wp2_with (first | refine m_rd ?_ | (refine m_wr ?_; clear HM HB; intro w b HM HB; try clear b) | (refine m_ap ?_; clear HM HB; intro w Aq cq HM HB) | fail)
  refine (fits_yes4 c 8 8 rfl (by decide) _ (by omega) (by simp; omega)).mono ?_
  rintro e w' ⟨rfl, rfl⟩
  go_wp2_with (first | refine m_rd ?_ | (refine m_wr ?_; clear HM HB; intro w b HM HB; try clear b) | (refine m_ap ?_; clear HM HB; intro w Aq cq HM HB) | fail)
  refine (fits_yes4 i 16 16 rfl (by decide) _ (by omega) (by simp; omega)).mono ?_
  rintro e w' ⟨rfl, rfl⟩
  go_wp2_with (first | refine m_rd ?_ | (refine m_wr ?_; clear HM HB; intro w b HM HB; try clear b) | (refine m_ap ?_; clear HM HB; intro w Aq cq HM HB) | fail)
  refine (fits_yes4 f 3 3 rfl (by decide) _ (by omega) (by simp; omega)).mono ?_
  rintro e w' ⟨rfl, rfl⟩
  go_wp2_with (first | refine m_rd ?_ | (refine m_wr ?_; clear HM HB; intro w b HM HB; try clear b) | (refine m_ap ?_; clear HM HB; intro w Aq cq HM HB) | fail)
  refine (fits_yes4 r 13 13 rfl (by decide) _ (by omega) (by simp; omega)).mono ?_
  rintro e w' ⟨rfl, rfl⟩
  go_wp2_with (first | refine m_rd ?_ | (refine m_wr ?_; clear HM HB; intro w b HM HB; try clear b) | (refine m_ap ?_; clear HM HB; intro w Aq cq HM HB) | fail)
  refine (fits_yes4 t 8 8 rfl (by decide) _ (by omega) (by simp; omega)).mono ?_
  rintro e w' ⟨rfl, rfl⟩
  go_wp2_with (first | refine m_rd ?_ | (refine m_wr ?_; clear HM HB; intro w b HM HB; try clear b) | (refine m_ap ?_; clear HM HB; intro w Aq cq HM HB) | fail)
  refine (fits_yes4 p 8 8 rfl (by decide) _ (by omega) (by simp; omega)).mono ?_
  rintro e w' ⟨rfl, rfl⟩
  go_wp2_with (first | refine m_rd ?_ | (refine m_wr ?_; clear HM HB; intro w b HM HB; try clear b) | (refine m_ap ?_; clear HM HB; intro w Aq cq HM HB) | fail)
  refine (own_any4 4 x _ HX.out).mono ?_
  rintro e w ⟨rfl, hb⟩
  replace HM := Lib.hid (HM.out.call hb)
  replace HB := HM.out.below
  clear hb
  rw [HWX.out]
  go_wp2_with (first | refine m_rd ?_ | (refine m_wr ?_; clear HM HB; intro w b HM HB; try clear b) | (refine m_ap ?_; clear HM HB; intro w Aq cq HM HB) | fail)
  refine (own_any4 4 y _ HY.out).mono ?_
  rintro e w ⟨rfl, hb⟩
  replace HM := Lib.hid (HM.out.call hb)
  replace HB := HM.out.below
  clear hb
  rw [HWY.out]
  go_wp2_with (first | refine m_rd ?_ | (refine m_wr ?_; clear HM HB; intro w b HM HB; try clear b) | (refine m_ap ?_; clear HM HB; intro w Aq cq HM HB) | fail)
  go_ret2
  exact ⟨rfl, HB⟩

end Go.Proofs.Ytkfjobanbnokoaa.Is

set_option linter.unusedSimpArgs false
set_option linter.unusedVariables false
set_option maxRecDepth 100000
namespace Go.Proofs.Ytkfjobanbnokoaa.Is
open Go.RowKit Go.Proofs.YtkfjobanbnokoaaW.PrintWords Go.Proofs.Ytkfjobanbnokoaa.Bs Go.Proofs.Ytkfjobanbnokoaa.Av Go.Proofs.Ytkfjobanbnokoaa.Ad Go.Proofs.Ytkfjobanbnokoaa.Hd Go.Proofs.Ytkfjobanbnokoaa.Mm Go.Proofs.Ytkfjobanbnokoaa.Le Go.Proofs.Ytkfjobanbnokoaa.Ip Go.Proofs.Ytkfjobanbnokoaa.En Go.Proofs.Ytkfjobanbnokoaa.Co Go.Proofs.Ytkfjobanbnokoaa.Os
set_option maxHeartbeats 4000000 in
theorem put4_ok (n0 n1 n2 : Int) (c i f r t p : Nat) (x y : List UInt8) (v : Value) (body : List UInt8) (w0 : World) (hr : RB w0 v body) (hx : x.length = 16) (hy : y.length = 16) (hc : c < 256) (hi : i < 65536) (hf : f < 8) (hrr : r < 8192) (ht : t < 256) (hp : p < 256) (wx : widthA 4 x = 32) (wy : widthA 4 y = 32) (hb : body.length ≤ 65515) :
    Calls Try.prog 28 #[.agg (HV [n0, n1, n2, c, i, f, r, t, p] 4 x 4 y), v] w0 (RowTup w0 (all4 c i f r t p (x.take 4) (y.take 4) body)) := by
  have HWX : Hid ((widthA 4 x == 32) = true) := Lib.hid (by rw [wx]; rfl)
  have HWY : Hid ((widthA 4 y == 32) = true) := Lib.hid (by rw [wy]; rfl)
  have HBX := Lib.hid (bytesA4 x wx)
  have HBY := Lib.hid (bytesA4 y wy)
  have HL4 : Hid ((x.take 4).length = 4 ∧ (y.take 4).length = 4) := Lib.hid ⟨by simp; omega, by simp; omega⟩
  have HBL : Hid ((bare4 c (20 + body.length) i f r t p (x.take 4) (y.take 4)).length = 20) := Lib.hid (bare4_length _ _ _ _ _ _ _ _ _ HL4.out.1 HL4.out.2)
  have hq1 : 20 + body.length < 65536 := by omega
  have hq2 : 8192 * f + r < 65536 := by omega
  have LT1 : Hid (LitOf 12 #[(0, .int .u8 69), (1, .int .u8 (c : Int)), (2, .int .u8 ((20 + (body.length : Int)) / 256)), (3, .int .u8 ((20 + (body.length : Int)) % 256)), (4, .int .u8 ((i : Int) / 256)), (5, .int .u8 ((i : Int) % 256)), (6, .int .u8 (((8192 * f + r : Nat) : Int) / 256)), (7, .int .u8 (((8192 * f + r : Nat) : Int) % 256)), (8, .int .u8 (t : Int)), (9, .int .u8 (p : Int)), (10, .int .u8 0), (11, .int .u8 0)] (raw4 c (20 + body.length) i f r t p)) := Lib.hid ⟨rfl, by decide, fun W => by
    rw [raw4_cells c (20 + body.length) i f r t p hc hq1 hi hf hrr ht hp]
    exact bytes12 _ _ _ _ _ _ _ _ _ _ _ _ W⟩
  have HSET := Lib.hid (head4_set c (20 + body.length) i f r t p (x.take 4) (y.take 4))
  have HSUM : Hid (65535 - sum16 (bare4 c (20 + body.length) i f r t p (x.take 4) (y.take 4)) < 65536) := Lib.hid (by omega)
  have HALL : Hid (all4 c i f r t p (x.take 4) (y.take 4) body = head4 c (20 + body.length) i f r t p (x.take 4) (y.take 4) ++ body) := Lib.hid rfl
  generalize all4 c i f r t p (x.take 4) (y.take 4) body = L at HALL ⊢
  have HH20 : Hid ((head4 c (20 + body.length) i f r t p (x.take 4) (y.take 4)).length = 20) := Lib.hid (by unfold head4; rw [filled_length, HBL.out])
  clear wx wy
  have HX := Lib.hid hx
  have HY := Lib.hid hy
  have HC : Hid (Cells 67 (HV [n0, n1, n2, c, i, f, r, t, p] 4 x 4 y)) := Lib.hid (cellsH _ _ _ _ _ rfl hx hy)
  have HR := Lib.hid hr
  have hl := hr.len
  obtain ⟨A, cb, rfl, hcb, hrx⟩ := hr
  clear hrx hx hy
  have HM := Lib.hid (Mem.start w0)
  have HB := HM.out.below
  have hor : Go.bits .or .i64 ((f : Int) * 8192) (r : Int) = ((8192 * f + r : Nat) : Int) := by
    have h := i64_join f r 13 hrr (by omega)
    rw [show (2 : Nat) ^ 13 = 8192 from rfl] at h
    rw [show ((f : Int) * 8192) = ((f * 8192 : Nat) : Int) by omega, h]
    congr 1
    omega
  have HFL2 : Hid (raw4 c (20 + body.length) i f r t p ++ x.take 4 ++ y.take 4 = bare4 c (20 + body.length) i f r t p (x.take 4) (y.take 4)) := Lib.hid rfl
  have HFL : Hid ([raw4 c (20 + body.length) i f r t p, x.take 4, y.take 4].flatten = bare4 c (20 + body.length) i f r t p (x.take 4) (y.take 4)) := Lib.hid (by simp [bare4])
  have HLEN : Hid ([raw4 c (20 + body.length) i f r t p, x.take 4, y.take 4].flatten.length ≤ 1099511627776) := Lib.hid (by rw [HFL.out, HBL.out]; decide)
  have HS1 : Hid ([bare4 c (20 + body.length) i f r t p (x.take 4) (y.take 4)].flatten = bare4 c (20 + body.length) i f r t p (x.take 4) (y.take 4)) := Lib.hid (by simp)
  have HN1 : Hid ((raw4 c (20 + body.length) i f r t p).length + (x.take 4).length = 16) := Lib.hid (by rw [HL4.out.1]; rfl)
  have HN2 : Hid ((raw4 c (20 + body.length) i f r t p ++ x.take 4).length + (y.take 4).length = 20) := Lib.hid (by rw [List.length_append, HL4.out.1, HL4.out.2]; rfl)
  have HN3 : Hid ((head4 c (20 + body.length) i f r t p (x.take 4) (y.take 4)).length + body.length = 20 + body.length) := Lib.hid (by rw [HH20.out])
  have HFR : ∃ fr : Nat, Hid (8192 * f + r = fr) := ⟨_, Lib.hid rfl⟩
  obtain ⟨fr, HFR⟩ := HFR
  rw [HFR.out] at hor hq2 LT1
  generalize head4 c (20 + body.length) i f r t p (x.take 4) (y.take 4) = Hq at HSET HALL HH20 HN3
  generalize bare4 c (20 + body.length) i f r t p (x.take 4) (y.take 4) = Bq at HSET HSUM HBL HFL HFL2 HS1
  generalize raw4 c (20 + body.length) i f r t p = R at LT1 HFL HFL2 HLEN HN1 HN2
  generalize x.take 4 = X4 at HBX HL4 HFL HFL2 HLEN HN1 HN2
  generalize y.take 4 = Y4 at HBY HL4 HFL HFL2 HLEN HN2
  go_enter Try.func28, Try.ntmps28
  go_wp2_with (first | refine m_rd ?_ | (refine m_wr ?_; clear HM HB; intro w b HM HB; try clear b) | (refine m_ap ?_; clear HM HB; intro w Aq cq HM HB) | fail)
  refine (fits_yes4 c 8 8 rfl (by decide) _ (by omega) (by simp; omega)).mono ?_
  rintro e w' ⟨rfl, rfl⟩
  go_wp2_with (first | refine m_rd ?_ | (refine m_wr ?_; clear HM HB; intro w b HM HB; try clear b) | (refine m_ap ?_; clear HM HB; intro w Aq cq HM HB) | fail)
  refine (fits_yes4 i 16 16 rfl (by decide) _ (by omega) (by simp; omega)).mono ?_
  rintro e w' ⟨rfl, rfl⟩
  go_wp2_with (first | refine m_rd ?_ | (refine m_wr ?_; clear HM HB; intro w b HM HB; try clear b) | (refine m_ap ?_; clear HM HB; intro w Aq cq HM HB) | fail)
  refine (fits_yes4 f 3 3 rfl (by decide) _ (by omega) (by simp; omega)).mono ?_
  rintro e w' ⟨rfl, rfl⟩
  go_wp2_with (first | refine m_rd ?_ | (refine m_wr ?_; clear HM HB; intro w b HM HB; try clear b) | (refine m_ap ?_; clear HM HB; intro w Aq cq HM HB) | fail)
  refine (fits_yes4 r 13 13 rfl (by decide) _ (by omega) (by simp; omega)).mono ?_
  rintro e w' ⟨rfl, rfl⟩
  go_wp2_with (first | refine m_rd ?_ | (refine m_wr ?_; clear HM HB; intro w b HM HB; try clear b) | (refine m_ap ?_; clear HM HB; intro w Aq cq HM HB) | fail)
  refine (fits_yes4 t 8 8 rfl (by decide) _ (by omega) (by simp; omega)).mono ?_
  rintro e w' ⟨rfl, rfl⟩
  go_wp2_with (first | refine m_rd ?_ | (refine m_wr ?_; clear HM HB; intro w b HM HB; try clear b) | (refine m_ap ?_; clear HM HB; intro w Aq cq HM HB) | fail)
  refine (fits_yes4 p 8 8 rfl (by decide) _ (by omega) (by simp; omega)).mono ?_
  rintro e w' ⟨rfl, rfl⟩
  go_wp2_with (first | refine m_rd ?_ | (refine m_wr ?_; clear HM HB; intro w b HM HB; try clear b) | (refine m_ap ?_; clear HM HB; intro w Aq cq HM HB) | fail)
  refine (own_any4 4 x _ HX.out).mono ?_
  rintro e w ⟨rfl, hb⟩
  replace HM := Lib.hid (HM.out.call hb)
  replace HB := HM.out.below
  clear hb
  rw [HWX.out]
  go_wp2_with (first | refine m_rd ?_ | (refine m_wr ?_; clear HM HB; intro w b HM HB; try clear b) | (refine m_ap ?_; clear HM HB; intro w Aq cq HM HB) | fail)
  refine (own_any4 4 y _ HY.out).mono ?_
  rintro e w ⟨rfl, hb⟩
  replace HM := Lib.hid (HM.out.call hb)
  replace HB := HM.out.below
  clear hb
  rw [HWY.out]
  go_wp2_with (first | refine m_rd ?_ | (refine m_wr ?_; clear HM HB; intro w b HM HB; try clear b) | (refine m_ap ?_; clear HM HB; intro w Aq cq HM HB) | fail)

  try simp only [Act.put, List.setIfInBounds_toArray, List.set_cons_zero, List.set_cons_succ]
  refine wp_region_held_drew (S := fun w' => Mem w0 w' _) (by kernel_rfl) (HM.out.drew.two) (fun hS => ?_)
  replace HM := Lib.hid HM.out.drew
  replace HB := HM.out.below
  refine tk 0 94 ?_
  refine tk 1 95 ?_
  refine tkv 2 96 (.agg (AV [4] x)) rfl (yields_at rfl rfl (fun _ h => h) (by (first | ((repeat (first | with_reducible exact List.Mem.head _ | with_reducible apply List.Mem.tail)); done) | ((repeat (first | exact List.Mem.head _ | apply List.Mem.tail)); done))) (AV [4] x) (HV_src _ _ _ _ _ 9 rfl HX.out) Try.underlying26 rfl (info_AV _ _ HX.out) (by kernel_rfl)) ?_
  refine tk 4 98 ?_
  refine tkv 5 99 (.agg (AV [4] y)) rfl (yields_at rfl rfl (fun _ h => h) (by (first | ((repeat (first | with_reducible exact List.Mem.head _ | with_reducible apply List.Mem.tail)); done) | ((repeat (first | exact List.Mem.head _ | apply List.Mem.tail)); done))) (AV [4] y) (HV_dst _ _ _ _ _ 26 rfl HX.out) Try.underlying26 rfl (info_AV _ _ HY.out) (by kernel_rfl)) ?_
  refine rone 3 rfl fun K' hK => ?_
  go_simp
  refine (bytes_any 4 x _ HX.out).mono ?_
  rintro e w ⟨vx, rfl, ho, hb⟩
  replace HM := Lib.hid (HM.out.row hb ho)
  replace HB := HM.out.below
  clear ho hb
  rw [HBX.out] at HM
  obtain ⟨Ax, cx, rfl, -, -⟩ := HM.out.rb (by (first | ((repeat (first | with_reducible exact List.Mem.head _ | with_reducible apply List.Mem.tail)); done) | ((repeat (first | exact List.Mem.head _ | apply List.Mem.tail)); done)))
  refine hK.out _ _ (HM.out.tail) (fun hS2 => ?_)
  clear hS hK
  have hS := hS2
  clear hS2
  try simp only [Act.put, List.setIfInBounds_toArray, List.set_cons_zero, List.set_cons_succ]
  refine rone 6 rfl fun K' hK => ?_
  go_simp
  refine (bytes_any 4 y _ HY.out).mono ?_
  rintro e w ⟨vy, rfl, ho, hb⟩
  replace HM := Lib.hid (HM.out.row hb ho)
  replace HB := HM.out.below
  clear ho hb
  rw [HBY.out] at HM
  obtain ⟨Ay, cy, rfl, -, -⟩ := HM.out.rb (by (first | ((repeat (first | with_reducible exact List.Mem.head _ | with_reducible apply List.Mem.tail)); done) | ((repeat (first | exact List.Mem.head _ | apply List.Mem.tail)); done)))
  refine hK.out _ _ (HM.out.tail.tail) (fun hS2 => ?_)
  clear hS hK
  have hS := hS2
  clear hS2
  try simp only [Act.put, List.setIfInBounds_toArray, List.set_cons_zero, List.set_cons_succ]
  refine rone 7 rfl fun K' hK => ?_
  apply s_slices3
  next => exact rfl
  next => kernel_rfl
  iterate 3 (next => exact rfl)
  next => exact HM
  clear HM HB
  intro w b HM HB
  refine hK.out _ _ (HM.out.tail.tail.tail) (fun hS2 => ?_)
  clear hS hK
  have hS := hS2
  clear hS2
  try simp only [Act.put, List.setIfInBounds_toArray, List.set_cons_zero, List.set_cons_succ]
  refine rone 8 rfl fun K' hK => ?_
  go_simp
  refine (concat_any _ _ [R, X4, Y4] _ (HM.out.rbs3 (by (first | ((repeat (first | with_reducible exact List.Mem.head _ | with_reducible apply List.Mem.tail)); done) | ((repeat (first | exact List.Mem.head _ | apply List.Mem.tail)); done))) (HM.out.rb (by (first | ((repeat (first | with_reducible exact List.Mem.head _ | with_reducible apply List.Mem.tail)); done) | ((repeat (first | exact List.Mem.head _ | apply List.Mem.tail)); done)))) (HM.out.rb (by (first | ((repeat (first | with_reducible exact List.Mem.head _ | with_reducible apply List.Mem.tail)); done) | ((repeat (first | exact List.Mem.head _ | apply List.Mem.tail)); done)))) (HM.out.rb (by (first | ((repeat (first | with_reducible exact List.Mem.head _ | with_reducible apply List.Mem.tail)); done) | ((repeat (first | exact List.Mem.head _ | apply List.Mem.tail)); done))))) HLEN.out).mono ?_
  rintro e w ⟨vr, rfl, ho, hb⟩
  replace HM := Lib.hid (HM.out.row hb ho)
  replace HB := HM.out.below
  clear ho hb
  rw [HFL.out] at HM
  obtain ⟨g, cap, rfl, hcap⟩ := HM.out.form (List.Mem.head _) (by rw [HBL.out]; decide)
  rw [HBL.out] at HM hcap
  rw [HBL.out]
  refine hK.out _ _ (HM.out.tail.tail.tail.tail) (fun hS2 => ?_)
  clear hS hK
  have hS := hS2
  clear hS2
  try simp only [Act.put, List.setIfInBounds_toArray, List.set_cons_zero, List.set_cons_succ]
  refine tk 9 8 ?_
  refine wpAnyH_done (by kernel_rfl) ?_ _
  clear hS
  go_wp2_with (first | refine m_rd ?_ | (refine m_wr ?_; clear HM HB; intro w b HM HB; try clear b) | (refine m_ap ?_; clear HM HB; intro w Aq cq HM HB) | fail)
  refine (check_any _ _ [Bq] _ (HM.out.rbs1 (by (first | ((repeat (first | with_reducible exact List.Mem.head _ | with_reducible apply List.Mem.tail)); done) | ((repeat (first | exact List.Mem.head _ | apply List.Mem.tail)); done))) (HM.out.rb (by (first | ((repeat (first | with_reducible exact List.Mem.head _ | with_reducible apply List.Mem.tail)); done) | ((repeat (first | exact List.Mem.head _ | apply List.Mem.tail)); done))))) (by rw [HS1.out, HBL.out]; decide)).mono ?_
  rintro e w' ⟨rfl, rfl⟩
  rw [HS1.out]
  have HSET2 := Lib.hid (HSET.out _ rfl)
  clear HSET
  generalize 65535 - sum16 Bq = s at HSUM HSET2 ⊢
  have hsum := HSUM.out
  have HSI : Hid (((Bq.set 10 (UInt8.ofNat ((s : Int) / 256).toNat)).set 11 (UInt8.ofNat ((s : Int) % 256).toNat)) = Hq) := Lib.hid (by rw [← HSET2.out]; congr 2)
  have HN4 : Hid (((Bq.set 10 (UInt8.ofNat ((s : Int) / 256).toNat)).set 11 (UInt8.ofNat ((s : Int) % 256).toNat)).length + body.length = 20 + body.length) := Lib.hid (by rw [List.length_set, List.length_set, HBL.out])
  go_wp2_with (first | refine m_rd ?_ | (refine m_wr ?_; clear HM HB; intro w b HM HB; try clear b) | (refine m_ap ?_; clear HM HB; intro w Aq cq HM HB) | fail)
  go_ret2
  exact ⟨_, rfl, by rw [HALL.out, ← HSI.out]; exact HM.out.ob (by (first | ((repeat (first | with_reducible exact List.Mem.head _ | with_reducible apply List.Mem.tail)); done) | ((repeat (first | exact List.Mem.head _ | apply List.Mem.tail)); done))), HB⟩

end Go.Proofs.Ytkfjobanbnokoaa.Is

set_option linter.unusedSimpArgs false
set_option linter.unusedVariables false
set_option maxRecDepth 100000
namespace Go.Proofs.Ytkfjobanbnokoaa.Is
open Go.RowKit Go.Proofs.YtkfjobanbnokoaaW.PrintWords Go.Proofs.Ytkfjobanbnokoaa.Bs Go.Proofs.Ytkfjobanbnokoaa.Av Go.Proofs.Ytkfjobanbnokoaa.Ad Go.Proofs.Ytkfjobanbnokoaa.Hd Go.Proofs.Ytkfjobanbnokoaa.Mm Go.Proofs.Ytkfjobanbnokoaa.Le Go.Proofs.Ytkfjobanbnokoaa.Ip Go.Proofs.Ytkfjobanbnokoaa.En Go.Proofs.Ytkfjobanbnokoaa.Co Go.Proofs.Ytkfjobanbnokoaa.Os
end Go.Proofs.Ytkfjobanbnokoaa.Is

set_option linter.unusedSimpArgs false
set_option linter.unusedVariables false
set_option maxRecDepth 100000
namespace Go.Proofs.Ytkfjobanbnokoaa.Is
open Go.RowKit Go.Proofs.YtkfjobanbnokoaaW.PrintWords Go.Proofs.Ytkfjobanbnokoaa.Bs Go.Proofs.Ytkfjobanbnokoaa.Av Go.Proofs.Ytkfjobanbnokoaa.Ad Go.Proofs.Ytkfjobanbnokoaa.Hd Go.Proofs.Ytkfjobanbnokoaa.Mm Go.Proofs.Ytkfjobanbnokoaa.Le Go.Proofs.Ytkfjobanbnokoaa.Ip Go.Proofs.Ytkfjobanbnokoaa.En Go.Proofs.Ytkfjobanbnokoaa.Co Go.Proofs.Ytkfjobanbnokoaa.Os

def ten (n : UInt8) : List UInt8 := pad16 [10, 0, 0, n]
theorem ten_width (n : UInt8) : widthA 4 (ten n) = 32 := (width32 4 (ten n)).2 ⟨rfl, rfl⟩
theorem fits_ns4 (l : List UInt8) : Fits (ns4 l ++ [4, 4]) := by
  have h0 := gb_lt l 0
  have h1 := gb_lt l 1
  have h2 := gb_lt l 2
  have h3 := gb_lt l 3
  have h4 := gb_lt l 4
  have h5 := gb_lt l 5
  have h6 := gb_lt l 6
  have h7 := gb_lt l 7
  have h8 := gb_lt l 8
  have h9 := gb_lt l 9
  intro n hn
  unfold ns4 tot4 siz4 at hn
  simp only [List.cons_append, List.nil_append, List.mem_cons, List.not_mem_nil, or_false] at hn
  rcases hn with rfl | rfl | rfl | rfl | rfl | rfl | rfl | rfl | rfl | rfl | rfl <;> omega
theorem len4 (l : List UInt8) (h : bad4 l = 0) : badS l = 0 ∧ 20 ≤ l.length ∧ 20 ≤ siz4 l ∧ siz4 l ≤ l.length ∧ siz4 l ≤ tot4 l ∧ tot4 l ≤ l.length ∧ sum16 (l.take (siz4 l)) = 65535 ∧ gb l 0 / 16 = 4 := by
  unfold bad4 at h
  by_cases hs : badS l = 0
  · rw [if_neg (by omega)] at h
    have hg : sum16 (l.take (siz4 l)) = 65535 := by
      by_cases hg : sum16 (l.take (siz4 l)) = 65535
      · exact hg
      · rw [if_pos hg] at h; exact absurd h (by decide)
    rcases badS_cases l with h | h | h | h | h | h | h <;> first | omega | exact ⟨hs, by omega, by omega, by omega, by omega, by omega, hg, by omega⟩
  · rw [if_pos hs] at h; exact absurd h hs
theorem cells_head4 (l : List UInt8) : Cells 67 (head4v l) := by
  unfold head4v
  by_cases h : bad4 l = 0
  · rw [if_pos h]
    have hl := (len4 l h).2.1
    exact cellsH _ _ _ _ _ rfl (pad16_length _ (by simp; omega)) (pad16_length _ (by simp; omega))
  · rw [if_neg h]; exact cellsZH
theorem eql_head4 (l : List UInt8) : EqlOf 67 (head4v l) (head4v l) true := by
  unfold head4v
  by_cases h : bad4 l = 0
  · rw [if_pos h]
    have hl := (len4 l h).2.1
    exact eql_head_self _ _ _ _ _ rfl (pad16_length _ (by simp; omega)) (pad16_length _ (by simp; omega)) (fits_ns4 l)
  · rw [if_neg h]; exact eql_head_self _ _ _ _ _ rfl rfl rfl fits_zero
end Go.Proofs.Ytkfjobanbnokoaa.Is
