/- The reference's head of bytes, of family 4; PRINTED by gen_r4.py. -/
import Derived.Test.YtahnibhcfdamdaaJc
set_option linter.unusedSimpArgs false
set_option linter.unusedVariables false
set_option maxRecDepth 100000
namespace Go.Proofs.Ytahnibhcfdamdaa.Is
open Go.RowKit Go.Proofs.YtahnibhcfdamdaaW.PrintWords Go.Proofs.Ytahnibhcfdamdaa.Bs Go.Proofs.Ytahnibhcfdamdaa.Av Go.Proofs.Ytahnibhcfdamdaa.Ad Go.Proofs.Ytahnibhcfdamdaa.Hd Go.Proofs.Ytahnibhcfdamdaa.Mm Go.Proofs.Ytahnibhcfdamdaa.Le Go.Proofs.Ytahnibhcfdamdaa.Ip Go.Proofs.Ytahnibhcfdamdaa.En Go.Proofs.Ytahnibhcfdamdaa.Co Go.Proofs.Ytahnibhcfdamdaa.Os

theorem refOf_rb (v : Value) (l : List UInt8) (w : World) (hr : RB w v l) (hs : l.length ≤ 1099511627776) :
    Calls Try.prog 105 #[v] w fun e w' => e = .returned (.int .i64 (sum16 l)) ∧ w = w' := by
  obtain ⟨A, c, rfl, _, hr⟩ := hr
  exact refOf_any A c l w hr hs
theorem refOf4 (v : Value) (l : List UInt8) (w : World) (hr : RB w v l) (hl : l.length = 4) :
    Calls Try.prog 94 #[v] w fun e w' => e = .returned (.tuple #[.agg (AV [4] (pad16 l)), .bool true]) ∧ Below w.heap.size w w' := refOf_at4 v l w hr hl
theorem bad4_of (l : List UInt8) (q : Nat) (h : badS l = q) (hq : q ≠ 0) : bad4 l = q ∧ head4v l = ZH := by
  have hb : bad4 l = q := by unfold bad4; rw [if_pos (by omega), h]
  exact ⟨hb, by unfold head4v; rw [if_neg (by omega)]⟩
set_option maxHeartbeats 4000000 in
theorem refParse4_any (v : Value) (l : List UInt8) (w0 : World) (hr : RB w0 v l) :
    Calls Try.prog 32 #[v] w0 fun e w' => e = .returned (.tuple #[.agg (head4v l), .int .i64 (bad4 l : Nat)]) ∧ Below w0.heap.size w0 w' := by
  have hl := hr.len
  have HR := Lib.hid hr
  obtain ⟨A, c, rfl, hc, hrr⟩ := hr
  clear hrr
  have HM := Lib.hid (Mem.start w0)
  have HB := HM.out.below
  by_cases h1 : l.length < 20
  · obtain ⟨e1, e2⟩ := bad4_of l 3 (by rcases badS_cases l with h | h | h | h | h | h | h <;> omega) (by decide)
    rw [e1, e2]
    go_enter Try.func32, Try.ntmps32
    go_wp2_with (first | refine m_rd ?_ | (refine m_wr ?_; clear HM HB; intro w b HM HB; try clear b) | (refine m_ap ?_; clear HM HB; intro w Aq cq HM HB) | fail)
    apply m_ret_c1
    next => exact rfl
    next => exact rfl
    next => exact rfl
    next => exact HM
    next => ((repeat (first | exact List.Mem.head _ | apply List.Mem.tail)); done)
    next => exact Try.underlying31
    next => rfl
    exact ⟨rfl, HB⟩
  obtain ⟨ad, rfl⟩ := HR.out.some (by omega)
  have hx0 := HR.out.byte 0 (by omega)
  simp only [gb_getD, Mm.add_zero] at hx0
  have hy0 := gb_lt l 0
  by_cases h2 : gb l 0 / 16 ≠ 4
  · obtain ⟨e1, e2⟩ := bad4_of l 9 (by rcases badS_cases l with h | h | h | h | h | h | h <;> omega) (by decide)
    rw [e1, e2]
    have h2' : (((gb l 0 : Nat) : Int) / 16 != 4) = true := by simp; omega
    clear h2 e1 e2
    generalize gb l 0 = g0 at hx0 hy0 h2'
    go_enter Try.func32, Try.ntmps32
    go_wp2_with (first | refine m_rd ?_ | (refine m_wr ?_; clear HM HB; intro w b HM HB; try clear b) | (refine m_ap ?_; clear HM HB; intro w Aq cq HM HB) | fail)
    apply m_ret_c1
    next => exact rfl
    next => exact rfl
    next => exact rfl
    next => exact HM
    next => ((repeat (first | exact List.Mem.head _ | apply List.Mem.tail)); done)
    next => exact Try.underlying31
    next => rfl
    exact ⟨rfl, HB⟩
  have h2' : (((gb l 0 : Nat) : Int) / 16 != 4) = false := by simp; omega
  have hsz : 4 * (((gb l 0 : Nat) : Int) % 16) = ((siz4 l : Nat) : Int) := by unfold siz4; omega
  have hs64 : siz4 l < 64 := by unfold siz4; omega
  have H2 := Lib.hid (two2 ad c l)
  have htt : tot4 l < 65536 := by unfold tot4; have := gb_lt l 2; have := gb_lt l 3; omega
  have HT2 : Hid (256 * gb l 2 + gb l 3 = tot4 l) := Lib.hid rfl
  rw [HT2.out] at H2
  clear HT2
  by_cases h3 : siz4 l < 20
  · obtain ⟨e1, e2⟩ := bad4_of l 5 (by rcases badS_cases l with h | h | h | h | h | h | h <;> omega) (by decide)
    rw [e1, e2]
    clear e1 e2 h2
    generalize siz4 l = sz at *
    generalize tot4 l = tt at *
    generalize gb l 0 = g0 at hx0 hy0 h2' hsz
    go_enter Try.func32, Try.ntmps32
    go_wp2_with (first | refine m_rd ?_ | (refine m_wr ?_; clear HM HB; intro w b HM HB; try clear b) | (refine m_ap ?_; clear HM HB; intro w Aq cq HM HB) | fail)
    apply m_ret_c1
    next => exact rfl
    next => exact rfl
    next => exact rfl
    next => exact HM
    next => ((repeat (first | exact List.Mem.head _ | apply List.Mem.tail)); done)
    next => exact Try.underlying31
    next => rfl
    exact ⟨rfl, HB⟩
  by_cases h4 : l.length < siz4 l
  · obtain ⟨e1, e2⟩ := bad4_of l 3 (by rcases badS_cases l with h | h | h | h | h | h | h <;> omega) (by decide)
    rw [e1, e2]
    clear e1 e2 h2
    generalize siz4 l = sz at *
    generalize tot4 l = tt at *
    generalize gb l 0 = g0 at hx0 hy0 h2' hsz
    go_enter Try.func32, Try.ntmps32
    go_wp2_with (first | refine m_rd ?_ | (refine m_wr ?_; clear HM HB; intro w b HM HB; try clear b) | (refine m_ap ?_; clear HM HB; intro w Aq cq HM HB) | fail)
    apply m_ret_c1
    next => exact rfl
    next => exact rfl
    next => exact rfl
    next => exact HM
    next => ((repeat (first | exact List.Mem.head _ | apply List.Mem.tail)); done)
    next => exact Try.underlying31
    next => rfl
    exact ⟨rfl, HB⟩
  by_cases h5 : tot4 l < siz4 l
  · obtain ⟨e1, e2⟩ := bad4_of l 5 (by rcases badS_cases l with h | h | h | h | h | h | h <;> omega) (by decide)
    rw [e1, e2]
    clear e1 e2 h2
    generalize siz4 l = sz at *
    generalize tot4 l = tt at *
    generalize gb l 0 = g0 at hx0 hy0 h2' hsz
    go_enter Try.func32, Try.ntmps32
    go_wp2_with (first | refine m_rd ?_ | (refine m_wr ?_; clear HM HB; intro w b HM HB; try clear b) | (refine m_ap ?_; clear HM HB; intro w Aq cq HM HB) | fail)
    refine (H2.out _ (HR.out.below HB) (by omega)).mono ?_
    rintro e w ⟨rfl, hb⟩
    replace HM := Lib.hid (HM.out.call hb)
    replace HB := HM.out.below
    clear hb
    go_wp2_with (first | refine m_rd ?_ | (refine m_wr ?_; clear HM HB; intro w b HM HB; try clear b) | (refine m_ap ?_; clear HM HB; intro w Aq cq HM HB) | fail)
    apply m_ret_c1
    next => exact rfl
    next => exact rfl
    next => exact rfl
    next => exact HM
    next => ((repeat (first | exact List.Mem.head _ | apply List.Mem.tail)); done)
    next => exact Try.underlying31
    next => rfl
    exact ⟨rfl, HB⟩
  by_cases h6 : l.length < tot4 l
  · obtain ⟨e1, e2⟩ := bad4_of l 3 (by rcases badS_cases l with h | h | h | h | h | h | h <;> omega) (by decide)
    rw [e1, e2]
    clear e1 e2 h2
    generalize siz4 l = sz at *
    generalize tot4 l = tt at *
    generalize gb l 0 = g0 at hx0 hy0 h2' hsz
    go_enter Try.func32, Try.ntmps32
    go_wp2_with (first | refine m_rd ?_ | (refine m_wr ?_; clear HM HB; intro w b HM HB; try clear b) | (refine m_ap ?_; clear HM HB; intro w Aq cq HM HB) | fail)
    refine (H2.out _ (HR.out.below HB) (by omega)).mono ?_
    rintro e w ⟨rfl, hb⟩
    replace HM := Lib.hid (HM.out.call hb)
    replace HB := HM.out.below
    clear hb
    go_wp2_with (first | refine m_rd ?_ | (refine m_wr ?_; clear HM HB; intro w b HM HB; try clear b) | (refine m_ap ?_; clear HM HB; intro w Aq cq HM HB) | fail)
    refine (H2.out _ (HR.out.below HB) (by omega)).mono ?_
    rintro e w ⟨rfl, hb⟩
    replace HM := Lib.hid (HM.out.call hb)
    replace HB := HM.out.below
    clear hb
    go_wp2_with (first | refine m_rd ?_ | (refine m_wr ?_; clear HM HB; intro w b HM HB; try clear b) | (refine m_ap ?_; clear HM HB; intro w Aq cq HM HB) | fail)
    apply m_ret_c1
    next => exact rfl
    next => exact rfl
    next => exact rfl
    next => exact HM
    next => ((repeat (first | exact List.Mem.head _ | apply List.Mem.tail)); done)
    next => exact Try.underlying31
    next => rfl
    exact ⟨rfl, HB⟩
  have hs : badS l = 0 := by rcases badS_cases l with h | h | h | h | h | h | h <;> omega
  by_cases hg : sum16 (l.take (siz4 l)) = 65535
  case neg =>
    have hb : bad4 l = 11 := by unfold bad4; rw [if_neg (by omega), if_pos hg]
    have HF : Hid (head4v l = ZH) := Lib.hid (by unfold head4v; rw [hb]; rfl)
    have HG : (((sum16 (l.take (siz4 l)) : Nat) : Int) != 65535) = true := by simp; omega
    rw [hb, HF.out]
    clear hb hs hg h2
    generalize siz4 l = sz at *
    generalize tot4 l = tt at *
    generalize gb l 0 = g0 at hx0 hy0 h2' hsz
    generalize hq : sum16 (l.take sz) = q at HG
    have HQ := Lib.hid hq
    clear hq
    go_enter Try.func32, Try.ntmps32
    go_wp2_with (first | refine m_rd ?_ | (refine m_wr ?_; clear HM HB; intro w b HM HB; try clear b) | (refine m_ap ?_; clear HM HB; intro w Aq cq HM HB) | fail)
    refine (H2.out _ (HR.out.below HB) (by omega)).mono ?_
    rintro e w ⟨rfl, hb⟩
    replace HM := Lib.hid (HM.out.call hb)
    replace HB := HM.out.below
    clear hb
    go_wp2_with (first | refine m_rd ?_ | (refine m_wr ?_; clear HM HB; intro w b HM HB; try clear b) | (refine m_ap ?_; clear HM HB; intro w Aq cq HM HB) | fail)
    refine (H2.out _ (HR.out.below HB) (by omega)).mono ?_
    rintro e w ⟨rfl, hb⟩
    replace HM := Lib.hid (HM.out.call hb)
    replace HB := HM.out.below
    clear hb
    go_wp2_with (first | refine m_rd ?_ | (refine m_wr ?_; clear HM HB; intro w b HM HB; try clear b) | (refine m_ap ?_; clear HM HB; intro w Aq cq HM HB) | fail)
    refine (refOf_rb _ (l.take sz) _ ((HR.out.below HB).front sz c (by omega) (by omega)) (by simp; omega)).mono ?_
    rintro e w' ⟨rfl, rfl⟩
    rw [HQ.out]
    go_wp2_with (first | refine m_rd ?_ | (refine m_wr ?_; clear HM HB; intro w b HM HB; try clear b) | (refine m_ap ?_; clear HM HB; intro w Aq cq HM HB) | fail)
    apply m_ret_c1
    next => exact rfl
    next => exact rfl
    next => exact rfl
    next => exact HM
    next => ((repeat (first | exact List.Mem.head _ | apply List.Mem.tail)); done)
    next => exact Try.underlying31
    next => rfl
    exact ⟨rfl, HB⟩
  have hb : bad4 l = 0 := by unfold bad4; rw [if_neg (by omega), if_neg (by omega)]
  have HF : Hid (head4v l = HV (ns4 l) 4 (pad16 ((l.drop 12).take 4)) 4 (pad16 ((l.drop 16).take 4))) := Lib.hid (by unfold head4v; rw [if_pos hb])
  have HQ := Lib.hid hg
  have HN : Hid (ns4 l = [4, ((siz4 l : Nat) : Int), ((tot4 l : Nat) : Int), ((gb l 1 : Nat) : Int), ((256 * gb l 4 + gb l 5 : Nat) : Int), ((gb l 6 / 32 : Nat) : Int), (((256 * gb l 6 + gb l 7) % 8192 : Nat) : Int), ((gb l 8 : Nat) : Int), ((gb l 9 : Nat) : Int)]) := Lib.hid rfl
  have H4 := Lib.hid (two4 ad c l)
  have H6 := Lib.hid (two6 ad c l)
  have b4 : 256 * gb l 4 + gb l 5 < 65536 := by have := gb_lt l 4; have := gb_lt l 5; omega
  have b6 : 256 * gb l 6 + gb l 7 < 65536 := by have := gb_lt l 6; have := gb_lt l 7; omega
  have hx1 := HR.out.byte 1 (by omega)
  have hx6 := HR.out.byte 6 (by omega)
  have hx8 := HR.out.byte 8 (by omega)
  have hx9 := HR.out.byte 9 (by omega)
  simp only [gb_getD, add_lit _ 1 (by decide), add_lit _ 6 (by decide), add_lit _ 8 (by decide), add_lit _ 9 (by decide)] at hx1 hx6 hx8 hx9
  have hy1 := gb_lt l 1
  have hy6 := gb_lt l 6
  have hy8 := gb_lt l 8
  have hy9 := gb_lt l 9
  have hs1 := run_cut ad l.length c 12 16 12 4 rfl rfl (by omega) (by omega)
  have hs2 := run_cut ad l.length c 16 20 16 4 rfl rfl (by omega) (by omega)
  have L12 : Hid (((l.drop 12).take 4).length = 4) := Lib.hid (by simp; omega)
  have L16 : Hid (((l.drop 16).take 4).length = 4) := Lib.hid (by simp; omega)
  have P12 := Lib.hid (pad16_length _ L12.out)
  have P16 := Lib.hid (pad16_length _ L16.out)
  have C12 : Hid (Cells 25 (AV [4] (pad16 ((l.drop 12).take 4)))) := Lib.hid (cellsA _ _ P12.out)
  have C16 : Hid (Cells 25 (AV [4] (pad16 ((l.drop 16).take 4)))) := Lib.hid (cellsA _ _ P16.out)
  rw [hb]
  clear hb hs hg h2
  generalize siz4 l = sz at *
  generalize tot4 l = tt at *
  generalize 256 * gb l 4 + gb l 5 = idn at *
  generalize 256 * gb l 6 + gb l 7 = fr at *
  generalize gb l 0 = g0 at *
  generalize gb l 1 = g1 at *
  generalize gb l 6 = g6 at *
  generalize gb l 8 = g8 at *
  generalize gb l 9 = g9 at *
  go_enter Try.func32, Try.ntmps32
  go_wp2_with (first | refine m_rd ?_ | (refine m_wr ?_; clear HM HB; intro w b HM HB; try clear b) | (refine m_ap ?_; clear HM HB; intro w Aq cq HM HB) | fail)
  refine (H2.out _ (HR.out.below HB) (by omega)).mono ?_
  rintro e w ⟨rfl, hb⟩
  replace HM := Lib.hid (HM.out.call hb)
  replace HB := HM.out.below
  clear hb
  go_wp2_with (first | refine m_rd ?_ | (refine m_wr ?_; clear HM HB; intro w b HM HB; try clear b) | (refine m_ap ?_; clear HM HB; intro w Aq cq HM HB) | fail)
  refine (H2.out _ (HR.out.below HB) (by omega)).mono ?_
  rintro e w ⟨rfl, hb⟩
  replace HM := Lib.hid (HM.out.call hb)
  replace HB := HM.out.below
  clear hb
  go_wp2_with (first | refine m_rd ?_ | (refine m_wr ?_; clear HM HB; intro w b HM HB; try clear b) | (refine m_ap ?_; clear HM HB; intro w Aq cq HM HB) | fail)
  refine (refOf_rb _ (l.take sz) _ ((HR.out.below HB).front sz c (by omega) (by omega)) (by simp; omega)).mono ?_
  rintro e w' ⟨rfl, rfl⟩
  rw [HQ.out]
  go_wp2_with (first | refine m_rd ?_ | (refine m_wr ?_; clear HM HB; intro w b HM HB; try clear b) | (refine m_ap ?_; clear HM HB; intro w Aq cq HM HB) | fail)
  refine (refOf4 _ ((l.drop 12).take 4) _ (by have h := (HR.out.below HB).sub 12 4 (c - 12) (by omega) (by omega); rwa [add_lit _ 12 (by decide)] at h) L12.out).mono ?_
  rintro e w ⟨rfl, hb⟩
  replace HM := Lib.hid (HM.out.call hb)
  replace HB := HM.out.below
  clear hb
  go_wp2_with (first | refine m_rd ?_ | (refine m_wr ?_; clear HM HB; intro w b HM HB; try clear b) | (refine m_ap ?_; clear HM HB; intro w Aq cq HM HB) | fail)
  refine (refOf4 _ ((l.drop 16).take 4) _ (by have h := (HR.out.below HB).sub 16 4 (c - 16) (by omega) (by omega); rwa [add_lit _ 16 (by decide)] at h) L16.out).mono ?_
  rintro e w ⟨rfl, hb⟩
  replace HM := Lib.hid (HM.out.call hb)
  replace HB := HM.out.below
  clear hb
  go_wp2_with (first | refine m_rd ?_ | (refine m_wr ?_; clear HM HB; intro w b HM HB; try clear b) | (refine m_ap ?_; clear HM HB; intro w Aq cq HM HB) | fail)
  try simp only [Act.put, List.setIfInBounds_toArray, List.set_cons_zero, List.set_cons_succ]
  refine wp_region_held_drew (S := fun w' => Mem w0 w' _) (by kernel_rfl) (HM.out.drew.two) (fun hS => ?_)
  replace HM := Lib.hid HM.out.drew
  replace HB := HM.out.below
  refine tk 0 62 ?_
  refine tk 1 63 ?_
  refine tk 3 65 ?_
  refine tk 4 66 ?_
  refine tk 5 67 ?_
  refine tk 6 68 ?_
  refine tk 7 69 ?_
  refine tk 9 71 ?_
  refine tk 10 72 ?_
  refine tk 11 73 ?_
  refine tk 12 74 ?_
  refine tk 13 75 ?_
  refine tk 14 76 ?_
  refine tk 17 79 ?_
  refine tk 18 80 ?_
  refine tk 19 81 ?_
  refine tk 20 82 ?_
  refine tk 21 83 ?_
  refine tk 22 84 ?_
  refine tk 23 85 ?_
  refine tk 24 86 ?_
  refine tkv 25 87 (.agg (AV [4] (pad16 ((l.drop 12).take 4)))) rfl (yields_own rfl rfl (fun _ h => h) (by ((repeat (first | exact List.Mem.head _ | apply List.Mem.tail)); done)) Try.underlying25 rfl C12.out.1 (by kernel_rfl)) ?_
  refine tkv 26 88 (.agg (AV [4] (pad16 ((l.drop 16).take 4)))) rfl (yields_own rfl rfl (fun _ h => h) (by ((repeat (first | exact List.Mem.head _ | apply List.Mem.tail)); done)) Try.underlying25 rfl C16.out.1 (by kernel_rfl)) ?_
  refine rone 2 rfl fun K' hK => ?_
  go_simp
  refine (H2.out _ (HR.out.below HB) (by omega)).mono ?_
  rintro e w ⟨rfl, hb⟩
  replace HM := Lib.hid (HM.out.call hb)
  replace HB := HM.out.below
  clear hb
  refine hK.out _ _ (HM.out.two) (fun hS2 => ?_)
  clear hS hK
  have hS := hS2
  clear hS2
  try simp only [Act.put, List.setIfInBounds_toArray, List.set_cons_zero, List.set_cons_succ]
  refine rone 8 rfl fun K' hK => ?_
  go_simp
  refine (H4.out _ (HR.out.below HB) (by omega)).mono ?_
  rintro e w ⟨rfl, hb⟩
  replace HM := Lib.hid (HM.out.call hb)
  replace HB := HM.out.below
  clear hb
  refine hK.out _ _ (HM.out.two) (fun hS2 => ?_)
  clear hS hK
  have hS := hS2
  clear hS2
  try simp only [Act.put, List.setIfInBounds_toArray, List.set_cons_zero, List.set_cons_succ]
  refine rone 15 rfl fun K' hK => ?_
  go_simp
  refine (H6.out _ (HR.out.below HB) (by omega)).mono ?_
  rintro e w ⟨rfl, hb⟩
  replace HM := Lib.hid (HM.out.call hb)
  replace HB := HM.out.below
  clear hb
  refine hK.out _ _ (HM.out.two) (fun hS2 => ?_)
  clear hS hK
  have hS := hS2
  clear hS2
  try simp only [Act.put, List.setIfInBounds_toArray, List.set_cons_zero, List.set_cons_succ]
  refine tk 16 78 ?_
  refine tkv 27 89 _ rfl (yields_build rfl #[(0, .int .i64 4), (1, .int .i64 sz), (2, .int .i64 tt), (3, .int .i64 g1), (4, .int .i64 idn), (5, .int .i64 (g6 / 32)), (6, .int .i64 (fr % 8192)), (7, .int .i64 g8), (8, .int .i64 g9), (9, .agg (AV [4] (pad16 ((l.drop 12).take 4)))), (10, .agg (AV [4] (pad16 ((l.drop 16).take 4))))] rfl (build_head9 _ _ _ _ _ _ _ _ _ _ _ _ _ P12.out P16.out) (by kernel_rfl)) ?_
  refine rone 28 rfl fun K' hK => ?_
  apply s_storeC
  next => kernel_rfl
  next => exact rfl
  next => exact rfl
  next => exact rfl
  next => exact HM
  next => ((repeat (first | exact Upd.head _ | apply Upd.tail)); done)
  next => exact (cellsH _ _ _ _ _ rfl P12.out P16.out)
  clear HM HB
  intro w HM HB
  refine hK.out _ _ (HM.out.two) (fun hS2 => ?_)
  clear hS hK
  have hS := hS2
  clear hS2
  try simp only [Act.put, List.setIfInBounds_toArray, List.set_cons_zero, List.set_cons_succ]
  refine tk 29 3 ?_
  refine wpAnyH_done (by kernel_rfl) ?_ _
  clear hS
  go_wp2_with (first | refine m_rd ?_ | (refine m_wr ?_; clear HM HB; intro w b HM HB; try clear b) | (refine m_ap ?_; clear HM HB; intro w Aq cq HM HB) | fail)
  apply m_ret_c1
  next => exact rfl
  next => exact rfl
  next => exact rfl
  next => exact HM
  next => ((repeat (first | exact List.Mem.head _ | apply List.Mem.tail)); done)
  next => exact Try.underlying31
  next => rfl
  refine ⟨?_, HB⟩
  rw [HF.out, HN.out]
  rfl
end Go.Proofs.Ytahnibhcfdamdaa.Is
