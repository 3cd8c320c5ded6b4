/- Package ipfour: the head of bytes; PRINTED by gen_p4.py. -/
import Derived.Test.YtahnibhcfdamdaaJb
import Derived.Test.YtahnibhcfdamdaaOs3
set_option linter.unusedSimpArgs false
set_option linter.unusedVariables false
set_option maxRecDepth 100000
namespace Go.Proofs.Ytahnibhcfdamdaa.Is
open Go.RowKit Go.Proofs.YtahnibhcfdamdaaW.PrintWords Go.Proofs.Ytahnibhcfdamdaa.Bs Go.Proofs.Ytahnibhcfdamdaa.Av Go.Proofs.Ytahnibhcfdamdaa.Ad Go.Proofs.Ytahnibhcfdamdaa.Hd Go.Proofs.Ytahnibhcfdamdaa.Mm Go.Proofs.Ytahnibhcfdamdaa.Le Go.Proofs.Ytahnibhcfdamdaa.Ip Go.Proofs.Ytahnibhcfdamdaa.En Go.Proofs.Ytahnibhcfdamdaa.Co Go.Proofs.Ytahnibhcfdamdaa.Os

/-- Four bytes as an address's sixteen. -/
def pad16 (l : List UInt8) : List UInt8 := l ++ List.replicate 12 0
theorem pad16_length (l : List UInt8) (h : l.length = 4) : (pad16 l).length = 16 := by unfold pad16; rw [List.length_append, h]; rfl
/-- The head of bytes, of family 4. -/
def head4v (l : List UInt8) : Array Value := if bad4 l = 0 then HV (ns4 l) 4 (pad16 ((l.drop 12).take 4)) 4 (pad16 ((l.drop 16).take 4)) else ZH
theorem build5 (n1 n2 n3 n4 : Int) (W : World) : (Instr.build 31 #[(0, .int .i64 4), (1, .int .i64 n1), (2, .int .i64 n2), (3, .int .i64 n3), (4, .int .i64 n4)]).run Try.prog W = .ok (.agg (HV [4, n1, n2, n3, n4, 0, 0, 0, 0] 0 (List.replicate 16 0) 0 (List.replicate 16 0))) W := by kernel_rfl
theorem i64_and8191 (n : Int) : bits .and .i64 n 8191 = n % 8192 := by
  have h127 : (BitVec.ofInt 64 8191).toNat = 2 ^ 13 - 1 := by decide
  have key : (BitVec.ofInt 64 n &&& BitVec.ofInt 64 8191).toNat = (n % ((2 ^ 64 : Nat) : Int)).toNat % 2 ^ 13 := by
    rw [BitVec.toNat_and, BitVec.toNat_ofInt, h127, Nat.and_two_pow_sub_one_eq_mod]
  show IntKind.i64.wrap ((BitVec.ofInt 64 n &&& BitVec.ofInt 64 8191).toNat : Nat) = n % 8192
  rw [key, IntKind.wrap_i64]
  omega
theorem and13 (x : Nat) (hx : x < 65536) : Go.bits .and .i64 (x : Int) 8191 = ((x % 8192 : Nat) : Int) := by rw [i64_and8191]; omega
set_option maxHeartbeats 4000000 in
theorem parse4_any (v : Value) (l : List UInt8) (w0 : World) (hr : RB w0 v l) :
    Calls Try.prog 31 #[v] w0 fun e w' => e = .returned (.tuple #[.agg (head4v l), .int .i64 (bad4 l : Nat)]) ∧ Below w0.heap.size w0 w' := by
  have hl := hr.len
  have HR := Lib.hid hr
  obtain ⟨A, c, rfl, hc, hrr⟩ := hr
  clear hrr
  have HM := Lib.hid (Mem.start w0)
  have HB := HM.out.below
  by_cases hs : badS l = 0
  case neg =>
    have hb : bad4 l = badS l := by unfold bad4; rw [if_pos hs]
    have HF : Hid (head4v l = ZH) := Lib.hid (by unfold head4v; rw [hb, if_neg hs])
    have hle : badS l < 10 := by rcases badS_cases l with h | h | h | h | h | h | h <;> omega
    have hs2 : (((badS l : Nat) : Int) != 0) = true := by simp; omega
    have HZ : Hid ((if badS l = 0 then siz4 l else 0) = 0) := Lib.hid (if_neg hs)
    have HZ2 : Hid ((if badS l = 0 then tot4 l else 0) = 0) := Lib.hid (if_neg hs)
    rw [hb, HF.out]
    have HSD := Lib.hid (sized_four (.slice A l.length c) l)
    rw [HZ.out, HZ2.out] at HSD
    clear hb hs
    generalize badS l = q at *
    go_enter Try.func31, Try.ntmps31
    go_wp2_with (first | refine m_rd ?_ | (refine m_wr ?_; clear HM HB; intro w b HM HB; try clear b) | (refine m_ap ?_; clear HM HB; intro w Aq cq HM HB) | fail)
    refine (HSD.out _ (HR.out.below HB)).mono ?_
    rintro e w ⟨rfl, hb⟩
    replace HM := Lib.hid (HM.out.call hb)
    replace HB := HM.out.below
    clear hb
    go_wp2_with (first | refine m_rd ?_ | (refine m_wr ?_; clear HM HB; intro w b HM HB; try clear b) | (refine m_ap ?_; clear HM HB; intro w Aq cq HM HB) | fail)
    apply m_ret_c1
    next => exact rfl
    next => exact rfl
    next => exact rfl
    next => exact HM
    next => ((repeat (first | exact List.Mem.head _ | apply List.Mem.tail)); done)
    next => exact Try.underlying31
    next => rfl
    exact ⟨rfl, HB⟩
  have hin : 20 ≤ l.length ∧ 20 ≤ siz4 l ∧ siz4 l ≤ l.length ∧ tot4 l ≤ l.length := by rcases badS_cases l with h | h | h | h | h | h | h <;> omega
  obtain ⟨i1, i2, i3, i4⟩ := hin
  obtain ⟨ad, rfl⟩ := HR.out.some (by omega)
  have HSD := Lib.hid (sized_four (.slice (some ad) l.length c) l)
  rw [if_pos hs, if_pos hs, hs] at HSD
  have hsz : siz4 l < 64 := by unfold siz4; omega
  have htt : tot4 l < 65536 := by unfold tot4; have := gb_lt l 2; have := gb_lt l 3; omega
  by_cases hg : sum16 (l.take (siz4 l)) = 65535
  case neg =>
    have hb : bad4 l = 11 := by unfold bad4; rw [if_neg (by omega), if_pos hg]
    have HF : Hid (head4v l = ZH) := Lib.hid (by unfold head4v; rw [hb]; rfl)
    have HG : Hid ((((sum16 [l.take (siz4 l)].flatten : Nat) : Int) == 65535) = false) := Lib.hid (by rw [show [l.take (siz4 l)].flatten = l.take (siz4 l) by simp]; exact beq_false_of_ne (by omega))
    rw [hb, HF.out]
    clear hb hs hg
    generalize siz4 l = sz at *
    generalize tot4 l = tt at *
    go_enter Try.func31, Try.ntmps31
    go_wp2_with (first | refine m_rd ?_ | (refine m_wr ?_; clear HM HB; intro w b HM HB; try clear b) | (refine m_ap ?_; clear HM HB; intro w Aq cq HM HB) | fail)
    refine (HSD.out _ (HR.out.below HB)).mono ?_
    rintro e w ⟨rfl, hb⟩
    replace HM := Lib.hid (HM.out.call hb)
    replace HB := HM.out.below
    clear hb
    go_wp2_with (first | refine m_rd ?_ | (refine m_wr ?_; clear HM HB; intro w b HM HB; try clear b) | (refine m_ap ?_; clear HM HB; intro w Aq cq HM HB) | fail)
    refine (good_any _ _ [l.take sz] _ (HM.out.rbs1 (by ((repeat (first | exact List.Mem.head _ | apply List.Mem.tail)); done)) ((HR.out.below HB).front sz c (by omega) (by omega))) (by simp; omega)).mono ?_
    rintro e w' ⟨rfl, rfl⟩
    rw [HG.out]
    go_wp2_with (first | refine m_rd ?_ | (refine m_wr ?_; clear HM HB; intro w b HM HB; try clear b) | (refine m_ap ?_; clear HM HB; intro w Aq cq HM HB) | fail)
    apply m_ret_c1
    next => exact rfl
    next => exact rfl
    next => exact rfl
    next => exact HM
    next => ((repeat (first | exact List.Mem.head _ | apply List.Mem.tail)); done)
    next => exact Try.underlying31
    next => rfl
    exact ⟨rfl, HB⟩
  have hb : bad4 l = 0 := by unfold bad4; rw [if_neg (by omega), if_neg (by omega)]
  have HF : Hid (head4v l = HV (ns4 l) 4 (pad16 ((l.drop 12).take 4)) 4 (pad16 ((l.drop 16).take 4))) := Lib.hid (by unfold head4v; rw [if_pos hb])
  have HG : Hid ((((sum16 [l.take (siz4 l)].flatten : Nat) : Int) == 65535) = true) := Lib.hid (by rw [show [l.take (siz4 l)].flatten = l.take (siz4 l) by simp, hg]; rfl)
  have HN : Hid (ns4 l = [4, ((siz4 l : Nat) : Int), ((tot4 l : Nat) : Int), ((gb l 1 : Nat) : Int), ((256 * gb l 4 + gb l 5 : Nat) : Int), (((256 * gb l 6 + gb l 7) / 8192 : Nat) : Int), (((256 * gb l 6 + gb l 7) % 8192 : Nat) : Int), ((gb l 8 : Nat) : Int), ((gb l 9 : Nat) : Int)]) := Lib.hid (by
    unfold ns4
    rw [show (256 * gb l 6 + gb l 7) / 8192 = gb l 6 / 32 by have := gb_lt l 7; omega])
  have H4 := Lib.hid (half4 ad c l)
  have H6 := Lib.hid (half6 ad c l)
  have b4 : 256 * gb l 4 + gb l 5 < 65536 := by have := gb_lt l 4; have := gb_lt l 5; omega
  have b6 : 256 * gb l 6 + gb l 7 < 65536 := by have := gb_lt l 6; have := gb_lt l 7; omega
  have ha := and13 _ b6
  have hx1 := HR.out.byte 1 (by omega)
  have hx8 := HR.out.byte 8 (by omega)
  have hx9 := HR.out.byte 9 (by omega)
  simp only [gb_getD, add_lit _ 1 (by decide), add_lit _ 8 (by decide), add_lit _ 9 (by decide)] at hx1 hx8 hx9
  have hy1 := gb_lt l 1
  have hy8 := gb_lt l 8
  have hy9 := gb_lt l 9
  have hs1 := run_cut ad l.length c 12 16 12 4 rfl rfl (by omega) (by omega)
  have hs2 := run_cut ad l.length c 16 20 16 4 rfl rfl (by omega) (by omega)
  have ha1 := fun W => Ad.run_arrayAt (P := Try.prog) W 103 Try.underlying103 (some ⟨ad.block, ad.off + 12, none⟩) 4 (c - 12) (by decide)
  have ha2 := fun W => Ad.run_arrayAt (P := Try.prog) W 103 Try.underlying103 (some ⟨ad.block, ad.off + 16, none⟩) 4 (c - 16) (by decide)
  have HI : Hid ((Try.prog.info? 103).map (·.size) = some 4) := Lib.hid info4
  have L12 : Hid (((l.drop 12).take 4).length = 4) := Lib.hid (by simp; omega)
  have L16 : Hid (((l.drop 16).take 4).length = 4) := Lib.hid (by simp; omega)
  have P12 := Lib.hid (pad16_length _ L12.out)
  have P16 := Lib.hid (pad16_length _ L16.out)
  rw [hb]
  clear hb hs hg
  generalize siz4 l = sz at *
  generalize tot4 l = tt at *
  generalize 256 * gb l 4 + gb l 5 = idn at *
  generalize 256 * gb l 6 + gb l 7 = fr at *
  generalize gb l 1 = g1 at *
  generalize gb l 8 = g8 at *
  generalize gb l 9 = g9 at *
  have hfl : fr / 8192 < 8 := by omega
  have hfg : fr % 8192 < 8192 := Nat.mod_lt _ (by decide)
  have CH : Hid (Cells 31 (HV [4, (sz : Int), (tt : Int), (g1 : Int), (idn : Int), 0, 0, 0, 0] 0 (List.replicate 16 0) 0 (List.replicate 16 0))) := Lib.hid (cellsH _ _ _ _ _ rfl rfl rfl)
  go_enter Try.func31, Try.ntmps31
  go_wp2_with (first | refine m_rd ?_ | (refine m_wr ?_; clear HM HB; intro w b HM HB; try clear b) | (refine m_ap ?_; clear HM HB; intro w Aq cq HM HB) | fail)
  refine (HSD.out _ (HR.out.below HB)).mono ?_
  rintro e w ⟨rfl, hb⟩
  replace HM := Lib.hid (HM.out.call hb)
  replace HB := HM.out.below
  clear hb
  go_wp2_with (first | refine m_rd ?_ | (refine m_wr ?_; clear HM HB; intro w b HM HB; try clear b) | (refine m_ap ?_; clear HM HB; intro w Aq cq HM HB) | fail)
  refine (good_any _ _ [l.take sz] _ (HM.out.rbs1 (by ((repeat (first | exact List.Mem.head _ | apply List.Mem.tail)); done)) ((HR.out.below HB).front sz c (by omega) (by omega))) (by simp; omega)).mono ?_
  rintro e w' ⟨rfl, rfl⟩
  rw [HG.out]
  go_wp2_with (first | refine m_rd ?_ | (refine m_wr ?_; clear HM HB; intro w b HM HB; try clear b) | (refine m_ap ?_; clear HM HB; intro w Aq cq HM HB) | fail)
  try simp only [Act.put, List.setIfInBounds_toArray, List.set_cons_zero, List.set_cons_succ]
  refine wp_region_held_drew (S := fun w' => Below w0.heap.size w0 w') (by kernel_rfl) (below_drew HB) (fun hS => ?_)
  replace HM := Lib.hid HM.out.drew
  replace HB := HM.out.below
  refine tk 0 28 ?_
  refine tk 1 29 ?_
  refine tk 2 30 ?_
  refine tk 3 31 ?_
  refine tk 4 32 ?_
  refine tk 5 33 ?_
  refine tk 6 34 ?_
  refine wpAnyH_ready (rs := [7, 9]) (by kernel_rfl) (by simp) (AllReadyH.cons rfl (fun K' hK => ?_) (AllReadyH.cons rfl (fun K' hK => ?_) AllReadyH.nil))
  · go_simp
    refine (H4.out _ (HR.out.below HB) (by omega)).mono ?_
    rintro e w ⟨rfl, hb⟩
    replace HM := Lib.hid (HM.out.call hb)
    replace HB := HM.out.below
    clear hb
    refine hK.out _ _ (HB) (fun hS2 => ?_)
    clear hS hK
    have hS := hS2
    clear hS2
    try simp only [Act.put, List.setIfInBounds_toArray, List.set_cons_zero, List.set_cons_succ]
    refine tkv 8 36 _ rfl (yields_build rfl #[(0, .int .i64 4), (1, .int .i64 (sz : Int)), (2, .int .i64 (tt : Int)), (3, .int .i64 (g1 : Int)), (4, .int .i64 (idn : Int))] rfl (build5 _ _ _ _) (by kernel_rfl)) ?_
    refine rone 9 rfl fun K' hK => ?_
    apply s_allocC
    next => kernel_rfl
    next => exact rfl
    next => exact zeroH
    next => exact cellsZH
    next => exact HM
    clear HM HB
    intro w b HM HB
    refine hK.out _ _ (HB) (fun hS2 => ?_)
    clear hS hK
    have hS := hS2
    clear hS2
    try simp only [Act.put, List.setIfInBounds_toArray, List.set_cons_zero, List.set_cons_succ]
    refine rone 10 rfl fun K' hK => ?_
    apply s_storeC
    next => kernel_rfl
    next => exact rfl
    next => exact rfl
    next => exact rfl
    next => exact HM
    next => ((repeat (first | exact Upd.head _ | apply Upd.tail)); done)
    next => exact CH.out
    clear HM HB
    intro w HM HB
    refine hK.out _ _ (HB) (fun hS2 => ?_)
    clear hS hK
    have hS := hS2
    clear hS2
    try simp only [Act.put, List.setIfInBounds_toArray, List.set_cons_zero, List.set_cons_succ]
    refine wpAnyH_done (by kernel_rfl) ?_ _
    clear hS
    go_wp2_with (first | refine m_rd ?_ | (refine m_wr ?_; clear HM HB; intro w b HM HB; try clear b) | (refine m_ap ?_; clear HM HB; intro w Aq cq HM HB) | fail)
    refine (H6.out _ (HR.out.below HB) (by omega)).mono ?_
    rintro e w ⟨rfl, hb⟩
    replace HM := Lib.hid (HM.out.call hb)
    replace HB := HM.out.below
    clear hb
    go_wp2_with (first | refine m_rd ?_ | (refine m_wr ?_; clear HM HB; intro w b HM HB; try clear b) | (refine m_ap ?_; clear HM HB; intro w Aq cq HM HB) | fail)
    try simp only [Act.put, List.setIfInBounds_toArray, List.set_cons_zero, List.set_cons_succ]
    refine wp_region_held_drew (S := fun w' => Below w0.heap.size w0 w') (by kernel_rfl) (below_drew HB) (fun hS => ?_)
    replace HM := Lib.hid HM.out.drew
    replace HB := HM.out.below
    refine tk 0 45 ?_
    refine tk 1 46 ?_
    refine tk 2 47 ?_
    refine tk 3 48 ?_
    refine tk 4 49 ?_
    refine tk 5 50 ?_
    refine tk 6 51 ?_
    refine tk 7 52 ?_
    refine tk 8 53 ?_
    refine rone 9 rfl fun K' hK => ?_
    apply s_putI
    next => kernel_rfl
    next => exact rfl
    next => exact rfl
    next => exact rfl
    next => exact HM
    next => ((repeat (first | exact Upd.head _ | apply Upd.tail)); done)
    next => exact HV_num _ _ _ _ _ _ _ rfl
    next => exact HV_set1 _ _ _ _ _ _ _ rfl
    clear HM HB
    intro w HM HB
    refine hK.out _ _ (HB) (fun hS2 => ?_)
    clear hS hK
    have hS := hS2
    clear hS2
    try simp only [Act.put, List.setIfInBounds_toArray, List.set_cons_zero, List.set_cons_succ]
    refine tk 10 54 ?_
    refine rone 11 rfl fun K' hK => ?_
    apply s_putI
    next => kernel_rfl
    next => exact rfl
    next => exact rfl
    next => exact rfl
    next => exact HM
    next => ((repeat (first | exact Upd.head _ | apply Upd.tail)); done)
    next => exact HV_num _ _ _ _ _ _ _ rfl
    next => exact HV_set1 _ _ _ _ _ _ _ rfl
    clear HM HB
    intro w HM HB
    refine hK.out _ _ (HB) (fun hS2 => ?_)
    clear hS hK
    have hS := hS2
    clear hS2
    try simp only [Act.put, List.setIfInBounds_toArray, List.set_cons_zero, List.set_cons_succ]
    refine wpAnyH_done (by kernel_rfl) ?_ _
    clear hS
    go_wp2_with (first | refine m_rd ?_ | (refine m_wr ?_; clear HM HB; intro w b HM HB; try clear b) | (refine m_ap ?_; clear HM HB; intro w Aq cq HM HB) | fail)
    try simp only [Act.put, List.setIfInBounds_toArray, List.set_cons_zero, List.set_cons_succ]
    refine wp_region_held_drew (S := fun w' => Below w0.heap.size w0 w') (by kernel_rfl) (below_drew HB) (fun hS => ?_)
    replace HM := Lib.hid HM.out.drew
    replace HB := HM.out.below
    refine tk 0 55 ?_
    refine tk 1 56 ?_
    refine tk 2 57 ?_
    refine tkv 3 58 (.agg (encs B ((l.drop 12).take 4)).toArray) rfl (yields_arr rfl (ad := ad) (k := 12) rfl HR.out 4 (by decide) (by omega) Try.underlying103 HI.out _ (fun _ h => h) (by kernel_rfl)) ?_
    refine tk 5 60 ?_
    refine tk 6 61 ?_
    refine tk 7 62 ?_
    refine tkv 8 63 (.agg (encs B ((l.drop 16).take 4)).toArray) rfl (yields_arr rfl (ad := ad) (k := 16) rfl HR.out 4 (by decide) (by omega) Try.underlying103 HI.out _ (fun _ h => h) (by kernel_rfl)) ?_
    refine rone 4 rfl fun K' hK => ?_
    go_simp
    refine (four_any ((l.drop 12).take 4) _ L12.out).mono ?_
    rintro e w ⟨rfl, hb⟩
    replace HM := Lib.hid (HM.out.call hb)
    replace HB := HM.out.below
    clear hb
    refine hK.out _ _ (HB) (fun hS2 => ?_)
    clear hS hK
    have hS := hS2
    clear hS2
    try simp only [Act.put, List.setIfInBounds_toArray, List.set_cons_zero, List.set_cons_succ]
    refine tk 10 65 ?_
    refine rone 9 rfl fun K' hK => ?_
    go_simp
    refine (four_any ((l.drop 16).take 4) _ L16.out).mono ?_
    rintro e w ⟨rfl, hb⟩
    replace HM := Lib.hid (HM.out.call hb)
    replace HB := HM.out.below
    clear hb
    refine hK.out _ _ (HB) (fun hS2 => ?_)
    clear hS hK
    have hS := hS2
    clear hS2
    try simp only [Act.put, List.setIfInBounds_toArray, List.set_cons_zero, List.set_cons_succ]
    refine rone 11 rfl fun K' hK => ?_
    apply s_src
    next => kernel_rfl
    next => exact rfl
    next => exact rfl
    next => exact rfl
    next => exact HM
    next => ((repeat (first | exact Upd.head _ | apply Upd.tail)); done)
    next => exact rfl
    next => exact rfl
    next => exact rfl
    next => exact P12.out
    clear HM HB
    intro w HM HB
    refine hK.out _ _ (HB) (fun hS2 => ?_)
    clear hS hK
    have hS := hS2
    clear hS2
    try simp only [Act.put, List.setIfInBounds_toArray, List.set_cons_zero, List.set_cons_succ]
    refine tk 12 66 ?_
    refine rone 13 rfl fun K' hK => ?_
    apply s_dst
    next => kernel_rfl
    next => exact rfl
    next => exact rfl
    next => exact rfl
    next => exact HM
    next => ((repeat (first | exact Upd.head _ | apply Upd.tail)); done)
    next => exact rfl
    next => exact P12.out
    next => exact rfl
    next => exact P16.out
    clear HM HB
    intro w HM HB
    refine hK.out _ _ (HB) (fun hS2 => ?_)
    clear hS hK
    have hS := hS2
    clear hS2
    try simp only [Act.put, List.setIfInBounds_toArray, List.set_cons_zero, List.set_cons_succ]
    refine wpAnyH_done (by kernel_rfl) ?_ _
    clear hS
    have CH2 : Hid (Cells 31 (HV [4, (sz : Int), (tt : Int), (g1 : Int), (idn : Int), ((fr / 8192 : Nat) : Int), ((fr % 8192 : Nat) : Int), (g8 : Int), (g9 : Int)] 4 (pad16 ((l.drop 12).take 4)) 4 (pad16 ((l.drop 16).take 4)))) := Lib.hid (cellsH _ _ _ _ _ rfl P12.out P16.out)
    go_wp2_with (first | refine m_rd ?_ | (refine m_wr ?_; clear HM HB; intro w b HM HB; try clear b) | (refine m_ap ?_; clear HM HB; intro w Aq cq HM HB) | fail)
    apply m_ret_c1
    next => exact rfl
    next => exact rfl
    next => exact rfl
    next => exact HM
    next => ((repeat (first | exact List.Mem.head _ | apply List.Mem.tail)); done)
    next => exact Try.underlying31
    next => rfl
    refine ⟨?_, HB⟩
    rw [HF.out, HN.out]
    rfl
  · apply s_allocC
    next => kernel_rfl
    next => exact rfl
    next => exact zeroH
    next => exact cellsZH
    next => exact HM
    clear HM HB
    intro w b HM HB
    refine hK.out _ _ (HB) (fun hS2 => ?_)
    clear hS hK
    have hS := hS2
    clear hS2
    try simp only [Act.put, List.setIfInBounds_toArray, List.set_cons_zero, List.set_cons_succ]
    refine rone 7 rfl fun K' hK => ?_
    go_simp
    refine (H4.out _ (HR.out.below HB) (by omega)).mono ?_
    rintro e w ⟨rfl, hb⟩
    replace HM := Lib.hid (HM.out.call hb)
    replace HB := HM.out.below
    clear hb
    refine hK.out _ _ (HB) (fun hS2 => ?_)
    clear hS hK
    have hS := hS2
    clear hS2
    try simp only [Act.put, List.setIfInBounds_toArray, List.set_cons_zero, List.set_cons_succ]
    refine tkv 8 36 _ rfl (yields_build rfl #[(0, .int .i64 4), (1, .int .i64 (sz : Int)), (2, .int .i64 (tt : Int)), (3, .int .i64 (g1 : Int)), (4, .int .i64 (idn : Int))] rfl (build5 _ _ _ _) (by kernel_rfl)) ?_
    refine rone 10 rfl fun K' hK => ?_
    apply s_storeC
    next => kernel_rfl
    next => exact rfl
    next => exact rfl
    next => exact rfl
    next => exact HM
    next => ((repeat (first | exact Upd.head _ | apply Upd.tail)); done)
    next => exact CH.out
    clear HM HB
    intro w HM HB
    refine hK.out _ _ (HB) (fun hS2 => ?_)
    clear hS hK
    have hS := hS2
    clear hS2
    try simp only [Act.put, List.setIfInBounds_toArray, List.set_cons_zero, List.set_cons_succ]
    refine wpAnyH_done (by kernel_rfl) ?_ _
    clear hS
    go_wp2_with (first | refine m_rd ?_ | (refine m_wr ?_; clear HM HB; intro w b HM HB; try clear b) | (refine m_ap ?_; clear HM HB; intro w Aq cq HM HB) | fail)
    refine (H6.out _ (HR.out.below HB) (by omega)).mono ?_
    rintro e w ⟨rfl, hb⟩
    replace HM := Lib.hid (HM.out.call hb)
    replace HB := HM.out.below
    clear hb
    go_wp2_with (first | refine m_rd ?_ | (refine m_wr ?_; clear HM HB; intro w b HM HB; try clear b) | (refine m_ap ?_; clear HM HB; intro w Aq cq HM HB) | fail)
    try simp only [Act.put, List.setIfInBounds_toArray, List.set_cons_zero, List.set_cons_succ]
    refine wp_region_held_drew (S := fun w' => Below w0.heap.size w0 w') (by kernel_rfl) (below_drew HB) (fun hS => ?_)
    replace HM := Lib.hid HM.out.drew
    replace HB := HM.out.below
    refine tk 0 45 ?_
    refine tk 1 46 ?_
    refine tk 2 47 ?_
    refine tk 3 48 ?_
    refine tk 4 49 ?_
    refine tk 5 50 ?_
    refine tk 6 51 ?_
    refine tk 7 52 ?_
    refine tk 8 53 ?_
    refine rone 9 rfl fun K' hK => ?_
    apply s_putI
    next => kernel_rfl
    next => exact rfl
    next => exact rfl
    next => exact rfl
    next => exact HM
    next => ((repeat (first | exact Upd.head _ | apply Upd.tail)); done)
    next => exact HV_num _ _ _ _ _ _ _ rfl
    next => exact HV_set1 _ _ _ _ _ _ _ rfl
    clear HM HB
    intro w HM HB
    refine hK.out _ _ (HB) (fun hS2 => ?_)
    clear hS hK
    have hS := hS2
    clear hS2
    try simp only [Act.put, List.setIfInBounds_toArray, List.set_cons_zero, List.set_cons_succ]
    refine tk 10 54 ?_
    refine rone 11 rfl fun K' hK => ?_
    apply s_putI
    next => kernel_rfl
    next => exact rfl
    next => exact rfl
    next => exact rfl
    next => exact HM
    next => ((repeat (first | exact Upd.head _ | apply Upd.tail)); done)
    next => exact HV_num _ _ _ _ _ _ _ rfl
    next => exact HV_set1 _ _ _ _ _ _ _ rfl
    clear HM HB
    intro w HM HB
    refine hK.out _ _ (HB) (fun hS2 => ?_)
    clear hS hK
    have hS := hS2
    clear hS2
    try simp only [Act.put, List.setIfInBounds_toArray, List.set_cons_zero, List.set_cons_succ]
    refine wpAnyH_done (by kernel_rfl) ?_ _
    clear hS
    go_wp2_with (first | refine m_rd ?_ | (refine m_wr ?_; clear HM HB; intro w b HM HB; try clear b) | (refine m_ap ?_; clear HM HB; intro w Aq cq HM HB) | fail)
    try simp only [Act.put, List.setIfInBounds_toArray, List.set_cons_zero, List.set_cons_succ]
    refine wp_region_held_drew (S := fun w' => Below w0.heap.size w0 w') (by kernel_rfl) (below_drew HB) (fun hS => ?_)
    replace HM := Lib.hid HM.out.drew
    replace HB := HM.out.below
    refine tk 0 55 ?_
    refine tk 1 56 ?_
    refine tk 2 57 ?_
    refine tkv 3 58 (.agg (encs B ((l.drop 12).take 4)).toArray) rfl (yields_arr rfl (ad := ad) (k := 12) rfl HR.out 4 (by decide) (by omega) Try.underlying103 HI.out _ (fun _ h => h) (by kernel_rfl)) ?_
    refine tk 5 60 ?_
    refine tk 6 61 ?_
    refine tk 7 62 ?_
    refine tkv 8 63 (.agg (encs B ((l.drop 16).take 4)).toArray) rfl (yields_arr rfl (ad := ad) (k := 16) rfl HR.out 4 (by decide) (by omega) Try.underlying103 HI.out _ (fun _ h => h) (by kernel_rfl)) ?_
    refine rone 4 rfl fun K' hK => ?_
    go_simp
    refine (four_any ((l.drop 12).take 4) _ L12.out).mono ?_
    rintro e w ⟨rfl, hb⟩
    replace HM := Lib.hid (HM.out.call hb)
    replace HB := HM.out.below
    clear hb
    refine hK.out _ _ (HB) (fun hS2 => ?_)
    clear hS hK
    have hS := hS2
    clear hS2
    try simp only [Act.put, List.setIfInBounds_toArray, List.set_cons_zero, List.set_cons_succ]
    refine tk 10 65 ?_
    refine rone 9 rfl fun K' hK => ?_
    go_simp
    refine (four_any ((l.drop 16).take 4) _ L16.out).mono ?_
    rintro e w ⟨rfl, hb⟩
    replace HM := Lib.hid (HM.out.call hb)
    replace HB := HM.out.below
    clear hb
    refine hK.out _ _ (HB) (fun hS2 => ?_)
    clear hS hK
    have hS := hS2
    clear hS2
    try simp only [Act.put, List.setIfInBounds_toArray, List.set_cons_zero, List.set_cons_succ]
    refine rone 11 rfl fun K' hK => ?_
    apply s_src
    next => kernel_rfl
    next => exact rfl
    next => exact rfl
    next => exact rfl
    next => exact HM
    next => ((repeat (first | exact Upd.head _ | apply Upd.tail)); done)
    next => exact rfl
    next => exact rfl
    next => exact rfl
    next => exact P12.out
    clear HM HB
    intro w HM HB
    refine hK.out _ _ (HB) (fun hS2 => ?_)
    clear hS hK
    have hS := hS2
    clear hS2
    try simp only [Act.put, List.setIfInBounds_toArray, List.set_cons_zero, List.set_cons_succ]
    refine tk 12 66 ?_
    refine rone 13 rfl fun K' hK => ?_
    apply s_dst
    next => kernel_rfl
    next => exact rfl
    next => exact rfl
    next => exact rfl
    next => exact HM
    next => ((repeat (first | exact Upd.head _ | apply Upd.tail)); done)
    next => exact rfl
    next => exact P12.out
    next => exact rfl
    next => exact P16.out
    clear HM HB
    intro w HM HB
    refine hK.out _ _ (HB) (fun hS2 => ?_)
    clear hS hK
    have hS := hS2
    clear hS2
    try simp only [Act.put, List.setIfInBounds_toArray, List.set_cons_zero, List.set_cons_succ]
    refine wpAnyH_done (by kernel_rfl) ?_ _
    clear hS
    have CH2 : Hid (Cells 31 (HV [4, (sz : Int), (tt : Int), (g1 : Int), (idn : Int), ((fr / 8192 : Nat) : Int), ((fr % 8192 : Nat) : Int), (g8 : Int), (g9 : Int)] 4 (pad16 ((l.drop 12).take 4)) 4 (pad16 ((l.drop 16).take 4)))) := Lib.hid (cellsH _ _ _ _ _ rfl P12.out P16.out)
    go_wp2_with (first | refine m_rd ?_ | (refine m_wr ?_; clear HM HB; intro w b HM HB; try clear b) | (refine m_ap ?_; clear HM HB; intro w Aq cq HM HB) | fail)
    apply m_ret_c1
    next => exact rfl
    next => exact rfl
    next => exact rfl
    next => exact HM
    next => ((repeat (first | exact List.Mem.head _ | apply List.Mem.tail)); done)
    next => exact Try.underlying31
    next => rfl
    refine ⟨?_, HB⟩
    rw [HF.out, HN.out]
    rfl
end Go.Proofs.Ytahnibhcfdamdaa.Is
