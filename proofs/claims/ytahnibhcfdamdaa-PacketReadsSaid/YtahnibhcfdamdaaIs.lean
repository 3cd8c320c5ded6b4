/- Packages ipsix and its reference: the head of bytes. -/
import Derived.Test.YtahnibhcfdamdaaMn
import Derived.Test.YtahnibhcfdamdaaIp
set_option linter.unusedSimpArgs false
set_option linter.unusedVariables false
set_option maxRecDepth 100000
namespace Go.Proofs.Ytahnibhcfdamdaa.Is
open Go.RowKit Go.Proofs.YtahnibhcfdamdaaW.PrintWords Go.Proofs.Ytahnibhcfdamdaa.Bs Go.Proofs.Ytahnibhcfdamdaa.Av Go.Proofs.Ytahnibhcfdamdaa.Ad Go.Proofs.Ytahnibhcfdamdaa.Hd Go.Proofs.Ytahnibhcfdamdaa.Mm Go.Proofs.Ytahnibhcfdamdaa.Le Go.Proofs.Ytahnibhcfdamdaa.Ip Go.Proofs.Ytahnibhcfdamdaa.En

/-- The head of bytes, of family 6. -/
def head6 (l : List UInt8) : Array Value := if bad6 l = 0 then HV (ns6 l) 6 ((l.drop 8).take 16) 6 ((l.drop 24).take 16) else ZH
theorem mask_at (k : Nat) (m : Int) (hm : (maskN (k : Int) : Int) = m) (hk : k ≤ 64) (w : World) : Calls Try.prog 92 #[.int .i64 (k : Int)] w fun e w' => e = .returned (.int .u64 m) ∧ w = w' := by
  rw [← hm]; exact mask_any (k : Int) w (by omega) (by omega)
theorem and_low (x k : Nat) (hx : x < 18446744073709551616) (hk : 2 ^ k - 1 < 18446744073709551616) : Go.bits .and .u64 (x : Int) ((2 ^ k - 1 : Nat) : Int) = ((x % 2 ^ k : Nat) : Int) := by
  rw [u64_and_nat x (2 ^ k - 1) hx hk, Nat.and_two_pow_sub_one_eq_mod]
/-- The fields that a number of 64 bits has. -/
theorem fields6 (F : Nat) (hF : F < 18446744073709551616) : Go.bits .and .u64 ((F : Int) / 65536) 65535 = ((F / 65536 % 65536 : Nat) : Int) ∧ Go.bits .and .u64 ((F : Int) / 4503599627370496) 255 = ((F / 4503599627370496 % 256 : Nat) : Int) ∧
    Go.bits .and .u64 ((F : Int) / 4294967296) 1048575 = ((F / 4294967296 % 1048576 : Nat) : Int) ∧ Go.bits .and .u64 ((F : Int) / 256) 255 = ((F / 256 % 256 : Nat) : Int) ∧ Go.bits .and .u64 (F : Int) 255 = ((F % 256 : Nat) : Int) :=
  ⟨and_low (F / 65536) 16 (by omega) (by decide), and_low (F / 4503599627370496) 8 (by omega) (by decide), and_low (F / 4294967296) 20 (by omega) (by decide), and_low (F / 256) 8 (by omega) (by decide), and_low F 8 hF (by decide)⟩

set_option maxHeartbeats 1000000 in
theorem parse6_any (v : Value) (l : List UInt8) (w0 : World) (hr : RB w0 v l) :
    Calls Try.prog 26 #[v] w0 fun e w' => e = .returned (.tuple #[.agg (head6 l), .int .i64 (bad6 l : Nat)]) ∧ Below w0.heap.size w0 w' := by
  have hl := hr.len
  have HR := Lib.hid hr
  obtain ⟨A, c, rfl, hc, hrr⟩ := hr
  clear hrr
  have HM := Lib.hid (Mem.start w0)
  have HB := HM.out.below
  rcases bad6_cases l with ⟨h0, h1⟩ | ⟨h0, h1, h2⟩ | ⟨h0, h1, h2, h3⟩ | ⟨h0, h1, h2, h3⟩
  · have HF : Hid (head6 l = ZH) := Lib.hid (by unfold head6; rw [if_neg (by omega)])
    rw [h0, HF.out]
    clear h0
    go_enter Try.func26, Try.ntmps26
    go_wp2_with (first | refine m_rd ?_ | (refine m_wr ?_; clear HM HB; intro w b HM HB; try clear b) | (refine m_ap ?_; clear HM HB; intro w Aq cq HM HB) | fail)
    apply m_ret_c1
    next => exact rfl
    next => exact rfl
    next => exact rfl
    next => exact HM
    next => ((repeat (first | exact List.Mem.head _ | apply List.Mem.tail)); done)
    next => exact Try.underlying31
    next => rfl
    exact ⟨rfl, HB⟩
  all_goals
    obtain ⟨ad, rfl⟩ := HR.out.some (by omega)
    have hx0 := HR.out.byte 0 (by omega)
    simp only [gb_getD, Mm.add_zero] at hx0
    have hy0 := gb_lt l 0
  · have HF : Hid (head6 l = ZH) := Lib.hid (by unfold head6; rw [if_neg (by omega)])
    rw [h0, HF.out]
    clear h0
    have h2' : (((gb l 0 : Nat) : Int) / 16 != 6) = true := by simp; omega
    generalize gb l 0 = g0 at hx0 hy0 h2'
    clear h2
    go_enter Try.func26, Try.ntmps26
    go_wp2_with (first | refine m_rd ?_ | (refine m_wr ?_; clear HM HB; intro w b HM HB; try clear b) | (refine m_ap ?_; clear HM HB; intro w Aq cq HM HB) | fail)
    apply m_ret_c1
    next => exact rfl
    next => exact rfl
    next => exact rfl
    next => exact HM
    next => ((repeat (first | exact List.Mem.head _ | apply List.Mem.tail)); done)
    next => exact Try.underlying31
    next => rfl
    exact ⟨rfl, HB⟩
  · have HF : Hid (head6 l = ZH) := Lib.hid (by unfold head6; rw [if_neg (by omega)])
    rw [h0, HF.out]
    clear h0
    have h2' : (((gb l 0 : Nat) : Int) / 16 != 6) = false := by simp; omega
    have h8 := top8_lt l (by omega)
    obtain ⟨p1, p2, p3, p4, p5⟩ := top8_parts l (by omega)
    have HN : Hid (ns6 l = [6, 40, ((40 + (256 * gb l 4 + gb l 5) : Nat) : Int), ((16 * (gb l 0 % 16) + gb l 1 / 16 : Nat) : Int), ((65536 * (gb l 1 % 16) + 256 * gb l 2 + gb l 3 : Nat) : Int), 0, 0, (gb l 7 : Nat), (gb l 6 : Nat)]) := Lib.hid rfl
    unfold tot6 at h3
    rw [← p1, ← p2, ← p3, ← p4, ← p5] at HN
    rw [← p1] at h3
    obtain ⟨f1, f2, f3, f4, f5⟩ := fields6 (top8 l) h8
    have HT : Hid (ofLe (l.take 8).reverse = top8 l) := Lib.hid rfl
    clear p1 p2 p3 p4 p5 h2
    generalize top8 l = F at h8 h3 HN HT f1 f2 f3 f4 f5
    have b1 : F / 65536 % 65536 < 65536 := Nat.mod_lt _ (by decide)
    have b2 : F / 4503599627370496 % 256 < 256 := Nat.mod_lt _ (by decide)
    have b3 : F / 4294967296 % 1048576 < 1048576 := Nat.mod_lt _ (by decide)
    have b4 : F / 256 % 256 < 256 := Nat.mod_lt _ (by decide)
    have b5 : F % 256 < 256 := Nat.mod_lt _ (by decide)
    generalize F / 65536 % 65536 = n at h3 HN f1 b1
    generalize F / 4503599627370496 % 256 = cl at HN f2 b2
    generalize F / 4294967296 % 1048576 = idn at HN f3 b3
    generalize F / 256 % 256 = pr at HN f4 b4
    generalize F % 256 = tt at HN f5 b5
    generalize gb l 0 = g0 at hx0 hy0 h2'
    go_enter Try.func26, Try.ntmps26
    go_wp2_with (first | refine m_rd ?_ | (refine m_wr ?_; clear HM HB; intro w b HM HB; try clear b) | (refine m_ap ?_; clear HM HB; intro w Aq cq HM HB) | fail)
    refine (ofBig_any _ (l.take 8) _ ((HR.out.below HB).front 8 c (by omega) (by omega)) (by rw [List.length_take]; omega) (by rw [List.length_take]; omega)).mono ?_
    rintro e w' ⟨rfl, rfl⟩
    rw [HT.out]
    go_wp2_with (first | refine m_rd ?_ | (refine m_wr ?_; clear HM HB; intro w b HM HB; try clear b) | (refine m_ap ?_; clear HM HB; intro w Aq cq HM HB) | fail)
    refine (mask_at 16 65535 rfl (by decide) _).mono ?_
    rintro e w' ⟨rfl, rfl⟩
    go_wp2_with (first | refine m_rd ?_ | (refine m_wr ?_; clear HM HB; intro w b HM HB; try clear b) | (refine m_ap ?_; clear HM HB; intro w Aq cq HM HB) | fail)
    apply m_ret_c1
    next => exact rfl
    next => exact rfl
    next => exact rfl
    next => exact HM
    next => ((repeat (first | exact List.Mem.head _ | apply List.Mem.tail)); done)
    next => exact Try.underlying31
    next => rfl
    exact ⟨rfl, HB⟩
  · have HF : Hid (head6 l = HV (ns6 l) 6 ((l.drop 8).take 16) 6 ((l.drop 24).take 16)) := Lib.hid (by unfold head6; rw [if_pos h0])
    rw [h0]
    clear h0
    have h2' : (((gb l 0 : Nat) : Int) / 16 != 6) = false := by simp; omega
    have h8 := top8_lt l (by omega)
    obtain ⟨p1, p2, p3, p4, p5⟩ := top8_parts l (by omega)
    have HN : Hid (ns6 l = [6, 40, ((40 + (256 * gb l 4 + gb l 5) : Nat) : Int), ((16 * (gb l 0 % 16) + gb l 1 / 16 : Nat) : Int), ((65536 * (gb l 1 % 16) + 256 * gb l 2 + gb l 3 : Nat) : Int), 0, 0, (gb l 7 : Nat), (gb l 6 : Nat)]) := Lib.hid rfl
    unfold tot6 at h3
    rw [← p1, ← p2, ← p3, ← p4, ← p5] at HN
    rw [← p1] at h3
    obtain ⟨f1, f2, f3, f4, f5⟩ := fields6 (top8 l) h8
    have HT : Hid (ofLe (l.take 8).reverse = top8 l) := Lib.hid rfl
    clear p1 p2 p3 p4 p5 h2
    generalize top8 l = F at h8 h3 HN HT f1 f2 f3 f4 f5
    have b1 : F / 65536 % 65536 < 65536 := Nat.mod_lt _ (by decide)
    have b2 : F / 4503599627370496 % 256 < 256 := Nat.mod_lt _ (by decide)
    have b3 : F / 4294967296 % 1048576 < 1048576 := Nat.mod_lt _ (by decide)
    have b4 : F / 256 % 256 < 256 := Nat.mod_lt _ (by decide)
    have b5 : F % 256 < 256 := Nat.mod_lt _ (by decide)
    generalize F / 65536 % 65536 = n at h3 HN f1 b1
    generalize F / 4503599627370496 % 256 = cl at HN f2 b2
    generalize F / 4294967296 % 1048576 = idn at HN f3 b3
    generalize F / 256 % 256 = pr at HN f4 b4
    generalize F % 256 = tt at HN f5 b5
    generalize gb l 0 = g0 at hx0 hy0 h2'
    have BH : Hid (∀ W : World, (Instr.build 31 #[(0, .int .i64 6), (1, .int .i64 40), (2, .int .i64 (40 + (n : Int)))]).run Try.prog W = .ok (.agg (HV [6, 40, 40 + (n : Int), 0, 0, 0, 0, 0, 0] 0 (List.replicate 16 0) 0 (List.replicate 16 0))) W) := Lib.hid (fun W => by kernel_rfl)
    have CH : Hid (Cells 31 (HV [6, 40, 40 + (n : Int), 0, 0, 0, 0, 0, 0] 0 (List.replicate 16 0) 0 (List.replicate 16 0))) := Lib.hid (cellsH _ _ _ _ _ rfl rfl rfl)
    have hs1 := run_cut ad l.length c 8 24 8 16 rfl rfl (by omega) (by omega)
    have hs2 := run_cut ad l.length c 24 40 24 16 rfl rfl (by omega) (by omega)
    have ha1 := fun W => Ad.run_arrayAt (P := Try.prog) W 23 Try.underlying23 (some ⟨ad.block, ad.off + 8, none⟩) 16 (c - 8) (by decide)
    have ha2 := fun W => Ad.run_arrayAt (P := Try.prog) W 23 Try.underlying23 (some ⟨ad.block, ad.off + 24, none⟩) 16 (c - 24) (by decide)
    have HI : Hid ((Try.prog.info? 23).map (·.size) = some 16) := Lib.hid info16
    have L8 : Hid (((l.drop 8).take 16).length = 16) := Lib.hid (by simp; omega)
    have L24 : Hid (((l.drop 24).take 16).length = 16) := Lib.hid (by simp; omega)
    go_enter Try.func26, Try.ntmps26
    go_wp2_with (first | refine m_rd ?_ | (refine m_wr ?_; clear HM HB; intro w b HM HB; try clear b) | (refine m_ap ?_; clear HM HB; intro w Aq cq HM HB) | fail)
    refine (ofBig_any _ (l.take 8) _ ((HR.out.below HB).front 8 c (by omega) (by omega)) (by rw [List.length_take]; omega) (by rw [List.length_take]; omega)).mono ?_
    rintro e w' ⟨rfl, rfl⟩
    rw [HT.out]
    go_wp2_with (first | refine m_rd ?_ | (refine m_wr ?_; clear HM HB; intro w b HM HB; try clear b) | (refine m_ap ?_; clear HM HB; intro w Aq cq HM HB) | fail)
    refine (mask_at 16 65535 rfl (by decide) _).mono ?_
    rintro e w' ⟨rfl, rfl⟩
    go_wp2_with (first | ((with_reducible refine step_buildG rfl 31 _ rfl #[(0, .int .i64 6), (1, .int .i64 40), (2, .int .i64 (40 + (n : Int)))] ?_ (HV [6, 40, 40 + (n : Int), 0, 0, 0, 0, 0, 0] 0 (List.replicate 16 0) 0 (List.replicate 16 0)) BH.out ?_); (next => exact rfl)) | refine m_rd ?_ | (refine m_wr ?_; clear HM HB; intro w b HM HB; try clear b) | (refine m_ap ?_; clear HM HB; intro w Aq cq HM HB) | fail)
    refine (mask_at 8 255 rfl (by decide) _).mono ?_
    rintro e w' ⟨rfl, rfl⟩
    go_wp2_with (first | refine m_rd ?_ | (refine m_wr ?_; clear HM HB; intro w b HM HB; try clear b) | (refine m_ap ?_; clear HM HB; intro w Aq cq HM HB) | fail)
    refine (mask_at 20 1048575 rfl (by decide) _).mono ?_
    rintro e w' ⟨rfl, rfl⟩
    go_wp2_with (first | refine m_rd ?_ | (refine m_wr ?_; clear HM HB; intro w b HM HB; try clear b) | (refine m_ap ?_; clear HM HB; intro w Aq cq HM HB) | fail)
    refine (mask_at 8 255 rfl (by decide) _).mono ?_
    rintro e w' ⟨rfl, rfl⟩
    go_wp2_with (first | refine m_rd ?_ | (refine m_wr ?_; clear HM HB; intro w b HM HB; try clear b) | (refine m_ap ?_; clear HM HB; intro w Aq cq HM HB) | fail)
    refine (mask_at 8 255 rfl (by decide) _).mono ?_
    rintro e w' ⟨rfl, rfl⟩
    go_wp2_with (first | refine m_rd ?_ | (refine m_wr ?_; clear HM HB; intro w b HM HB; try clear b) | (refine m_ap ?_; clear HM HB; intro w Aq cq HM HB) | fail)
    try simp only [Act.put, List.setIfInBounds_toArray, List.set_cons_zero, List.set_cons_succ]
    refine wp_region_held_drew (S := fun w' => Below w0.heap.size w0 w') (by kernel_rfl) (below_drew HB) (fun hS => ?_)
    replace HM := Lib.hid HM.out.drew
    replace HB := HM.out.below
    refine tk 0 63 ?_
    refine tk 1 64 ?_
    refine tk 2 65 ?_
    refine tkv 3 66 (.agg (encs B ((l.drop 8).take 16)).toArray) rfl (yields_arr rfl (ad := ad) (k := 8) rfl HR.out 16 (by decide) (by omega) Try.underlying23 HI.out _ (fun _ h => h) (by kernel_rfl)) ?_
    refine tk 5 68 ?_
    refine tk 6 69 ?_
    refine tk 7 70 ?_
    refine tkv 8 71 (.agg (encs B ((l.drop 24).take 16)).toArray) rfl (yields_arr rfl (ad := ad) (k := 24) rfl HR.out 16 (by decide) (by omega) Try.underlying23 HI.out _ (fun _ h => h) (by kernel_rfl)) ?_
    refine rone 4 rfl fun K' hK => ?_
    go_simp
    refine (six_any ((l.drop 8).take 16) _ L8.out).mono ?_
    rintro e w ⟨rfl, hb⟩
    replace HM := Lib.hid (HM.out.call hb)
    replace HB := HM.out.below
    clear hb
    refine hK.out _ _ (HB) (fun hS2 => ?_)
    clear hS hK
    have hS := hS2
    clear hS2
    try simp only [Act.put, List.setIfInBounds_toArray, List.set_cons_zero, List.set_cons_succ]
    refine tk 10 73 ?_
    refine rone 9 rfl fun K' hK => ?_
    go_simp
    refine (six_any ((l.drop 24).take 16) _ L24.out).mono ?_
    rintro e w ⟨rfl, hb⟩
    replace HM := Lib.hid (HM.out.call hb)
    replace HB := HM.out.below
    clear hb
    refine hK.out _ _ (HB) (fun hS2 => ?_)
    clear hS hK
    have hS := hS2
    clear hS2
    try simp only [Act.put, List.setIfInBounds_toArray, List.set_cons_zero, List.set_cons_succ]
    refine rone 11 rfl fun K' hK => ?_
    apply s_src
    next => kernel_rfl
    next => exact rfl
    next => exact rfl
    next => exact rfl
    next => exact HM
    next => ((repeat (first | exact Upd.head _ | apply Upd.tail)); done)
    next => exact rfl
    next => exact rfl
    next => exact rfl
    next => exact L8.out
    clear HM HB
    intro w HM HB
    refine hK.out _ _ (HB) (fun hS2 => ?_)
    clear hS hK
    have hS := hS2
    clear hS2
    try simp only [Act.put, List.setIfInBounds_toArray, List.set_cons_zero, List.set_cons_succ]
    refine tk 12 74 ?_
    refine rone 13 rfl fun K' hK => ?_
    apply s_dst
    next => kernel_rfl
    next => exact rfl
    next => exact rfl
    next => exact rfl
    next => exact HM
    next => ((repeat (first | exact Upd.head _ | apply Upd.tail)); done)
    next => exact rfl
    next => exact L8.out
    next => exact rfl
    next => exact L24.out
    clear HM HB
    intro w HM HB
    refine hK.out _ _ (HB) (fun hS2 => ?_)
    clear hS hK
    have hS := hS2
    clear hS2
    try simp only [Act.put, List.setIfInBounds_toArray, List.set_cons_zero, List.set_cons_succ]
    refine wpAnyH_done (by kernel_rfl) ?_ _
    clear hS
    have CH2 : Hid (Cells 31 (HV [6, 40, 40 + (n : Int), cl, idn, 0, 0, tt, pr] 6 ((l.drop 8).take 16) 6 ((l.drop 24).take 16))) := Lib.hid (cellsH _ _ _ _ _ rfl L8.out L24.out)
    go_wp2_with (first | refine m_rd ?_ | (refine m_wr ?_; clear HM HB; intro w b HM HB; try clear b) | (refine m_ap ?_; clear HM HB; intro w Aq cq HM HB) | fail)
    apply m_ret_c1
    next => exact rfl
    next => exact rfl
    next => exact rfl
    next => exact HM
    next => ((repeat (first | exact List.Mem.head _ | apply List.Mem.tail)); done)
    next => exact Try.underlying31
    next => rfl
    refine ⟨?_, HB⟩
    rw [HF.out, HN.out]
    rfl
end Go.Proofs.Ytahnibhcfdamdaa.Is
