/- Packages ipsix and its reference: the head of bytes. The reference's head of bytes, of family 6. Packages ipsix and its reference: the packet of a head and a body. Addresses of family 6: plain facts. Heads of family 6: their cells, and compared with themselves. Package ipsix: the packet of a right head and a body. -/
import Derived.Test.YtkfjobanbnokoaaZb
import Derived.Test.YtkfjobanbnokoaaZa
set_option linter.unusedSimpArgs false
set_option linter.unusedVariables false
set_option maxRecDepth 100000
namespace Go.Proofs.Ytkfjobanbnokoaa.Is
open Go.RowKit Go.Proofs.YtkfjobanbnokoaaW.PrintWords Go.Proofs.Ytkfjobanbnokoaa.Bs Go.Proofs.Ytkfjobanbnokoaa.Av Go.Proofs.Ytkfjobanbnokoaa.Ad Go.Proofs.Ytkfjobanbnokoaa.Hd Go.Proofs.Ytkfjobanbnokoaa.Mm Go.Proofs.Ytkfjobanbnokoaa.Le Go.Proofs.Ytkfjobanbnokoaa.Ip Go.Proofs.Ytkfjobanbnokoaa.En

/-- The head of bytes, of family 6. -/
def head6 (l : List UInt8) : Array Value := if bad6 l = 0 then HV (ns6 l) 6 ((l.drop 8).take 16) 6 ((l.drop 24).take 16) else ZH
theorem mask_at (k : Nat) (m : Int) (hm : (maskN (k : Int) : Int) = m) (hk : k ≤ 64) (w : World) : Calls Try.prog 68 #[.int .i64 (k : Int)] w fun e w' => e = .returned (.int .u64 m) ∧ w = w' := by
  rw [← hm]; exact mask_any (k : Int) w (by omega) (by omega)
theorem and_low (x k : Nat) (hx : x < 18446744073709551616) (hk : 2 ^ k - 1 < 18446744073709551616) : Go.bits .and .u64 (x : Int) ((2 ^ k - 1 : Nat) : Int) = ((x % 2 ^ k : Nat) : Int) := by
  rw [u64_and_nat x (2 ^ k - 1) hx hk, Nat.and_two_pow_sub_one_eq_mod]
/-- The fields that a number of 64 bits has. -/
theorem fields6 (F : Nat) (hF : F < 18446744073709551616) : Go.bits .and .u64 ((F : Int) / 65536) 65535 = ((F / 65536 % 65536 : Nat) : Int) ∧ Go.bits .and .u64 ((F : Int) / 4503599627370496) 255 = ((F / 4503599627370496 % 256 : Nat) : Int) ∧
    Go.bits .and .u64 ((F : Int) / 4294967296) 1048575 = ((F / 4294967296 % 1048576 : Nat) : Int) ∧ Go.bits .and .u64 ((F : Int) / 256) 255 = ((F / 256 % 256 : Nat) : Int) ∧ Go.bits .and .u64 (F : Int) 255 = ((F % 256 : Nat) : Int) :=
  ⟨and_low (F / 65536) 16 (by omega) (by decide), and_low (F / 4503599627370496) 8 (by omega) (by decide), and_low (F / 4294967296) 20 (by omega) (by decide), and_low (F / 256) 8 (by omega) (by decide), and_low F 8 hF (by decide)⟩

set_option maxHeartbeats 1000000 in
theorem parse6_any (v : Value) (l : List UInt8) (w0 : World) (hr : RB w0 v l) :
    Calls Try.prog 49 #[v] w0 fun e w' => e = .returned (.tuple #[.agg (head6 l), .int .i64 (bad6 l : Nat)]) ∧ Below w0.heap.size w0 w' := by
  have hl := hr.len
  have HR := Lib.hid hr
  obtain ⟨A, c, rfl, hc, hrr⟩ := hr
  clear hrr
  have HM := Lib.hid (Mem.start w0)
  have HB := HM.out.below
  rcases bad6_cases l with ⟨h0, h1⟩ | ⟨h0, h1, h2⟩ | ⟨h0, h1, h2, h3⟩ | ⟨h0, h1, h2, h3⟩
  · have HF : Hid (head6 l = ZH) := Lib.hid (by unfold head6; rw [if_neg (by omega)])
    rw [h0, HF.out]
    clear h0
    go_enter Try.func49, Try.ntmps49
    go_wp2_with (first | refine m_rd ?_ | (refine m_wr ?_; clear HM HB; intro w b HM HB; try clear b) | (refine m_ap ?_; clear HM HB; intro w Aq cq HM HB) | fail)
    apply m_ret_c1
    next => exact rfl
    next => exact rfl
    next => exact rfl
    next => exact HM
    next => (first | ((repeat (first | with_reducible exact List.Mem.head _ | with_reducible apply List.Mem.tail)); done) | ((repeat (first | exact List.Mem.head _ | apply List.Mem.tail)); done))
    next => exact Try.underlying67
    next => rfl
    exact ⟨rfl, HB⟩
  all_goals
    obtain ⟨ad, rfl⟩ := HR.out.some (by omega)
    have hx0 := HR.out.byte 0 (by omega)
    simp only [gb_getD, Mm.add_zero] at hx0
    have hy0 := gb_lt l 0
  · have HF : Hid (head6 l = ZH) := Lib.hid (by unfold head6; rw [if_neg (by omega)])
    rw [h0, HF.out]
    clear h0
    have h2' : (((gb l 0 : Nat) : Int) / 16 != 6) = true := by simp; omega
    generalize gb l 0 = g0 at hx0 hy0 h2'
    clear h2
    go_enter Try.func49, Try.ntmps49
    go_wp2_with (first | refine m_rd ?_ | (refine m_wr ?_; clear HM HB; intro w b HM HB; try clear b) | (refine m_ap ?_; clear HM HB; intro w Aq cq HM HB) | fail)
    apply m_ret_c1
    next => exact rfl
    next => exact rfl
    next => exact rfl
    next => exact HM
    next => (first | ((repeat (first | with_reducible exact List.Mem.head _ | with_reducible apply List.Mem.tail)); done) | ((repeat (first | exact List.Mem.head _ | apply List.Mem.tail)); done))
    next => exact Try.underlying67
    next => rfl
    exact ⟨rfl, HB⟩
  · have HF : Hid (head6 l = ZH) := Lib.hid (by unfold head6; rw [if_neg (by omega)])
    rw [h0, HF.out]
    clear h0
    have h2' : (((gb l 0 : Nat) : Int) / 16 != 6) = false := by simp; omega
    have h8 := top8_lt l (by omega)
    obtain ⟨p1, p2, p3, p4, p5⟩ := top8_parts l (by omega)
    have HN : Hid (ns6 l = [6, 40, ((40 + (256 * gb l 4 + gb l 5) : Nat) : Int), ((16 * (gb l 0 % 16) + gb l 1 / 16 : Nat) : Int), ((65536 * (gb l 1 % 16) + 256 * gb l 2 + gb l 3 : Nat) : Int), 0, 0, (gb l 7 : Nat), (gb l 6 : Nat)]) := Lib.hid rfl
    unfold tot6 at h3
    rw [← p1, ← p2, ← p3, ← p4, ← p5] at HN
    rw [← p1] at h3
    obtain ⟨f1, f2, f3, f4, f5⟩ := fields6 (top8 l) h8
    have HT : Hid (ofLe (l.take 8).reverse = top8 l) := Lib.hid rfl
    clear p1 p2 p3 p4 p5 h2
    generalize top8 l = F at h8 h3 HN HT f1 f2 f3 f4 f5
    have b1 : F / 65536 % 65536 < 65536 := Nat.mod_lt _ (by decide)
    have b2 : F / 4503599627370496 % 256 < 256 := Nat.mod_lt _ (by decide)
    have b3 : F / 4294967296 % 1048576 < 1048576 := Nat.mod_lt _ (by decide)
    have b4 : F / 256 % 256 < 256 := Nat.mod_lt _ (by decide)
    have b5 : F % 256 < 256 := Nat.mod_lt _ (by decide)
    generalize F / 65536 % 65536 = n at h3 HN f1 b1
    generalize F / 4503599627370496 % 256 = cl at HN f2 b2
    generalize F / 4294967296 % 1048576 = idn at HN f3 b3
    generalize F / 256 % 256 = pr at HN f4 b4
    generalize F % 256 = tt at HN f5 b5
    generalize gb l 0 = g0 at hx0 hy0 h2'
    go_enter Try.func49, Try.ntmps49
    go_wp2_with (first | refine m_rd ?_ | (refine m_wr ?_; clear HM HB; intro w b HM HB; try clear b) | (refine m_ap ?_; clear HM HB; intro w Aq cq HM HB) | fail)
    refine (ofBig_any _ (l.take 8) _ ((HR.out.below HB).front 8 c (by omega) (by omega)) (by rw [List.length_take]; omega) (by rw [List.length_take]; omega)).mono ?_
    rintro e w' ⟨rfl, rfl⟩
    rw [HT.out]
    go_wp2_with (first | refine m_rd ?_ | (refine m_wr ?_; clear HM HB; intro w b HM HB; try clear b) | (refine m_ap ?_; clear HM HB; intro w Aq cq HM HB) | fail)
    refine (mask_at 16 65535 rfl (by decide) _).mono ?_
    rintro e w' ⟨rfl, rfl⟩
    go_wp2_with (first | refine m_rd ?_ | (refine m_wr ?_; clear HM HB; intro w b HM HB; try clear b) | (refine m_ap ?_; clear HM HB; intro w Aq cq HM HB) | fail)
    apply m_ret_c1
    next => exact rfl
    next => exact rfl
    next => exact rfl
    next => exact HM
    next => (first | ((repeat (first | with_reducible exact List.Mem.head _ | with_reducible apply List.Mem.tail)); done) | ((repeat (first | exact List.Mem.head _ | apply List.Mem.tail)); done))
    next => exact Try.underlying67
    next => rfl
    exact ⟨rfl, HB⟩
  · have HF : Hid (head6 l = HV (ns6 l) 6 ((l.drop 8).take 16) 6 ((l.drop 24).take 16)) := Lib.hid (by unfold head6; rw [if_pos h0])
    rw [h0]
    clear h0
    have h2' : (((gb l 0 : Nat) : Int) / 16 != 6) = false := by simp; omega
    have h8 := top8_lt l (by omega)
    obtain ⟨p1, p2, p3, p4, p5⟩ := top8_parts l (by omega)
    have HN : Hid (ns6 l = [6, 40, ((40 + (256 * gb l 4 + gb l 5) : Nat) : Int), ((16 * (gb l 0 % 16) + gb l 1 / 16 : Nat) : Int), ((65536 * (gb l 1 % 16) + 256 * gb l 2 + gb l 3 : Nat) : Int), 0, 0, (gb l 7 : Nat), (gb l 6 : Nat)]) := Lib.hid rfl
    unfold tot6 at h3
    rw [← p1, ← p2, ← p3, ← p4, ← p5] at HN
    rw [← p1] at h3
    obtain ⟨f1, f2, f3, f4, f5⟩ := fields6 (top8 l) h8
    have HT : Hid (ofLe (l.take 8).reverse = top8 l) := Lib.hid rfl
    clear p1 p2 p3 p4 p5 h2
    generalize top8 l = F at h8 h3 HN HT f1 f2 f3 f4 f5
    have b1 : F / 65536 % 65536 < 65536 := Nat.mod_lt _ (by decide)
    have b2 : F / 4503599627370496 % 256 < 256 := Nat.mod_lt _ (by decide)
    have b3 : F / 4294967296 % 1048576 < 1048576 := Nat.mod_lt _ (by decide)
    have b4 : F / 256 % 256 < 256 := Nat.mod_lt _ (by decide)
    have b5 : F % 256 < 256 := Nat.mod_lt _ (by decide)
    generalize F / 65536 % 65536 = n at h3 HN f1 b1
    generalize F / 4503599627370496 % 256 = cl at HN f2 b2
    generalize F / 4294967296 % 1048576 = idn at HN f3 b3
    generalize F / 256 % 256 = pr at HN f4 b4
    generalize F % 256 = tt at HN f5 b5
    generalize gb l 0 = g0 at hx0 hy0 h2'
    have BH : Hid (∀ W : World, (Instr.build 67 #[(0, .int .i64 6), (1, .int .i64 40), (2, .int .i64 (40 + (n : Int)))]).run Try.prog W = .ok (.agg (HV [6, 40, 40 + (n : Int), 0, 0, 0, 0, 0, 0] 0 (List.replicate 16 0) 0 (List.replicate 16 0))) W) := Lib.hid (fun W => by kernel_rfl)
    have CH : Hid (Cells 67 (HV [6, 40, 40 + (n : Int), 0, 0, 0, 0, 0, 0] 0 (List.replicate 16 0) 0 (List.replicate 16 0))) := Lib.hid (cellsH _ _ _ _ _ rfl rfl rfl)
    have hs1 := run_cut ad l.length c 8 24 8 16 rfl rfl (by omega) (by omega)
    have hs2 := run_cut ad l.length c 24 40 24 16 rfl rfl (by omega) (by omega)
    have ha1 := fun W => Ad.run_arrayAt (P := Try.prog) W 24 Try.underlying24 (some ⟨ad.block, ad.off + 8, none⟩) 16 (c - 8) (by decide)
    have ha2 := fun W => Ad.run_arrayAt (P := Try.prog) W 24 Try.underlying24 (some ⟨ad.block, ad.off + 24, none⟩) 16 (c - 24) (by decide)
    have HI : Hid ((Try.prog.info? 24).map (·.size) = some 16) := Lib.hid info16
    have L8 : Hid (((l.drop 8).take 16).length = 16) := Lib.hid (by simp; omega)
    have L24 : Hid (((l.drop 24).take 16).length = 16) := Lib.hid (by simp; omega)
    go_enter Try.func49, Try.ntmps49
    go_wp2_with (first | refine m_rd ?_ | (refine m_wr ?_; clear HM HB; intro w b HM HB; try clear b) | (refine m_ap ?_; clear HM HB; intro w Aq cq HM HB) | fail)
    refine (ofBig_any _ (l.take 8) _ ((HR.out.below HB).front 8 c (by omega) (by omega)) (by rw [List.length_take]; omega) (by rw [List.length_take]; omega)).mono ?_
    rintro e w' ⟨rfl, rfl⟩
    rw [HT.out]
    go_wp2_with (first | refine m_rd ?_ | (refine m_wr ?_; clear HM HB; intro w b HM HB; try clear b) | (refine m_ap ?_; clear HM HB; intro w Aq cq HM HB) | fail)
    refine (mask_at 16 65535 rfl (by decide) _).mono ?_
    rintro e w' ⟨rfl, rfl⟩
    go_wp2_with (first | ((with_reducible refine step_buildG rfl 67 _ rfl #[(0, .int .i64 6), (1, .int .i64 40), (2, .int .i64 (40 + (n : Int)))] ?_ (HV [6, 40, 40 + (n : Int), 0, 0, 0, 0, 0, 0] 0 (List.replicate 16 0) 0 (List.replicate 16 0)) BH.out ?_); (next => exact rfl)) | refine m_rd ?_ | (refine m_wr ?_; clear HM HB; intro w b HM HB; try clear b) | (refine m_ap ?_; clear HM HB; intro w Aq cq HM HB) | fail)
    refine (mask_at 8 255 rfl (by decide) _).mono ?_
    rintro e w' ⟨rfl, rfl⟩
    go_wp2_with (first | refine m_rd ?_ | (refine m_wr ?_; clear HM HB; intro w b HM HB; try clear b) | (refine m_ap ?_; clear HM HB; intro w Aq cq HM HB) | fail)
    refine (mask_at 20 1048575 rfl (by decide) _).mono ?_
    rintro e w' ⟨rfl, rfl⟩
    go_wp2_with (first | refine m_rd ?_ | (refine m_wr ?_; clear HM HB; intro w b HM HB; try clear b) | (refine m_ap ?_; clear HM HB; intro w Aq cq HM HB) | fail)
    refine (mask_at 8 255 rfl (by decide) _).mono ?_
    rintro e w' ⟨rfl, rfl⟩
    go_wp2_with (first | refine m_rd ?_ | (refine m_wr ?_; clear HM HB; intro w b HM HB; try clear b) | (refine m_ap ?_; clear HM HB; intro w Aq cq HM HB) | fail)
    refine (mask_at 8 255 rfl (by decide) _).mono ?_
    rintro e w' ⟨rfl, rfl⟩
    go_wp2_with (first | refine m_rd ?_ | (refine m_wr ?_; clear HM HB; intro w b HM HB; try clear b) | (refine m_ap ?_; clear HM HB; intro w Aq cq HM HB) | fail)
    try simp only [Act.put, List.setIfInBounds_toArray, List.set_cons_zero, List.set_cons_succ]
    refine wp_region_held_drew (S := fun w' => Below w0.heap.size w0 w') (by kernel_rfl) (below_drew HB) (fun hS => ?_)
    replace HM := Lib.hid HM.out.drew
    replace HB := HM.out.below
    refine tk 0 63 ?_
    refine tk 1 64 ?_
    refine tk 2 65 ?_
    refine tkv 3 66 (.agg (encs B ((l.drop 8).take 16)).toArray) rfl (yields_arr rfl (ad := ad) (k := 8) rfl HR.out 16 (by decide) (by omega) Try.underlying24 HI.out _ (fun _ h => h) (by kernel_rfl)) ?_
    refine tk 5 68 ?_
    refine tk 6 69 ?_
    refine tk 7 70 ?_
    refine tkv 8 71 (.agg (encs B ((l.drop 24).take 16)).toArray) rfl (yields_arr rfl (ad := ad) (k := 24) rfl HR.out 16 (by decide) (by omega) Try.underlying24 HI.out _ (fun _ h => h) (by kernel_rfl)) ?_
    refine rone 4 rfl fun K' hK => ?_
    go_simp
    refine (six_any ((l.drop 8).take 16) _ L8.out).mono ?_
    rintro e w ⟨rfl, hb⟩
    replace HM := Lib.hid (HM.out.call hb)
    replace HB := HM.out.below
    clear hb
    refine hK.out _ _ (HB) (fun hS2 => ?_)
    clear hS hK
    have hS := hS2
    clear hS2
    try simp only [Act.put, List.setIfInBounds_toArray, List.set_cons_zero, List.set_cons_succ]
    refine tk 10 73 ?_
    refine rone 9 rfl fun K' hK => ?_
    go_simp
    refine (six_any ((l.drop 24).take 16) _ L24.out).mono ?_
    rintro e w ⟨rfl, hb⟩
    replace HM := Lib.hid (HM.out.call hb)
    replace HB := HM.out.below
    clear hb
    refine hK.out _ _ (HB) (fun hS2 => ?_)
    clear hS hK
    have hS := hS2
    clear hS2
    try simp only [Act.put, List.setIfInBounds_toArray, List.set_cons_zero, List.set_cons_succ]
    refine rone 11 rfl fun K' hK => ?_
    apply s_src
    next => kernel_rfl
    next => exact rfl
    next => exact rfl
    next => exact rfl
    next => exact HM
    next => (first | ((repeat (first | with_reducible exact Upd.head _ | with_reducible apply Upd.tail)); done) | ((repeat (first | exact Upd.head _ | apply Upd.tail)); done))
    next => exact rfl
    next => exact rfl
    next => exact rfl
    next => exact L8.out
    clear HM HB
    intro w HM HB
    refine hK.out _ _ (HB) (fun hS2 => ?_)
    clear hS hK
    have hS := hS2
    clear hS2
    try simp only [Act.put, List.setIfInBounds_toArray, List.set_cons_zero, List.set_cons_succ]
    refine tk 12 74 ?_
    refine rone 13 rfl fun K' hK => ?_
    apply s_dst
    next => kernel_rfl
    next => exact rfl
    next => exact rfl
    next => exact rfl
    next => exact HM
    next => (first | ((repeat (first | with_reducible exact Upd.head _ | with_reducible apply Upd.tail)); done) | ((repeat (first | exact Upd.head _ | apply Upd.tail)); done))
    next => exact rfl
    next => exact L8.out
    next => exact rfl
    next => exact L24.out
    clear HM HB
    intro w HM HB
    refine hK.out _ _ (HB) (fun hS2 => ?_)
    clear hS hK
    have hS := hS2
    clear hS2
    try simp only [Act.put, List.setIfInBounds_toArray, List.set_cons_zero, List.set_cons_succ]
    refine wpAnyH_done (by kernel_rfl) ?_ _
    clear hS
    have CH2 : Hid (Cells 67 (HV [6, 40, 40 + (n : Int), cl, idn, 0, 0, tt, pr] 6 ((l.drop 8).take 16) 6 ((l.drop 24).take 16))) := Lib.hid (cellsH _ _ _ _ _ rfl L8.out L24.out)
    go_wp2_with (first | refine m_rd ?_ | (refine m_wr ?_; clear HM HB; intro w b HM HB; try clear b) | (refine m_ap ?_; clear HM HB; intro w Aq cq HM HB) | fail)
    apply m_ret_c1
    next => exact rfl
    next => exact rfl
    next => exact rfl
    next => exact HM
    next => (first | ((repeat (first | with_reducible exact List.Mem.head _ | with_reducible apply List.Mem.tail)); done) | ((repeat (first | exact List.Mem.head _ | apply List.Mem.tail)); done))
    next => exact Try.underlying67
    next => rfl
    refine ⟨?_, HB⟩
    rw [HF.out, HN.out]
    rfl
end Go.Proofs.Ytkfjobanbnokoaa.Is

set_option linter.unusedSimpArgs false
set_option linter.unusedVariables false
set_option maxRecDepth 100000
namespace Go.Proofs.Ytkfjobanbnokoaa.Is
open Go.RowKit Go.Proofs.YtkfjobanbnokoaaW.PrintWords Go.Proofs.Ytkfjobanbnokoaa.Bs Go.Proofs.Ytkfjobanbnokoaa.Av Go.Proofs.Ytkfjobanbnokoaa.Ad Go.Proofs.Ytkfjobanbnokoaa.Hd Go.Proofs.Ytkfjobanbnokoaa.Mm Go.Proofs.Ytkfjobanbnokoaa.Le Go.Proofs.Ytkfjobanbnokoaa.Ip Go.Proofs.Ytkfjobanbnokoaa.En

set_option maxHeartbeats 1000000 in
theorem refParse6_any (v : Value) (l : List UInt8) (w0 : World) (hr : RB w0 v l) :
    Calls Try.prog 51 #[v] w0 fun e w' => e = .returned (.tuple #[.agg (head6 l), .int .i64 (bad6 l : Nat)]) ∧ Below w0.heap.size w0 w' := by
  have hl := hr.len
  have HR := Lib.hid hr
  obtain ⟨A, c, rfl, hc, hrr⟩ := hr
  clear hrr
  have HM := Lib.hid (Mem.start w0)
  have HB := HM.out.below
  rcases bad6_cases l with ⟨h0, h1⟩ | ⟨h0, h1, h2⟩ | ⟨h0, h1, h2, h3⟩ | ⟨h0, h1, h2, h3⟩
  · have HF : Hid (head6 l = ZH) := Lib.hid (by unfold head6; rw [if_neg (by omega)])
    rw [h0, HF.out]
    clear h0
    go_enter Try.func51, Try.ntmps51
    go_wp2_with (first | refine m_rd ?_ | (refine m_wr ?_; clear HM HB; intro w b HM HB; try clear b) | (refine m_ap ?_; clear HM HB; intro w Aq cq HM HB) | fail)
    apply m_ret_c1
    next => exact rfl
    next => exact rfl
    next => exact rfl
    next => exact HM
    next => (first | ((repeat (first | with_reducible exact List.Mem.head _ | with_reducible apply List.Mem.tail)); done) | ((repeat (first | exact List.Mem.head _ | apply List.Mem.tail)); done))
    next => exact Try.underlying67
    next => rfl
    exact ⟨rfl, HB⟩
  all_goals
    obtain ⟨ad, rfl⟩ := HR.out.some (by omega)
    have hx0 := HR.out.byte 0 (by omega)
    simp only [gb_getD, Mm.add_zero] at hx0
    have hy0 := gb_lt l 0
  · have HF : Hid (head6 l = ZH) := Lib.hid (by unfold head6; rw [if_neg (by omega)])
    rw [h0, HF.out]
    clear h0
    have h2' : (((gb l 0 : Nat) : Int) / 16 != 6) = true := by simp; omega
    generalize gb l 0 = g0 at hx0 hy0 h2'
    clear h2
    go_enter Try.func51, Try.ntmps51
    go_wp2_with (first | refine m_rd ?_ | (refine m_wr ?_; clear HM HB; intro w b HM HB; try clear b) | (refine m_ap ?_; clear HM HB; intro w Aq cq HM HB) | fail)
    apply m_ret_c1
    next => exact rfl
    next => exact rfl
    next => exact rfl
    next => exact HM
    next => (first | ((repeat (first | with_reducible exact List.Mem.head _ | with_reducible apply List.Mem.tail)); done) | ((repeat (first | exact List.Mem.head _ | apply List.Mem.tail)); done))
    next => exact Try.underlying67
    next => rfl
    exact ⟨rfl, HB⟩
  all_goals
    have hx4 := HR.out.byte 4 (by omega)
    have hx5 := HR.out.byte 5 (by omega)
    simp only [gb_getD, add_lit _ 4 (by decide), add_lit _ 5 (by decide)] at hx4 hx5
    have hy4 := gb_lt l 4
    have hy5 := gb_lt l 5
    have h2' : (((gb l 0 : Nat) : Int) / 16 != 6) = false := by simp; omega
    unfold tot6 at h3
  · have HF : Hid (head6 l = ZH) := Lib.hid (by unfold head6; rw [if_neg (by omega)])
    rw [h0, HF.out]
    clear h0 h2
    generalize gb l 0 = g0 at hx0 hy0 h2'
    generalize gb l 4 = g4 at hx4 hy4 h3
    generalize gb l 5 = g5 at hx5 hy5 h3
    go_enter Try.func51, Try.ntmps51
    go_wp2_with (first | refine m_rd ?_ | (refine m_wr ?_; clear HM HB; intro w b HM HB; try clear b) | (refine m_ap ?_; clear HM HB; intro w Aq cq HM HB) | fail)
    try simp only [Act.put, List.setIfInBounds_toArray, List.set_cons_zero, List.set_cons_succ]
    refine wp_region_held_drew (S := fun w' => Below w0.heap.size w0 w') (by kernel_rfl) (below_drew HB) (fun hS => ?_)
    replace HM := Lib.hid HM.out.drew
    replace HB := HM.out.below
    refine tk 0 21 ?_
    refine tk 1 22 ?_
    refine tk 2 23 ?_
    refine tk 3 24 ?_
    refine tk 4 25 ?_
    refine tk 5 26 ?_
    refine tk 6 27 ?_
    refine tk 7 28 ?_
    refine tk 8 29 ?_
    refine tk 9 30 ?_
    refine tk 10 31 ?_
    refine tk 11 4 ?_
    refine wpAnyH_done (by kernel_rfl) ?_ _
    clear hS
    go_wp2_with (first | refine m_rd ?_ | (refine m_wr ?_; clear HM HB; intro w b HM HB; try clear b) | (refine m_ap ?_; clear HM HB; intro w Aq cq HM HB) | fail)
    apply m_ret_c1
    next => exact rfl
    next => exact rfl
    next => exact rfl
    next => exact HM
    next => (first | ((repeat (first | with_reducible exact List.Mem.head _ | with_reducible apply List.Mem.tail)); done) | ((repeat (first | exact List.Mem.head _ | apply List.Mem.tail)); done))
    next => exact Try.underlying67
    next => rfl
    exact ⟨rfl, HB⟩
  · have HF : Hid (head6 l = HV (ns6 l) 6 ((l.drop 8).take 16) 6 ((l.drop 24).take 16)) := Lib.hid (by unfold head6; rw [if_pos h0])
    have hx1 := HR.out.byte 1 (by omega)
    have hx2 := HR.out.byte 2 (by omega)
    have hx3 := HR.out.byte 3 (by omega)
    have hx6 := HR.out.byte 6 (by omega)
    have hx7 := HR.out.byte 7 (by omega)
    simp only [gb_getD, add_lit _ 1 (by decide), add_lit _ 2 (by decide), add_lit _ 3 (by decide), add_lit _ 6 (by decide), add_lit _ 7 (by decide)] at hx1 hx2 hx3 hx6 hx7
    have hy1 := gb_lt l 1
    have hy2 := gb_lt l 2
    have hy3 := gb_lt l 3
    have hy6 := gb_lt l 6
    have hy7 := gb_lt l 7
    have HN : Hid (ns6 l = [6, 40, ((40 + (256 * gb l 4 + gb l 5) : Nat) : Int), ((16 * (gb l 0 % 16) + gb l 1 / 16 : Nat) : Int), ((65536 * (gb l 1 % 16) + 256 * gb l 2 + gb l 3 : Nat) : Int), 0, 0, (gb l 7 : Nat), (gb l 6 : Nat)]) := Lib.hid rfl
    have hs1 := run_cut ad l.length c 8 24 8 16 rfl rfl (by omega) (by omega)
    have hs2 := run_cut ad l.length c 24 40 24 16 rfl rfl (by omega) (by omega)
    have L8 : Hid (((l.drop 8).take 16).length = 16) := Lib.hid (by simp; omega)
    have L24 : Hid (((l.drop 24).take 16).length = 16) := Lib.hid (by simp; omega)
    rw [h0]
    clear h0 h2
    generalize gb l 0 = g0 at hx0 hy0 h2' HN
    generalize gb l 1 = g1 at hx1 hy1 HN
    generalize gb l 2 = g2 at hx2 hy2 HN
    generalize gb l 3 = g3 at hx3 hy3 HN
    generalize gb l 4 = g4 at hx4 hy4 h3 HN
    generalize gb l 5 = g5 at hx5 hy5 h3 HN
    generalize gb l 6 = g6 at hx6 hy6 HN
    generalize gb l 7 = g7 at hx7 hy7 HN
    go_enter Try.func51, Try.ntmps51
    go_wp2_with (first | refine m_rd ?_ | (refine m_wr ?_; clear HM HB; intro w b HM HB; try clear b) | (refine m_ap ?_; clear HM HB; intro w Aq cq HM HB) | fail)
    try simp only [Act.put, List.setIfInBounds_toArray, List.set_cons_zero, List.set_cons_succ]
    refine wp_region_held_drew (S := fun w' => Below w0.heap.size w0 w') (by kernel_rfl) (below_drew HB) (fun hS => ?_)
    replace HM := Lib.hid HM.out.drew
    replace HB := HM.out.below
    refine tk 0 21 ?_
    refine tk 1 22 ?_
    refine tk 2 23 ?_
    refine tk 3 24 ?_
    refine tk 4 25 ?_
    refine tk 5 26 ?_
    refine tk 6 27 ?_
    refine tk 7 28 ?_
    refine tk 8 29 ?_
    refine tk 9 30 ?_
    refine tk 10 31 ?_
    refine tk 11 4 ?_
    refine wpAnyH_done (by kernel_rfl) ?_ _
    clear hS
    go_wp2_with (first | refine m_rd ?_ | (refine m_wr ?_; clear HM HB; intro w b HM HB; try clear b) | (refine m_ap ?_; clear HM HB; intro w Aq cq HM HB) | fail)
    refine (refOf16 _ ((l.drop 8).take 16) _ (by have h := (HR.out.below HB).sub 8 16 (c - 8) (by omega) (by omega); rwa [add_lit _ 8 (by decide)] at h) L8.out).mono ?_
    rintro e w ⟨rfl, hb⟩
    replace HM := Lib.hid (HM.out.call hb)
    replace HB := HM.out.below
    clear hb
    have C8 : Hid (Cells 26 (AV [6] ((l.drop 8).take 16))) := Lib.hid (cellsA _ _ L8.out)
    go_wp2_with (first | refine m_rd ?_ | (refine m_wr ?_; clear HM HB; intro w b HM HB; try clear b) | (refine m_ap ?_; clear HM HB; intro w Aq cq HM HB) | fail)
    refine (refOf16 _ ((l.drop 24).take 16) _ (by have h := (HR.out.below HB).sub 24 16 (c - 24) (by omega) (by omega); rwa [add_lit _ 24 (by decide)] at h) L24.out).mono ?_
    rintro e w ⟨rfl, hb⟩
    replace HM := Lib.hid (HM.out.call hb)
    replace HB := HM.out.below
    clear hb
    have C24 : Hid (Cells 26 (AV [6] ((l.drop 24).take 16))) := Lib.hid (cellsA _ _ L24.out)
    go_wp2_with (first | refine m_rd ?_ | (refine m_wr ?_; clear HM HB; intro w b HM HB; try clear b) | (refine m_ap ?_; clear HM HB; intro w Aq cq HM HB) | fail)
    try simp only [Act.put, List.setIfInBounds_toArray, List.set_cons_zero, List.set_cons_succ]
    refine wp_region_held_drew (S := fun w' => Below w0.heap.size w0 w') (by kernel_rfl) (below_drew HB) (fun hS => ?_)
    replace HM := Lib.hid HM.out.drew
    replace HB := HM.out.below
    refine tk 0 49 ?_
    refine tk 1 50 ?_
    refine tk 2 51 ?_
    refine tk 3 52 ?_
    refine tk 4 53 ?_
    refine tk 5 54 ?_
    refine tk 6 55 ?_
    refine tk 7 56 ?_
    refine tk 8 57 ?_
    refine tk 9 58 ?_
    refine tk 10 59 ?_
    refine tk 11 60 ?_
    refine tk 12 9 ?_
    refine wpAnyH_done (by kernel_rfl) ?_ _
    clear hS
    go_wp2_with (first | refine m_rd ?_ | (refine m_wr ?_; clear HM HB; intro w b HM HB; try clear b) | (refine m_ap ?_; clear HM HB; intro w Aq cq HM HB) | fail)
    try simp only [Act.put, List.setIfInBounds_toArray, List.set_cons_zero, List.set_cons_succ]
    refine wp_region_held_drew (S := fun w' => Below w0.heap.size w0 w') (by kernel_rfl) (below_drew HB) (fun hS => ?_)
    replace HM := Lib.hid HM.out.drew
    replace HB := HM.out.below
    refine tk 0 61 ?_
    refine tk 1 62 ?_
    refine tk 2 63 ?_
    refine tk 3 64 ?_
    refine tk 4 65 ?_
    refine tk 5 66 ?_
    refine tk 6 67 ?_
    refine tk 7 68 ?_
    refine tk 8 69 ?_
    refine tk 9 70 ?_
    refine tk 10 71 ?_
    refine tk 11 72 ?_
    refine tk 12 73 ?_
    refine tk 13 74 ?_
    refine tk 14 75 ?_
    refine tk 15 76 ?_
    refine tk 16 77 ?_
    refine tk 17 10 ?_
    refine wpAnyH_done (by kernel_rfl) ?_ _
    clear hS
    go_wp2_with (first | refine m_rd ?_ | (refine m_wr ?_; clear HM HB; intro w b HM HB; try clear b) | (refine m_ap ?_; clear HM HB; intro w Aq cq HM HB) | fail)
    try simp only [Act.put, List.setIfInBounds_toArray, List.set_cons_zero, List.set_cons_succ]
    refine wp_region_held_drew (S := fun w' => Mem w0 w' _) (by kernel_rfl) (HM.out.drew.two) (fun hS => ?_)
    replace HM := Lib.hid HM.out.drew
    replace HB := HM.out.below
    refine tk 0 78 ?_
    refine tk 1 79 ?_
    refine tk 2 80 ?_
    refine tk 3 81 ?_
    refine tk 4 82 ?_
    refine tk 5 83 ?_
    refine tk 6 84 ?_
    refine tk 7 85 ?_
    refine tk 8 86 ?_
    refine tk 9 87 ?_
    refine tk 10 88 ?_
    refine tkv 11 89 (.agg (AV [6] ((l.drop 8).take 16))) rfl (yields_own rfl rfl (fun _ h => h) (by (first | ((repeat (first | with_reducible exact List.Mem.head _ | with_reducible apply List.Mem.tail)); done) | ((repeat (first | exact List.Mem.head _ | apply List.Mem.tail)); done))) Try.underlying26 rfl C8.out.1 (by kernel_rfl)) ?_
    refine tkv 12 90 (.agg (AV [6] ((l.drop 24).take 16))) rfl (yields_own rfl rfl (fun _ h => h) (by (first | ((repeat (first | with_reducible exact List.Mem.head _ | with_reducible apply List.Mem.tail)); done) | ((repeat (first | exact List.Mem.head _ | apply List.Mem.tail)); done))) Try.underlying26 rfl C24.out.1 (by kernel_rfl)) ?_
    refine tkv 13 91 _ rfl (yields_build rfl #[(0, .int .i64 6), (1, .int .i64 40), (2, .int .i64 (40 + 256 * g4 + g5)), (3, .int .i64 (16 * (g0 % 16) + g1 / 16)), (4, .int .i64 (65536 * (g1 % 16) + 256 * g2 + g3)), (7, .int .i64 g7), (8, .int .i64 g6), (9, .agg (AV [6] ((l.drop 8).take 16))), (10, .agg (AV [6] ((l.drop 24).take 16)))] rfl (build_head _ _ _ _ _ _ _ _ _ _ _ L8.out L24.out) (by kernel_rfl)) ?_
    refine rone 14 rfl fun K' hK => ?_
    apply s_storeC
    next => kernel_rfl
    next => exact rfl
    next => exact rfl
    next => exact rfl
    next => exact HM
    next => (first | ((repeat (first | with_reducible exact Upd.head _ | with_reducible apply Upd.tail)); done) | ((repeat (first | exact Upd.head _ | apply Upd.tail)); done))
    next => exact (cellsH _ _ _ _ _ rfl L8.out L24.out)
    clear HM HB
    intro w HM HB
    refine hK.out _ _ (HM.out.two) (fun hS2 => ?_)
    clear hS hK
    have hS := hS2
    clear hS2
    try simp only [Act.put, List.setIfInBounds_toArray, List.set_cons_zero, List.set_cons_succ]
    refine tk 15 3 ?_
    refine wpAnyH_done (by kernel_rfl) ?_ _
    clear hS
    go_wp2_with (first | refine m_rd ?_ | (refine m_wr ?_; clear HM HB; intro w b HM HB; try clear b) | (refine m_ap ?_; clear HM HB; intro w Aq cq HM HB) | fail)
    apply m_ret_c1
    next => exact rfl
    next => exact rfl
    next => exact rfl
    next => exact HM
    next => (first | ((repeat (first | with_reducible exact List.Mem.head _ | with_reducible apply List.Mem.tail)); done) | ((repeat (first | exact List.Mem.head _ | apply List.Mem.tail)); done))
    next => exact Try.underlying67
    next => rfl
    refine ⟨?_, HB⟩
    rw [HF.out, HN.out]
    have e : ∀ ns ms : List Int, ns = ms → Ending.returned (.tuple #[.agg (HV ns 6 ((l.drop 8).take 16) 6 ((l.drop 24).take 16)), .int .i64 0]) = .returned (.tuple #[.agg (HV ms 6 ((l.drop 8).take 16) 6 ((l.drop 24).take 16)), .int .i64 0]) := fun ns ms h => by rw [h]
    refine e _ _ ?_
    rw [show ((40 + (256 * g4 + g5) : Nat) : Int) = 40 + 256 * (g4 : Int) + g5 by omega]
    simp
end Go.Proofs.Ytkfjobanbnokoaa.Is

set_option linter.unusedSimpArgs false
set_option linter.unusedVariables false
set_option maxRecDepth 100000
namespace Go.Proofs.Ytkfjobanbnokoaa.Is
open Go.RowKit Go.Proofs.YtkfjobanbnokoaaW.PrintWords Go.Proofs.Ytkfjobanbnokoaa.Bs Go.Proofs.Ytkfjobanbnokoaa.Av Go.Proofs.Ytkfjobanbnokoaa.Ad Go.Proofs.Ytkfjobanbnokoaa.Hd Go.Proofs.Ytkfjobanbnokoaa.Mm Go.Proofs.Ytkfjobanbnokoaa.Le Go.Proofs.Ytkfjobanbnokoaa.Ip Go.Proofs.Ytkfjobanbnokoaa.En

theorem fits_yes4 (n : Int) (k : Nat) (m : Int) (hm : m = k) (hk : k ≤ 60) (w : World) (h0 : 0 ≤ n) (h1 : n < 2 ^ k) :
    Calls Try.prog 43 #[.int .i64 n, .int .i64 m] w fun e w' => e = .returned (.bool true) ∧ w = w' := by
  subst hm
  have hd : n / 2 ^ k = 0 := Int.ediv_eq_zero_of_lt h0 h1
  have hb : (2 : Int) ^ k ≤ 2 ^ 60 := by exact_mod_cast Nat.pow_le_pow_right (by decide) hk
  have hn : n < 1152921504606846977 := by omega
  clear h1 hb
  go_enter Try.func43, Try.ntmps43
  go_wp2
  go_ret
  exact ⟨rfl, rfl⟩
theorem fits_no4 (n : Int) (k : Nat) (m : Int) (hm : m = k) (hk : k ≤ 60) (w : World) (hl : -9223372036854775808 ≤ n) (hh : n ≤ 9223372036854775807) (h : ¬ (0 ≤ n ∧ n < 2 ^ k)) :
    Calls Try.prog 43 #[.int .i64 n, .int .i64 m] w fun e w' => e = .returned (.bool false) ∧ w = w' := by
  subst hm
  by_cases h0 : 0 ≤ n
  · have h1 : (2 : Int) ^ k ≤ n := by omega
    have hp : (0 : Int) < 2 ^ k := by exact_mod_cast Nat.two_pow_pos k
    have hq : 1 ≤ n / 2 ^ k := Int.le_ediv_of_mul_le hp (by omega)
    have hd : (n / 2 ^ k == 0) = false := beq_false_of_ne (by omega)
    clear h h1 hp hq
    go_enter Try.func43, Try.ntmps43
    go_wp2
    go_ret
    exact ⟨rfl, rfl⟩
  · have h0' : n < 0 := by omega
    clear h h0
    go_enter Try.func43, Try.ntmps43
    go_wp2
    go_ret
    exact ⟨rfl, rfl⟩
theorem own_any4 (a : Int) (x : List UInt8) (w0 : World) (hx : x.length = 16) :
    Calls Try.prog 44 #[.agg (AV [a] x)] w0 fun e w' => e = .returned (.bool (widthA a x == 32)) ∧ Below w0.heap.size w0 w' := by
  have HX := Lib.hid hx
  have HC : Hid (Cells 26 (AV [a] x)) := Lib.hid (cellsA _ _ hx)
  clear hx
  have HM := Lib.hid (Mem.start w0)
  have HB := HM.out.below
  have hw := widthA_cases a x
  go_enter Try.func44, Try.ntmps44
  go_wp2_with (first | refine m_rd ?_ | (refine m_wr ?_; clear HM HB; intro w b HM HB; try clear b) | (refine m_ap ?_; clear HM HB; intro w Aq cq HM HB) | fail)
  refine (width_any a x _ HX.out).mono ?_
  rintro e w ⟨rfl, hb⟩
  replace HM := Lib.hid (HM.out.call hb)
  replace HB := HM.out.below
  clear hb
  have hw3 : Hid (widthA a x = 0) ∨ Hid (widthA a x = 32) ∨ Hid (widthA a x = 128) := by rcases hw with ⟨h, _⟩ | ⟨h, _⟩ | ⟨h, _⟩ <;> simp [h, Lib.hid]
  clear hw
  rcases hw3 with HE | HE | HE
  all_goals
    rw [HE.out]
    go_wp2_with (first | refine m_rd ?_ | (refine m_wr ?_; clear HM HB; intro w b HM HB; try clear b) | (refine m_ap ?_; clear HM HB; intro w Aq cq HM HB) | fail)
    go_ret
    rw [HE.out]
    exact ⟨rfl, HB⟩
end Go.Proofs.Ytkfjobanbnokoaa.Is

set_option linter.unusedSimpArgs false
set_option linter.unusedVariables false
set_option maxRecDepth 100000
namespace Go.Proofs.Ytkfjobanbnokoaa.Is
open Go.RowKit Go.Proofs.YtkfjobanbnokoaaW.PrintWords Go.Proofs.Ytkfjobanbnokoaa.Bs Go.Proofs.Ytkfjobanbnokoaa.Av Go.Proofs.Ytkfjobanbnokoaa.Ad Go.Proofs.Ytkfjobanbnokoaa.Hd Go.Proofs.Ytkfjobanbnokoaa.Mm Go.Proofs.Ytkfjobanbnokoaa.Le Go.Proofs.Ytkfjobanbnokoaa.Ip Go.Proofs.Ytkfjobanbnokoaa.En Go.Proofs.Ytkfjobanbnokoaa.Co

/-- What a head of family 6 must have. -/
def Ok6 (c i t p a b : Int) : Prop := (0 ≤ c ∧ c < 256) ∧ (0 ≤ i ∧ i < 1048576) ∧ (0 ≤ t ∧ t < 256) ∧ (0 ≤ p ∧ p < 256) ∧ a = 6 ∧ b = 6
theorem width128 (a : Int) (x : List UInt8) : (widthA a x == 128) = decide (a = 6) := by
  rcases widthA_cases a x with ⟨h, h1⟩ | ⟨h, _, h2⟩ | ⟨h, _, h2⟩
  · rw [h]
    have : a ≠ 6 := by intro e; subst e; unfold rightA at h1; simp at h1
    simp [this]
  · rw [h, h2]; rfl
  · rw [h, h2]; rfl
theorem bytesA6 (x : List UInt8) (hx : x.length = 16) : bytesA 6 x = x := by
  have h := width128 6 x
  simp at h
  unfold bytesA
  rw [h, List.take_of_length_le (by rw [hx]; decide)]
def In64 (n : Int) : Prop := -9223372036854775808 ≤ n ∧ n ≤ 9223372036854775807

end Go.Proofs.Ytkfjobanbnokoaa.Is

set_option linter.unusedSimpArgs false
set_option linter.unusedVariables false
set_option maxRecDepth 100000
namespace Go.Proofs.Ytkfjobanbnokoaa.Is
open Go.RowKit Go.Proofs.YtkfjobanbnokoaaW.PrintWords Go.Proofs.Ytkfjobanbnokoaa.Bs Go.Proofs.Ytkfjobanbnokoaa.Av Go.Proofs.Ytkfjobanbnokoaa.Ad Go.Proofs.Ytkfjobanbnokoaa.Hd Go.Proofs.Ytkfjobanbnokoaa.Mm Go.Proofs.Ytkfjobanbnokoaa.Le Go.Proofs.Ytkfjobanbnokoaa.Ip Go.Proofs.Ytkfjobanbnokoaa.En Go.Proofs.Ytkfjobanbnokoaa.Co

theorem fits_ns6 (l : List UInt8) : Fits (ns6 l ++ [6, 6]) := by
  have h0 := gb_lt l 0
  have h1 := gb_lt l 1
  have h2 := gb_lt l 2
  have h3 := gb_lt l 3
  have h4 := gb_lt l 4
  have h5 := gb_lt l 5
  have h6 := gb_lt l 6
  have h7 := gb_lt l 7
  intro n hn
  unfold ns6 tot6 at hn
  simp only [List.cons_append, List.nil_append, List.mem_cons, List.not_mem_nil, or_false] at hn
  rcases hn with rfl | rfl | rfl | rfl | rfl | rfl | rfl | rfl | rfl | rfl | rfl <;> omega
theorem fits_zero : Fits ([0, 0, 0, 0, 0, 0, 0, 0, 0] ++ [0, 0]) := by
  intro n hn
  simp only [List.cons_append, List.nil_append, List.mem_cons, List.not_mem_nil, or_false, or_self] at hn
  subst hn; decide
theorem cells_head6 (l : List UInt8) : Cells 67 (head6 l) := by
  unfold head6
  by_cases h : bad6 l = 0
  · rw [if_pos h]
    have hl : 40 ≤ l.length := by rcases bad6_cases l with h | h | h | h <;> omega
    exact cellsH _ _ _ _ _ rfl (by simp; omega) (by simp; omega)
  · rw [if_neg h]; exact cellsZH
theorem eql_head6 (l : List UInt8) : EqlOf 67 (head6 l) (head6 l) true := by
  unfold head6
  by_cases h : bad6 l = 0
  · rw [if_pos h]
    have hl : 40 ≤ l.length := by rcases bad6_cases l with h | h | h | h <;> omega
    exact eql_head_self _ _ _ _ _ rfl (by simp; omega) (by simp; omega) (fits_ns6 l)
  · rw [if_neg h]; exact eql_head_self _ _ _ _ _ rfl rfl rfl fits_zero
end Go.Proofs.Ytkfjobanbnokoaa.Is

set_option linter.unusedSimpArgs false
set_option linter.unusedVariables false
set_option maxRecDepth 100000
namespace Go.Proofs.Ytkfjobanbnokoaa.Is
open Go.RowKit Go.Proofs.YtkfjobanbnokoaaW.PrintWords Go.Proofs.Ytkfjobanbnokoaa.Bs Go.Proofs.Ytkfjobanbnokoaa.Av Go.Proofs.Ytkfjobanbnokoaa.Ad Go.Proofs.Ytkfjobanbnokoaa.Hd Go.Proofs.Ytkfjobanbnokoaa.Mm Go.Proofs.Ytkfjobanbnokoaa.Le Go.Proofs.Ytkfjobanbnokoaa.Ip Go.Proofs.Ytkfjobanbnokoaa.En Go.Proofs.Ytkfjobanbnokoaa.Co

end Go.Proofs.Ytkfjobanbnokoaa.Is
