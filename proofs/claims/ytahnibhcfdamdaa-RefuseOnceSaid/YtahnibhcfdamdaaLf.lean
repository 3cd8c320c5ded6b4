/- Layer 22: the message is read as the packet's front; what IcmpfourReads and IcmpfourTells run, and that they say true. -/
import Derived.Test.YtahnibhcfdamdaaLd
import Derived.Test.YtahnibhcfdamdaaZl
set_option linter.unusedSimpArgs false
set_option linter.unusedVariables false
set_option maxRecDepth 100000
namespace Go.Proofs.Ytahnibhcfdamdaa.I4
open Go.RowKit Go.Proofs.YtahnibhcfdamdaaW.PrintWords Go.Proofs.Ytahnibhcfdamdaa.Bs Go.Proofs.Ytahnibhcfdamdaa.Av Go.Proofs.Ytahnibhcfdamdaa.Ad Go.Proofs.Ytahnibhcfdamdaa.Hd Go.Proofs.Ytahnibhcfdamdaa.Mm Go.Proofs.Ytahnibhcfdamdaa.Le Go.Proofs.Ytahnibhcfdamdaa.Ip Go.Proofs.Ytahnibhcfdamdaa.En Go.Proofs.Ytahnibhcfdamdaa.Co Go.Proofs.Ytahnibhcfdamdaa.Os Go.Proofs.Ytahnibhcfdamdaa.Is Go.Proofs.Ytahnibhcfdamdaa.Pk

theorem gb_set_ne (l : List UInt8) (i j : Nat) (x : UInt8) (h : i ≠ j) : gb (l.set i x) j = gb l j := by
  unfold gb
  rw [getD_set_other l i j x h]
theorem gb_filled (l : List UInt8) (k n j : Nat) (h1 : j ≠ 2 * k) (h2 : j ≠ 2 * k + 1) : gb (filled l k n) j = gb l j := by
  unfold filled Os.blank
  rw [gb_set_ne _ _ _ _ (Ne.symm h2), gb_set_ne _ _ _ _ (Ne.symm h1), gb_set_ne _ _ _ _ (Ne.symm h2), gb_set_ne _ _ _ _ (Ne.symm h1)]
theorem drop_set_lt (l : List UInt8) (i n : Nat) (x : UInt8) (h : i < n) : (l.set i x).drop n = l.drop n := by
  rw [List.drop_set, if_pos h]
theorem drop_filled (l : List UInt8) (k n m : Nat) (h : 2 * k + 1 < m) : (filled l k n).drop m = l.drop m := by
  unfold filled Os.blank
  rw [drop_set_lt _ _ _ _ h, drop_set_lt _ _ _ _ (by omega), drop_set_lt _ _ _ _ h, drop_set_lt _ _ _ _ (by omega)]
theorem body22_good (l : List UInt8) : sum16 (body22 l) = 65535 := by
  have h := (filled_good (rest22 l) 1 (by rw [rest22_length]; omega)).2.2
  rw [rest22_blank] at h
  exact h
theorem body22_bytes (l : List UInt8) : gb (body22 l) 0 = 3 ∧ gb (body22 l) 1 = 1 ∧ gb (body22 l) 4 = 0 ∧ gb (body22 l) 5 = 0 ∧ gb (body22 l) 6 = 0 ∧ gb (body22 l) 7 = 0 ∧ (body22 l).drop 8 = l.take 548 := by
  unfold body22
  rw [gb_filled _ _ _ _ (by decide) (by decide), gb_filled _ _ _ _ (by decide) (by decide), gb_filled _ _ _ _ (by decide) (by decide), gb_filled _ _ _ _ (by decide) (by decide), gb_filled _ _ _ _ (by decide) (by decide), gb_filled _ _ _ _ (by decide) (by decide), drop_filled _ _ _ _ (by decide)]
  exact ⟨rfl, rfl, rfl, rfl, rfl, rfl, rfl⟩
/-- The message, as a packet. -/
theorem msg22_back (l : List UInt8) (h : who4 l) : bad4 (msg22 l) = 0 ∧ gb (msg22 l) 9 = 1 ∧ siz4 (msg22 l) = 20 ∧ tot4 (msg22 l) = (msg22 l).length ∧ (msg22 l).length = 28 + min 548 l.length ∧ (msg22 l).drop 20 = body22 l ∧ (256 * gb (msg22 l) 6 + gb (msg22 l) 7) % 8192 = 0 ∧ ((msg22 l).drop 12).take 4 = (dstP l).take 4 ∧ ((msg22 l).drop 16).take 4 = (srcP l).take 4 := by
  obtain ⟨sz, cl, id, fl, fr, tl, pr, x, y, K, hwx, hwy, hb, hl5⟩ := known4 l h
  have hx : ((srcP l).take 4).length = 4 := by rw [← K.src, List.length_take, K.lx]; rfl
  have hy : ((dstP l).take 4).length = 4 := by rw [← K.dst, List.length_take, K.ly]; rfl
  have hbl := body22_length l
  have hlen : 20 + (body22 l).length < 65536 := by rw [hbl]; omega
  obtain ⟨b1, b2, b3, b4, b5, b6⟩ := all4_back 192 0 0 0 64 1 ((dstP l).take 4) ((srcP l).take 4) (body22 l) (by decide) (by decide) hlen (by decide) (by decide) (by decide) (by decide) hy hx
  have hm : msg22 l = all4 192 0 0 0 64 1 ((dstP l).take 4) ((srcP l).take 4) (body22 l) := rfl
  have hdrop : (msg22 l).drop 20 = body22 l := by
    rw [hm]
    unfold all4 head4
    rw [List.drop_append, List.drop_of_length_le (by rw [filled_length, bare4_length _ _ _ _ _ _ _ _ _ hy hx]; exact Nat.le_refl _), filled_length, bare4_length _ _ _ _ _ _ _ _ _ hy hx, List.nil_append, Nat.sub_self, List.drop_zero]
  rw [← hm] at b1 b2 b3 b4 b5 b6
  clear hm
  rw [hbl] at b2 b5
  generalize msg22 l = M at *
  generalize body22 l = Bd at *
  unfold ns4 at b2
  simp only [List.cons.injEq, and_true] at b2
  obtain ⟨_, _, c2, _, _, _, c6, _, c8⟩ := b2
  exact ⟨b1, by omega, b6, by omega, by omega, hdrop, by omega, b3, b4⟩
theorem msg22_known (l : List UInt8) (h : who4 l) : wholeB (msg22 l) = true ∧ errB (msg22 l) = true ∧ bad22 (msg22 l) = 0 ∧ read22 (msg22 l) = l.take 548 ∧ (msg22 l).length = 28 + min 548 l.length := by
  obtain ⟨b1, b2, b3, b4, b5, b6, b7, b8, b9⟩ := msg22_back l h
  have hi : is4 (msg22 l) := bad4_is _ b1
  have hb := (badP_of4 _ b1).1
  have et : totP (msg22 l) = (msg22 l).length := by unfold totP; rw [if_pos hi, b4]
  have es : sizP (msg22 l) = 20 := by unfold sizP; rw [if_pos hi, b3]
  have hr : restP (msg22 l) = body22 l := by
    unfold restP
    rw [es, et, b6, List.take_of_length_le]
    rw [body22_length, b5]; omega
  obtain ⟨g0, g1, g4, g5, g6, g7, gd⟩ := body22_bytes l
  have hg := body22_good l
  have hbad : bad22 (msg22 l) = 0 := by
    unfold bad22 readG
    rw [hr, if_neg (by omega), if_neg (by omega), if_neg (by rw [body22_length]; omega), if_neg (by omega), if_neg (by omega), if_neg (by omega)]
  refine ⟨?_, ?_, hbad, ?_, b5⟩
  · unfold wholeB
    exact decide_eq_true ⟨hb, et, by rw [b5]; omega⟩
  · have e20 : gb (msg22 l) 20 = 3 := by
      rw [← b6] at g0
      unfold gb at g0 ⊢
      rw [List.getD_eq_getElem?_getD, List.getElem?_drop] at g0
      rw [List.getD_eq_getElem?_getD]
      exact g0
    unfold errB
    rw [es, e20]
    unfold frgP proP
    rw [if_pos hi, if_pos hi, if_pos hi, b7, b2, et, b5]
    simp only [Bool.and_eq_true, decide_eq_true_eq]
    exact ⟨⟨hb, by omega, trivial, trivial⟩, rfl⟩
  · unfold read22
    rw [if_pos hbad, hr, gd]

def zero16' : List UInt8 := List.replicate 16 0
def zs22 : List UInt8 := all4 0 0 0 0 0 0 (zero16'.take 4) (zero16'.take 4) [9]
theorem zs22_who : who4 zs22 ∧ (msg22 zs22).length = 49 ∧ zs22.length = 21 := by
  refine ⟨⟨by kernel_rfl, ?_⟩, by kernel_rfl, by kernel_rfl⟩
  exact of_decide_eq_true (by kernel_rfl)
set_option maxHeartbeats 1000000 in
theorem alive22_any (w0 : World) : Calls Try.prog 46 #[] w0 fun e w' => e = .returned (.bool true) ∧ Below w0.heap.size w0 w' := by
  have BH3 : Hid (Built 25 #[(0, .int .i64 4)] (.agg (AV [4] zero16'))) := Lib.hid (fun W => by kernel_rfl)
  have BH5 := Lib.hid (built_ends 4 4 zero16' zero16' rfl rfl)
  have LT1 : Hid (LitOf 1 #[(0, .int .u8 9)] [9]) := Lib.hid ⟨rfl, by decide, fun W => by kernel_rfl⟩
  have HPU := Lib.hid (fun (v : Value) (w : World) hr => put4_ok 0 0 0 0 0 0 0 0 0 zero16' zero16' v [9] w hr rfl rfl (by decide) (by decide) (by decide) (by decide) (by decide) (by decide) (by kernel_rfl) (by kernel_rfl) (by decide))
  have HC1 := Lib.hid (cellsA 4 zero16' rfl)
  have HL := Lib.hid zs22_who
  have HZS : Hid (all4 0 0 0 0 0 0 (zero16'.take 4) (zero16'.take 4) [9] = zs22) := Lib.hid rfl
  rw [HZS.out] at HPU
  unfold RowTup at HPU
  generalize zs22 = L at *
  generalize zero16' = Z at *
  have HUN := Lib.hid (fun A c w hr => unreach_ok A c L w hr HL.out.1)
  unfold RowTup at HUN
  generalize hM : msg22 L = M at HUN
  have HML : Hid (M.length = 49) := Lib.hid (by rw [← hM]; exact HL.out.2.1)
  clear hM
  have HM := Lib.hid (Mem.start w0)
  have HB := HM.out.below
  go_enter Try.func46, Try.ntmps46
  go_wp2_with (first | refine m_rd ?_ | (refine m_wr ?_; clear HM HB; intro w b HM HB; try clear b) | (refine m_ap ?_; clear HM HB; intro w Aq cq HM HB) | fail)
  refine (HPU.out _ _ (HM.out.rb (by ((repeat (first | exact List.Mem.head _ | apply List.Mem.tail)); done)))).mono ?_
  rintro e w ⟨v, rfl, ho, hb⟩
  replace HM := Lib.hid (HM.out.row hb ho)
  replace HB := HM.out.below
  clear ho hb
  obtain ⟨A2, c2, rfl, -, -⟩ := HM.out.rb (by ((repeat (first | exact List.Mem.head _ | apply List.Mem.tail)); done))
  go_wp2_with (first | refine m_rd ?_ | (refine m_wr ?_; clear HM HB; intro w b HM HB; try clear b) | (refine m_ap ?_; clear HM HB; intro w Aq cq HM HB) | fail)
  refine (HUN.out A2 c2 _ (HM.out.rb (by ((repeat (first | exact List.Mem.head _ | apply List.Mem.tail)); done)))).mono ?_
  rintro e w ⟨v, rfl, ho, hb⟩
  replace HM := Lib.hid (HM.out.row hb ho)
  replace HB := HM.out.below
  clear ho hb
  obtain ⟨A3, c3, rfl, -, -⟩ := HM.out.rb (by ((repeat (first | exact List.Mem.head _ | apply List.Mem.tail)); done))
  rw [HML.out]
  go_wp2_with (first | refine m_rd ?_ | (refine m_wr ?_; clear HM HB; intro w b HM HB; try clear b) | (refine m_ap ?_; clear HM HB; intro w Aq cq HM HB) | fail)
  go_ret
  exact ⟨rfl, HB⟩
set_option maxHeartbeats 1000000 in
theorem icmpfourReads_walk (A : Option Addr) (c : Nat) (l : List UInt8) (w0 : World) (hr : RB w0 (.slice A l.length c) l) :
    Calls Try.prog 13 #[.slice A l.length c] w0 fun e w' => e = .returned (.bool true) ∧ Below w0.heap.size w0 w' := by
  have hl := hr.len
  have HR := Lib.hid hr
  clear hr
  have HS := Lib.hid (read_any A c l)
  have HQ := Lib.hid (refRead_any A c l)
  generalize bad22 l = bq at HS HQ
  generalize read22 l = sl at HS HQ
  have HM := Lib.hid (Mem.start w0)
  have HB := HM.out.below
  by_cases h3 : 3000 < l.length
  · go_enter Try.func13, Try.ntmps13
    go_wp2_with (first | refine m_rd ?_ | (refine m_wr ?_; clear HM HB; intro w b HM HB; try clear b) | (refine m_ap ?_; clear HM HB; intro w Aq cq HM HB) | fail)
    refine (alive22_any _).mono ?_
    rintro e w ⟨rfl, hb⟩
    replace HM := Lib.hid (HM.out.call hb)
    replace HB := HM.out.below
    clear hb
    go_wp2_with (first | refine m_rd ?_ | (refine m_wr ?_; clear HM HB; intro w b HM HB; try clear b) | (refine m_ap ?_; clear HM HB; intro w Aq cq HM HB) | fail)
    go_ret
    exact ⟨rfl, HB⟩
  · go_enter Try.func13, Try.ntmps13
    go_wp2_with (first | refine m_rd ?_ | (refine m_wr ?_; clear HM HB; intro w b HM HB; try clear b) | (refine m_ap ?_; clear HM HB; intro w Aq cq HM HB) | fail)
    refine (HS.out _ (HR.out.below HB)).mono ?_
    rintro e w ⟨v, rfl, ho, hb⟩
    replace HM := Lib.hid (HM.out.row hb ho)
    replace HB := HM.out.below
    clear ho hb
    go_wp2_with (first | refine m_rd ?_ | (refine m_wr ?_; clear HM HB; intro w b HM HB; try clear b) | (refine m_ap ?_; clear HM HB; intro w Aq cq HM HB) | fail)
    refine (HQ.out _ (HR.out.below HB)).mono ?_
    rintro e w ⟨u, rfl, hu, hb⟩
    replace HM := Lib.hid (HM.out.call hb)
    replace HB := HM.out.below
    have HU := Lib.hid hu
    clear hb hu
    go_wp2_with (first | refine m_rd ?_ | (refine m_wr ?_; clear HM HB; intro w b HM HB; try clear b) | (refine m_ap ?_; clear HM HB; intro w Aq cq HM HB) | fail)
    refine (same_any _ _ sl sl _ (HM.out.rb (by ((repeat (first | exact List.Mem.head _ | apply List.Mem.tail)); done))) HU.out).mono ?_
    rintro e w ⟨rfl, hb⟩
    replace HM := Lib.hid (HM.out.call hb)
    replace HB := HM.out.below
    clear hb
    rw [decide_eq_true (rfl : sl = sl)]
    go_wp2_with (first | refine m_rd ?_ | (refine m_wr ?_; clear HM HB; intro w b HM HB; try clear b) | (refine m_ap ?_; clear HM HB; intro w Aq cq HM HB) | fail)
    refine (alive22_any _).mono ?_
    rintro e w ⟨rfl, hb⟩
    replace HM := Lib.hid (HM.out.call hb)
    replace HB := HM.out.below
    clear hb
    go_wp2_with (first | refine m_rd ?_ | (refine m_wr ?_; clear HM HB; intro w b HM HB; try clear b) | (refine m_ap ?_; clear HM HB; intro w Aq cq HM HB) | fail)
    go_ret
    exact ⟨rfl, HB⟩
set_option maxHeartbeats 2000000 in
theorem icmpfourTells_walk (A : Option Addr) (c : Nat) (l : List UInt8) (w0 : World) (hr : RB w0 (.slice A l.length c) l) :
    Calls Try.prog 12 #[.slice A l.length c] w0 fun e w' => e = .returned (.bool true) ∧ Below w0.heap.size w0 w' := by
  have hl := hr.len
  have HR := Lib.hid hr
  have hc : l.length ≤ c := by obtain ⟨A, c2, e, h, _⟩ := hr; injection e with _ _ e; omega
  clear hr
  have HM := Lib.hid (Mem.start w0)
  have HB := HM.out.below
  by_cases h3 : 3000 < l.length
  · go_enter Try.func12, Try.ntmps12
    go_wp2_with (first | refine m_rd ?_ | (refine m_wr ?_; clear HM HB; intro w b HM HB; try clear b) | (refine m_ap ?_; clear HM HB; intro w Aq cq HM HB) | fail)
    refine (alive22_any _).mono ?_
    rintro e w ⟨rfl, hb⟩
    replace HM := Lib.hid (HM.out.call hb)
    replace HB := HM.out.below
    clear hb
    go_wp2_with (first | refine m_rd ?_ | (refine m_wr ?_; clear HM HB; intro w b HM HB; try clear b) | (refine m_ap ?_; clear HM HB; intro w Aq cq HM HB) | fail)
    go_ret
    exact ⟨rfl, HB⟩
  by_cases hw : who4 l
  case neg =>
    have HS := Lib.hid (fun w hr => unreach_no A c l w hr hw)
    have HQ := Lib.hid (fun w hr => refUnreach_no A c l w hr hw)
    clear hw
    go_enter Try.func12, Try.ntmps12
    go_wp2_with (first | refine m_rd ?_ | (refine m_wr ?_; clear HM HB; intro w b HM HB; try clear b) | (refine m_ap ?_; clear HM HB; intro w Aq cq HM HB) | fail)
    refine (HS.out _ (HR.out.below HB)).mono ?_
    rintro e w ⟨rfl, hb⟩
    replace HM := Lib.hid (HM.out.call hb)
    replace HB := HM.out.below
    clear hb
    go_wp2_with (first | refine m_rd ?_ | (refine m_wr ?_; clear HM HB; intro w b HM HB; try clear b) | (refine m_ap ?_; clear HM HB; intro w Aq cq HM HB) | fail)
    refine (HQ.out _ (HR.out.below HB)).mono ?_
    rintro e w ⟨rfl, hb⟩
    replace HM := Lib.hid (HM.out.call hb)
    replace HB := HM.out.below
    clear hb
    go_wp2_with (first | refine m_rd ?_ | (refine m_wr ?_; clear HM HB; intro w b HM HB; try clear b) | (refine m_ap ?_; clear HM HB; intro w Aq cq HM HB) | fail)
    refine (same_any _ _ [] [] _ (RB.nil _) (RB.nil _)).mono ?_
    rintro e w ⟨rfl, hb⟩
    replace HM := Lib.hid (HM.out.call hb)
    replace HB := HM.out.below
    clear hb
    rw [decide_eq_true (rfl : ([] : List UInt8) = [])]
    go_wp2_with (first | refine m_rd ?_ | (refine m_wr ?_; clear HM HB; intro w b HM HB; try clear b) | (refine m_ap ?_; clear HM HB; intro w Aq cq HM HB) | fail)
    refine (alive22_any _).mono ?_
    rintro e w ⟨rfl, hb⟩
    replace HM := Lib.hid (HM.out.call hb)
    replace HB := HM.out.below
    clear hb
    go_wp2_with (first | refine m_rd ?_ | (refine m_wr ?_; clear HM HB; intro w b HM HB; try clear b) | (refine m_ap ?_; clear HM HB; intro w Aq cq HM HB) | fail)
    go_ret
    exact ⟨rfl, HB⟩
  have HS := Lib.hid (fun w hr => unreach_ok A c l w hr hw)
  unfold RowTup at HS
  have HQ := Lib.hid (fun w hr => refUnreach_ok A c l w hr hw)
  obtain ⟨m1, m2, m3, m4, m5⟩ := msg22_known l hw
  have HRD := Lib.hid (fun A c => read_any A c (msg22 l))
  have HWH := Lib.hid (fun A c => refWhole_any A c (msg22 l))
  have HER := Lib.hid (fun A c => refIsError_any A c (msg22 l))
  rw [m3, m4] at HRD
  rw [m1] at HWH
  rw [m2] at HER
  obtain ⟨sz, cl, id, fl, fr, tl, pr, x, y, K, hwx, hwy, hb, hl5⟩ := known4 l hw
  have d := K.low
  obtain ⟨ad, rfl⟩ := HR.out.some (by omega)
  have hl20 : 20 ≤ l.length := by omega
  obtain ⟨k, hk⟩ : ∃ k, k = 28 + min 548 l.length := ⟨_, rfl⟩
  have HLM : Hid ((msg22 l).length = k) := Lib.hid (by rw [m5, hk])
  rw [HLM.out] at HRD HWH HER
  have hk5 : k ≤ 576 := by omega
  clear m1 m2 m3 m4 m5 hw K d hb hk
  generalize msg22 l = Mq at HS HQ HRD HWH HER HLM
  by_cases h5 : l.length ≤ 548
  case' pos =>
    have hs := run_to ad l.length c l.length l.length rfl (by omega) (by omega)
    have HF := Lib.hid (fun (w : World) (hb : Below w0.heap.size w0 w) => (HR.out.below hb).front l.length c (by omega) (by omega))
    rw [show l.take l.length = l.take 548 by rw [List.take_length, List.take_of_length_le h5]] at HF
  case' neg =>
    have hs := run_to ad l.length c 548 548 rfl (by omega) (by omega)
    have HF := Lib.hid (fun (w : World) (hb : Below w0.heap.size w0 w) => (HR.out.below hb).front 548 c (by omega) (by omega))
  all_goals
    generalize l.take 548 = F5 at HF HRD
    go_enter Try.func12, Try.ntmps12
    go_wp2_with (first | refine m_rd ?_ | (refine m_wr ?_; clear HM HB; intro w b HM HB; try clear b) | (refine m_ap ?_; clear HM HB; intro w Aq cq HM HB) | fail)
    refine (HS.out _ (HR.out.below HB)).mono ?_
    rintro e w ⟨v, rfl, ho, hb⟩
    replace HM := Lib.hid (HM.out.row hb ho)
    replace HB := HM.out.below
    clear ho hb
    obtain ⟨A2, c2, rfl, -, -⟩ := HM.out.rb (by ((repeat (first | exact List.Mem.head _ | apply List.Mem.tail)); done))
    rw [HLM.out] at HM ⊢
    go_wp2_with (first | refine m_rd ?_ | (refine m_wr ?_; clear HM HB; intro w b HM HB; try clear b) | (refine m_ap ?_; clear HM HB; intro w Aq cq HM HB) | fail)
    refine (HQ.out _ (HR.out.below HB)).mono ?_
    rintro e w ⟨u, rfl, ho, hb⟩
    replace HM := Lib.hid (HM.out.row hb ho)
    replace HB := HM.out.below
    clear ho hb
    go_wp2_with (first | refine m_rd ?_ | (refine m_wr ?_; clear HM HB; intro w b HM HB; try clear b) | (refine m_ap ?_; clear HM HB; intro w Aq cq HM HB) | fail)
    refine (same_any _ _ Mq Mq _ (HM.out.rb (by ((repeat (first | exact List.Mem.head _ | apply List.Mem.tail)); done))) (HM.out.rb (by ((repeat (first | exact List.Mem.head _ | apply List.Mem.tail)); done)))).mono ?_
    rintro e w ⟨rfl, hb⟩
    replace HM := Lib.hid (HM.out.call hb)
    replace HB := HM.out.below
    clear hb
    rw [decide_eq_true (rfl : Mq = Mq)]
    go_wp2_with (first | refine m_rd ?_ | (refine m_wr ?_; clear HM HB; intro w b HM HB; try clear b) | (refine m_ap ?_; clear HM HB; intro w Aq cq HM HB) | fail)
    refine (HRD.out A2 c2 _ (HM.out.rb (by ((repeat (first | exact List.Mem.head _ | apply List.Mem.tail)); done)))).mono ?_
    rintro e w ⟨q, rfl, ho, hb⟩
    replace HM := Lib.hid (HM.out.row hb ho)
    replace HB := HM.out.below
    clear ho hb
    go_wp2_with (first | refine m_rd ?_ | (refine m_wr ?_; clear HM HB; intro w b HM HB; try clear b) | (refine m_ap ?_; clear HM HB; intro w Aq cq HM HB) | fail)
    refine (same_any _ _ F5 F5 _ (HM.out.rb (by ((repeat (first | exact List.Mem.head _ | apply List.Mem.tail)); done))) (HF.out _ HB)).mono ?_
    rintro e w ⟨rfl, hb⟩
    replace HM := Lib.hid (HM.out.call hb)
    replace HB := HM.out.below
    clear hb
    rw [decide_eq_true (rfl : F5 = F5)]
    go_wp2_with (first | refine m_rd ?_ | (refine m_wr ?_; clear HM HB; intro w b HM HB; try clear b) | (refine m_ap ?_; clear HM HB; intro w Aq cq HM HB) | fail)
    refine (HWH.out A2 c2 _ (HM.out.rb (by ((repeat (first | exact List.Mem.head _ | apply List.Mem.tail)); done)))).mono ?_
    rintro e w ⟨rfl, hb⟩
    replace HM := Lib.hid (HM.out.call hb)
    replace HB := HM.out.below
    clear hb
    go_wp2_with (first | refine m_rd ?_ | (refine m_wr ?_; clear HM HB; intro w b HM HB; try clear b) | (refine m_ap ?_; clear HM HB; intro w Aq cq HM HB) | fail)
    refine (HER.out A2 c2 _ (HM.out.rb (by ((repeat (first | exact List.Mem.head _ | apply List.Mem.tail)); done)))).mono ?_
    rintro e w ⟨rfl, hb⟩
    replace HM := Lib.hid (HM.out.call hb)
    replace HB := HM.out.below
    clear hb
    go_wp2_with (first | refine m_rd ?_ | (refine m_wr ?_; clear HM HB; intro w b HM HB; try clear b) | (refine m_ap ?_; clear HM HB; intro w Aq cq HM HB) | fail)
    refine (alive22_any _).mono ?_
    rintro e w ⟨rfl, hb⟩
    replace HM := Lib.hid (HM.out.call hb)
    replace HB := HM.out.below
    clear hb
    go_wp2_with (first | refine m_rd ?_ | (refine m_wr ?_; clear HM HB; intro w b HM HB; try clear b) | (refine m_ap ?_; clear HM HB; intro w Aq cq HM HB) | fail)
    go_ret
    exact ⟨rfl, HB⟩
end Go.Proofs.Ytahnibhcfdamdaa.I4
