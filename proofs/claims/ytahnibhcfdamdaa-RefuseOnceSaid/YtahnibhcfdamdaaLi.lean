/- Layer 23: the message is read as the packet's front; what IcmpsixReads and IcmpsixTells run, and that they say true. -/
import Derived.Test.YtahnibhcfdamdaaLh
import Derived.Test.YtahnibhcfdamdaaZl
set_option linter.unusedSimpArgs false
set_option linter.unusedVariables false
set_option maxRecDepth 100000
namespace Go.Proofs.Ytahnibhcfdamdaa.I6
open Go.RowKit Go.Proofs.YtahnibhcfdamdaaW.PrintWords Go.Proofs.Ytahnibhcfdamdaa.Bs Go.Proofs.Ytahnibhcfdamdaa.Av Go.Proofs.Ytahnibhcfdamdaa.Ad Go.Proofs.Ytahnibhcfdamdaa.Hd Go.Proofs.Ytahnibhcfdamdaa.Mm Go.Proofs.Ytahnibhcfdamdaa.Le Go.Proofs.Ytahnibhcfdamdaa.Ip Go.Proofs.Ytahnibhcfdamdaa.En Go.Proofs.Ytahnibhcfdamdaa.Co Go.Proofs.Ytahnibhcfdamdaa.Os Go.Proofs.Ytahnibhcfdamdaa.Is Go.Proofs.Ytahnibhcfdamdaa.Pk Go.Proofs.Ytahnibhcfdamdaa.I4

theorem blank_after (a b : List UInt8) (j k : Nat) (ha : a.length = 2 * j) : Os.blank (a ++ b) (j + k) = a ++ Os.blank b k := by
  unfold Os.blank
  rw [List.set_append_right _ _ (by omega), List.set_append_right _ _ (by omega), ha, show 2 * (j + k) - 2 * j = 2 * k by omega, show 2 * (j + k) + 1 - 2 * j = 2 * k + 1 by omega]
theorem filled_after (a b : List UInt8) (j k n : Nat) (ha : a.length = 2 * j) : filled (a ++ b) (j + k) n = a ++ filled b k n := by
  unfold filled
  rw [blank_after a b j k ha, List.set_append_right _ _ (by omega), List.set_append_right _ _ (by omega), ha, show 2 * (j + k) - 2 * j = 2 * k by omega, show 2 * (j + k) + 1 - 2 * j = 2 * k + 1 by omega]
theorem body23_good (l : List UInt8) (hx : (srcP l).length = 16) (hy : (dstP l).length = 16) : sum16 (ahead6 (dstP l) (srcP l) (body23 l).length ++ body23 l) = 65535 := by
  have ha := ahead6_length (dstP l) (srcP l) (rest23 l).length hy hx
  have h := (filled_good (sum23 l) 21 (by unfold sum23; rw [List.length_append, ha, rest23_length]; omega)).2.2
  have hb : Os.blank (sum23 l) 21 = sum23 l := by
    unfold sum23
    rw [blank_after _ _ 20 1 ha, rest23_blank]
  rw [hb] at h
  have hf : filled (sum23 l) 21 (65535 - sum16 (sum23 l)) = ahead6 (dstP l) (srcP l) (rest23 l).length ++ body23 l := by
    have e := filled_after (ahead6 (dstP l) (srcP l) (rest23 l).length) (rest23 l) 20 1 (65535 - sum16 (sum23 l)) ha
    exact e
  rw [hf] at h
  rw [body23_length, ← rest23_length]
  exact h
theorem body23_bytes (l : List UInt8) : gb (body23 l) 0 = 1 ∧ gb (body23 l) 1 = 0 ∧ gb (body23 l) 4 = 0 ∧ gb (body23 l) 5 = 0 ∧ gb (body23 l) 6 = 0 ∧ gb (body23 l) 7 = 0 ∧ (body23 l).drop 8 = l.take 1232 := by
  unfold body23
  rw [gb_filled _ _ _ _ (by decide) (by decide), gb_filled _ _ _ _ (by decide) (by decide), gb_filled _ _ _ _ (by decide) (by decide), gb_filled _ _ _ _ (by decide) (by decide), gb_filled _ _ _ _ (by decide) (by decide), gb_filled _ _ _ _ (by decide) (by decide), drop_filled _ _ _ _ (by decide)]
  exact ⟨rfl, rfl, rfl, rfl, rfl, rfl, rfl⟩
/-- The message, as a packet. -/
theorem msg23_back (l : List UInt8) (h : who6 l) : bad6 (msg23 l) = 0 ∧ gb (msg23 l) 6 = 58 ∧ tot6 (msg23 l) = (msg23 l).length ∧ (msg23 l).length = 48 + min 1232 l.length ∧ (msg23 l).drop 40 = body23 l ∧ ((msg23 l).drop 8).take 16 = dstP l ∧ ((msg23 l).drop 24).take 16 = srcP l ∧ (srcP l).length = 16 ∧ (dstP l).length = 16 := by
  obtain ⟨cl, id, fl, tl, pr, x, y, K, hb, hl5⟩ := known6 l h
  have hx : (srcP l).length = 16 := by rw [← K.src, K.lx]
  have hy : (dstP l).length = 16 := by rw [← K.dst, K.ly]
  have hbl := body23_length l
  have hlen : (body23 l).length < 65536 := by rw [hbl]; omega
  obtain ⟨b1, b2, b3, b4, b5⟩ := all6_back 0 0 58 64 (dstP l) (srcP l) (body23 l) (by decide) (by decide) hlen (by decide) (by decide) hy hx
  have hm : msg23 l = all6 0 0 58 64 (dstP l) (srcP l) (body23 l) := rfl
  have hdrop : (msg23 l).drop 40 = body23 l := by
    rw [hm]
    unfold all6 raw6
    simp [List.drop_append, hx, hy]
  rw [← hm] at b1 b2 b3 b4 b5
  clear hm
  rw [hbl] at b2 b5
  generalize msg23 l = M at *
  generalize body23 l = Bd at *
  unfold ns6 at b2
  simp only [List.cons.injEq, and_true] at b2
  obtain ⟨_, _, c2, _, _, _, _, _, c8⟩ := b2
  exact ⟨b1, by omega, by omega, by omega, hdrop, b3, b4, hx, hy⟩
theorem msg23_known (l : List UInt8) (h : who6 l) : wholeB (msg23 l) = true ∧ errB (msg23 l) = true ∧ bad23 (msg23 l) = 0 ∧ read23 (msg23 l) = l.take 1232 ∧ (msg23 l).length = 48 + min 1232 l.length := by
  obtain ⟨b1, b2, b4, b5, b6, b8, b9, hx, hy⟩ := msg23_back l h
  obtain ⟨_, _, _, hi⟩ := is6_of _ b1
  have hb := (badP_of6 _ b1).1
  have et : totP (msg23 l) = (msg23 l).length := by unfold totP; rw [if_neg hi, b4]
  have es : sizP (msg23 l) = 40 := by unfold sizP; rw [if_neg hi]
  have hr : restP (msg23 l) = body23 l := by
    unfold restP
    rw [es, et, b6, List.take_of_length_le]
    rw [body23_length, b5]; omega
  have e1 : srcP (msg23 l) = dstP l := by
    have : srcP (msg23 l) = ((msg23 l).drop 8).take 16 := by unfold srcP; rw [if_neg hi]
    rw [this, b8]
  have e2 : dstP (msg23 l) = srcP l := by
    have : dstP (msg23 l) = ((msg23 l).drop 24).take 16 := by unfold dstP; rw [if_neg hi]
    rw [this, b9]
  obtain ⟨g0, g1, g4, g5, g6, g7, gd⟩ := body23_bytes l
  have hg := body23_good l hx hy
  have hbad : bad23 (msg23 l) = 0 := by
    unfold bad23 readG
    rw [hr, e1, e2, if_neg (by omega), if_neg (by omega), if_neg (by rw [body23_length]; omega), if_neg (by omega), if_neg (by omega), if_neg (by omega)]
  refine ⟨?_, ?_, hbad, ?_, b5⟩
  · unfold wholeB
    exact decide_eq_true ⟨hb, et, by rw [b5]; omega⟩
  · have e20 : gb (msg23 l) 40 = 1 := by
      rw [← b6] at g0
      unfold gb at g0 ⊢
      rw [List.getD_eq_getElem?_getD, List.getElem?_drop] at g0
      rw [List.getD_eq_getElem?_getD]
      exact g0
    unfold errB
    rw [es, e20]
    unfold frgP proP
    rw [if_neg hi, if_neg hi, if_neg hi, b2, et, b5]
    simp only [Bool.and_eq_true, decide_eq_true_eq]
    exact ⟨⟨hb, by omega, trivial, trivial⟩, rfl⟩
  · unfold read23
    rw [if_pos hbad, hr, gd]

def zs23 : List UInt8 := all6 0 0 0 0 zero16' zero16' [9]
theorem zs23_who : who6 zs23 ∧ (msg23 zs23).length = 89 ∧ zs23.length = 41 := by
  refine ⟨⟨by kernel_rfl, ?_⟩, by kernel_rfl, by kernel_rfl⟩
  exact of_decide_eq_true (by kernel_rfl)
set_option maxHeartbeats 1000000 in
theorem alive23_any (w0 : World) : Calls Try.prog 55 #[] w0 fun e w' => e = .returned (.bool true) ∧ Below w0.heap.size w0 w' := by
  have BH3 : Hid (Built 25 #[(0, .int .i64 6)] (.agg (AV [6] zero16'))) := Lib.hid (fun W => by kernel_rfl)
  have BH5 := Lib.hid (built_ends 6 6 zero16' zero16' rfl rfl)
  have LT1 : Hid (LitOf 1 #[(0, .int .u8 9)] [9]) := Lib.hid ⟨rfl, by decide, fun W => by kernel_rfl⟩
  have HPU := Lib.hid (fun (v : Value) (w : World) hr => put6_ok 0 0 0 0 0 0 0 0 0 zero16' zero16' v [9] w hr rfl rfl (by decide) (by decide) (by decide) (by decide) (by decide))
  have HC1 := Lib.hid (cellsA 6 zero16' rfl)
  have HL := Lib.hid zs23_who
  have HZS : Hid (all6 0 0 0 0 zero16' zero16' [9] = zs23) := Lib.hid rfl
  rw [HZS.out] at HPU
  unfold RowTup at HPU
  generalize zs23 = L at *
  generalize zero16' = Z at *
  have HUN := Lib.hid (fun A c w hr => unreach_ok A c L w hr HL.out.1)
  unfold RowTup at HUN
  generalize hM : msg23 L = M at HUN
  have HML : Hid (M.length = 89) := Lib.hid (by rw [← hM]; exact HL.out.2.1)
  clear hM
  have HM := Lib.hid (Mem.start w0)
  have HB := HM.out.below
  go_enter Try.func55, Try.ntmps55
  go_wp2_with (first | refine m_rd ?_ | (refine m_wr ?_; clear HM HB; intro w b HM HB; try clear b) | (refine m_ap ?_; clear HM HB; intro w Aq cq HM HB) | fail)
  refine (HPU.out _ _ (HM.out.rb (by ((repeat (first | exact List.Mem.head _ | apply List.Mem.tail)); done)))).mono ?_
  rintro e w ⟨v, rfl, ho, hb⟩
  replace HM := Lib.hid (HM.out.row hb ho)
  replace HB := HM.out.below
  clear ho hb
  obtain ⟨A2, c2, rfl, -, -⟩ := HM.out.rb (by ((repeat (first | exact List.Mem.head _ | apply List.Mem.tail)); done))
  go_wp2_with (first | refine m_rd ?_ | (refine m_wr ?_; clear HM HB; intro w b HM HB; try clear b) | (refine m_ap ?_; clear HM HB; intro w Aq cq HM HB) | fail)
  refine (HUN.out A2 c2 _ (HM.out.rb (by ((repeat (first | exact List.Mem.head _ | apply List.Mem.tail)); done)))).mono ?_
  rintro e w ⟨v, rfl, ho, hb⟩
  replace HM := Lib.hid (HM.out.row hb ho)
  replace HB := HM.out.below
  clear ho hb
  obtain ⟨A3, c3, rfl, -, -⟩ := HM.out.rb (by ((repeat (first | exact List.Mem.head _ | apply List.Mem.tail)); done))
  rw [HML.out]
  go_wp2_with (first | refine m_rd ?_ | (refine m_wr ?_; clear HM HB; intro w b HM HB; try clear b) | (refine m_ap ?_; clear HM HB; intro w Aq cq HM HB) | fail)
  go_ret
  exact ⟨rfl, HB⟩
set_option maxHeartbeats 1000000 in
theorem icmpsixReads_walk (A : Option Addr) (c : Nat) (l : List UInt8) (w0 : World) (hr : RB w0 (.slice A l.length c) l) :
    Calls Try.prog 16 #[.slice A l.length c] w0 fun e w' => e = .returned (.bool true) ∧ Below w0.heap.size w0 w' := by
  have hl := hr.len
  have HR := Lib.hid hr
  clear hr
  have HS := Lib.hid (read_any A c l)
  have HQ := Lib.hid (refRead_any A c l)
  generalize bad23 l = bq at HS HQ
  generalize read23 l = sl at HS HQ
  have HM := Lib.hid (Mem.start w0)
  have HB := HM.out.below
  by_cases h3 : 3000 < l.length
  · go_enter Try.func16, Try.ntmps16
    go_wp2_with (first | refine m_rd ?_ | (refine m_wr ?_; clear HM HB; intro w b HM HB; try clear b) | (refine m_ap ?_; clear HM HB; intro w Aq cq HM HB) | fail)
    refine (alive23_any _).mono ?_
    rintro e w ⟨rfl, hb⟩
    replace HM := Lib.hid (HM.out.call hb)
    replace HB := HM.out.below
    clear hb
    go_wp2_with (first | refine m_rd ?_ | (refine m_wr ?_; clear HM HB; intro w b HM HB; try clear b) | (refine m_ap ?_; clear HM HB; intro w Aq cq HM HB) | fail)
    go_ret
    exact ⟨rfl, HB⟩
  · go_enter Try.func16, Try.ntmps16
    go_wp2_with (first | refine m_rd ?_ | (refine m_wr ?_; clear HM HB; intro w b HM HB; try clear b) | (refine m_ap ?_; clear HM HB; intro w Aq cq HM HB) | fail)
    refine (HS.out _ (HR.out.below HB)).mono ?_
    rintro e w ⟨v, rfl, ho, hb⟩
    replace HM := Lib.hid (HM.out.row hb ho)
    replace HB := HM.out.below
    clear ho hb
    go_wp2_with (first | refine m_rd ?_ | (refine m_wr ?_; clear HM HB; intro w b HM HB; try clear b) | (refine m_ap ?_; clear HM HB; intro w Aq cq HM HB) | fail)
    refine (HQ.out _ (HR.out.below HB)).mono ?_
    rintro e w ⟨u, rfl, hu, hb⟩
    replace HM := Lib.hid (HM.out.call hb)
    replace HB := HM.out.below
    have HU := Lib.hid hu
    clear hb hu
    go_wp2_with (first | refine m_rd ?_ | (refine m_wr ?_; clear HM HB; intro w b HM HB; try clear b) | (refine m_ap ?_; clear HM HB; intro w Aq cq HM HB) | fail)
    refine (same_any _ _ sl sl _ (HM.out.rb (by ((repeat (first | exact List.Mem.head _ | apply List.Mem.tail)); done))) HU.out).mono ?_
    rintro e w ⟨rfl, hb⟩
    replace HM := Lib.hid (HM.out.call hb)
    replace HB := HM.out.below
    clear hb
    rw [decide_eq_true (rfl : sl = sl)]
    go_wp2_with (first | refine m_rd ?_ | (refine m_wr ?_; clear HM HB; intro w b HM HB; try clear b) | (refine m_ap ?_; clear HM HB; intro w Aq cq HM HB) | fail)
    refine (alive23_any _).mono ?_
    rintro e w ⟨rfl, hb⟩
    replace HM := Lib.hid (HM.out.call hb)
    replace HB := HM.out.below
    clear hb
    go_wp2_with (first | refine m_rd ?_ | (refine m_wr ?_; clear HM HB; intro w b HM HB; try clear b) | (refine m_ap ?_; clear HM HB; intro w Aq cq HM HB) | fail)
    go_ret
    exact ⟨rfl, HB⟩
set_option maxHeartbeats 2000000 in
theorem icmpsixTells_walk (A : Option Addr) (c : Nat) (l : List UInt8) (w0 : World) (hr : RB w0 (.slice A l.length c) l) :
    Calls Try.prog 15 #[.slice A l.length c] w0 fun e w' => e = .returned (.bool true) ∧ Below w0.heap.size w0 w' := by
  have hl := hr.len
  have HR := Lib.hid hr
  have hc : l.length ≤ c := by obtain ⟨A, c2, e, h, _⟩ := hr; injection e with _ _ e; omega
  clear hr
  have HM := Lib.hid (Mem.start w0)
  have HB := HM.out.below
  by_cases h3 : 3000 < l.length
  · go_enter Try.func15, Try.ntmps15
    go_wp2_with (first | refine m_rd ?_ | (refine m_wr ?_; clear HM HB; intro w b HM HB; try clear b) | (refine m_ap ?_; clear HM HB; intro w Aq cq HM HB) | fail)
    refine (alive23_any _).mono ?_
    rintro e w ⟨rfl, hb⟩
    replace HM := Lib.hid (HM.out.call hb)
    replace HB := HM.out.below
    clear hb
    go_wp2_with (first | refine m_rd ?_ | (refine m_wr ?_; clear HM HB; intro w b HM HB; try clear b) | (refine m_ap ?_; clear HM HB; intro w Aq cq HM HB) | fail)
    go_ret
    exact ⟨rfl, HB⟩
  by_cases hw : who6 l
  case neg =>
    have HS := Lib.hid (fun w hr => unreach_no A c l w hr hw)
    have HQ := Lib.hid (fun w hr => refUnreach_no A c l w hr hw)
    clear hw
    go_enter Try.func15, Try.ntmps15
    go_wp2_with (first | refine m_rd ?_ | (refine m_wr ?_; clear HM HB; intro w b HM HB; try clear b) | (refine m_ap ?_; clear HM HB; intro w Aq cq HM HB) | fail)
    refine (HS.out _ (HR.out.below HB)).mono ?_
    rintro e w ⟨rfl, hb⟩
    replace HM := Lib.hid (HM.out.call hb)
    replace HB := HM.out.below
    clear hb
    go_wp2_with (first | refine m_rd ?_ | (refine m_wr ?_; clear HM HB; intro w b HM HB; try clear b) | (refine m_ap ?_; clear HM HB; intro w Aq cq HM HB) | fail)
    refine (HQ.out _ (HR.out.below HB)).mono ?_
    rintro e w ⟨rfl, hb⟩
    replace HM := Lib.hid (HM.out.call hb)
    replace HB := HM.out.below
    clear hb
    go_wp2_with (first | refine m_rd ?_ | (refine m_wr ?_; clear HM HB; intro w b HM HB; try clear b) | (refine m_ap ?_; clear HM HB; intro w Aq cq HM HB) | fail)
    refine (same_any _ _ [] [] _ (RB.nil _) (RB.nil _)).mono ?_
    rintro e w ⟨rfl, hb⟩
    replace HM := Lib.hid (HM.out.call hb)
    replace HB := HM.out.below
    clear hb
    rw [decide_eq_true (rfl : ([] : List UInt8) = [])]
    go_wp2_with (first | refine m_rd ?_ | (refine m_wr ?_; clear HM HB; intro w b HM HB; try clear b) | (refine m_ap ?_; clear HM HB; intro w Aq cq HM HB) | fail)
    refine (alive23_any _).mono ?_
    rintro e w ⟨rfl, hb⟩
    replace HM := Lib.hid (HM.out.call hb)
    replace HB := HM.out.below
    clear hb
    go_wp2_with (first | refine m_rd ?_ | (refine m_wr ?_; clear HM HB; intro w b HM HB; try clear b) | (refine m_ap ?_; clear HM HB; intro w Aq cq HM HB) | fail)
    go_ret
    exact ⟨rfl, HB⟩
  have HS := Lib.hid (fun w hr => unreach_ok A c l w hr hw)
  unfold RowTup at HS
  have HQ := Lib.hid (fun w hr => refUnreach_ok A c l w hr hw)
  obtain ⟨m1, m2, m3, m4, m5⟩ := msg23_known l hw
  have HRD := Lib.hid (fun A c => read_any A c (msg23 l))
  have HWH := Lib.hid (fun A c => refWhole_any A c (msg23 l))
  have HER := Lib.hid (fun A c => refIsError_any A c (msg23 l))
  rw [m3, m4] at HRD
  rw [m1] at HWH
  rw [m2] at HER
  obtain ⟨cl, id, fl, tl, pr, x, y, K, hb, hl5⟩ := known6 l hw
  have d := K.low
  obtain ⟨ad, rfl⟩ := HR.out.some (by omega)
  have hl20 : 20 ≤ l.length := by omega
  obtain ⟨k, hk⟩ : ∃ k, k = 48 + min 1232 l.length := ⟨_, rfl⟩
  have HLM : Hid ((msg23 l).length = k) := Lib.hid (by rw [m5, hk])
  rw [HLM.out] at HRD HWH HER
  have hk5 : k ≤ 1280 := by omega
  clear m1 m2 m3 m4 m5 hw K d hb hk
  generalize msg23 l = Mq at HS HQ HRD HWH HER HLM
  by_cases h5 : l.length ≤ 1232
  case' pos =>
    have hs := run_to ad l.length c l.length l.length rfl (by omega) (by omega)
    have HF := Lib.hid (fun (w : World) (hb : Below w0.heap.size w0 w) => (HR.out.below hb).front l.length c (by omega) (by omega))
    rw [show l.take l.length = l.take 1232 by rw [List.take_length, List.take_of_length_le h5]] at HF
  case' neg =>
    have hs := run_to ad l.length c 1232 1232 rfl (by omega) (by omega)
    have HF := Lib.hid (fun (w : World) (hb : Below w0.heap.size w0 w) => (HR.out.below hb).front 1232 c (by omega) (by omega))
  all_goals
    generalize l.take 1232 = F5 at HF HRD
    go_enter Try.func15, Try.ntmps15
    go_wp2_with (first | refine m_rd ?_ | (refine m_wr ?_; clear HM HB; intro w b HM HB; try clear b) | (refine m_ap ?_; clear HM HB; intro w Aq cq HM HB) | fail)
    refine (HS.out _ (HR.out.below HB)).mono ?_
    rintro e w ⟨v, rfl, ho, hb⟩
    replace HM := Lib.hid (HM.out.row hb ho)
    replace HB := HM.out.below
    clear ho hb
    obtain ⟨A2, c2, rfl, -, -⟩ := HM.out.rb (by ((repeat (first | exact List.Mem.head _ | apply List.Mem.tail)); done))
    rw [HLM.out] at HM ⊢
    go_wp2_with (first | refine m_rd ?_ | (refine m_wr ?_; clear HM HB; intro w b HM HB; try clear b) | (refine m_ap ?_; clear HM HB; intro w Aq cq HM HB) | fail)
    refine (HQ.out _ (HR.out.below HB)).mono ?_
    rintro e w ⟨u, rfl, ho, hb⟩
    replace HM := Lib.hid (HM.out.row hb ho)
    replace HB := HM.out.below
    clear ho hb
    go_wp2_with (first | refine m_rd ?_ | (refine m_wr ?_; clear HM HB; intro w b HM HB; try clear b) | (refine m_ap ?_; clear HM HB; intro w Aq cq HM HB) | fail)
    refine (same_any _ _ Mq Mq _ (HM.out.rb (by ((repeat (first | exact List.Mem.head _ | apply List.Mem.tail)); done))) (HM.out.rb (by ((repeat (first | exact List.Mem.head _ | apply List.Mem.tail)); done)))).mono ?_
    rintro e w ⟨rfl, hb⟩
    replace HM := Lib.hid (HM.out.call hb)
    replace HB := HM.out.below
    clear hb
    rw [decide_eq_true (rfl : Mq = Mq)]
    go_wp2_with (first | refine m_rd ?_ | (refine m_wr ?_; clear HM HB; intro w b HM HB; try clear b) | (refine m_ap ?_; clear HM HB; intro w Aq cq HM HB) | fail)
    refine (HRD.out A2 c2 _ (HM.out.rb (by ((repeat (first | exact List.Mem.head _ | apply List.Mem.tail)); done)))).mono ?_
    rintro e w ⟨q, rfl, ho, hb⟩
    replace HM := Lib.hid (HM.out.row hb ho)
    replace HB := HM.out.below
    clear ho hb
    go_wp2_with (first | refine m_rd ?_ | (refine m_wr ?_; clear HM HB; intro w b HM HB; try clear b) | (refine m_ap ?_; clear HM HB; intro w Aq cq HM HB) | fail)
    refine (same_any _ _ F5 F5 _ (HM.out.rb (by ((repeat (first | exact List.Mem.head _ | apply List.Mem.tail)); done))) (HF.out _ HB)).mono ?_
    rintro e w ⟨rfl, hb⟩
    replace HM := Lib.hid (HM.out.call hb)
    replace HB := HM.out.below
    clear hb
    rw [decide_eq_true (rfl : F5 = F5)]
    go_wp2_with (first | refine m_rd ?_ | (refine m_wr ?_; clear HM HB; intro w b HM HB; try clear b) | (refine m_ap ?_; clear HM HB; intro w Aq cq HM HB) | fail)
    refine (HWH.out A2 c2 _ (HM.out.rb (by ((repeat (first | exact List.Mem.head _ | apply List.Mem.tail)); done)))).mono ?_
    rintro e w ⟨rfl, hb⟩
    replace HM := Lib.hid (HM.out.call hb)
    replace HB := HM.out.below
    clear hb
    go_wp2_with (first | refine m_rd ?_ | (refine m_wr ?_; clear HM HB; intro w b HM HB; try clear b) | (refine m_ap ?_; clear HM HB; intro w Aq cq HM HB) | fail)
    refine (HER.out A2 c2 _ (HM.out.rb (by ((repeat (first | exact List.Mem.head _ | apply List.Mem.tail)); done)))).mono ?_
    rintro e w ⟨rfl, hb⟩
    replace HM := Lib.hid (HM.out.call hb)
    replace HB := HM.out.below
    clear hb
    go_wp2_with (first | refine m_rd ?_ | (refine m_wr ?_; clear HM HB; intro w b HM HB; try clear b) | (refine m_ap ?_; clear HM HB; intro w Aq cq HM HB) | fail)
    refine (alive23_any _).mono ?_
    rintro e w ⟨rfl, hb⟩
    replace HM := Lib.hid (HM.out.call hb)
    replace HB := HM.out.below
    clear hb
    go_wp2_with (first | refine m_rd ?_ | (refine m_wr ?_; clear HM HB; intro w b HM HB; try clear b) | (refine m_ap ?_; clear HM HB; intro w Aq cq HM HB) | fail)
    go_ret
    exact ⟨rfl, HB⟩
end Go.Proofs.Ytahnibhcfdamdaa.I6
