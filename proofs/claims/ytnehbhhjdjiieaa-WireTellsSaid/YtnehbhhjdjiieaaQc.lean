/- The statements of cookie. -/
import Derived.Test.YtnehbhhjdjiieaaOc
import Derived.Test.YtnehbhhjdjiieaaMo
import Derived.Test.YtnehbhhjdjiieaaBu
set_option linter.unusedSimpArgs false
set_option linter.unusedVariables false
set_option maxRecDepth 100000
namespace Go.Proofs.Ytnehbhhjdjiieaa.Mc
open Go.RowKit Go.Proofs.YtnehbhhjdjiieaaW.PrintWords Go.Proofs.Ytnehbhhjdjiieaa.Bs Go.Proofs.Ytnehbhhjdjiieaa.Le Go.Proofs.Ytnehbhhjdjiieaa.Mv

theorem buildM (W : World) : (Instr.build 26 #[]).run Try.prog W = .ok (.agg ZM) W := by kernel_rfl
theorem raw_zero : raw1 3 0 (List.replicate 56 0) = 3 :: List.replicate 63 0 := by decide
set_option maxHeartbeats 2000000 in
theorem alive_any (w : World) : Calls Try.prog 22 #[] w fun e w' => e = .returned (.bool true) ∧ Below w.heap.size w w' := by
  go_enter Try.func22, Try.ntmps22
  go_wp2_with (first | ((with_reducible refine step_build rfl 26 rfl ZM buildM ?_)))
  refine (bytes_any 0 (List.replicate 56 0) _ (by decide) (by simp)).mono ?_
  rintro e w1 ⟨v, rfl, ho, hb⟩
  rw [raw_zero] at ho
  obtain ⟨g, cap, rfl, _, _, _⟩ := OB.form ho (by simp)
  have hc := (OB.at_ ho 0 (by simp)).1
  have HB := Lib.hid hb
  have hlen : (3 :: List.replicate 63 (0 : UInt8)).length = 64 := by simp
  rw [hlen] at *
  have hc2 : w1.cell? ⟨g, 0, none⟩ = some (.int .u8 3) := hc
  clear ho hb hc hlen
  go_wp2_with fail
  go_ret
  exact ⟨rfl, HB.out⟩

set_option maxHeartbeats 4000000 in
theorem back_walk (n : Nat) (L : List UInt8) (w : World) (hn : n < 4294967296) (hL : L.length = 56) :
    Calls Try.prog 3 #[.agg (MV [n] L)] w fun e w' => e = .returned (.bool true) ∧ Below w.heap.size w w' := by
  have HL := Lib.hid hL
  have HSZ : Hid ((MV [n] L).size = ZM.size) := Lib.hid (by rw [MV_size, ZM_size, hL]; rfl)
  have HX := Lib.hid (blk_new w (.cells (MV [n] L) 26))
  have HLR : Hid ((raw1 3 n L).length ≤ 1099511627776) := Lib.hid (by rw [raw1_length, hL]; decide)
  have HMS : Hid (msg1 3 56 (raw1 3 n L) = (MV [n] L)) := Lib.hid (raw1_msg 3 n 56 L hn hL)
  have HBD : Hid (badM 3 64 (raw1 3 n L) = 0) := Lib.hid (by have h := raw1_good 3 n L; rw [hL] at h; exact h)
  have heq := fun w : World => eq_cookie n L hn hL w
  clear hL
  go_enter Try.func3, Try.ntmps3
  go_wp2_with (first | ((with_reducible refine step_load (b := w.heap.size) (cs := (MV [n] L)) (T := 26) rfl 26 (.tmp 1) rfl rfl HX.out _ Try.underlying26 rfl ?i ?_); (case i => exact info_MV _ _ (by show _ + L.length = _; rw [HL.out]; rfl))))
  refine (bytes_any n L _ hn HL.out).mono ?_
  rintro e w1 ⟨v, rfl, ho, hb⟩
  have HX1 := Lib.hid (blk_below HX.out hb)
  have HB1 := Lib.hid (below_comp (below_alloc (Below.refl _ _) _) hb)
  obtain ⟨A, c, rfl, hcl, hr⟩ := ho.rb
  have HR1 : Hid (RB w1 (.slice A (raw1 3 n L).length c) (raw1 3 n L)) := Lib.hid ⟨A, c, rfl, hcl, hr⟩
  have HR1' := Lib.hid hr
  clear ho hb hr HX
  go_wp2_with fail
  refine (parse_any A c (raw1 3 n L) w1 hcl HR1'.out HLR.out).mono ?_
  rintro e w2 ⟨rfl, hb2⟩
  rw [HMS.out, HBD.out]
  have HX2 := Lib.hid (blk_below HX1.out hb2)
  have HB2 := Lib.hid (below_comp HB1.out hb2)
  have HR2 := Lib.hid (HR1.out.below hb2)
  have FA := Lib.hid (blk_new w2 (.cells ZM 26))
  have hs : Below w2.heap.size w2 ((w2.alloc (.cells ZM 26)).setCells w2.heap.size 0 (MV [n] L).toList) := setCells_below _ (Nat.le_refl _) _ _ _ (below_alloc (Below.refl _ _) _)
  have G4 : Hid (((w2.alloc (.cells ZM 26)).setCells w2.heap.size 0 (MV [n] L).toList).heap[w2.heap.size]? = some (.cells (MV [n] L) 26 (0, 0))) := Lib.hid (setCells_block FA.out HSZ.out)
  have G1 := Lib.hid (blk_below HX2.out hs)
  have HB3 := Lib.hid (below_comp HB2.out hs)
  have HR3 := Lib.hid (HR2.out.below hs)
  clear hb2 hs HX1 HB1 HR1 HR1' HX2 HB2 HR2 HMS HBD hcl
  go_wp2_with (first | ((with_reducible refine step_alloc rfl 26 rfl ZM zeroM ?_)) | ((with_reducible refine step_store (b := w2.heap.size) (vs := (MV [n] L)) rfl 26 (.tmp 4) (.tmp 11) rfl rfl rfl FA.out ?s ?i (MV_one _ _) ?_); (case s => exact HSZ.out); (case i => exact info_ZM)) | ((with_reducible refine step_load (b := w.heap.size) (cs := (MV [n] L)) (T := 26) rfl 26 (.tmp 1) rfl rfl G1.out _ Try.underlying26 rfl ?i ?_); (case i => exact info_MV _ _ (by show _ + L.length = _; rw [HL.out]; rfl))))
  refine (refBytes_any n L _ hn HL.out).mono ?_
  rintro e w4 ⟨u, rfl, ho, hb⟩
  have G4' := Lib.hid (blk_below G4.out hb)
  have G1' := Lib.hid (blk_below G1.out hb)
  have HB4 := Lib.hid (below_comp HB3.out hb)
  have HR4 := Lib.hid (HR3.out.below hb)
  have HU4 := Lib.hid ho.rb
  clear ho hb G4 G1 HB3 HR3 FA
  go_wp2_with fail
  refine (En.same_any _ u (raw1 3 n L) (raw1 3 n L) _ HR4.out HU4.out).mono ?_
  rintro e w5 ⟨rfl, hb⟩
  rw [show decide ((raw1 3 n L) = (raw1 3 n L)) = true from decide_eq_true rfl]
  have G4 := Lib.hid (blk_below G4'.out hb)
  have G1 := Lib.hid (blk_below G1'.out hb)
  have HB5 := Lib.hid (below_comp HB4.out hb)
  clear hb G4' G1' HB4 HR4 HU4
  go_wp2_with (first | ((with_reducible refine step_loadG (b := w2.heap.size) (cs := (MV [n] L)) (T := 26) ?hw 26 (.tmp 4) rfl rfl G4.out _ Try.underlying26 rfl ?i ?_); (case hw => rfl); (case i => exact info_MV _ _ (by show _ + L.length = _; rw [HL.out]; rfl))) | ((with_reducible refine step_loadG (b := w.heap.size) (cs := (MV [n] L)) (T := 26) ?hw 26 (.tmp 1) rfl rfl G1.out _ Try.underlying26 rfl ?i ?_); (case hw => rfl); (case i => exact info_MV _ _ (by show _ + L.length = _; rw [HL.out]; rfl))))
  refine (alive_any _).mono ?_
  rintro e w6 ⟨rfl, hb⟩
  have HB6 := Lib.hid (below_comp HB5.out hb)
  clear hb
  go_wp2_with fail
  go_ret
  exact ⟨rfl, HB6.out⟩

theorem msg_full (b : List UInt8) : ∃ (n : Nat) (L : List UInt8), msg1 3 56 b = (MV [n] L) ∧ n < 4294967296 ∧ L.length = 56 ∧ (badM 3 64 b = 0 → (raw1 3 n L) = b) := by
  by_cases h : badM 3 64 b = 0
  · have hf := msg1_form 3 56 b
    have hm : msg1 3 56 b = _ := if_pos h
    obtain ⟨n, L, e, hn, hL⟩ := hf
    obtain ⟨h1, _⟩ := badM_zero h
    refine ⟨_, _, hm, ?_, by rw [List.length_drop]; omega, fun _ => back1 (sz := 56) h⟩
    · have := ofLe_lt ((b.drop 4).take 4); rw [show ((b.drop 4).take 4).length = 4 by rw [List.length_take, List.length_drop]; omega] at this; exact this
  · exact ⟨0, List.replicate 56 0, bad_msg b h, by decide, by simp, fun e => absurd e h⟩
set_option maxHeartbeats 4000000 in
theorem reads_walk (A : Option Addr) (c : Nat) (b : List UInt8) (w : World) (hc : b.length ≤ c) (hr : ReadsOf B 0 w A b.length b) :
    Calls Try.prog 4 #[.slice A b.length c] w fun e w' => e = .returned (.bool true) ∧ Below w.heap.size w w' := by
  have hbl := hr.2.1
  by_cases h : 400 < b.length
  · go_enter Try.func4, Try.ntmps4
    go_wp2_with fail
    refine (alive_any _).mono ?_
    rintro e w' ⟨rfl, hb⟩
    go_wp2_with fail
    go_ret
    exact ⟨rfl, hb⟩
  have HLN : Hid (b.length ≤ 1099511627776) := Lib.hid (by omega)
  obtain ⟨n, L, hmsg, hn, hL, hraw⟩ := msg_full b
  have HL := Lib.hid hL
  have HSZ : Hid ((MV [n] L).size = ZM.size) := Lib.hid (by rw [MV_size, ZM_size, hL]; rfl)
  have HMSG := Lib.hid hmsg
  have heq := fun w : World => eq_cookie n L hn hL w
  have HR := Lib.hid hr
  have HRB : Hid (RB w (.slice A b.length c) b) := Lib.hid ⟨A, c, rfl, hc, hr⟩
  clear hL hmsg hr
  by_cases hB : badM 3 64 b = 0
  · have HRAW := Lib.hid (hraw hB)
    have HBAD := Lib.hid hB
    clear hraw hB
    go_enter Try.func4, Try.ntmps4
    go_wp2_with fail
    refine (parse_any A c b _ hc HR.out HLN.out).mono ?_
    rintro e w1 ⟨rfl, hb1⟩
    rw [HMSG.out, HBAD.out]
    have HRB1 := Lib.hid (HRB.out.below hb1)
    have HB1 := Lib.hid hb1
    have FA := Lib.hid (blk_new w1 (.cells ZM 26))
    have hs : Below w1.heap.size w1 ((w1.alloc (.cells ZM 26)).setCells w1.heap.size 0 (MV [n] L).toList) := setCells_below _ (Nat.le_refl _) _ _ _ (below_alloc (Below.refl _ _) _)
    have G3 : Hid (((w1.alloc (.cells ZM 26)).setCells w1.heap.size 0 (MV [n] L).toList).heap[w1.heap.size]? = some (.cells (MV [n] L) 26 (0, 0))) := Lib.hid (setCells_block FA.out HSZ.out)
    have HB1' := Lib.hid (below_comp HB1.out hs)
    have HRB1' := Lib.hid (HRB1.out.below hs)
    obtain ⟨A', c', e', hc1, hr1⟩ := HRB1'.out
    injection e' with e1 e2 e3
    subst e1 e3
    have HR1 := Lib.hid hr1
    clear hb1 hs hr1 e2
    go_wp2_with (first | ((with_reducible refine step_alloc rfl 26 rfl ZM zeroM ?_)) | ((with_reducible refine step_store (b := w1.heap.size) (vs := (MV [n] L)) rfl 26 (.tmp 3) (.tmp 14) rfl rfl rfl FA.out ?s ?i (MV_one _ _) ?_); (case s => exact HSZ.out); (case i => exact info_ZM)))
    refine (refParse_any A c b _ hc HR1.out HLN.out).mono ?_
    rintro e w2 ⟨rfl, hb2⟩
    rw [HMSG.out, HBAD.out]
    have G3' := Lib.hid (blk_below G3.out hb2)
    have HB2 := Lib.hid (below_comp HB1'.out hb2)
    have HRB2 := Lib.hid (HRB1'.out.below hb2)
    have FB := Lib.hid (blk_new w2 (.cells ZM 26))
    have hs : Below w2.heap.size w2 ((w2.alloc (.cells ZM 26)).setCells w2.heap.size 0 (MV [n] L).toList) := setCells_below _ (Nat.le_refl _) _ _ _ (below_alloc (Below.refl _ _) _)
    have G5 : Hid (((w2.alloc (.cells ZM 26)).setCells w2.heap.size 0 (MV [n] L).toList).heap[w2.heap.size]? = some (.cells (MV [n] L) 26 (0, 0))) := Lib.hid (setCells_block FB.out HSZ.out)
    have G4 := Lib.hid (blk_below G3'.out hs)
    have HB3 := Lib.hid (below_comp HB2.out hs)
    have HRB3 := Lib.hid (HRB2.out.below hs)
    clear hb2 hs G3 G3' HB1 HB1' HRB1 HRB1' HB2 HRB2 HR1
    go_wp2_with (first | ((with_reducible refine step_alloc rfl 26 rfl ZM zeroM ?_)) | ((with_reducible refine step_store (b := w2.heap.size) (vs := (MV [n] L)) rfl 26 (.tmp 5) (.tmp 19) rfl rfl rfl FB.out ?s ?i (MV_one _ _) ?_); (case s => exact HSZ.out); (case i => exact info_ZM)) | ((with_reducible refine step_load (b := w1.heap.size) (cs := (MV [n] L)) (T := 26) rfl 26 (.tmp 3) rfl rfl G4.out _ Try.underlying26 rfl ?i ?_); (case i => exact info_MV _ _ (by show _ + L.length = _; rw [HL.out]; rfl))) | ((with_reducible refine step_load (b := w2.heap.size) (cs := (MV [n] L)) (T := 26) rfl 26 (.tmp 5) rfl rfl G5.out _ Try.underlying26 rfl ?i ?_); (case i => exact info_MV _ _ (by show _ + L.length = _; rw [HL.out]; rfl))) | ((with_reducible refine step_loadG (b := w1.heap.size) (cs := (MV [n] L)) (T := 26) ?hw 26 (.tmp 3) rfl rfl G4.out _ Try.underlying26 rfl ?i ?_); (case hw => rfl); (case i => exact info_MV _ _ (by show _ + L.length = _; rw [HL.out]; rfl))))
    refine (bytes_any n L _ hn HL.out).mono ?_
    rintro e w4 ⟨v, rfl, ho, hb⟩
    rw [HRAW.out] at ho
    have HB4 := Lib.hid (below_comp HB3.out hb)
    have HV := Lib.hid ho.rb
    have HRB4 := Lib.hid (HRB3.out.below hb)
    clear ho hb G4 G5 HB3 HRB3
    go_wp2_with fail
    refine (En.same_any v _ b b _ HV.out HRB4.out).mono ?_
    rintro e w5 ⟨rfl, hb⟩
    rw [show decide (b = b) = true from decide_eq_true rfl]
    have HB3 := Lib.hid (below_comp HB4.out hb)
    clear hb HB4 HRB4 HV
    go_wp2_with fail
    refine (alive_any _).mono ?_
    rintro e w6 ⟨rfl, hb⟩
    have HB6 := Lib.hid (below_comp HB3.out hb)
    clear hb
    go_wp2_with fail
    go_ret
    exact ⟨rfl, HB6.out⟩
  · obtain ⟨B, hBe⟩ : ∃ B, badM 3 64 b = B := ⟨_, rfl⟩
    have HBAD := Lib.hid hBe
    rw [hBe] at hB
    clear hraw hBe
    go_enter Try.func4, Try.ntmps4
    go_wp2_with fail
    refine (parse_any A c b _ hc HR.out HLN.out).mono ?_
    rintro e w1 ⟨rfl, hb1⟩
    rw [HMSG.out, HBAD.out]
    have HRB1 := Lib.hid (HRB.out.below hb1)
    have HB1 := Lib.hid hb1
    have FA := Lib.hid (blk_new w1 (.cells ZM 26))
    have hs : Below w1.heap.size w1 ((w1.alloc (.cells ZM 26)).setCells w1.heap.size 0 (MV [n] L).toList) := setCells_below _ (Nat.le_refl _) _ _ _ (below_alloc (Below.refl _ _) _)
    have G3 : Hid (((w1.alloc (.cells ZM 26)).setCells w1.heap.size 0 (MV [n] L).toList).heap[w1.heap.size]? = some (.cells (MV [n] L) 26 (0, 0))) := Lib.hid (setCells_block FA.out HSZ.out)
    have HB1' := Lib.hid (below_comp HB1.out hs)
    have HRB1' := Lib.hid (HRB1.out.below hs)
    obtain ⟨A', c', e', hc1, hr1⟩ := HRB1'.out
    injection e' with e1 e2 e3
    subst e1 e3
    have HR1 := Lib.hid hr1
    clear hb1 hs hr1 e2
    go_wp2_with (first | ((with_reducible refine step_alloc rfl 26 rfl ZM zeroM ?_)) | ((with_reducible refine step_store (b := w1.heap.size) (vs := (MV [n] L)) rfl 26 (.tmp 3) (.tmp 14) rfl rfl rfl FA.out ?s ?i (MV_one _ _) ?_); (case s => exact HSZ.out); (case i => exact info_ZM)))
    refine (refParse_any A c b _ hc HR1.out HLN.out).mono ?_
    rintro e w2 ⟨rfl, hb2⟩
    rw [HMSG.out, HBAD.out]
    have G3' := Lib.hid (blk_below G3.out hb2)
    have HB2 := Lib.hid (below_comp HB1'.out hb2)
    have HRB2 := Lib.hid (HRB1'.out.below hb2)
    have FB := Lib.hid (blk_new w2 (.cells ZM 26))
    have hs : Below w2.heap.size w2 ((w2.alloc (.cells ZM 26)).setCells w2.heap.size 0 (MV [n] L).toList) := setCells_below _ (Nat.le_refl _) _ _ _ (below_alloc (Below.refl _ _) _)
    have G5 : Hid (((w2.alloc (.cells ZM 26)).setCells w2.heap.size 0 (MV [n] L).toList).heap[w2.heap.size]? = some (.cells (MV [n] L) 26 (0, 0))) := Lib.hid (setCells_block FB.out HSZ.out)
    have G4 := Lib.hid (blk_below G3'.out hs)
    have HB3 := Lib.hid (below_comp HB2.out hs)
    have HRB3 := Lib.hid (HRB2.out.below hs)
    clear hb2 hs G3 G3' HB1 HB1' HRB1 HRB1' HB2 HRB2 HR1
    go_wp2_with (first | ((with_reducible refine step_alloc rfl 26 rfl ZM zeroM ?_)) | ((with_reducible refine step_store (b := w2.heap.size) (vs := (MV [n] L)) rfl 26 (.tmp 5) (.tmp 19) rfl rfl rfl FB.out ?s ?i (MV_one _ _) ?_); (case s => exact HSZ.out); (case i => exact info_ZM)) | ((with_reducible refine step_load (b := w1.heap.size) (cs := (MV [n] L)) (T := 26) rfl 26 (.tmp 3) rfl rfl G4.out _ Try.underlying26 rfl ?i ?_); (case i => exact info_MV _ _ (by show _ + L.length = _; rw [HL.out]; rfl))) | ((with_reducible refine step_load (b := w2.heap.size) (cs := (MV [n] L)) (T := 26) rfl 26 (.tmp 5) rfl rfl G5.out _ Try.underlying26 rfl ?i ?_); (case i => exact info_MV _ _ (by show _ + L.length = _; rw [HL.out]; rfl))) | ((with_reducible refine step_loadG (b := w1.heap.size) (cs := (MV [n] L)) (T := 26) ?hw 26 (.tmp 3) rfl rfl G4.out _ Try.underlying26 rfl ?i ?_); (case hw => rfl); (case i => exact info_MV _ _ (by show _ + L.length = _; rw [HL.out]; rfl))))
    refine (alive_any _).mono ?_
    rintro e w6 ⟨rfl, hb⟩
    have HB6 := Lib.hid (below_comp HB3.out hb)
    clear hb
    go_wp2_with fail
    go_ret
    exact ⟨rfl, HB6.out⟩
end Go.Proofs.Ytnehbhhjdjiieaa.Mc
