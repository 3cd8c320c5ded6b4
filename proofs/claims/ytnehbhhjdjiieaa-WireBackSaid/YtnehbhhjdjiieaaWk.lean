/- The statement of wire: there and back. -/
import Derived.Test.YtnehbhhjdjiieaaWl
set_option linter.unusedSimpArgs false
set_option linter.unusedVariables false
set_option maxRecDepth 100000
namespace Go.Proofs.Ytnehbhhjdjiieaa.Wm
open Go.RowKit Go.Proofs.YtnehbhhjdjiieaaW.PrintWords Go.Proofs.Ytnehbhhjdjiieaa.Bs Go.Proofs.Ytnehbhhjdjiieaa.Mv Go.Proofs.Ytnehbhhjdjiieaa.Da Go.Proofs.Ytnehbhhjdjiieaa.Le

set_option maxHeartbeats 4000000 in
theorem back_walk (kd : Int) (n1 : Nat) (L1 : List UInt8) (n2 m2 : Nat) (L2 : List UInt8) (n3 : Nat) (L3 : List UInt8) (r c : Nat) (A : Option Addr) (body : List UInt8) (k : Nat) (w : World) (hn1 : n1 < 4294967296) (hL1 : L1.length = 140) (hn2 : n2 < 4294967296) (hm2 : m2 < 4294967296) (hL2 : L2.length = 80) (hn3 : n3 < 4294967296) (hL3 : L3.length = 56) (hrr : r < 4294967296) (HCC : Hid (c < 18446744073709551616)) (hb : RB w (.slice A body.length k) body) :
    Calls Try.prog 15 #[.agg (WV (kd) (MV [n1] L1) (MV [n2, m2] L2) (MV [n3] L3) #[.int .u32 (r : Int), .int .u64 (c : Int), .slice A body.length k])] w fun e w' => e = .returned (.bool true) ∧ Below w.heap.size w w' := by
  have hbl := hb.len
  have HL1 := Lib.hid hL1
  have HL2 := Lib.hid hL2
  have HL3 := Lib.hid hL3
  have HX := Lib.hid (blk_new w (.cells (WV (kd) (MV [n1] L1) (MV [n2, m2] L2) (MV [n3] L3) #[.int .u32 (r : Int), .int .u64 (c : Int), .slice A body.length k]) 87))
  have HV := Lib.hid (hb.alloc (.cells (WV (kd) (MV [n1] L1) (MV [n2, m2] L2) (MV [n3] L3) #[.int .u32 (r : Int), .int .u64 (c : Int), .slice A body.length k]) 87))
  have HB := Lib.hid (below_alloc (Below.refl w.heap.size w) (.cells (WV (kd) (MV [n1] L1) (MV [n2, m2] L2) (MV [n3] L3) #[.int .u32 (r : Int), .int .u64 (c : Int), .slice A body.length k]) 87))
  have ct : (w.alloc (.cells (WV (kd) (MV [n1] L1) (MV [n2, m2] L2) (MV [n3] L3) #[.int .u32 (r : Int), .int .u64 (c : Int), .slice A body.length k]) 87)).cell? ⟨w.heap.size, 283, none⟩ = some (.slice A body.length k) := by
    refine (blk_cell HX.out 283).trans ?_
    rw [WV_t, Array.append_assoc, Array.append_empty, Array.getElem?_append_right (by simp only [Array.size_append, MV1s, MV2s, hL1, hL2, hL3]; show 1 + (1 + 140) + (2 + 80) + (1 + 56) ≤ 283; decide)]
    simp only [Array.size_append, MV1s, MV2s, hL1, hL2, hL3]
    rfl
  clear hb
  have LD : ∀ {ops : Array Oper} {rest : List Oper} {op : Oper} {a : Act} {Q : Exit → Act → World → Prop}, op.guard = none → op.op = .load 87 (.tmp 1) → a.eval (.tmp 1) = .pointer (some ⟨w.heap.size, 0, none⟩) → wpList Try.prog ops Q rest (a.put op.dst (.agg (WV (kd) (MV [n1] L1) (MV [n2, m2] L2) (MV [n3] L3) #[.int .u32 (r : Int), .int .u64 (c : Int), .slice A body.length k]))) (w.alloc (.cells (WV (kd) (MV [n1] L1) (MV [n2, m2] L2) (MV [n3] L3) #[.int .u32 (r : Int), .int .u64 (c : Int), .slice A body.length k]) 87)) → wpList Try.prog ops Q (op :: rest) a (w.alloc (.cells (WV (kd) (MV [n1] L1) (MV [n2, m2] L2) (MV [n3] L3) #[.int .u32 (r : Int), .int .u64 (c : Int), .slice A body.length k]) 87)) := fun hg ho hx h => step_load hg 87 (.tmp 1) ho hx HX.out _ Try.underlying87 rfl (by rw [show (WV (kd) (MV [n1] L1) (MV [n2, m2] L2) (MV [n3] L3) #[.int .u32 (r : Int), .int .u64 (c : Int), .slice A body.length k]).size = ZW.size from (by rw [ZW_size]; exact WV_size _ _ _ _ _ (by rw [MV1s, HL1.out]) (by rw [MV2s, HL2.out]) (by rw [MV1s, HL3.out]) rfl), ZW_size]; exact infoW) h
  by_cases h : 1000 < body.length
  · go_enter Try.func15, Try.ntmps15
    go_wp2_with fail
    refine (alive_any _).mono ?_
    rintro e wf ⟨rfl, hb⟩
    have HB9 := Lib.hid (below_comp HB.out hb)
    clear hb
    go_wp2_with fail
    go_ret
    exact ⟨rfl, HB9.out⟩
  obtain ⟨o, ho⟩ : ∃ o, outW kd n1 L1 n2 m2 L2 n3 L3 r c body = o := ⟨_, rfl⟩
  have HO := Lib.hid ho
  have herr := out_err kd n1 L1 n2 m2 L2 n3 L3 r c body hL1 hL2 hL3
  have HOL := Lib.hid (out_len kd n1 L1 n2 m2 L2 n3 L3 r c body hL1 hL2 hL3 (by omega))
  rw [ho] at herr HOL
  have HERR := Lib.hid herr
  clear ho herr hL1 hL2 hL3
  obtain ⟨b, E⟩ := o
  go_enter Try.func15, Try.ntmps15
  go_wp2_with (first | ((with_reducible refine LD rfl rfl rfl ?_)))
  refine (bytes_any kd n1 L1 n2 m2 L2 n3 L3 r c A body k _ hn1 HL1.out hn2 hm2 HL2.out hn3 HL3.out hrr HCC HV.out).mono ?_
  rintro e w1 ⟨v1, rfl, ho1, hb⟩
  rw [HO.out] at ho1 ⊢
  have HX1 := Lib.hid (blk_below HX.out hb)
  have HB1 := Lib.hid (below_comp HB.out hb)
  have HV1 := Lib.hid (HV.out.below hb)
  obtain ⟨A1, k1, e1, hk1, hr1⟩ := ho1.rb
  subst e1
  have HR1 : Hid (RB w1 (.slice A1 b.length k1) b) := Lib.hid ⟨A1, k1, rfl, hk1, hr1⟩
  clear ho1 hb hr1 LD ct HX HB HV
  dsimp only
  have LE : ∀ {ops : Array Oper} {rest : List Oper} {op : Oper} {a : Act} {Q : Exit → Act → World → Prop}, op.guard = none → op.op = .load 87 (.tmp 1) → a.eval (.tmp 1) = .pointer (some ⟨w.heap.size, 0, none⟩) → wpList Try.prog ops Q rest (a.put op.dst (.agg (WV (kd) (MV [n1] L1) (MV [n2, m2] L2) (MV [n3] L3) #[.int .u32 (r : Int), .int .u64 (c : Int), .slice A body.length k]))) w1 → wpList Try.prog ops Q (op :: rest) a w1 := fun hg ho hx h => step_load hg 87 (.tmp 1) ho hx HX1.out _ Try.underlying87 rfl (by rw [show (WV (kd) (MV [n1] L1) (MV [n2, m2] L2) (MV [n3] L3) #[.int .u32 (r : Int), .int .u64 (c : Int), .slice A body.length k]).size = ZW.size from (by rw [ZW_size]; exact WV_size _ _ _ _ _ (by rw [MV1s, HL1.out]) (by rw [MV2s, HL2.out]) (by rw [MV1s, HL3.out]) rfl), ZW_size]; exact infoW) h
  go_wp2_with (first | ((with_reducible refine LE rfl rfl rfl ?_)))
  refine (refBytes_any kd n1 L1 n2 m2 L2 n3 L3 r c A body k _ hn1 HL1.out hn2 hm2 HL2.out hn3 HL3.out hrr HCC HV1.out).mono ?_
  rintro e w2 ⟨v2, rfl, ho2, hb⟩
  rw [HO.out] at ho2 ⊢
  have HB2 := Lib.hid (below_comp HB1.out hb)
  have HR2 := Lib.hid (HR1.out.below hb)
  have HU2 := Lib.hid ho2.rb
  clear ho2 hb LE HX1 HB1 HV1 HR1
  dsimp only
  go_wp2_with fail
  refine (En.same_any _ v2 b b _ HR2.out HU2.out).mono ?_
  rintro e w3 ⟨rfl, hb⟩
  rw [show decide (b = b) = true from decide_eq_true rfl]
  have HB3 := Lib.hid (below_comp HB2.out hb)
  have HR3 := Lib.hid (HR2.out.below hb)
  clear hb HB2 HR2 HU2
  by_cases h0 : E ≠ 0
  · have hE2 : (E != 0) = true := bne_iff_ne.2 h0
    go_wp2_with fail
    have HB6 := HB3
    refine (alive_any _).mono ?_
    rintro e wf ⟨rfl, hb⟩
    have HB9 := Lib.hid (below_comp HB6.out hb)
    clear hb
    go_wp2_with fail
    go_ret
    exact ⟨rfl, HB9.out⟩
  obtain rfl : E = 0 := Classical.not_not.1 h0
  have hE0 := HERR.out rfl
  obtain ⟨p1, M1, p2, q2, M2, p3, M3, x, y, bd, e1, e2, e3, e4, hp1, hM1, hp2, hq2, hM2, hp3, hM3, hx, hy, _, _⟩ := formsW b
  have E1 := Lib.hid e1
  have E2 := Lib.hid e2
  have E3 := Lib.hid e3
  have E4 := Lib.hid e4
  have HM1 := Lib.hid hM1
  have HM2 := Lib.hid hM2
  have HM3 := Lib.hid hM3
  obtain ⟨kx, hkx⟩ : ∃ kx, kdW b = kx := ⟨_, rfl⟩
  have HKD := Lib.hid hkx
  have HE0 := Lib.hid hE0
  obtain ⟨A', k', e', hk2, hr2⟩ := HR3.out
  injection e' with f1 f2 f3
  subst f1 f3
  have HRR := Lib.hid hr2
  clear e1 e2 e3 e4 hM1 hM2 hM3 hkx hE0 f2 hr2
  go_wp2_with fail
  refine (parse_any A1 k1 b _ hk2 HRR.out HOL.out).mono ?_
  rintro e wa ⟨v, rfl, hv, hb⟩
  rw [E1.out, E2.out, E3.out, E4.out, HE0.out, HKD.out]
  rw [E4.out] at hv
  obtain ⟨A5, k5, e5, hk5, hr5⟩ := hv
  subst e5
  have HV : Hid (RB wa (.slice A5 bd.length k5) bd) := Lib.hid ⟨A5, k5, rfl, hk5, hr5⟩
  have HB4 := Lib.hid (below_comp HB3.out hb)
  have HR4 := Lib.hid (HR3.out.below hb)
  clear hb hr5 HB3 HR3 HRR
  dsimp only
  have FA := Lib.hid (blk_new wa (.cells ZW 87))
  have STA : ∀ {ops : Array Oper} {rest : List Oper} {op : Oper} {a : Act} {Q : Exit → Act → World → Prop}, op.guard = none → op.op = .store 87 (.tmp 7) (.tmp 42) → a.eval (.tmp 7) = .pointer (some ⟨wa.heap.size, 0, none⟩) → a.eval (.tmp 42) = .agg (WV (kx) (MV [p1] M1) (MV [p2, q2] M2) (MV [p3] M3) #[.int .u32 (x : Int), .int .u64 (y : Int), .slice A5 bd.length k5]) → wpList Try.prog ops Q rest (a.put op.dst undef) ((wa.alloc (.cells ZW 87)).setCells wa.heap.size 0 ((WV (kx) (MV [p1] M1) (MV [p2, q2] M2) (MV [p3] M3) #[.int .u32 (x : Int), .int .u64 (y : Int), .slice A5 bd.length k5])).toList) → wpList Try.prog ops Q (op :: rest) a (wa.alloc (.cells ZW 87)) := fun hg ho hx hy h => step_store hg 87 (.tmp 7) (.tmp 42) ho hx hy FA.out (by rw [ZW_size]; exact WV_size _ _ _ _ _ (by rw [MV1s, HM1.out]) (by rw [MV2s, HM2.out]) (by rw [MV1s, HM3.out]) rfl) (by rw [ZW_size]; exact infoW) (WV_one _ _ _ _ _ (MV_one _ _) (MV_one _ _) (MV_one _ _) (T3_one _ _ _ _ _)) h
  have hs : Below wa.heap.size wa ((wa.alloc (.cells ZW 87)).setCells wa.heap.size 0 (WV (kx) (MV [p1] M1) (MV [p2, q2] M2) (MV [p3] M3) #[.int .u32 (x : Int), .int .u64 (y : Int), .slice A5 bd.length k5]).toList) := setCells_below _ (Nat.le_refl _) _ _ _ (below_alloc (Below.refl _ _) _)
  have G3 : Hid (((wa.alloc (.cells ZW 87)).setCells wa.heap.size 0 (WV (kx) (MV [p1] M1) (MV [p2, q2] M2) (MV [p3] M3) #[.int .u32 (x : Int), .int .u64 (y : Int), .slice A5 bd.length k5]).toList).heap[wa.heap.size]? = some (.cells (WV (kx) (MV [p1] M1) (MV [p2, q2] M2) (MV [p3] M3) #[.int .u32 (x : Int), .int .u64 (y : Int), .slice A5 bd.length k5]) 87 (0, 0))) := Lib.hid (setCells_block FA.out (by rw [ZW_size]; exact WV_size _ _ _ _ _ (by rw [MV1s, HM1.out]) (by rw [MV2s, HM2.out]) (by rw [MV1s, HM3.out]) rfl))
  have HB5 := Lib.hid (below_comp HB4.out hs)
  have HR5 := Lib.hid (HR4.out.below hs)
  have HV5 := Lib.hid (HV.out.below hs)
  obtain ⟨A', k', e', hk3, hr3⟩ := HR5.out
  injection e' with f1 f2 f3
  subst f1 f3
  have HRR := Lib.hid hr3
  clear hs hr3 f2 HB4 HR4 HV
  go_wp2_with (first | ((with_reducible refine step_alloc rfl 87 rfl ZW zeroW ?_)) | ((with_reducible refine STA rfl rfl rfl rfl ?_)))
  refine (refParse_any A1 k1 b _ hk3 HRR.out HOL.out).mono ?_
  rintro e wb ⟨v, rfl, hv, hb⟩
  rw [E1.out, E2.out, E3.out, E4.out, HE0.out, HKD.out]
  rw [E4.out] at hv
  obtain ⟨A6, k6, e6, hk6, hr6⟩ := hv
  subst e6
  have HU : Hid (RB wb (.slice A6 bd.length k6) bd) := Lib.hid ⟨A6, k6, rfl, hk6, hr6⟩
  have G3' := Lib.hid (blk_below G3.out hb)
  have HB7 := Lib.hid (below_comp HB5.out hb)
  have HV7 := Lib.hid (HV5.out.below hb)
  clear hb hr6 G3 HB5 HR5 HV5 HRR STA
  dsimp only
  have FB := Lib.hid (blk_new wb (.cells ZW 87))
  have STB : ∀ {ops : Array Oper} {rest : List Oper} {op : Oper} {a : Act} {Q : Exit → Act → World → Prop}, op.guard = none → op.op = .store 87 (.tmp 9) (.tmp 47) → a.eval (.tmp 9) = .pointer (some ⟨wb.heap.size, 0, none⟩) → a.eval (.tmp 47) = .agg (WV (kx) (MV [p1] M1) (MV [p2, q2] M2) (MV [p3] M3) #[.int .u32 (x : Int), .int .u64 (y : Int), .slice A6 bd.length k6]) → wpList Try.prog ops Q rest (a.put op.dst undef) ((wb.alloc (.cells ZW 87)).setCells wb.heap.size 0 ((WV (kx) (MV [p1] M1) (MV [p2, q2] M2) (MV [p3] M3) #[.int .u32 (x : Int), .int .u64 (y : Int), .slice A6 bd.length k6])).toList) → wpList Try.prog ops Q (op :: rest) a (wb.alloc (.cells ZW 87)) := fun hg ho hx hy h => step_store hg 87 (.tmp 9) (.tmp 47) ho hx hy FB.out (by rw [ZW_size]; exact WV_size _ _ _ _ _ (by rw [MV1s, HM1.out]) (by rw [MV2s, HM2.out]) (by rw [MV1s, HM3.out]) rfl) (by rw [ZW_size]; exact infoW) (WV_one _ _ _ _ _ (MV_one _ _) (MV_one _ _) (MV_one _ _) (T3_one _ _ _ _ _)) h
  have hs : Below wb.heap.size wb ((wb.alloc (.cells ZW 87)).setCells wb.heap.size 0 (WV (kx) (MV [p1] M1) (MV [p2, q2] M2) (MV [p3] M3) #[.int .u32 (x : Int), .int .u64 (y : Int), .slice A6 bd.length k6]).toList) := setCells_below _ (Nat.le_refl _) _ _ _ (below_alloc (Below.refl _ _) _)
  have G5 : Hid (((wb.alloc (.cells ZW 87)).setCells wb.heap.size 0 (WV (kx) (MV [p1] M1) (MV [p2, q2] M2) (MV [p3] M3) #[.int .u32 (x : Int), .int .u64 (y : Int), .slice A6 bd.length k6]).toList).heap[wb.heap.size]? = some (.cells (WV (kx) (MV [p1] M1) (MV [p2, q2] M2) (MV [p3] M3) #[.int .u32 (x : Int), .int .u64 (y : Int), .slice A6 bd.length k6]) 87 (0, 0))) := Lib.hid (setCells_block FB.out (by rw [ZW_size]; exact WV_size _ _ _ _ _ (by rw [MV1s, HM1.out]) (by rw [MV2s, HM2.out]) (by rw [MV1s, HM3.out]) rfl))
  have G4 := Lib.hid (blk_below G3'.out hs)
  have HB8 := Lib.hid (below_comp HB7.out hs)
  have HV8 := Lib.hid (HV7.out.below hs)
  have HU8 := Lib.hid (HU.out.below hs)
  have LA : ∀ {ops : Array Oper} {rest : List Oper} {op : Oper} {a : Act} {Q : Exit → Act → World → Prop}, op.guard = none → op.op = .load 87 (.tmp 7) → a.eval (.tmp 7) = .pointer (some ⟨wa.heap.size, 0, none⟩) → wpList Try.prog ops Q rest (a.put op.dst (.agg (WV (kx) (MV [p1] M1) (MV [p2, q2] M2) (MV [p3] M3) #[.int .u32 (x : Int), .int .u64 (y : Int), .slice A5 bd.length k5]))) ((wb.alloc (.cells ZW 87)).setCells wb.heap.size 0 (WV (kx) (MV [p1] M1) (MV [p2, q2] M2) (MV [p3] M3) #[.int .u32 (x : Int), .int .u64 (y : Int), .slice A6 bd.length k6]).toList) → wpList Try.prog ops Q (op :: rest) a ((wb.alloc (.cells ZW 87)).setCells wb.heap.size 0 (WV (kx) (MV [p1] M1) (MV [p2, q2] M2) (MV [p3] M3) #[.int .u32 (x : Int), .int .u64 (y : Int), .slice A6 bd.length k6]).toList) := fun hg ho hx h => step_load hg 87 (.tmp 7) ho hx G4.out _ Try.underlying87 rfl (by rw [show (WV (kx) (MV [p1] M1) (MV [p2, q2] M2) (MV [p3] M3) #[.int .u32 (x : Int), .int .u64 (y : Int), .slice A5 bd.length k5]).size = ZW.size from (by rw [ZW_size]; exact WV_size _ _ _ _ _ (by rw [MV1s, HM1.out]) (by rw [MV2s, HM2.out]) (by rw [MV1s, HM3.out]) rfl), ZW_size]; exact infoW) h
  have LB : ∀ {ops : Array Oper} {rest : List Oper} {op : Oper} {a : Act} {Q : Exit → Act → World → Prop}, op.guard = none → op.op = .load 87 (.tmp 9) → a.eval (.tmp 9) = .pointer (some ⟨wb.heap.size, 0, none⟩) → wpList Try.prog ops Q rest (a.put op.dst (.agg (WV (kx) (MV [p1] M1) (MV [p2, q2] M2) (MV [p3] M3) #[.int .u32 (x : Int), .int .u64 (y : Int), .slice A6 bd.length k6]))) ((wb.alloc (.cells ZW 87)).setCells wb.heap.size 0 (WV (kx) (MV [p1] M1) (MV [p2, q2] M2) (MV [p3] M3) #[.int .u32 (x : Int), .int .u64 (y : Int), .slice A6 bd.length k6]).toList) → wpList Try.prog ops Q (op :: rest) a ((wb.alloc (.cells ZW 87)).setCells wb.heap.size 0 (WV (kx) (MV [p1] M1) (MV [p2, q2] M2) (MV [p3] M3) #[.int .u32 (x : Int), .int .u64 (y : Int), .slice A6 bd.length k6]).toList) := fun hg ho hx h => step_load hg 87 (.tmp 9) ho hx G5.out _ Try.underlying87 rfl (by rw [show (WV (kx) (MV [p1] M1) (MV [p2, q2] M2) (MV [p3] M3) #[.int .u32 (x : Int), .int .u64 (y : Int), .slice A6 bd.length k6]).size = ZW.size from (by rw [ZW_size]; exact WV_size _ _ _ _ _ (by rw [MV1s, HM1.out]) (by rw [MV2s, HM2.out]) (by rw [MV1s, HM3.out]) rfl), ZW_size]; exact infoW) h
  clear hs G3' HB7 HV7 HU
  go_wp2_with (first | ((with_reducible refine step_alloc rfl 87 rfl ZW zeroW ?_)) | ((with_reducible refine STB rfl rfl rfl rfl ?_)) | ((with_reducible refine LA rfl rfl rfl ?_)) | ((with_reducible refine LB rfl rfl rfl ?_)))
  refine (refSame_any kx p1 M1 p2 q2 M2 p3 M3 x y A5 A6 bd k5 k6 _ hp1 HM1.out hp2 hq2 HM2.out hp3 HM3.out HV8.out HU8.out).mono ?_
  rintro e wc ⟨rfl, hb⟩
  have HB6 := Lib.hid (below_comp HB8.out hb)
  clear hb G4 G5 HB8 HV8 HU8 LA LB STB
  go_wp2_with fail
  refine (alive_any _).mono ?_
  rintro e wf ⟨rfl, hb⟩
  have HB9 := Lib.hid (below_comp HB6.out hb)
  clear hb
  go_wp2_with fail
  go_ret
  exact ⟨rfl, HB9.out⟩
end Go.Proofs.Ytnehbhhjdjiieaa.Wm
