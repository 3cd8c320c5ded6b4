/- The statements of wire: what is read, and back. -/
import Derived.Test.YtnehbhhjdjiieaaWs
set_option linter.unusedSimpArgs false
set_option linter.unusedVariables false
set_option maxRecDepth 100000
namespace Go.Proofs.Ytnehbhhjdjiieaa.Wm
open Go.RowKit Go.Proofs.YtnehbhhjdjiieaaW.PrintWords Go.Proofs.Ytnehbhhjdjiieaa.Bs Go.Proofs.Ytnehbhhjdjiieaa.Mv Go.Proofs.Ytnehbhhjdjiieaa.Da Go.Proofs.Ytnehbhhjdjiieaa.Le

theorem z1 : (0 : Nat) < 4294967296 := by decide
theorem errW_kind {b : List UInt8} (h : errW b = 0) : b.getD 0 0 = 1 ∨ b.getD 0 0 = 2 ∨ b.getD 0 0 = 3 ∨ b.getD 0 0 = 4 := by
  unfold errW at h
  by_cases hb : b = []
  · rw [if_pos hb] at h; cases h
  rw [if_neg hb] at h
  by_cases h1 : b.getD 0 0 = 1
  · exact .inl h1
  by_cases h2 : b.getD 0 0 = 2
  · exact .inr (.inl h2)
  by_cases h3 : b.getD 0 0 = 3
  · exact .inr (.inr (.inl h3))
  by_cases h4 : b.getD 0 0 = 4
  · exact .inr (.inr (.inr h4))
  rw [if_neg h1, if_neg h2, if_neg h3, if_neg h4] at h
  cases h
/-- What is parsed, as a message; its bytes. -/
theorem formsW (b : List UInt8) : ∃ (n1 : Nat) (L1 : List UInt8) (n2 m2 : Nat) (L2 : List UInt8) (n3 : Nat) (L3 : List UInt8) (r c : Nat) (body : List UInt8),
    iW b = MV [n1] L1 ∧ rW b = MV [n2, m2] L2 ∧ cW b = MV [n3] L3 ∧ tW b = (r, c, body) ∧ n1 < 4294967296 ∧ L1.length = 140 ∧ n2 < 4294967296 ∧ m2 < 4294967296 ∧ L2.length = 80 ∧ n3 < 4294967296 ∧ L3.length = 56 ∧ r < 4294967296 ∧ c < 18446744073709551616 ∧
    (errW b = 0 → outW (kdW b) n1 L1 n2 m2 L2 n3 L3 r c body = (b, 0)) ∧ (errW b ≠ 0 → kdW b = 0) := by
  obtain ⟨n1, L1, e1, hn1, hL1, w1⟩ : ∃ n1 L1, iW b = MV [n1] L1 ∧ n1 < 4294967296 ∧ L1.length = 140 ∧ (b.getD 0 0 = 1 → badM 1 148 b = 0 → raw1 1 n1 L1 = b) := by
    unfold iW
    by_cases h : b.getD 0 0 = 1
    · rw [if_pos h]; obtain ⟨n, L, e, hn, hL, hw⟩ := Mi.msg_full b; exact ⟨n, L, e, hn, hL, fun _ => hw⟩
    · rw [if_neg h]; exact ⟨0, _, Mi.ZM_eq, by decide, by simp, fun e => absurd e h⟩
  obtain ⟨n2, m2, L2, e2, hn2, hm2, hL2, w2⟩ : ∃ n2 m2 L2, rW b = MV [n2, m2] L2 ∧ n2 < 4294967296 ∧ m2 < 4294967296 ∧ L2.length = 80 ∧ (b.getD 0 0 = 2 → badM 2 92 b = 0 → raw2 2 n2 m2 L2 = b) := by
    unfold rW
    by_cases h : b.getD 0 0 = 2
    · rw [if_pos h]; obtain ⟨n, m, L, e, hn, hm, hL, hw⟩ := Ma.msg_full b; exact ⟨n, m, L, e, hn, hm, hL, fun _ => hw⟩
    · rw [if_neg h]; exact ⟨0, 0, _, Ma.ZM_eq, by decide, by decide, by simp, fun e => absurd e h⟩
  obtain ⟨n3, L3, e3, hn3, hL3, w3⟩ : ∃ n3 L3, cW b = MV [n3] L3 ∧ n3 < 4294967296 ∧ L3.length = 56 ∧ (b.getD 0 0 = 3 → badM 3 64 b = 0 → raw1 3 n3 L3 = b) := by
    unfold cW
    by_cases h : b.getD 0 0 = 3
    · rw [if_pos h]; obtain ⟨n, L, e, hn, hL, hw⟩ := Mc.msg_full b; exact ⟨n, L, e, hn, hL, fun _ => hw⟩
    · rw [if_neg h]; exact ⟨0, _, Mc.ZM_eq, by decide, by simp, fun e => absurd e h⟩
  obtain ⟨r, c, body, e4, hr, hc, w4⟩ : ∃ r c body, tW b = (r, c, body) ∧ r < 4294967296 ∧ c < 18446744073709551616 ∧ (b.getD 0 0 = 4 → badD b = 0 → rawD r c body = b ∧ sizeE (body.length : Int) = 0) := by
    unfold tW
    by_cases h : b.getD 0 0 = 4
    · rw [if_pos h]
      by_cases hb : badD b = 0
      · obtain ⟨q1, q2, q3, q4⟩ := backD b hb
        exact ⟨_, _, _, rfl, q3, q4, fun _ _ => ⟨q1, q2⟩⟩
      · rw [msgD_bad b hb]; exact ⟨0, 0, [], rfl, by decide, by decide, fun _ e => absurd e hb⟩
    · rw [if_neg h]; exact ⟨0, 0, [], rfl, by decide, by decide, fun e => absurd e h⟩
  refine ⟨n1, L1, n2, m2, L2, n3, L3, r, c, body, e1, e2, e3, e4, hn1, hL1, hn2, hm2, hL2, hn3, hL3, hr, hc, fun hE => ?_, fun hE => by unfold kdW; rw [if_neg hE]⟩
  have hk : kdW b = ((b.getD 0 0).toNat : Int) := by unfold kdW; rw [if_pos hE]
  rw [hk]
  rcases errW_kind hE with h | h | h | h
  · have hb := (kindW1 b h).1; rw [hE] at hb; rw [h]; unfold outW; rw [if_pos (by rfl), w1 h hb.symm]
  · have hb := (kindW2 b h).1; rw [hE] at hb; rw [h]; unfold outW; rw [if_neg (by decide), if_pos (by rfl), w2 h hb.symm]
  · have hb := (kindW3 b h).1; rw [hE] at hb; rw [h]; unfold outW; rw [if_neg (by decide), if_neg (by decide), if_pos (by rfl), w3 h hb.symm]
  · have hb := (kindW4 b h).1; rw [hE] at hb; obtain ⟨q1, q2⟩ := w4 h hb.symm; rw [h]; unfold outW; rw [if_neg (by decide), if_neg (by decide), if_neg (by decide), if_pos (by rfl), if_pos q2, q1]
theorem out_none (n1 : Nat) (L1 : List UInt8) (n2 m2 : Nat) (L2 : List UInt8) (n3 : Nat) (L3 : List UInt8) (r c : Nat) (body : List UInt8) : outW 0 n1 L1 n2 m2 L2 n3 L3 r c body = ([], 9) := by
  unfold outW
  rw [if_neg (by decide), if_neg (by decide), if_neg (by decide), if_neg (by decide)]
/-- Bytes that a message has are parsed. -/
theorem out_err (kd : Int) (n1 : Nat) (L1 : List UInt8) (n2 m2 : Nat) (L2 : List UInt8) (n3 : Nat) (L3 : List UInt8) (r c : Nat) (body : List UInt8) (hL1 : L1.length = 140) (hL2 : L2.length = 80) (hL3 : L3.length = 56) (h : (outW kd n1 L1 n2 m2 L2 n3 L3 r c body).2 = 0) : errW (outW kd n1 L1 n2 m2 L2 n3 L3 r c body).1 = 0 := by
  unfold outW at h ⊢
  by_cases h1 : kd = 1
  · rw [if_pos h1] at h ⊢
    rw [(kindW1 _ (by simp [raw1])).1]
    have := raw1_good 1 n1 L1; rw [hL1] at this; exact this
  rw [if_neg h1] at h ⊢
  by_cases h2 : kd = 2
  · rw [if_pos h2] at h ⊢
    rw [(kindW2 _ (by simp [raw2])).1]
    have := raw2_good 2 n2 m2 L2; rw [hL2] at this; exact this
  rw [if_neg h2] at h ⊢
  by_cases h3 : kd = 3
  · rw [if_pos h3] at h ⊢
    rw [(kindW3 _ (by simp [raw1])).1]
    have := raw1_good 3 n3 L3; rw [hL3] at this; exact this
  rw [if_neg h3] at h ⊢
  by_cases h4 : kd = 4
  · rw [if_pos h4] at h ⊢
    by_cases hE : sizeE (body.length : Int) = 0
    · rw [if_pos hE]
      rw [(kindW4 _ (by simp [rawD])).1, rawD_bad]; exact hE
    · rw [if_neg hE] at h; exact absurd h hE
  · rw [if_neg h4] at h; cases h
theorem out_len (kd : Int) (n1 : Nat) (L1 : List UInt8) (n2 m2 : Nat) (L2 : List UInt8) (n3 : Nat) (L3 : List UInt8) (r c : Nat) (body : List UInt8) (hL1 : L1.length = 140) (hL2 : L2.length = 80) (hL3 : L3.length = 56) (h : body.length ≤ 1000) : (outW kd n1 L1 n2 m2 L2 n3 L3 r c body).1.length ≤ 1099511627776 := by
  unfold outW
  split
  · rw [raw1_length, hL1]; decide
  · split
    · rw [raw2_length, hL2]; decide
    · split
      · rw [raw1_length, hL3]; decide
      · split
        · split
          · rw [rawD_length]; omega
          · simp
        · simp

set_option maxHeartbeats 4000000 in
theorem reads_walk (A : Option Addr) (k : Nat) (b : List UInt8) (w : World) (hk : b.length ≤ k) (hr : ReadsOf B 0 w A b.length b) :
    Calls Try.prog 16 #[.slice A b.length k] w fun e w' => e = .returned (.bool true) ∧ Below w.heap.size w w' := by
  have hbl := hr.2.1
  by_cases h : 1000 < b.length
  · go_enter Try.func16, Try.ntmps16
    go_wp2_with fail
    refine (alive_any _).mono ?_
    rintro e w' ⟨rfl, hb⟩
    go_wp2_with fail
    go_ret
    exact ⟨rfl, hb⟩
  have HLN : Hid (b.length ≤ 1099511627776) := Lib.hid (by omega)
  have HR := Lib.hid hr
  have HRB : Hid (RB w (.slice A b.length k) b) := Lib.hid ⟨A, k, rfl, hk, hr⟩
  clear hr
  obtain ⟨n1, L1, n2, m2, L2, n3, L3, r, c, body, e1, e2, e3, e4, hn1, hL1, hn2, hm2, hL2, hn3, hL3, hrr, hcc, hgood, hbad⟩ := formsW b
  have E1 := Lib.hid e1
  have E2 := Lib.hid e2
  have E3 := Lib.hid e3
  have E4 := Lib.hid e4
  have HL1 := Lib.hid hL1
  have HL2 := Lib.hid hL2
  have HL3 := Lib.hid hL3
  have HCC := Lib.hid hcc
  have HGOOD := Lib.hid hgood
  have HBAD := Lib.hid hbad
  obtain ⟨E, hE⟩ : ∃ E, errW b = E := ⟨_, rfl⟩
  obtain ⟨kd, hkd⟩ : ∃ kd, kdW b = kd := ⟨_, rfl⟩
  rw [hE, hkd] at HGOOD HBAD
  have HE := Lib.hid hE
  have HKD := Lib.hid hkd
  clear e1 e2 e3 e4 hL1 hL2 hL3 hcc hgood hbad hE hkd
  go_enter Try.func16, Try.ntmps16
  go_wp2_with fail
  refine (parse_any A k b _ hk HR.out HLN.out).mono ?_
  rintro e wa ⟨v, rfl, hv, hb⟩
  rw [E1.out, E2.out, E3.out, E4.out, HE.out, HKD.out]
  rw [E4.out] at hv
  obtain ⟨A5, k5, e5, hk5, hr5⟩ := hv
  subst e5
  have HV : Hid (RB wa (.slice A5 body.length k5) body) := Lib.hid ⟨A5, k5, rfl, hk5, hr5⟩
  have HB1 := Lib.hid hb
  have HRB1 := Lib.hid (HRB.out.below hb)
  clear hb hr5
  dsimp only
  have FA := Lib.hid (blk_new wa (.cells ZW 87))
  have STA : ∀ {ops : Array Oper} {rest : List Oper} {op : Oper} {a : Act} {Q : Exit → Act → World → Prop}, op.guard = none → op.op = .store 87 (.tmp 3) (.tmp 16) → a.eval (.tmp 3) = .pointer (some ⟨wa.heap.size, 0, none⟩) → a.eval (.tmp 16) = .agg (WV (kd) (MV [n1] L1) (MV [n2, m2] L2) (MV [n3] L3) #[.int .u32 (r : Int), .int .u64 (c : Int), .slice A5 body.length k5]) → wpList Try.prog ops Q rest (a.put op.dst undef) ((wa.alloc (.cells ZW 87)).setCells wa.heap.size 0 ((WV (kd) (MV [n1] L1) (MV [n2, m2] L2) (MV [n3] L3) #[.int .u32 (r : Int), .int .u64 (c : Int), .slice A5 body.length k5])).toList) → wpList Try.prog ops Q (op :: rest) a (wa.alloc (.cells ZW 87)) := fun hg ho hx hy h => step_store hg 87 (.tmp 3) (.tmp 16) ho hx hy FA.out (by rw [ZW_size]; exact WV_size _ _ _ _ _ (by rw [MV1s, HL1.out]) (by rw [MV2s, HL2.out]) (by rw [MV1s, HL3.out]) rfl) (by rw [ZW_size]; exact infoW) (WV_one _ _ _ _ _ (MV_one _ _) (MV_one _ _) (MV_one _ _) (T3_one _ _ _ _ _)) h
  have hs : Below wa.heap.size wa ((wa.alloc (.cells ZW 87)).setCells wa.heap.size 0 (WV (kd) (MV [n1] L1) (MV [n2, m2] L2) (MV [n3] L3) #[.int .u32 (r : Int), .int .u64 (c : Int), .slice A5 body.length k5]).toList) := setCells_below _ (Nat.le_refl _) _ _ _ (below_alloc (Below.refl _ _) _)
  have G3 : Hid (((wa.alloc (.cells ZW 87)).setCells wa.heap.size 0 (WV (kd) (MV [n1] L1) (MV [n2, m2] L2) (MV [n3] L3) #[.int .u32 (r : Int), .int .u64 (c : Int), .slice A5 body.length k5]).toList).heap[wa.heap.size]? = some (.cells (WV (kd) (MV [n1] L1) (MV [n2, m2] L2) (MV [n3] L3) #[.int .u32 (r : Int), .int .u64 (c : Int), .slice A5 body.length k5]) 87 (0, 0))) := Lib.hid (setCells_block FA.out (by rw [ZW_size]; exact WV_size _ _ _ _ _ (by rw [MV1s, HL1.out]) (by rw [MV2s, HL2.out]) (by rw [MV1s, HL3.out]) rfl))
  have HB2 := Lib.hid (below_comp HB1.out hs)
  have HRB2 := Lib.hid (HRB1.out.below hs)
  have HV2 := Lib.hid (HV.out.below hs)
  obtain ⟨A', k', e', hk2, hr2⟩ := HRB2.out
  injection e' with f1 f2 f3
  subst f1 f3
  have HR2 := Lib.hid hr2
  clear hs hr2 f2 HB1 HRB1 HV
  go_wp2_with (first | ((with_reducible refine step_alloc rfl 87 rfl ZW zeroW ?_)) | ((with_reducible refine STA rfl rfl rfl rfl ?_)))
  refine (refParse_any A k b _ hk HR2.out HLN.out).mono ?_
  rintro e wb ⟨v, rfl, hv, hb⟩
  rw [E1.out, E2.out, E3.out, E4.out, HE.out, HKD.out]
  rw [E4.out] at hv
  obtain ⟨A6, k6, e6, hk6, hr6⟩ := hv
  subst e6
  have HU : Hid (RB wb (.slice A6 body.length k6) body) := Lib.hid ⟨A6, k6, rfl, hk6, hr6⟩
  have G3' := Lib.hid (blk_below G3.out hb)
  have HB3 := Lib.hid (below_comp HB2.out hb)
  have HRB3 := Lib.hid (HRB2.out.below hb)
  have HV3 := Lib.hid (HV2.out.below hb)
  clear hb hr6 G3 HB2 HRB2 HV2 HR2 STA
  dsimp only
  have FB := Lib.hid (blk_new wb (.cells ZW 87))
  have STB : ∀ {ops : Array Oper} {rest : List Oper} {op : Oper} {a : Act} {Q : Exit → Act → World → Prop}, op.guard = none → op.op = .store 87 (.tmp 5) (.tmp 21) → a.eval (.tmp 5) = .pointer (some ⟨wb.heap.size, 0, none⟩) → a.eval (.tmp 21) = .agg (WV (kd) (MV [n1] L1) (MV [n2, m2] L2) (MV [n3] L3) #[.int .u32 (r : Int), .int .u64 (c : Int), .slice A6 body.length k6]) → wpList Try.prog ops Q rest (a.put op.dst undef) ((wb.alloc (.cells ZW 87)).setCells wb.heap.size 0 ((WV (kd) (MV [n1] L1) (MV [n2, m2] L2) (MV [n3] L3) #[.int .u32 (r : Int), .int .u64 (c : Int), .slice A6 body.length k6])).toList) → wpList Try.prog ops Q (op :: rest) a (wb.alloc (.cells ZW 87)) := fun hg ho hx hy h => step_store hg 87 (.tmp 5) (.tmp 21) ho hx hy FB.out (by rw [ZW_size]; exact WV_size _ _ _ _ _ (by rw [MV1s, HL1.out]) (by rw [MV2s, HL2.out]) (by rw [MV1s, HL3.out]) rfl) (by rw [ZW_size]; exact infoW) (WV_one _ _ _ _ _ (MV_one _ _) (MV_one _ _) (MV_one _ _) (T3_one _ _ _ _ _)) h
  have hs : Below wb.heap.size wb ((wb.alloc (.cells ZW 87)).setCells wb.heap.size 0 (WV (kd) (MV [n1] L1) (MV [n2, m2] L2) (MV [n3] L3) #[.int .u32 (r : Int), .int .u64 (c : Int), .slice A6 body.length k6]).toList) := setCells_below _ (Nat.le_refl _) _ _ _ (below_alloc (Below.refl _ _) _)
  have G5 : Hid (((wb.alloc (.cells ZW 87)).setCells wb.heap.size 0 (WV (kd) (MV [n1] L1) (MV [n2, m2] L2) (MV [n3] L3) #[.int .u32 (r : Int), .int .u64 (c : Int), .slice A6 body.length k6]).toList).heap[wb.heap.size]? = some (.cells (WV (kd) (MV [n1] L1) (MV [n2, m2] L2) (MV [n3] L3) #[.int .u32 (r : Int), .int .u64 (c : Int), .slice A6 body.length k6]) 87 (0, 0))) := Lib.hid (setCells_block FB.out (by rw [ZW_size]; exact WV_size _ _ _ _ _ (by rw [MV1s, HL1.out]) (by rw [MV2s, HL2.out]) (by rw [MV1s, HL3.out]) rfl))
  have G4 := Lib.hid (blk_below G3'.out hs)
  have HB4 := Lib.hid (below_comp HB3.out hs)
  have HRB4 := Lib.hid (HRB3.out.below hs)
  have HV4 := Lib.hid (HV3.out.below hs)
  have HU4 := Lib.hid (HU.out.below hs)
  have LA : ∀ {ops : Array Oper} {rest : List Oper} {op : Oper} {a : Act} {Q : Exit → Act → World → Prop}, op.guard = none → op.op = .load 87 (.tmp 3) → a.eval (.tmp 3) = .pointer (some ⟨wa.heap.size, 0, none⟩) → wpList Try.prog ops Q rest (a.put op.dst (.agg (WV (kd) (MV [n1] L1) (MV [n2, m2] L2) (MV [n3] L3) #[.int .u32 (r : Int), .int .u64 (c : Int), .slice A5 body.length k5]))) ((wb.alloc (.cells ZW 87)).setCells wb.heap.size 0 (WV (kd) (MV [n1] L1) (MV [n2, m2] L2) (MV [n3] L3) #[.int .u32 (r : Int), .int .u64 (c : Int), .slice A6 body.length k6]).toList) → wpList Try.prog ops Q (op :: rest) a ((wb.alloc (.cells ZW 87)).setCells wb.heap.size 0 (WV (kd) (MV [n1] L1) (MV [n2, m2] L2) (MV [n3] L3) #[.int .u32 (r : Int), .int .u64 (c : Int), .slice A6 body.length k6]).toList) := fun hg ho hx h => step_load hg 87 (.tmp 3) ho hx G4.out _ Try.underlying87 rfl (by rw [show (WV (kd) (MV [n1] L1) (MV [n2, m2] L2) (MV [n3] L3) #[.int .u32 (r : Int), .int .u64 (c : Int), .slice A5 body.length k5]).size = ZW.size from (by rw [ZW_size]; exact WV_size _ _ _ _ _ (by rw [MV1s, HL1.out]) (by rw [MV2s, HL2.out]) (by rw [MV1s, HL3.out]) rfl), ZW_size]; exact infoW) h
  have LB : ∀ {ops : Array Oper} {rest : List Oper} {op : Oper} {a : Act} {Q : Exit → Act → World → Prop}, op.guard = none → op.op = .load 87 (.tmp 5) → a.eval (.tmp 5) = .pointer (some ⟨wb.heap.size, 0, none⟩) → wpList Try.prog ops Q rest (a.put op.dst (.agg (WV (kd) (MV [n1] L1) (MV [n2, m2] L2) (MV [n3] L3) #[.int .u32 (r : Int), .int .u64 (c : Int), .slice A6 body.length k6]))) ((wb.alloc (.cells ZW 87)).setCells wb.heap.size 0 (WV (kd) (MV [n1] L1) (MV [n2, m2] L2) (MV [n3] L3) #[.int .u32 (r : Int), .int .u64 (c : Int), .slice A6 body.length k6]).toList) → wpList Try.prog ops Q (op :: rest) a ((wb.alloc (.cells ZW 87)).setCells wb.heap.size 0 (WV (kd) (MV [n1] L1) (MV [n2, m2] L2) (MV [n3] L3) #[.int .u32 (r : Int), .int .u64 (c : Int), .slice A6 body.length k6]).toList) := fun hg ho hx h => step_load hg 87 (.tmp 5) ho hx G5.out _ Try.underlying87 rfl (by rw [show (WV (kd) (MV [n1] L1) (MV [n2, m2] L2) (MV [n3] L3) #[.int .u32 (r : Int), .int .u64 (c : Int), .slice A6 body.length k6]).size = ZW.size from (by rw [ZW_size]; exact WV_size _ _ _ _ _ (by rw [MV1s, HL1.out]) (by rw [MV2s, HL2.out]) (by rw [MV1s, HL3.out]) rfl), ZW_size]; exact infoW) h
  clear hs G3' HB3 HRB3 HV3 HU
  go_wp2_with (first | ((with_reducible refine step_alloc rfl 87 rfl ZW zeroW ?_)) | ((with_reducible refine STB rfl rfl rfl rfl ?_)) | ((with_reducible refine LA rfl rfl rfl ?_)) | ((with_reducible refine LB rfl rfl rfl ?_)))
  refine (refSame_any kd n1 L1 n2 m2 L2 n3 L3 r c A5 A6 body k5 k6 _ hn1 HL1.out hn2 hm2 HL2.out hn3 HL3.out HV4.out HU4.out).mono ?_
  rintro e wc ⟨rfl, hb⟩
  have G4' := Lib.hid (blk_below G4.out hb)
  have HB5 := Lib.hid (below_comp HB4.out hb)
  have HRB5 := Lib.hid (HRB4.out.below hb)
  have HV5 := Lib.hid (HV4.out.below hb)
  clear hb G4 G5 HB4 HRB4 HV4 HU4 LA LB STB
  have LC : ∀ {ops : Array Oper} {rest : List Oper} {op : Oper} {a : Act} {Q : Exit → Act → World → Prop}, op.guard = none → op.op = .load 87 (.tmp 3) → a.eval (.tmp 3) = .pointer (some ⟨wa.heap.size, 0, none⟩) → wpList Try.prog ops Q rest (a.put op.dst (.agg (WV (kd) (MV [n1] L1) (MV [n2, m2] L2) (MV [n3] L3) #[.int .u32 (r : Int), .int .u64 (c : Int), .slice A5 body.length k5]))) wc → wpList Try.prog ops Q (op :: rest) a wc := fun hg ho hx h => step_load hg 87 (.tmp 3) ho hx G4'.out _ Try.underlying87 rfl (by rw [show (WV (kd) (MV [n1] L1) (MV [n2, m2] L2) (MV [n3] L3) #[.int .u32 (r : Int), .int .u64 (c : Int), .slice A5 body.length k5]).size = ZW.size from (by rw [ZW_size]; exact WV_size _ _ _ _ _ (by rw [MV1s, HL1.out]) (by rw [MV2s, HL2.out]) (by rw [MV1s, HL3.out]) rfl), ZW_size]; exact infoW) h
  by_cases h0 : E = 0
  · subst h0
    have HO := Lib.hid (HGOOD.out rfl)
    go_wp2_with (first | ((with_reducible refine LC rfl rfl rfl ?_)))
    refine (bytes_any kd n1 L1 n2 m2 L2 n3 L3 r c A5 body k5 _ hn1 HL1.out hn2 hm2 HL2.out hn3 HL3.out hrr HCC HV5.out).mono ?_
    rintro e wd ⟨v, rfl, ho, hb⟩
    rw [HO.out] at ho ⊢
    have HB7 := Lib.hid (below_comp HB5.out hb)
    have HVV := Lib.hid ho.rb
    have HRB7 := Lib.hid (HRB5.out.below hb)
    clear ho hb LC
    dsimp only
    go_wp2_with fail
    refine (En.same_any v _ b b _ HVV.out HRB7.out).mono ?_
    rintro e we ⟨rfl, hb⟩
    rw [show decide (b = b) = true from decide_eq_true rfl]
    have HB6 := Lib.hid (below_comp HB7.out hb)
    clear hb
    go_wp2_with fail
    refine (alive_any _).mono ?_
    rintro e wf ⟨rfl, hb⟩
    have HB9 := Lib.hid (below_comp HB6.out hb)
    clear hb
    go_wp2_with fail
    go_ret
    exact ⟨rfl, HB9.out⟩
  · obtain rfl := HBAD.out h0
    have hE2 : (E != 0) = true := bne_iff_ne.2 h0
    have hE3 : (E == 0) = false := beq_false_of_ne h0
    go_wp2_with (first | ((with_reducible refine LC rfl rfl rfl ?_)))
    refine (bytes_any 0 n1 L1 n2 m2 L2 n3 L3 r c A5 body k5 _ hn1 HL1.out hn2 hm2 HL2.out hn3 HL3.out hrr HCC HV5.out).mono ?_
    rintro e wd ⟨v, rfl, ho, hb⟩
    rw [out_none]
    have HB6 := Lib.hid (below_comp HB5.out hb)
    clear ho hb LC
    dsimp only
    go_wp2_with fail
    refine (alive_any _).mono ?_
    rintro e wf ⟨rfl, hb⟩
    have HB9 := Lib.hid (below_comp HB6.out hb)
    clear hb
    go_wp2_with fail
    go_ret
    exact ⟨rfl, HB9.out⟩
end Go.Proofs.Ytnehbhhjdjiieaa.Wm
