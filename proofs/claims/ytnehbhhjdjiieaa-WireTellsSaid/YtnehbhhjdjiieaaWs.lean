/- Messages of any kind, compared; what alive asks. -/
import Derived.Test.YtnehbhhjdjiieaaWr
set_option linter.unusedSimpArgs false
set_option linter.unusedVariables false
set_option maxRecDepth 100000
namespace Go.Proofs.Ytnehbhhjdjiieaa.Wm
open Go.RowKit Go.Proofs.YtnehbhhjdjiieaaW.PrintWords Go.Proofs.Ytnehbhhjdjiieaa.Bs Go.Proofs.Ytnehbhhjdjiieaa.Mv Go.Proofs.Ytnehbhhjdjiieaa.Da

set_option maxHeartbeats 4000000 in
theorem refSame_any (kd : Int) (n1 : Nat) (L1 : List UInt8) (n2 m2 : Nat) (L2 : List UInt8) (n3 : Nat) (L3 : List UInt8) (r c : Nat) (A1 A2 : Option Addr) (body : List UInt8) (k1 k2 : Nat) (w : World) (hn1 : n1 < 4294967296) (hL1 : L1.length = 140) (hn2 : n2 < 4294967296) (hm2 : m2 < 4294967296) (hL2 : L2.length = 80) (hn3 : n3 < 4294967296) (hL3 : L3.length = 56) (h1 : RB w (.slice A1 body.length k1) body) (h2 : RB w (.slice A2 body.length k2) body) :
    Calls Try.prog 54 #[.agg (WV kd (MV [n1] L1) (MV [n2, m2] L2) (MV [n3] L3) #[.int .u32 (r : Int), .int .u64 (c : Int), .slice A1 body.length k1]), .agg (WV kd (MV [n1] L1) (MV [n2, m2] L2) (MV [n3] L3) #[.int .u32 (r : Int), .int .u64 (c : Int), .slice A2 body.length k2])] w fun e w' => e = .returned (.bool true) ∧ Below w.heap.size w w' := by
  have HL1 := Lib.hid hL1
  have HL2 := Lib.hid hL2
  have HL3 := Lib.hid hL3
  have q1 := fun w => eq_initial n1 L1 hn1 hL1 w
  have q2 := fun w => eq_answer n2 m2 L2 hn2 hm2 hL2 w
  have q3 := fun w => eq_cookie n3 L3 hn3 hL3 w
  clear hL1 hL2 hL3
  have H1 := Lib.hid ((h1.alloc (.cells (WV kd (MV [n1] L1) (MV [n2, m2] L2) (MV [n3] L3) #[.int .u32 (r : Int), .int .u64 (c : Int), .slice A1 body.length k1]) 87)).alloc (.cells (WV kd (MV [n1] L1) (MV [n2, m2] L2) (MV [n3] L3) #[.int .u32 (r : Int), .int .u64 (c : Int), .slice A2 body.length k2]) 87))
  have H2 := Lib.hid ((h2.alloc (.cells (WV kd (MV [n1] L1) (MV [n2, m2] L2) (MV [n3] L3) #[.int .u32 (r : Int), .int .u64 (c : Int), .slice A1 body.length k1]) 87)).alloc (.cells (WV kd (MV [n1] L1) (MV [n2, m2] L2) (MV [n3] L3) #[.int .u32 (r : Int), .int .u64 (c : Int), .slice A2 body.length k2]) 87))
  have HA := Lib.hid (blk_old (blk_new w (.cells (WV kd (MV [n1] L1) (MV [n2, m2] L2) (MV [n3] L3) #[.int .u32 (r : Int), .int .u64 (c : Int), .slice A1 body.length k1]) 87)) (.cells (WV kd (MV [n1] L1) (MV [n2, m2] L2) (MV [n3] L3) #[.int .u32 (r : Int), .int .u64 (c : Int), .slice A2 body.length k2]) 87))
  have HB := Lib.hid (blk_new1 w (.cells (WV kd (MV [n1] L1) (MV [n2, m2] L2) (MV [n3] L3) #[.int .u32 (r : Int), .int .u64 (c : Int), .slice A1 body.length k1]) 87) (.cells (WV kd (MV [n1] L1) (MV [n2, m2] L2) (MV [n3] L3) #[.int .u32 (r : Int), .int .u64 (c : Int), .slice A2 body.length k2]) 87))
  have HW := Lib.hid (below_alloc (below_alloc (Below.refl w.heap.size w) (.cells (WV kd (MV [n1] L1) (MV [n2, m2] L2) (MV [n3] L3) #[.int .u32 (r : Int), .int .u64 (c : Int), .slice A1 body.length k1]) 87)) (.cells (WV kd (MV [n1] L1) (MV [n2, m2] L2) (MV [n3] L3) #[.int .u32 (r : Int), .int .u64 (c : Int), .slice A2 body.length k2]) 87))
  obtain ⟨W, hW⟩ : ∃ W, W = ((w.alloc (.cells (WV kd (MV [n1] L1) (MV [n2, m2] L2) (MV [n3] L3) #[.int .u32 (r : Int), .int .u64 (c : Int), .slice A1 body.length k1]) 87)).alloc (.cells (WV kd (MV [n1] L1) (MV [n2, m2] L2) (MV [n3] L3) #[.int .u32 (r : Int), .int .u64 (c : Int), .slice A2 body.length k2]) 87)) := ⟨_, rfl⟩
  rw [← hW] at H1 H2 HA HB HW
  have a0 := (blk_cell HA.out 0).trans (WV_0 _ _ _ _ _)
  have b0 := (blk_cell HB.out 0).trans (WV_0 _ _ _ _ _)
  have U0 : ∀ {ops : Array Oper} {rest : List Oper} {op : Oper} {a : Act} {Q : Exit → Act → World → Prop}, Region.wanted op (yielded ops a.tmps) = true → op.op = .load 50 (.tmp 11) → a.eval (.tmp 11) = .pointer (some ⟨w.heap.size, 1, none⟩) → wpList Try.prog ops Q rest (a.put op.dst (.agg (MV [n1] L1))) W → wpList Try.prog ops Q (op :: rest) a W := fun hw ho hx h => step_load_at hw 50 (.tmp 11) ho hx (rfl) (show W.heap[w.heap.size]? = some (.cells (#[.int .i64 kd] ++ (MV [n1] L1) ++ ((MV [n2, m2] L2) ++ (MV [n3] L3) ++ #[.int .u32 (r : Int), .int .u64 (c : Int), .slice A1 body.length k1])) 87 (0, 0)) from by rw [← WV_i]; exact HA.out) _ Try.underlying50 rfl (Mi.info_MV _ _ (by show 1 + L1.length = _; rw [HL1.out])) h
  have V0 : ∀ {ops : Array Oper} {rest : List Oper} {op : Oper} {a : Act} {Q : Exit → Act → World → Prop}, Region.wanted op (yielded ops a.tmps) = true → op.op = .load 50 (.tmp 13) → a.eval (.tmp 13) = .pointer (some ⟨w.heap.size + 1, 1, none⟩) → wpList Try.prog ops Q rest (a.put op.dst (.agg (MV [n1] L1))) W → wpList Try.prog ops Q (op :: rest) a W := fun hw ho hx h => step_load_at hw 50 (.tmp 13) ho hx (rfl) (show W.heap[w.heap.size + 1]? = some (.cells (#[.int .i64 kd] ++ (MV [n1] L1) ++ ((MV [n2, m2] L2) ++ (MV [n3] L3) ++ #[.int .u32 (r : Int), .int .u64 (c : Int), .slice A2 body.length k2])) 87 (0, 0)) from by rw [← WV_i]; exact HB.out) _ Try.underlying50 rfl (Mi.info_MV _ _ (by show 1 + L1.length = _; rw [HL1.out])) h
  have U1 : ∀ {ops : Array Oper} {rest : List Oper} {op : Oper} {a : Act} {Q : Exit → Act → World → Prop}, Region.wanted op (yielded ops a.tmps) = true → op.op = .load 40 (.tmp 18) → a.eval (.tmp 18) = .pointer (some ⟨w.heap.size, 142, none⟩) → wpList Try.prog ops Q rest (a.put op.dst (.agg (MV [n2, m2] L2))) W → wpList Try.prog ops Q (op :: rest) a W := fun hw ho hx h => step_load_at hw 40 (.tmp 18) ho hx (by rw [Array.size_append, MV1s, HL1.out]; rfl) (show W.heap[w.heap.size]? = some (.cells ((#[.int .i64 kd] ++ (MV [n1] L1)) ++ (MV [n2, m2] L2) ++ ((MV [n3] L3) ++ #[.int .u32 (r : Int), .int .u64 (c : Int), .slice A1 body.length k1])) 87 (0, 0)) from by rw [← WV_r]; exact HA.out) _ Try.underlying40 rfl (Ma.info_MV _ _ (by show 2 + L2.length = _; rw [HL2.out])) h
  have V1 : ∀ {ops : Array Oper} {rest : List Oper} {op : Oper} {a : Act} {Q : Exit → Act → World → Prop}, Region.wanted op (yielded ops a.tmps) = true → op.op = .load 40 (.tmp 20) → a.eval (.tmp 20) = .pointer (some ⟨w.heap.size + 1, 142, none⟩) → wpList Try.prog ops Q rest (a.put op.dst (.agg (MV [n2, m2] L2))) W → wpList Try.prog ops Q (op :: rest) a W := fun hw ho hx h => step_load_at hw 40 (.tmp 20) ho hx (by rw [Array.size_append, MV1s, HL1.out]; rfl) (show W.heap[w.heap.size + 1]? = some (.cells ((#[.int .i64 kd] ++ (MV [n1] L1)) ++ (MV [n2, m2] L2) ++ ((MV [n3] L3) ++ #[.int .u32 (r : Int), .int .u64 (c : Int), .slice A2 body.length k2])) 87 (0, 0)) from by rw [← WV_r]; exact HB.out) _ Try.underlying40 rfl (Ma.info_MV _ _ (by show 2 + L2.length = _; rw [HL2.out])) h
  have U2 : ∀ {ops : Array Oper} {rest : List Oper} {op : Oper} {a : Act} {Q : Exit → Act → World → Prop}, Region.wanted op (yielded ops a.tmps) = true → op.op = .load 26 (.tmp 25) → a.eval (.tmp 25) = .pointer (some ⟨w.heap.size, 224, none⟩) → wpList Try.prog ops Q rest (a.put op.dst (.agg (MV [n3] L3))) W → wpList Try.prog ops Q (op :: rest) a W := fun hw ho hx h => step_load_at hw 26 (.tmp 25) ho hx (by rw [Array.size_append, Array.size_append, MV1s, MV2s, HL1.out, HL2.out]; rfl) (show W.heap[w.heap.size]? = some (.cells ((#[.int .i64 kd] ++ (MV [n1] L1) ++ (MV [n2, m2] L2)) ++ (MV [n3] L3) ++ #[.int .u32 (r : Int), .int .u64 (c : Int), .slice A1 body.length k1]) 87 (0, 0)) from by rw [← WV_c]; exact HA.out) _ Try.underlying26 rfl (Mc.info_MV _ _ (by show 1 + L3.length = _; rw [HL3.out])) h
  have V2 : ∀ {ops : Array Oper} {rest : List Oper} {op : Oper} {a : Act} {Q : Exit → Act → World → Prop}, Region.wanted op (yielded ops a.tmps) = true → op.op = .load 26 (.tmp 27) → a.eval (.tmp 27) = .pointer (some ⟨w.heap.size + 1, 224, none⟩) → wpList Try.prog ops Q rest (a.put op.dst (.agg (MV [n3] L3))) W → wpList Try.prog ops Q (op :: rest) a W := fun hw ho hx h => step_load_at hw 26 (.tmp 27) ho hx (by rw [Array.size_append, Array.size_append, MV1s, MV2s, HL1.out, HL2.out]; rfl) (show W.heap[w.heap.size + 1]? = some (.cells ((#[.int .i64 kd] ++ (MV [n1] L1) ++ (MV [n2, m2] L2)) ++ (MV [n3] L3) ++ #[.int .u32 (r : Int), .int .u64 (c : Int), .slice A2 body.length k2]) 87 (0, 0)) from by rw [← WV_c]; exact HB.out) _ Try.underlying26 rfl (Mc.info_MV _ _ (by show 1 + L3.length = _; rw [HL3.out])) h
  have U3 : ∀ {ops : Array Oper} {rest : List Oper} {op : Oper} {a : Act} {Q : Exit → Act → World → Prop}, Region.wanted op (yielded ops a.tmps) = true → op.op = .load 59 (.tmp 32) → a.eval (.tmp 32) = .pointer (some ⟨w.heap.size, 281, none⟩) → wpList Try.prog ops Q rest (a.put op.dst (.agg #[.int .u32 (r : Int), .int .u64 (c : Int), .slice A1 body.length k1])) W → wpList Try.prog ops Q (op :: rest) a W := fun hw ho hx h => step_load_at hw 59 (.tmp 32) ho hx (by rw [Array.size_append, Array.size_append, Array.size_append, MV1s, MV2s, MV1s, HL1.out, HL2.out, HL3.out]; rfl) (show W.heap[w.heap.size]? = some (.cells ((#[.int .i64 kd] ++ (MV [n1] L1) ++ (MV [n2, m2] L2) ++ (MV [n3] L3)) ++ #[.int .u32 (r : Int), .int .u64 (c : Int), .slice A1 body.length k1] ++ #[]) 87 (0, 0)) from by rw [← WV_t]; exact HA.out) _ Try.underlying59 rfl (infoT) h
  have V3 : ∀ {ops : Array Oper} {rest : List Oper} {op : Oper} {a : Act} {Q : Exit → Act → World → Prop}, Region.wanted op (yielded ops a.tmps) = true → op.op = .load 59 (.tmp 34) → a.eval (.tmp 34) = .pointer (some ⟨w.heap.size + 1, 281, none⟩) → wpList Try.prog ops Q rest (a.put op.dst (.agg #[.int .u32 (r : Int), .int .u64 (c : Int), .slice A2 body.length k2])) W → wpList Try.prog ops Q (op :: rest) a W := fun hw ho hx h => step_load_at hw 59 (.tmp 34) ho hx (by rw [Array.size_append, Array.size_append, Array.size_append, MV1s, MV2s, MV1s, HL1.out, HL2.out, HL3.out]; rfl) (show W.heap[w.heap.size + 1]? = some (.cells ((#[.int .i64 kd] ++ (MV [n1] L1) ++ (MV [n2, m2] L2) ++ (MV [n3] L3)) ++ #[.int .u32 (r : Int), .int .u64 (c : Int), .slice A2 body.length k2] ++ #[]) 87 (0, 0)) from by rw [← WV_t]; exact HB.out) _ Try.underlying59 rfl (infoT) h
  rw [hW] at a0 b0 U0 V0 U1 V1 U2 V2 U3 V3
  clear h1 h2
  go_enter Try.func54, Try.ntmps54
  go_wp2_with (first | ((with_reducible refine U0 ?qw rfl rfl ?_); (case qw => rfl)) | ((with_reducible refine V0 ?qw rfl rfl ?_); (case qw => rfl)) | ((with_reducible refine U1 ?qw rfl rfl ?_); (case qw => rfl)) | ((with_reducible refine V1 ?qw rfl rfl ?_); (case qw => rfl)) | ((with_reducible refine U2 ?qw rfl rfl ?_); (case qw => rfl)) | ((with_reducible refine V2 ?qw rfl rfl ?_); (case qw => rfl)) | ((with_reducible refine U3 ?qw rfl rfl ?_); (case qw => rfl)) | ((with_reducible refine V3 ?qw rfl rfl ?_); (case qw => rfl)))
  rw [← hW]
  refine (Da.refSame_any r r c c A1 A2 k1 k2 body body _ H1.out H2.out).mono ?_
  rintro e w1 ⟨rfl, hb⟩
  rw [show decide (r = r ∧ c = c ∧ body = body) = true from decide_eq_true ⟨rfl, rfl, rfl⟩]
  have HB1 := Lib.hid (below_comp HW.out hb)
  clear hb
  go_wp2_with fail
  go_ret
  exact ⟨rfl, HB1.out⟩

theorem name4 (w : World) : Calls Try.prog 56 #[.int .i64 4] w fun e w' => e = .returned (.string ⟨#[100, 97, 116, 97]⟩) ∧ w = w' := by
  go_enter Try.func56, Try.ntmps56
  go_wp2
  go_ret
  exact ⟨rfl, rfl⟩
theorem e5 : errW [5] = 9 ∧ kdW [5] = 0 ∧ iW [5] = Mi.ZM ∧ rW [5] = Ma.ZM ∧ cW [5] = Mc.ZM ∧ tW [5] = (0, 0, []) := by
  obtain ⟨h1, h2, h3, h4, h5⟩ := kindW0 [5] (by decide) (by decide) (by decide) (by decide)
  rw [if_neg (by decide)] at h1
  exact ⟨h1, by unfold kdW; rw [h1]; rfl, h2, h3, h4, h5⟩
theorem out3 : outW 3 0 (List.replicate 140 0) 0 0 (List.replicate 80 0) 0 (List.replicate 56 0) 0 0 [] = (3 :: List.replicate 63 0, 0) := by
  unfold outW
  rw [if_neg (by decide), if_neg (by decide), if_pos rfl, Mc.raw_zero]

set_option maxHeartbeats 4000000 in
theorem alive_any (w : World) : Calls Try.prog 49 #[] w fun e w' => e = .returned (.bool true) ∧ Below w.heap.size w w' := by
  have HR : Hid (RB (w.alloc (.cells #[.int .u8 5] 5)) (.slice (some ⟨w.heap.size, 0, none⟩) 1 1) [5]) := Lib.hid (OB.lit w 0 [5] (Nat.zero_le _) (by decide)).rb
  obtain ⟨A, c, e, hc, hr⟩ := HR.out
  injection e with e1 e2 e3
  subst e1 e3
  have HP := Lib.hid (parse_any _ 1 [5] _ hc hr (by decide))
  obtain ⟨x1, x2, x3, x4, x5, x6⟩ := e5
  have E1 := Lib.hid x1; have E2 := Lib.hid x2; have E3 := Lib.hid x3; have E4 := Lib.hid x4; have E5 := Lib.hid x5; have E6 := Lib.hid x6
  clear hr hc e2 x1 x2 x3 x4 x5 x6 HR
  go_enter Try.func49, Try.ntmps49
  go_wp2_with fail
  refine (HP.out).mono ?_
  rintro e w1 ⟨v, rfl, hv, hb⟩
  rw [E1.out, E2.out, E3.out, E4.out, E5.out, E6.out]
  rw [E6.out] at hv
  obtain ⟨A1, k1, e1, hk1, hr1⟩ := hv
  subst e1
  have HB1 := Lib.hid (below_comp (below_alloc (Below.refl _ _) _) hb)
  clear hb hk1 hr1 HP
  rw [show (((0 : Nat) : Int)) = 0 from rfl, show ([] : List UInt8).length = 0 from rfl]
  have FA := Lib.hid (blk_new w1 (.cells ZW 87))
  have STA : ∀ {ops : Array Oper} {rest : List Oper} {op : Oper} {a : Act} {Q : Exit → Act → World → Prop}, op.guard = none → op.op = .store 87 (.tmp 1) (.tmp 8) → a.eval (.tmp 1) = .pointer (some ⟨w1.heap.size, 0, none⟩) → a.eval (.tmp 8) = .agg (WV 0 Mi.ZM Ma.ZM Mc.ZM #[.int .u32 0, .int .u64 0, .slice A1 0 k1]) → wpList Try.prog ops Q rest (a.put op.dst undef) ((w1.alloc (.cells ZW 87)).setCells w1.heap.size 0 (WV 0 Mi.ZM Ma.ZM Mc.ZM #[.int .u32 0, .int .u64 0, .slice A1 0 k1]).toList) → wpList Try.prog ops Q (op :: rest) a (w1.alloc (.cells ZW 87)) := fun hg ho hx hy h => step_store hg 87 (.tmp 1) (.tmp 8) ho hx hy FA.out (by rw [ZW_size]; exact WV_size _ _ _ _ _ Mi.ZM_size Ma.ZM_size Mc.ZM_size rfl) (by rw [ZW_size]; exact infoW) (WV_one _ _ _ _ _ Mi.ZM_one Ma.ZM_one Mc.ZM_one (by simp [Value.oneCell'])) h
  have HB2 := Lib.hid (HB1.out.trans ((setCells_below (B := w1.heap.size) w1.heap.size (Nat.le_refl _) (WV 0 Mi.ZM Ma.ZM Mc.ZM #[.int .u32 0, .int .u64 0, .slice A1 0 k1]).toList 0 _ (below_alloc (Below.refl _ _) (.cells ZW 87))).mono HB1.out.size))
  have hB := fun W => bytes_any 3 0 (List.replicate 140 0) 0 0 (List.replicate 80 0) 0 (List.replicate 56 0) 0 0 none [] 0 W (by decide) (by simp) (by decide) (by decide) (by simp) (by decide) (by simp) (by decide) (Lib.hid (by decide)) (RB.nil W)
  rw [out3] at hB
  have HBB : Hid (∀ W, Calls Try.prog 50 #[.agg (WV 3 Mi.ZM Ma.ZM Mc.ZM ZT)] W (TellsW W (3 :: List.replicate 63 0, 0))) := Lib.hid hB
  clear hB
  go_wp2_with (first | ((with_reducible refine step_alloc rfl 87 rfl ZW zeroW ?_)) | ((with_reducible refine STA rfl rfl rfl rfl ?_)) | ((with_reducible refine step_build1 rfl 87 (.const (.int .i64 3)) rfl (.int .i64 3) rfl (WV 3 Mi.ZM Ma.ZM Mc.ZM ZT) (buildW1 3) ?_)))
  refine (HBB.out _).mono ?_
  rintro e w2 ⟨v, rfl, ho, hb⟩
  obtain ⟨g, cap, rfl, _, _, _⟩ := OB.form ho (by simp)
  have HB3 := Lib.hid (below_comp HB2.out hb)
  have hlen : (3 :: List.replicate 63 (0 : UInt8)).length = 64 := by simp
  rw [hlen] at *
  clear ho hb hlen HBB STA
  go_wp2_with (go_at_call 56; refine (name4 _).mono ?_; rintro e w' ⟨rfl, rfl⟩)
  go_ret
  exact ⟨rfl, HB3.out⟩

end Go.Proofs.Ytnehbhhjdjiieaa.Wm
