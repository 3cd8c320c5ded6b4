/- The statements of data. -/
import Derived.Test.YtnehbhhjdjiieaaDs
set_option linter.unusedSimpArgs false
set_option linter.unusedVariables false
set_option maxRecDepth 100000
namespace Go.Proofs.Ytnehbhhjdjiieaa.Da
open Go.RowKit Go.Proofs.YtnehbhhjdjiieaaW.PrintWords Go.Proofs.Ytnehbhhjdjiieaa.Bs Go.Proofs.Ytnehbhhjdjiieaa.Le Go.Proofs.Ytnehbhhjdjiieaa.Mv Go.Proofs.Ytnehbhhjdjiieaa.Co Go.Proofs.Ytnehbhhjdjiieaa.Tk

theorem rawD_length (r c : Nat) (body : List UInt8) : (rawD r c body).length = 16 + body.length := by unfold rawD; simp only [List.length_append, leB_length, List.length_cons, List.length_nil]
theorem rawD_bad (r c : Nat) (body : List UInt8) : badD (rawD r c body) = sizeE (body.length : Int) := by
  have hk : (rawD r c body).getD 0 0 = 4 := by simp [rawD]
  have hz : zero3 (rawD r c body) := by simp [zero3, rawD]
  rcases sizeE_len body.length with ⟨e, h⟩ | ⟨e, h⟩ | ⟨e, h⟩
  · rw [e]; unfold badD; rw [rawD_length, if_pos (by omega)]
  · rw [e]; unfold badD; rw [rawD_length, if_neg (by omega), if_pos (by omega)]
  · rw [e]; unfold badD; rw [rawD_length, if_neg (by omega), if_neg (by omega), if_neg (fun h => h hk), if_neg (fun h => h hz)]
theorem rawD_msg (r c : Nat) (body : List UInt8) (hr : r < 4294967296) (hc : c < 18446744073709551616) (hE : sizeE (body.length : Int) = 0) : msgD (rawD r c body) = (r, c, body) := by
  rw [msgD_good _ ((rawD_bad r c body).trans hE)]
  have e1 : ((rawD r c body).drop 4).take 4 = leB 4 r := by unfold rawD; simp [leB_length, List.take_append, List.drop_append, leB]
  have e2 : ((rawD r c body).drop 8).take 8 = leB 8 c := by unfold rawD; simp [leB_length, List.take_append, List.drop_append, leB]
  have e3 : (rawD r c body).drop 16 = body := by unfold rawD; simp [leB_length, List.drop_append, leB]
  rw [e1, e2, e3, ofLe_leB 4 r (by simpa using hr), ofLe_leB 8 c (by simpa using hc)]
theorem backD (b : List UInt8) (h : badD b = 0) : rawD (msgD b).1 (msgD b).2.1 (msgD b).2.2 = b ∧ sizeE ((msgD b).2.2.length : Int) = 0 ∧ (msgD b).1 < 4294967296 ∧ (msgD b).2.1 < 18446744073709551616 := by
  rcases badD_cases b with ⟨e, _⟩ | ⟨e, _⟩ | ⟨e, _⟩ | ⟨e, _⟩ | ⟨_, h1, h2, h3, h4, h5, h6⟩
  · rw [h] at e; cases e
  · rw [h] at e; cases e
  · rw [h] at e; cases e
  · rw [h] at e; cases e
  · rw [msgD_good b h]
    have l4 : ((b.drop 4).take 4).length = 4 := by rw [List.length_take, List.length_drop]; omega
    have l8 : ((b.drop 8).take 8).length = 8 := by rw [List.length_take, List.length_drop]; omega
    have e4 : leB 4 (ofLe ((b.drop 4).take 4)) = (b.drop 4).take 4 := by have := leB_ofLe ((b.drop 4).take 4); rwa [l4] at this
    have e8 : leB 8 (ofLe ((b.drop 8).take 8)) = (b.drop 8).take 8 := by have := leB_ofLe ((b.drop 8).take 8); rwa [l8] at this
    refine ⟨?_, ?_, ?_, ?_⟩
    · have f := first4 b (by omega)
      rw [h3, h4, h5, h6] at f
      unfold rawD
      show [4, 0, 0, 0] ++ leB 4 _ ++ leB 8 _ ++ b.drop 16 = b
      rw [e4, e8, ← f, show b.drop 16 = (b.drop 8).drop 8 by rw [List.drop_drop], List.append_assoc, List.take_append_drop, show b.drop 8 = (b.drop 4).drop 4 by rw [List.drop_drop], List.append_assoc, List.take_append_drop, List.take_append_drop]
    · show sizeE ((b.drop 16).length : Int) = 0
      rw [List.length_drop]
      unfold sizeE
      rw [if_neg (by omega), if_neg (by omega)]
    · have := ofLe_lt ((b.drop 4).take 4); rw [l4] at this; exact this
    · have := ofLe_lt ((b.drop 8).take 8); rw [l8] at this; exact this
theorem three_on {w : World} {g : Nat} {T : TypeId} {x y z : Value} (h : w.heap[g]? = some (.cells #[x, y, z] T (0, 0))) :
    (∀ o, (w.alloc o).cell? ⟨g, 0, none⟩ = some x) ∧ (∀ o, (w.alloc o).cell? ⟨g, 1, none⟩ = some y) ∧ (∀ o, (w.alloc o).cell? ⟨g, 2, none⟩ = some z) :=
  ⟨fun o => (three_at (blk_old h o)).1, fun o => (three_at (blk_old h o)).2.1, fun o => (three_at (blk_old h o)).2.2.1⟩

set_option maxHeartbeats 4000000 in
theorem back_walk (r c : Nat) (A : Option Addr) (body : List UInt8) (k : Nat) (w : World) (hr : r < 4294967296) (hc : Hid (c < 18446744073709551616)) (hb : RB w (.slice A body.length k) body) :
    Calls Try.prog 11 #[.agg #[.int .u32 r, .int .u64 c, .slice A body.length k]] w fun e w' => e = .returned (.bool true) ∧ Below w.heap.size w w' := by
  have hl := hb.len
  have HX := Lib.hid (blk_new w (.cells #[.int .u32 (r : Int), .int .u64 (c : Int), .slice A body.length k] 59))
  have HBD := Lib.hid (hb.alloc (.cells #[.int .u32 (r : Int), .int .u64 (c : Int), .slice A body.length k] 59))
  have HB0 := Lib.hid (below_alloc (Below.refl w.heap.size w) (.cells #[.int .u32 (r : Int), .int .u64 (c : Int), .slice A body.length k] 59))
  clear hb
  by_cases h : 1000 < body.length
  · go_enter Try.func11, Try.ntmps11
    go_wp2_with fail
    refine (alive_any _).mono ?_
    rintro e w1 ⟨rfl, hb⟩
    have HB1 := Lib.hid (below_comp HB0.out hb)
    clear hb
    go_wp2_with fail
    go_ret
    exact ⟨rfl, HB1.out⟩
  rcases sizeE_len body.length with ⟨hE, h16⟩ | ⟨hE, h16⟩ | ⟨hE, h16⟩
  · have HE := Lib.hid hE
    clear hE
    go_enter Try.func11, Try.ntmps11
    go_wp2_with fail
    refine (bytes_bad r c A body k _ hl (by rw [HE.out]; decide)).mono ?_
    rintro e w1 ⟨rfl, hb⟩
    rw [HE.out]
    have HX1 := Lib.hid (blk_below HX.out hb)
    have HB1 := Lib.hid (below_comp HB0.out hb)
    obtain ⟨c0, c1, c2, _, _, _⟩ := three_at HX1.out
    clear hb
    go_wp2_with fail
    refine (refBytes_bad r c A body k _ hl (by rw [HE.out]; decide)).mono ?_
    rintro e w2 ⟨rfl, hb⟩
    rw [HE.out]
    have HB2 := Lib.hid (below_comp HB1.out hb)
    clear hb c0 c1 c2
    go_wp2_with fail
    refine (En.same_any _ _ [] [] _ (RB.nil _) (RB.nil _)).mono ?_
    rintro e w3 ⟨rfl, hb⟩
    rw [show decide (([] : List UInt8) = []) = true from decide_eq_true rfl]
    have HB3 := Lib.hid (below_comp HB2.out hb)
    clear hb
    go_wp2_with fail
    refine (alive_any _).mono ?_
    rintro e w4 ⟨rfl, hb⟩
    have HB4 := Lib.hid (below_comp HB3.out hb)
    clear hb
    go_wp2_with fail
    go_ret
    exact ⟨rfl, HB4.out⟩
  · exact absurd h16 (by omega)
  · have HE := Lib.hid hE
    have HMSG := Lib.hid (rawD_msg r c body hr hc.out hE)
    have HBAD := Lib.hid ((rawD_bad r c body).trans hE)
    clear hE
    generalize hR : rawD r c body = R at HMSG HBAD
    have HR := Lib.hid hR
    clear hR
    go_enter Try.func11, Try.ntmps11
    go_wp2_with fail
    refine (bytes_any r c A body k _ hr hc HBD.out HE.out).mono ?_
    rintro e w1 ⟨v1, rfl, ho, hb⟩
    rw [HR.out] at ho
    have HX1 := Lib.hid (blk_below HX.out hb)
    have HB1 := Lib.hid (below_comp HB0.out hb)
    have HBD1 := Lib.hid (HBD.out.below hb)
    obtain ⟨c0, c1, c2, _, _, _⟩ := three_at HX1.out
    obtain ⟨A1, k1, rfl, hk1, hr1⟩ := ho.rb
    have HV1 : Hid (RB w1 (.slice A1 R.length k1) R) := Lib.hid ⟨A1, k1, rfl, hk1, hr1⟩
    clear ho hb hr1
    go_wp2_with fail
    refine (refBytes_any r c A body k _ hr hc HBD1.out HE.out).mono ?_
    rintro e w2 ⟨v2, rfl, ho, hb⟩
    rw [HR.out] at ho
    have HX2 := Lib.hid (blk_below HX1.out hb)
    have HB2 := Lib.hid (below_comp HB1.out hb)
    have HBD2 := Lib.hid (HBD1.out.below hb)
    have HV2 := Lib.hid (HV1.out.below hb)
    have HU2 := Lib.hid ho.rb
    clear ho hb c0 c1 c2 HX1 HB1 HBD1 HV1
    go_wp2_with fail
    refine (En.same_any _ v2 R R _ HV2.out HU2.out).mono ?_
    rintro e w3 ⟨rfl, hb⟩
    rw [show decide (R = R) = true from decide_eq_true rfl]
    have HX3 := Lib.hid (blk_below HX2.out hb)
    have HB3 := Lib.hid (below_comp HB2.out hb)
    have HBD3 := Lib.hid (HBD2.out.below hb)
    have HV3 := Lib.hid (HV2.out.below hb)
    clear hb HX2 HB2 HBD2 HV2 HU2
    obtain ⟨A1', k1', e1, hk2, hr2⟩ := HV3.out
    injection e1 with e2 e3 e4
    subst e2 e4
    have HR2 := Lib.hid hr2
    clear hr2 e3
    go_wp2_with fail
    refine (parse_any A1 k1 R _ hk2 HR2.out).mono ?_
    rintro e w4 ⟨v, rfl, hv, hb, _⟩
    rw [HBAD.out, HMSG.out]
    rw [HMSG.out] at hv
    obtain ⟨A4, k4, rfl, hk4, hr4⟩ := hv
    have HX4 := Lib.hid (blk_below HX3.out hb)
    have HB4 := Lib.hid (below_comp HB3.out hb)
    have HBD4 := Lib.hid (HBD3.out.below hb)
    have HV4 : Hid (RB w4 (.slice A4 body.length k4) body) := Lib.hid ⟨A4, k4, rfl, hk4, hr4⟩
    obtain ⟨c0, c1, c2⟩ := three_on HX4.out
    clear hb hr4 HX3 HB3 HBD3 HV3 HR2
    go_wp2_with fail
    have HX5 := Lib.hid (blk_old HX4.out (.cells #[.int .u32 (r : Int), .int .u64 (c : Int), .slice A4 body.length k4] 59))
    have HN5 := Lib.hid (blk_new w4 (.cells #[.int .u32 (r : Int), .int .u64 (c : Int), .slice A4 body.length k4] 59))
    have HV5 := Lib.hid (HV4.out.alloc (.cells #[.int .u32 (r : Int), .int .u64 (c : Int), .slice A4 body.length k4] 59))
    have HBD5 := Lib.hid (HBD4.out.alloc (.cells #[.int .u32 (r : Int), .int .u64 (c : Int), .slice A4 body.length k4] 59))
    have HB5 := Lib.hid (below_alloc HB4.out (.cells #[.int .u32 (r : Int), .int .u64 (c : Int), .slice A4 body.length k4] 59))
    refine (refSame_any r r c c A4 A k4 k body body _ HV5.out HBD5.out).mono ?_
    rintro e w5 ⟨rfl, hb⟩
    rw [show decide (r = r ∧ c = c ∧ body = body) = true from decide_eq_true ⟨rfl, rfl, rfl⟩]
    have HX6 := Lib.hid (blk_below HX5.out hb)
    have HN6 := Lib.hid (blk_below HN5.out hb)
    have HV6 := Lib.hid (HV5.out.below hb)
    have HBD6 := Lib.hid (HBD5.out.below hb)
    have HB6 := Lib.hid (below_comp HB5.out hb)
    obtain ⟨d0, d1, d2, _, _, _⟩ := three_at HX6.out
    obtain ⟨f0, f1, f2, _, _, _⟩ := three_at HN6.out
    clear hb c0 c1 c2 HX4 HB4 HBD4 HV4 HX5 HN5 HV5 HBD5 HB5
    go_wp2_with fail
    refine (same_any r r c c A4 A k4 k body body _ HV6.out HBD6.out).mono ?_
    rintro e w6 ⟨rfl, hb⟩
    rw [show decide (r = r ∧ c = c ∧ body = body) = true from decide_eq_true ⟨rfl, rfl, rfl⟩]
    have HB7 := Lib.hid (below_comp HB6.out hb)
    clear hb d0 d1 d2 f0 f1 f2 HX6 HN6 HV6 HBD6 HB6
    go_wp2_with fail
    refine (alive_any _).mono ?_
    rintro e w7 ⟨rfl, hb⟩
    have HB8 := Lib.hid (below_comp HB7.out hb)
    clear hb
    go_wp2_with fail
    go_ret
    exact ⟨rfl, HB8.out⟩

set_option maxHeartbeats 4000000 in
theorem reads_walk (A : Option Addr) (k : Nat) (b : List UInt8) (w : World) (hk : b.length ≤ k) (hr : ReadsOf B 0 w A b.length b) :
    Calls Try.prog 9 #[.slice A b.length k] w fun e w' => e = .returned (.bool true) ∧ Below w.heap.size w w' := by
  have hbl := hr.2.1
  by_cases h : 1000 < b.length
  · go_enter Try.func9, Try.ntmps9
    go_wp2_with fail
    refine (alive_any _).mono ?_
    rintro e w' ⟨rfl, hb⟩
    go_wp2_with fail
    go_ret
    exact ⟨rfl, hb⟩
  have HR := Lib.hid hr
  have HRB : Hid (RB w (.slice A b.length k) b) := Lib.hid ⟨A, k, rfl, hk, hr⟩
  clear hr
  obtain ⟨M, hM⟩ : ∃ M, msgD b = M := ⟨_, rfl⟩
  obtain ⟨r, c, body⟩ := M
  have HMSG := Lib.hid hM
  have hbody : body.length ≤ 1000 := by
    by_cases h0 : badD b = 0
    · rw [msgD_good b h0] at hM
      injection hM with _ hM
      injection hM with _ hM
      rw [← hM, List.length_drop]; omega
    · rw [msgD_bad b h0] at hM
      injection hM with _ hM
      injection hM with _ hM
      rw [← hM]; simp
  have HBACK : Hid (badD b = 0 → rawD r c body = b ∧ sizeE (body.length : Int) = 0 ∧ r < 4294967296 ∧ c < 18446744073709551616) := Lib.hid (fun h0 => by have h := backD b h0; rw [hM] at h; exact h)
  have HNOT : Hid (¬ badD b = 0 → r = 0 ∧ c = 0 ∧ body = []) := Lib.hid (fun h0 => by rw [msgD_bad b h0] at hM; injection hM with e1 hM; injection hM with e2 e3; exact ⟨e1.symm, e2.symm, e3.symm⟩)
  clear hM
  obtain ⟨E, hE⟩ : ∃ E, badD b = E := ⟨_, rfl⟩
  have HBAD := Lib.hid hE
  rw [hE] at HBACK HNOT
  clear hE
  go_enter Try.func9, Try.ntmps9
  go_wp2_with fail
  refine (parse_any A k b _ hk HR.out).mono ?_
  rintro e w1 ⟨v, rfl, hv, hb, _⟩
  rw [HBAD.out, HMSG.out]
  rw [HMSG.out] at hv
  obtain ⟨A1, k1, rfl, hk1, hr1⟩ := hv
  have HV1 : Hid (RB w1 (.slice A1 body.length k1) body) := Lib.hid ⟨A1, k1, rfl, hk1, hr1⟩
  have HB1 := Lib.hid hb
  have HRB1 := Lib.hid (HRB.out.below hb)
  clear hb hr1
  have HN1 := Lib.hid (blk_new w1 (.cells #[.int .u32 (r : Int), .int .u64 (c : Int), .slice A1 body.length k1] 59))
  have HB1' := Lib.hid (below_alloc HB1.out (.cells #[.int .u32 (r : Int), .int .u64 (c : Int), .slice A1 body.length k1] 59))
  have HV1' := Lib.hid (HV1.out.alloc (.cells #[.int .u32 (r : Int), .int .u64 (c : Int), .slice A1 body.length k1] 59))
  have HRB1' := Lib.hid (HRB1.out.alloc (.cells #[.int .u32 (r : Int), .int .u64 (c : Int), .slice A1 body.length k1] 59))
  obtain ⟨A', k', e', hk2, hr2⟩ := HRB1'.out
  injection e' with e1 e2 e3
  subst e1 e3
  have HR2 := Lib.hid hr2
  clear hr2 e2 HV1 HB1 HRB1
  go_wp2_with fail
  refine (refParse_any A k b _ hk HR2.out).mono ?_
  rintro e w2 ⟨v, rfl, hv, hb, _⟩
  rw [HBAD.out, HMSG.out]
  rw [HMSG.out] at hv
  obtain ⟨A2, k2, rfl, hk3, hr3⟩ := hv
  have HU2 : Hid (RB w2 (.slice A2 body.length k2) body) := Lib.hid ⟨A2, k2, rfl, hk3, hr3⟩
  have HN2 := Lib.hid (blk_below HN1.out hb)
  have HB2 := Lib.hid (below_comp HB1'.out hb)
  have HV2 := Lib.hid (HV1'.out.below hb)
  have HRB2 := Lib.hid (HRB1'.out.below hb)
  clear hb hr3 HN1 HB1' HV1' HRB1' HR2
  obtain ⟨c0, c1, c2⟩ := three_on HN2.out
  have HN3 := Lib.hid (blk_old HN2.out (.cells #[.int .u32 (r : Int), .int .u64 (c : Int), .slice A2 body.length k2] 59))
  have HB3 := Lib.hid (below_alloc HB2.out (.cells #[.int .u32 (r : Int), .int .u64 (c : Int), .slice A2 body.length k2] 59))
  have HV3 := Lib.hid (HV2.out.alloc (.cells #[.int .u32 (r : Int), .int .u64 (c : Int), .slice A2 body.length k2] 59))
  have HU3 := Lib.hid (HU2.out.alloc (.cells #[.int .u32 (r : Int), .int .u64 (c : Int), .slice A2 body.length k2] 59))
  have HRB3 := Lib.hid (HRB2.out.alloc (.cells #[.int .u32 (r : Int), .int .u64 (c : Int), .slice A2 body.length k2] 59))
  clear HN2 HB2 HV2 HRB2 HU2
  go_wp2_with fail
  refine (refSame_any r r c c A1 A2 k1 k2 body body _ HV3.out HU3.out).mono ?_
  rintro e w3 ⟨rfl, hb⟩
  rw [show decide (r = r ∧ c = c ∧ body = body) = true from decide_eq_true ⟨rfl, rfl, rfl⟩]
  have HN4 := Lib.hid (blk_below HN3.out hb)
  have HB4 := Lib.hid (below_comp HB3.out hb)
  have HV4 := Lib.hid (HV3.out.below hb)
  have HRB4 := Lib.hid (HRB3.out.below hb)
  obtain ⟨d0, d1, d2, _, _, _⟩ := three_at HN4.out
  clear hb c0 c1 c2 HN3 HB3 HV3 HU3 HRB3
  by_cases h0 : E = 0
  · subst h0
    obtain ⟨hback, hsz, hrr, hcc⟩ := HBACK.out rfl
    have HBK := Lib.hid hback
    have HSZ := Lib.hid hsz
    have HCC := Lib.hid hcc
    clear hback hsz hcc HNOT
    go_wp2_with fail
    refine (bytes_any r c A1 body k1 _ hrr HCC HV4.out HSZ.out).mono ?_
    rintro e w4 ⟨v, rfl, ho, hb⟩
    rw [HBK.out] at ho
    have HB5 := Lib.hid (below_comp HB4.out hb)
    have HV5 := Lib.hid ho.rb
    have HRB5 := Lib.hid (HRB4.out.below hb)
    clear hb ho d0 d1 d2
    go_wp2_with fail
    refine (En.same_any v _ b b _ HV5.out HRB5.out).mono ?_
    rintro e w5 ⟨rfl, hb⟩
    rw [show decide (b = b) = true from decide_eq_true rfl]
    have HB6 := Lib.hid (below_comp HB5.out hb)
    clear hb
    go_wp2_with fail
    refine (alive_any _).mono ?_
    rintro e w6 ⟨rfl, hb⟩
    have HB7 := Lib.hid (below_comp HB6.out hb)
    clear hb
    go_wp2_with fail
    go_ret
    exact ⟨rfl, HB7.out⟩
  · obtain ⟨rfl, rfl, rfl⟩ := HNOT.out h0
    have hE2 : (E != 0) = true := bne_iff_ne.2 h0
    have hE3 : (E == 0) = false := beq_false_of_ne h0
    go_wp2_with fail
    refine (bytes_bad 0 0 A1 [] k1 _ (by decide) (by decide)).mono ?_
    rintro e w4 ⟨rfl, hb⟩
    rw [show sizeE ((([] : List UInt8).length : Nat) : Int) = 3 from by decide]
    have HB5 := Lib.hid (below_comp HB4.out hb)
    clear hb d0 d1 d2
    go_wp2_with fail
    refine (alive_any _).mono ?_
    rintro e w6 ⟨rfl, hb⟩
    have HB7 := Lib.hid (below_comp HB5.out hb)
    clear hb
    go_wp2_with fail
    go_ret
    exact ⟨rfl, HB7.out⟩
end Go.Proofs.Ytnehbhhjdjiieaa.Da
