/- Package data: the message of bytes. -/
import Derived.Test.YtnehbhhjdjiieaaDp
set_option linter.unusedSimpArgs false
set_option linter.unusedVariables false
set_option maxRecDepth 100000
namespace Go.Proofs.Ytnehbhhjdjiieaa.Da
open Go.RowKit Go.Proofs.YtnehbhhjdjiieaaW.PrintWords Go.Proofs.Ytnehbhhjdjiieaa.Bs Go.Proofs.Ytnehbhhjdjiieaa.Le Go.Proofs.Ytnehbhhjdjiieaa.Mv Go.Proofs.Ytnehbhhjdjiieaa.Co Go.Proofs.Ytnehbhhjdjiieaa.Tk

set_option maxHeartbeats 4000000 in
theorem parse_any (A : Option Addr) (c : Nat) (b : List UInt8) (w : World) (hc : b.length ≤ c) (hr : ReadsOf B 0 w A b.length b) :
    Calls Try.prog 35 #[.slice A b.length c] w (GotD w b) := by
  have hl := hr.2.1
  have hw : IntKind.i64.wrap ((b.length : Int) - 16) = (b.length : Int) - 16 := by rw [IntKind.wrap_i64]; omega
  rcases badD_cases b with ⟨hb, h⟩ | ⟨hb, h⟩ | ⟨hb, h, h2, h0⟩ | ⟨hb, h, h2, h0, h1⟩ | ⟨hb, h, h2, h0, h1⟩
  · have hm := msgD_bad b (by rw [hb]; decide)
    unfold GotD
    rw [hm, hb]
    clear hm hb
    have HSE : Hid (sizeE ((b.length : Int) - 16) = 3) := Lib.hid (by unfold sizeE; rw [if_pos (by omega)])
    go_enter Try.func35, Try.ntmps35
    go_wp2_with fail
    refine (sized_any _ _ (by omega) (by omega)).mono ?_
    rintro e w' ⟨rfl, rfl⟩
    rw [HSE.out]
    go_wp2_with fail
    refine bodyPost_ret (by simp [results, Try.results35, go_sem]; try rfl) rfl ?_
    exact ⟨_, rfl, RB.nil _, below_alloc (Below.refl _ _) _, fun g _ => by simp [Value.ownBlock]⟩
  · have hm := msgD_bad b (by rw [hb]; decide)
    unfold GotD
    rw [hm, hb]
    clear hm hb
    have HSE : Hid (sizeE ((b.length : Int) - 16) = 4) := Lib.hid (by unfold sizeE; rw [if_neg (by omega), if_pos (by omega)])
    go_enter Try.func35, Try.ntmps35
    go_wp2_with fail
    refine (sized_any _ _ (by omega) (by omega)).mono ?_
    rintro e w' ⟨rfl, rfl⟩
    rw [HSE.out]
    go_wp2_with fail
    refine bodyPost_ret (by simp [results, Try.results35, go_sem]; try rfl) rfl ?_
    exact ⟨_, rfl, RB.nil _, below_alloc (Below.refl _ _) _, fun g _ => by simp [Value.ownBlock]⟩
  · have hm := msgD_bad b (by rw [hb]; decide)
    unfold GotD
    rw [hm, hb]
    clear hm hb
    have HSE : Hid (sizeE ((b.length : Int) - 16) = 0) := Lib.hid (by unfold sizeE; rw [if_neg (by omega), if_neg (by omega)])
    obtain ⟨ad, rfl, hc0⟩ := reads_cell hr 0 (by omega)
    rw [show ad.add 0 = ad by simp [Addr.add]] at hc0
    have hd0 := fun o1 => pw_cell_below (below_alloc (Below.refl w.heap.size w) o1) hc0
    have hy0 := byte_lt (b.getD 0 0)
    have hx0 : ¬ ((b.getD 0 0).toNat : Int) = 4 := fun e => h0 (UInt8.toNat_inj.1 (by rw [show (b.getD 0 0).toNat = 4 by omega]; rfl))
    generalize (b.getD 0 0).toNat = x0 at hd0 hx0 hy0
    clear hc0 h0
    go_enter Try.func35, Try.ntmps35
    go_wp2_with fail
    refine (sized_any _ _ (by omega) (by omega)).mono ?_
    rintro e w' ⟨rfl, rfl⟩
    rw [HSE.out]
    go_wp2_with fail
    refine bodyPost_ret (by simp [results, Try.results35, go_sem]; try rfl) rfl ?_
    exact ⟨_, rfl, RB.nil _, below_alloc (Below.refl _ _) _, fun g _ => by simp [Value.ownBlock]⟩
  · have hm := msgD_bad b (by rw [hb]; decide)
    unfold GotD
    rw [hm, hb]
    clear hm hb
    have HSE : Hid (sizeE ((b.length : Int) - 16) = 0) := Lib.hid (by unfold sizeE; rw [if_neg (by omega), if_neg (by omega)])
    obtain ⟨ad, rfl, hc0⟩ := reads_cell hr 0 (by omega)
    rw [show ad.add 0 = ad by simp [Addr.add]] at hc0
    have hd0 := fun o1 => pw_cell_below (below_alloc (Below.refl w.heap.size w) o1) hc0
    have hy0 := byte_lt (b.getD 0 0)
    have hx0 : ((b.getD 0 0).toNat : Int) = 4 := by rw [h0]; rfl
    generalize (b.getD 0 0).toNat = x0 at hc0 hd0 hx0 hy0
    clear hc0 h0
    obtain ⟨A1, hsl1, hrd1, _⟩ := from2 (some ad) c b 1 (by omega) hc
    have hs1 : ∀ W : World, (Instr.slice 27 (.slice (some ad) b.length c) (some (.int .i64 1)) none none).run Try.prog W = .ok (.slice A1 (b.length - 1) (c - 1)) W := hsl1
    have hT : (b.drop 1).length = b.length - 1 := List.length_drop
    have HT0 : Hid (RB (w.alloc (.cells #[.int .u32 0, .int .u64 0, .slice none 0 0] 59)) (.slice A1 (b.length - 1) (c - 1)) (b.drop 1)) := Lib.hid (by
      refine ⟨A1, c - 1, by rw [hT], by rw [hT]; omega, ?_⟩
      rw [hT]
      exact (hrd1 w hr).below (below_alloc (Below.refl _ _) _))
    have HTL : Hid ((b.drop 1).length = b.length - 1) := Lib.hid hT
    have HZ3 : Hid (¬  (((b.drop 1).drop 0).take 3).all (· == 0) = true) := Lib.hid (by rw [zero_take3 b (by omega)]; exact h1)
    clear hsl1 hrd1 hT hr h1
    have HZ' := Lib.hid (blk_new w (.cells #[.int .u32 0, .int .u64 0, .slice none 0 0] 59))
    obtain ⟨TT, hTT⟩ : ∃ TT, b.drop 1 = TT := ⟨_, rfl⟩
    rw [hTT] at HT0 HTL HZ3
    obtain ⟨n, hn⟩ : ∃ n : Nat, b.length = n := ⟨_, rfl⟩
    rw [hn] at h h2 hc hl hs1 hw ⊢
    rw [hn] at HT0 HTL HSE
    clear hn hTT
    go_enter Try.func35, Try.ntmps35
    go_wp2_with fail
    refine (sized_any _ _ (by omega) (by omega)).mono ?_
    rintro e w' ⟨rfl, rfl⟩
    rw [HSE.out]
    go_wp2_with fail
    refine (new_own _ TT _ HT0.out (by rw [HTL.out]; omega)).mono ?_
    rintro e w1 ⟨g, q, rfl, hg, ht, hb⟩
    rw [size_push] at hg ht
    have HT := Lib.hid ht
    have HB := Lib.hid (below_comp (below_alloc (Below.refl _ _) _) hb)
    have HZ := Lib.hid (blk_below HZ'.out hb)
    have HG : Hid (w.heap.size + 1 < g) := Lib.hid hg
    clear ht hb hg HT0 HZ' hd0
    go_wp2_with fail
    refine (zeros_no g _ q TT 0 3 3 _ HT.out rfl (by rw [HTL.out]; omega) (by decide) HZ3.out).mono ?_
    rintro e w2 ⟨rfl, ht, hgr⟩
    have HB2 := Lib.hid (grown_below hgr HB.out HB.out.size (by have := HG.out; omega))
    have HZ2 := Lib.hid (blk_grown HZ.out hgr (fun e => by injection e with e; have := HG.out; omega))
    have HT2 := Lib.hid ht
    clear ht hgr HB HZ HT
    obtain ⟨d0, d1, d2, f0, f1, f2⟩ := three_at HZ2.out
    go_wp2_with fail
    refine (fail_any g _ q TT 0 10 _ HT2.out).mono ?_
    rintro e w' ⟨rfl, rfl⟩
    go_wp2_with fail
    refine bodyPost_ret (by simp [results, Try.results35, go_sem, d0, d1, d2]; try rfl) rfl ?_
    exact ⟨_, rfl, RB.nil _, HB2.out.trans (set3_below w2 w.heap.size _ _ _), fun g _ => by simp [Value.ownBlock]⟩
  · have hm := msgD_good b hb
    unfold GotD
    rw [hm, hb]
    clear hm hb
    have HSE : Hid (sizeE ((b.length : Int) - 16) = 0) := Lib.hid (by unfold sizeE; rw [if_neg (by omega), if_neg (by omega)])
    obtain ⟨ad, rfl, hc0⟩ := reads_cell hr 0 (by omega)
    rw [show ad.add 0 = ad by simp [Addr.add]] at hc0
    have hd0 := fun o1 => pw_cell_below (below_alloc (Below.refl w.heap.size w) o1) hc0
    have hy0 := byte_lt (b.getD 0 0)
    have hx0 : ((b.getD 0 0).toNat : Int) = 4 := by rw [h0]; rfl
    generalize (b.getD 0 0).toNat = x0 at hc0 hd0 hx0 hy0
    clear hc0 h0
    obtain ⟨A1, hsl1, hrd1, _⟩ := from2 (some ad) c b 1 (by omega) hc
    have hs1 : ∀ W : World, (Instr.slice 27 (.slice (some ad) b.length c) (some (.int .i64 1)) none none).run Try.prog W = .ok (.slice A1 (b.length - 1) (c - 1)) W := hsl1
    have hT : (b.drop 1).length = b.length - 1 := List.length_drop
    have HT0 : Hid (RB (w.alloc (.cells #[.int .u32 0, .int .u64 0, .slice none 0 0] 59)) (.slice A1 (b.length - 1) (c - 1)) (b.drop 1)) := Lib.hid (by
      refine ⟨A1, c - 1, by rw [hT], by rw [hT]; omega, ?_⟩
      rw [hT]
      exact (hrd1 w hr).below (below_alloc (Below.refl _ _) _))
    have HTL : Hid ((b.drop 1).length = b.length - 1) := Lib.hid hT
    have HZ3 : Hid ( (((b.drop 1).drop 0).take 3).all (· == 0) = true) := Lib.hid (by rw [zero_take3 b (by omega)]; exact h1)
    have HQ1 : Hid (ofLe (((b.drop 1).drop 3).take 4) = ofLe ((b.drop 4).take 4)) := Lib.hid (by rw [List.drop_drop])
    have HQ2 : Hid (ofLe (((b.drop 1).drop 7).take 8) = ofLe ((b.drop 8).take 8)) := Lib.hid (by rw [List.drop_drop])
    have HLD : Hid (((b.drop 1).drop 15).take (b.length - 16) = b.drop 16) := Lib.hid (by rw [List.drop_drop, List.take_of_length_le (by rw [List.length_drop]; omega)])
    have hq1 : ofLe ((b.drop 4).take 4) < 4294967296 := by have := ofLe_lt ((b.drop 4).take 4); rw [show ((b.drop 4).take 4).length = 4 by rw [List.length_take, List.length_drop]; omega] at this; exact this
    generalize ofLe ((b.drop 4).take 4) = q1 at HQ1 hq1 ⊢
    generalize ofLe ((b.drop 8).take 8) = q2 at HQ2 ⊢
    generalize b.drop 16 = L at HLD ⊢
    have hwq : IntKind.u32.wrap (q1 : Int) = q1 := by rw [IntKind.wrap_u32]; omega
    clear hsl1 hrd1 hT hr h1
    have HZ' := Lib.hid (blk_new w (.cells #[.int .u32 0, .int .u64 0, .slice none 0 0] 59))
    obtain ⟨TT, hTT⟩ : ∃ TT, b.drop 1 = TT := ⟨_, rfl⟩
    rw [hTT] at HT0 HTL HZ3 HQ1 HQ2 HLD
    obtain ⟨n, hn⟩ : ∃ n : Nat, b.length = n := ⟨_, rfl⟩
    rw [hn] at h h2 hc hl hs1 hw ⊢
    rw [hn] at HT0 HTL HSE HLD
    clear hn hTT
    go_enter Try.func35, Try.ntmps35
    go_wp2_with fail
    refine (sized_any _ _ (by omega) (by omega)).mono ?_
    rintro e w' ⟨rfl, rfl⟩
    rw [HSE.out]
    go_wp2_with fail
    refine (new_own _ TT _ HT0.out (by rw [HTL.out]; omega)).mono ?_
    rintro e w1 ⟨g, q, rfl, hg, ht, hb⟩
    rw [size_push] at hg ht
    have HT := Lib.hid ht
    have HB := Lib.hid (below_comp (below_alloc (Below.refl _ _) _) hb)
    have HZ := Lib.hid (blk_below HZ'.out hb)
    have HG : Hid (w.heap.size + 1 < g) := Lib.hid hg
    clear ht hb hg HT0 HZ' hd0
    go_wp2_with fail
    refine (zeros_ok g _ q TT 0 3 3 _ HT.out rfl (by rw [HTL.out]; omega) (by decide) HZ3.out).mono ?_
    rintro e w2 ⟨rfl, ht, hgr⟩
    have HB2 := Lib.hid (grown_below hgr HB.out HB.out.size (by have := HG.out; omega))
    have HZ2 := Lib.hid (blk_grown HZ.out hgr (fun e => by injection e with e; have := HG.out; omega))
    have HT2 := Lib.hid ht
    clear ht hgr HB HZ HT
    go_wp2_with fail
    refine (little_ok g _ q TT (0 + 3) 4 4 _ HT2.out rfl (by decide) (by decide) (by rw [HTL.out]; omega)).mono ?_
    rintro e w3 ⟨rfl, ht, hgr⟩
    have HB3 := Lib.hid (grown_below hgr HB2.out HB2.out.size (by have := HG.out; omega))
    have HZ3 := Lib.hid (blk_grown HZ2.out hgr (fun e => by injection e with e; have := HG.out; omega))
    have HT3 := Lib.hid ht
    clear ht hgr HB2 HZ2 HT2
    rw [show 0 + 3 = 3 from rfl, HQ1.out]
    go_wp2_with fail
    refine (little_ok g _ q TT 7 8 8 _ HT3.out rfl (by decide) (by decide) (by rw [HTL.out]; omega)).mono ?_
    rintro e w4 ⟨rfl, ht, hgr⟩
    have HB4 := Lib.hid (grown_below hgr HB3.out HB3.out.size (by have := HG.out; omega))
    have HZ4 := Lib.hid (blk_grown HZ3.out hgr (fun e => by injection e with e; have := HG.out; omega))
    have HT4 := Lib.hid ht
    clear ht hgr HB3 HZ3 HT3
    rw [HQ2.out]
    go_wp2_with fail
    have HT4' : Hid (Tk (w4.alloc (.cells #[.int .u32 (q1 : Int), .int .u64 (q2 : Int), .slice none 0 0] 59)) g (some ⟨w.heap.size + 1, 0, none⟩) q TT 15 0) := Lib.hid (HT4.out.below (below_alloc (Below.refl _ _) _))
    refine (left_any g _ q TT 15 0 _ HT4'.out).mono ?_
    rintro e w5 ⟨rfl, hb5⟩
    rw [show ((TT.length : Int) - ((15 : Nat) : Int)) = ((n - 16 : Nat) : Int) by rw [HTL.out]; omega]
    have HN5 := Lib.hid (blk_below (blk_new w4 (.cells #[.int .u32 (q1 : Int), .int .u64 (q2 : Int), .slice none 0 0] 59)) hb5)
    have HB5 := Lib.hid (HB4.out.trans (((below_alloc (Below.refl _ _) _).trans (hb5.mono (by rw [size_push]; omega))).mono HB4.out.size))
    have HZ5 := Lib.hid (blk_below (blk_old HZ4.out (.cells #[.int .u32 (q1 : Int), .int .u64 (q2 : Int), .slice none 0 0] 59)) hb5)
    have HT5 := Lib.hid (HT4'.out.below hb5)
    have HS5 : Hid (w4.heap.size < w5.heap.size) := Lib.hid (by have := hb5.size; rw [size_push] at this; omega)
    have HG4 : Hid (g < w4.heap.size) := Lib.hid HT4.out.lt
    have HS4 : Hid (w.heap.size < w4.heap.size) := Lib.hid (by have := HG.out; have := HG4.out; omega)
    clear hb5 HT4' HT4 HB4 HZ4
    go_wp2_with fail
    refine (bytes_ok g _ q TT 15 (n - 16) _ _ HT5.out rfl (by rw [HTL.out]; omega) (by omega)).mono ?_
    rintro e w6 ⟨v, rfl, ho, ht, hgr⟩
    rw [HLD.out] at ho
    have HV := Lib.hid ho
    have HB6 := Lib.hid (grown_below hgr HB5.out HB5.out.size (by have := HG.out; omega))
    have HZ6 := Lib.hid (blk_grown HZ5.out hgr (fun e => by injection e with e; have := HG.out; omega))
    have HN6 := Lib.hid (blk_grown HN5.out hgr (fun e => by injection e with e; have := HG4.out; omega))
    obtain ⟨A9, k9, e9, _, _⟩ := ho.rb
    subst e9
    clear ho ht hgr HB5 HZ5 HN5 HT5
    obtain ⟨d0, d1, d2, f0, f1, f2⟩ := three_at HZ6.out
    obtain ⟨c0, c1, c2, _, _, k2⟩ := three_at HN6.out
    have hne : ¬ w4.heap.size = w.heap.size := by have := HS4.out; omega
    have hne2 : ¬ w.heap.size = w4.heap.size := by have := HS4.out; omega
    go_wp2_with fail
    refine bodyPost_ret (by simp [results, Try.results35, go_sem, d0, d1, d2, hne, hne2]; try rfl) rfl ?_
    exact ⟨_, rfl, RB.set3 (RB.grown HV.out.rb (grown_set w6 w4.heap.size 2 _) (.inr (OB.away HV.out HS5.out))) (OB.away HV.out (Nat.lt_trans HS4.out HS5.out)) _ _ _, (HB6.out.trans ((Below.refl _ _).setCell (p := ⟨w4.heap.size, 2, none⟩) (Nat.le_of_lt HS4.out) _)).trans (set3_below _ w.heap.size _ _ _), fun g hg => OB.away HV.out (by have := HS4.out; have := HS5.out; omega)⟩
end Go.Proofs.Ytnehbhhjdjiieaa.Da
