/- The statements of data: how long a message may be; which messages are the same. -/
import Derived.Test.YtnehbhhjdjiieaaDl
set_option linter.unusedSimpArgs false
set_option linter.unusedVariables false
set_option maxRecDepth 100000
namespace Go.Proofs.Ytnehbhhjdjiieaa.Da
open Go.RowKit Go.Proofs.YtnehbhhjdjiieaaW.PrintWords Go.Proofs.Ytnehbhhjdjiieaa.Bs Go.Proofs.Ytnehbhhjdjiieaa.Le Go.Proofs.Ytnehbhhjdjiieaa.Mv Go.Proofs.Ytnehbhhjdjiieaa.Co Go.Proofs.Ytnehbhhjdjiieaa.Tk

theorem rawD_zero (body : List UInt8) : rawD 0 0 body = [4, 0, 0, 0, 0, 0, 0, 0, 0, 0, 0, 0, 0, 0, 0, 0] ++ body := rfl

set_option maxHeartbeats 4000000 in
theorem long_walk (a : Int) (w : World) (ha0 : -9223372036854775808 ≤ a) (ha1 : a ≤ 9223372036854775807) :
    Calls Try.prog 10 #[.int .i64 a] w fun e w' => e = .returned (.bool true) ∧ Below w.heap.size w w' := by
  by_cases h1 : a < -3
  · go_enter Try.func10, Try.ntmps10
    go_wp2_with fail
    refine (alive_any _).mono ?_
    rintro e w' ⟨rfl, hb⟩
    go_wp2_with fail
    go_ret
    exact ⟨rfl, hb⟩
  by_cases h2 : 3 < a
  · go_enter Try.func10, Try.ntmps10
    go_wp2_with fail
    refine (alive_any _).mono ?_
    rintro e w' ⟨rfl, hb⟩
    go_wp2_with fail
    go_ret
    exact ⟨rfl, hb⟩
  obtain ⟨body, hbody, hn⟩ : ∃ body : List UInt8, body = List.replicate (65551 + a).toNat 0 ∧ (65551 + a : Int) = body.length := ⟨_, rfl, by simp; omega⟩
  have hw : IntKind.i64.wrap (65551 + a) = body.length := by rw [IntKind.wrap_i64]; omega
  have hl : body.length ≤ 65554 := by omega
  have hl0 : 65548 ≤ body.length := by omega
  have hmk := make_bytes body.length (by omega)
  have HO0 : Hid (OB w.heap.size (w.alloc (.cells (madeCells #[.int .u8 0] body.length) 5)) (.slice (some ⟨w.heap.size, 0, none⟩) body.length body.length) body) := Lib.hid (by
    have h := OB.made w w.heap.size body.length (Nat.le_refl _) (by omega)
    rw [show List.replicate body.length (0 : UInt8) = body by rw [hbody]; simp] at h
    exact h)
  have HB0 := Lib.hid (below_alloc (Below.refl w.heap.size w) (.cells (madeCells #[.int .u8 0] body.length) 5))
  have HA := Lib.hid hn
  clear hbody hn
  by_cases hp : 0 < a
  · have HE : Hid (sizeE (body.length : Int) = 4) := Lib.hid (by unfold sizeE; rw [if_neg (by omega), if_pos (by have := HA.out; omega)])
    have HBAD : Hid (badD (rawD 0 0 body) = 4) := Lib.hid ((rawD_bad 0 0 body).trans HE.out)
    have HMSG := Lib.hid (msgD_bad (rawD 0 0 body) (by rw [HBAD.out]; decide))
    rw [rawD_zero] at HBAD HMSG
    have HRL : Hid (([4, 0, 0, 0, 0, 0, 0, 0, 0, 0, 0, 0, 0, 0, 0, 0] ++ body).length = 16 + body.length) := Lib.hid (by simp; omega)
    go_enter Try.func10, Try.ntmps10
    go_wp2_with fail
    refine (bytes_bad 0 0 _ body _ _ (by omega) (by rw [HE.out]; decide)).mono ?_
    rintro e w1 ⟨rfl, hb⟩
    rw [HE.out]
    have HB1 := Lib.hid (below_comp HB0.out hb)
    have HV1 := Lib.hid (HO0.out.rb.below hb)
    have HL1 : Hid (OB w1.heap.size (w1.alloc (.cells #[.int .u8 4, .int .u8 0, .int .u8 0, .int .u8 0, .int .u8 0, .int .u8 0, .int .u8 0, .int .u8 0, .int .u8 0, .int .u8 0, .int .u8 0, .int .u8 0, .int .u8 0, .int .u8 0, .int .u8 0, .int .u8 0] 5)) (.slice (some ⟨w1.heap.size, 0, none⟩) 16 16) [4, 0, 0, 0, 0, 0, 0, 0, 0, 0, 0, 0, 0, 0, 0, 0]) := Lib.hid (OB.lit w1 w1.heap.size [4, 0, 0, 0, 0, 0, 0, 0, 0, 0, 0, 0, 0, 0, 0, 0] (Nat.le_refl _) (by decide))
    clear hb HO0 HB0 hmk hw
    go_wp2_with (first | ((with_reducible refine is_builtin (b := .append) (xs := #[.tmp 25, .tmp 26]) rfl ?_); refine append_bytes (w0 := w1) (w1).heap.size rfl (.tmp 25) (.tmp 26) rfl (.slice (some ⟨w1.heap.size, 0, none⟩) 16 16) (.slice (some ⟨w.heap.size, 0, none⟩) body.length body.length) [4, 0, 0, 0, 0, 0, 0, 0, 0, 0, 0, 0, 0, 0, 0, 0] body rfl rfl ?aO ?aR ?aB ?aS ?aL ?_; (case aO => exact HL1.out); (case aR => exact (HV1.out.alloc _)); (case aB => exact (below_alloc (Below.refl w1.heap.size w1) _)); (case aS => exact ((below_alloc (Below.refl w1.heap.size w1) _)).size); (case aL => (simp only [List.length_cons, List.length_nil]; omega)); intro u1 w2 ho hb1 hgr hown; have HO2 := Lib.hid ho; have HB2 := Lib.hid hb1; clear ho hb1 hgr hown))
    obtain ⟨A1, k1, rfl, hk1, hr1⟩ := HO2.out.rb
    have HR1 := Lib.hid hr1
    have HB3 := Lib.hid (below_comp HB1.out HB2.out)
    clear hr1 HO2
    go_wp2_with fail
    refine (parse_any A1 k1 _ _ hk1 HR1.out).mono ?_
    rintro e w3 ⟨v, rfl, hv, hb⟩
    rw [HBAD.out, HMSG.out]
    rw [HMSG.out] at hv
    obtain ⟨A4, k4, rfl, hk4, hr4⟩ := hv
    have HB4 := Lib.hid (below_comp HB3.out hb)
    rw [show ([] : List UInt8).length = 0 from rfl]
    clear hb hr4 hk4 hk1 HR1
    go_wp2_with fail
    have HB5 := Lib.hid (below_alloc HB4.out (.cells #[.int .u32 0, .int .u64 0, .slice A4 0 k4] 59))
    refine (alive_any _).mono ?_
    rintro e w4 ⟨rfl, hb⟩
    have HB6 := Lib.hid (below_comp HB5.out hb)
    clear hb
    go_wp2_with fail
    go_ret
    exact ⟨rfl, HB6.out⟩
  · have HE : Hid (sizeE (body.length : Int) = 0) := Lib.hid (by unfold sizeE; rw [if_neg (by omega), if_neg (by have := HA.out; omega)])
    have HBAD : Hid (badD (rawD 0 0 body) = 0) := Lib.hid ((rawD_bad 0 0 body).trans HE.out)
    have HMSG := Lib.hid (rawD_msg 0 0 body (by decide) (by decide) HE.out)
    have HRL : Hid ((rawD 0 0 body).length = 16 + body.length) := Lib.hid (rawD_length 0 0 body)
    have HRZ := Lib.hid (rawD_zero body)
    generalize hR : rawD 0 0 body = R at HBAD HMSG HRL HRZ
    have HR := Lib.hid hR
    clear hR
    go_enter Try.func10, Try.ntmps10
    go_wp2_with fail
    refine (bytes_any 0 0 _ body _ _ (by decide) (Lib.hid (by decide)) HO0.out.rb HE.out).mono ?_
    rintro e w1 ⟨v, rfl, ho, hb⟩
    rw [HR.out] at ho
    obtain ⟨A0, k0, rfl, _, _⟩ := ho.rb
    have HB1 := Lib.hid (below_comp HB0.out hb)
    have HV1 := Lib.hid (HO0.out.rb.below hb)
    have HL1 : Hid (OB w1.heap.size (w1.alloc (.cells #[.int .u8 4, .int .u8 0, .int .u8 0, .int .u8 0, .int .u8 0, .int .u8 0, .int .u8 0, .int .u8 0, .int .u8 0, .int .u8 0, .int .u8 0, .int .u8 0, .int .u8 0, .int .u8 0, .int .u8 0, .int .u8 0] 5)) (.slice (some ⟨w1.heap.size, 0, none⟩) 16 16) [4, 0, 0, 0, 0, 0, 0, 0, 0, 0, 0, 0, 0, 0, 0, 0]) := Lib.hid (OB.lit w1 w1.heap.size [4, 0, 0, 0, 0, 0, 0, 0, 0, 0, 0, 0, 0, 0, 0, 0] (Nat.le_refl _) (by decide))
    clear ho hb HO0 HB0 hmk hw
    go_wp2_with (first | ((with_reducible refine is_builtin (b := .append) (xs := #[.tmp 25, .tmp 26]) rfl ?_); refine append_bytes (w0 := w1) (w1).heap.size rfl (.tmp 25) (.tmp 26) rfl (.slice (some ⟨w1.heap.size, 0, none⟩) 16 16) (.slice (some ⟨w.heap.size, 0, none⟩) body.length body.length) [4, 0, 0, 0, 0, 0, 0, 0, 0, 0, 0, 0, 0, 0, 0, 0] body rfl rfl ?aO ?aR ?aB ?aS ?aL ?_; (case aO => exact HL1.out); (case aR => exact (HV1.out.alloc _)); (case aB => exact (below_alloc (Below.refl w1.heap.size w1) _)); (case aS => exact ((below_alloc (Below.refl w1.heap.size w1) _)).size); (case aL => (simp only [List.length_cons, List.length_nil]; omega)); intro u1 w2 ho hb1 hgr hown; have HO2 := Lib.hid ho; have HB2 := Lib.hid hb1; clear ho hb1 hgr hown))
    rw [← HRZ.out] at HO2
    obtain ⟨A1, k1, rfl, hk1, hr1⟩ := HO2.out.rb
    have HR1 := Lib.hid hr1
    have HB3 := Lib.hid (below_comp HB1.out HB2.out)
    clear hr1 HO2
    go_wp2_with fail
    refine (parse_any A1 k1 R _ hk1 HR1.out).mono ?_
    rintro e w3 ⟨v, rfl, hv, hb⟩
    rw [HBAD.out, HMSG.out]
    rw [HMSG.out] at hv
    obtain ⟨A4, k4, rfl, hk4, hr4⟩ := hv
    have HB4 := Lib.hid (below_comp HB3.out hb)
    clear hb hr4 hk4 hk1 HR1
    go_wp2_with fail
    have HB5 := Lib.hid (below_alloc HB4.out (.cells #[.int .u32 0, .int .u64 0, .slice A4 body.length k4] 59))
    refine (alive_any _).mono ?_
    rintro e w4 ⟨rfl, hb⟩
    have HB6 := Lib.hid (below_comp HB5.out hb)
    clear hb
    go_wp2_with fail
    go_ret
    exact ⟨rfl, HB6.out⟩

set_option maxHeartbeats 4000000 in
theorem same_walk (r1 r2 c1 c2 : Nat) (A1 A2 : Option Addr) (k1 k2 : Nat) (l m : List UInt8) (w : World) (h1 : RB w (.slice A1 l.length k1) l) (h2 : RB w (.slice A2 m.length k2) m) :
    Calls Try.prog 12 #[.agg #[.int .u32 r1, .int .u64 c1, .slice A1 l.length k1], .agg #[.int .u32 r2, .int .u64 c2, .slice A2 m.length k2]] w fun e w' => e = .returned (.bool true) ∧ Below w.heap.size w w' := by
  have hl1 := h1.len
  have hl2 := h2.len
  obtain ⟨W, hW⟩ : ∃ W, W = ((w.alloc (.cells #[.int .u32 (r1 : Int), .int .u64 (c1 : Int), .slice A1 l.length k1] 59)).alloc (.cells #[.int .u32 (r2 : Int), .int .u64 (c2 : Int), .slice A2 m.length k2] 59)) := ⟨_, rfl⟩
  have HB := Lib.hid (below_alloc (below_alloc (Below.refl w.heap.size w) (.cells #[.int .u32 (r1 : Int), .int .u64 (c1 : Int), .slice A1 l.length k1] 59)) (.cells #[.int .u32 (r2 : Int), .int .u64 (c2 : Int), .slice A2 m.length k2] 59))
  have HX := Lib.hid (blk_old (blk_new w (.cells #[.int .u32 (r1 : Int), .int .u64 (c1 : Int), .slice A1 l.length k1] 59)) (.cells #[.int .u32 (r2 : Int), .int .u64 (c2 : Int), .slice A2 m.length k2] 59))
  have HY := Lib.hid (blk_new1 w (.cells #[.int .u32 (r1 : Int), .int .u64 (c1 : Int), .slice A1 l.length k1] 59) (.cells #[.int .u32 (r2 : Int), .int .u64 (c2 : Int), .slice A2 m.length k2] 59))
  by_cases h3 : 1000 < l.length
  · go_enter Try.func12, Try.ntmps12
    go_wp2_with fail
    refine (alive_any _).mono ?_
    rintro e w1 ⟨rfl, hb⟩
    have HB1 := Lib.hid (below_comp HB.out hb)
    clear hb
    go_wp2_with fail
    go_ret
    exact ⟨rfl, HB1.out⟩
  by_cases h4 : 1000 < m.length
  · go_enter Try.func12, Try.ntmps12
    go_wp2_with fail
    refine (alive_any _).mono ?_
    rintro e w1 ⟨rfl, hb⟩
    have HB1 := Lib.hid (below_comp HB.out hb)
    clear hb
    go_wp2_with fail
    go_ret
    exact ⟨rfl, HB1.out⟩
  have HL := Lib.hid (h1.below HB.out)
  have HM := Lib.hid (h2.below HB.out)
  clear h1 h2
  obtain ⟨d, hd⟩ : ∃ d, decide (r1 = r2 ∧ c1 = c2 ∧ l = m) = d := ⟨_, rfl⟩
  have HD := Lib.hid hd
  clear hd
  go_enter Try.func12, Try.ntmps12
  go_wp2_with fail
  rw [← hW] at HB HX HY HL HM ⊢
  clear hW
  obtain ⟨a0, a1, a2, _, _, _⟩ := three_at HX.out
  obtain ⟨b0, b1, b2, _, _, _⟩ := three_at HY.out
  have HC : Hid (Below W.heap.size W W.drew) := Lib.hid (below_drew (Below.refl _ _))
  have HTOK : Hid True := Lib.hid trivial
  go_region_held3 (fun w' => w'.cell? ⟨w.heap.size, 0, none⟩ = some (.int .u32 (r1 : Int)) ∧ w'.cell? ⟨w.heap.size, 1, none⟩ = some (.int .u64 (c1 : Int)) ∧ w'.cell? ⟨w.heap.size, 2, none⟩ = some (.slice A1 l.length k1) ∧ w'.cell? ⟨w.heap.size + 1, 0, none⟩ = some (.int .u32 (r2 : Int)) ∧ w'.cell? ⟨w.heap.size + 1, 1, none⟩ = some (.int .u64 (c2 : Int)) ∧ w'.cell? ⟨w.heap.size + 1, 2, none⟩ = some (.slice A2 m.length k2)) ((refine ⟨?_, ?_, ?_, ?_, ?_, ?_⟩ <;> assumption)) (first | (go_at_call 40; have htok := HTOK; refine (same_any r1 r2 c1 c2 A1 A2 k1 k2 l m _ (HL.out.below HC.out) (HM.out.below HC.out)).mono ?_; rintro e w1 ⟨rfl, hb⟩; rw [HD.out]; have HC := Lib.hid (below_comp HC.out hb); have hx := blk_below HX.out HC.out; have hy := blk_below HY.out HC.out; obtain ⟨a0, a1, a2, _, _, _⟩ := three_at hx; obtain ⟨b0, b1, b2, _, _, _⟩ := three_at hy; clear hx hy hb; clear HTOK htok) | (go_at_call 40; refine (same_any r1 r1 c1 c1 A1 A1 k1 k1 l l _ (HL.out.below HC.out) (HL.out.below HC.out)).mono ?_; rintro e w1 ⟨rfl, hb⟩; rw [show decide (r1 = r1 ∧ c1 = c1 ∧ l = l) = true from decide_eq_true ⟨rfl, rfl, rfl⟩]; have HC := Lib.hid (below_comp HC.out hb); have hx := blk_below HX.out HC.out; have hy := blk_below HY.out HC.out; obtain ⟨a0, a1, a2, _, _, _⟩ := three_at hx; obtain ⟨b0, b1, b2, _, _, _⟩ := three_at hy; clear hx hy hb) | (go_at_call 37; refine (refSame_any r1 r2 c1 c2 A1 A2 k1 k2 l m _ (HL.out.below HC.out) (HM.out.below HC.out)).mono ?_; rintro e w1 ⟨rfl, hb⟩; rw [HD.out]; have HC := Lib.hid (below_comp HC.out hb); have hx := blk_below HX.out HC.out; have hy := blk_below HY.out HC.out; obtain ⟨a0, a1, a2, _, _, _⟩ := three_at hx; obtain ⟨b0, b1, b2, _, _, _⟩ := three_at hy; clear hx hy hb) | (go_at_call 34; refine (alive_any _).mono ?_; rintro e w1 ⟨rfl, hb⟩; have HC := Lib.hid (below_comp HC.out hb); have hx := blk_below HX.out HC.out; have hy := blk_below HY.out HC.out; obtain ⟨a0, a1, a2, _, _, _⟩ := three_at hx; obtain ⟨b0, b1, b2, _, _, _⟩ := three_at hy; clear hx hy hb))
  all_goals (go_wp2_with fail; go_ret; exact ⟨rfl, HB.out.trans (HC.out.mono HB.out.size)⟩)
end Go.Proofs.Ytnehbhhjdjiieaa.Da
