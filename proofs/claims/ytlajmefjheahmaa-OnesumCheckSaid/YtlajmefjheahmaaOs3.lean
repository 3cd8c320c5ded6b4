/- The walk of the law OnesumCheck: what is checked is good, and with one bit turned it is not. -/
import Derived.Test.YtlajmefjheahmaaOs2
namespace Go.Proofs.Ytlajmefjheahmaa.Os
open Go.RowKit Go.Proofs.YtlajmefjheahmaaW.PrintWords Go.Proofs.Ytlajmefjheahmaa.Bs

theorem turned_rb (v : Value) (l : List UInt8) (bit : Nat) (w : World) (h : RB w v l) (hs : l.length ≤ 1099511627776) (hb : bit < 8 * l.length) :
    Calls Try.prog 31 #[v, .int .i64 bit] w (Row w (turned l bit)) := by
  obtain ⟨A, c, rfl, hc, hr⟩ := h
  exact turned_any A c l bit w hr hc hs hb

set_option maxHeartbeats 4000000 in
set_option maxRecDepth 100000 in
theorem onesumCheck_walk (A : Option Addr) (c : Nat) (l : List UInt8) (k bit : Int) (w : World) (hr : ReadsOf B 0 w A l.length l) (hc : l.length ≤ c)
    (hk0 : -9223372036854775808 ≤ k) (hk1 : k ≤ 9223372036854775807) (hb0 : -9223372036854775808 ≤ bit) (hb1 : bit ≤ 9223372036854775807) :
    Calls Try.prog 9 #[.slice A l.length c, .int .i64 k, .int .i64 bit] w fun e w' => e = .returned (.bool true) ∧ Below w.heap.size w w' := by
  have hl := hr.2.1
  have HR := Lib.hid hr
  have HRB : Hid (RB w (.slice A l.length c) l) := Lib.hid ⟨A, c, rfl, hc, hr⟩
  clear hr
  by_cases h1 : 300 < l.length
  · go_enter Try.func9, Try.ntmps9
    go_wp2_with fail
    refine (alive_any _).mono ?_
    rintro e w' ⟨rfl, hb⟩
    go_wp2_with fail
    go_ret
    exact ⟨rfl, hb⟩
  by_cases h2 : k < 0
  · go_enter Try.func9, Try.ntmps9
    go_wp2_with fail
    refine (alive_any _).mono ?_
    rintro e w' ⟨rfl, hb⟩
    go_wp2_with fail
    go_ret
    exact ⟨rfl, hb⟩
  obtain ⟨k, rfl⟩ := Int.eq_ofNat_of_zero_le (show 0 ≤ k by omega)
  by_cases h3 : l.length / 2 ≤ k
  · go_enter Try.func9, Try.ntmps9
    go_wp2_with fail
    refine (alive_any _).mono ?_
    rintro e w' ⟨rfl, hb⟩
    go_wp2_with fail
    go_ret
    exact ⟨rfl, hb⟩
  by_cases h4 : bit < 0
  · go_enter Try.func9, Try.ntmps9
    go_wp2_with fail
    refine (alive_any _).mono ?_
    rintro e w' ⟨rfl, hb⟩
    go_wp2_with fail
    go_ret
    exact ⟨rfl, hb⟩
  obtain ⟨bit, rfl⟩ := Int.eq_ofNat_of_zero_le (show 0 ≤ bit by omega)
  by_cases h5 : 8 * l.length ≤ bit
  · go_enter Try.func9, Try.ntmps9
    go_wp2_with fail
    refine (alive_any _).mono ?_
    rintro e w' ⟨rfl, hb⟩
    go_wp2_with fail
    go_ret
    exact ⟨rfl, hb⟩
  have hp : 0 < l.length := by omega
  go_enter Try.func9, Try.ntmps9
  go_wp2_with (first | ((with_reducible refine is_builtin (b := .append) (xs := #[.tmp 35, .tmp 36]) rfl ?_); refine append_bytes (w0 := w) w.heap.size rfl (.tmp 35) (.tmp 36) rfl (.slice (some ⟨w.heap.size, 0, none⟩) 0 0) (.slice A l.length c) [] l rfl rfl ?aO ?aR ?aB ?aS ?aL ?_; (case aO => exact OB.lit w w.heap.size [] (Nat.le_refl _) (by simp)); (case aR => exact HRB.out.alloc _); (case aB => exact ((Below.refl _ _).alloc (Nat.le_refl _) _)); (case aS => exact (((Below.refl _ _).alloc (Nat.le_refl _) _)).size); (case aL => (simp; omega)); intro v1 w1 ho hb1 _ _; (obtain ⟨g, cap, rfl, hg, hgl, hcap⟩ := OB.form (l := l) ho hp; obtain ⟨hA1, hA2⟩ := OB.at_ (l := l) ho (2 * k) (by omega); obtain ⟨hB1, hB2⟩ := OB.at_ (l := l) ho (2 * k + 1) (by omega); have HO1 := Lib.hid ho; have HB1 := Lib.hid hb1; clear ho hb1)))
  have hs2 : OB w.heap.size ((w1.setCell ⟨g, 2 * k, none⟩ (.int .u8 0)).setCell ⟨g, 2 * k + 1, none⟩ (.int .u8 0)) (.slice (some ⟨g, 0, none⟩) l.length cap) (blank l k) := OB.store (OB.store (l := l) HO1.out (2 * k) 0 (by decide) (by decide)) (2 * k + 1) 0 (by decide) (by decide)
  have HS2 := Lib.hid hs2
  have HBL := Lib.hid (blank_length l k)
  have HF : Hid ([blank l k].flatten = blank l k) := Lib.hid (by simp)
  have hle : sum16 (blank l k) ≤ 65535 := fold16_le _
  clear hs2
  have HR2 : Hid (RBS (((w1.setCell ⟨g, 2 * k, none⟩ (.int .u8 0)).setCell ⟨g, 2 * k + 1, none⟩ (.int .u8 0)).alloc (.cells #[.slice (some ⟨g, 0, none⟩) l.length cap] 25)) (some ⟨w1.heap.size, 0, none⟩) [blank l k]) := by
    have h := RBS.one HS2.out.rb 25
    rwa [World.size_setCell, World.size_setCell] at h
  refine (check_any (some ⟨w1.heap.size, 0, none⟩) 1 [blank l k] _ HR2.out (by rw [HF.out, HBL.out]; omega)).mono ?_
  rintro e w' ⟨rfl, rfl⟩
  rw [HF.out]
  have HN : Hid (65535 - sum16 (blank l k) < 65536) := Lib.hid (by omega)
  have HG := Lib.hid (filled_good l k (by omega))
  generalize hn : 65535 - sum16 (blank l k) = n at HN HG
  have hn1 := HN.out
  clear hn hle
  go_wp2_with fail
  obtain ⟨w4, hw4⟩ : ∃ w4, w4 = (((w1.setCell ⟨g, 2 * k, none⟩ (.int .u8 0)).setCell ⟨g, 2 * k + 1, none⟩ (.int .u8 0)).setCell ⟨g, 2 * k, none⟩ (.int .u8 ((n : Int) / 256))).setCell ⟨g, 2 * k + 1, none⟩ (.int .u8 ((n : Int) % 256)) := ⟨_, rfl⟩
  have HS4 : Hid (OB w.heap.size w4 (.slice (some ⟨g, 0, none⟩) l.length cap) (filled l k n)) := by
    rw [hw4]
    exact OB.store (OB.store HS2.out (2 * k) ((n : Int) / 256) (by omega) (by omega)) (2 * k + 1) ((n : Int) % 256) (by omega) (by omega)
  have HB4 : Hid (Below w.heap.size w w4) := by
    rw [hw4]
    exact (((HB1.out.setCell (p := ⟨g, 2 * k, none⟩) hg _).setCell (p := ⟨g, 2 * k + 1, none⟩) hg _).setCell (p := ⟨g, 2 * k, none⟩) hg _).setCell (p := ⟨g, 2 * k + 1, none⟩) hg _
  have hsz : w4.heap.size = w1.heap.size := by rw [hw4]; simp only [World.size_setCell]
  rw [← hw4, ← hsz]
  have HFL := Lib.hid (filled_length l k n)
  have HF4 : Hid ([filled l k n].flatten = filled l k n) := Lib.hid (by simp)
  have HRB4 : Hid (RB (w4.alloc (.cells #[.slice (some ⟨g, 0, none⟩) l.length cap] 25)) (.slice (some ⟨g, 0, none⟩) l.length cap) (filled l k n)) := HS4.out.rb.alloc _
  have HR4 : Hid (RBS ((w4.alloc (.cells #[.slice (some ⟨g, 0, none⟩) l.length cap] 25)).alloc (.cells #[.slice (some ⟨g, 0, none⟩) l.length cap] 25)) (some ⟨w4.heap.size + 1, 0, none⟩) [filled l k n]) := by
    have h := RBS.one HRB4.out 25
    rwa [World.size_alloc] at h
  have HB5 : Hid (Below w.heap.size w ((w4.alloc (.cells #[.slice (some ⟨g, 0, none⟩) l.length cap] 25)).alloc (.cells #[.slice (some ⟨g, 0, none⟩) l.length cap] 25))) := below_alloc (below_alloc HB4.out _) _
  have HRB5 : Hid (RB ((w4.alloc (.cells #[.slice (some ⟨g, 0, none⟩) l.length cap] 25)).alloc (.cells #[.slice (some ⟨g, 0, none⟩) l.length cap] 25)) (.slice (some ⟨g, 0, none⟩) l.length cap) (filled l k n)) := HRB4.out.alloc _
  refine (good_any (some ⟨w4.heap.size + 1, 0, none⟩) 1 [filled l k n] _ HR4.out (by rw [HF4.out, HFL.out]; omega)).mono ?_
  rintro e w' ⟨rfl, rfl⟩
  rw [HF4.out, HG.out.2.2]
  generalize hw6 : ((w4.alloc (.cells #[.slice (some ⟨g, 0, none⟩) l.length cap] 25)).alloc (.cells #[.slice (some ⟨g, 0, none⟩) l.length cap] 25)) = w6 at HR4 HB5 HRB5
  clear hw6 hw4 hsz HR4 HRB4 HB4 HS4 HR2 HS2 HB1 HO1 hA1 hA2 hB1 hB2
  have hbit : bit < 8 * (filled l k n).length := by rw [HFL.out]; omega
  have HBAD := Lib.hid (turned_bad (filled l k n) bit hbit HG.out.1)
  have HTL : Hid ((turned (filled l k n) bit).length = l.length) := Lib.hid (by unfold turned; rw [List.length_set]; exact HFL.out)
  have HBIT := Lib.hid hbit
  clear hbit
  go_wp2_with fail
  refine (turned_rb _ (filled l k n) bit _ HRB5.out (by rw [HFL.out]; omega) HBIT.out).mono ?_
  rintro e w7 ⟨v7, rfl, ho7, hb7⟩
  generalize turned (filled l k n) bit = T at ho7 HBAD HTL
  have HB7 := Lib.hid (below_comp HB5.out hb7)
  have HR7 := Lib.hid (RBS.one ho7.rb 25)
  obtain ⟨A7, c7, rfl, _, _⟩ := ho7.rb
  have HFT : Hid ([T].flatten = T) := Lib.hid (by simp)
  have HNE : Hid ((((sum16 T : Nat) : Int) == 65535) = false) := Lib.hid (beq_eq_false_iff_ne.2 (by have h := HBAD.out; omega))
  clear ho7 hb7
  go_wp2_with fail
  refine (good_any (some ⟨w7.heap.size, 0, none⟩) 1 [T] _ HR7.out (by rw [HFT.out, HTL.out]; omega)).mono ?_
  rintro e w' ⟨rfl, rfl⟩
  rw [HFT.out, HNE.out]
  go_wp2_with fail
  refine (alive_any _).mono ?_
  rintro e w8 ⟨rfl, hb8⟩
  have HB8 := Lib.hid (below_comp (below_alloc HB7.out _) hb8)
  clear hb8
  go_wp2_with fail
  go_ret
  exact ⟨rfl, HB8.out⟩

end Go.Proofs.Ytlajmefjheahmaa.Os
