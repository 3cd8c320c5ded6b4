/- padding.Pad, the sizes of padding, and the walk of the law PaddingLong. -/
import Derived.Test.YtahnibhcfdamdaaBs
import Derived.WalkKit
import Derived.RowKit3
import Derived.Deep.LoopGhost
import Derived.Deep.QuietTactic
import Derived.BigQuiet
import Derived.Laws.BitsLemmas
set_option linter.unusedSimpArgs false
set_option linter.unusedVariables false
set_option maxRecDepth 100000
namespace Go.Proofs.Ytahnibhcfdamdaa.Pad
open Go.RowKit Go.Proofs.YtahnibhcfdamdaaW.PrintWords Go.Proofs.Ytahnibhcfdamdaa.Bs

/-- How many bytes there are, padded. -/
def psize (n : Nat) : Nat := min ((n + 15) / 16 * 16) 65535
theorem clear4 (m : Nat) (h : m < 18446744073709551616) : m &&& 18446744073709551600 = m - m % 16 := by
  have e : m - m % 16 = (m >>> 4) <<< 4 := by rw [Nat.shiftRight_eq_div_pow, Nat.shiftLeft_eq]; omega
  rw [e]
  apply Nat.eq_of_testBit_eq
  intro i
  rw [Nat.testBit_and, Nat.testBit_shiftLeft, Nat.testBit_shiftRight]
  by_cases hi : i < 64
  · have hb : Nat.testBit 18446744073709551600 i = decide (4 ≤ i) := by
      have : ∀ i : Fin 64, Nat.testBit 18446744073709551600 i = decide (4 ≤ (i : Nat)) := by decide
      exact this ⟨i, hi⟩
    rw [hb]
    by_cases h4 : 4 ≤ i
    · rw [show 4 + (i - 4) = i by omega]; simp [h4]
    · simp [h4]
  · have hz : Nat.testBit m i = false := Nat.testBit_lt_two_pow (Nat.lt_of_lt_of_le h (Nat.le_trans (by decide) (Nat.pow_le_pow_right (by decide) (show 64 ≤ i by omega))))
    rw [show 4 + (i - 4) = i by omega, hz]; simp
theorem andNot15 (m : Nat) (h : m ≤ 65550) : Go.bits .andNot .i64 (m : Int) 15 = ((m - m % 16 : Nat) : Int) := by
  have hc := clear4 m (by omega)
  show IntKind.i64.wrap ((BitVec.ofInt 64 (m : Int) &&& ~~~BitVec.ofInt 64 15).toNat : Int) = _
  rw [BitVec.toNat_and, BitVec.ofInt_natCast, BitVec.toNat_ofNat, Nat.mod_eq_of_lt (show m < 2 ^ 64 by omega)]
  rw [show (~~~BitVec.ofInt 64 15).toNat = 18446744073709551600 from by decide, hc]
  have hq : m - m % 16 ≤ 65550 := by omega
  generalize m - m % 16 = q at *
  rw [IntKind.wrap_i64]
  omega

theorem size_out (n : Int) (w : World) (h0 : -9223372036854775808 ≤ n) (h1 : n ≤ 9223372036854775807) (h : n < 0 ∨ 65535 < n) :
    Calls Try.prog 108 #[.int .i64 n] w fun e w' => e = .returned (.int .i64 (-1)) ∧ w = w' := by
  rcases h with h | h
  · go_enter Try.func108, Try.ntmps108
    go_wp2
    go_ret
    exact ⟨rfl, rfl⟩
  · go_enter Try.func108, Try.ntmps108
    go_wp2
    go_ret
    exact ⟨rfl, rfl⟩

theorem size_in (n : Nat) (w : World) (h : n ≤ 65535) :
    Calls Try.prog 108 #[.int .i64 n] w fun e w' => e = .returned (.int .i64 (psize n)) ∧ w = w' := by
  have hb : Go.bits .andNot .i64 ((n : Int) + 15) 15 = ((n + 15 - (n + 15) % 16 : Nat) : Int) := andNot15 (n + 15) (by omega)
  go_enter Try.func108, Try.ntmps108
  go_wp2
  all_goals
    go_ret
    exact ⟨ret_int (by unfold psize; omega), rfl⟩

set_option maxRecDepth 100000 in
theorem refSize_in (n : Nat) (w : World) (h : n ≤ 65535) :
    Calls Try.prog 109 #[.int .i64 n] w fun e w' => e = .returned (.int .i64 (psize n)) ∧ w = w' := by
  go_enter Try.func109, Try.ntmps109
  go_wp2
  go_loop [0] (fun v0 => ∃ m : Nat, m ≤ 65535 ∧ v0 = .int .i64 m ∧ Hid (psize m = psize n)) (fun v0 => 65535 - (intOf v0).toNat)
  case atStart => exact ⟨n, h, rfl, Lib.hid rfl⟩
  case round =>
    obtain ⟨m, hm, rfl, HM⟩ := hrel
    by_cases h0 : m % 16 = 0
    · have ht : (m : Int) % 16 = 0 := by omega
      have HF : Hid (psize n = m) := Lib.hid (by rw [← HM.out]; unfold psize; omega)
      have H0 := Lib.hid h0
      clear h0
      go_wp2
      go_ret
      exact ⟨ret_int (by rw [HF.out]), rfl⟩
    · have ht : ¬ (m : Int) % 16 = 0 := by omega
      by_cases hlt : m < 65535
      · have HF : Hid (psize (m + 1) = psize n) := Lib.hid (by rw [← HM.out]; unfold psize; omega)
        go_wp2
        · go_round
          case rel => exact ⟨m + 1, by omega, by go_num, HF⟩
          case measure => simp [intOf]; omega
        · exfalso
          rename_i hx _
          rcases hx with hx | hx
          · exact ht (bne_eq_false_iff_eq.1 hx)
          · omega
      · have HF : Hid (psize n = m) := Lib.hid (by rw [← HM.out]; unfold psize; omega)
        go_wp2
        go_ret
        exact ⟨ret_int (by rw [HF.out]), rfl⟩

theorem alive_any (w : World) :
    Calls Try.prog 35 #[] w fun e w' => e = .returned (.bool true) ∧ Below w.heap.size w w' := by
  go_enter Try.func35, Try.ntmps35
  go_wp2_with fail
  refine (size_in 1 _ (by decide)).mono ?_
  rintro e w' ⟨rfl, rfl⟩
  rw [show psize 1 = 16 from by decide]
  go_wp2_with fail
  refine (size_in 65530 _ (by decide)).mono ?_
  rintro e w' ⟨rfl, rfl⟩
  rw [show psize 65530 = 65535 from by decide]
  go_wp2_with fail
  refine (size_out (-1) _ (by decide) (by decide) (.inl (by decide))).mono ?_
  rintro e w' ⟨rfl, rfl⟩
  go_wp2_with fail
  go_ret
  exact ⟨rfl, Below.refl _ _⟩

/-- What Pad hands back: the bytes, filled up by zeros; or none, and 4. -/
def Padded (w : World) (l : List UInt8) (e : Ending) (w' : World) : Prop := ∃ v, e = .returned (.tuple #[v, .int .i64 0]) ∧ OB w.heap.size w' v (l ++ List.replicate (psize l.length - l.length) 0) ∧ Below w.heap.size w w'

theorem pad_long (v : Value) (l : List UInt8) (w : World) (hr : RB w v l) (h : 65535 < l.length) :
    Calls Try.prog 38 #[v] w fun e w' => e = .returned (.tuple #[.slice none 0 0, .int .i64 4]) ∧ w = w' := by
  have hl := hr.len
  obtain ⟨A, c, rfl, hc, hr⟩ := hr
  clear hr
  go_enter Try.func38, Try.ntmps38
  go_wp2_with fail
  refine (size_out l.length _ (by omega) (by omega) (.inr (by omega))).mono ?_
  rintro e w' ⟨rfl, rfl⟩
  go_wp2_with fail
  go_ret2
  exact ⟨rfl, rfl⟩

theorem pad_any (v : Value) (l : List UInt8) (w : World) (hr : RB w v l) (h : l.length ≤ 65535) :
    Calls Try.prog 38 #[v] w (Padded w l) := by
  have hl := hr.len
  have HR := Lib.hid hr
  obtain ⟨A, c, rfl, hc, hr⟩ := hr
  clear hr
  have hp : psize l.length ≤ 65535 := by unfold psize; omega
  have hq : l.length ≤ psize l.length := by unfold psize; omega
  have HE : Hid (over (List.replicate (psize l.length) 0) l = l ++ List.replicate (psize l.length - l.length) 0) := Lib.hid (by
    rw [over_short _ _ (by rw [List.length_replicate]; exact hq), List.drop_replicate])
  generalize hn : psize l.length = n at hp hq HE
  have HN := Lib.hid hn
  clear hn
  have hmk := make_bytes n (by omega)
  go_enter Try.func38, Try.ntmps38
  go_wp2_with fail
  refine (size_in l.length _ (by omega)).mono ?_
  rintro e w' ⟨rfl, rfl⟩
  rw [HN.out]
  go_wp2_with (first | ((with_reducible refine is_builtin (b := .copy) (xs := #[.tmp 13, .tmp 14]) rfl ?_); refine copy_bytes (w0 := w) w.heap.size rfl (.tmp 13) (.tmp 14) rfl (.slice (some ⟨w.heap.size, 0, none⟩) n n) (.slice A l.length c) (List.replicate n 0) l rfl rfl ?aO ?aR ?aB ?_; (case aO => exact OB.made w w.heap.size n (Nat.le_refl _) (by omega)); (case aR => exact HR.out.alloc _); (case aB => exact below_alloc (Below.refl _ _) _); intro w1 ho hb1; have HO1 := Lib.hid ho; have HB1 := Lib.hid hb1; clear ho hb1))
  go_ret2
  refine ⟨_, rfl, ?_, HB1.out⟩
  have h1 := HO1.out
  rw [HE.out, ← HN.out] at h1
  rw [← HN.out]
  exact h1

end Go.Proofs.Ytahnibhcfdamdaa.Pad
