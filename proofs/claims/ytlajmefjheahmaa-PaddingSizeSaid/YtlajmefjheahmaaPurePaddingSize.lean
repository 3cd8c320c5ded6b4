/- The padded size of every number equals the reference's, which goes up by one until it meets a multiple of sixteen or 65535; no condition. -/
import Derived.Test.YtlajmefjheahmaaPPaddingSizex1
namespace Go.Proofs.Ytlajmefjheahmaa.Pure
open Go.RowKit Go.Proofs.Ytlajmefjheahmaa.PPaddingSize Go.Proofs.YtlajmefjheahmaaW.PrintWords Go.Proofs.YtlajmefjheahmaaW.PrintLast

theorem alive_true : crawlwaylaw46_alive.f = some true := by decide +kernel

theorem clear4 (m : Nat) (h : m < 18446744073709551616) : m &&& 18446744073709551600 = m - m % 16 := by
  have e : m - m % 16 = (m >>> 4) <<< 4 := by rw [Nat.shiftRight_eq_div_pow, Nat.shiftLeft_eq]; omega
  rw [e]
  apply Nat.eq_of_testBit_eq
  intro i
  rw [Nat.testBit_and, Nat.testBit_shiftLeft, Nat.testBit_shiftRight]
  by_cases hi : i < 64
  · have hb : Nat.testBit 18446744073709551600 i = decide (4 ≤ i) := by
      have : ∀ i : Fin 64, Nat.testBit 18446744073709551600 i = decide (4 ≤ (i : Nat)) := by decide
      exact this ⟨i, hi⟩
    rw [hb]
    by_cases h4 : 4 ≤ i
    · rw [show 4 + (i - 4) = i by omega]; simp [h4]
    · simp [h4]
  · have hz : Nat.testBit m i = false := Nat.testBit_lt_two_pow (Nat.lt_of_lt_of_le h (Nat.le_trans (by decide) (Nat.pow_le_pow_right (by decide) (show 64 ≤ i by omega))))
    rw [show 4 + (i - 4) = i by omega, hz]; simp

/-- What clearing the four lowest bits makes of a number in range. -/
theorem andNot15 (m : Nat) (h : m ≤ 65550) : Go.bits .andNot .i64 (m : Int) 15 = ((m - m % 16 : Nat) : Int) := by
  have hc := clear4 m (by omega)
  show IntKind.i64.wrap ((BitVec.ofInt 64 (m : Int) &&& ~~~BitVec.ofInt 64 15).toNat : Int) = _
  rw [BitVec.toNat_and, BitVec.ofInt_natCast, BitVec.toNat_ofNat, Nat.mod_eq_of_lt (show m < 2 ^ 64 by omega)]
  rw [show (~~~BitVec.ofInt 64 15).toNat = 18446744073709551600 from by decide, hc]
  have hq : m - m % 16 ≤ 65550 := by omega
  generalize m - m % 16 = q at *
  rw [IntKind.wrap_i64]
  omega

theorem size_small (m : Nat) (h : m ≤ 65535) : padding_Size.f (m : Int) = some (min (((m + 15) / 16 * 16 : Nat) : Int) 65535) := by
  unfold padding_Size.f
  rw [if_neg (by omega), if_neg (by omega)]
  have e : wrap64 ((m : Int) + 15) = ((m + 15 : Nat) : Int) := by unfold wrap64; omega
  rw [e, andNot15 _ (by omega)]
  unfold mn
  split <;> (congr 1; omega)

theorem ref_loop (d : Nat) : ∀ (k : Nat) (m : Nat), m ≤ 65535 → 65535 - m = d → d < k →
    crawlwayref46_Size.l0 k (m : Int) = some (min (((m + 15) / 16 * 16 : Nat) : Int) 65535) := by
  induction d with
  | zero =>
    intro k m h hd hk
    obtain ⟨k, rfl⟩ : ∃ j, k = j + 1 := ⟨k - 1, by omega⟩
    obtain rfl : m = 65535 := by omega
    simp only [crawlwayref46_Size.l0]
    rw [if_neg (by decide), if_neg (by decide)]
    decide
  | succ d ih =>
    intro k m h hd hk
    obtain ⟨k, rfl⟩ : ∃ j, k = j + 1 := ⟨k - 1, by omega⟩
    simp only [crawlwayref46_Size.l0]
    have et : Int.tmod (m : Int) 16 = ((m % 16 : Nat) : Int) := by rfl
    rw [et]
    by_cases h0 : m % 16 = 0
    · rw [if_pos (by omega)]; congr 1; omega
    · rw [if_neg (by omega), if_pos (by omega)]
      have e : wrap64 ((m : Int) + 1) = ((m + 1 : Nat) : Int) := by unfold wrap64; omega
      rw [e, ih k (m + 1) (by omega) (by omega) (by omega)]
      congr 1; omega

theorem ref_size (k : Nat) (hk : 65535 < k) (n : Int) : crawlwayref46_Size.f (k + 1) n = padding_Size.f n := by
  unfold crawlwayref46_Size.f
  by_cases h0 : n < 0
  · rw [if_pos h0]; simp only [crawlwayref46_Size.j0, padding_Size.f]; rw [if_pos trivial, if_pos h0]
  · rw [if_neg h0]
    by_cases h1 : n > 65535
    · rw [show decide (n > 65535) = true from decide_eq_true h1]; simp only [crawlwayref46_Size.j0, padding_Size.f]; rw [if_pos trivial, if_neg h0, if_pos h1]
    · rw [show decide (n > 65535) = false from decide_eq_false h1]
      obtain ⟨m, rfl⟩ := Int.eq_ofNat_of_zero_le (show 0 ≤ n by omega)
      simp only [crawlwayref46_Size.j0]
      rw [if_neg (by decide), size_small m (by omega), ref_loop (65535 - m) k m (by omega) rfl (by omega)]

theorem size_some (n : Int) : ∃ r, padding_Size.f n = some r := by unfold padding_Size.f; (repeat' split) <;> exact ⟨_, rfl⟩

theorem PaddingSize : crawlwaylaw46_PaddingSize.Pure := by
  intro n _
  obtain ⟨r, hr⟩ := size_some n
  refine ⟨69999 + 1, ?_⟩
  unfold crawlwaylaw46_PaddingSize.f
  rw [ref_size 69999 (by decide), hr]
  simp only [Option.bind_some]
  rw [if_pos trivial, alive_true]; rfl

end Go.Proofs.Ytlajmefjheahmaa.Pure
