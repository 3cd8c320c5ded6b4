/- Plain facts on numbers as bytes, the lowest first: no program in sight. -/
import Derived.Laws.BitsAllLaws
set_option linter.unusedSimpArgs false
set_option linter.unusedVariables false
set_option maxRecDepth 100000
namespace Go.Proofs.Ytnehbhhjdjiieaa.Le
open Go

/-- A number in so many bytes, the lowest first; the number of bytes. -/
def leB : Nat → Nat → List UInt8
  | 0, _ => []
  | k + 1, n => UInt8.ofNat (n % 256) :: leB k (n / 256)
def ofLe : List UInt8 → Nat
  | [] => 0
  | x :: r => x.toNat + 256 * ofLe r
theorem leB_length : ∀ k n, (leB k n).length = k
  | 0, _ => rfl
  | k + 1, n => by rw [leB, List.length_cons, leB_length k]
theorem leB_snoc : ∀ k n, leB (k + 1) n = leB k n ++ [UInt8.ofNat (n / 256 ^ k % 256)]
  | 0, n => by simp [leB]
  | k + 1, n => by
    rw [leB, leB_snoc k (n / 256), leB, List.cons_append, Nat.div_div_eq_div_mul]
    rw [show 256 * 256 ^ k = 256 ^ (k + 1) by rw [Nat.pow_succ, Nat.mul_comm]]
theorem ofLe_snoc (x : UInt8) : ∀ l : List UInt8, ofLe (l ++ [x]) = ofLe l + 256 ^ l.length * x.toNat
  | [] => by simp [ofLe]
  | y :: r => by
    rw [List.cons_append, ofLe, ofLe_snoc x r, ofLe, List.length_cons, Nat.pow_succ, Nat.mul_add, Nat.add_assoc, Nat.mul_comm (256 ^ r.length) 256, Nat.mul_assoc]
theorem ofLe_lt : ∀ l : List UInt8, ofLe l < 256 ^ l.length
  | [] => by simp [ofLe]
  | x :: r => by
    have h := ofLe_lt r
    have hx := x.toNat_lt
    rw [ofLe, List.length_cons, Nat.pow_succ]
    omega
theorem leB_ofLe : ∀ l : List UInt8, leB l.length (ofLe l) = l
  | [] => rfl
  | x :: r => by
    have hx := x.toNat_lt
    rw [List.length_cons, leB, ofLe]
    rw [show (x.toNat + 256 * ofLe r) % 256 = x.toNat by omega, show (x.toNat + 256 * ofLe r) / 256 = ofLe r by omega, leB_ofLe r]
    simp
theorem ofLe_leB : ∀ k n, n < 256 ^ k → ofLe (leB k n) = n
  | 0, n, h => by simp at h; simp [leB, ofLe, h]
  | k + 1, n, h => by
    rw [Nat.pow_succ] at h
    rw [leB, ofLe, ofLe_leB k (n / 256) (by omega), UInt8.toNat_ofNat']
    omega
theorem pow_le {a b : Nat} (h : a ≤ b) : 256 ^ a ≤ 256 ^ b := Nat.pow_le_pow_right (by decide) h
theorem pow_eight (k : Nat) (h : k ≤ 8) : 256 ^ k ≤ 18446744073709551616 := Nat.le_trans (pow_le h) (by decide)
theorem two_pow (k : Nat) : 2 ^ (8 * k) = 256 ^ k := by rw [Nat.pow_mul]
theorem take_snoc (l : List UInt8) (k : Nat) (h : k < l.length) : l.take (k + 1) = l.take k ++ [l.getD k 0] := by
  rw [List.take_succ_eq_append_getElem h]
  simp [List.getD_eq_getElem?_getD, List.getElem?_eq_getElem h]
/-- So many bytes of a number, zeros behind. -/
def fillB (s i n : Nat) : List UInt8 := leB i n ++ List.replicate (s - i) 0
theorem fillB_length (s i n : Nat) (h : i ≤ s) : (fillB s i n).length = s := by unfold fillB; rw [List.length_append, leB_length, List.length_replicate]; omega
theorem fillB_zero (s n : Nat) : fillB s 0 n = List.replicate s 0 := by simp [fillB, leB]
theorem fillB_all (s n : Nat) : fillB s s n = leB s n := by simp [fillB]
theorem fill_step (s i n : Nat) (h : i < s) : (fillB s i n).set i (UInt8.ofNat (n / 256 ^ i % 256)) = fillB s (i + 1) n := by
  unfold fillB
  rw [show s - i = (s - (i + 1)) + 1 by omega, List.replicate_succ, List.set_append_right _ _ (by rw [leB_length]; omega), leB_length, Nat.sub_self, List.set_cons_zero, leB_snoc, List.append_assoc, List.singleton_append]
theorem reverse_snoc (l : List UInt8) (k : Nat) (h : k < l.length) : (l.drop k).reverse = (l.drop (k + 1)).reverse ++ [l.getD k 0] := by
  rw [List.drop_eq_getElem_cons h, List.reverse_cons]
  simp [List.getD_eq_getElem?_getD, List.getElem?_eq_getElem h]
theorem ofLe_drop (l : List UInt8) (k : Nat) (h : k < l.length) : ofLe (l.drop k) = (l.getD k 0).toNat + 256 * ofLe (l.drop (k + 1)) := by
  rw [List.drop_eq_getElem_cons h, ofLe]
  simp [List.getD_eq_getElem?_getD, List.getElem?_eq_getElem h]

/-- Clearing the k lowest bits. -/
theorem clear_low (n k : Nat) (hk : k ≤ 64) (hn : n < 2 ^ 64) : n &&& (2 ^ 64 - 2 ^ k) = n / 2 ^ k * 2 ^ k := by
  have e : 2 ^ 64 - 2 ^ k = (2 ^ (64 - k) - 1) <<< k := by
    rw [Nat.shiftLeft_eq, Nat.sub_mul, Nat.one_mul, ← Nat.pow_add, show 64 - k + k = 64 by omega]
  have e2 : n / 2 ^ k * 2 ^ k = (n >>> k) <<< k := by rw [Nat.shiftRight_eq_div_pow, Nat.shiftLeft_eq]
  rw [e, e2]
  apply Nat.eq_of_testBit_eq
  intro i
  rw [Nat.testBit_and, Nat.testBit_shiftLeft, Nat.testBit_shiftLeft, Nat.testBit_shiftRight, Nat.testBit_two_pow_sub_one]
  by_cases h1 : k ≤ i
  · rw [show k + (i - k) = i by omega]
    by_cases h2 : i < 64
    · simp [h1, show i - k < 64 - k by omega]
    · have hz : Nat.testBit n i = false := Nat.testBit_lt_two_pow (Nat.lt_of_lt_of_le hn (Nat.pow_le_pow_right (by decide) (by omega)))
      simp [hz]
  · simp [h1]
/-- What a mask of k ones leaves of a number is none just where the number has k bits at most. -/
theorem andNot_mask (n k : Nat) (hk : k ≤ 64) (hn : n < 2 ^ 64) : bits .andNot .u64 (n : Int) ((2 ^ k - 1 : Nat) : Int) = ((n / 2 ^ k * 2 ^ k : Nat) : Int) := by
  have hp : 2 ^ k ≤ 2 ^ 64 := Nat.pow_le_pow_right (by decide) hk
  have hpos : 0 < 2 ^ k := Nat.two_pow_pos k
  rw [u64_andNot_nat n (2 ^ k - 1) (by simpa using hn) (by have : (2:Nat) ^ 64 = 18446744073709551616 := by decide
                                                           omega)]
  rw [← clear_low n k hk hn]
  congr 2
  have : (2:Nat) ^ 64 = 18446744073709551616 := by decide
  omega
theorem andNot_zero (n k : Nat) (hk : k ≤ 64) (hn : n < 2 ^ 64) (h : n < 2 ^ k) : bits .andNot .u64 (n : Int) ((2 ^ k - 1 : Nat) : Int) = 0 := by
  rw [andNot_mask n k hk hn, Nat.div_eq_of_lt h]; simp
theorem andNot_ne (n k : Nat) (hk : k ≤ 64) (hn : n < 2 ^ 64) (h : 2 ^ k ≤ n) : bits .andNot .u64 (n : Int) ((2 ^ k - 1 : Nat) : Int) ≠ 0 := by
  rw [andNot_mask n k hk hn]
  have h1 : 0 < n / 2 ^ k := Nat.div_pos h (Nat.two_pow_pos k)
  have h2 : 0 < n / 2 ^ k * 2 ^ k := Nat.mul_pos h1 (Nat.two_pow_pos k)
  omega
end Go.Proofs.Ytnehbhhjdjiieaa.Le
