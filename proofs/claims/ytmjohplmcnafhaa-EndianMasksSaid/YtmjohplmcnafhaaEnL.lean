/- The rest of chapter 1: the reference's ones, the examples, and the walks of its five laws. -/
import Derived.Test.YtmjohplmcnafhaaEn
set_option linter.unusedSimpArgs false
set_option linter.unusedVariables false
namespace Go.Proofs.Ytmjohplmcnafhaa.En
open Go.RowKit Go.Proofs.YtmjohplmcnafhaaW.PrintWords Go.Proofs.Ytmjohplmcnafhaa.Bs Go.Proofs.Ytmjohplmcnafhaa.Le

set_option maxRecDepth 100000 in
set_option maxHeartbeats 2000000 in
theorem bit_any (v : Value) (l : List UInt8) (i : Nat) (w : World) (hr : RB w v l) (hi : i < 8 * l.length) (hs : l.length ≤ 1099511627776) :
    Calls Try.prog 45 #[v, .int .i64 i] w fun e w' => e = .returned (.int .i64 (bitN l i)) ∧ w = w' := by
  have hl := hr.len
  obtain ⟨A, c, rfl, _, hr⟩ := hr
  have hk : i / 8 < l.length := by omega
  obtain ⟨ad, rfl, hc⟩ := reads_cell hr (i / 8) hk
  clear hr
  have hby := byte_lt (l.getD (i / 8) 0)
  have HX : Hid (bitN l i = (l.getD (i / 8) 0).toNat / 2 ^ (7 - i % 8) % 2) := Lib.hid rfl
  generalize l.getD (i / 8) 0 = x at hc hby HX
  go_enter Try.func45, Try.ntmps45
  go_wp2
  go_loop [5, 6] (fun v5 v6 => ∃ (n k : Nat), k ≤ 7 ∧ i % 8 ≤ k ∧ v5 = .int .i64 n ∧ v6 = .int .i64 k ∧ n ≤ 255 ∧ Hid (n = x.toNat / 2 ^ (7 - k))) (fun _ v6 => (intOf v6).toNat)
  case atStart => exact ⟨x.toNat, 7, by omega, by omega, rfl, rfl, by omega, Lib.hid (by simp)⟩
  case round =>
    obtain ⟨n, k, hk0, hk1, rfl, rfl, hn, HN⟩ := hrel
    by_cases hlt : i % 8 < k
    · have HF : Hid (n / 2 = x.toNat / 2 ^ (7 - (k - 1))) := Lib.hid (by
        rw [HN.out, Nat.div_div_eq_div_mul, show 7 - (k - 1) = (7 - k) + 1 by omega, Nat.pow_succ])
      go_wp2
      go_round
      case rel => exact ⟨n / 2, k - 1, by omega, by omega, by go_num, int_eq (by omega), by omega, HF⟩
      case measure => (simp [intOf]) <;> omega
    · have HF : Hid (bitN l i = n % 2) := Lib.hid (by rw [HX.out, HN.out, show k = i % 8 by omega])
      go_wp2
      go_ret
      exact ⟨ret_int (by rw [HF.out]; rfl), rfl⟩

set_option maxRecDepth 100000 in
set_option maxHeartbeats 2000000 in
theorem refOnes_any (v : Value) (l : List UInt8) (w : World) (hr : RB w v l) (hs : l.length ≤ 1099511627776) :
    Calls Try.prog 19 #[v] w (TellsOnes w l) := by
  have hl := hr.len
  have HR := Lib.hid hr
  obtain ⟨A, c, rfl, _, hr⟩ := hr
  clear hr
  go_enter Try.func19, Try.ntmps19
  go_wp2
  go_loop [3] (fun v3 => ∃ (n : Nat), n ≤ 8 * l.length ∧ v3 = .int .i64 n ∧ Hid (∀ j, j < n → bitN l j = 1)) (fun v3 => 8 * l.length - (intOf v3).toNat)
  case atStart => exact ⟨0, Nat.zero_le _, rfl, Lib.hid (fun j hj => absurd hj (by omega))⟩
  case round =>
    obtain ⟨n, hn, rfl, HN⟩ := hrel
    by_cases hlt : n < 8 * l.length
    · have h2 := bitN_two l n
      go_wp2_with fail
      refine (bit_any _ l n _ HR.out hlt hs).mono ?_
      rintro e w' ⟨rfl, rfl⟩
      generalize hq : bitN l n = q at h2
      have HQ := Lib.hid hq
      clear hq
      by_cases hz : q = 0
      · subst hz
        have HF : Hid (IsOnes l n) := Lib.hid ⟨hn, HN.out, fun _ => HQ.out⟩
        go_wp2_with fail
        go_ret
        exact ⟨rfl, n, HF.out, rfl⟩
      · obtain rfl : q = 1 := by omega
        go_wp2_with fail
        go_round
        case rel => exact ⟨n + 1, by omega, by go_num, Lib.hid (fun j hj => by
          by_cases e : j = n
          · rw [e]; exact HQ.out
          · exact HN.out j (by omega))⟩
        case measure => (simp [intOf]) <;> omega
    · have HF : Hid (IsOnes l n) := Lib.hid ⟨hn, HN.out, fun h => absurd h hlt⟩
      go_wp2_with fail
      go_ret
      exact ⟨rfl, n, HF.out, rfl⟩

theorem ones_example : IsOnes [255, 240] 12 := ⟨by decide, fun j hj => by
  have : ∀ j : Fin 12, bitN [255, 240] (j : Nat) = 1 := by decide
  exact this ⟨j, hj⟩, fun _ => by decide⟩

set_option maxRecDepth 100000 in
set_option maxHeartbeats 2000000 in
theorem alive_any (w : World) :
    Calls Try.prog 16 #[] w fun e w' => e = .returned (.bool true) ∧ Below w.heap.size w w' := by
  go_enter Try.func16, Try.ntmps16
  go_wp2_with fail
  refine (little_any 258 4 _ (by decide) (by decide) (by decide) (fun _ => by decide)).mono ?_
  rintro e w1 ⟨v, rfl, ho, hb⟩
  obtain ⟨A1, c1, rfl, _, _⟩ := ho.rb
  have hl4 : (leB 4 258).length = 4 := rfl
  have HO : Hid (RB w1 (.slice A1 (leB 4 258).length c1) [2, 1, 0, 0]) := Lib.hid ho.rb
  rw [hl4] at HO
  rw [hl4]
  have HB := Lib.hid hb
  clear hb ho hl4
  go_wp2_with fail
  have HL : Hid (RB (w1.alloc (.cells #[.int .u8 2, .int .u8 1, .int .u8 0, .int .u8 0] 5)) (.slice (some ⟨w1.heap.size, 0, none⟩) 4 4) [2, 1, 0, 0]) := Lib.hid (OB.lit w1 0 [2, 1, 0, 0] (Nat.zero_le _) (by decide)).rb
  refine (same_any _ _ [2, 1, 0, 0] [2, 1, 0, 0] _ (HO.out.alloc _) HL.out).mono ?_
  rintro e w2 ⟨rfl, hb2⟩
  have HB2 := Lib.hid (below_comp (below_alloc HB.out _) hb2)
  clear hb2
  rw [show decide (([2, 1, 0, 0] : List UInt8) = [2, 1, 0, 0]) = true from by decide]
  go_wp2_with fail
  refine (turn_any 1 (-1) _ (by decide) (by decide) (by decide)).mono ?_
  rintro e w' ⟨rfl, rfl⟩
  rw [show rot 1 ((-1 : Int) % 32).toNat = 2147483648 from by decide]
  go_wp2_with fail
  have HL2 : Hid (RB (w2.alloc (.cells #[.int .u8 255, .int .u8 240] 5)) (.slice (some ⟨w2.heap.size, 0, none⟩) 2 2) [255, 240]) := Lib.hid (OB.lit w2 0 [255, 240] (Nat.zero_le _) (by decide)).rb
  refine (ones_any _ [255, 240] _ HL2.out (by decide)).mono ?_
  rintro e w3 ⟨rfl, n, hn, rfl⟩
  obtain rfl := hn.unique ones_example
  go_wp2_with fail
  go_ret
  exact ⟨rfl, below_alloc HB2.out _⟩

set_option maxRecDepth 100000 in
set_option maxHeartbeats 2000000 in
theorem endianOnes_walk (v : Value) (l : List UInt8) (w : World) (hr : RB w v l) :
    Calls Try.prog 5 #[v] w fun e w' => e = .returned (.bool true) ∧ Below w.heap.size w w' := by
  have hl := hr.len
  have HR := Lib.hid hr
  obtain ⟨A, c, rfl, _, hr⟩ := hr
  clear hr
  by_cases h : 100 < l.length
  · go_enter Try.func5, Try.ntmps5
    go_wp2_with fail
    refine (alive_any _).mono ?_
    rintro e w' ⟨rfl, hb⟩
    go_wp2_with fail
    go_ret
    exact ⟨rfl, hb⟩
  · go_enter Try.func5, Try.ntmps5
    go_wp2_with fail
    refine (ones_any _ l _ HR.out (by omega)).mono ?_
    rintro e w1 ⟨rfl, n, hn, rfl⟩
    go_wp2_with fail
    refine (refOnes_any _ l _ HR.out (by omega)).mono ?_
    rintro e w1 ⟨rfl, m, hm, rfl⟩
    obtain rfl := hn.unique hm
    clear hn hm
    go_wp2_with fail
    refine (alive_any _).mono ?_
    rintro e w' ⟨rfl, hb⟩
    go_wp2_with fail
    go_ret
    exact ⟨rfl, hb⟩

theorem mask_succ (i : Nat) (h : i < 64) : 2 * (2 ^ i - 1) + 1 = 2 ^ (i + 1) - 1 := by
  have := Nat.two_pow_pos i
  rw [Nat.pow_succ]; omega
theorem mask_lt (i : Nat) (h : i < 64) : 2 * (2 ^ i - 1) + 1 < 18446744073709551616 := by
  have : (2:Nat) ^ (i + 1) ≤ 2 ^ 64 := Nat.pow_le_pow_right (by decide) (by omega)
  rw [mask_succ i h]
  have := Nat.two_pow_pos (i + 1)
  omega

set_option maxRecDepth 100000 in
set_option maxHeartbeats 2000000 in
theorem endianMasks_walk (n : Int) (w : World) (h0 : -9223372036854775808 ≤ n) (h1 : n ≤ 9223372036854775807) :
    Calls Try.prog 3 #[.int .i64 n] w fun e w' => e = .returned (.bool true) ∧ Below w.heap.size w w' := by
  go_enter Try.func3, Try.ntmps3
  go_wp2
  go_loop [3, 4] (fun v3 v4 => ∃ (i m : Nat), i ≤ min n.toNat 64 ∧ v3 = .int .u64 m ∧ v4 = .int .i64 i ∧ Hid (m = 2 ^ i - 1)) (fun _ v4 => 64 - (intOf v4).toNat)
  case atStart => exact ⟨0, 0, Nat.zero_le _, rfl, rfl, Lib.hid rfl⟩
  case round =>
    obtain ⟨i, m, hi, rfl, rfl, HM⟩ := hrel
    have hi2 : i ≤ 64 := by omega
    by_cases hlt : (i : Int) < n
    · by_cases h64 : i < 64
      · have hm : 2 * m + 1 < 18446744073709551616 := by rw [HM.out]; exact mask_lt i h64
        have HF : Hid (2 * m + 1 = 2 ^ (i + 1) - 1) := Lib.hid (by rw [HM.out]; exact mask_succ i h64)
        go_wp2
        go_round
        case rel => exact ⟨i + 1, 2 * m + 1, by omega, by go_num, by go_num, HF⟩
        case measure => (simp [intOf]) <;> omega
      · have HF : Hid (maskN n = m) := Lib.hid (by rw [HM.out]; unfold maskN; rw [show min n.toNat 64 = i by omega])
        go_wp2_with fail
        refine (mask_any n _ h0 h1).mono ?_
        rintro e w' ⟨rfl, rfl⟩
        rw [HF.out]
        go_wp2_with fail
        refine (alive_any _).mono ?_
        rintro e w' ⟨rfl, hb⟩
        go_wp2_with fail
        go_ret
        exact ⟨rfl, hb⟩
    · have HF : Hid (maskN n = m) := Lib.hid (by rw [HM.out]; unfold maskN; rw [show min n.toNat 64 = i by omega])
      by_cases h64 : i < 64
      all_goals
        go_wp2_with fail
        refine (mask_any n _ h0 h1).mono ?_
        rintro e w' ⟨rfl, rfl⟩
        rw [HF.out]
        go_wp2_with fail
        refine (alive_any _).mono ?_
        rintro e w' ⟨rfl, hb⟩
        go_wp2_with fail
        go_ret
        exact ⟨rfl, hb⟩

theorem rot_form (a b k : Nat) (hk : k ≤ 32) (ha : a < 2 ^ k) (hb : b < 2 ^ (32 - k)) : rot (a * 2 ^ (32 - k) + b) k = b * 2 ^ k + a := by
  have e32 : 2 ^ (32 - k) * 2 ^ k = 4294967296 := by rw [← Nat.pow_add, show 32 - k + k = 32 by omega]
  have hP := Nat.two_pow_pos k
  have hQ := Nat.two_pow_pos (32 - k)
  unfold rot
  generalize 2 ^ k = P at *
  generalize 2 ^ (32 - k) = Q at *
  have h1 : (a * Q + b) * P = b * P + a * 4294967296 := by rw [Nat.add_mul, Nat.mul_assoc, e32, Nat.add_comm]
  have h2 : b * P < 4294967296 := by rw [← e32]; exact Nat.mul_lt_mul_of_pos_right hb hP
  rw [h1, Nat.add_mul_mod_self_right, Nat.mod_eq_of_lt h2]
  congr 1
  rw [Nat.mul_comm a Q, Nat.mul_add_div hQ, Nat.div_eq_of_lt hb, Nat.add_zero]
theorem rot_split (n k : Nat) (hk : k ≤ 32) (hn : n < 4294967296) : ∃ a b, a < 2 ^ k ∧ b < 2 ^ (32 - k) ∧ n = a * 2 ^ (32 - k) + b := by
  have e32 : 2 ^ k * 2 ^ (32 - k) = 4294967296 := by rw [← Nat.pow_add, show k + (32 - k) = 32 by omega]
  have hQ := Nat.two_pow_pos (32 - k)
  refine ⟨n / 2 ^ (32 - k), n % 2 ^ (32 - k), ?_, Nat.mod_lt _ hQ, ?_⟩
  · rw [Nat.div_lt_iff_lt_mul hQ, e32]; exact hn
  · rw [Nat.mul_comm]; exact (Nat.div_add_mod n _).symm
theorem rot_lt (n k : Nat) (hk : k ≤ 32) (hn : n < 4294967296) : rot n k < 4294967296 := by
  obtain ⟨a, b, ha, hb, rfl⟩ := rot_split n k hk hn
  rw [rot_form a b k hk ha hb]
  have e32 : 2 ^ (32 - k) * 2 ^ k = 4294967296 := by rw [← Nat.pow_add, show 32 - k + k = 32 by omega]
  generalize 2 ^ k = P at *
  generalize 2 ^ (32 - k) = Q at *
  have h1 : (b + 1) * P ≤ Q * P := Nat.mul_le_mul_right P hb
  rw [Nat.add_mul, Nat.one_mul] at h1
  omega
theorem rot_zero (n : Nat) (hn : n < 4294967296) : rot n 0 = n := by
  unfold rot
  rw [Nat.pow_zero, Nat.mul_one, show 32 - 0 = 32 from rfl, Nat.mod_eq_of_lt hn, show (2:Nat) ^ 32 = 4294967296 from by decide, Nat.div_eq_of_lt hn]; rfl
theorem rot_back (n k : Nat) (hk : k ≤ 32) (hn : n < 4294967296) : rot (rot n k) (32 - k) = n := by
  obtain ⟨a, b, ha, hb, rfl⟩ := rot_split n k hk hn
  rw [rot_form a b k hk ha hb]
  have h := rot_form b a (32 - k) (by omega) hb (by rw [show 32 - (32 - k) = k by omega]; exact ha)
  rw [show 32 - (32 - k) = k by omega] at h
  exact h
theorem rot_succ (n k : Nat) (hk : k < 32) (hn : n < 4294967296) : rot n k * 2 % 4294967296 + rot n k / 2147483648 = rot n (k + 1) := by
  obtain ⟨a, b, ha, hb, rfl⟩ := rot_split n (k + 1) (by omega) hn
  rw [rot_form a b (k + 1) (by omega) ha hb]
  have hs : 2 ^ (32 - k) = 2 * 2 ^ (32 - (k + 1)) := by rw [show 32 - k = (32 - (k + 1)) + 1 by omega, Nat.pow_succ, Nat.mul_comm]
  have e31 : 2 ^ (32 - (k + 1)) * 2 ^ k = 2147483648 := by rw [← Nat.pow_add, show 32 - (k + 1) + k = 31 by omega]
  have h1 : a * 2 ^ (32 - (k + 1)) + b = (a / 2) * 2 ^ (32 - k) + ((a % 2) * 2 ^ (32 - (k + 1)) + b) := by
    rw [hs]
    generalize 2 ^ (32 - (k + 1)) = R
    have := Nat.div_add_mod a 2
    conv => lhs; rw [← this]
    rw [Nat.add_mul, ← Nat.mul_assoc, Nat.add_assoc, Nat.mul_comm (a / 2) 2]
  have h2 : (a % 2) * 2 ^ (32 - (k + 1)) + b < 2 ^ (32 - k) := by
    rw [hs]
    rcases Nat.mod_two_eq_zero_or_one a with h | h
    · rw [h]; omega
    · rw [h]; omega
  have h3 : a / 2 < 2 ^ k := by rw [Nat.pow_succ] at ha; omega
  have h5 : (a % 2 * 2 ^ (32 - (k + 1)) + b) * 2 ^ k = a % 2 * 2147483648 + b * 2 ^ k := by rw [Nat.add_mul, Nat.mul_assoc, e31]
  rw [h1, rot_form (a / 2) _ k (by omega) h3 h2, h5, Nat.pow_succ]
  generalize 2 ^ k = P at *
  generalize 2 ^ (32 - (k + 1)) = R at *
  have h4 : (b + 1) * P ≤ R * P := Nat.mul_le_mul_right P hb
  rw [Nat.add_mul, Nat.one_mul, e31] at h4
  rw [show b * (P * 2) = b * P * 2 by rw [Nat.mul_assoc]]
  generalize b * P = m at *
  have := Nat.div_add_mod a 2
  rcases Nat.mod_two_eq_zero_or_one a with h | h
  · rw [h]; omega
  · rw [h]; omega

set_option maxRecDepth 100000 in
set_option maxHeartbeats 4000000 in
theorem endianTurns_walk (n : Nat) (d : Int) (w : World) (hn : n < 4294967296) (h0 : -9223372036854775808 ≤ d) (h1 : d ≤ 9223372036854775807) :
    Calls Try.prog 4 #[.int .u32 n, .int .i64 d] w fun e w' => e = .returned (.bool true) ∧ Below w.heap.size w w' := by
  obtain ⟨k, hk⟩ : ∃ k : Nat, d % 32 = k := ⟨(d % 32).toNat, by omega⟩
  have hk32 : k < 32 := by omega
  have HK : Hid ((d % 32).toNat = k) := Lib.hid (by omega)
  have HKK : Hid (((k : Int) % 32).toNat = k) := Lib.hid (by omega)
  have HB : Hid (rot (rot n k) ((-(k : Int)) % 32).toNat = n) := Lib.hid (by
    by_cases hz : k = 0
    · subst hz
      rw [show ((-((0 : Nat) : Int)) % 32).toNat = 0 from rfl, rot_zero n hn, rot_zero n hn]
    · rw [show ((-(k : Int)) % 32).toNat = 32 - k by omega]; exact rot_back n k (by omega) hn)
  have hrl := rot_lt n k (by omega) hn
  obtain ⟨t, ht⟩ : ∃ t, Int.tmod d 32 = t := ⟨_, rfl⟩
  have htk : (0 ≤ t ∧ t = k) ∨ (t < 0 ∧ t + 32 = k) := by
    rcases Int.lt_or_le d 0 with hd | hd
    · have e : Int.tmod d 32 = -((-d) % 32) := by
        rw [← Int.tmod_eq_emod_of_nonneg (show 0 ≤ -d by omega), Int.neg_tmod]; omega
      omega
    · have e : Int.tmod d 32 = d % 32 := Int.tmod_eq_emod_of_nonneg hd
      omega
  clear hk
  rcases htk with ⟨h2, rfl⟩ | ⟨h2, h3⟩
  all_goals
    go_enter Try.func4, Try.ntmps4
    go_wp2
    go_loop [6, 7] (fun v6 v7 => ∃ (i m : Nat), i ≤ k ∧ v6 = .int .u32 m ∧ v7 = .int .i64 i ∧ m < 4294967296 ∧ Hid (m = rot n i)) (fun _ v7 => k - (intOf v7).toNat)
    case atStart => exact ⟨0, n, Nat.zero_le _, rfl, rfl, hn, Lib.hid (rot_zero n hn).symm⟩
    case round =>
      obtain ⟨i, m, hi, rfl, rfl, hm, HM⟩ := hrel
      by_cases hlt : i < k
      · have HF : Hid (m * 2 % 4294967296 + m / 2147483648 = rot n (i + 1)) := Lib.hid (by rw [HM.out]; exact rot_succ n i (by omega) hn)
        go_wp2
        go_round
        case rel => exact ⟨i + 1, m * 2 % 4294967296 + m / 2147483648, by omega, by go_num, by go_num, by omega, HF⟩
        case measure => (simp [intOf]) <;> omega
      · have HF : Hid (rot n k = m) := Lib.hid (by rw [HM.out, show i = k by omega])
        go_wp2_with fail
        refine (turn_any n d _ hn h0 h1).mono ?_
        rintro e w' ⟨rfl, rfl⟩
        rw [HK.out]
        rw [HF.out]
        go_wp2_with fail
        refine (turn_any m (-(k : Int)) _ hm (by omega) (by omega)).mono ?_
        rintro e w' ⟨rfl, rfl⟩
        rw [← HF.out, HB.out]
        go_wp2_with fail
        refine (turn_any n k _ hn (by omega) (by omega)).mono ?_
        rintro e w' ⟨rfl, rfl⟩
        rw [HKK.out, HF.out]
        go_wp2_with fail
        refine (alive_any _).mono ?_
        rintro e w' ⟨rfl, hb⟩
        go_wp2_with fail
        go_ret
        exact ⟨rfl, hb⟩

set_option maxRecDepth 100000 in
set_option maxHeartbeats 4000000 in
/-- The rest of the law where none of the three hands bytes over. -/
theorem endianPuts_none (n : Nat) (s : Int) (c : Int) (w : World) (hn : n < 18446744073709551616) (h0 : -9223372036854775808 ≤ s) (h1 : s ≤ 9223372036854775807)
    (hL : ∀ w, Calls Try.prog 28 #[.int .u64 n, .int .i64 s] w fun e w' => e = .returned (.tuple #[.slice none 0 0, .int .i64 c]) ∧ w = w')
    (hBi : ∀ w, Calls Try.prog 29 #[.int .u64 n, .int .i64 s] w fun e w' => e = .returned (.tuple #[.slice none 0 0, .int .i64 c]) ∧ w = w')
    (hP : ∀ w, Calls Try.prog 30 #[.int .u64 n, .int .i64 s] w fun e w' => e = .returned (.tuple #[.slice none 0 0, .int .i64 c]) ∧ w = w') (hc : c = 1 ∨ c = 6) :
    Calls Try.prog 10 #[.int .u64 n, .int .i64 s] w fun e w' => e = .returned (.bool true) ∧ Below w.heap.size w w' := by
  have HL := Lib.hid hL
  have HBi := Lib.hid hBi
  have HP := Lib.hid hP
  clear hL hBi hP
  go_enter Try.func10, Try.ntmps10
  go_wp2_with fail
  refine (HL.out _).mono ?_
  rintro e w' ⟨rfl, rfl⟩
  go_wp2_with fail
  refine (HBi.out _).mono ?_
  rintro e w' ⟨rfl, rfl⟩
  go_wp2_with fail
  refine (HP.out _).mono ?_
  rintro e w' ⟨rfl, rfl⟩
  go_wp2_with fail
  refine (same_any _ _ [] [] _ (RB.nil _) (RB.nil _)).mono ?_
  rintro e w1 ⟨rfl, hb1⟩
  rw [show decide (([] : List UInt8) = []) = true from by decide]
  go_wp2_with fail
  refine (reversed_any _ [] _ (RB.nil _) (by decide)).mono ?_
  rintro e w2 ⟨v2, rfl, ho2, hb2⟩
  obtain ⟨A2, c2, rfl, _, _⟩ := ho2.rb
  have HO := Lib.hid ho2.rb
  have HB := Lib.hid (below_comp hb1 hb2)
  clear hb1 hb2 ho2
  go_wp2_with fail
  refine (same_any _ _ [] [] _ (RB.nil _) HO.out).mono ?_
  rintro e w3 ⟨rfl, hb3⟩
  have HB3 := Lib.hid (below_comp HB.out hb3)
  clear hb3
  rw [show decide (([] : List UInt8) = []) = true from by decide]
  go_wp2_with fail
  refine (alive_any _).mono ?_
  rintro e w' ⟨rfl, hb⟩
  go_wp2_with fail
  go_ret
  exact ⟨rfl, below_comp HB3.out hb⟩

set_option maxRecDepth 100000 in
set_option maxHeartbeats 4000000 in
theorem endianPuts_some (n s : Nat) (w : World) (hn : n < 18446744073709551616) (h1 : 1 ≤ s) (h8 : s ≤ 8) (h : s < 8 → n < pw s) :
    Calls Try.prog 10 #[.int .u64 n, .int .i64 s] w fun e w' => e = .returned (.bool true) ∧ Below w.heap.size w w' := by
  have H := Lib.hid h
  clear h
  have HLN := Lib.hid (leB_length s n)
  have HLR : Hid ((leB s n).reverse.length = s) := Lib.hid (by rw [List.length_reverse, leB_length])
  generalize hL : leB s n = L at HLN HLR
  have HE := Lib.hid hL
  clear hL
  go_enter Try.func10, Try.ntmps10
  go_wp2_with fail
  refine (little_any n s _ hn h1 h8 H.out).mono ?_
  rintro e w1 ⟨v1, rfl, ho1, hb1⟩
  rw [HE.out] at ho1
  obtain ⟨A1, c1, rfl, _, _⟩ := ho1.rb
  have HO1 := Lib.hid ho1.rb
  have HB1 := Lib.hid hb1
  clear ho1 hb1
  go_wp2_with fail
  refine (big_any n s _ hn h1 h8 H.out).mono ?_
  rintro e w2 ⟨v2, rfl, ho2, hb2⟩
  rw [HE.out] at ho2
  generalize hR : L.reverse = R at ho2
  have HR := Lib.hid hR
  clear hR
  obtain ⟨A2, c2, rfl, _, _⟩ := ho2.rb
  have HO2 := Lib.hid ho2.rb
  have HO1' := Lib.hid (HO1.out.below hb2)
  have HB2 := Lib.hid (below_comp HB1.out hb2)
  clear ho2 hb2 HO1 HB1
  go_wp2_with fail
  refine (put_any n s _ hn h1 h8 H.out).mono ?_
  rintro e w3 ⟨v3, rfl, ho3, hb3⟩
  rw [HE.out] at ho3
  obtain ⟨A3, c3, rfl, _, _⟩ := ho3.rb
  have HO3 := Lib.hid ho3.rb
  have HO1 := Lib.hid (HO1'.out.below hb3)
  have HO2' := Lib.hid (HO2.out.below hb3)
  have HB3 := Lib.hid (below_comp HB2.out hb3)
  clear ho3 hb3 HO2 HB2 HO1'
  go_wp2_with fail
  refine (same_any _ _ L L _ HO1.out HO3.out).mono ?_
  rintro e w4 ⟨rfl, hb4⟩
  have HO3' := Lib.hid (HO3.out.below hb4)
  have HO2 := Lib.hid (HO2'.out.below hb4)
  have HB4 := Lib.hid (below_comp HB3.out hb4)
  clear hb4 HO3 HO1 HO2' HB3
  rw [show decide (L = L) = true from decide_eq_true rfl]
  go_wp2_with fail
  refine (reversed_any _ L _ HO3'.out (by rw [HLN.out]; omega)).mono ?_
  rintro e w5 ⟨v5, rfl, ho5, hb5⟩
  rw [HR.out] at ho5
  obtain ⟨A5, c5, rfl, _, _⟩ := ho5.rb
  have HO5 := Lib.hid ho5.rb
  have HO2' := Lib.hid (HO2.out.below hb5)
  have HB5 := Lib.hid (below_comp HB4.out hb5)
  clear ho5 hb5 HO3' HO2 HB4
  go_wp2_with fail
  refine (same_any _ _ R R _ HO2'.out HO5.out).mono ?_
  rintro e w6 ⟨rfl, hb6⟩
  have HB6 := Lib.hid (below_comp HB5.out hb6)
  clear hb6
  rw [show decide (R = R) = true from decide_eq_true rfl]
  go_wp2_with fail
  refine (alive_any _).mono ?_
  rintro e w' ⟨rfl, hb⟩
  go_wp2_with fail
  go_ret
  exact ⟨rfl, below_comp HB6.out hb⟩

theorem endianPuts_walk (n : Nat) (s : Int) (w : World) (hn : n < 18446744073709551616) (h0 : -9223372036854775808 ≤ s) (h1 : s ≤ 9223372036854775807) :
    Calls Try.prog 10 #[.int .u64 n, .int .i64 s] w fun e w' => e = .returned (.bool true) ∧ Below w.heap.size w w' := by
  by_cases ha : s < 1 ∨ 8 < s
  · exact endianPuts_none n s 1 w hn h0 h1 (fun w => little_arg n s w hn h0 h1 ha) (fun w => big_arg n s w hn h0 h1 ha) (fun w => put_arg n s w hn h0 h1 ha) (.inl rfl)
  · obtain ⟨s, rfl⟩ := Int.eq_ofNat_of_zero_le (show 0 ≤ s by omega)
    by_cases hr : s < 8 ∧ pw s ≤ n
    · exact endianPuts_none n s 6 w hn h0 h1 (fun w => little_range n s w hn (by omega) hr.1 hr.2) (fun w => big_range n s w hn (by omega) hr.1 hr.2) (fun w => put_range n s w hn (by omega) hr.1 hr.2) (.inr rfl)
    · exact endianPuts_some n s w hn (by omega) (by omega) (fun h => by omega)

set_option maxRecDepth 100000 in
set_option maxHeartbeats 4000000 in
theorem endianGets_walk (v : Value) (l : List UInt8) (w : World) (hr : RB w v l) :
    Calls Try.prog 11 #[v] w fun e w' => e = .returned (.bool true) ∧ Below w.heap.size w w' := by
  have hl := hr.len
  have HR := Lib.hid hr
  obtain ⟨A, c, rfl, _, hr⟩ := hr
  clear hr
  by_cases h : 1 ≤ l.length ∧ l.length ≤ 8
  · obtain ⟨h1, h8⟩ := h
    have HLT : Hid (ofLe l < 18446744073709551616) := Lib.hid (Nat.lt_of_lt_of_le (ofLe_lt l) (pow_eight _ h8))
    have HPW : Hid (ofLe l < pw l.length) := Lib.hid (ofLe_lt l)
    have HBK := Lib.hid (leB_ofLe l)
    have HLR : Hid (l.reverse.length = l.length) := Lib.hid List.length_reverse
    generalize hq : ofLe l = q at HLT HPW HBK
    have HQ := Lib.hid hq
    have hqlt := HLT.out
    clear hq
    go_enter Try.func11, Try.ntmps11
    go_wp2_with fail
    refine (ofLittle_any _ l _ HR.out h1 h8).mono ?_
    rintro e w' ⟨rfl, rfl⟩
    rw [HQ.out]
    go_wp2_with fail
    refine (ofBig_any _ l _ HR.out h1 h8).mono ?_
    rintro e w' ⟨rfl, rfl⟩
    go_wp2_with fail
    refine (little_any q l.length _ hqlt h1 h8 (fun _ => HPW.out)).mono ?_
    rintro e w1 ⟨v1, rfl, ho1, hb1⟩
    rw [HBK.out] at ho1
    obtain ⟨A1, c1, rfl, _, _⟩ := ho1.rb
    have HO1 := Lib.hid ho1.rb
    have HB1 := Lib.hid hb1
    have HR1 := Lib.hid (HR.out.below hb1)
    clear ho1 hb1
    go_wp2_with fail
    refine (get_any _ l _ HR1.out h8).mono ?_
    rintro e w' ⟨rfl, rfl⟩
    rw [HQ.out]
    go_wp2_with fail
    refine (reversed_any _ l _ HR1.out (by omega)).mono ?_
    rintro e w2 ⟨v2, rfl, ho2, hb2⟩
    generalize hR : l.reverse = R at ho2 HLR
    have HRR := Lib.hid hR
    clear hR
    obtain ⟨A2, c2, rfl, _, _⟩ := ho2.rb
    have HO2 := Lib.hid ho2.rb
    have HO1' := Lib.hid (HO1.out.below hb2)
    have HR2 := Lib.hid (HR1.out.below hb2)
    have HB2 := Lib.hid (below_comp HB1.out hb2)
    clear ho2 hb2
    go_wp2_with fail
    refine (get_any _ R _ HO2.out (by rw [HLR.out]; exact h8)).mono ?_
    rintro e w' ⟨rfl, rfl⟩
    go_wp2_with fail
    refine (same_any _ _ l l _ HO1'.out HR2.out).mono ?_
    rintro e w3 ⟨rfl, hb3⟩
    have HB3 := Lib.hid (below_comp HB2.out hb3)
    clear hb3
    rw [show decide (l = l) = true from decide_eq_true rfl]
    go_wp2_with fail
    refine (alive_any _).mono ?_
    rintro e w' ⟨rfl, hb⟩
    go_wp2_with fail
    go_ret
    exact ⟨rfl, below_comp HB3.out hb⟩
  · by_cases h1 : 1 ≤ l.length
    all_goals
      go_enter Try.func11, Try.ntmps11
      go_wp2_with fail
      refine (ofLittle_bad _ l _ HR.out h).mono ?_
      rintro e w' ⟨rfl, rfl⟩
      go_wp2_with fail
      refine (ofBig_bad _ l _ HR.out h).mono ?_
      rintro e w' ⟨rfl, rfl⟩
      go_wp2_with fail
      refine (alive_any _).mono ?_
      rintro e w' ⟨rfl, hb⟩
      go_wp2_with fail
      go_ret
      exact ⟨rfl, hb⟩

end Go.Proofs.Ytmjohplmcnafhaa.En
