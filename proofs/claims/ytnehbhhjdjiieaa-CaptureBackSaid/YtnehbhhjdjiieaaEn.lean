/- Package endian and its reference: what each call comes to, over the bytes. -/
import Derived.Test.YtnehbhhjdjiieaaBs
import Derived.Test.YtnehbhhjdjiieaaLe
import Derived.WalkKit
import Derived.RowKit3
import Derived.Deep.LoopGhost
import Derived.Deep.QuietTactic
import Derived.BigQuiet
import Derived.RegionTactic
import Derived.ChangeAlike
set_option linter.unusedSimpArgs false
set_option linter.unusedVariables false
set_option maxRecDepth 100000
namespace Go.Proofs.Ytnehbhhjdjiieaa.En
open Go.RowKit Go.Proofs.YtnehbhhjdjiieaaW.PrintWords Go.Proofs.Ytnehbhhjdjiieaa.Bs Go.Proofs.Ytnehbhhjdjiieaa.Le

/-- So many ones. -/
def maskN (k : Int) : Nat := 2 ^ (min k.toNat 64) - 1
theorem maskN_nat (k : Nat) (h : k ≤ 64) : maskN (k : Int) = 2 ^ k - 1 := by unfold maskN; rw [Int.toNat_natCast, Nat.min_eq_left h]

theorem mask_mid (k : Int) (h0 : 0 < k) (h : k < 64) : IntKind.u64.wrap (IntKind.u64.wrap (2 ^ k.toNat) - 1) = (maskN k : Int) := by
  obtain ⟨m, rfl⟩ := Int.eq_ofNat_of_zero_le (show 0 ≤ k by omega)
  rw [Int.toNat_natCast, maskN_nat m (by omega)]
  have hp : (2 : Nat) ^ m < 2 ^ 64 := Nat.pow_lt_pow_right (by decide) (by omega)
  have hq : 0 < (2 : Nat) ^ m := Nat.two_pow_pos m
  rw [show ((2 : Int) ^ m) = ((2 ^ m : Nat) : Int) by simp]
  generalize (2 : Nat) ^ m = q at *
  rw [IntKind.wrap_u64, IntKind.wrap_u64]
  omega

set_option maxRecDepth 100000 in
theorem mask_any (k : Int) (w : World) (h0 : -9223372036854775808 ≤ k) (h1 : k ≤ 9223372036854775807) :
    Calls Try.prog 76 #[.int .i64 k] w fun e w' => e = .returned (.int .u64 (maskN k)) ∧ w = w' := by
  by_cases h : k ≤ 0
  · have e : (maskN k : Int) = 0 := by unfold maskN; rw [Int.toNat_of_nonpos h]; rfl
    rw [e]
    go_enter Try.func76, Try.ntmps76
    go_wp2
    go_ret
    exact ⟨rfl, rfl⟩
  · by_cases h64 : 64 ≤ k
    · have e : (maskN k : Int) = 18446744073709551615 := by unfold maskN; rw [Nat.min_eq_right (by omega)]; rfl
      rw [e]
      go_enter Try.func76, Try.ntmps76
      go_wp2
      go_ret
      exact ⟨rfl, rfl⟩
    · go_enter Try.func76, Try.ntmps76
      go_wp2
      go_ret
      exact ⟨ret_int (mask_mid k (by omega) (by omega)), rfl⟩

theorem sized_any (v : Value) (l : List UInt8) (w : World) (hr : RB w v l) :
    Calls Try.prog 85 #[v] w fun e w' => e = .returned (.bool (decide (1 ≤ l.length ∧ l.length ≤ 8))) ∧ w = w' := by
  have hl := hr.len
  obtain ⟨A, c, rfl, hc, hr⟩ := hr
  clear hr
  by_cases h1 : 1 ≤ l.length
  · go_enter Try.func85, Try.ntmps85
    go_wp2
    go_ret
    exact ⟨ret_bool (by rw [decide_eq_decide]; omega), rfl⟩
  · go_enter Try.func85, Try.ntmps85
    go_wp2
    go_ret
    exact ⟨rfl, rfl⟩

set_option maxRecDepth 100000 in
set_option maxHeartbeats 1000000 in
theorem same_any (v u : Value) (l m : List UInt8) (w : World) (hr : RB w v l) (hs : RB w u m) :
    Calls Try.prog 20 #[v, u] w fun e w' => e = .returned (.bool (decide (l = m))) ∧ Below w.heap.size w w' := by
  have hl := hr.len
  have hm := hs.len
  obtain ⟨A, c, rfl, _, hr⟩ := hr
  obtain ⟨A2, c2, rfl, _, hs⟩ := hs
  have HR := Lib.hid hr
  have HS := Lib.hid hs
  clear hr hs
  by_cases hlen : l.length = m.length
  · have hlen' := Lib.hid hlen
    have he : (l.length : Int) = m.length := by omega
    go_enter Try.func20, Try.ntmps20
    go_wp2
    go_loopw [5] (fun v5 wr => ∃ (k : Nat), k ≤ l.length ∧ v5 = .int .i64 k ∧ Hid (∀ j, j < k → l.getD j 0 = m.getD j 0) ∧ Hid (Below w.heap.size w wr)) (fun v5 _ => l.length - (intOf v5).toNat)
    case atStart => exact ⟨0, Nat.zero_le _, rfl, Lib.hid (fun j hj => absurd hj (Nat.not_lt_zero j)), Lib.hid (Below.refl _ _)⟩
    case round =>
      obtain ⟨k, hk, rfl, HK, HB⟩ := hrel
      by_cases hlt : k < l.length
      · obtain ⟨ad, rfl, hc1⟩ := reads_cell (HR.out.below HB.out) k hlt
        have hltm : k < m.length := by rw [← hlen'.out]; exact hlt
        obtain ⟨ad2, rfl, hc2⟩ := reads_cell (HS.out.below HB.out) k hltm
        by_cases hx : l.getD k 0 = m.getD k 0
        · have HX := Lib.hid hx
          rw [hx] at hc1
          generalize m.getD k 0 = y at hc1 hc2
          clear hx
          go_wp2
          repeat (go_quiet (fail); try go_wp2)
          go_roundw
          case rel => exact ⟨k + 1, by omega, by go_num, Lib.hid (fun j hj => by
            by_cases e : j = k
            · rw [e]; exact HX.out
            · exact HK.out j (by omega)), Lib.hid (pw_below_drewN HB.out _)⟩
          case measure => (simp [intOf]) <;> omega
        · have HX : Hid (decide (l = m) = false) := Lib.hid (decide_eq_false (fun h => hx (by rw [h])))
          have hxx : ¬ ((l.getD k 0).toNat : Int) = (m.getD k 0).toNat := by
            intro h
            exact hx (UInt8.toNat_inj.1 (by omega))
          generalize l.getD k 0 = x at hc1 hxx
          generalize m.getD k 0 = y at hc2 hxx
          clear hx
          go_wp2
          repeat (go_quiet (fail); try go_wp2)
          go_ret
          exact ⟨ret_bool HX.out.symm, pw_below_drewN HB.out _⟩
      · have HF : Hid (decide (l = m) = true) := Lib.hid (decide_eq_true (by
          apply List.ext_getElem hlen'.out
          intro j h1 h2
          have h := HK.out j (by omega)
          simpa [List.getD_eq_getElem?_getD, List.getElem?_eq_getElem h1, List.getElem?_eq_getElem h2] using h))
        go_wp2
        go_ret
        exact ⟨ret_bool HF.out.symm, HB.out⟩
  · have hne : ¬ (l.length : Int) = m.length := by omega
    have HF : Hid (decide (l = m) = false) := Lib.hid (decide_eq_false (fun h => hlen (by rw [h])))
    go_enter Try.func20, Try.ntmps20
    go_wp2
    go_ret
    exact ⟨ret_bool HF.out.symm, Below.refl _ _⟩

set_option maxRecDepth 100000 in
set_option maxHeartbeats 1000000 in
theorem get_any (v : Value) (l : List UInt8) (w : World) (hr : RB w v l) (h8 : l.length ≤ 8) :
    Calls Try.prog 65 #[v] w fun e w' => e = .returned (.int .u64 (ofLe l)) ∧ w = w' := by
  have hl := hr.len
  obtain ⟨A, c, rfl, _, hr⟩ := hr
  have HR := Lib.hid hr
  clear hr
  go_enter Try.func65, Try.ntmps65
  go_wp2
  go_loop [3, 4] (fun v3 v4 => ∃ (n : Nat) (i : Int), -1 ≤ i ∧ i < l.length ∧ v3 = .int .u64 n ∧ v4 = .int .i64 i ∧ n < 18446744073709551616 ∧ Hid (n = ofLe (l.drop (i + 1).toNat))) (fun _ v4 => (intOf v4 + 1).toNat)
  case atStart => exact ⟨0, (l.length : Int) - 1, by omega, by omega, rfl, rfl, by omega, Lib.hid (by rw [show ((l.length : Int) - 1 + 1).toNat = l.length by omega, List.drop_length]; rfl)⟩
  case round =>
    obtain ⟨n, i, hi0, hi1, rfl, rfl, hn, HN⟩ := hrel
    by_cases hge : 0 ≤ i
    · obtain ⟨k, rfl⟩ := Int.eq_ofNat_of_zero_le hge
      have hk : k < l.length := by omega
      obtain ⟨ad, rfl, hc⟩ := reads_cell HR.out k hk
      have hby := byte_lt (l.getD k 0)
      have HF : Hid (n * 256 + (l.getD k 0).toNat = ofLe (l.drop k)) := Lib.hid (by
        have h1 := HN.out
        rw [show ((k : Int) + 1).toNat = k + 1 by omega] at h1
        rw [ofLe_drop l k hk, ← h1]; omega)
      have hlt : n * 256 + (l.getD k 0).toNat < 18446744073709551616 := by
        rw [HF.out]
        exact Nat.lt_of_lt_of_le (ofLe_lt _) (pow_eight _ (by rw [List.length_drop]; omega))
      generalize l.getD k 0 = x at hc hby HF hlt
      go_wp2
      go_round
      case rel => exact ⟨n * 256 + x.toNat, (k : Int) - 1, by omega, by omega, by go_num, rfl, hlt, Lib.hid (by rw [show ((k : Int) - 1 + 1).toNat = k by omega]; exact HF.out)⟩
      case measure => (simp [intOf]) <;> omega
    · obtain rfl : i = -1 := by omega
      have HF : Hid (n = ofLe l) := HN
      go_wp2
      go_ret
      exact ⟨ret_int (by rw [← HF.out]), rfl⟩

set_option maxRecDepth 100000 in
set_option maxHeartbeats 1000000 in
theorem reversed_any (v : Value) (l : List UInt8) (w : World) (hr : RB w v l) (hs : l.length ≤ 1099511627776) :
    Calls Try.prog 84 #[v] w (Row w l.reverse) := by
  have hl := hr.len
  obtain ⟨A, c, rfl, _, hr⟩ := hr
  have HR := Lib.hid hr
  clear hr
  go_enter Try.func84, Try.ntmps84
  go_wp2
  go_loopw [3, 4] (fun v3 v4 wr => ∃ (i : Int), -1 ≤ i ∧ i < l.length ∧ v4 = .int .i64 i ∧ Hid (OB w.heap.size wr v3 (l.drop (i + 1).toNat).reverse) ∧ Hid (Below w.heap.size w wr)) (fun _ v4 _ => (intOf v4 + 1).toNat)
  case atStart => exact ⟨(l.length : Int) - 1, by omega, by omega, rfl, Lib.hid (by rw [show ((l.length : Int) - 1 + 1).toNat = l.length by omega, List.drop_length]; exact OB.nil _ _), Lib.hid (Below.refl _ _)⟩
  case round =>
    obtain ⟨i, hi0, hi1, rfl, HO, HB⟩ := hrel
    by_cases hge : 0 ≤ i
    · obtain ⟨k, rfl⟩ := Int.eq_ofNat_of_zero_le hge
      have hk : k < l.length := by omega
      obtain ⟨ad, rfl, hc⟩ := reads_cell (HR.out.below HB.out) k hk
      have hby := byte_lt (l.getD k 0)
      have HF : Hid ((l.drop (k + 1)).reverse ++ [UInt8.ofNat (((l.getD k 0).toNat : Int)).toNat] = (l.drop k).reverse) := Lib.hid (by
        rw [reverse_snoc l k hk, Int.toNat_natCast]; simp)
      have HO2 : Hid (OB w.heap.size wr u3 (l.drop (k + 1)).reverse) := HO
      have HLN : Hid ((l.drop (k + 1)).reverse.length + 1 ≤ 140737488355328) := Lib.hid (by rw [List.length_reverse, List.length_drop]; omega)
      generalize (l.getD k 0).toNat = x at hc hby HF
      generalize (l.drop (k + 1)).reverse = R at HF HO2 HLN
      go_wp2_with (first | ((with_reducible refine is_builtin (b := .append) (xs := #[.tmp 12, .tmp 17]) rfl ?_); refine append_byte (w0 := w) w.heap.size rfl (.tmp 12) (.tmp 17) rfl u3 R (x : Int) (by omega) hby rfl rfl ?aO ?aB ?aS ?aL ?_; (case aO => exact HO2.out); (case aB => exact HB.out); (case aS => exact HB.out.size); (case aL => exact HLN.out); intro v1 w1 ho hb1 _ _; have HO1 := Lib.hid ho; have HB1 := Lib.hid hb1; clear ho hb1))
      go_roundw
      case rel => exact ⟨(k : Int) - 1, by omega, by omega, rfl, Lib.hid (by rw [show ((k : Int) - 1 + 1).toNat = k by omega, ← HF.out]; exact HO1.out), HB1⟩
      case measure => (simp [intOf]) <;> omega
    · obtain rfl : i = -1 := by omega
      have HF : Hid (OB w.heap.size wr u3 l.reverse) := HO
      go_wp2
      go_ret
      exact ⟨_, rfl, HF.out, HB.out⟩

/-- 'n | x << j' where n has no more than j bits. -/
theorem or_high (n x k : Nat) (hk : k < 8) (hn : n < 256 ^ k) (hx : x < 256) : bits .or .u64 (n : Int) ((256 ^ k * x : Nat) : Int) = ((n + 256 ^ k * x : Nat) : Int) := by
  have hp : 256 ^ (k + 1) ≤ 256 ^ 8 := pow_le (by omega)
  have e8 : (256 : Nat) ^ 8 = 18446744073709551616 := by decide
  have hpos : 0 < 256 ^ k := Nat.pow_pos (by decide)
  have hm : 256 ^ k * x < 256 ^ (k + 1) := by
    rw [Nat.pow_succ]; exact Nat.mul_lt_mul_of_pos_left hx hpos
  have hle : 256 ^ k ≤ 256 ^ 8 := pow_le (by omega)
  rw [u64_or_nat n (256 ^ k * x) (by omega) (by omega), Nat.or_comm]
  rw [nat_join (8 * k) (256 ^ k * x) n (by rw [two_pow]; exact Nat.mul_mod_right _ _) (by rw [two_pow]; exact hn), Nat.add_comm]

theorem or_walk (n x k : Nat) (hk : k < 8) (hn : n < 256 ^ k) (hx : x < 256) : bits .or .u64 (n : Int) (IntKind.u64.wrap ((x : Int) * 2 ^ (8 * k))) = ((n + 256 ^ k * x : Nat) : Int) := by
  rw [← or_high n x k hk hn hx]
  congr 1
  have hp : 256 ^ (k + 1) ≤ 256 ^ 8 := pow_le (by omega)
  have e8 : (256 : Nat) ^ 8 = 18446744073709551616 := by decide
  have hpos : 0 < 256 ^ k := Nat.pow_pos (by decide)
  have hm : 256 ^ k * x < 256 ^ (k + 1) := by
    rw [Nat.pow_succ]; exact Nat.mul_lt_mul_of_pos_left hx hpos
  have e : (x : Int) * 2 ^ (8 * k) = ((256 ^ k * x : Nat) : Int) := by
    rw [← two_pow]; simp [Int.mul_comm]
  rw [e]
  generalize 256 ^ k * x = m at *
  rw [IntKind.wrap_u64]
  omega

set_option maxRecDepth 100000 in
set_option maxHeartbeats 1000000 in
theorem ofLittle_bad (v : Value) (l : List UInt8) (w : World) (hr : RB w v l) (h : ¬ (1 ≤ l.length ∧ l.length ≤ 8)) :
    Calls Try.prog 78 #[v] w fun e w' => e = .returned (.tuple #[.int .u64 0, .int .i64 1]) ∧ w = w' := by
  have HR := Lib.hid hr
  clear hr
  go_enter Try.func78, Try.ntmps78
  go_wp2_with fail
  refine (sized_any v l _ HR.out).mono ?_
  rintro e w' ⟨rfl, rfl⟩
  rw [decide_eq_false h]
  go_wp2_with fail
  go_ret2
  exact ⟨rfl, rfl⟩

set_option maxRecDepth 100000 in
set_option maxHeartbeats 1000000 in
theorem ofLittle_any (v : Value) (l : List UInt8) (w : World) (hr : RB w v l) (h1 : 1 ≤ l.length) (h8 : l.length ≤ 8) :
    Calls Try.prog 78 #[v] w fun e w' => e = .returned (.tuple #[.int .u64 (ofLe l), .int .i64 0]) ∧ w = w' := by
  have hl := hr.len
  have HR := Lib.hid hr
  obtain ⟨A, c, rfl, _, hr⟩ := hr
  have HRR := Lib.hid hr
  clear hr
  go_enter Try.func78, Try.ntmps78
  go_wp2_with fail
  refine (sized_any _ l _ HR.out).mono ?_
  rintro e w' ⟨rfl, rfl⟩
  rw [decide_eq_true (show 1 ≤ l.length ∧ l.length ≤ 8 from ⟨h1, h8⟩)]
  go_wp2_with fail
  go_loop [4, 12] (fun v4 v12 => ∃ (n k : Nat), k ≤ l.length ∧ v4 = .int .u64 n ∧ v12 = .int .i64 k ∧ Hid (n = ofLe (l.take k))) (fun _ v12 => l.length - (intOf v12).toNat)
  case atStart => exact ⟨0, 0, Nat.zero_le _, rfl, rfl, Lib.hid rfl⟩
  case round =>
    obtain ⟨n, k, hk, rfl, rfl, HN⟩ := hrel
    by_cases hlt : k < l.length
    · obtain ⟨ad, rfl, hc⟩ := reads_cell HRR.out k hlt
      have hby := byte_lt (l.getD k 0)
      have HF : Hid (n + 256 ^ k * (l.getD k 0).toNat = ofLe (l.take (k + 1))) := Lib.hid (by
        rw [take_snoc l k hlt, ofLe_snoc, ← HN.out, List.length_take, Nat.min_eq_left (by omega)])
      have HLT : Hid (n < 256 ^ k) := Lib.hid (by
        have h := ofLe_lt (l.take k)
        rw [List.length_take, Nat.min_eq_left (by omega)] at h
        rw [HN.out]; exact h)
      generalize l.getD k 0 = x at hc hby HF
      go_wp2
      go_round
      case rel => exact ⟨n + 256 ^ k * x.toNat, k + 1, by omega, int_eq (or_walk n x.toNat k (by omega) HLT.out (by omega)), by go_num, HF⟩
      case measure => (simp [intOf]) <;> omega
    · have HF : Hid (ofLe l = n) := Lib.hid (by have h := HN.out; rw [List.take_of_length_le (show l.length ≤ k by omega)] at h; exact h.symm)
      go_wp2
      go_ret2
      exact ⟨ret_two (by rw [HF.out]), rfl⟩

/-- 'n << 8 | x'. -/
theorem shl_or (n x : Nat) (hn : n < 72057594037927936) (hx : x < 256) : bits .or .u64 ((n : Int) * 256) (x : Int) = ((n * 256 + x : Nat) : Int) := by
  rw [show ((n : Int) * 256) = ((n * 256 : Nat) : Int) by omega, u64_or_nat (n * 256) x (by omega) (by omega)]
  rw [nat_join 8 (n * 256) x (by omega) (by omega)]

set_option maxRecDepth 100000 in
set_option maxHeartbeats 1000000 in
theorem ofBig_bad (v : Value) (l : List UInt8) (w : World) (hr : RB w v l) (h : ¬ (1 ≤ l.length ∧ l.length ≤ 8)) :
    Calls Try.prog 82 #[v] w fun e w' => e = .returned (.tuple #[.int .u64 0, .int .i64 1]) ∧ w = w' := by
  have HR := Lib.hid hr
  clear hr
  go_enter Try.func82, Try.ntmps82
  go_wp2_with fail
  refine (sized_any v l _ HR.out).mono ?_
  rintro e w' ⟨rfl, rfl⟩
  rw [decide_eq_false h]
  go_wp2_with fail
  go_ret2
  exact ⟨rfl, rfl⟩

set_option maxRecDepth 100000 in
set_option maxHeartbeats 1000000 in
theorem ofBig_any (v : Value) (l : List UInt8) (w : World) (hr : RB w v l) (h1 : 1 ≤ l.length) (h8 : l.length ≤ 8) :
    Calls Try.prog 82 #[v] w fun e w' => e = .returned (.tuple #[.int .u64 (ofLe l.reverse), .int .i64 0]) ∧ w = w' := by
  have hl := hr.len
  have HR := Lib.hid hr
  obtain ⟨A, c, rfl, _, hr⟩ := hr
  have HRR := Lib.hid hr
  clear hr
  go_enter Try.func82, Try.ntmps82
  go_wp2_with fail
  refine (sized_any _ l _ HR.out).mono ?_
  rintro e w' ⟨rfl, rfl⟩
  rw [decide_eq_true (show 1 ≤ l.length ∧ l.length ≤ 8 from ⟨h1, h8⟩)]
  go_wp2_with fail
  go_loop [4, 12] (fun v4 v12 => ∃ (n k : Nat), k ≤ l.length ∧ v4 = .int .u64 n ∧ v12 = .int .i64 k ∧ Hid (n = ofLe (l.take k).reverse)) (fun _ v12 => l.length - (intOf v12).toNat)
  case atStart => exact ⟨0, 0, Nat.zero_le _, rfl, rfl, Lib.hid rfl⟩
  case round =>
    obtain ⟨n, k, hk, rfl, rfl, HN⟩ := hrel
    by_cases hlt : k < l.length
    · obtain ⟨ad, rfl, hc⟩ := reads_cell HRR.out k hlt
      have hby := byte_lt (l.getD k 0)
      have HF : Hid (n * 256 + (l.getD k 0).toNat = ofLe (l.take (k + 1)).reverse) := Lib.hid (by
        rw [take_snoc l k hlt, List.reverse_append, List.reverse_singleton, List.singleton_append, ofLe, ← HN.out]; omega)
      have hn : n < 72057594037927936 := by
        have h := ofLe_lt (l.take k).reverse
        rw [List.length_reverse, List.length_take, Nat.min_eq_left (by omega)] at h
        rw [HN.out]
        exact Nat.lt_of_lt_of_le h (Nat.le_trans (pow_le (show k ≤ 7 by omega)) (by decide))
      generalize l.getD k 0 = x at hc hby HF
      go_wp2
      go_round
      case rel => exact ⟨n * 256 + x.toNat, k + 1, by omega, int_eq (shl_or n x.toNat hn (by omega)), by go_num, HF⟩
      case measure => (simp [intOf]) <;> omega
    · have HF : Hid (ofLe l.reverse = n) := Lib.hid (by have h := HN.out; rw [List.take_of_length_le (show l.length ≤ k by omega)] at h; exact h.symm)
      go_wp2
      go_ret2
      exact ⟨ret_two (by rw [HF.out]), rfl⟩

/-- 256 to the power of a number. -/
def pw (k : Nat) : Nat := 256 ^ k
theorem pw_pos (k : Nat) : 0 < pw k := Nat.pow_pos (by decide)
theorem pw_le (k : Nat) (h : k ≤ 7) : pw k ≤ 72057594037927936 := Nat.le_trans (pow_le h) (by decide)

set_option maxRecDepth 100000 in
theorem power_any (k : Nat) (w : World) (h : k ≤ 7) :
    Calls Try.prog 80 #[.int .i64 k] w fun e w' => e = .returned (.int .u64 (pw k : Nat)) ∧ w = w' := by
  go_enter Try.func80, Try.ntmps80
  go_wp2
  go_loop [3, 4] (fun v3 v4 => ∃ (n i : Nat), i ≤ k ∧ v3 = .int .u64 n ∧ v4 = .int .i64 i ∧ Hid (n = 256 ^ i)) (fun _ v4 => k - (intOf v4).toNat)
  case atStart => exact ⟨1, 0, Nat.zero_le _, rfl, rfl, Lib.hid rfl⟩
  case round =>
    obtain ⟨n, i, hi, rfl, rfl, HN⟩ := hrel
    by_cases hlt : i < k
    · have HF : Hid (n * 256 = 256 ^ (i + 1)) := Lib.hid (by rw [HN.out, Nat.pow_succ])
      have hn : n < 72057594037927936 := by
        rw [HN.out]
        exact Nat.lt_of_le_of_lt (pow_le (show i ≤ 6 by omega)) (by decide)
      go_wp2
      go_round
      case rel => exact ⟨n * 256, i + 1, by omega, by go_num, by go_num, HF⟩
      case measure => (simp [intOf]) <;> omega
    · have HF : Hid (pw k = n) := Lib.hid (by rw [HN.out, show i = k by omega]; rfl)
      go_wp2
      go_ret
      exact ⟨ret_int (by rw [HF.out]), rfl⟩

/-- What Put, Little and Big hand back: a row and 0. -/
def RowTup (w : World) (l : List UInt8) (e : Ending) (w' : World) : Prop := ∃ v, e = .returned (.tuple #[v, .int .i64 0]) ∧ OB w.heap.size w' v l ∧ Below w.heap.size w w'

set_option maxRecDepth 100000 in
theorem put_arg (n : Nat) (s : Int) (w : World) (hn : n < 18446744073709551616) (h0 : -9223372036854775808 ≤ s) (h1 : s ≤ 9223372036854775807) (h : s < 1 ∨ 8 < s) :
    Calls Try.prog 64 #[.int .u64 n, .int .i64 s] w fun e w' => e = .returned (.tuple #[.slice none 0 0, .int .i64 1]) ∧ w = w' := by
  rcases h with h | h
  · go_enter Try.func64, Try.ntmps64
    go_wp2_with fail
    go_ret2
    exact ⟨rfl, rfl⟩
  · go_enter Try.func64, Try.ntmps64
    go_wp2_with fail
    go_ret2
    exact ⟨rfl, rfl⟩

set_option maxRecDepth 100000 in
theorem put_range (n s : Nat) (w : World) (hn : n < 18446744073709551616) (h1 : 1 ≤ s) (h8 : s < 8) (h : pw s ≤ n) :
    Calls Try.prog 64 #[.int .u64 n, .int .i64 s] w fun e w' => e = .returned (.tuple #[.slice none 0 0, .int .i64 6]) ∧ w = w' := by
  go_enter Try.func64, Try.ntmps64
  go_wp2_with fail
  refine (power_any s _ (by omega)).mono ?_
  rintro e w' ⟨rfl, rfl⟩
  go_wp2_with fail
  go_ret2
  exact ⟨rfl, rfl⟩

set_option maxRecDepth 100000 in
set_option maxHeartbeats 2000000 in
theorem put_any (n s : Nat) (w : World) (hn : n < 18446744073709551616) (h1 : 1 ≤ s) (h8 : s ≤ 8) (h : s < 8 → n < pw s) :
    Calls Try.prog 64 #[.int .u64 n, .int .i64 s] w (RowTup w (leB s n)) := by
  by_cases hs : s < 8
  all_goals
    first | (have hh : decide (pw s ≤ n) = false := decide_eq_false (by have := h hs; omega)) | skip
    clear h
    go_enter Try.func64, Try.ntmps64
    go_wp2_with (go_at_call 80; refine (power_any s _ (by omega)).mono ?_; rintro e w' ⟨rfl, rfl⟩)
    go_loopw [6, 7] (fun v6 v7 wr => ∃ (i : Nat), i ≤ s ∧ v7 = .int .i64 i ∧ Hid (OB w.heap.size wr v6 (leB i n)) ∧ Hid (Below w.heap.size w wr)) (fun _ v7 _ => s - (intOf v7).toNat)
    case atStart => exact ⟨0, Nat.zero_le _, rfl, Lib.hid (OB.nil _ _), Lib.hid (Below.refl _ _)⟩
    case round =>
      obtain ⟨i, hi, rfl, HO, HB⟩ := hrel
      by_cases hlt : i < s
      · have hpos := pw_pos i
        have HLN : Hid ((leB i n).length + 1 ≤ 140737488355328) := Lib.hid (by rw [leB_length]; omega)
        obtain ⟨q, hq⟩ : ∃ q : Nat, n / pw i = q := ⟨_, rfl⟩
        have hqn : q ≤ n := by rw [← hq]; exact Nat.div_le_self _ _
        have hdv : IntKind.u64.wrap ((n : Int) / (pw i : Int)) = (q : Int) := by
          rw [← Int.natCast_ediv, hq, IntKind.wrap_u64]; omega
        have HQ := Lib.hid hq
        clear hq
        have HF : Hid (leB i n ++ [UInt8.ofNat ((q : Int) % 256).toNat] = leB (i + 1) n) := Lib.hid (by rw [leB_snoc, ← HQ.out]; rfl)
        go_wp2_with fail
        refine (power_any i _ (by omega)).mono ?_
        rintro e w' ⟨rfl, rfl⟩
        go_wp2_with (first | ((with_reducible refine is_builtin (b := .append) (xs := #[.tmp 27, .tmp 34]) rfl ?_); refine append_byte (w0 := w) w.heap.size rfl (.tmp 27) (.tmp 34) rfl u6 (leB i n) _ ?n0 ?n1 rfl rfl ?aO ?aB ?aS ?aL ?_; (case n0 => omega); (case n1 => omega); (case aO => exact HO.out); (case aB => exact HB.out); (case aS => exact (HB.out).size); (case aL => exact HLN.out); intro v1 w1 ho hb1 _ _; have HO1 := Lib.hid ho; have HB1 := Lib.hid hb1; clear ho hb1))
        go_roundw
        case rel => exact ⟨i + 1, by omega, by go_num, Lib.hid (by rw [← HF.out]; exact HO1.out), HB1⟩
        case measure => (simp [intOf]) <;> omega
      · have HF : Hid (leB i n = leB s n) := Lib.hid (by rw [show i = s by omega])
        go_wp2
        go_ret2
        exact ⟨_, rfl, by rw [← HF.out]; exact HO.out, HB.out⟩

set_option maxRecDepth 100000 in
theorem little_arg (n : Nat) (s : Int) (w : World) (hn : n < 18446744073709551616) (h0 : -9223372036854775808 ≤ s) (h1 : s ≤ 9223372036854775807) (h : s < 1 ∨ 8 < s) :
    Calls Try.prog 58 #[.int .u64 n, .int .i64 s] w fun e w' => e = .returned (.tuple #[.slice none 0 0, .int .i64 1]) ∧ w = w' := by
  rcases h with h | h
  · go_enter Try.func58, Try.ntmps58
    go_wp2_with fail
    go_ret2
    exact ⟨rfl, rfl⟩
  · go_enter Try.func58, Try.ntmps58
    go_wp2_with fail
    go_ret2
    exact ⟨rfl, rfl⟩

theorem shr_walk (n i : Nat) : (n : Int) / 2 ^ (8 * i) % 256 = ((n / 256 ^ i % 256 : Nat) : Int) := by
  rw [← two_pow]; simp
theorem mask_eight (s : Nat) (h : s ≤ 8) : maskN (8 * (s : Int)) = 2 ^ (8 * s) - 1 := by
  rw [show (8 * (s : Int)) = ((8 * s : Nat) : Int) by omega, maskN_nat _ (by omega)]

set_option maxRecDepth 100000 in
theorem little_range (n s : Nat) (w : World) (hn : n < 18446744073709551616) (h1 : 1 ≤ s) (h8 : s < 8) (h : pw s ≤ n) :
    Calls Try.prog 58 #[.int .u64 n, .int .i64 s] w fun e w' => e = .returned (.tuple #[.slice none 0 0, .int .i64 6]) ∧ w = w' := by
  have hne := andNot_ne n (8 * s) (by omega) (by simpa using hn) (by rw [two_pow]; exact h)
  rw [← mask_eight s (by omega)] at hne
  generalize hm : maskN (8 * (s : Int)) = m at hne
  have HM := Lib.hid hm
  clear hm
  go_enter Try.func58, Try.ntmps58
  go_wp2_with fail
  refine (mask_any (8 * (s : Int)) _ (by omega) (by omega)).mono ?_
  rintro e w' ⟨rfl, rfl⟩
  rw [HM.out]
  go_wp2_with fail
  go_ret2
  exact ⟨rfl, rfl⟩

set_option maxRecDepth 100000 in
set_option maxHeartbeats 2000000 in
theorem little_any (n s : Nat) (w : World) (hn : n < 18446744073709551616) (h1 : 1 ≤ s) (h8 : s ≤ 8) (h : s < 8 → n < pw s) :
    Calls Try.prog 58 #[.int .u64 n, .int .i64 s] w (RowTup w (leB s n)) := by
  have hz : bits .andNot .u64 (n : Int) (maskN (8 * (s : Int)) : Int) = 0 := by
    rw [mask_eight s h8]
    refine andNot_zero n (8 * s) (by omega) (by simpa using hn) ?_
    rw [two_pow]
    by_cases hs : s < 8
    · exact h hs
    · rw [show s = 8 by omega]; simpa using hn
  generalize hm : maskN (8 * (s : Int)) = m at hz
  have HM := Lib.hid hm
  clear hm h
  have hmk := make_bytes s (by omega)
  go_enter Try.func58, Try.ntmps58
  go_wp2_with fail
  refine (mask_any (8 * (s : Int)) _ (by omega) (by omega)).mono ?_
  rintro e w' ⟨rfl, rfl⟩
  rw [HM.out]
  go_wp2_with fail
  go_loopw [24] (fun v24 wr => ∃ (i : Nat), i ≤ s ∧ v24 = .int .i64 i ∧ Hid (OB w.heap.size wr (.slice (some ⟨w.heap.size, 0, none⟩) s s) (fillB s i n)) ∧ Hid (Below w.heap.size w wr)) (fun v24 _ => s - (intOf v24).toNat)
  case atStart => exact ⟨0, Nat.zero_le _, rfl, Lib.hid (by rw [fillB_zero]; exact OB.made w w.heap.size s (Nat.le_refl _) (by omega)), Lib.hid (below_alloc (Below.refl _ _) _)⟩
  case round =>
    obtain ⟨i, hi, rfl, HO, HB⟩ := hrel
    by_cases hlt : i < s
    · obtain ⟨hc, hf⟩ := HO.out.at_ i (by rw [fillB_length _ _ _ hi]; exact hlt)
      have HS := Lib.hid (HO.out.store i ((n : Int) / 2 ^ (8 * i) % 256) (by omega) (by omega))
      have HF : Hid ((fillB s i n).set i (UInt8.ofNat ((n : Int) / 2 ^ (8 * i) % 256).toNat) = fillB s (i + 1) n) := Lib.hid (by rw [shr_walk, Int.toNat_natCast]; exact fill_step s i n hlt)
      go_wp2
      go_roundw
      case rel => exact ⟨i + 1, by omega, by go_num, Lib.hid (by rw [← HF.out]; exact HS.out), Lib.hid (HB.out.setCell (p := ⟨w.heap.size, i, none⟩) (Nat.le_refl _) _)⟩
      case measure => (simp [intOf]) <;> omega
    · have HF : Hid (fillB s i n = leB s n) := Lib.hid (by rw [show i = s by omega, fillB_all])
      go_wp2
      go_ret2
      exact ⟨_, rfl, by rw [← HF.out]; exact HO.out, HB.out⟩

/-- A row of the call's own whose ends are exchanged up to place i. -/
def Half (l L : List UInt8) (i : Nat) : Prop := L.length = l.length ∧ ∀ k, k < l.length → L.getD k 0 = if k < i ∨ l.length - i ≤ k then l.getD (l.length - 1 - k) 0 else l.getD k 0
theorem Half.start (l : List UInt8) : Half l l 0 := ⟨rfl, fun k hk => by rw [if_neg (by omega)]⟩
theorem getD_set (L : List UInt8) (i k : Nat) (x : UInt8) (h : k < L.length) : (L.set i x).getD k 0 = if k = i then x else L.getD k 0 := by
  by_cases e : k = i
  · subst e
    simp [List.getD_eq_getElem?_getD, List.getElem?_set_self h]
  · rw [if_neg e]
    simp [List.getD_eq_getElem?_getD, List.getElem?_set_ne (fun h => e h.symm)]
theorem Half.step {l L : List UInt8} {i : Nat} (h : Half l L i) (hi : i + 1 < l.length - i) :
    Half l ((L.set i (L.getD (l.length - 1 - i) 0)).set (l.length - 1 - i) (L.getD i 0)) (i + 1) := by
  refine ⟨by rw [List.length_set, List.length_set]; exact h.1, fun k hk => ?_⟩
  have hL := h.1
  rw [getD_set _ _ _ _ (by rw [List.length_set]; omega), getD_set _ _ _ _ (by omega)]
  by_cases h1 : k = l.length - 1 - i
  · rw [if_pos h1, if_pos (by omega), h.2 i (by omega), if_neg (by omega)]
    congr 1; omega
  · rw [if_neg h1]
    by_cases h2 : k = i
    · rw [if_pos h2, if_pos (by omega), h.2 _ (by omega), if_neg (by omega)]
      congr 1; omega
    · rw [if_neg h2, h.2 k hk]
      by_cases h3 : k < i ∨ l.length - i ≤ k
      · rw [if_pos h3, if_pos (by omega)]
      · rw [if_neg h3, if_neg (by omega)]
theorem Half.done {l L : List UInt8} {i : Nat} (h : Half l L i) (hi : l.length - 1 - i ≤ i) : L = l.reverse := by
  apply List.ext_getElem
  · rw [List.length_reverse]; exact h.1
  · intro k h1 h2
    have hL := h.1
    have hk : k < l.length := by omega
    have h3 := h.2 k hk
    rw [List.getElem_reverse]
    have e1 : L.getD k 0 = L[k] := by simp [List.getD_eq_getElem?_getD, List.getElem?_eq_getElem h1]
    have e2 : l.getD (l.length - 1 - k) 0 = l[l.length - 1 - k] := by simp [List.getD_eq_getElem?_getD, List.getElem?_eq_getElem (show l.length - 1 - k < l.length by omega)]
    rw [e1] at h3
    by_cases h4 : k < i ∨ l.length - i ≤ k
    · rw [if_pos h4, e2] at h3; exact h3
    · rw [if_neg h4] at h3
      rw [h3, ← e2]
      congr 1; omega

/-- A word whose bits are turned. -/
def rot (n k : Nat) : Nat := n * 2 ^ k % 4294967296 + n / 2 ^ (32 - k)
theorem rot_or (n k : Nat) (hk : k < 32) (hn : n < 4294967296) : bits .or .u32 ((n * 2 ^ k % 4294967296 : Nat) : Int) ((n / 2 ^ (32 - k) : Nat) : Int) = ((rot n k : Nat) : Int) := by
  have e32 : (4294967296 : Nat) = 2 ^ k * 2 ^ (32 - k) := by rw [← Nat.pow_add, show k + (32 - k) = 32 by omega]
  have hq : n / 2 ^ (32 - k) < 2 ^ k := by
    rw [Nat.div_lt_iff_lt_mul (Nat.two_pow_pos _), ← e32]; exact hn
  have hle : n / 2 ^ (32 - k) ≤ n := Nat.div_le_self _ _
  have hm : (n * 2 ^ k % 4294967296) % 2 ^ k = 0 := by
    rw [e32, Nat.mod_mul_right_mod, Nat.mul_mod_left]
  rw [u32_or_nat _ _ (Nat.mod_lt _ (by decide)) (by omega), nat_join k _ _ hm hq]
  rfl

/-- A bit, counted from the highest one of the first byte on. -/
def bitN (l : List UInt8) (i : Nat) : Nat := (l.getD (i / 8) 0).toNat / 2 ^ (7 - i % 8) % 2
/-- So many ones stand ahead of the first 0. -/
def IsOnes (l : List UInt8) (n : Nat) : Prop := n ≤ 8 * l.length ∧ (∀ j, j < n → bitN l j = 1) ∧ (n < 8 * l.length → bitN l n = 0)
theorem IsOnes.unique {l : List UInt8} {n m : Nat} (h : IsOnes l n) (k : IsOnes l m) : n = m := by
  rcases Nat.lt_trichotomy n m with h1 | h1 | h1
  · have a := h.2.2 (Nat.lt_of_lt_of_le h1 k.1)
    have b := k.2.1 n h1
    omega
  · exact h1
  · have a := k.2.2 (Nat.lt_of_lt_of_le h1 h.1)
    have b := h.2.1 m h1
    omega
theorem bitN_two (l : List UInt8) (i : Nat) : bitN l i < 2 := Nat.mod_lt _ (by decide)
theorem and_one (x b : Nat) (hx : x < 256) : bits .and .u8 ((x : Int) / 2 ^ b) 1 = ((x / 2 ^ b % 2 : Nat) : Int) := by
  have h : x / 2 ^ b ≤ x := Nat.div_le_self _ _
  rw [show ((x : Int) / 2 ^ b) = ((x / 2 ^ b : Nat) : Int) by simp, show (1 : Int) = ((1 : Nat) : Int) from rfl, u8_and_nat _ 1 (by omega) (by decide)]
  rw [nat_mask1]

/-- What Ones hands back. -/
def TellsOnes (w : World) (l : List UInt8) (e : Ending) (w' : World) : Prop := w = w' ∧ ∃ n : Nat, IsOnes l n ∧ e = .returned (.int .i64 n)

end Go.Proofs.Ytnehbhhjdjiieaa.En
