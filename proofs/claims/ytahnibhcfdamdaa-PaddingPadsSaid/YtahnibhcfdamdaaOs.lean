/- Package onesum and its reference: the sum of words with its carries brought round, as a plain function of the bytes; each call comes to it. -/
import Derived.Test.YtahnibhcfdamdaaBs
import Derived.WalkKit
import Derived.RowKit3
import Derived.Deep.LoopGhost
import Derived.Deep.QuietTactic
import Derived.BigQuiet
import Derived.Laws.BitsAllLaws
set_option linter.unusedSimpArgs false
set_option linter.unusedVariables false
set_option maxRecDepth 100000
namespace Go.Proofs.Ytahnibhcfdamdaa.Os
open Go.RowKit Go.Proofs.YtahnibhcfdamdaaW.PrintWords Go.Proofs.Ytahnibhcfdamdaa.Bs

/-- A number, its carries brought round: what is congruent to it by 65535, and 0 for 0 alone. -/
def fold16 (n : Nat) : Nat := if n = 0 then 0 else (n - 1) % 65535 + 1
theorem fold16_small (n : Nat) (h : n ≤ 65535) : fold16 n = n := by unfold fold16; split <;> omega
theorem fold16_step (n : Nat) (h : 65535 < n) : fold16 (n / 65536 + n % 65536) = fold16 n := by unfold fold16; split <;> split <;> omega
theorem fold16_le (n : Nat) : fold16 n ≤ 65535 := by unfold fold16; split <;> omega
theorem fold16_fold (a b : Nat) : fold16 (fold16 a + b) = fold16 (a + b) := by
  unfold fold16
  by_cases h : a = 0
  · simp [h]
  · rw [if_neg h, if_neg (by omega), if_neg (by omega)]
    omega

/-- The words' sum, an even place (p) 256-fold. -/
def sumFrom : Bool → List UInt8 → Nat
  | _, [] => 0
  | p, x :: r => (if p then 256 * x.toNat else x.toNat) + sumFrom (!p) r
theorem sumFrom_append (a b : List UInt8) : ∀ p, sumFrom p (a ++ b) = sumFrom p a + sumFrom (if a.length % 2 = 0 then p else !p) b := by
  induction a with
  | nil => intro p; simp [sumFrom]
  | cons x r ih =>
    intro p
    have e : (if (x :: r).length % 2 = 0 then p else !p) = (if r.length % 2 = 0 then !p else !!p) := by
      simp only [List.length_cons, Bool.not_not]
      by_cases h : r.length % 2 = 0
      · rw [if_pos h, if_neg (by omega)]
      · rw [if_neg h, if_pos (by omega)]
    rw [e, List.cons_append, sumFrom, sumFrom, ih, Nat.add_assoc]
def sumW (l : List UInt8) : Nat := sumFrom true l
theorem sumW_snoc (a : List UInt8) (x : UInt8) : sumW (a ++ [x]) = sumW a + (if a.length % 2 = 0 then 256 * x.toNat else x.toNat) := by
  unfold sumW
  rw [sumFrom_append]
  by_cases h : a.length % 2 = 0
  · simp [h, sumFrom]
  · simp [h, sumFrom]
theorem sumFrom_le (a : List UInt8) : ∀ p, sumFrom p a ≤ 65280 * a.length := by
  induction a with
  | nil => intro p; simp [sumFrom]
  | cons x r ih =>
    intro p
    have := ih (!p)
    have := x.toNat_lt
    rw [sumFrom, List.length_cons]
    split <;> omega
theorem sumW_le (a : List UInt8) : sumW a ≤ 65280 * a.length := sumFrom_le a true
def sum16 (l : List UInt8) : Nat := fold16 (sumW l)

theorem fold_any (n : Nat) (w : World) (h1 : n < 18446744073709551616) :
    Calls Try.prog 144 #[.int .u64 n] w fun e w' => e = .returned (.int .u16 (fold16 n)) ∧ w = w' := by
  go_enter Try.func144, Try.ntmps144
  go_wp2
  go_loop [0] (fun v0 => ∃ x : Nat, x < 18446744073709551616 ∧ v0 = .int .u64 x ∧ Hid (fold16 x = fold16 n)) (fun v0 => (intOf v0).toNat)
  case atStart => exact ⟨n, h1, rfl, Lib.hid rfl⟩
  case round =>
    obtain ⟨x, hx, rfl, HX⟩ := hrel
    by_cases hb : 65535 < x
    · have hand : Go.bits .and .u64 (x : Int) 65535 = ((x % 65536 : Nat) : Int) := by
        rw [show (65535 : Int) = ((65535 : Nat) : Int) from rfl, u64_and_nat x 65535 hx (by decide)]
        congr 1
        exact Nat.and_two_pow_sub_one_eq_mod x 16
      have HF : Hid (fold16 (x / 65536 + x % 65536) = fold16 n) := Lib.hid (by rw [fold16_step x hb]; exact HX.out)
      go_wp2
      go_round
      case rel => exact ⟨x / 65536 + x % 65536, by omega, by go_num, HF⟩
      case measure => simp [intOf]; omega
    · have HF : Hid (fold16 n = x) := Lib.hid (by rw [← HX.out]; exact fold16_small x (by omega))
      go_wp2
      go_ret
      exact ⟨ret_int (by rw [HF.out]), rfl⟩

theorem take_snoc (l : List UInt8) (k : Nat) (h : k < l.length) : l.take (k + 1) = l.take k ++ [l.getD k 0] := by
  rw [List.take_succ_eq_append_getElem h]
  simp [List.getD_eq_getElem?_getD, List.getElem?_eq_getElem h]
theorem flat_snoc (ls : List (List UInt8)) (j : Nat) (h : j < ls.length) : (ls.take (j + 1)).flatten = (ls.take j).flatten ++ ls.getD j [] := by
  rw [List.take_succ_eq_append_getElem h, List.flatten_append]
  simp [List.getD_eq_getElem?_getD, List.getElem?_eq_getElem h]
theorem flat_le (ls : List (List UInt8)) (j : Nat) : (ls.take j).flatten.length ≤ ls.flatten.length := by
  conv => rhs; rw [← List.take_append_drop j ls, List.flatten_append, List.length_append]
  omega
theorem flat_at (ls : List (List UInt8)) (j k : Nat) (y : List UInt8) (hy : ls.getD j [] = y) (h : j < ls.length) (hk : k ≤ y.length) : ((ls.take j).flatten ++ y.take k).length ≤ ls.flatten.length := by
  subst hy
  have h1 := flat_le ls (j + 1)
  rw [flat_snoc ls j h, List.length_append] at h1
  rw [List.length_append, List.length_take]
  omega

/-- How far the next byte goes up. -/
def Shf (n : Nat) (s : Int) : Prop := n % 2 = 0 ∧ s = 8 ∨ n % 2 = 1 ∧ s = 0

set_option maxHeartbeats 2000000 in
set_option maxRecDepth 100000 in
theorem of_any (A : Option Addr) (c : Nat) (ls : List (List UInt8)) (w : World) (hr : RBS w A ls) (hs : ls.flatten.length ≤ 1099511627776) :
    Calls Try.prog 130 #[.slice A ls.length c] w fun e w' => e = .returned (.int .u16 (sum16 ls.flatten)) ∧ w = w' := by
  have hl : ls.length ≤ 9223372036854775807 := hr.1
  have HR := Lib.hid hr
  have HL := Lib.hid hs
  clear hr hs
  go_enter Try.func130, Try.ntmps130
  go_wp2
  go_loop [3, 4, 11] (fun v3 v4 v11 => ∃ (n : Nat) (s : Int) (j : Nat), j ≤ ls.length ∧ v3 = .int .u64 n ∧ v4 = .int .u64 s ∧ v11 = .int .i64 j ∧ n < 72057594037927936 ∧ Hid (n = sumW (ls.take j).flatten) ∧ Hid (Shf (ls.take j).flatten.length s)) (fun _ _ v11 => ls.length - (intOf v11).toNat)
  case atStart => exact ⟨0, 8, 0, Nat.zero_le _, rfl, rfl, rfl, by omega, Lib.hid (by simp [sumW, sumFrom]), Lib.hid (.inl ⟨rfl, rfl⟩)⟩
  case round =>
    obtain ⟨n, s, j, hj, rfl, rfl, rfl, hn, HN, HS⟩ := hrel
    by_cases hlt : j < ls.length
    · obtain ⟨ad, u, rfl, hcu, hru⟩ := HR.out.2 j hlt
      generalize hy : ls.getD j [] = y at hru
      have HY := Lib.hid hy
      clear hy
      obtain ⟨A1, c1, rfl, hc1, hr1⟩ := hru
      have hl1 := hr1.2.1
      have H1 := Lib.hid hr1
      clear hr1
      go_wp2
      go_loop [3, 4, 17] (fun v3 v4 v17 => ∃ (n : Nat) (s : Int) (k : Nat), k ≤ y.length ∧ v3 = .int .u64 n ∧ v4 = .int .u64 s ∧ v17 = .int .i64 k ∧ n < 72057594037927936 ∧ Hid (n = sumW ((ls.take j).flatten ++ y.take k)) ∧ Hid (Shf ((ls.take j).flatten ++ y.take k).length s)) (fun _ _ v17 => y.length - (intOf v17).toNat)
      case atStart => exact ⟨n, s, 0, Nat.zero_le _, rfl, rfl, rfl, hn, Lib.hid (by simpa using HN.out), Lib.hid (by simpa using HS.out)⟩
      case round =>
        obtain ⟨m, r, k, hk, rfl, rfl, rfl, hm, HM, HT⟩ := hrel
        by_cases hkl : k < y.length
        · obtain ⟨ad1, rfl, hcell⟩ := reads_cell H1.out k hkl
          have hby := byte_lt (y.getD k 0)
          have HF1 : Hid ((ls.take j).flatten ++ y.take (k + 1) = ((ls.take j).flatten ++ y.take k) ++ [y.getD k 0]) := Lib.hid (by rw [take_snoc _ k hkl, List.append_assoc])
          have HLE := Lib.hid (flat_at ls j (k + 1) y HY.out hlt (by omega))
          have HSL := Lib.hid (sumW_le ((ls.take j).flatten ++ y.take (k + 1)))
          generalize hx : y.getD k 0 = x at hcell hby HF1
          clear hx
          have HSN := Lib.hid (sumW_snoc ((ls.take j).flatten ++ y.take k) x)
          have HLN : Hid (((ls.take j).flatten ++ y.take (k + 1)).length = ((ls.take j).flatten ++ y.take k).length + 1) := Lib.hid (by rw [HF1.out, List.length_append]; rfl)
          rcases HT.out with ⟨hp, rfl⟩ | ⟨hp, rfl⟩
          · have HP := Lib.hid hp
            clear hp
            have HF : Hid (m + x.toNat * 256 = sumW ((ls.take j).flatten ++ y.take (k + 1))) := Lib.hid (by rw [HF1.out, HSN.out, if_pos HP.out, ← HM.out]; omega)
            go_wp2
            go_round
            case rel => exact ⟨m + x.toNat * 256, 0, k + 1, by omega, by go_num, rfl, by go_num, by have h1 := HF.out; have h2 := HSL.out; have h3 := HLE.out; have h4 := HL.out; omega, HF, Lib.hid (.inr ⟨by have h1 := HLN.out; have h2 := HP.out; omega, rfl⟩)⟩
            case measure => simp [intOf]; omega
          · have HP := Lib.hid hp
            clear hp
            have HF : Hid (m + x.toNat = sumW ((ls.take j).flatten ++ y.take (k + 1))) := Lib.hid (by rw [HF1.out, HSN.out, if_neg (by have h1 := HP.out; omega), ← HM.out])
            go_wp2
            go_round
            case rel => exact ⟨m + x.toNat, 8, k + 1, by omega, by go_num, rfl, by go_num, by have h1 := HF.out; have h2 := HSL.out; have h3 := HLE.out; have h4 := HL.out; omega, HF, Lib.hid (.inl ⟨by have h1 := HLN.out; have h2 := HP.out; omega, rfl⟩)⟩
            case measure => simp [intOf]; omega
        · have HF : Hid ((ls.take (j + 1)).flatten = (ls.take j).flatten ++ y.take k) := Lib.hid (by rw [flat_snoc ls j hlt, HY.out, List.take_of_length_le (show y.length ≤ k by omega)])
          go_wp2
          go_round
          case rel => exact ⟨m, r, j + 1, by omega, rfl, rfl, by go_num, hm, Lib.hid (by rw [HF.out]; exact HM.out), Lib.hid (by rw [HF.out]; exact HT.out)⟩
          case measure => simp [intOf]; omega
    · have HF : Hid (fold16 n = sum16 ls.flatten) := Lib.hid (by have h1 := HN.out; rw [List.take_of_length_le (show ls.length ≤ j by omega)] at h1; rw [h1]; rfl)
      go_wp2_with fail
      refine (fold_any n _ (by omega)).mono ?_
      rintro e w' ⟨rfl, rfl⟩
      go_wp2_with fail
      go_ret
      exact ⟨ret_int (by rw [HF.out]), rfl⟩

theorem not16 (s : Nat) (h : s ≤ 65535) : Go.bits .xor .u16 IntKind.u16.max (s : Int) = ((65535 - s : Nat) : Int) := by
  show IntKind.u16.wrap ((BitVec.ofInt 16 IntKind.u16.max ^^^ BitVec.ofInt 16 (s : Int)).toNat : Int) = _
  rw [show BitVec.ofInt 16 IntKind.u16.max = BitVec.allOnes 16 from by decide, BitVec.allOnes_xor, BitVec.toNat_not, ofInt_u16 s (by omega), IntKind.wrap_u16]
  omega

theorem check_any (A : Option Addr) (c : Nat) (ls : List (List UInt8)) (w : World) (hr : RBS w A ls) (hs : ls.flatten.length ≤ 1099511627776) :
    Calls Try.prog 90 #[.slice A ls.length c] w fun e w' => e = .returned (.int .u16 (65535 - sum16 ls.flatten : Nat)) ∧ w = w' := by
  have hl := hr.1
  have HR := Lib.hid hr
  have HS := Lib.hid hs
  clear hr hs
  have hle := fold16_le (sumW ls.flatten)
  go_enter Try.func90, Try.ntmps90
  go_wp2_with fail
  refine (of_any A c ls _ HR.out HS.out).mono ?_
  rintro e w' ⟨rfl, rfl⟩
  go_wp2_with fail
  go_ret
  exact ⟨ret_int (not16 _ hle), rfl⟩

theorem good_any (A : Option Addr) (c : Nat) (ls : List (List UInt8)) (w : World) (hr : RBS w A ls) (hs : ls.flatten.length ≤ 1099511627776) :
    Calls Try.prog 101 #[.slice A ls.length c] w fun e w' => e = .returned (.bool (((sum16 ls.flatten : Nat) : Int) == 65535)) ∧ w = w' := by
  have hl := hr.1
  have HR := Lib.hid hr
  have HS := Lib.hid hs
  clear hr hs
  go_enter Try.func101, Try.ntmps101
  go_wp2_with fail
  refine (of_any A c ls _ HR.out HS.out).mono ?_
  rintro e w' ⟨rfl, rfl⟩
  go_wp2_with fail
  go_ret
  exact ⟨rfl, rfl⟩

set_option maxHeartbeats 1000000 in
set_option maxRecDepth 100000 in
theorem refOf_any (A : Option Addr) (c : Nat) (l : List UInt8) (w : World) (hr : ReadsOf B 0 w A l.length l) (hs : l.length ≤ 1099511627776) :
    Calls Try.prog 105 #[.slice A l.length c] w fun e w' => e = .returned (.int .i64 (sum16 l)) ∧ w = w' := by
  have hl := hr.2.1
  have HR := Lib.hid hr
  have HL := Lib.hid hs
  clear hr hs
  go_enter Try.func105, Try.ntmps105
  go_wp2
  go_loop [3, 4] (fun v3 v4 => ∃ (n k : Nat), k ≤ l.length ∧ v3 = .int .i64 n ∧ v4 = .int .i64 k ∧ n < 72057594037927936 ∧ Hid (n = sumW (l.take k))) (fun _ v4 => l.length - (intOf v4).toNat)
  case atStart => exact ⟨0, 0, Nat.zero_le _, rfl, rfl, by omega, Lib.hid (by simp [sumW, sumFrom])⟩
  case round =>
    obtain ⟨n, k, hk, rfl, rfl, hn, HN⟩ := hrel
    by_cases hlt : k < l.length
    · obtain ⟨ad, rfl, hcell⟩ := reads_cell HR.out k hlt
      have hby := byte_lt (l.getD k 0)
      have HF1 := Lib.hid (take_snoc l k hlt)
      have HSL := Lib.hid (sumW_le (l.take (k + 1)))
      have HLE : Hid ((l.take (k + 1)).length ≤ l.length) := Lib.hid (by rw [List.length_take]; omega)
      generalize hx : l.getD k 0 = x at hcell hby HF1
      clear hx
      have HSN := Lib.hid (sumW_snoc (l.take k) x)
      have HLN : Hid ((l.take k).length = k) := Lib.hid (by rw [List.length_take]; omega)
      have hmod : Int.tmod (k : Int) 2 = ((k % 2 : Nat) : Int) := rfl
      by_cases hp : k % 2 = 0
      · have HF : Hid (n + 256 * x.toNat = sumW (l.take (k + 1))) := Lib.hid (by rw [HF1.out, HSN.out, HLN.out, if_pos hp, ← HN.out])
        have ht : (((k % 2 : Nat) : Int) == 0) = true := by rw [hp]; rfl
        have HP := Lib.hid hp
        clear hp
        go_wp2
        go_round
        case rel => exact ⟨n + 256 * x.toNat, k + 1, by omega, by go_num, by go_num, by have h1 := HF.out; have h2 := HSL.out; have h3 := HLE.out; have h4 := HL.out; omega, HF⟩
        case measure => simp [intOf]; omega
      · have HF : Hid (n + x.toNat = sumW (l.take (k + 1))) := Lib.hid (by rw [HF1.out, HSN.out, HLN.out, if_neg hp, ← HN.out])
        have ht : (((k % 2 : Nat) : Int) == 0) = false := by rw [show k % 2 = 1 by omega]; rfl
        have HP := Lib.hid hp
        clear hp
        go_wp2
        go_round
        case rel => exact ⟨n + x.toNat, k + 1, by omega, by go_num, by go_num, by have h1 := HF.out; have h2 := HSL.out; have h3 := HLE.out; have h4 := HL.out; omega, HF⟩
        case measure => simp [intOf]; omega
    · have HF : Hid (fold16 n = sum16 l) := Lib.hid (by have h1 := HN.out; rw [List.take_of_length_le (show l.length ≤ k by omega)] at h1; rw [h1]; rfl)
      go_wp2
      go_loop [3] (fun v3 => ∃ m : Nat, m < 72057594037927936 ∧ v3 = .int .i64 m ∧ Hid (fold16 m = sum16 l)) (fun v3 => (intOf v3).toNat)
      case atStart => exact ⟨n, hn, rfl, HF⟩
      case round =>
        obtain ⟨m, hm, rfl, HM⟩ := hrel
        by_cases hb : 65535 < m
        · have HG : Hid (fold16 (m / 65536 + m % 65536) = sum16 l) := Lib.hid (by rw [fold16_step m hb]; exact HM.out)
          go_wp2
          go_round
          case rel => exact ⟨m / 65536 + m % 65536, by omega, by go_num, HG⟩
          case measure => simp [intOf]; omega
        · have HG : Hid (sum16 l = m) := Lib.hid (by rw [← HM.out]; exact fold16_small m (by omega))
          go_wp2
          go_ret
          exact ⟨ret_int (by rw [HG.out]), rfl⟩

theorem refCheck_any (A : Option Addr) (c : Nat) (l : List UInt8) (w : World) (hr : ReadsOf B 0 w A l.length l) (hs : l.length ≤ 1099511627776) :
    Calls Try.prog 107 #[.slice A l.length c] w fun e w' => e = .returned (.int .i64 (65535 - sum16 l : Nat)) ∧ w = w' := by
  have hl := hr.2.1
  have HR := Lib.hid hr
  have HS := Lib.hid hs
  clear hr hs
  have hle := fold16_le (sumW l)
  change sum16 l ≤ 65535 at hle
  go_enter Try.func107, Try.ntmps107
  go_wp2_with fail
  refine (refOf_any A c l _ HR.out HS.out).mono ?_
  rintro e w' ⟨rfl, rfl⟩
  go_wp2_with fail
  go_ret
  exact ⟨ret_int (by omega), rfl⟩

end Go.Proofs.Ytahnibhcfdamdaa.Os
