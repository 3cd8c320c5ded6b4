/- The rest of onesum's chapter: the turned bit, the guards, the chapter's examples, and the walks of its three laws. -/
import Derived.Test.YtahnibhcfdamdaaOs
set_option linter.unusedSimpArgs false
set_option linter.unusedVariables false
set_option maxRecDepth 100000
namespace Go.Proofs.Ytahnibhcfdamdaa.Os
open Go.RowKit Go.Proofs.YtahnibhcfdamdaaW.PrintWords Go.Proofs.Ytahnibhcfdamdaa.Bs

/-- What a bit is worth in its byte. -/
def bitW (bit : Nat) : Nat := 128 / 2 ^ (bit % 8)
theorem half_pow (i : Nat) : 128 / 2 ^ i / 2 = 128 / 2 ^ (i + 1) := by rw [Nat.div_div_eq_div_mul, Nat.pow_succ]
theorem bitW_pos (i : Nat) (h : i < 8) : 0 < 128 / 2 ^ i ∧ 128 / 2 ^ i ≤ 128 := by
  have : ∀ i : Fin 8, 0 < 128 / 2 ^ (i : Nat) ∧ 128 / 2 ^ (i : Nat) ≤ 128 := by decide
  exact this ⟨i, h⟩
def turnB (x : UInt8) (n : Nat) : UInt8 := if x.toNat / n % 2 = 1 then UInt8.ofNat (x.toNat - n) else UInt8.ofNat (x.toNat + n)
def turned (l : List UInt8) (bit : Nat) : List UInt8 := l.set (bit / 8) (turnB (l.getD (bit / 8) 0) (bitW bit))
/-- A bit that is not set leaves room for it. -/
theorem room (x n : Nat) (hx : x < 256) (hn : n = 1 ∨ n = 2 ∨ n = 4 ∨ n = 8 ∨ n = 16 ∨ n = 32 ∨ n = 64 ∨ n = 128) : (x / n % 2 = 1 → n ≤ x) ∧ (¬ x / n % 2 = 1 → x + n < 256) := by
  rcases hn with rfl | rfl | rfl | rfl | rfl | rfl | rfl | rfl <;> omega
theorem bitW_cases (i : Nat) (h : i < 8) : 128 / 2 ^ i = 1 ∨ 128 / 2 ^ i = 2 ∨ 128 / 2 ^ i = 4 ∨ 128 / 2 ^ i = 8 ∨ 128 / 2 ^ i = 16 ∨ 128 / 2 ^ i = 32 ∨ 128 / 2 ^ i = 64 ∨ 128 / 2 ^ i = 128 := by
  have : ∀ i : Fin 8, 128 / 2 ^ (i : Nat) = 1 ∨ 128 / 2 ^ (i : Nat) = 2 ∨ 128 / 2 ^ (i : Nat) = 4 ∨ 128 / 2 ^ (i : Nat) = 8 ∨ 128 / 2 ^ (i : Nat) = 16 ∨ 128 / 2 ^ (i : Nat) = 32 ∨ 128 / 2 ^ (i : Nat) = 64 ∨ 128 / 2 ^ (i : Nat) = 128 := by decide
  exact this ⟨i, h⟩

theorem bit_wrap (x n : Nat) (hx : x < 256) : wrap64 ((x : Int) / (n : Int)) = (x : Int) / (n : Int) := by
  have h := Nat.div_le_self x n
  rw [← Int.natCast_ediv]
  generalize x / n = q at *
  unfold wrap64; omega
theorem bit_one (x n : Nat) (h : x / n % 2 = 1) : (((x : Int) / (n : Int)).tmod 2 == 1) = true := by
  rw [← Int.natCast_ediv]
  generalize x / n = q at *
  rw [show Int.tmod (q : Int) 2 = ((q % 2 : Nat) : Int) from rfl, h]; rfl
theorem bit_not (x n : Nat) (h : ¬ x / n % 2 = 1) : (((x : Int) / (n : Int)).tmod 2 == 1) = false := by
  rw [← Int.natCast_ediv]
  generalize x / n = q at *
  rw [show Int.tmod (q : Int) 2 = ((q % 2 : Nat) : Int) from rfl, show q % 2 = 0 by omega]; rfl

set_option maxHeartbeats 2000000 in
set_option maxRecDepth 100000 in
theorem turned_any (A : Option Addr) (c : Nat) (l : List UInt8) (bit : Nat) (w : World) (hr : ReadsOf B 0 w A l.length l) (hc : l.length ≤ c) (hs : l.length ≤ 1099511627776) (hb : bit < 8 * l.length) :
    Calls Try.prog 34 #[.slice A l.length c, .int .i64 bit] w (Row w (turned l bit)) := by
  have hl := hr.2.1
  have HR := Lib.hid hr
  have HRB : Hid (RB w (.slice A l.length c) l) := Lib.hid ⟨A, c, rfl, hc, hr⟩
  have HL := Lib.hid hs
  clear hr hs
  go_enter Try.func34, Try.ntmps34
  go_wp2_with (first | ((with_reducible refine is_builtin (b := .append) (xs := #[.tmp 8, .tmp 9]) rfl ?_); refine append_bytes (w0 := w) w.heap.size rfl (.tmp 8) (.tmp 9) rfl (.slice (some ⟨w.heap.size, 0, none⟩) 0 0) (.slice A l.length c) [] l rfl rfl ?aO ?aR ?aB ?aS ?aL ?_; (case aO => exact OB.lit w w.heap.size [] (Nat.le_refl _) (by simp)); (case aR => exact HRB.out.alloc _); (case aB => exact (Below.refl _ _).alloc (Nat.le_refl _) _); (case aS => simp); (case aL => have h3 := HL.out; simp; omega); intro v1 w1 ho hb1 _ _; have HO1 := Lib.hid ho; have HB1 := Lib.hid hb1; clear ho hb1))
  have hp : 0 < l.length := by omega
  obtain ⟨g, cap, rfl, hg, hgl, hcap⟩ := OB.form (l := l) HO1.out hp
  have hmod : Int.tmod (bit : Int) 8 = ((bit % 8 : Nat) : Int) := rfl
  go_loop [6, 7] (fun v6 v7 => ∃ (i n : Nat), i ≤ bit % 8 ∧ v6 = .int .i64 n ∧ v7 = .int .i64 i ∧ 0 < n ∧ n ≤ 128 ∧ Hid (n = 128 / 2 ^ i)) (fun _ v7 => bit % 8 - (intOf v7).toNat)
  case atStart => exact ⟨0, 128, Nat.zero_le _, rfl, rfl, by omega, by omega, Lib.hid (by decide)⟩
  case round =>
    obtain ⟨i, n, hi, rfl, rfl, hn0, hn1, HN⟩ := hrel
    by_cases hlt : i < bit % 8
    · have HF : Hid (n / 2 = 128 / 2 ^ (i + 1)) := Lib.hid (by rw [HN.out]; exact half_pow i)
      have hpos : 0 < n / 2 := by rw [HF.out]; exact (bitW_pos (i + 1) (by omega)).1
      go_wp2
      go_round
      case rel => exact ⟨i + 1, n / 2, by omega, by go_num, by go_num, hpos, by omega, HF⟩
      case measure => simp [intOf]; omega
    · have HW : Hid (n = bitW bit) := Lib.hid (by rw [HN.out]; unfold bitW; rw [show i = bit % 8 by omega])
      have hdiv : bit / 8 < l.length := by omega
      obtain ⟨ad, rfl, hc0⟩ := reads_cell HR.out (bit / 8) hdiv
      have hcell := pw_cell_below HB1.out hc0
      have hown := OB.at_ (l := l) HO1.out (bit / 8) hdiv
      obtain ⟨hown1, hown2⟩ := hown
      have hby := byte_lt (l.getD (bit / 8) 0)
      have HT : Hid (turned l bit = l.set (bit / 8) (turnB (l.getD (bit / 8) 0) n)) := Lib.hid (by rw [HW.out]; rfl)
      have HRM := Lib.hid (room (l.getD (bit / 8) 0).toNat n (l.getD (bit / 8) 0).toNat_lt (by rw [HW.out]; exact bitW_cases _ (by omega)))
      generalize hx : l.getD (bit / 8) 0 = x at hcell hby HT HRM hown1
      clear hx hc0
      have hdv := bit_wrap x.toNat n x.toNat_lt
      by_cases hbit : x.toNat / n % 2 = 1
      · have hle : n ≤ x.toNat := HRM.out.1 hbit
        have ht := bit_one x.toNat n hbit
        have HBIT := Lib.hid hbit
        clear hbit
        go_wp2
        have HB2 := Lib.hid ((HB1.out.setCell (p := ⟨g, bit / 8, none⟩) hg (.int .u8 ((x.toNat : Int) - n))))
        go_ret
        refine ⟨_, rfl, ?_, HB2.out⟩
        have hst := OB.store (l := l) HO1.out (bit / 8) ((x.toNat : Int) - n) (by omega) (by omega)
        rw [HT.out]
        have e : turnB x n = UInt8.ofNat ((x.toNat : Int) - n).toNat := by unfold turnB; rw [if_pos HBIT.out]; congr 1; omega
        rw [e]
        exact hst
      · have hle : x.toNat + n < 256 := HRM.out.2 hbit
        have ht := bit_not x.toNat n hbit
        have HBIT := Lib.hid hbit
        clear hbit
        go_wp2
        have HB2 := Lib.hid ((HB1.out.setCell (p := ⟨g, bit / 8, none⟩) hg (.int .u8 ((x.toNat : Int) + n))))
        go_ret
        refine ⟨_, rfl, ?_, HB2.out⟩
        have hst := OB.store (l := l) HO1.out (bit / 8) ((x.toNat : Int) + n) (by omega) (by omega)
        rw [HT.out]
        have e : turnB x n = UInt8.ofNat ((x.toNat : Int) + n).toNat := by unfold turnB; rw [if_neg HBIT.out]; congr 1
        rw [e]
        exact hst

/-- Parts that are few, and short. -/
def Few (ls : List (List UInt8)) : Prop := ls.length ≤ 20 ∧ ∀ j, j < ls.length → (ls.getD j []).length ≤ 200
theorem Few.flat {ls : List (List UInt8)} (h : Few ls) : ls.flatten.length ≤ 4000 := by
  have key : ∀ k, k ≤ ls.length → (ls.take k).flatten.length ≤ 200 * k := by
    intro k
    induction k with
    | zero => intro _; simp
    | succ k ih =>
      intro hk
      have h1 := ih (by omega)
      have h2 := h.2 k (by omega)
      rw [flat_snoc ls k (by omega), List.length_append]
      omega
  have h1 := key ls.length (Nat.le_refl _)
  rw [List.take_length] at h1
  have h2 := h.1
  omega

/-- The guard tells true just where the parts are few, and short. -/
def TellsFew (w : World) (ls : List (List UInt8)) (e : Ending) (w' : World) : Prop := w = w' ∧ (e = .returned (.bool true) ∧ Few ls ∨ e = .returned (.bool false) ∧ ¬ Few ls)

theorem example1 : sum16 [[255, 255, 0, 1]].flatten = 1 := by decide
/-- The four bytes of two words. -/
def four (x y : Nat) : List UInt8 := [UInt8.ofNat (x / 256), UInt8.ofNat (x % 256), UInt8.ofNat (y / 256), UInt8.ofNat (y % 256)]
theorem four_cells (x y : Nat) (hx : x < 65536) (hy : y < 65536) : (encs B (four x y)).toArray = #[.int .u8 ((x : Int) / 256), .int .u8 ((x : Int) % 256), .int .u8 ((y : Int) / 256), .int .u8 ((y : Int) % 256)] := by
  rw [← B_hi x hx, ← B_lo x, ← B_hi y hy, ← B_lo y]; rfl
theorem four_sum (x y : Nat) (hx : x < 65536) (hy : y < 65536) : sum16 (four x y) = fold16 (x + y) := by
  unfold sum16 sumW four
  simp only [sumFrom, Bool.not_true, Bool.not_false, if_true]
  rw [toNat_ofNat _ (show x / 256 < 256 by omega), toNat_ofNat _ (show x % 256 < 256 by omega), toNat_ofNat _ (show y / 256 < 256 by omega), toNat_ofNat _ (show y % 256 < 256 by omega)]
  congr 1
  simp only [Bool.false_eq_true, if_false]
  omega

/-- What a place counts. -/
def wt (i : Nat) : Nat := if i % 2 = 0 then 256 else 1
theorem sumFrom_set (l : List UInt8) : ∀ (p : Bool) (i : Nat) (x : UInt8), i < l.length →
    sumFrom p (l.set i x) + (if (i % 2 = 0) = (p = true) then 256 else 1) * (l.getD i 0).toNat = sumFrom p l + (if (i % 2 = 0) = (p = true) then 256 else 1) * x.toNat := by
  induction l with
  | nil => intro p i x h; exact absurd h (Nat.not_lt_zero i)
  | cons y r ih =>
    intro p i x h
    cases i with
    | zero =>
      cases p
      · simp [sumFrom]; omega
      · simp [sumFrom]; omega
    | succ i =>
      have h1 := ih (!p) i x (by simpa using h)
      have e : (if ((i + 1) % 2 = 0) = (p = true) then 256 else 1) = (if (i % 2 = 0) = ((!p) = true) then 256 else 1) := by
        cases p
        · by_cases hi : i % 2 = 0
          · simp [hi, show (i + 1) % 2 = 1 by omega]
          · simp [show i % 2 = 1 by omega, show (i + 1) % 2 = 0 by omega]
        · by_cases hi : i % 2 = 0
          · simp [hi, show (i + 1) % 2 = 1 by omega]
          · simp [show i % 2 = 1 by omega, show (i + 1) % 2 = 0 by omega]
      rw [e, List.set_cons_succ, sumFrom, sumFrom, List.getD_cons_succ]
      omega
theorem sumW_set (l : List UInt8) (i : Nat) (x : UInt8) (h : i < l.length) : sumW (l.set i x) + wt i * (l.getD i 0).toNat = sumW l + wt i * x.toNat := by
  have h1 := sumFrom_set l true i x h
  have e : (if (i % 2 = 0) = (true = true) then 256 else 1) = wt i := by unfold wt; by_cases hi : i % 2 = 0 <;> simp [hi]
  rw [e] at h1
  exact h1
theorem getD_set_self (l : List UInt8) (i : Nat) (x : UInt8) (h : i < l.length) : (l.set i x).getD i 0 = x := by
  simp [List.getD_eq_getElem?_getD, List.getElem?_set_self h]
theorem getD_set_other (l : List UInt8) (i j : Nat) (x : UInt8) (h : i ≠ j) : (l.set i x).getD j 0 = l.getD j 0 := by
  simp [List.getD_eq_getElem?_getD, List.getElem?_set_ne h]

/-- Two bytes of zeros at a word's place; its check there. -/
def blank (l : List UInt8) (k : Nat) : List UInt8 := (l.set (2 * k) 0).set (2 * k + 1) 0
def filled (l : List UInt8) (k n : Nat) : List UInt8 := ((blank l k).set (2 * k) (UInt8.ofNat (n / 256))).set (2 * k + 1) (UInt8.ofNat (n % 256))
theorem blank_length (l : List UInt8) (k : Nat) : (blank l k).length = l.length := by simp [blank]
theorem filled_length (l : List UInt8) (k n : Nat) : (filled l k n).length = l.length := by simp [filled, blank]
theorem filled_sum (l : List UInt8) (k n : Nat) (h : 2 * k + 1 < l.length) (hn : n < 65536) : sumW (filled l k n) = sumW (blank l k) + n := by
  have hb := blank_length l k
  have h1 := sumW_set ((blank l k).set (2 * k) (UInt8.ofNat (n / 256))) (2 * k + 1) (UInt8.ofNat (n % 256)) (by simp [hb]; omega)
  have h2 := sumW_set (blank l k) (2 * k) (UInt8.ofNat (n / 256)) (by omega)
  rw [getD_set_other _ _ _ _ (by omega)] at h1
  have e1 : (blank l k).getD (2 * k + 1) 0 = 0 := by unfold blank; rw [getD_set_self _ _ _ (by simp; omega)]
  have e2 : (blank l k).getD (2 * k) 0 = 0 := by unfold blank; rw [getD_set_other _ _ _ _ (by omega), getD_set_self _ _ _ (by omega)]
  rw [e1, toNat_ofNat _ (by omega)] at h1
  rw [e2, toNat_ofNat _ (by omega)] at h2
  have w1 : wt (2 * k + 1) = 1 := by unfold wt; rw [if_neg (by omega)]
  have w2 : wt (2 * k) = 256 := by unfold wt; rw [if_pos (by omega)]
  rw [w1] at h1
  rw [w2] at h2
  have z : (0 : UInt8).toNat = 0 := rfl
  rw [z] at h1 h2
  unfold filled
  omega
/-- What is checked is good. -/
theorem filled_good (l : List UInt8) (k : Nat) (h : 2 * k + 1 < l.length) : sumW (filled l k (65535 - sum16 (blank l k))) % 65535 = 0 ∧ 0 < sumW (filled l k (65535 - sum16 (blank l k))) ∧ sum16 (filled l k (65535 - sum16 (blank l k))) = 65535 := by
  have hle : sum16 (blank l k) ≤ 65535 := fold16_le _
  have hs := filled_sum l k (65535 - sum16 (blank l k)) h (by omega)
  have he : sum16 (blank l k) = fold16 (sumW (blank l k)) := rfl
  have hg : ∀ n, n % 65535 = 0 → 0 < n → fold16 n = 65535 := by intro n h1 h2; unfold fold16; rw [if_neg (by omega)]; omega
  have ha : sumW (filled l k (65535 - sum16 (blank l k))) % 65535 = 0 ∧ 0 < sumW (filled l k (65535 - sum16 (blank l k))) := by
    rw [hs, he]
    generalize sumW (blank l k) = S
    unfold fold16
    by_cases h0 : S = 0
    · rw [if_pos h0, h0]; decide
    · rw [if_neg h0]; constructor <;> omega
  exact ⟨ha.1, ha.2, hg _ ha.1 ha.2⟩
/-- One bit turned is told. -/
theorem turned_bad (l : List UInt8) (bit : Nat) (hb : bit < 8 * l.length) (h0 : sumW l % 65535 = 0) : sum16 (turned l bit) ≠ 65535 := by
  have hj : bit / 8 < l.length := by omega
  have hs := sumW_set l (bit / 8) (turnB (l.getD (bit / 8) 0) (bitW bit)) hj
  have hc := bitW_cases (bit % 8) (by omega)
  have hx := (l.getD (bit / 8) 0).toNat_lt
  have hr := room (l.getD (bit / 8) 0).toNat (bitW bit) hx hc
  have hw : wt (bit / 8) = 256 ∨ wt (bit / 8) = 1 := by unfold wt; by_cases hi : bit / 8 % 2 = 0 <;> simp [hi]
  have hn : bitW bit = 1 ∨ bitW bit = 2 ∨ bitW bit = 4 ∨ bitW bit = 8 ∨ bitW bit = 16 ∨ bitW bit = 32 ∨ bitW bit = 64 ∨ bitW bit = 128 := hc
  unfold sum16 turned
  generalize hS : sumW (l.set (bit / 8) (turnB (l.getD (bit / 8) 0) (bitW bit))) = S at *
  generalize hy : l.getD (bit / 8) 0 = y at *
  generalize bitW bit = n at *
  generalize wt (bit / 8) = k at *
  have hne : S % 65535 ≠ 0 := by
    by_cases hbit : y.toNat / n % 2 = 1
    · have e : (turnB y n).toNat = y.toNat - n := by unfold turnB; rw [if_pos hbit]; exact toNat_ofNat _ (by omega)
      have hle := hr.1 hbit
      rw [e] at hs
      rcases hw with rfl | rfl <;> omega
    · have hlt := hr.2 hbit
      have e : (turnB y n).toNat = y.toNat + n := by unfold turnB; rw [if_neg hbit]; exact toNat_ofNat _ hlt
      rw [e] at hs
      rcases hw with rfl | rfl <;> omega
  unfold fold16
  by_cases hz : S = 0
  · rw [if_pos hz]; decide
  · rw [if_neg hz]; omega

end Go.Proofs.Ytahnibhcfdamdaa.Os
