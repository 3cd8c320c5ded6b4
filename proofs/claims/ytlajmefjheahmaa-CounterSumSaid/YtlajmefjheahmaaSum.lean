/- counter.Sum and its reference both come to the sum that stays at its greatest; the walk of the law CounterSum. -/
import Derived.Test.YtlajmefjheahmaaCtr
import Derived.Test.YtlajmefjheahmaaBs
import Derived.Laws.Bits64
namespace Go.Proofs.Ytlajmefjheahmaa.Ctr
open Go.RowKit Go.Proofs.YtlajmefjheahmaaW.PrintWords

/-- The greatest number of 64 bits. -/
def top64 : Int := 18446744073709551615
def satSum : Int → List Int → Int
  | a, [] => a
  | a, x :: r => if x > top64 - a then top64 else satSum (a + x) r
theorem satSum_step (a : Int) (l : List Int) (k : Nat) (hk : k < l.length) : satSum a (l.drop k) = if l.getD k 0 > top64 - a then top64 else satSum (a + l.getD k 0) (l.drop (k + 1)) := by
  rw [List.drop_eq_getElem_cons hk, satSum]
  simp [List.getD_eq_getElem?_getD, List.getElem?_eq_getElem hk]
theorem satSum_end (a : Int) (l : List Int) (k : Nat) (hk : l.length ≤ k) : satSum a (l.drop k) = a := by rw [List.drop_eq_nil_of_le hk, satSum]
def U64s (l : List Int) : Prop := ∀ k, 0 ≤ l.getD k 0 ∧ l.getD k 0 < 18446744073709551616

theorem u64s_of {l : List Int} (h : ∀ z ∈ l, (Lit.int .u64 z).wf = true) : U64s l := by
  intro k
  by_cases hk : k < l.length
  · have hz := h (l.getD k 0) (by simp [List.getD_eq_getElem?_getD, List.getElem?_eq_getElem hk])
    have hm : IntKind.u64.min ≤ l.getD k 0 ∧ l.getD k 0 ≤ IntKind.u64.max := by simpa [Lit.wf] using hz
    have h1 : IntKind.u64.min = 0 := by decide
    have h2 : IntKind.u64.max = 18446744073709551615 := by decide
    omega
  · simp [List.getD_eq_getElem?_getD, List.getElem?_eq_none (show l.length ≤ k by omega)]

set_option maxHeartbeats 1000000 in
theorem sum_any (a : Int) (A : Option Addr) (c : Nat) (l : List Int) (w : World) (h0 : 0 ≤ a) (h1 : a < 18446744073709551616) (hr : ReadsInt w .u64 A l.length l) (hu : U64s l) :
    Calls Try.prog 32 #[.int .u64 a, .slice A l.length c] w fun e w' => e = .returned (.int .u64 (satSum a l)) ∧ w = w' := by
  have hl : l.length ≤ 9223372036854775807 := hr.2.1
  have HR := Lib.hid hr
  have HU := Lib.hid hu
  clear hr hu
  go_enter Try.func32, Try.ntmps32
  go_wp2
  go_loop [0, 9] (fun v0 v9 => ∃ (x : Int) (k : Nat), 0 ≤ x ∧ x < 18446744073709551616 ∧ k ≤ l.length ∧ v0 = .int .u64 x ∧ v9 = .int .i64 k ∧ Hid (satSum x (l.drop k) = satSum a l)) (fun _ v9 => l.length - (intOf v9).toNat)
  case atStart => exact ⟨a, 0, h0, h1, Nat.zero_le _, rfl, rfl, Lib.hid rfl⟩
  case round =>
    obtain ⟨x, k, hx0, hx1, hk, rfl, rfl, HS⟩ := hrel
    by_cases hlt : k < l.length
    · obtain ⟨ad, rfl, hc⟩ := HR.out.2.2 (by omega)
      have hcell := hc k hlt
      clear hc
      obtain ⟨hy0, hy1⟩ := HU.out k
      have HT := Lib.hid (satSum_step x l k hlt)
      generalize hy : l.getD k 0 = y at hcell hy0 hy1 HT
      clear hy
      by_cases hov : y > 18446744073709551615 - x
      · have HF : Hid (satSum a l = 18446744073709551615) := Lib.hid (by rw [← HS.out, HT.out]; unfold top64; rw [if_pos hov])
        have hW : IntKind.u64.wrap (x + y) < x := by rw [IntKind.wrap_u64]; omega
        go_wp2
        go_ret
        exact ⟨Bs.ret_int HF.out.symm, rfl⟩
      · have HF : Hid (satSum (x + y) (l.drop (k + 1)) = satSum a l) := Lib.hid (by rw [← HS.out, HT.out]; unfold top64; rw [if_neg hov])
        go_wp2
        go_round
        case rel => exact ⟨x + y, k + 1, by omega, by omega, by omega, rfl, by go_num, HF⟩
        case measure => simp [intOf]; omega
    · have HF : Hid (satSum a l = x) := Lib.hid (by rw [← HS.out]; exact satSum_end _ _ _ (by omega))
      go_wp2
      go_ret
      exact ⟨Bs.ret_int HF.out.symm, rfl⟩

set_option maxHeartbeats 1000000 in
theorem refSum_any (a : Int) (A : Option Addr) (c : Nat) (l : List Int) (w : World) (h0 : 0 ≤ a) (h1 : a < 18446744073709551616) (hr : ReadsInt w .u64 A l.length l) (hu : U64s l) :
    Calls Try.prog 33 #[.int .u64 a, .slice A l.length c] w fun e w' => e = .returned (.int .u64 (satSum a l)) ∧ w = w' := by
  have hl : l.length ≤ 9223372036854775807 := hr.2.1
  have HR := Lib.hid hr
  have HU := Lib.hid hu
  clear hr hu
  go_enter Try.func33, Try.ntmps33
  go_wp2
  go_loop [0, 5] (fun v0 v9 => ∃ (x : Int) (k : Nat), 0 ≤ x ∧ x < 18446744073709551616 ∧ k ≤ l.length ∧ v0 = .int .u64 x ∧ v9 = .int .i64 k ∧ Hid (satSum x (l.drop k) = satSum a l)) (fun _ v9 => l.length - (intOf v9).toNat)
  case atStart => exact ⟨a, 0, h0, h1, Nat.zero_le _, rfl, rfl, Lib.hid rfl⟩
  case round =>
    obtain ⟨x, k, hx0, hx1, hk, rfl, rfl, HS⟩ := hrel
    by_cases hlt : k < l.length
    · obtain ⟨ad, rfl, hc⟩ := HR.out.2.2 (by omega)
      have hcell := hc k hlt
      clear hc
      obtain ⟨hy0, hy1⟩ := HU.out k
      have HT := Lib.hid (satSum_step x l k hlt)
      generalize hy : l.getD k 0 = y at hcell hy0 hy1 HT
      clear hy
      by_cases hov : y > 18446744073709551615 - x
      · have HF : Hid (satSum a l = 18446744073709551615) := Lib.hid (by rw [← HS.out, HT.out]; unfold top64; rw [if_pos hov])
        go_wp2
        go_ret
        exact ⟨Bs.ret_int HF.out.symm, rfl⟩
      · have HF : Hid (satSum (x + y) (l.drop (k + 1)) = satSum a l) := Lib.hid (by rw [← HS.out, HT.out]; unfold top64; rw [if_neg hov])
        go_wp2
        go_round
        case rel => exact ⟨x + y, k + 1, by omega, by omega, by omega, rfl, by go_num, HF⟩
        case measure => simp [intOf]; omega
    · have HF : Hid (satSum a l = x) := Lib.hid (by rw [← HS.out]; exact satSum_end _ _ _ (by omega))
      go_wp2
      go_ret
      exact ⟨Bs.ret_int HF.out.symm, rfl⟩

set_option maxHeartbeats 1000000 in
theorem counterSum_walk (a : Int) (A : Option Addr) (c : Nat) (l : List Int) (w : World) (h0 : 0 ≤ a) (h1 : a < 18446744073709551616) (hr : ReadsInt w .u64 A l.length l) (hu : U64s l) :
    Calls Try.prog 10 #[.int .u64 a, .slice A l.length c] w fun e w' => e = .returned (.bool true) ∧ Below w.heap.size w w' := by
  have hl : l.length ≤ 9223372036854775807 := hr.2.1
  have HR := Lib.hid hr
  clear hr
  by_cases hn : 100 < l.length
  · go_enter Try.func10, Try.ntmps10
    go_wp2_with fail
    refine (alive_any _).mono ?_
    rintro e w' ⟨rfl, hb⟩
    go_wp2_with fail
    go_ret
    exact ⟨rfl, hb⟩
  · go_enter Try.func10, Try.ntmps10
    go_wp2_with fail
    refine (sum_any a A c l _ h0 h1 HR.out hu).mono ?_
    rintro e w' ⟨rfl, rfl⟩
    go_wp2_with fail
    refine (refSum_any a A c l _ h0 h1 HR.out hu).mono ?_
    rintro e w' ⟨rfl, rfl⟩
    go_wp2_with fail
    refine (alive_any _).mono ?_
    rintro e w' ⟨rfl, hb⟩
    go_wp2_with fail
    go_ret
    exact ⟨rfl, hb⟩

end Go.Proofs.Ytlajmefjheahmaa.Ctr
