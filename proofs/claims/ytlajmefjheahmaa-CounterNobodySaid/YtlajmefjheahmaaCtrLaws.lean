/- The walks of the laws of chapter 29: CounterNext, CounterNobody; for every input each hands back true and leaves what was there as it was. -/
import Derived.Test.YtlajmefjheahmaaCtr
namespace Go.Proofs.Ytlajmefjheahmaa.Ctr
open Go.RowKit

set_option maxHeartbeats 2000000 in
theorem counterNext_walk (x0 many : Int) (w : World) (hx0 : 0 ≤ x0) (hx1 : x0 < 18446744073709551616) (hm0 : -9223372036854775808 ≤ many) (hm1 : many ≤ 9223372036854775807) :
    Calls Try.prog 5 #[.int .u64 x0, .int .i64 many] w fun e w' => e = .returned (.bool true) ∧ Below w.heap.size w w' := by
  by_cases h1 : many < 0
  · go_enter Try.func5, Try.ntmps5
    go_wp2_with fail
    refine (alive_any _).mono ?_
    rintro e w' ⟨rfl, hb⟩
    go_wp2_with fail
    go_ret
    exact ⟨rfl, hb⟩
  by_cases h2 : 100 < many
  · go_enter Try.func5, Try.ntmps5
    go_wp2_with fail
    refine (alive_any _).mono ?_
    rintro e w' ⟨rfl, hb⟩
    go_wp2_with fail
    go_ret
    exact ⟨rfl, hb⟩
  go_enter Try.func5, Try.ntmps5
  go_wp2_with fail
  refine (new_any _ _).mono ?_
  rintro e w' ⟨rfl, rfl⟩
  go_wp2_with fail
  go_loopw [0, 6] (fun v0 v6 wr => ∃ (x : Int) (k : Int), 0 ≤ x ∧ x < 18446744073709551616 ∧ 0 ≤ k ∧ k ≤ many ∧ v0 = .int .u64 x ∧ v6 = .int .i64 k ∧ wr.cell? ⟨w.heap.size, 0, none⟩ = some (.int .u64 x) ∧ wr.frozen? ⟨w.heap.size, 0, none⟩ = false ∧ Below w.heap.size w wr) (fun _ v6 _ => (many - intOf v6).toNat)
  case atStart => exact ⟨x0, 0, hx0, hx1, by omega, by omega, rfl, rfl, by go_simp, by go_simp, (Below.refl _ _).alloc (Nat.le_refl _) _⟩
  case round =>
    obtain ⟨x, k, hxa, hxb, hka, hkb, rfl, rfl, hc, hf, hb⟩ := hrel
    by_cases hlt : k < many
    · by_cases hx : x < lim
      · unfold lim at hx
        go_wp2_with fail
        refine (limit_any _).mono ?_
        rintro e w' ⟨rfl, rfl⟩
        go_wp2_with fail
        refine (limit_any _).mono ?_
        rintro e w' ⟨rfl, rfl⟩
        go_wp2_with fail
        refine (left_more _ x _ (by go_simp) hxa hx).mono ?_
        rintro e w' ⟨rfl, rfl⟩
        go_wp2_with fail
        refine (next_more _ x _ (by go_simp) (by go_simp) hxa hx).mono ?_
        rintro e w' ⟨rfl, rfl⟩
        go_wp2_with fail
        go_roundw
        case rel => exact ⟨x + 1, k + 1, by omega, by omega, by omega, by omega, rfl, rfl, by go_simp, by go_simp, hb.setCell (by simp) _⟩
        case measure => simp [intOf]; omega
      · have hx' : lim ≤ x := by omega
        unfold lim at hx
        go_wp2_with fail
        refine (limit_any _).mono ?_
        rintro e w' ⟨rfl, rfl⟩
        go_wp2_with fail
        refine (left_spent _ x _ (by go_simp) hx').mono ?_
        rintro e w' ⟨rfl, rfl⟩
        go_wp2_with fail
        refine (next_spent _ x _ (by go_simp) hx').mono ?_
        rintro e w' ⟨rfl, rfl⟩
        go_wp2_with fail
        go_roundw
        case rel => exact ⟨x, k + 1, by omega, by omega, by omega, by omega, rfl, rfl, by go_simp, by go_simp, hb⟩
        case measure => simp [intOf]; omega
    · go_wp2_with fail
      refine (alive_any _).mono ?_
      rintro e w' ⟨rfl, hb'⟩
      go_wp2_with fail
      go_ret
      exact ⟨rfl, hb.trans (hb'.mono hb.size)⟩

set_option maxHeartbeats 2000000 in
theorem counterNobody_walk (many : Int) (w : World) (hm0 : -9223372036854775808 ≤ many) (hm1 : many ≤ 9223372036854775807) :
    Calls Try.prog 6 #[.int .i64 many] w fun e w' => e = .returned (.bool true) ∧ Below w.heap.size w w' := by
  by_cases h1 : many < 0
  · go_enter Try.func6, Try.ntmps6
    go_wp2_with fail
    refine (alive_any _).mono ?_
    rintro e w' ⟨rfl, hb⟩
    go_wp2_with fail
    go_ret
    exact ⟨rfl, hb⟩
  by_cases h2 : 100 < many
  · go_enter Try.func6, Try.ntmps6
    go_wp2_with fail
    refine (alive_any _).mono ?_
    rintro e w' ⟨rfl, hb⟩
    go_wp2_with fail
    go_ret
    exact ⟨rfl, hb⟩
  go_enter Try.func6, Try.ntmps6
  go_wp2_with fail
  go_loopw [5] (fun v5 wr => ∃ (k : Int), 0 ≤ k ∧ k ≤ many ∧ v5 = .int .i64 k ∧ wr.cell? ⟨w.heap.size, 0, none⟩ = some (.int .u64 k) ∧ wr.frozen? ⟨w.heap.size, 0, none⟩ = false ∧ Below w.heap.size w wr) (fun v5 _ => (many - intOf v5).toNat)
  case atStart => exact ⟨0, by omega, by omega, rfl, by go_simp, by go_simp, (Below.refl _ _).alloc (Nat.le_refl _) _⟩
  case round =>
    obtain ⟨k, hka, hkb, rfl, hc, hf, hb⟩ := hrel
    by_cases hlt : k < many
    · go_wp2_with fail
      refine (next_more _ k _ (by go_simp) (by go_simp) hka (by unfold lim; omega)).mono ?_
      rintro e w' ⟨rfl, rfl⟩
      go_wp2_with fail
      go_roundw
      case rel => exact ⟨k + 1, by omega, by omega, rfl, by go_simp, by go_simp, hb.setCell (by simp) _⟩
      case measure => simp [intOf]; omega
    · go_wp2_with fail
      refine (next_nil _).mono ?_
      rintro e w' ⟨rfl, rfl⟩
      go_wp2_with fail
      refine (left_nil _).mono ?_
      rintro e w' ⟨rfl, rfl⟩
      go_wp2_with fail
      refine (alive_any _).mono ?_
      rintro e w' ⟨rfl, hb'⟩
      go_wp2_with fail
      go_ret
      exact ⟨rfl, hb.trans (hb'.mono hb.size)⟩

end Go.Proofs.Ytlajmefjheahmaa.Ctr
