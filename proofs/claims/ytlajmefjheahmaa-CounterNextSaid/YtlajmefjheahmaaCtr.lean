/- Contracts of package counter and of its reference: what each call hands back and does to the one cell behind the pointer. -/
import Derived.Test.YtlajmefjheahmaaProg
import Derived.Below
import Derived.Deep.Draws
import Derived.Tactics
import Derived.WalkKit
import Derived.KernelRfl
import Derived.RowKit3
import Derived.Deep.LoopGhost
import Derived.Deep.QuietTactic
import Derived.BigQuiet
import Derived.Lib.Hide
namespace Go.Proofs.Ytlajmefjheahmaa.Ctr
open Go.RowKit

/-- What no number reaches. -/
def lim : Int := 18446744073709543423

theorem new_any (n : Int) (w : World) :
    Calls Try.prog 18 #[.int .u64 n] w fun e w' => e = .returned (.pointer (some ⟨w.heap.size, 0, none⟩)) ∧ w.alloc (.cells #[.int .u64 n] 37) = w' := by
  go_enter Try.func18, Try.ntmps18
  go_wp2
  go_ret
  exact ⟨rfl, rfl⟩

theorem next_nil (w : World) :
    Calls Try.prog 21 #[.pointer none] w fun e w' => e = .returned (.tuple #[.int .u64 0, .int .i64 2]) ∧ w = w' := by
  go_enter Try.func21, Try.ntmps21
  go_wp2
  go_ret2
  exact ⟨rfl, rfl⟩

theorem next_spent (a : Addr) (n : Int) (w : World) (hc : w.cell? a = some (.int .u64 n)) (h : lim ≤ n) :
    Calls Try.prog 21 #[.pointer (some a)] w fun e w' => e = .returned (.tuple #[.int .u64 0, .int .i64 18]) ∧ w = w' := by
  unfold lim at h
  go_enter Try.func21, Try.ntmps21
  go_wp2
  go_ret2
  exact ⟨rfl, rfl⟩

theorem next_more (a : Addr) (n : Int) (w : World) (hc : w.cell? a = some (.int .u64 n)) (hf : w.frozen? a = false) (h0 : 0 ≤ n) (h : n < lim) :
    Calls Try.prog 21 #[.pointer (some a)] w fun e w' => e = .returned (.tuple #[.int .u64 n, .int .i64 0]) ∧ w.setCell a (.int .u64 (n + 1)) = w' := by
  unfold lim at h
  go_enter Try.func21, Try.ntmps21
  go_wp2
  go_ret2
  exact ⟨rfl, rfl⟩

theorem left_nil (w : World) :
    Calls Try.prog 20 #[.pointer none] w fun e w' => e = .returned (.int .u64 0) ∧ w = w' := by
  go_enter Try.func20, Try.ntmps20
  go_wp2
  go_ret
  exact ⟨rfl, rfl⟩

theorem left_spent (a : Addr) (n : Int) (w : World) (hc : w.cell? a = some (.int .u64 n)) (h : lim ≤ n) :
    Calls Try.prog 20 #[.pointer (some a)] w fun e w' => e = .returned (.int .u64 0) ∧ w = w' := by
  unfold lim at h
  go_enter Try.func20, Try.ntmps20
  go_wp2
  go_ret
  exact ⟨rfl, rfl⟩

theorem left_more (a : Addr) (n : Int) (w : World) (hc : w.cell? a = some (.int .u64 n)) (h0 : 0 ≤ n) (h : n < lim) :
    Calls Try.prog 20 #[.pointer (some a)] w fun e w' => e = .returned (.int .u64 (18446744073709543423 - n)) ∧ w = w' := by
  unfold lim at h
  go_enter Try.func20, Try.ntmps20
  go_wp2
  go_ret
  exact ⟨rfl, rfl⟩

theorem limit_any (w : World) :
    Calls Try.prog 19 #[] w fun e w' => e = .returned (.int .u64 18446744073709543423) ∧ w = w' := by
  go_enter Try.func19, Try.ntmps19
  go_wp2
  go_ret
  exact ⟨rfl, rfl⟩

set_option maxHeartbeats 1000000 in
theorem alive_any (w : World) :
    Calls Try.prog 17 #[] w fun e w' => e = .returned (.bool true) ∧ Below w.heap.size w w' := by
  go_enter Try.func17, Try.ntmps17
  go_wp2_with fail
  refine (new_any _ _).mono ?_
  rintro e w' ⟨rfl, rfl⟩
  go_wp2_with fail
  refine (next_more _ 18446744073709543422 _ (by go_simp) (by go_simp) (by decide) (by decide)).mono ?_
  rintro e w' ⟨rfl, rfl⟩
  go_wp2_with fail
  refine (next_spent _ 18446744073709543423 _ (by go_simp) (by decide)).mono ?_
  rintro e w' ⟨rfl, rfl⟩
  go_wp2_with fail
  go_ret
  exact ⟨rfl, ((Below.refl _ _).alloc (Nat.le_refl _) _)⟩

end Go.Proofs.Ytlajmefjheahmaa.Ctr
