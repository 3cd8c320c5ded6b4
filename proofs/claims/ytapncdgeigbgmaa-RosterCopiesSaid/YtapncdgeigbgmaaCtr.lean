/- Contracts of package counter and of its reference: what each call hands back and does to the one cell behind the pointer. -/
import Derived.Test.YtapncdgeigbgmaaProg
import Derived.Below
import Derived.Deep.Draws
import Derived.Tactics
import Derived.WalkKit
import Derived.KernelRfl
import Derived.RowKit3
import Derived.Deep.LoopGhost
import Derived.Deep.QuietTactic
import Derived.BigQuiet
import Derived.Lib.Hide
set_option linter.unusedSimpArgs false
set_option linter.unusedVariables false
set_option maxRecDepth 100000
namespace Go.Proofs.Ytapncdgeigbgmaa.Ctr
open Go.RowKit

/-- What no number reaches. -/
def lim : Int := 18446744073709543423

theorem new_any (n : Int) (w : World) :
    Calls Try.prog 48 #[.int .u64 n] w fun e w' => e = .returned (.pointer (some ⟨w.heap.size, 0, none⟩)) ∧ w.alloc (.cells #[.int .u64 n] 31) = w' := by
  go_enter Try.func48, Try.ntmps48
  go_wp2
  go_ret
  exact ⟨rfl, rfl⟩

theorem next_nil (w : World) :
    Calls Try.prog 53 #[.pointer none] w fun e w' => e = .returned (.tuple #[.int .u64 0, .int .i64 2]) ∧ w = w' := by
  go_enter Try.func53, Try.ntmps53
  go_wp2
  go_ret2
  exact ⟨rfl, rfl⟩

theorem next_spent (a : Addr) (n : Int) (w : World) (hc : w.cell? a = some (.int .u64 n)) (h : lim ≤ n) :
    Calls Try.prog 53 #[.pointer (some a)] w fun e w' => e = .returned (.tuple #[.int .u64 0, .int .i64 18]) ∧ w = w' := by
  unfold lim at h
  go_enter Try.func53, Try.ntmps53
  go_wp2
  go_ret2
  exact ⟨rfl, rfl⟩

theorem next_more (a : Addr) (n : Int) (w : World) (hc : w.cell? a = some (.int .u64 n)) (hf : w.frozen? a = false) (h0 : 0 ≤ n) (h : n < lim) :
    Calls Try.prog 53 #[.pointer (some a)] w fun e w' => e = .returned (.tuple #[.int .u64 n, .int .i64 0]) ∧ w.setCell a (.int .u64 (n + 1)) = w' := by
  unfold lim at h
  go_enter Try.func53, Try.ntmps53
  go_wp2
  go_ret2
  exact ⟨rfl, rfl⟩

theorem left_nil (w : World) :
    Calls Try.prog 56 #[.pointer none] w fun e w' => e = .returned (.int .u64 0) ∧ w = w' := by
  go_enter Try.func56, Try.ntmps56
  go_wp2
  go_ret
  exact ⟨rfl, rfl⟩

theorem left_spent (a : Addr) (n : Int) (w : World) (hc : w.cell? a = some (.int .u64 n)) (h : lim ≤ n) :
    Calls Try.prog 56 #[.pointer (some a)] w fun e w' => e = .returned (.int .u64 0) ∧ w = w' := by
  unfold lim at h
  go_enter Try.func56, Try.ntmps56
  go_wp2
  go_ret
  exact ⟨rfl, rfl⟩

theorem left_more (a : Addr) (n : Int) (w : World) (hc : w.cell? a = some (.int .u64 n)) (h0 : 0 ≤ n) (h : n < lim) :
    Calls Try.prog 56 #[.pointer (some a)] w fun e w' => e = .returned (.int .u64 (18446744073709543423 - n)) ∧ w = w' := by
  unfold lim at h
  go_enter Try.func56, Try.ntmps56
  go_wp2
  go_ret
  exact ⟨rfl, rfl⟩

theorem limit_any (w : World) :
    Calls Try.prog 51 #[] w fun e w' => e = .returned (.int .u64 18446744073709543423) ∧ w = w' := by
  go_enter Try.func51, Try.ntmps51
  go_wp2
  go_ret
  exact ⟨rfl, rfl⟩


end Go.Proofs.Ytapncdgeigbgmaa.Ctr
