/- Keys compared; two lists of keys that are the same; chapter 27's example, and RosterNobody. -/
import Derived.Test.YtapncdgeigbgmaaUf
import Derived.DeepKeys
set_option linter.unusedSimpArgs false
set_option linter.unusedVariables false
set_option linter.unusedSectionVars false
set_option maxRecDepth 100000
namespace Go.Proofs.Ytapncdgeigbgmaa.Tb
open Go.RowKit Go.Proofs.YtapncdgeigbgmaaW.PrintWords Go.Proofs.Ytapncdgeigbgmaa.Bs Go.Proofs.Ytapncdgeigbgmaa.Gm Go.Proofs.Ytapncdgeigbgmaa.Sf

theorem eq_key (x y : Key) : EqlOf 29 (keyC x) (keyC y) (decide (x = y)) := fun W => by
  have hf : ∀ k : Key, (Value.agg (keyC k)).formed Try.prog 29 = true := fun k => by
    have hc : Try.prog.cellsOf 29 = 32 := by kernel_rfl
    simp [Value.formed, Try.underlying29, keyC_size, hc]
  obtain ⟨lx, h1⟩ := key_lits x (Try.prog.types.size - 1)
  obtain ⟨ly, h2⟩ := key_lits y (Try.prog.types.size - 1)
  obtain ⟨r, hr, hi⟩ := run_equalIn_deep (P := Try.prog) 9998 2 29 (by kernel_rfl) W _ _ (.agg (keyC x)) (.agg (keyC y)) lx ly (hf x) (hf y) h1 h2
  have he : r = decide (x = y) := by
    by_cases e : x = y
    · subst e
      rw [h1] at h2
      injection h2 with h2
      rw [decide_eq_true rfl]
      exact hi.2 h2
    · rw [decide_eq_false e]
      cases r with
      | false => rfl
      | true =>
        have hl := hi.1 rfl
        subst hl
        have hn : Try.prog.types.size + 1 = (Try.prog.types.size - 1) + 2 := by kernel_rfl
        have hk : ∀ k : Key, Try.prog.keyLits (Try.prog.types.size - 1 + 2) 29 (keyC k).toList = some lx → keyOf Try.prog 29 (.agg (keyC k)) = some (.string (keyBytes lx)) := fun k h => by
          have hu : Try.prog.underlying 29 = some (.array 32 5) := Try.underlying29
          have hkt : Try.prog.keyType 29 = true := by kernel_rfl
          unfold keyOf
          rw [hu]
          simp only [hkt, hf k, Bool.and_self, if_true, Value.cells]
          rw [hn, h]
          rfl
        have := key_law.inj (hk x h1) (hk y h2)
        injection this with this
        exact absurd (keyC_inj this) e
  rw [← he]
  simp only [binOp]
  simp [Op.equal, Op.maxDepth, hr]
theorem yields_neq {ops : Array Oper} {S : World → Prop} {op : Oper} {a : Act} {t u : TypeId} {x y : Operand} (ho : op.op = .binOp .neq t x y u) {vx vy : Array Value} (hx : a.eval x = .agg vx) (hy : a.eval y = .agg vy) {r : Bool} (hgt : Try.prog.eqGuardType Try.prog.depth t = false) (he : EqlOf t vx vy r) (hw : Region.wanted op (yielded ops a.tmps) = true) : YieldsIf Try.prog ops S op (.bool (!r)) a :=
  .inl ⟨hw, fun w _ => by
    have := run_neq_of he w
    have hg : (eqGuard .neq t x y (.agg vx) (.agg vy)).run Try.prog w = .ok () w := by simp [eqGuard, hgt]
    simp [execOp, ho, resolve, hx, hy, hg, this, Result.andThen]⟩
set_option maxHeartbeats 1000000 in
theorem same_keys (A B : Option Addr) (c d : Nat) (xs : List Key) (w0 : World) (ha : RW RKey w0 (.slice A xs.length c) xs) (hb : RW RKey w0 (.slice B xs.length d) xs) :
    Calls Try.prog 58 #[.slice A xs.length c, .slice B xs.length d] w0 fun e w' => e = .returned (.bool true) ∧ Below w0.heap.size w0 w' := by
  obtain ⟨n, hn⟩ : ∃ n, xs.length = n := ⟨_, rfl⟩
  have hmax : n ≤ 9223372036854775807 := by
    obtain ⟨A', c', e, _, hm, _⟩ := ha
    omega
  have HP : Hid (∀ i, i < n → ∃ x ad ad', A = some ad ∧ B = some ad' ∧ (∀ W, Below w0.heap.size w0 W → RangeA W (ad.add (i * 32)) (keyC x)) ∧ ∀ W, Below w0.heap.size w0 W → RangeA W (ad'.add (i * 32)) (keyC x)) := Lib.hid (fun i hi => by
    have h1 : xs[i]? = some xs[i] := by simp [hn, hi]
    obtain ⟨ad, rfl, r1⟩ := ha.elem LKey h1
    obtain ⟨ad', rfl, r2⟩ := hb.elem LKey h1
    exact ⟨xs[i], ad, ad', rfl, rfl, fun W hW => r1.below hW, fun W hW => r2.below hW⟩)
  rw [hn]
  clear ha hb hn
  have HM := Lib.hid (Mem.start w0)
  have HB := HM.out.below
  go_enter Try.func58, Try.ntmps58
  go_wp2_with fail
  go_loopw [5] (fun v5 wr => ∃ i, i ≤ n ∧ v5 = .int .i64 (i : Nat) ∧ HMem w0 wr []) (fun v5 _ => n - (intOf v5).toNat)
  case atStart => exact ⟨0, Nat.zero_le _, rfl, HM⟩
  case round =>
    clear HM HB
    obtain ⟨i, hi, rfl, HM⟩ := hrel
    have HB := HM.out.below
    by_cases hlt : i < n
    · obtain ⟨x, ad, ad', rfl, rfl, h1, h2⟩ := HP.out i hlt
      have H1 := Lib.hid h1
      have H2 := Lib.hid h2
      have HE : Hid (EqlOf 29 (keyC x) (keyC x) true) := Lib.hid (by have := eq_key x x; rwa [decide_eq_true rfl] at this)
      clear h1 h2 HP
      go_wp2_with fail
      try simp only [Act.put, List.setIfInBounds_toArray, List.set_cons_zero, List.set_cons_succ]
      refine wp_region_held_drew (S := fun w' => Below w0.heap.size w0 w') (by kernel_rfl) (below_drew HB) (fun hS => ?_)
      replace HM := Lib.hid HM.out.drew
      replace HB := HM.out.below
      refine tk 0 17 ?_
      refine tk 1 18 ?_
      refine tk 2 19 ?_
      refine tkv 3 20 (.agg (keyC x)) rfl (yields_elem rfl (by kernel_rfl) rfl (fun w hw => H1.out w hw) (by rw [keyC_size]; exact info_key) (by kernel_rfl)) ?_
      refine tk 4 21 ?_
      refine tk 5 22 ?_
      refine tk 6 23 ?_
      refine tkv 7 24 (.agg (keyC x)) rfl (yields_elem rfl (by kernel_rfl) rfl (fun w hw => H2.out w hw) (by rw [keyC_size]; exact info_key) (by kernel_rfl)) ?_
      refine tkv 8 25 (.bool (!true)) rfl (yields_neq rfl rfl rfl (by kernel_rfl) HE.out (by kernel_rfl)) ?_
      refine wpAnyH_done (by kernel_rfl) ?_ _
      clear hS
      rw [Bool.not_true]
      go_wp2_with fail
      go_roundw
      case rel => exact ⟨i + 1, by omega, by go_num, HM⟩
      case measure => (simp [intOf]) <;> omega
    · obtain rfl : i = n := by omega
      go_wp2_with fail
      go_ret
      exact ⟨rfl, HB⟩
end Go.Proofs.Ytapncdgeigbgmaa.Tb
