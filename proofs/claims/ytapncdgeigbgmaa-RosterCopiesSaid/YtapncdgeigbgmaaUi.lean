/- The document's roster: a list of keys with their numbers; where a key stands; all keys. -/
import Derived.Test.YtapncdgeigbgmaaUg
import Derived.Test.YtapncdgeigbgmaaRt
set_option linter.unusedSimpArgs false
set_option linter.unusedVariables false
set_option linter.unusedSectionVars false
set_option maxRecDepth 100000
namespace Go.Proofs.Ytapncdgeigbgmaa.Tb
open Go.RowKit Go.Proofs.YtapncdgeigbgmaaW.PrintWords Go.Proofs.Ytapncdgeigbgmaa.Bs Go.Proofs.Ytapncdgeigbgmaa.Gm Go.Proofs.Ytapncdgeigbgmaa.Sf

def oneC (p : Key × Int) : Array Value := keyC p.1 ++ #[.int .i64 p.2]
theorem oneC_size (p : Key × Int) : (oneC p).size = 33 := by simp [oneC, keyC_size]
theorem oneC_one (p : Key × Int) : (oneC p).all (·.oneCell') = true := by
  unfold oneC
  rw [Array.all_append, keyC_one]
  simp [Value.oneCell']
def ROne : RK (Key × Int) := ⟨63, 76, 33, 40, oneC⟩
theorem LOne : ROne.Law := RK.law_of Try.underlying63 (by kernel_rfl) (by decide) (by decide) oneC_size oneC_one
/-- The document's roster by value. -/
def RV (A : Option Addr) (n c : Nat) (last : Int) : Array Value := #[.slice A n c, .int .i64 last]
theorem cellsRV (A : Option Addr) (n c : Nat) (last : Int) : Cells 65 (RV A n c last) := ⟨by kernel_rfl, by simp [RV, Value.oneCell']⟩
theorem one_key {W : World} {ad : Addr} {p : Key × Int} (h : RangeA W ad (oneC p)) : RangeA W ad (keyC p.1) := fun j v hv => h j v (by
  have hj := (Array.getElem?_eq_some_iff.1 hv).1
  unfold oneC
  rw [Array.getElem?_append_left hj]
  exact hv)
theorem one_id {W : World} {ad : Addr} {p : Key × Int} (h : RangeA W ad (oneC p)) : W.cell? (ad.add 32) = some (.int .i64 p.2) := h 32 _ (by
  unfold oneC
  rw [Array.getElem?_append_right (by rw [keyC_size]; omega), keyC_size]
  rfl)
/-- The elements of a list in memory. -/
theorem one_at {w0 : World} {A : Option Addr} {n c : Nat} {l : List (Key × Int)} (h : RW ROne w0 (.slice A n c) l) (hn : l.length = n) : ∀ i, i < n → ∃ p ad, l[i]? = some p ∧ A = some ad ∧ ∀ W, Below w0.heap.size w0 W → RangeA W (ad.add (i * 33)) (oneC p) := fun i hi => by
  have h1 : l[i]? = some l[i] := by simp [hn, hi]
  obtain ⟨ad, rfl, r⟩ := h.elem LOne h1
  exact ⟨l[i], ad, h1, rfl, fun W hW => r.below hW⟩
theorem rw_max {α : Type} {R : RK α} {w : World} {A : Option Addr} {n c : Nat} {l : List α} (h : RW R w (.slice A n c) l) : n ≤ 9223372036854775807 := by
  obtain ⟨A', c', e, _, hm, _⟩ := h
  injection e with e1 e2 e3
  omega
theorem yields_eqK {ops : Array Oper} {S : World → Prop} {op : Oper} {a : Act} {t u : TypeId} {x y : Operand} (ho : op.op = .binOp .eql t x y u) {vx vy : Array Value} (hx : a.eval x = .agg vx) (hy : a.eval y = .agg vy) {r : Bool} (hgt : Try.prog.eqGuardType Try.prog.depth t = false) (he : EqlOf t vx vy r) (hw : Region.wanted op (yielded ops a.tmps) = true) : YieldsIf Try.prog ops S op (.bool r) a :=
  .inl ⟨hw, fun w _ => by
    have := he w
    have hg : (eqGuard .eql t x y (.agg vx) (.agg vy)).run Try.prog w = .ok () w := by simp [eqGuard, hgt]
    simp [execOp, ho, resolve, hx, hy, hg, this, Result.andThen]⟩
/-- Where a key stands: told by whether it is there. -/
def inL (l : List (Key × Int)) (k : Key) : Bool := (getK l k).isSome
set_option maxHeartbeats 1000000 in
theorem place_any (A : Option Addr) (n c : Nat) (last : Int) (l : List (Key × Int)) (k : Key) (w0 : World) (hr : RW ROne w0 (.slice A n c) l) (hn : l.length = n) :
    Calls Try.prog 30 #[.agg (RV A n c last), .agg (keyC k)] w0 fun e w' => ∃ z : Int, e = .returned (.int .i64 z) ∧ (inL l k = true → 0 ≤ z) ∧ (inL l k = false → z = -1) ∧ z ≤ n ∧ Below w0.heap.size w0 w' := by
  have HP := Lib.hid (one_at hr hn)
  have hmax := rw_max hr
  have HN := Lib.hid hn
  have HC1 := Lib.hid (cells_key (keyC k) (keyC_size k) (keyC_one k))
  have HC2 := Lib.hid (cellsRV A n c last)
  have CV1 : Hid ((RV A n c last)[0]? = some (.slice A n c)) := Lib.hid rfl
  clear hr hn
  have HM := Lib.hid (Mem.start w0)
  have HB := HM.out.below
  go_enter Try.func30, Try.ntmps30
  go_wp2_with (first | (refine m_wr ?_ HM (Wr.box rfl rfl HC2.out) (wanted_none rfl); clear HM HB; intro w br HM HB) | (refine m_wr ?_ HM (Wr.box rfl rfl HC1.out) (wanted_none rfl); clear HM HB; intro w bk HM HB) | refine m_rd ?_ | (refine m_wr ?_; clear HM HB; intro w b HM HB; try clear b) | fail)
  go_loopw [5] (fun v5 wr => ∃ i, i ≤ n ∧ v5 = .int .i64 (i : Nat) ∧ Hid (∀ j p, j < i → l[j]? = some p → p.1 ≠ k) ∧ HMem w0 wr [Ent.blk bk (keyC k) 29, Ent.blk br (RV A n c last) 65]) (fun v5 _ => n - (intOf v5).toNat)
  case atStart => exact ⟨0, Nat.zero_le _, rfl, Lib.hid (fun j p hj => absurd hj (Nat.not_lt_zero _)), HM⟩
  case round =>
    clear HM HB
    obtain ⟨i, hi, rfl, HNO, HM⟩ := hrel
    have HB := HM.out.below
    by_cases hlt : i < n
    · obtain ⟨p, ad, hp, rfl, hrng⟩ := HP.out i hlt
      have HPI := Lib.hid hp
      have HRK : Hid (∀ W, Below w0.heap.size w0 W → RangeA W (ad.add (i * 33)) (keyC p.1)) := Lib.hid (fun W hW => one_key (hrng W hW))
      clear hp hrng HP
      by_cases hk : p.1 = k
      · have HE : Hid (EqlOf 29 (keyC p.1) (keyC k) true) := Lib.hid (by have := eq_key p.1 k; rwa [decide_eq_true hk] at this)
        have HK := Lib.hid hk
        clear hk
        go_wp2_with (first | refine m_rd ?_ | (refine m_wr ?_; clear HM HB; intro w b HM HB; try clear b) | fail)
        try simp only [Act.put, List.setIfInBounds_toArray, List.set_cons_zero, List.set_cons_succ]
        refine wp_region_held_drew (S := fun w' => Mem w0 w' (Ent.blk bk (keyC k) 29 :: Ent.blk br (RV (some ad) n c last) 65 :: [])) (by kernel_rfl) (HM.out.drew.two) (fun hS => ?_)
        replace HM := Lib.hid HM.out.drew
        replace HB := HM.out.below
        refine tk 0 13 ?_
        refine tkv 1 14 (.slice (some ad) n c) rfl (yields_cell rfl (by kernel_rfl) rfl (fun _ h => h) (by (first | ((repeat (first | with_reducible exact List.Mem.head _ | with_reducible apply List.Mem.tail)); done) | ((repeat (first | exact List.Mem.head _ | apply List.Mem.tail)); done))) rfl (by kernel_rfl)) ?_
        refine tk 2 15 ?_
        refine tk 3 16 ?_
        refine tk 4 17 ?_
        refine tkv 5 18 (.agg (keyC p.1)) rfl (yields_elem rfl (by kernel_rfl) rfl (fun w hw => HRK.out w hw.below) (by rw [keyC_size]; exact info_key) (by kernel_rfl)) ?_
        refine tkv 6 19 (.agg (keyC k)) rfl (yields_own rfl rfl (fun _ h => h) (by (first | ((repeat (first | with_reducible exact List.Mem.head _ | with_reducible apply List.Mem.tail)); done) | ((repeat (first | exact List.Mem.head _ | apply List.Mem.tail)); done))) Try.underlying29 rfl HC1.out.1 (by kernel_rfl)) ?_
        refine tkv 7 20 (.bool true) rfl (yields_eqK rfl rfl rfl (by kernel_rfl) HE.out (by kernel_rfl)) ?_
        refine wpAnyH_done (by kernel_rfl) ?_ _
        clear hS
        go_wp2_with fail
        go_ret
        refine ⟨(i : Int), rfl, fun _ => by omega, fun h => ?_, by omega, HB⟩
        have : inL l k = true := by
          unfold inL
          rw [getK_has]
          exact List.mem_map.2 ⟨p, List.mem_of_getElem? HPI.out, HK.out⟩
        rw [this] at h
        cases h
      · have HE : Hid (EqlOf 29 (keyC p.1) (keyC k) false) := Lib.hid (by have := eq_key p.1 k; rwa [decide_eq_false hk] at this)
        have HNO2 : Hid (∀ j q, j < i + 1 → l[j]? = some q → q.1 ≠ k) := Lib.hid (fun j q hj hq => by
          rcases Nat.lt_succ_iff_lt_or_eq.1 hj with hj | rfl
          · exact HNO.out j q hj hq
          · rw [HPI.out] at hq
            injection hq with hq
            rw [← hq]; exact hk)
        clear hk HNO
        go_wp2_with (first | refine m_rd ?_ | (refine m_wr ?_; clear HM HB; intro w b HM HB; try clear b) | fail)
        try simp only [Act.put, List.setIfInBounds_toArray, List.set_cons_zero, List.set_cons_succ]
        refine wp_region_held_drew (S := fun w' => Mem w0 w' (Ent.blk bk (keyC k) 29 :: Ent.blk br (RV (some ad) n c last) 65 :: [])) (by kernel_rfl) (HM.out.drew.two) (fun hS => ?_)
        replace HM := Lib.hid HM.out.drew
        replace HB := HM.out.below
        refine tk 0 13 ?_
        refine tkv 1 14 (.slice (some ad) n c) rfl (yields_cell rfl (by kernel_rfl) rfl (fun _ h => h) (by (first | ((repeat (first | with_reducible exact List.Mem.head _ | with_reducible apply List.Mem.tail)); done) | ((repeat (first | exact List.Mem.head _ | apply List.Mem.tail)); done))) rfl (by kernel_rfl)) ?_
        refine tk 2 15 ?_
        refine tk 3 16 ?_
        refine tk 4 17 ?_
        refine tkv 5 18 (.agg (keyC p.1)) rfl (yields_elem rfl (by kernel_rfl) rfl (fun w hw => HRK.out w hw.below) (by rw [keyC_size]; exact info_key) (by kernel_rfl)) ?_
        refine tkv 6 19 (.agg (keyC k)) rfl (yields_own rfl rfl (fun _ h => h) (by (first | ((repeat (first | with_reducible exact List.Mem.head _ | with_reducible apply List.Mem.tail)); done) | ((repeat (first | exact List.Mem.head _ | apply List.Mem.tail)); done))) Try.underlying29 rfl HC1.out.1 (by kernel_rfl)) ?_
        refine tkv 7 20 (.bool false) rfl (yields_eqK rfl rfl rfl (by kernel_rfl) HE.out (by kernel_rfl)) ?_
        refine wpAnyH_done (by kernel_rfl) ?_ _
        clear hS
        go_wp2_with fail
        go_roundw
        case rel => exact ⟨i + 1, by omega, by go_num, HNO2, HM⟩
        case measure => (simp [intOf]) <;> omega
    · obtain rfl : i = n := by omega
      go_wp2_with (first | refine m_rd ?_ | (refine m_wr ?_; clear HM HB; intro w b HM HB; try clear b) | fail)
      go_ret
      refine ⟨-1, rfl, fun h => ?_, fun _ => rfl, by omega, HB⟩
      unfold inL at h
      rw [getK_has] at h
      obtain ⟨q, hq, e⟩ := List.mem_map.1 h
      obtain ⟨j, hj⟩ := List.getElem?_of_mem hq
      exact absurd e (HNO.out j q (by have := (List.getElem?_eq_some_iff.1 hj).1; have := HN.out; omega) hj)
end Go.Proofs.Ytapncdgeigbgmaa.Tb
