/- Package flow: which flow is ahead; the talk. -/
import Derived.Test.YtkfjobanbnokoaaVc
set_option linter.unusedSimpArgs false
set_option linter.unusedVariables false
set_option linter.unusedSectionVars false
set_option maxRecDepth 100000
namespace Go.Proofs.Ytkfjobanbnokoaa.Fw
open Go.RowKit Go.Proofs.YtkfjobanbnokoaaW.PrintWords Go.Proofs.Ytkfjobanbnokoaa.Bs Go.Proofs.Ytkfjobanbnokoaa.Gm

theorem load_bytes {P : Program} {w : World} : ∀ (l : List UInt8) (ad : Addr) (acc : ByteArray), (∀ j, j < l.length → w.cell? (ad.add j) = some (B (l.getD j 0))) → (Extern.Bytes.loadBytes ad l.length acc).run P w = .ok ⟨acc.data ++ l.toArray⟩ w
  | [], ad, acc, _ => by simp [Extern.Bytes.loadBytes]
  | x :: l, ad, acc, h => by
    have h0 := h 0 (by simp)
    have e0 : ad.add 0 = ad := by unfold Addr.add; simp
    rw [e0] at h0
    have ih := load_bytes (P := P) (w := w) l (ad.add 1) (acc.push x) (fun j hj => by
      have := h (j + 1) (by simpa using hj)
      rw [Gm.add_add, Nat.add_comm 1 j]
      simpa using this)
    have hx : ((x.toNat : Int).toNat).toUInt8 = x := by rw [Int.toNat_natCast]; exact UInt8.ofNat_toNat
    have hB : B x = .int .u8 (x.toNat : Int) := rfl
    have e : (⟨(acc.push x).data ++ l.toArray⟩ : ByteArray) = ⟨acc.data ++ (x :: l).toArray⟩ := by
      congr 1
      apply Array.ext'
      simp [ByteArray.push]
    rw [List.length_cons]
    unfold Extern.Bytes.loadBytes
    simp only [Sem.run_bind, run_load, h0, List.getD_cons_zero, Result.andThen, hB, hx]
    rw [ih, e]
theorem run_bytesOf {P : Program} {w : World} {v : Value} {l : List UInt8} (h : RB w v l) : (Extern.Bytes.bytesOf v).run P w = .ok ⟨l.toArray⟩ w := by
  obtain ⟨A, c, rfl, hc, hr⟩ := h
  cases hA : A with
  | none =>
    have : l = [] := by
      cases l with
      | nil => rfl
      | cons x l =>
        obtain ⟨ad, e, _⟩ := hr.2.2 (by simp)
        rw [hA] at e; cases e
    subst this
    simp [Extern.Bytes.bytesOf]; rfl
  | some ad =>
    subst hA
    unfold Extern.Bytes.bytesOf
    rw [load_bytes l ad .empty (fun j hj => by
      obtain ⟨ad', e, hcell⟩ := hr.2.2 (by omega)
      injection e with e
      subst e
      exact hcell j hj)]
    rw [show ByteArray.empty.data = #[] from rfl, Array.empty_append]
theorem bytesCompare_any {v u : Value} {x y : List UInt8} {w : World} (hx : RB w v x) (hy : RB w u y) : Calls Try.prog 82 #[v, u] w fun e w' => e = .returned (.int .i64 (Lib.compareBytes x y)) ∧ w = w' := by
  have h1 := run_bytesOf (P := Try.prog) hx
  have h2 := run_bytesOf (P := Try.prog) hy
  have hrun : (Extern.BytealgCompare.compare #[v, u]).run Try.prog w = .ok (.int .i64 (Lib.compareBytes x y)) w := by
    change Sem.run Try.prog (do pure (goInt (Extern.BytealgCompare.cmp (← Extern.Bytes.bytesOf v) (← Extern.Bytes.bytesOf u)))) w = _
    simp only [Sem.run_bind, h1, h2, Result.andThen, Sem.run_pure, Lib.cmp_eq]
    rfl
  have H := Lib.hid hrun
  clear hx hy h1 h2 hrun
  go_enter Try.func82, Try.ntmps82
  go_wp2
  rw [run_callFunc_extern Try.func93 (by kernel_rfl) (by kernel_rfl) (by kernel_rfl) (e := Extern.BytealgCompare.compare) (by kernel_rfl), H.out]
  simp only [Result.andThen]
  rw [Oper.upon_value]
  go_wp2
  go_ret
  exact ⟨rfl, rfl⟩
theorem adr_v (a : Adr) : (adrC a)[0]? = some (.int .i64 a.v.toInt) := by
  rw [show (adrC a)[0]? = (adrC a).toList[0]? by simp]
  simp only [adrC, Array.toList_append, List.cons_append, List.nil_append]
  rfl
theorem adr_b (a : Adr) (j : Nat) (hj : j < 16) : (adrC a)[1 + j]? = some (B (a.b.toList.getD j 0)) := by
  unfold adrC
  rw [Array.getElem?_append_right (by simp)]
  simp [b16C, hj, B]
theorem adr_rb {w : World} {b : Nat} {a : Adr} (h : w.heap[b]? = some (.cells (adrC a) 26 (0, 0))) : RB w (.slice (some ⟨b, 1, none⟩) 16 16) a.b.toList := by
  refine ⟨some ⟨b, 1, none⟩, 16, by simp, by simp, by simp, by simp, fun _ => ⟨_, rfl, fun j hj => ?_⟩⟩
  have e : (⟨b, 1, none⟩ : Addr).add j = ⟨b, 1 + j, none⟩ := by
    unfold Addr.add
    split
    · next h => subst h; rfl
    · rfl
  rw [e]
  exact (blk_cell h _).trans (adr_b a j (by simpa using hj))
set_option maxHeartbeats 1000000 in
theorem addrLess_any (x y : Adr) (w0 : World) : Calls Try.prog 73 #[.agg (adrC x), .agg (adrC y)] w0 fun e w' => e = .returned (.bool (lessA x y)) ∧ Below w0.heap.size w0 w' := by
  have CV1 := Lib.hid (adr_v x)
  have CV2 := Lib.hid (adr_v y)
  have CX := Lib.hid (cellsAdr x)
  have CY := Lib.hid (cellsAdr y)
  have hxy : x.v = y.v ↔ x.v.toInt = y.v.toInt := (Int64.toInt_inj).symm
  by_cases hv : x.v = y.v
  · have hne : (x.v.toInt != y.v.toInt) = false := by simp [hv]
    have hr : lessA x y = decide (Lib.compareBytes x.b.toList y.b.toList < 0) := by rw [lessA_is, if_neg (by simpa using hv)]
    rw [hr]
    have HRX : Hid (∀ (w : World) (b : Nat), w.heap[b]? = some (.cells (adrC x) 26 (0, 0)) → RB w (.slice (some ⟨b, 1, none⟩) 16 16) x.b.toList) := Lib.hid fun w b h => adr_rb h
    have HRY : Hid (∀ (w : World) (b : Nat), w.heap[b]? = some (.cells (adrC y) 26 (0, 0)) → RB w (.slice (some ⟨b, 1, none⟩) 16 16) y.b.toList) := Lib.hid fun w b h => adr_rb h
    clear hr hv hxy
    generalize x.v.toInt = vx at *
    generalize y.v.toInt = vy at *
    generalize x.b.toList = lx at *
    generalize y.b.toList = ly at *
    generalize adrC x = cx at *
    generalize adrC y = cy at *
    clear x y
    have HM := Lib.hid (Mem.start w0)
    have HB := HM.out.below
    go_enter Try.func73, Try.ntmps73
    go_wp2_with (first | refine m_rd ?_ | (refine m_wr ?_; clear HM HB; intro w b HM HB; try clear b) | fail)
    try simp only [Act.put, List.setIfInBounds_toArray, List.set_cons_zero, List.set_cons_succ]
    refine wp_region_held_drew (S := fun w' => Below w0.heap.size w0 w') (by kernel_rfl) (below_drew HB) (fun hS => ?_)
    replace HM := Lib.hid HM.out.drew
    replace HB := HM.out.below
    refine tk 0 15 ?_
    refine tk 1 16 ?_
    refine tk 2 17 ?_
    refine tk 3 18 ?_
    refine rone 4 rfl fun K' hK => ?_
    go_simp
    refine (bytesCompare_any (HRX.out _ _ (HM.out.get (by (first | ((repeat (first | with_reducible exact List.Mem.head _ | with_reducible apply List.Mem.tail)); done) | ((repeat (first | exact List.Mem.head _ | apply List.Mem.tail)); done))))) (HRY.out _ _ (HM.out.get (by (first | ((repeat (first | with_reducible exact List.Mem.head _ | with_reducible apply List.Mem.tail)); done) | ((repeat (first | exact List.Mem.head _ | apply List.Mem.tail)); done)))))).mono ?_
    rintro e w' ⟨rfl, rfl⟩
    refine hK.out _ _ (HB) (fun hS2 => ?_)
    clear hS hK
    have hS := hS2
    clear hS2
    try simp only [Act.put, List.setIfInBounds_toArray, List.set_cons_zero, List.set_cons_succ]
    refine tk 5 20 ?_
    refine tk 6 4 ?_
    refine wpAnyH_done (by kernel_rfl) ?_ _
    clear hS
    go_wp2_with fail
    go_ret
    exact ⟨rfl, HB⟩
  · have hne : (x.v.toInt != y.v.toInt) = true := by simpa using fun e => hv (hxy.2 e)
    have hr : lessA x y = decide (x.v.toInt < y.v.toInt) := by rw [lessA_is, if_pos hv]
    rw [hr]
    clear hr hv hxy
    generalize x.v.toInt = vx at *
    generalize y.v.toInt = vy at *
    generalize adrC x = cx at *
    generalize adrC y = cy at *
    clear x y
    have HM := Lib.hid (Mem.start w0)
    have HB := HM.out.below
    go_enter Try.func73, Try.ntmps73
    go_wp2_with (first | refine m_rd ?_ | (refine m_wr ?_; clear HM HB; intro w b HM HB; try clear b) | fail)
    go_ret
    exact ⟨rfl, HB⟩
end Go.Proofs.Ytkfjobanbnokoaa.Fw
