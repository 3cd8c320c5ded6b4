/- Addresses: whether one is of nobody, or of many; in both texts. -/
import Derived.Test.YtahnibhcfdamdaaZk
set_option linter.unusedSimpArgs false
set_option linter.unusedVariables false
set_option maxRecDepth 100000
namespace Go.Proofs.Ytahnibhcfdamdaa.Rf
open Go.RowKit Go.Proofs.YtahnibhcfdamdaaW.PrintWords Go.Proofs.Ytahnibhcfdamdaa.Bs Go.Proofs.Ytahnibhcfdamdaa.Av Go.Proofs.Ytahnibhcfdamdaa.Ad Go.Proofs.Ytahnibhcfdamdaa.Hd Go.Proofs.Ytahnibhcfdamdaa.Mm Go.Proofs.Ytahnibhcfdamdaa.Le Go.Proofs.Ytahnibhcfdamdaa.Ip Go.Proofs.Ytahnibhcfdamdaa.En Go.Proofs.Ytahnibhcfdamdaa.Co Go.Proofs.Ytahnibhcfdamdaa.Os Go.Proofs.Ytahnibhcfdamdaa.Is Go.Proofs.Ytahnibhcfdamdaa.Pk

def unsA (x : List UInt8) : Bool := x == List.replicate 16 0
def mulA (v : Int) (x : List UInt8) : Bool := if v = 4 then decide (gb x 0 / 16 = 14) else decide (gb x 0 = 255)
theorem info16 : (Try.prog.info? 23).map (·.size) = some 16 := by kernel_rfl
theorem eql_arr (x y : List UInt8) (hx : x.length = 16) (hy : y.length = 16) : EqlOf 23 (encs B x).toArray (encs B y).toArray (x == y) := fun W => by
  have hf : ∀ k : List UInt8, k.length = 16 → (Value.agg (encs B k).toArray).formed Try.prog 23 = true := by
    intro k hk
    unfold Value.formed
    rw [Try.underlying23]
    have k0 : Try.prog.cellsOf 23 = 16 := by kernel_rfl
    simp [k0, encs_length, hk]
  have k2 : Try.prog.cellsOf 23 = 16 := by kernel_rfl
  have r1 := lits_arr 0 Try.underlying23 k2 x hx
  have r2 := lits_arr 0 Try.underlying23 k2 y hy
  obtain ⟨r, hr, hi⟩ := run_equalIn_deep (P := Try.prog) 9998 2 23 (by kernel_rfl) W 2 2 (.agg (encs B x).toArray) (.agg (encs B y).toArray) _ _ (hf x hx) (hf y hy) r1 r2
  rw [run_eql_struct, hr]
  show Result.ok (Value.bool r) W = _
  congr 2
  refine Bool.eq_iff_iff.2 (hi.trans ?_)
  rw [beq_iff_eq]
  exact ⟨fun h => LB_inj _ _ h, fun h => by rw [h]⟩
set_option maxHeartbeats 1000000 in
theorem uns_any (v : Int) (x : List UInt8) (w0 : World) (hx : x.length = 16) (hr : rightA v x = true) :
    Calls Try.prog 135 #[.agg (AV [v] x)] w0 fun e w' => e = .returned (.bool (unsA x)) ∧ Below w0.heap.size w0 w' := by
  have HC := Lib.hid (cellsA v x hx)
  have HX := Lib.hid hx
  have HP : Hid (∀ j u, (encs B x).toArray.toList[j]? = some u → (AV [v] x)[1 + j]? = some u) := Lib.hid (fun j u h => by
    have h' : (encs B x)[j]? = some u := by simpa using h
    have e : (AV [v] x)[1 + j]? = (AV [v] x).toList[1 + j]? := by simp
    rw [e, AV_list]
    rw [List.getElem?_append_right (by simp)]
    simpa using h')
  have HI : Hid ((Try.prog.info? 23).map (·.size) = some (encs B x).toArray.size) := Lib.hid (by rw [info16]; simp [encs_length, hx])
  have BH1 : Hid (Built 23 #[] (.agg (encs B (List.replicate 16 0)).toArray)) := Lib.hid (fun W => by kernel_rfl)
  have EQ1 := Lib.hid (eql_arr x (List.replicate 16 0) hx (by simp))
  unfold unsA
  generalize (x == List.replicate 16 0) = r at EQ1 ⊢
  generalize List.replicate 16 (0 : UInt8) = Z at BH1 EQ1
  clear hx
  have HM := Lib.hid (Mem.start w0)
  have HB := HM.out.below
  go_enter Try.func135, Try.ntmps135
  go_wp2_with (first | refine m_rd ?_ | (refine m_wr ?_; clear HM HB; intro w b HM HB; try clear b) | (refine m_ap ?_; clear HM HB; intro w Aq cq HM HB) | fail)
  refine (right_any v x _ HX.out).mono ?_
  rintro e w ⟨rfl, hb⟩
  replace HM := Lib.hid (HM.out.call hb)
  replace HB := HM.out.below
  clear hb
  rw [hr]
  go_wp2_with (first | (refine m_rd ?_ HM (Rd.part rfl rfl (by ((repeat (first | exact List.Mem.head _ | apply List.Mem.tail)); done)) HP.out HI.out (by kernel_rfl))) | refine m_rd ?_ | (refine m_wr ?_; clear HM HB; intro w b HM HB; try clear b) | (refine m_ap ?_; clear HM HB; intro w Aq cq HM HB) | fail)
  go_ret
  exact ⟨rfl, HB⟩
set_option maxHeartbeats 1000000 in
theorem refUns_any (v : Int) (x : List UInt8) (w0 : World) (hx : x.length = 16) (hr : rightA v x = true) :
    Calls Try.prog 118 #[.agg (AV [v] x)] w0 fun e w' => e = .returned (.bool (unsA x)) ∧ Below w0.heap.size w0 w' := by
  have HC := Lib.hid (cellsA v x hx)
  have HX := Lib.hid hx
  have HP : Hid (∀ j u, (encs B x).toArray.toList[j]? = some u → (AV [v] x)[1 + j]? = some u) := Lib.hid (fun j u h => by
    have h' : (encs B x)[j]? = some u := by simpa using h
    have e : (AV [v] x)[1 + j]? = (AV [v] x).toList[1 + j]? := by simp
    rw [e, AV_list]
    rw [List.getElem?_append_right (by simp)]
    simpa using h')
  have HI : Hid ((Try.prog.info? 23).map (·.size) = some (encs B x).toArray.size) := Lib.hid (by rw [info16]; simp [encs_length, hx])
  have BH1 : Hid (Built 23 #[] (.agg (encs B (List.replicate 16 0)).toArray)) := Lib.hid (fun W => by kernel_rfl)
  have EQ1 := Lib.hid (eql_arr x (List.replicate 16 0) hx (by simp))
  unfold unsA
  generalize (x == List.replicate 16 0) = r at EQ1 ⊢
  generalize List.replicate 16 (0 : UInt8) = Z at BH1 EQ1
  clear hx
  have HM := Lib.hid (Mem.start w0)
  have HB := HM.out.below
  go_enter Try.func118, Try.ntmps118
  go_wp2_with (first | refine m_rd ?_ | (refine m_wr ?_; clear HM HB; intro w b HM HB; try clear b) | (refine m_ap ?_; clear HM HB; intro w Aq cq HM HB) | fail)
  refine (refRight_any v x _ HX.out).mono ?_
  rintro e w ⟨rfl, hb⟩
  replace HM := Lib.hid (HM.out.call hb)
  replace HB := HM.out.below
  clear hb
  rw [hr]
  go_wp2_with (first | (refine m_rd ?_ HM (Rd.part rfl rfl (by ((repeat (first | exact List.Mem.head _ | apply List.Mem.tail)); done)) HP.out HI.out (by kernel_rfl))) | refine m_rd ?_ | (refine m_wr ?_; clear HM HB; intro w b HM HB; try clear b) | (refine m_ap ?_; clear HM HB; intro w Aq cq HM HB) | fail)
  go_ret
  exact ⟨rfl, HB⟩
set_option maxHeartbeats 1000000 in
theorem mul_any (v : Int) (x : List UInt8) (w0 : World) (hx : x.length = 16) (hr : rightA v x = true) :
    Calls Try.prog 117 #[.agg (AV [v] x)] w0 fun e w' => e = .returned (.bool (mulA v x)) ∧ Below w0.heap.size w0 w' := by
  have HC := Lib.hid (cellsA v x hx)
  have HX := Lib.hid hx
  have h0 := AV_at [v] x 1 0 rfl (by omega)
  rw [gb_getD] at h0
  have hg := gb_lt x 0
  unfold mulA
  by_cases h4 : v = 4
  · rw [if_pos h4]
    have hq : (v == 4) = true := by simpa using h4
    by_cases h : gb x 0 / 16 = 14
    · have t0 : (((gb x 0 : Nat) : Int) / 16 == 14) = true := by simp; omega
      rw [decide_eq_true h]
      generalize gb x 0 = g0 at *
      clear h h4 hx
      have HM := Lib.hid (Mem.start w0)
      have HB := HM.out.below
      go_enter Try.func117, Try.ntmps117
      go_wp2_with (first | refine m_rd ?_ | (refine m_wr ?_; clear HM HB; intro w b HM HB; try clear b) | (refine m_ap ?_; clear HM HB; intro w Aq cq HM HB) | fail)
      refine (right_any v x _ HX.out).mono ?_
      rintro e w ⟨rfl, hb⟩
      replace HM := Lib.hid (HM.out.call hb)
      replace HB := HM.out.below
      clear hb
      rw [hr]
      go_wp2_with (first | (refine m_rd ?_ HM (Rd.cell rfl (by kernel_rfl) rfl (by ((repeat (first | exact List.Mem.head _ | apply List.Mem.tail)); done)) h0)) | refine m_rd ?_ | (refine m_wr ?_; clear HM HB; intro w b HM HB; try clear b) | (refine m_ap ?_; clear HM HB; intro w Aq cq HM HB) | fail)
      go_ret
      exact ⟨rfl, HB⟩
    · have t0 : (((gb x 0 : Nat) : Int) / 16 == 14) = false := by simp; omega
      rw [decide_eq_false h]
      generalize gb x 0 = g0 at *
      clear h h4 hx
      have HM := Lib.hid (Mem.start w0)
      have HB := HM.out.below
      go_enter Try.func117, Try.ntmps117
      go_wp2_with (first | refine m_rd ?_ | (refine m_wr ?_; clear HM HB; intro w b HM HB; try clear b) | (refine m_ap ?_; clear HM HB; intro w Aq cq HM HB) | fail)
      refine (right_any v x _ HX.out).mono ?_
      rintro e w ⟨rfl, hb⟩
      replace HM := Lib.hid (HM.out.call hb)
      replace HB := HM.out.below
      clear hb
      rw [hr]
      go_wp2_with (first | (refine m_rd ?_ HM (Rd.cell rfl (by kernel_rfl) rfl (by ((repeat (first | exact List.Mem.head _ | apply List.Mem.tail)); done)) h0)) | refine m_rd ?_ | (refine m_wr ?_; clear HM HB; intro w b HM HB; try clear b) | (refine m_ap ?_; clear HM HB; intro w Aq cq HM HB) | fail)
      go_ret
      exact ⟨rfl, HB⟩
  · rw [if_neg h4]
    have hq : (v == 4) = false := by simpa using h4
    by_cases h : gb x 0 = 255
    · have t0 : (((gb x 0 : Nat) : Int) == 255) = true := by simp; omega
      rw [decide_eq_true h]
      generalize gb x 0 = g0 at *
      clear h h4 hx
      have HM := Lib.hid (Mem.start w0)
      have HB := HM.out.below
      go_enter Try.func117, Try.ntmps117
      go_wp2_with (first | refine m_rd ?_ | (refine m_wr ?_; clear HM HB; intro w b HM HB; try clear b) | (refine m_ap ?_; clear HM HB; intro w Aq cq HM HB) | fail)
      refine (right_any v x _ HX.out).mono ?_
      rintro e w ⟨rfl, hb⟩
      replace HM := Lib.hid (HM.out.call hb)
      replace HB := HM.out.below
      clear hb
      rw [hr]
      go_wp2_with (first | (refine m_rd ?_ HM (Rd.cell rfl (by kernel_rfl) rfl (by ((repeat (first | exact List.Mem.head _ | apply List.Mem.tail)); done)) h0)) | refine m_rd ?_ | (refine m_wr ?_; clear HM HB; intro w b HM HB; try clear b) | (refine m_ap ?_; clear HM HB; intro w Aq cq HM HB) | fail)
      go_ret
      exact ⟨rfl, HB⟩
    · have t0 : (((gb x 0 : Nat) : Int) == 255) = false := by simp; omega
      rw [decide_eq_false h]
      generalize gb x 0 = g0 at *
      clear h h4 hx
      have HM := Lib.hid (Mem.start w0)
      have HB := HM.out.below
      go_enter Try.func117, Try.ntmps117
      go_wp2_with (first | refine m_rd ?_ | (refine m_wr ?_; clear HM HB; intro w b HM HB; try clear b) | (refine m_ap ?_; clear HM HB; intro w Aq cq HM HB) | fail)
      refine (right_any v x _ HX.out).mono ?_
      rintro e w ⟨rfl, hb⟩
      replace HM := Lib.hid (HM.out.call hb)
      replace HB := HM.out.below
      clear hb
      rw [hr]
      go_wp2_with (first | (refine m_rd ?_ HM (Rd.cell rfl (by kernel_rfl) rfl (by ((repeat (first | exact List.Mem.head _ | apply List.Mem.tail)); done)) h0)) | refine m_rd ?_ | (refine m_wr ?_; clear HM HB; intro w b HM HB; try clear b) | (refine m_ap ?_; clear HM HB; intro w Aq cq HM HB) | fail)
      go_ret
      exact ⟨rfl, HB⟩
theorem right46 (v : Int) (x : List UInt8) (h : rightA v x = true) : v = 4 ∨ v = 6 := by
  unfold rightA at h
  simp at h
  rcases h with h | h
  · exact .inr h
  · exact .inl h.1
set_option maxHeartbeats 1000000 in
theorem refMul_any (v : Int) (x : List UInt8) (w0 : World) (hx : x.length = 16) (hr : rightA v x = true) :
    Calls Try.prog 119 #[.agg (AV [v] x)] w0 fun e w' => e = .returned (.bool (mulA v x)) ∧ Below w0.heap.size w0 w' := by
  have HC := Lib.hid (cellsA v x hx)
  have HX := Lib.hid hx
  have h0 := AV_at [v] x 1 0 rfl (by omega)
  rw [gb_getD] at h0
  have hg := gb_lt x 0
  unfold mulA
  have hv := right46 v x hr
  by_cases h4 : v = 4
  · rw [if_pos h4]
    have hq : (v == 6) = false := by rw [h4]; rfl
    by_cases ha : 224 ≤ gb x 0
    · have s0 : decide ((224 : Int) ≤ ((gb x 0 : Nat) : Int)) = true := by simp; omega
      by_cases h : gb x 0 / 16 = 14
      · have t0 : decide (((gb x 0 : Nat) : Int) ≤ 239) = true := by simp; omega
        rw [decide_eq_true h]
        generalize gb x 0 = g0 at *
        clear h h4 hx ha hv
        have HM := Lib.hid (Mem.start w0)
        have HB := HM.out.below
        go_enter Try.func119, Try.ntmps119
        go_wp2_with (first | (refine m_rd ?_ HM (Rd.cell rfl (by kernel_rfl) rfl (by ((repeat (first | exact List.Mem.head _ | apply List.Mem.tail)); done)) h0)) | refine m_rd ?_ | (refine m_wr ?_; clear HM HB; intro w b HM HB; try clear b) | (refine m_ap ?_; clear HM HB; intro w Aq cq HM HB) | fail)
        refine (refRight_any v x _ HX.out).mono ?_
        rintro e w ⟨rfl, hb⟩
        replace HM := Lib.hid (HM.out.call hb)
        replace HB := HM.out.below
        clear hb
        rw [hr]
        go_wp2_with (first | (refine m_rd ?_ HM (Rd.cell rfl (by kernel_rfl) rfl (by ((repeat (first | exact List.Mem.head _ | apply List.Mem.tail)); done)) h0)) | refine m_rd ?_ | (refine m_wr ?_; clear HM HB; intro w b HM HB; try clear b) | (refine m_ap ?_; clear HM HB; intro w Aq cq HM HB) | fail)
        go_ret
        exact ⟨rfl, HB⟩
      · have t0 : decide (((gb x 0 : Nat) : Int) ≤ 239) = false := by simp; omega
        rw [decide_eq_false h]
        generalize gb x 0 = g0 at *
        clear h h4 hx ha hv
        have HM := Lib.hid (Mem.start w0)
        have HB := HM.out.below
        go_enter Try.func119, Try.ntmps119
        go_wp2_with (first | (refine m_rd ?_ HM (Rd.cell rfl (by kernel_rfl) rfl (by ((repeat (first | exact List.Mem.head _ | apply List.Mem.tail)); done)) h0)) | refine m_rd ?_ | (refine m_wr ?_; clear HM HB; intro w b HM HB; try clear b) | (refine m_ap ?_; clear HM HB; intro w Aq cq HM HB) | fail)
        refine (refRight_any v x _ HX.out).mono ?_
        rintro e w ⟨rfl, hb⟩
        replace HM := Lib.hid (HM.out.call hb)
        replace HB := HM.out.below
        clear hb
        rw [hr]
        go_wp2_with (first | (refine m_rd ?_ HM (Rd.cell rfl (by kernel_rfl) rfl (by ((repeat (first | exact List.Mem.head _ | apply List.Mem.tail)); done)) h0)) | refine m_rd ?_ | (refine m_wr ?_; clear HM HB; intro w b HM HB; try clear b) | (refine m_ap ?_; clear HM HB; intro w Aq cq HM HB) | fail)
        go_ret
        exact ⟨rfl, HB⟩
    · have s0 : decide ((224 : Int) ≤ ((gb x 0 : Nat) : Int)) = false := by simp; omega
      rw [decide_eq_false (show ¬ gb x 0 / 16 = 14 by omega)]
      generalize gb x 0 = g0 at *
      clear h4 hx ha hv
      have HM := Lib.hid (Mem.start w0)
      have HB := HM.out.below
      go_enter Try.func119, Try.ntmps119
      go_wp2_with (first | (refine m_rd ?_ HM (Rd.cell rfl (by kernel_rfl) rfl (by ((repeat (first | exact List.Mem.head _ | apply List.Mem.tail)); done)) h0)) | refine m_rd ?_ | (refine m_wr ?_; clear HM HB; intro w b HM HB; try clear b) | (refine m_ap ?_; clear HM HB; intro w Aq cq HM HB) | fail)
      refine (refRight_any v x _ HX.out).mono ?_
      rintro e w ⟨rfl, hb⟩
      replace HM := Lib.hid (HM.out.call hb)
      replace HB := HM.out.below
      clear hb
      rw [hr]
      go_wp2_with (first | (refine m_rd ?_ HM (Rd.cell rfl (by kernel_rfl) rfl (by ((repeat (first | exact List.Mem.head _ | apply List.Mem.tail)); done)) h0)) | refine m_rd ?_ | (refine m_wr ?_; clear HM HB; intro w b HM HB; try clear b) | (refine m_ap ?_; clear HM HB; intro w Aq cq HM HB) | fail)
      go_ret
      exact ⟨rfl, HB⟩
  · rw [if_neg h4]
    have hq : (v == 6) = true := by rcases hv with h | h; exact absurd h h4; rw [h]; rfl
    by_cases h : gb x 0 = 255
    · have t0 : (((gb x 0 : Nat) : Int) == 255) = true := by simp; omega
      rw [decide_eq_true h]
      generalize gb x 0 = g0 at *
      clear h h4 hx hv
      have HM := Lib.hid (Mem.start w0)
      have HB := HM.out.below
      go_enter Try.func119, Try.ntmps119
      go_wp2_with (first | (refine m_rd ?_ HM (Rd.cell rfl (by kernel_rfl) rfl (by ((repeat (first | exact List.Mem.head _ | apply List.Mem.tail)); done)) h0)) | refine m_rd ?_ | (refine m_wr ?_; clear HM HB; intro w b HM HB; try clear b) | (refine m_ap ?_; clear HM HB; intro w Aq cq HM HB) | fail)
      go_ret
      exact ⟨rfl, HB⟩
    · have t0 : (((gb x 0 : Nat) : Int) == 255) = false := by simp; omega
      rw [decide_eq_false h]
      generalize gb x 0 = g0 at *
      clear h h4 hx hv
      have HM := Lib.hid (Mem.start w0)
      have HB := HM.out.below
      go_enter Try.func119, Try.ntmps119
      go_wp2_with (first | (refine m_rd ?_ HM (Rd.cell rfl (by kernel_rfl) rfl (by ((repeat (first | exact List.Mem.head _ | apply List.Mem.tail)); done)) h0)) | refine m_rd ?_ | (refine m_wr ?_; clear HM HB; intro w b HM HB; try clear b) | (refine m_ap ?_; clear HM HB; intro w Aq cq HM HB) | fail)
      go_ret
      exact ⟨rfl, HB⟩
end Go.Proofs.Ytahnibhcfdamdaa.Rf
