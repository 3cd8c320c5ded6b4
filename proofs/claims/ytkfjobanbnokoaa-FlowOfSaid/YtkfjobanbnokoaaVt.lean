/- Layer 54: the chapter's example. -/
import Derived.Test.YtkfjobanbnokoaaVs
import Derived.Test.YtkfjobanbnokoaaZd
set_option linter.unusedSimpArgs false
set_option linter.unusedVariables false
set_option linter.unusedSectionVars false
set_option maxRecDepth 100000
namespace Go.Proofs.Ytkfjobanbnokoaa.Fw
open Go.RowKit Go.Proofs.YtkfjobanbnokoaaW.PrintWords Go.Proofs.Ytkfjobanbnokoaa.Bs Go.Proofs.Ytkfjobanbnokoaa.Gm
open Go.Proofs.Ytkfjobanbnokoaa.Hd (HV)
open Go.Proofs.Ytkfjobanbnokoaa.Av (AV)

def ip1 : List UInt8 := [10, 0, 0, 1, 0, 0, 0, 0, 0, 0, 0, 0, 0, 0, 0, 0]
def ip2 : List UInt8 := [10, 0, 0, 2, 0, 0, 0, 0, 0, 0, 0, 0, 0, 0, 0, 0]
def pkX : List UInt8 := Ip.all4 0 0 0 0 0 17 [10, 0, 0, 1] [10, 0, 0, 2] [0, 5, 0, 6]
def pkY : List UInt8 := Ip.all4 0 0 0 0 0 17 [10, 0, 0, 2] [10, 0, 0, 1] [0, 6, 0, 5]
def flX : Flow := ⟨4, 17, ⟨4, b16 ip1⟩, ⟨4, b16 ip2⟩, 5, 6⟩
def talX (b q : Int) : Tal := ⟨flX, 1, b, 24, q⟩
theorem noteX : noteP [] 4 pkX = ([(flX, talX 0 0)], 0) := by decide +kernel
theorem noteY : noteP [(flX, talX 0 0)] 4 pkY = ([(flX, talX 1 24)], 0) := by decide +kernel
theorem zeroAdr : ZeroOf 26 Ad.ZA := ⟨Ad.zeroA, Ad.info_ZA, Av.AV_one _ _⟩
theorem cellsA4 {x : List UInt8} (h : x.length = 16) : Cells 26 (AV [4] x) := ⟨Ad.info_AV _ _ h, Av.AV_one _ _⟩
def hdX : Array Value := HV [0, 0, 0, 0, 0, 0, 0, 0, 17] 4 ip1 4 ip2
def hdY : Array Value := HV [0, 0, 0, 0, 0, 0, 0, 0, 17] 4 ip2 4 ip1
set_option maxHeartbeats 2000000 in
theorem alive_any (w0 : World) : Calls Try.prog 7 #[] w0 fun e w' => e = .returned (.bool true) ∧ Below w0.heap.size w0 w' := by
  have AL1 := Lib.hid zeroAdr
  have HCA := Lib.hid (cellsA4 (x := ip1) rfl)
  have HCB := Lib.hid (cellsA4 (x := ip2) rfl)
  have BH1 : Hid (Built 24 #[(0, .int .u8 10), (1, .int .u8 0), (2, .int .u8 0), (3, .int .u8 1)] (.agg (encs B ip1).toArray)) := Lib.hid fun W => by kernel_rfl
  have BH2 : Hid (Built 24 #[(0, .int .u8 10), (1, .int .u8 0), (2, .int .u8 0), (3, .int .u8 2)] (.agg (encs B ip2).toArray)) := Lib.hid fun W => by kernel_rfl
  have BH3 : Hid (Built 26 #[(0, .int .i64 4), (1, .agg (encs B ip1).toArray)] (.agg (AV [4] ip1))) := Lib.hid fun W => by kernel_rfl
  have BH4 : Hid (Built 26 #[(0, .int .i64 4), (1, .agg (encs B ip2).toArray)] (.agg (AV [4] ip2))) := Lib.hid fun W => by kernel_rfl
  have BH5 : Hid (Built 67 #[(8, .int .i64 17), (9, .agg (AV [4] ip1)), (10, .agg (AV [4] ip2))] (.agg hdX)) := Lib.hid fun W => by kernel_rfl
  have BH6 : Hid (Built 67 #[(8, .int .i64 17), (9, .agg (AV [4] ip2)), (10, .agg (AV [4] ip1))] (.agg hdY)) := Lib.hid fun W => by kernel_rfl
  have LT1 : Hid (LitR R8 4 #[(0, .int .u8 0), (1, .int .u8 5), (2, .int .u8 0), (3, .int .u8 6)] [0, 5, 0, 6]) := Lib.hid ⟨rfl, by decide, fun W => by kernel_rfl⟩
  have LT2 : Hid (LitR R8 4 #[(0, .int .u8 0), (1, .int .u8 6), (2, .int .u8 0), (3, .int .u8 5)] [0, 6, 0, 5]) := Lib.hid ⟨rfl, by decide, fun W => by kernel_rfl⟩
  have HPX : Hid (∀ (w : World) (v : Value), RB w v [0, 5, 0, 6] → Calls Try.prog 28 #[.agg hdX, v] w (En.RowTup w pkX)) := Lib.hid fun w v hr => Is.put4_ok 0 0 0 0 0 0 0 0 17 ip1 ip2 v _ w hr rfl rfl (by decide) (by decide) (by decide) (by decide) (by decide) (by decide) rfl rfl (by decide)
  have HPY : Hid (∀ (w : World) (v : Value), RB w v [0, 6, 0, 5] → Calls Try.prog 28 #[.agg hdY, v] w (En.RowTup w pkY)) := Lib.hid fun w v hr => Is.put4_ok 0 0 0 0 0 0 0 0 17 ip2 ip1 v _ w hr rfl rfl (by decide) (by decide) (by decide) (by decide) (by decide) (by decide) rfl rfl (by decide)
  have HLX : Hid (pkX.length = 24) := Lib.hid (by decide +kernel)
  have HLY : Hid (pkY.length = 24) := Lib.hid (by decide +kernel)
  have HNX := Lib.hid noteX
  have HNY := Lib.hid noteY
  generalize hpx : pkX = px at *
  generalize hpy : pkY = py at *
  generalize hdX = hx at *
  generalize hdY = hy at *
  generalize (AV [4] ip1) = a1 at *
  generalize (AV [4] ip2) = a2 at *
  generalize (encs B ip1).toArray = e1 at *
  generalize (encs B ip2).toArray = e2 at *
  clear hpx hpy
  have HM := Lib.hid (Mem.start w0)
  have HB := HM.out.below
  go_enter Try.func7, Try.ntmps7
  go_wp2_with (first | (((with_reducible apply m_wrh); (next => exact HM); (next => exact wanted_none rfl); ((with_reducible apply Wr.litR law8); (next => exact rfl); (next => exact LT1.out); (next => first | (go_simp; done) | exact rfl)); clear HM HB; intro w b HM HB; try clear b); (try simp only [Act.put, List.setIfInBounds_toArray, List.set_cons_zero, List.set_cons_succ])) | (refine m_rd ?_; (try simp only [Act.put, List.setIfInBounds_toArray, List.set_cons_zero, List.set_cons_succ])) | (refine m_wr ?_; clear HM HB; intro w b HM HB; (try simp only [Act.put, List.setIfInBounds_toArray, List.set_cons_zero, List.set_cons_succ]); try clear b) | fail)
  refine (HPX.out w _ (HM.out.rb (by (first | ((repeat (first | with_reducible exact List.Mem.head _ | with_reducible apply List.Mem.tail)); done) | ((repeat (first | exact List.Mem.head _ | apply List.Mem.tail)); done))))).mono ?_
  rintro e w ⟨v1, rfl, ho, hb⟩
  replace HM := Lib.hid (HM.out.row8 hb ho)
  replace HB := HM.out.below
  clear ho hb
  go_wp2_with (first | (((with_reducible apply m_wrh); (next => exact HM); (next => exact wanted_none rfl); ((with_reducible apply Wr.litR law8); (next => exact rfl); (next => exact LT2.out); (next => first | (go_simp; done) | exact rfl)); clear HM HB; intro w b HM HB; try clear b); (try simp only [Act.put, List.setIfInBounds_toArray, List.set_cons_zero, List.set_cons_succ])) | (refine m_rd ?_; (try simp only [Act.put, List.setIfInBounds_toArray, List.set_cons_zero, List.set_cons_succ])) | (refine m_wr ?_; clear HM HB; intro w b HM HB; (try simp only [Act.put, List.setIfInBounds_toArray, List.set_cons_zero, List.set_cons_succ]); try clear b) | fail)
  refine (HPY.out w _ (HM.out.rb (by (first | ((repeat (first | with_reducible exact List.Mem.head _ | with_reducible apply List.Mem.tail)); done) | ((repeat (first | exact List.Mem.head _ | apply List.Mem.tail)); done))))).mono ?_
  rintro e w ⟨v2, rfl, ho, hb⟩
  replace HM := Lib.hid (HM.out.row8 hb ho)
  replace HB := HM.out.below
  clear ho hb HPX HPY
  obtain ⟨A1, c1, rfl, -, -⟩ := HM.out.rb (v := v1) (l := px) (by (first | ((repeat (first | with_reducible exact List.Mem.head _ | with_reducible apply List.Mem.tail)); done) | ((repeat (first | exact List.Mem.head _ | apply List.Mem.tail)); done)))
  obtain ⟨A2, c2, rfl, -, -⟩ := HM.out.rb (v := v2) (l := py) (by (first | ((repeat (first | with_reducible exact List.Mem.head _ | with_reducible apply List.Mem.tail)); done) | ((repeat (first | exact List.Mem.head _ | apply List.Mem.tail)); done)))
  go_wp2_with fail
  refine (new_in 4 HM).mono ?_
  rintro e w ⟨bt, bm, rfl, HM'⟩
  replace HM := HM'
  replace HB := HM.out.below
  clear HM'
  rw [show min (max (4 : Int) 1) 1024 = 4 by decide] at HM
  go_wp2_with fail
  have hn1 := note_any HM (A := A1) (c := c1) (b := px) (HM.out.rb (by (first | ((repeat (first | with_reducible exact List.Mem.head _ | with_reducible apply List.Mem.tail)); done) | ((repeat (first | exact List.Mem.head _ | apply List.Mem.tail)); done)))) (by rw [HLX.out]; decide) (fun x h => by cases h)
  rw [HNX.out] at hn1
  refine hn1.mono ?_
  rintro e w ⟨rfl, HM'⟩
  replace HM := HM'
  replace HB := HM.out.below
  clear HM' hn1
  go_wp2_with fail
  have hn2 := note_any HM (A := A2) (c := c2) (b := py) (HM.out.rb (by (first | ((repeat (first | with_reducible exact List.Mem.head _ | with_reducible apply List.Mem.tail)); done) | ((repeat (first | exact List.Mem.head _ | apply List.Mem.tail)); done)))) (by rw [HLY.out]; decide) (fun x h => by
    have : x = talX 0 0 ∨ False := by
      unfold getK at h
      simp only [List.find?] at h
      split at h <;> simp_all
    rcases this with rfl | h
    · unfold Fit talX; decide
    · exact h.elim)
  rw [HNY.out] at hn2
  refine hn2.mono ?_
  rintro e w ⟨rfl, HM'⟩
  replace HM := HM'
  replace HB := HM.out.below
  clear HM' hn2
  go_wp2_with fail
  refine (all_any HM (by decide) (fun p hp => by
    have : p = (flX, talX 1 24) := by simpa using hp
    subst this; rfl)).mono ?_
  rintro e w ⟨A, c, ts, rfl, ⟨hp, -⟩, HM'⟩
  obtain rfl : ts = [talX 1 24] := List.perm_singleton.1 hp
  replace HM := HM'
  replace HB := HM.out.below
  clear HM' hp
  obtain ⟨ad, e, hr⟩ := (HM.out.rw_ (R := RTal) (l := [talX 1 24]) LTal (by (first | ((repeat (first | with_reducible exact List.Mem.head _ | with_reducible apply List.Mem.tail)); done) | ((repeat (first | exact List.Mem.head _ | apply List.Mem.tail)); done)))).elem LTal (i := 0) rfl
  subst e
  have c38 : w.cell? ⟨ad.block, ad.off + 38, none⟩ = some (.int .i64 1) := by
    have := hr 38 _ (tal_o _)
    rwa [Gm.add_add, show 0 * RTal.k + 38 = 38 from rfl, Av.add_lit _ _ (by decide)] at this
  have c39 : w.cell? ⟨ad.block, ad.off + 39, none⟩ = some (.int .i64 1) := by
    have := hr 39 _ (tal_b _)
    rwa [Gm.add_add, show 0 * RTal.k + 39 = 39 from rfl, Av.add_lit _ _ (by decide)] at this
  have c36 : w.cell? ⟨ad.block, ad.off + 36, none⟩ = some (.int .i64 5) := by
    have := hr 36 (iV 5) (by
      have := tal_k (talX 1 24) 36 (iV 5) (by rw [← at_list]; exact flow_sp flX)
      rwa [Nat.zero_add] at this)
    rwa [Gm.add_add, show 0 * RTal.k + 36 = 36 from rfl, Av.add_lit _ _ (by decide)] at this
  clear hr
  rw [show [talX 1 24].length = 1 from rfl]
  go_wp2
  go_ret
  exact ⟨rfl, HB⟩
end Go.Proofs.Ytkfjobanbnokoaa.Fw
