/- Package capture's statements: the bytes of any records, there and back. -/
import Derived.Test.YtnehbhhjdjiieaaCz
import Derived.Test.YtnehbhhjdjiieaaDo
set_option linter.unusedSimpArgs false
set_option linter.unusedVariables false
set_option maxRecDepth 100000
namespace Go.Proofs.Ytnehbhhjdjiieaa.Cp
open Go.RowKit Go.Proofs.YtnehbhhjdjiieaaW.PrintWords Go.Proofs.Ytnehbhhjdjiieaa.Bs Go.Proofs.Ytnehbhhjdjiieaa.Gm Go.Proofs.Ytnehbhhjdjiieaa.Le Go.Proofs.Ytnehbhhjdjiieaa.En

theorem recs_len (big : Bool) : ∀ l : List RV, (∀ p ∈ l, p.r.d.length ≤ 1000) → (recsB big (l.map (·.r))).length ≤ 1016 * l.length
  | [], _ => by simp [recsB]
  | p :: l, h => by
    have ih := recs_len big l (fun q hq => h q (List.mem_cons_of_mem _ hq))
    have h1 := h p (List.mem_cons_self ..)
    have e : recsB big ((p :: l).map (·.r)) = recB big p.r ++ recsB big (l.map (·.r)) := rfl
    rw [e, List.length_append, recB_length, List.length_cons]
    omega
theorem allRight_take {l : List RV} {i : Nat} {p : RV} (h : l[i]? = some p) : allRight (l.take (i + 1)) = (allRight (l.take i) && rightR p.r) := by
  rw [List.take_add_one, h]
  unfold allRight
  simp [List.all_append]
theorem take_snocV {l : List RV} {i : Nat} {p : RV} (h : l[i]? = some p) : l.take (i + 1) = l.take i ++ [p] := by rw [List.take_add_one, h]; rfl
theorem litV (p : RV) : LitR RD 1 #[(0, .agg (encV p))] [p] := litD p
theorem build4V (p : RV) : Built 75 #[(0, .int .u32 (p.r.s : Int)), (1, .int .u32 (p.r.u : Int)), (2, .int .u32 (p.r.z : Int)), (3, .slice p.A p.r.d.length p.c)] (.agg (encV p)) := build4 _ _ _ _ _ _
open Go.ChangeShapes Go.WideShapes Go.Proofs.Ytnehbhhjdjiieaa.Mv in
/-- The cells of a record. -/
theorem cells_record {H : Type} {enc : TypeId × Value → H} {W : World} {base : Nat} {spare : Nat → Bool} {held : Bool} {fuel : Nat} {cs : List Value} {x : DataW H × List MemPlace} (h : DataW.trod enc Try.prog W base spare held fuel 74 cs = some x) :
    ∃ p : RV, cs = (encV p).toList ∧ p.r.fits ∧ RB W (.slice p.A p.r.d.length p.c) p.r.d := by
  obtain ⟨xs, n, _, _, hcl, hxl, hf⟩ := DataW.trod_struct Try.underlying74 h
  rw [show Try.prog.cellsOf 74 = 4 by kernel_rfl] at hcl
  have hxl' : xs.length = 4 := hxl
  obtain ⟨y0, h0⟩ := fld hf 0 _ rfl 22 0 1 rfl rfl (by kernel_rfl) (by omega)
  obtain ⟨y1, h1⟩ := fld hf 1 _ rfl 22 1 1 rfl rfl (by kernel_rfl) (by omega)
  obtain ⟨y2, h2⟩ := fld hf 2 _ rfl 22 2 1 rfl rfl (by kernel_rfl) (by omega)
  obtain ⟨y3, h3⟩ := fld hf 3 _ rfl 27 3 1 rfl rfl (by kernel_rfl) (by omega)
  obtain ⟨s, e0, hs⟩ := num_cell h0
  obtain ⟨u, e1, hu⟩ := num_cell h1
  obtain ⟨z, e2, hz⟩ := num_cell h2
  have e3 := one_cell (cs := cs) (a := 3) (by omega)
  rw [e3] at h3
  obtain ⟨l, hl⟩ := cell_bytes h3
  obtain ⟨A, k, e4, hk, hrd⟩ := hl
  refine ⟨⟨⟨s, u, z, l⟩, A, k⟩, ?_, ⟨hs, hu, hz⟩, ⟨A, k, rfl, hk, hrd⟩⟩
  have hc3 := cut2 cs 1 (1 + (1 + 1)) (by omega)
  rw [cut3, cut3, e0, e1, e2, e3, e4] at hc3
  exact hc3
open Go.ChangeShapes Go.WideShapes in
theorem op_records {H : Type} {enc : TypeId × Value → H} {W : World} {base : Nat} {spare : Nat → Bool} {held : Bool} {v : Value} {d : DataW H} {ps : List MemPlace} {r : Reach} {b2 : Nat} (hv : Value.okWide Try.prog W r b2 71 v) (h : DataW.Trod enc Try.prog W base spare held 71 v d ps) :
    ∃ A c l, v = .slice A l.length c ∧ RW RC W (.slice A l.length c) l ∧ ∀ p ∈ l, p.r.fits ∧ RB W (.slice p.A p.r.d.length p.c) p.r.d := by
  obtain ⟨a, len, cap, rfl⟩ := okWide_slice Try.underlying71 hv
  obtain ⟨fuel, hf⟩ := h
  have hf' : DataW.trod enc Try.prog W base spare held fuel 71 [.slice a len cap] = some (d, ps) := by simpa [Value.cells] using hf
  rcases Go.Deep.open_slice Try.underlying71 hf' with ⟨hcs, _⟩ | ⟨a', l, c, m, n, D, Pl, hcs, _, hl, hm, hmm, _, hx⟩
  · injection hcs with hcs
    injection hcs with e1 e2 e3
    subst e1 e2 e3
    exact ⟨none, 0, [], rfl, RW.nil _ _, fun p hp => absurd hp List.not_mem_nil⟩
  · injection hcs with hcs
    injection hcs with e1 e2 e3
    subst e1 e2 e3
    have hlm : len ≤ m := by rw [hmm]; split <;> omega
    rw [show Try.prog.cellsOf 74 = 4 by kernel_rfl] at hx
    haveI : Inhabited RV := ⟨⟨⟨0, 0, 0, []⟩, none, 0⟩⟩
    obtain ⟨f, hfn⟩ := Go.Deep.choose_lt (α := RV) (n := len) (p := fun i p => W.cells? base (a'.add (i * 4)) 4 = some (encV p).toList ∧ p.r.fits ∧ RB W (.slice p.A p.r.d.length p.c) p.r.d) (fun i hi => by
      obtain ⟨cs', h1, h2⟩ := hx i (by omega)
      obtain ⟨p, rfl, hp⟩ := cells_record h2
      exact ⟨p, h1, hp⟩)
    have hlen : ((List.range len).map f).length = len := by simp
    refine ⟨some a', cap, (List.range len).map f, by rw [hlen], RW.of lawC (by rw [hlen]; exact hl) (by rw [hlen]; unfold maxLen at hm; omega) (fun i x hi => ?_), fun p hp => ?_⟩
    · have hi' : i < len := by
        have := (List.getElem?_eq_some_iff.1 hi).1
        rwa [hlen] at this
      have hxi : f i = x := by
        rw [List.getElem?_map, List.getElem?_range hi'] at hi
        simpa using hi
      subst hxi
      refine ⟨a', rfl, fun j v hj => ?_⟩
      obtain ⟨_, _, hc⟩ := World.cells?_some (hfn i hi').1
      have hj4 : j < 4 := (Array.getElem?_eq_some_iff.1 hj).1
      have := hc j hj4
      show W.cell? ((a'.add (i * 4)).add j) = some v
      rw [this]
      have hj' : (encV (f i))[j]? = some v := hj
      simpa using hj'
    · obtain ⟨i, hi, rfl⟩ := List.mem_map.1 hp
      exact (hfn i (List.mem_range.1 hi)).2
set_option maxHeartbeats 8000000 in
theorem captureBack_walk (A : Option Addr) (k : Nat) (l : List RV) (w0 : World) (hr : RW RC w0 (.slice A l.length k) l) (hd : ∀ p ∈ l, p.r.fits ∧ RB w0 (.slice p.A p.r.d.length p.c) p.r.d) :
    Calls Try.prog 13 #[.slice A l.length k] w0 fun e w' => e = .returned (.bool true) ∧ Below w0.heap.size w0 w' := by
  have HAL : Hid (∀ w, Calls Try.prog 41 #[] w fun e w' => e = .returned (.bool true) ∧ Below w.heap.size w w') := Lib.hid (fun w => alive55_any w)
  have HR := Lib.hid hr
  have HD := Lib.hid hd
  by_cases hl : 20 < l.length
  · have hl1 : decide ((20 : Int) < (l.length : Int)) = true := decide_eq_true (by omega)
    clear hr hl hd
    have HM := Lib.hid (Mem.start w0)
    have HB := HM.out.below
    go_enter Try.func13, Try.ntmps13
    go_wp2_with fail
    refine (HAL.out _).mono ?_
    rintro e w ⟨rfl, hb⟩
    replace HM := Lib.hid (HM.out.call hb)
    replace HB := HM.out.below
    clear hb
    go_wp2_with fail
    go_ret
    exact ⟨rfl, HB⟩
  · have hl1 : decide ((20 : Int) < (l.length : Int)) = false := decide_eq_false (by omega)
    have hl2 : l.length ≤ 20 := by omega
    have HLE := Lib.hid hl2
    have AL1 := Lib.hid zeroC
    have AL2 := Lib.hid zeroD
    clear hr hl hd
    have HM := Lib.hid (Mem.start w0)
    have HB := HM.out.below
    replace HM := Lib.hid (HM.out.nilR RD)
    go_enter Try.func13, Try.ntmps13
    go_wp2_with fail
    go_loopw [3, 4, 20] (fun v3 v4 v20 wr => ∃ i A' c', i ≤ l.length ∧ v3 = .slice A' i c' ∧ v4 = .bool (allRight (l.take i)) ∧ v20 = .int .i64 (i : Nat) ∧ Hid (∀ p ∈ l.take i, p.r.d.length ≤ 1000) ∧ HMem w0 wr (rowE RD (.slice A' i c') (l.take i) :: [])) (fun _ _ v20 _ => l.length - (intOf v20).toNat)
    case atStart => exact ⟨0, none, 0, Nat.zero_le _, rfl, rfl, rfl, Lib.hid (fun p hp => absurd hp List.not_mem_nil), HM⟩
    case round =>
      clear HM HB
      obtain ⟨i, A', c', hi, rfl, rfl, rfl, HDL, HM⟩ := hrel
      have HB := HM.out.below
      by_cases hlt : i < l.length
      · obtain ⟨p, hp⟩ : ∃ p, l[i]? = some p := ⟨l[i], by simp [hlt]⟩
        obtain ⟨ad, rfl, hra⟩ := HR.out.elem lawC hp
        obtain ⟨hf, hrb⟩ := HD.out p (List.mem_of_getElem? hp)
        have HPI := Lib.hid hp
        have HEL : Hid (∀ W, Below w0.heap.size w0 W → RangeA W (ad.add (i * 4)) (encV p)) := Lib.hid (fun W hb => hra.below hb)
        have HC := Lib.hid (cellsV p)
        have HC2 := Lib.hid (cellsD p)
        have BH1 := Lib.hid (build4V p)
        have LT1 := Lib.hid (litV p)
        have CV1 : Hid ((encV p)[0]? = some (.int .u32 (p.r.s : Int))) := Lib.hid rfl
        have CV2 : Hid ((encV p)[1]? = some (.int .u32 (p.r.u : Int))) := Lib.hid rfl
        have CV3 : Hid ((encV p)[2]? = some (.int .u32 (p.r.z : Int))) := Lib.hid rfl
        have CV4 : Hid ((encV p)[3]? = some (.slice p.A p.r.d.length p.c)) := Lib.hid rfl
        have HR1 : Hid (p.r.d.length ≤ 1000 → ∀ W, Calls Try.prog 42 #[.agg (encV p)] W fun e w' => e = .returned (.bool (rightR p.r)) ∧ Below W.heap.size W w') := Lib.hid (fun hd W => right_any p W hf (by omega))
        have HR2 : Hid (p.r.d.length ≤ 1000 → ∀ W, Calls Try.prog 43 #[.agg (encV p)] W fun e w' => e = .returned (.bool (rightR p.r)) ∧ Below W.heap.size W w') := Lib.hid (fun hd W => refRight_any p W hf (by omega))
        have HN1 : Hid ((l.take i).length + [p].length = i + 1) := Lib.hid (by rw [List.length_take]; simp; omega)
        have HL1 : Hid ((i + 1) * RD.bytes ≤ 140737488355328) := Lib.hid (by simp only [RD]; omega)
        have HAT := Lib.hid (allRight_take hp)
        have HTK := Lib.hid (take_snocV hp)
        clear hra hf hrb hp
        by_cases hbig : 1000 < p.r.d.length
        · have hb1 : decide ((1000 : Int) < (p.r.d.length : Int)) = true := decide_eq_true (by omega)
          clear hbig
          go_wp2_with (first | (refine m_rd ?_ HM (Rd.elem rfl (by kernel_rfl) rfl (fun w hm => HEL.out w hm.below) (by kernel_rfl))) | refine m_rd ?_ | (refine m_wr ?_; clear HM HB; intro w b HM HB; try clear b) | fail)
          refine (HAL.out _).mono ?_
          rintro e w ⟨rfl, hb⟩
          replace HM := Lib.hid (HM.out.call hb)
          replace HB := HM.out.below
          clear hb
          go_wp2_with (first | refine m_rd ?_ | (refine m_wr ?_; clear HM HB; intro w b HM HB; try clear b) | fail)
          go_ret
          exact ⟨rfl, HB⟩
        · have hb1 : decide ((1000 : Int) < (p.r.d.length : Int)) = false := decide_eq_false (by omega)
          have HBG : Hid (p.r.d.length ≤ 1000) := Lib.hid (by omega)
          replace HR1 := Lib.hid (HR1.out HBG.out)
          replace HR2 := Lib.hid (HR2.out HBG.out)
          clear hbig
          go_wp2_with (first | (refine m_rd ?_ HM (Rd.elem rfl (by kernel_rfl) rfl (fun w hm => HEL.out w hm.below) (by kernel_rfl))) | refine m_rd ?_ | (refine m_wr ?_; clear HM HB; intro w b HM HB; try clear b) | fail)
          try simp only [Act.put, List.setIfInBounds_toArray, List.set_cons_zero, List.set_cons_succ]
          refine wp_region_held_drew (S := fun w' => Mem w0 w' _) (by kernel_rfl) (HM.out.drew) (fun hS => ?_)
          replace HM := Lib.hid HM.out.drew
          replace HB := HM.out.below
          refine tkv 0 38 (.agg (encV p)) rfl (yields_own rfl rfl (fun _ h => h) (by (first | ((repeat (first | with_reducible exact List.Mem.head _ | with_reducible apply List.Mem.tail)); done) | ((repeat (first | exact List.Mem.head _ | apply List.Mem.tail)); done))) Try.underlying74 rfl HC.out.1 (by kernel_rfl)) ?_
          refine tkv 2 40 (.agg (encV p)) rfl (yields_own rfl rfl (fun _ h => h) (by (first | ((repeat (first | with_reducible exact List.Mem.head _ | with_reducible apply List.Mem.tail)); done) | ((repeat (first | exact List.Mem.head _ | apply List.Mem.tail)); done))) Try.underlying75 rfl HC2.out.1 (by kernel_rfl)) ?_
          refine rone 1 rfl fun K' hK => ?_
          go_simp
          refine (HR1.out _).mono ?_
          rintro e w ⟨rfl, hb⟩
          replace HM := Lib.hid (HM.out.call hb)
          replace HB := HM.out.below
          clear hb
          refine hK.out _ _ (HM.out) (fun hS2 => ?_)
          clear hS hK
          have hS := hS2
          clear hS2
          try simp only [Act.put, List.setIfInBounds_toArray, List.set_cons_zero, List.set_cons_succ]
          refine rone 3 rfl fun K' hK => ?_
          go_simp
          refine (HR2.out _).mono ?_
          rintro e w ⟨rfl, hb⟩
          replace HM := Lib.hid (HM.out.call hb)
          replace HB := HM.out.below
          clear hb
          refine hK.out _ _ (HM.out) (fun hS2 => ?_)
          clear hS hK
          have hS := hS2
          clear hS2
          try simp only [Act.put, List.setIfInBounds_toArray, List.set_cons_zero, List.set_cons_succ]
          refine tk 4 42 ?_
          refine wpAnyH_done (by kernel_rfl) ?_ _
          clear hS
          have HXT : Hid (∀ p' ∈ l.take (i + 1), p'.r.d.length ≤ 1000) := Lib.hid (fun p' hp' => by
            rw [HTK.out] at hp'
            rcases List.mem_append.1 hp' with h | h
            · exact HDL.out p' h
            · rw [List.mem_singleton.1 h]; exact HBG.out)
          by_cases ha : allRight (l.take i) = true
          · have HAE : Hid (allRight (l.take (i + 1)) = rightR p.r) := Lib.hid (by rw [HAT.out, ha]; rfl)
            rw [ha]
            clear ha
            generalize rightR p.r = rb at HR2 HAE ⊢
            go_wp2_with (first | refine m_rd ?_ | (refine m_wr ?_; clear HM HB; intro w b HM HB; try clear b) | fail)
            refine (HR2.out _).mono ?_
            rintro e w ⟨rfl, hb⟩
            replace HM := Lib.hid (HM.out.call hb)
            replace HB := HM.out.below
            clear hb
            go_wp2_with (first | ((with_reducible apply m_wrh); (next => exact HM); (next => exact wanted_none rfl); ((with_reducible apply Wr.litR lawD); (next => exact rfl); (next => first | with_reducible exact LT1.out | with_reducible exact LT2.out | with_reducible exact LT3.out | exact LT1.out | exact LT2.out | exact LT3.out); (next => first | (go_simp; done) | exact rfl)); clear HM HB; intro w b HM HB; try clear b) | ((with_reducible apply m_wxh); (next => exact HM); (next => exact wanted_none rfl); ((with_reducible apply Wx.app lawD); (next => exact rfl); (next => first | (go_simp; with_reducible rfl) | exact rfl); (next => first | (go_simp; with_reducible rfl) | exact rfl); (next => (first | ((repeat (first | with_reducible exact Del.head _ | with_reducible apply Del.tail)); done) | ((repeat (first | exact Del.head _ | apply Del.tail)); done))); (next => intro w hm; first | with_reducible exact HR1.out.below hm.below | with_reducible exact HR2.out.below hm.below | exact hm.rw_ lawD (by (first | ((repeat (first | with_reducible exact List.Mem.head _ | with_reducible apply List.Mem.tail)); done) | ((repeat (first | exact List.Mem.head _ | apply List.Mem.tail)); done)))); (next => first | exact HN1.out | exact HN2.out | exact HN3.out | exact HN4.out); (next => first | exact HL1.out | exact HL2.out)); clear HM HB; rintro w ⟨Aq, cq⟩ HM HB) | refine m_rd ?_ | (refine m_wr ?_; clear HM HB; intro w b HM HB; try clear b) | fail)
            go_roundw
            case rel => exact ⟨i + 1, Aq, cq, by omega, rfl, by rw [HAE.out], by go_num, HXT, Lib.hid (by rw [HTK.out]; exact (HM.out.pull (show Del (rowE RD _ (l.take i ++ [p])) _ _ by (first | ((repeat (first | with_reducible exact Del.head _ | with_reducible apply Del.tail)); done) | ((repeat (first | exact Del.head _ | apply Del.tail)); done)))).sub (by ((repeat (first | exact List.Sublist.refl _ | apply List.Sublist.cons_cons | apply List.Sublist.cons)); done)))⟩
            case measure => (simp [intOf]) <;> omega
          · have HAE : Hid (allRight (l.take (i + 1)) = false) := Lib.hid (by rw [HAT.out]; simp [ha])
            have hf : allRight (l.take i) = false := by simpa using ha
            rw [hf]
            clear ha hf
            go_wp2_with (first | ((with_reducible apply m_wrh); (next => exact HM); (next => exact wanted_none rfl); ((with_reducible apply Wr.litR lawD); (next => exact rfl); (next => first | with_reducible exact LT1.out | with_reducible exact LT2.out | with_reducible exact LT3.out | exact LT1.out | exact LT2.out | exact LT3.out); (next => first | (go_simp; done) | exact rfl)); clear HM HB; intro w b HM HB; try clear b) | ((with_reducible apply m_wxh); (next => exact HM); (next => exact wanted_none rfl); ((with_reducible apply Wx.app lawD); (next => exact rfl); (next => first | (go_simp; with_reducible rfl) | exact rfl); (next => first | (go_simp; with_reducible rfl) | exact rfl); (next => (first | ((repeat (first | with_reducible exact Del.head _ | with_reducible apply Del.tail)); done) | ((repeat (first | exact Del.head _ | apply Del.tail)); done))); (next => intro w hm; first | with_reducible exact HR1.out.below hm.below | with_reducible exact HR2.out.below hm.below | exact hm.rw_ lawD (by (first | ((repeat (first | with_reducible exact List.Mem.head _ | with_reducible apply List.Mem.tail)); done) | ((repeat (first | exact List.Mem.head _ | apply List.Mem.tail)); done)))); (next => first | exact HN1.out | exact HN2.out | exact HN3.out | exact HN4.out); (next => first | exact HL1.out | exact HL2.out)); clear HM HB; rintro w ⟨Aq, cq⟩ HM HB) | refine m_rd ?_ | (refine m_wr ?_; clear HM HB; intro w b HM HB; try clear b) | fail)
            go_roundw
            case rel => exact ⟨i + 1, Aq, cq, by omega, rfl, by rw [HAE.out], by go_num, HXT, Lib.hid (by rw [HTK.out]; exact (HM.out.pull (show Del (rowE RD _ (l.take i ++ [p])) _ _ by (first | ((repeat (first | with_reducible exact Del.head _ | with_reducible apply Del.tail)); done) | ((repeat (first | exact Del.head _ | apply Del.tail)); done)))).sub (by ((repeat (first | exact List.Sublist.refl _ | apply List.Sublist.cons_cons | apply List.Sublist.cons)); done)))⟩
            case measure => (simp [intOf]) <;> omega
      · obtain rfl : i = l.length := by omega
        rw [List.take_length] at HDL HM ⊢
        clear hi hlt AL1 AL2
        have HAT : Hid (∀ W, Below w0.heap.size w0 W → ∀ p ∈ l, p.r.fits ∧ p.r.d.length ≤ 1099511627776 ∧ RB W (.slice p.A p.r.d.length p.c) p.r.d) := Lib.hid (fun W hb p hp => ⟨(HD.out p hp).1, by have := HDL.out p hp; omega, (HD.out p hp).2.below hb⟩)
        by_cases ha : allRight l = true
        · have HRT : Hid (∀ p ∈ l, rightR p.r = true) := Lib.hid (by unfold allRight at ha; rw [List.all_eq_true] at ha; exact ha)
          have HFR : Hid (∀ r ∈ l.map (·.r), r.fits ∧ rightR r = true) := Lib.hid (fun r hr => by
            obtain ⟨p, hp, rfl⟩ := List.mem_map.1 hr
            exact ⟨(HD.out p hp).1, HRT.out p hp⟩)
          have HLN : Hid (∀ big, (headB big ++ recsB big (l.map (·.r))).length ≤ 1000000) := Lib.hid (fun big => by
            have := recs_len big l HDL.out
            have := HLE.out
            rw [List.length_append, headB_length]; omega)
          have HPC : Hid (∀ (big : Bool) (W : World) (v : Value), RB W v (headB big ++ recsB big (l.map (·.r))) → Calls Try.prog 45 #[v] W (ParseOut RC W (0, l.map (·.r)))) := Lib.hid (fun big W v hr => by
            obtain ⟨A1, c1, rfl, hc, hrd⟩ := hr
            have := parse_any W (l := headB big ++ recsB big (l.map (·.r))) (A := A1) (c := c1) ⟨A1, c1, rfl, hc, hrd⟩ (HLN.out big)
            rwa [file_back big _ HFR.out] at this)
          have HBC : Hid (∀ W, Below w0.heap.size w0 W → Calls Try.prog 44 #[.slice A l.length k] W fun e w' => ∃ v, e = .returned (.tuple #[v, .int .i64 0]) ∧ RB w' v (headB false ++ recsB false (l.map (·.r))) ∧ Below W.heap.size W w') := Lib.hid (fun W hb => (bytes_any A k l W (HR.out.below hb) (HAT.out W hb) (by have := HLE.out; omega)).mono fun e w' hh => by
            unfold Out at hh
            rw [if_pos ha] at hh
            obtain ⟨⟨v, rfl, ho⟩, hb⟩ := hh
            exact ⟨v, rfl, ho.rb, hb⟩)
          have HBD : Hid (∀ (big : Bool) (W : World), Mem w0 W (rowE RD (.slice A' l.length c') l :: []) → Calls Try.prog 46 #[.slice A' l.length c', .bool big] W fun e w' => ∃ v, e = .returned v ∧ RB w' v (headB big ++ recsB big (l.map (·.r))) ∧ Below W.heap.size W w') := Lib.hid (fun big W hm => (refBytes_any big A' c' l W (hm.rw_ lawD (List.Mem.head _)) (fun p hp => ⟨(HD.out p hp).1, HRT.out p hp, (HD.out p hp).2.below hm.below⟩) (by have := HLE.out; omega)).mono fun e w' hh => by
            obtain ⟨v, rfl, ho, hb⟩ := hh
            exact ⟨v, rfl, ho.rb, hb⟩)
          have HLK : Hid (∀ (l1 : List RV) (A1 : Option Addr) (c1 : Nat) (W : World), Mem w0 W (rowE RD (.slice A' l.length c') l :: []) → RW RC W (.slice A1 l1.length c1) l1 → l1.map (·.r) = l.map (·.r) → (∀ p ∈ l1, RB W (.slice p.A p.r.d.length p.c) p.r.d) → Calls Try.prog 47 #[.slice A1 l1.length c1, .slice A' l.length c'] W fun e w' => e = .returned (.bool true) ∧ Below W.heap.size W w') := Lib.hid (fun l1 A1 c1 W hm hw he hd => alike_any A1 A' c1 c' l1 l W hw (hm.rw_ lawD (List.Mem.head _)) he hd (fun p hp => (HD.out p hp).2.below hm.below) (by have := congrArg List.length he; rw [List.length_map, List.length_map] at this; have := HLE.out; omega))
          rw [ha]
          clear ha HFR HLN HAT
          go_wp2_with fail
          refine (HBC.out _ HB).mono ?_
          rintro e w ⟨v1, rfl, hv1, hb⟩
          replace HM := Lib.hid (HM.out.call hb)
          replace HB := HM.out.below
          have HV1 := Lib.hid hv1
          clear hv1 hb HBC
          go_wp2_with fail
          refine (HPC.out false _ v1 HV1.out).mono ?_
          rintro e w2 ⟨l1, A1, c1, rfl, he1, hw1, hd1, hb⟩
          replace HM := Lib.hid (HM.out.call hb)
          replace HB := HM.out.below
          replace HV1 := Lib.hid (HV1.out.below hb)
          have HE1 := Lib.hid he1
          have HW1 := Lib.hid hw1
          have HD1 := Lib.hid hd1
          clear he1 hw1 hd1 hb
          go_wp2_with fail
          refine (HBD.out true _ HM.out).mono ?_
          rintro e w3 ⟨v2, rfl, hv2, hb⟩
          replace HM := Lib.hid (HM.out.call hb)
          replace HB := HM.out.below
          replace HV1 := Lib.hid (HV1.out.below hb)
          replace HW1 := Lib.hid (HW1.out.below hb)
          replace HD1 := Lib.hid (fun p hp => (HD1.out p hp).below hb)
          have HV2 := Lib.hid hv2
          clear hv2 hb
          go_wp2_with fail
          refine (HPC.out true _ v2 HV2.out).mono ?_
          rintro e w4 ⟨l2, A2, c2, rfl, he2, hw2, hd2, hb⟩
          replace HM := Lib.hid (HM.out.call hb)
          replace HB := HM.out.below
          replace HV1 := Lib.hid (HV1.out.below hb)
          replace HW1 := Lib.hid (HW1.out.below hb)
          replace HD1 := Lib.hid (fun p hp => (HD1.out p hp).below hb)
          have HE2 := Lib.hid he2
          have HW2 := Lib.hid hw2
          have HD2 := Lib.hid hd2
          clear he2 hw2 hd2 hb HV2
          go_wp2_with fail
          refine (HBD.out false _ HM.out).mono ?_
          rintro e w5 ⟨v3, rfl, hv3, hb⟩
          replace HM := Lib.hid (HM.out.call hb)
          replace HB := HM.out.below
          replace HV1 := Lib.hid (HV1.out.below hb)
          replace HW1 := Lib.hid (HW1.out.below hb)
          replace HD1 := Lib.hid (fun p hp => (HD1.out p hp).below hb)
          replace HW2 := Lib.hid (HW2.out.below hb)
          replace HD2 := Lib.hid (fun p hp => (HD2.out p hp).below hb)
          have HV3 := Lib.hid hv3
          clear hv3 hb
          go_wp2_with fail
          refine (same_any v1 v3 _ _ _ HV1.out HV3.out).mono ?_
          rintro e w6 ⟨rfl, hb⟩
          rw [decide_eq_true rfl]
          replace HM := Lib.hid (HM.out.call hb)
          replace HB := HM.out.below
          replace HW1 := Lib.hid (HW1.out.below hb)
          replace HD1 := Lib.hid (fun p hp => (HD1.out p hp).below hb)
          replace HW2 := Lib.hid (HW2.out.below hb)
          replace HD2 := Lib.hid (fun p hp => (HD2.out p hp).below hb)
          clear hb HV1 HV3
          go_wp2_with fail
          refine (HLK.out l1 A1 c1 _ HM.out HW1.out HE1.out HD1.out).mono ?_
          rintro e w7 ⟨rfl, hb⟩
          replace HM := Lib.hid (HM.out.call hb)
          replace HB := HM.out.below
          replace HW2 := Lib.hid (HW2.out.below hb)
          replace HD2 := Lib.hid (fun p hp => (HD2.out p hp).below hb)
          clear hb HW1 HD1
          go_wp2_with fail
          refine (HLK.out l2 A2 c2 _ HM.out HW2.out HE2.out HD2.out).mono ?_
          rintro e w8 ⟨rfl, hb⟩
          replace HM := Lib.hid (HM.out.call hb)
          replace HB := HM.out.below
          clear hb HW2 HD2
          go_wp2_with fail
          refine (HAL.out _).mono ?_
          rintro e w ⟨rfl, hb⟩
          replace HM := Lib.hid (HM.out.call hb)
          replace HB := HM.out.below
          clear hb
          go_wp2_with fail
          go_ret
          exact ⟨rfl, HB⟩
        · have hf : allRight l = false := by simpa using ha
          have HBC : Hid (∀ W, Below w0.heap.size w0 W → Calls Try.prog 44 #[.slice A l.length k] W fun e w' => e = .returned (.tuple #[.slice none 0 0, .int .i64 1]) ∧ Below W.heap.size W w') := Lib.hid (fun W hb => (bytes_any A k l W (HR.out.below hb) (HAT.out W hb) (by have := HLE.out; omega)).mono fun e w' hh => by
            unfold Out at hh
            rw [if_neg ha] at hh
            exact hh)
          rw [hf]
          clear ha hf HAT
          go_wp2_with fail
          refine (HBC.out _ HB).mono ?_
          rintro e w ⟨rfl, hb⟩
          replace HM := Lib.hid (HM.out.call hb)
          replace HB := HM.out.below
          clear hb
          go_wp2_with fail
          refine (HAL.out _).mono ?_
          rintro e w ⟨rfl, hb⟩
          replace HM := Lib.hid (HM.out.call hb)
          replace HB := HM.out.below
          clear hb
          go_wp2_with fail
          go_ret
          exact ⟨rfl, HB⟩
end Go.Proofs.Ytnehbhhjdjiieaa.Cp
