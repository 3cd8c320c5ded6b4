/- Package capture: all records of bytes. -/
import Derived.Test.YtnehbhhjdjiieaaCv
set_option linter.unusedSimpArgs false
set_option linter.unusedVariables false
set_option maxRecDepth 100000
namespace Go.Proofs.Ytnehbhhjdjiieaa.Cp
open Go.RowKit Go.Proofs.YtnehbhhjdjiieaaW.PrintWords Go.Proofs.Ytnehbhhjdjiieaa.Bs Go.Proofs.Ytnehbhhjdjiieaa.Gm Go.Proofs.Ytnehbhhjdjiieaa.Le Go.Proofs.Ytnehbhhjdjiieaa.Tk Go.Proofs.Ytnehbhhjdjiieaa.En

/-- The rows of records' data. -/
def dataE (l : List RV) : List Ent := l.map fun p => rowE R8 (.slice p.A p.r.d.length p.c) p.r.d
theorem dataE_mem {l : List RV} {p : RV} (h : p ∈ l) : rowE R8 (.slice p.A p.r.d.length p.c) p.r.d ∈ dataE l := List.mem_map.2 ⟨p, h, rfl⟩
/-- What a parser of files hands back. -/
def ParseOut (R : RK RV) (w0 : World) (r : Nat × List Rec) (e : Ending) (w' : World) : Prop :=
  ∃ (outs : List RV) (A : Option Addr) (c : Nat), e = .returned (.tuple #[.slice A outs.length c, .int .i64 (r.1 : Int)]) ∧ outs.map (·.r) = r.2 ∧ RW R w' (.slice A outs.length c) outs ∧ (∀ p ∈ outs, RB w' (.slice p.A p.r.d.length p.c) p.r.d) ∧ Below w0.heap.size w0 w'
theorem record_any_false {w0 w : World} {es : List Ent} {g : Nat} {P : Option Addr} {q : Nat} {l : List UInt8} {k : Nat} (h : HMem w0 w (tkB g P q l k :: rowE R8 (.slice P l.length q) l :: es)) (hk : k ≤ l.length) (hl : l.length ≤ 1099511627776) :
    Calls Try.prog 72 #[.pointer (some ⟨g, 0, none⟩), .func (.func 62) #[.pointer (some ⟨g, 0, none⟩)] #[]] w (RecOut false w0 g P q l k es) := by
  by_cases hb : 16 ≤ (l.drop k).length
  · exact record_more_false h hk hl hb
  · refine (record_short_false h hk hl (by omega)).mono fun e w' hh => ?_
    have h3 : badN false (l.drop k) = 3 := by unfold badN; rw [if_pos (by omega)]
    unfold RecOut
    rw [h3, if_neg (by decide)]
    exact hh
set_option maxHeartbeats 4000000 in
theorem parse_false {A : Option Addr} {c : Nat} {l : List UInt8} (w0 : World) (hr : RB w0 (.slice A l.length c) l) (hl : l.length ≤ 1000000) (h24 : 24 ≤ l.length) (hm : l.take 4 = num false 4 2712847316) :
    Calls Try.prog 45 #[.slice A l.length c] w0 (ParseOut RC w0 (if okH false l 4 = true then parseB false (l.drop 24) else (5, []))) := by
  have HL : Hid (l.length ≤ 1099511627776) := Lib.hid (by omega)
  have HLM := Lib.hid hl
  have HOP : Hid (∀ w es, HMem w0 w es → Calls Try.prog 71 #[.slice A l.length c] w (OpenOut false 62 w0 l es)) := Lib.hid (fun w es hm' => opened_false hm' hr HL.out h24 hm)
  have H24 := Lib.hid h24
  clear hr hl h24 hm
  have HM := Lib.hid (Mem.start w0)
  have HB := HM.out.below
  cases hk : okH false l 4
  · have HK := Lib.hid hk
    clear hk
    go_enter Try.func45, Try.ntmps45
    go_wp2_with fail
    refine ((HOP.out _ _ HM).mono (fun e w' hh => by unfold OpenOut at hh; rw [HK.out, if_neg (by decide)] at hh; exact hh)).mono ?_
    rintro e w ⟨rfl, HB'⟩
    replace HB := HB'
    clear HB' HM
    go_wp2_with fail
    go_ret2
    exact ⟨[], none, 0, rfl, rfl, RW.nil _ _, fun p hp => absurd hp List.not_mem_nil, HB⟩
  · have HK := Lib.hid hk
    clear hk
    have AL1 := Lib.hid zeroC
    go_enter Try.func45, Try.ntmps45
    go_wp2_with fail
    refine ((HOP.out _ _ HM).mono (fun e w' hh => by unfold OpenOut at hh; rw [HK.out, if_pos rfl] at hh; exact hh)).mono ?_
    rintro e w ⟨⟨g, P, q, rfl, HM'⟩, _⟩
    replace HM : HMem w0 w (tkB g P q l 24 :: rowE R8 (.slice P l.length q) l :: rowE RC (.slice none 0 0) [] :: dataE []) := Lib.hid (((HM'.out.nilR RC).pull (show Del (rowE R8 (.slice P l.length q) l) _ _ by (first | ((repeat (first | with_reducible exact Del.head _ | with_reducible apply Del.tail)); done) | ((repeat (first | exact Del.head _ | apply Del.tail)); done)))).pull (show Del (tkB g P q l 24) _ _ by (first | ((repeat (first | with_reducible exact Del.head _ | with_reducible apply Del.tail)); done) | ((repeat (first | exact Del.head _ | apply Del.tail)); done))))
    replace HB := HM.out.below
    clear HM'
    go_wp2_with fail
    go_loopw [7] (fun v7 wr => ∃ k outs A' c', v7 = .slice A' (outs.length : Nat) c' ∧ k ≤ l.length ∧ Hid (outs.length ≤ k) ∧ Hid (Par false (l.drop 24) (l.drop k) (outs.map (·.r))) ∧ HMem w0 wr (tkB g P q l k :: rowE R8 (.slice P l.length q) l :: rowE RC (.slice A' outs.length c') outs :: dataE outs)) (fun _ wr => l.length - (intOf ((wr.cell? ⟨g, 1, none⟩).getD undef)).toNat)
    case atStart => exact ⟨24, [], none, 0, rfl, H24.out, Lib.hid (by decide), Lib.hid (Par.start _ _), HM⟩
    case round =>
      clear HM HB
      obtain ⟨k, outs, A', c', rfl, hk, HOL, HPR, HM⟩ := hrel
      have HB := HM.out.below
      have HKK := Lib.hid hk
      clear hk
      have HCK : Hid (wr.cell? ⟨g, 1, none⟩ = some (.int .i64 (k : Int))) := Lib.hid ((blk_cell (HM.out.get (List.Mem.head _)) 1).trans rfl)
      have HLF : Hid (∀ (w : World) (es : List Ent), HMem w0 w (tkB g P q l k :: rowE R8 (.slice P l.length q) l :: es) → Calls Try.prog 67 #[.pointer (some ⟨g, 0, none⟩)] w fun e w' => e = .returned (.int .i64 (((l.drop k).length : Nat) : Int)) ∧ HMem w0 w' (tkB g P q l k :: rowE R8 (.slice P l.length q) l :: es)) := Lib.hid (fun w es hm => mleft _ rfl hm HKK.out HL.out)
      by_cases hpos : (0 : Int) < (((l.drop k).length : Nat) : Int)
      · have HNE : Hid ((l.drop k).length ≠ 0) := Lib.hid (by omega)
        generalize (((l.drop k).length : Nat) : Int) = ni at hpos HLF
        have hb1 : decide ((0 : Int) < ni) = true := decide_eq_true hpos
        clear hpos
        go_wp2_with fail
        refine (HLF.out _ _ HM).mono ?_
        rintro e w ⟨rfl, HM'⟩
        replace HM := HM'
        replace HB := HM.out.below
        clear HM'
        by_cases hbd : badN false (l.drop k) = 0
        · have HBD := Lib.hid hbd
          have HRC := Lib.hid (fun (w : World) (hm : HMem w0 w (tkB g P q l k :: rowE R8 (.slice P l.length q) l :: rowE RC (.slice A' outs.length c') outs :: dataE outs)) => (record_any_false hm HKK.out HL.out).mono (fun e w' hh => by unfold RecOut at hh; rw [if_pos hbd] at hh; exact hh.1))
          clear hbd
          go_wp2_with fail
          refine (HRC.out _ HM).mono ?_
          rintro e w ⟨A1, c1, rfl, HM'⟩
          replace HM := HM'
          replace HB := HM.out.below
          clear HM' HRC
          have HST := Lib.hid (HPR.out.step HNE.out HBD.out)
          have HK2 : Hid (k + 16 + sizeN false (l.drop k) ≤ l.length) := Lib.hid (by
            have h1 := badN_zero HBD.out
            have h2 := List.length_drop (l := l) (i := k)
            have h3 := HKK.out
            omega)
          have HK3 : Hid (k + 16 + sizeN false (l.drop k) = k + (16 + sizeN false (l.drop k))) := Lib.hid (by omega)
          rw [HK3.out] at HM HK2
          have HST2 : Hid (Par false (l.drop 24) (l.drop (k + (16 + sizeN false (l.drop k)))) ((outs ++ [(⟨recN false (l.drop k), A1, c1⟩ : RV)]).map (·.r))) := Lib.hid (by rw [List.map_append, ← List.drop_drop]; exact HST.out)
          clear HST HK3
          generalize recN false (l.drop k) = r at HM HST2 ⊢
          obtain ⟨p, hpr, hpA, hpc⟩ : ∃ p : RV, p.r = r ∧ p.A = A1 ∧ p.c = c1 := ⟨⟨r, A1, c1⟩, rfl, rfl, rfl⟩
          subst hpr hpA hpc
          rw [show (⟨p.r, p.A, p.c⟩ : RV) = p from rfl] at HST2 ⊢
          generalize hsz : 16 + sizeN false (l.drop k) = sz at HM HK2 HST2
          have hsz1 : 1 ≤ sz := by omega
          have HSZ := Lib.hid hsz1
          clear hsz hsz1 HBD
          have HC := Lib.hid (cellsV p)
          have LT1 : Hid (LitR RC 1 #[(0, .agg (encV p))] [p]) := Lib.hid ⟨rfl, by decide, fun W => by kernel_rfl⟩
          have HN1 : Hid (outs.length + [p].length = outs.length + 1) := Lib.hid rfl
          have HL1 : Hid ((outs.length + 1) * RC.bytes ≤ 140737488355328) := Lib.hid (by have := HOL.out; have := HKK.out; have := HLM.out; simp only [RC]; omega)
          go_wp2_with (first | ((with_reducible apply m_wrh); (next => exact HM); (next => exact wanted_none rfl); ((with_reducible apply Wr.litR lawC); (next => exact rfl); (next => first | with_reducible exact LT1.out | with_reducible exact LT2.out | with_reducible exact LT3.out | exact LT1.out | exact LT2.out | exact LT3.out); (next => first | (go_simp; done) | exact rfl)); clear HM HB; intro w b HM HB; try clear b) | (refine m_wx ?_ HM (Wx.app lawC rfl (by first | (go_simp; with_reducible rfl) | rfl) (by first | (go_simp; with_reducible rfl) | rfl) (by (first | ((repeat (first | with_reducible exact Del.head _ | with_reducible apply Del.tail)); done) | ((repeat (first | exact Del.head _ | apply Del.tail)); done))) (by intro w hm; first | with_reducible exact HR1.out.below hm.below | with_reducible exact HR2.out.below hm.below | exact hm.rw_ lawC (by (first | ((repeat (first | with_reducible exact List.Mem.head _ | with_reducible apply List.Mem.tail)); done) | ((repeat (first | exact List.Mem.head _ | apply List.Mem.tail)); done))) | exact HR1.out.below hm.below | exact HR2.out.below hm.below) (by first | exact HN1.out | exact HN2.out | exact HN3.out | exact HN4.out) (by first | exact HL1.out | exact HL2.out)) (wanted_none rfl); clear HM HB; rintro w ⟨Aq, cq⟩ HM HB) | refine m_rd ?_ | (refine m_wr ?_; clear HM HB; intro w b HM HB; try clear b) | fail)
          go_roundw
          case rel =>
            refine ⟨k + sz, outs ++ [p], Aq, cq, ?_, HK2.out, Lib.hid (by have := HOL.out; have := HSZ.out; simp; omega), HST2, Lib.hid ?_⟩
            · rw [List.length_append]; rfl
            · have hm := ((((HM.out.pull (show Del (rowE R8 (.slice p.A p.r.d.length p.c) p.r.d) _ _ by (first | ((repeat (first | with_reducible exact Del.head _ | with_reducible apply Del.tail)); done) | ((repeat (first | exact Del.head _ | apply Del.tail)); done)))).pull (show Del (rowE RC _ (outs ++ [p])) _ _ by (first | ((repeat (first | with_reducible exact Del.head _ | with_reducible apply Del.tail)); done) | ((repeat (first | exact Del.head _ | apply Del.tail)); done)))).pull (show Del (rowE R8 (.slice P l.length q) l) _ _ by (first | ((repeat (first | with_reducible exact Del.head _ | with_reducible apply Del.tail)); done) | ((repeat (first | exact Del.head _ | apply Del.tail)); done)))).pull (show Del (tkB g P q l _) _ _ by (first | ((repeat (first | with_reducible exact Del.head _ | with_reducible apply Del.tail)); done) | ((repeat (first | exact Del.head _ | apply Del.tail)); done))))
              have hm2 : Mem w0 w (tkB g P q l (k + sz) :: rowE R8 (.slice P l.length q) l :: rowE RC (.slice Aq (outs.length + 1) cq) (outs ++ [p]) :: rowE R8 (.slice p.A p.r.d.length p.c) p.r.d :: dataE outs) := hm.sub (by ((repeat (first | exact List.Sublist.refl _ | apply List.Sublist.cons_cons | apply List.Sublist.cons)); done))
              rw [List.length_append]
              refine hm2.perm (List.Perm.cons _ (List.Perm.cons _ (List.Perm.cons _ ?_)))
              unfold dataE
              rw [List.map_append]
              exact (List.perm_append_singleton _ _).symm
          case measure =>
            have hc2 : w.cell? ⟨g, 1, none⟩ = some (.int .i64 ((k + sz : Nat) : Int)) := (blk_cell (HM.out.get (show tkB g P q l (k + sz) ∈ _ by (first | ((repeat (first | with_reducible exact List.Mem.head _ | with_reducible apply List.Mem.tail)); done) | ((repeat (first | exact List.Mem.head _ | apply List.Mem.tail)); done)))) 1).trans rfl
            rw [hc2, HCK.out]
            have := HK2.out
            have := HSZ.out
            (simp [intOf]) <;> omega
        · have HBD := Lib.hid hbd
          have HRC := Lib.hid (fun (w : World) (hm : HMem w0 w (tkB g P q l k :: rowE R8 (.slice P l.length q) l :: rowE RC (.slice A' outs.length c') outs :: dataE outs)) => (record_any_false hm HKK.out HL.out).mono (fun e w' hh => by unfold RecOut at hh; rw [if_neg hbd] at hh; exact hh))
          have HPB := Lib.hid (HPR.out.bad HNE.out hbd)
          have hne : (((badN false (l.drop k) : Nat) : Int) == 0) = false := by rw [beq_eq_false_iff_ne]; omega
          have hne2 : (((badN false (l.drop k) : Nat) : Int) != 0) = true := by rw [bne, hne]; rfl
          have HC := Lib.hid cellsZC
          clear hbd HBD
          generalize hbi : ((badN false (l.drop k) : Nat) : Int) = bi at HRC hne hne2
          have HBI := Lib.hid hbi
          clear hbi
          go_wp2_with fail
          refine (HRC.out _ HM).mono ?_
          rintro e w' ⟨rfl, hb'⟩
          clear HRC
          replace HM : HMem w0 w' [] := Lib.hid ⟨by assumption, fun e h => absurd h List.not_mem_nil, List.Pairwise.nil⟩
          replace HB := HM.out.below
          clear w
          obtain ⟨w, rfl⟩ : ∃ w, w = w' := ⟨_, rfl⟩
          go_wp2_with (first | refine m_rd ?_ | (refine m_wr ?_; clear HM HB; intro w b HM HB; try clear b) | fail)
          go_ret2
          rw [HPB.out]
          exact ⟨[], none, 0, by rw [HBI.out]; rfl, rfl, RW.nil _ _, fun p hp => absurd hp List.not_mem_nil, HB⟩
      · have hb1 : decide ((0 : Int) < (((l.drop k).length : Nat) : Int)) = false := decide_eq_false hpos
        have HP0 : Hid ((l.drop k).length = 0) := Lib.hid (by omega)
        generalize (((l.drop k).length : Nat) : Int) = ni at hpos HLF hb1
        clear hpos
        go_wp2_with fail
        refine (HLF.out _ _ HM).mono ?_
        rintro e w ⟨rfl, HM'⟩
        replace HM := HM'
        replace HB := HM.out.below
        clear HM'
        go_wp2_with fail
        go_ret2
        have hd := HPR.out.done HP0.out
        rw [hd]
        refine ⟨outs, A', c', rfl, rfl, HM.out.rw_ lawC (List.Mem.tail _ (List.Mem.tail _ (List.Mem.head _))), fun p hp => ?_, HB⟩
        exact HM.out.rb (List.Mem.tail _ (List.Mem.tail _ (List.Mem.tail _ (dataE_mem hp))))
theorem record_any_true {w0 w : World} {es : List Ent} {g : Nat} {P : Option Addr} {q : Nat} {l : List UInt8} {k : Nat} (h : HMem w0 w (tkB g P q l k :: rowE R8 (.slice P l.length q) l :: es)) (hk : k ≤ l.length) (hl : l.length ≤ 1099511627776) :
    Calls Try.prog 72 #[.pointer (some ⟨g, 0, none⟩), .func (.func 83) #[.pointer (some ⟨g, 0, none⟩)] #[]] w (RecOut true w0 g P q l k es) := by
  by_cases hb : 16 ≤ (l.drop k).length
  · exact record_more_true h hk hl hb
  · refine (record_short_true h hk hl (by omega)).mono fun e w' hh => ?_
    have h3 : badN true (l.drop k) = 3 := by unfold badN; rw [if_pos (by omega)]
    unfold RecOut
    rw [h3, if_neg (by decide)]
    exact hh
set_option maxHeartbeats 4000000 in
theorem parse_true {A : Option Addr} {c : Nat} {l : List UInt8} (w0 : World) (hr : RB w0 (.slice A l.length c) l) (hl : l.length ≤ 1000000) (h24 : 24 ≤ l.length) (hm : l.take 4 = num true 4 2712847316) :
    Calls Try.prog 45 #[.slice A l.length c] w0 (ParseOut RC w0 (if okH true l 4 = true then parseB true (l.drop 24) else (5, []))) := by
  have HL : Hid (l.length ≤ 1099511627776) := Lib.hid (by omega)
  have HLM := Lib.hid hl
  have HOP : Hid (∀ w es, HMem w0 w es → Calls Try.prog 71 #[.slice A l.length c] w (OpenOut true 83 w0 l es)) := Lib.hid (fun w es hm' => opened_true hm' hr HL.out h24 hm)
  have H24 := Lib.hid h24
  clear hr hl h24 hm
  have HM := Lib.hid (Mem.start w0)
  have HB := HM.out.below
  cases hk : okH true l 4
  · have HK := Lib.hid hk
    clear hk
    go_enter Try.func45, Try.ntmps45
    go_wp2_with fail
    refine ((HOP.out _ _ HM).mono (fun e w' hh => by unfold OpenOut at hh; rw [HK.out, if_neg (by decide)] at hh; exact hh)).mono ?_
    rintro e w ⟨rfl, HB'⟩
    replace HB := HB'
    clear HB' HM
    go_wp2_with fail
    go_ret2
    exact ⟨[], none, 0, rfl, rfl, RW.nil _ _, fun p hp => absurd hp List.not_mem_nil, HB⟩
  · have HK := Lib.hid hk
    clear hk
    have AL1 := Lib.hid zeroC
    go_enter Try.func45, Try.ntmps45
    go_wp2_with fail
    refine ((HOP.out _ _ HM).mono (fun e w' hh => by unfold OpenOut at hh; rw [HK.out, if_pos rfl] at hh; exact hh)).mono ?_
    rintro e w ⟨⟨g, P, q, rfl, HM'⟩, _⟩
    replace HM : HMem w0 w (tkB g P q l 24 :: rowE R8 (.slice P l.length q) l :: rowE RC (.slice none 0 0) [] :: dataE []) := Lib.hid (((HM'.out.nilR RC).pull (show Del (rowE R8 (.slice P l.length q) l) _ _ by (first | ((repeat (first | with_reducible exact Del.head _ | with_reducible apply Del.tail)); done) | ((repeat (first | exact Del.head _ | apply Del.tail)); done)))).pull (show Del (tkB g P q l 24) _ _ by (first | ((repeat (first | with_reducible exact Del.head _ | with_reducible apply Del.tail)); done) | ((repeat (first | exact Del.head _ | apply Del.tail)); done))))
    replace HB := HM.out.below
    clear HM'
    go_wp2_with fail
    go_loopw [7] (fun v7 wr => ∃ k outs A' c', v7 = .slice A' (outs.length : Nat) c' ∧ k ≤ l.length ∧ Hid (outs.length ≤ k) ∧ Hid (Par true (l.drop 24) (l.drop k) (outs.map (·.r))) ∧ HMem w0 wr (tkB g P q l k :: rowE R8 (.slice P l.length q) l :: rowE RC (.slice A' outs.length c') outs :: dataE outs)) (fun _ wr => l.length - (intOf ((wr.cell? ⟨g, 1, none⟩).getD undef)).toNat)
    case atStart => exact ⟨24, [], none, 0, rfl, H24.out, Lib.hid (by decide), Lib.hid (Par.start _ _), HM⟩
    case round =>
      clear HM HB
      obtain ⟨k, outs, A', c', rfl, hk, HOL, HPR, HM⟩ := hrel
      have HB := HM.out.below
      have HKK := Lib.hid hk
      clear hk
      have HCK : Hid (wr.cell? ⟨g, 1, none⟩ = some (.int .i64 (k : Int))) := Lib.hid ((blk_cell (HM.out.get (List.Mem.head _)) 1).trans rfl)
      have HLF : Hid (∀ (w : World) (es : List Ent), HMem w0 w (tkB g P q l k :: rowE R8 (.slice P l.length q) l :: es) → Calls Try.prog 67 #[.pointer (some ⟨g, 0, none⟩)] w fun e w' => e = .returned (.int .i64 (((l.drop k).length : Nat) : Int)) ∧ HMem w0 w' (tkB g P q l k :: rowE R8 (.slice P l.length q) l :: es)) := Lib.hid (fun w es hm => mleft _ rfl hm HKK.out HL.out)
      by_cases hpos : (0 : Int) < (((l.drop k).length : Nat) : Int)
      · have HNE : Hid ((l.drop k).length ≠ 0) := Lib.hid (by omega)
        generalize (((l.drop k).length : Nat) : Int) = ni at hpos HLF
        have hb1 : decide ((0 : Int) < ni) = true := decide_eq_true hpos
        clear hpos
        go_wp2_with fail
        refine (HLF.out _ _ HM).mono ?_
        rintro e w ⟨rfl, HM'⟩
        replace HM := HM'
        replace HB := HM.out.below
        clear HM'
        by_cases hbd : badN true (l.drop k) = 0
        · have HBD := Lib.hid hbd
          have HRC := Lib.hid (fun (w : World) (hm : HMem w0 w (tkB g P q l k :: rowE R8 (.slice P l.length q) l :: rowE RC (.slice A' outs.length c') outs :: dataE outs)) => (record_any_true hm HKK.out HL.out).mono (fun e w' hh => by unfold RecOut at hh; rw [if_pos hbd] at hh; exact hh.1))
          clear hbd
          go_wp2_with fail
          refine (HRC.out _ HM).mono ?_
          rintro e w ⟨A1, c1, rfl, HM'⟩
          replace HM := HM'
          replace HB := HM.out.below
          clear HM' HRC
          have HST := Lib.hid (HPR.out.step HNE.out HBD.out)
          have HK2 : Hid (k + 16 + sizeN true (l.drop k) ≤ l.length) := Lib.hid (by
            have h1 := badN_zero HBD.out
            have h2 := List.length_drop (l := l) (i := k)
            have h3 := HKK.out
            omega)
          have HK3 : Hid (k + 16 + sizeN true (l.drop k) = k + (16 + sizeN true (l.drop k))) := Lib.hid (by omega)
          rw [HK3.out] at HM HK2
          have HST2 : Hid (Par true (l.drop 24) (l.drop (k + (16 + sizeN true (l.drop k)))) ((outs ++ [(⟨recN true (l.drop k), A1, c1⟩ : RV)]).map (·.r))) := Lib.hid (by rw [List.map_append, ← List.drop_drop]; exact HST.out)
          clear HST HK3
          generalize recN true (l.drop k) = r at HM HST2 ⊢
          obtain ⟨p, hpr, hpA, hpc⟩ : ∃ p : RV, p.r = r ∧ p.A = A1 ∧ p.c = c1 := ⟨⟨r, A1, c1⟩, rfl, rfl, rfl⟩
          subst hpr hpA hpc
          rw [show (⟨p.r, p.A, p.c⟩ : RV) = p from rfl] at HST2 ⊢
          generalize hsz : 16 + sizeN true (l.drop k) = sz at HM HK2 HST2
          have hsz1 : 1 ≤ sz := by omega
          have HSZ := Lib.hid hsz1
          clear hsz hsz1 HBD
          have HC := Lib.hid (cellsV p)
          have LT1 : Hid (LitR RC 1 #[(0, .agg (encV p))] [p]) := Lib.hid ⟨rfl, by decide, fun W => by kernel_rfl⟩
          have HN1 : Hid (outs.length + [p].length = outs.length + 1) := Lib.hid rfl
          have HL1 : Hid ((outs.length + 1) * RC.bytes ≤ 140737488355328) := Lib.hid (by have := HOL.out; have := HKK.out; have := HLM.out; simp only [RC]; omega)
          go_wp2_with (first | ((with_reducible apply m_wrh); (next => exact HM); (next => exact wanted_none rfl); ((with_reducible apply Wr.litR lawC); (next => exact rfl); (next => first | with_reducible exact LT1.out | with_reducible exact LT2.out | with_reducible exact LT3.out | exact LT1.out | exact LT2.out | exact LT3.out); (next => first | (go_simp; done) | exact rfl)); clear HM HB; intro w b HM HB; try clear b) | (refine m_wx ?_ HM (Wx.app lawC rfl (by first | (go_simp; with_reducible rfl) | rfl) (by first | (go_simp; with_reducible rfl) | rfl) (by (first | ((repeat (first | with_reducible exact Del.head _ | with_reducible apply Del.tail)); done) | ((repeat (first | exact Del.head _ | apply Del.tail)); done))) (by intro w hm; first | with_reducible exact HR1.out.below hm.below | with_reducible exact HR2.out.below hm.below | exact hm.rw_ lawC (by (first | ((repeat (first | with_reducible exact List.Mem.head _ | with_reducible apply List.Mem.tail)); done) | ((repeat (first | exact List.Mem.head _ | apply List.Mem.tail)); done))) | exact HR1.out.below hm.below | exact HR2.out.below hm.below) (by first | exact HN1.out | exact HN2.out | exact HN3.out | exact HN4.out) (by first | exact HL1.out | exact HL2.out)) (wanted_none rfl); clear HM HB; rintro w ⟨Aq, cq⟩ HM HB) | refine m_rd ?_ | (refine m_wr ?_; clear HM HB; intro w b HM HB; try clear b) | fail)
          go_roundw
          case rel =>
            refine ⟨k + sz, outs ++ [p], Aq, cq, ?_, HK2.out, Lib.hid (by have := HOL.out; have := HSZ.out; simp; omega), HST2, Lib.hid ?_⟩
            · rw [List.length_append]; rfl
            · have hm := ((((HM.out.pull (show Del (rowE R8 (.slice p.A p.r.d.length p.c) p.r.d) _ _ by (first | ((repeat (first | with_reducible exact Del.head _ | with_reducible apply Del.tail)); done) | ((repeat (first | exact Del.head _ | apply Del.tail)); done)))).pull (show Del (rowE RC _ (outs ++ [p])) _ _ by (first | ((repeat (first | with_reducible exact Del.head _ | with_reducible apply Del.tail)); done) | ((repeat (first | exact Del.head _ | apply Del.tail)); done)))).pull (show Del (rowE R8 (.slice P l.length q) l) _ _ by (first | ((repeat (first | with_reducible exact Del.head _ | with_reducible apply Del.tail)); done) | ((repeat (first | exact Del.head _ | apply Del.tail)); done)))).pull (show Del (tkB g P q l _) _ _ by (first | ((repeat (first | with_reducible exact Del.head _ | with_reducible apply Del.tail)); done) | ((repeat (first | exact Del.head _ | apply Del.tail)); done))))
              have hm2 : Mem w0 w (tkB g P q l (k + sz) :: rowE R8 (.slice P l.length q) l :: rowE RC (.slice Aq (outs.length + 1) cq) (outs ++ [p]) :: rowE R8 (.slice p.A p.r.d.length p.c) p.r.d :: dataE outs) := hm.sub (by ((repeat (first | exact List.Sublist.refl _ | apply List.Sublist.cons_cons | apply List.Sublist.cons)); done))
              rw [List.length_append]
              refine hm2.perm (List.Perm.cons _ (List.Perm.cons _ (List.Perm.cons _ ?_)))
              unfold dataE
              rw [List.map_append]
              exact (List.perm_append_singleton _ _).symm
          case measure =>
            have hc2 : w.cell? ⟨g, 1, none⟩ = some (.int .i64 ((k + sz : Nat) : Int)) := (blk_cell (HM.out.get (show tkB g P q l (k + sz) ∈ _ by (first | ((repeat (first | with_reducible exact List.Mem.head _ | with_reducible apply List.Mem.tail)); done) | ((repeat (first | exact List.Mem.head _ | apply List.Mem.tail)); done)))) 1).trans rfl
            rw [hc2, HCK.out]
            have := HK2.out
            have := HSZ.out
            (simp [intOf]) <;> omega
        · have HBD := Lib.hid hbd
          have HRC := Lib.hid (fun (w : World) (hm : HMem w0 w (tkB g P q l k :: rowE R8 (.slice P l.length q) l :: rowE RC (.slice A' outs.length c') outs :: dataE outs)) => (record_any_true hm HKK.out HL.out).mono (fun e w' hh => by unfold RecOut at hh; rw [if_neg hbd] at hh; exact hh))
          have HPB := Lib.hid (HPR.out.bad HNE.out hbd)
          have hne : (((badN true (l.drop k) : Nat) : Int) == 0) = false := by rw [beq_eq_false_iff_ne]; omega
          have hne2 : (((badN true (l.drop k) : Nat) : Int) != 0) = true := by rw [bne, hne]; rfl
          have HC := Lib.hid cellsZC
          clear hbd HBD
          generalize hbi : ((badN true (l.drop k) : Nat) : Int) = bi at HRC hne hne2
          have HBI := Lib.hid hbi
          clear hbi
          go_wp2_with fail
          refine (HRC.out _ HM).mono ?_
          rintro e w' ⟨rfl, hb'⟩
          clear HRC
          replace HM : HMem w0 w' [] := Lib.hid ⟨by assumption, fun e h => absurd h List.not_mem_nil, List.Pairwise.nil⟩
          replace HB := HM.out.below
          clear w
          obtain ⟨w, rfl⟩ : ∃ w, w = w' := ⟨_, rfl⟩
          go_wp2_with (first | refine m_rd ?_ | (refine m_wr ?_; clear HM HB; intro w b HM HB; try clear b) | fail)
          go_ret2
          rw [HPB.out]
          exact ⟨[], none, 0, by rw [HBI.out]; rfl, rfl, RW.nil _ _, fun p hp => absurd hp List.not_mem_nil, HB⟩
      · have hb1 : decide ((0 : Int) < (((l.drop k).length : Nat) : Int)) = false := decide_eq_false hpos
        have HP0 : Hid ((l.drop k).length = 0) := Lib.hid (by omega)
        generalize (((l.drop k).length : Nat) : Int) = ni at hpos HLF hb1
        clear hpos
        go_wp2_with fail
        refine (HLF.out _ _ HM).mono ?_
        rintro e w ⟨rfl, HM'⟩
        replace HM := HM'
        replace HB := HM.out.below
        clear HM'
        go_wp2_with fail
        go_ret2
        have hd := HPR.out.done HP0.out
        rw [hd]
        refine ⟨outs, A', c', rfl, rfl, HM.out.rw_ lawC (List.Mem.tail _ (List.Mem.tail _ (List.Mem.head _))), fun p hp => ?_, HB⟩
        exact HM.out.rb (List.Mem.tail _ (List.Mem.tail _ (List.Mem.tail _ (dataE_mem hp))))
theorem parse_no {A : Option Addr} {c : Nat} {l : List UInt8} (w0 : World) (x : Int) (hx : x ≠ 0) (HOP : ∀ w es, HMem w0 w es → Calls Try.prog 71 #[.slice A l.length c] w fun e w' => e = .returned (.tuple #[.pointer none, .nilFunc, .int .i64 x]) ∧ Below w0.heap.size w0 w') :
    Calls Try.prog 45 #[.slice A l.length c] w0 fun e w' => e = .returned (.tuple #[.slice none 0 0, .int .i64 x]) ∧ Below w0.heap.size w0 w' := by
  have HO := Lib.hid HOP
  have hne : (x == 0) = false := beq_eq_false_iff_ne.2 hx
  have hne2 : (x != 0) = true := by rw [bne, hne]; rfl
  clear HOP hx
  have HM := Lib.hid (Mem.start w0)
  have HB := HM.out.below
  go_enter Try.func45, Try.ntmps45
  go_wp2_with fail
  refine (HO.out _ _ HM).mono ?_
  rintro e w ⟨rfl, HB'⟩
  replace HB := HB'
  clear HB' HM
  go_wp2_with fail
  go_ret2
  exact ⟨rfl, HB⟩
theorem parse_any {A : Option Addr} {c : Nat} {l : List UInt8} (w0 : World) (hr : RB w0 (.slice A l.length c) l) (hl : l.length ≤ 1000000) :
    Calls Try.prog 45 #[.slice A l.length c] w0 (ParseOut RC w0 (fileB l)) := by
  unfold fileB
  by_cases h24 : l.length < 24
  · rw [if_pos h24]
    exact (parse_no w0 3 (by decide) (fun w es hm => opened_short hm hr (by omega) h24)).mono fun e w' hh => ⟨[], none, 0, hh.1, rfl, RW.nil _ _, fun p hp => absurd hp List.not_mem_nil, hh.2⟩
  · rw [if_neg h24]
    by_cases h1 : l.take 4 = num true 4 2712847316
    · simp only [if_pos h1, head_iff true l (by omega) h1]
      exact parse_true w0 hr hl (by omega) h1
    · rw [if_neg h1]
      by_cases h2 : l.take 4 = num false 4 2712847316
      · simp only [if_pos h2, head_iff false l (by omega) h2]
        exact parse_false w0 hr hl (by omega) h2
      · rw [if_neg h2]
        exact (parse_no w0 9 (by decide) (fun w es hm => opened_kind hm hr (by omega) (by omega) h1 h2)).mono fun e w' hh => ⟨[], none, 0, hh.1, rfl, RW.nil _ _, fun p hp => absurd hp List.not_mem_nil, hh.2⟩
end Go.Proofs.Ytnehbhhjdjiieaa.Cp
