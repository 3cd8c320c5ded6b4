/- Package capture: the front of a file. -/
import Derived.Test.YtnehbhhjdjiieaaCu
set_option linter.unusedSimpArgs false
set_option linter.unusedVariables false
set_option maxRecDepth 100000
namespace Go.Proofs.Ytnehbhhjdjiieaa.Cp
open Go.RowKit Go.Proofs.YtnehbhhjdjiieaaW.PrintWords Go.Proofs.Ytnehbhhjdjiieaa.Bs Go.Proofs.Ytnehbhhjdjiieaa.Gm Go.Proofs.Ytnehbhhjdjiieaa.Le Go.Proofs.Ytnehbhhjdjiieaa.Tk Go.Proofs.Ytnehbhhjdjiieaa.En

/-- What opened hands back of a file whose first number is right. -/
def OpenOut (big : Bool) (f : FuncId) (w0 : World) (l : List UInt8) (es : List Ent) (e : Ending) (w' : World) : Prop :=
  (if okH big l 4 = true then ∃ g P q, e = .returned (.tuple #[.pointer (some ⟨g, 0, none⟩), .func (.func f) #[.pointer (some ⟨g, 0, none⟩)] #[], .int .i64 0]) ∧ HMem w0 w' (tkB g P q l 24 :: rowE R8 (.slice P l.length q) l :: es) else e = .returned (.tuple #[.pointer none, .nilFunc, .int .i64 5])) ∧ Below w0.heap.size w0 w'
set_option maxHeartbeats 4000000 in
theorem opened_true {w0 w : World} {es : List Ent} {A : Option Addr} {c : Nat} {l : List UInt8} (h : HMem w0 w es) (hr : RB w0 (.slice A l.length c) l) (hl : l.length ≤ 1099511627776) (h24 : 24 ≤ l.length) (hm : l.take 4 = num true 4 2712847316) :
    Calls Try.prog 71 #[.slice A l.length c] w (OpenOut true 83 w0 l es) := by
  have HM := h
  have HB := HM.out.below
  have HL := Lib.hid hl
  have HR := Lib.hid hr
  have HNW : Hid (∀ W es, HMem w0 W es → Calls Try.prog 59 #[.slice A l.length c] W fun e w' => ∃ g P q, e = .returned (.pointer (some ⟨g, 0, none⟩)) ∧ HMem w0 w' (tkB g P q l 0 :: rowE R8 (.slice P l.length q) l :: es)) := Lib.hid (fun W es hm => mnew hm (hr.below hm.out.below) hl)
  have hcc : l.length ≤ c := by obtain ⟨A', c', e, hc, _⟩ := hr; injection e with _ _ e3; omega
  obtain ⟨hsl0, hrl⟩ := to2 A c l 4 (by omega) hcc
  have hsl : ∀ W : World, (Instr.slice 27 (.slice A l.length c) none (some (.int .i64 4)) none).run Try.prog W = .ok (.slice A 4 c) W := hsl0
  clear hsl0
  have HOB : Hid (∀ W, Below w0.heap.size w0 W → Calls Try.prog 82 #[.slice A 4 c] W fun e w' => e = .returned (.tuple #[.int .u64 ((val true (l.take 4) : Nat) : Int), .int .i64 0]) ∧ W = w') := Lib.hid (fun W hb => by
    obtain ⟨A', c', e, hc, hrd⟩ := hr.below hb
    injection e with e1 _ e3
    subst e1 e3
    have h4 : (l.take 4).length = 4 := by rw [List.length_take]; omega
    have hrb : RB W (.slice A 4 c) (l.take 4) := ⟨A, c, by rw [h4], by omega, by rw [h4]; exact hrl W hrd⟩
    exact ofBig_any _ _ W hrb (by omega) (by omega))
  have HT : Hid (∀ (g : Nat) (P : Option Addr) (q j m : Nat) (w : World) (es : List Ent), 1 ≤ m → m ≤ 4 → j + m ≤ 24 → HMem w0 w (tkB g P q l j :: rowE R8 (.slice P l.length q) l :: es) → Calls Try.prog 83 #[.pointer (some ⟨g, 0, none⟩), .int .i64 (m : Int)] w fun e w' => e = .returned (.int .u64 ((val true ((l.drop j).take m) : Nat) : Int)) ∧ HMem w0 w' (tkB g P q l (j + m) :: rowE R8 (.slice P l.length q) l :: es)) := Lib.hid (fun g P q j m w es h1 h4 hj hm => mbig m m hm rfl h1 (by omega) (by omega) hl)
  have HT0 : Hid (∀ (g : Nat) (P : Option Addr) (q : Nat) (w : World) (es : List Ent), HMem w0 w (tkB g P q l 0 :: rowE R8 (.slice P l.length q) l :: es) → Calls Try.prog 83 #[.pointer (some ⟨g, 0, none⟩), .int .i64 4] w fun e w' => e = .returned (.int .u64 ((val true (l.take 4) : Nat) : Int)) ∧ HMem w0 w' (tkB g P q l 4 :: rowE R8 (.slice P l.length q) l :: es)) := Lib.hid (fun g P q w es hm => HT.out g P q 0 4 w es (by decide) (by decide) (by decide) hm)
  have HT1 : Hid (∀ (g : Nat) (P : Option Addr) (q : Nat) (w : World) (es : List Ent), HMem w0 w (tkB g P q l 4 :: rowE R8 (.slice P l.length q) l :: es) → Calls Try.prog 83 #[.pointer (some ⟨g, 0, none⟩), .int .i64 2] w fun e w' => e = .returned (.int .u64 ((val true ((l.drop 4).take 2) : Nat) : Int)) ∧ HMem w0 w' (tkB g P q l 6 :: rowE R8 (.slice P l.length q) l :: es)) := Lib.hid (fun g P q w es hm => HT.out g P q 4 2 w es (by decide) (by decide) (by decide) hm)
  have HT2 : Hid (∀ (g : Nat) (P : Option Addr) (q : Nat) (w : World) (es : List Ent), HMem w0 w (tkB g P q l 6 :: rowE R8 (.slice P l.length q) l :: es) → Calls Try.prog 83 #[.pointer (some ⟨g, 0, none⟩), .int .i64 2] w fun e w' => e = .returned (.int .u64 ((val true ((l.drop 6).take 2) : Nat) : Int)) ∧ HMem w0 w' (tkB g P q l (8 + 4 * 0) :: rowE R8 (.slice P l.length q) l :: es)) := Lib.hid (fun g P q w es hm => HT.out g P q 6 2 w es (by decide) (by decide) (by decide) hm)
  have HT3 : Hid (∀ (g : Nat) (P : Option Addr) (q j : Nat) (w : World) (es : List Ent), j < 4 → HMem w0 w (tkB g P q l (8 + 4 * j) :: rowE R8 (.slice P l.length q) l :: es) → Calls Try.prog 83 #[.pointer (some ⟨g, 0, none⟩), .int .i64 4] w fun e w' => e = .returned (.int .u64 ((val true ((l.drop (8 + 4 * j)).take 4) : Nat) : Int)) ∧ HMem w0 w' (tkB g P q l (8 + 4 * (j + 1)) :: rowE R8 (.slice P l.length q) l :: es)) := Lib.hid (fun g P q j w es hj hm => HT.out g P q (8 + 4 * j) 4 w es (by decide) (by decide) (by omega) hm)
  have HOK := Lib.hid (okH_succ true l)
  have hok0 : (((val true ((l.drop 4).take 2) : Nat) : Int) == 2 && ((val true ((l.drop 6).take 2) : Nat) : Int) == 4) = okH true l 0 := by
    unfold okH
    simp only [List.range_zero, List.all_nil, Bool.and_true]
    congr 1
    · rw [Bool.eq_iff_iff, beq_iff_eq, beq_iff_eq]; omega
    · rw [Bool.eq_iff_iff, beq_iff_eq, beq_iff_eq]; omega
  have hl3 : decide ((l.length : Int) < 24) = false := decide_eq_false (by omega)
  have hm1 : (((val true (l.take 4) : Nat) : Int) == 2712847316) = true := by rw [hm]; decide
  have hm2 : (((val true (l.take 4) : Nat) : Int) == 2712847316) = true := by rw [hm]; decide
  have HIFF := Lib.hid (head_iff true l h24 hm)
  clear h hr hl h24 hm hcc hrl HT
  generalize ((val true (l.take 4) : Nat) : Int) = m1 at HOB hm1
  generalize ((val true (l.take 4) : Nat) : Int) = m2 at HT0 hm2
  generalize ((val true ((l.drop 4).take 2) : Nat) : Int) = x1 at HT1 hok0
  generalize ((val true ((l.drop 6).take 2) : Nat) : Int) = x2 at HT2 hok0
  have hm3 : (m2 != 2712847316) = false := by rw [bne, hm2]; rfl
  obtain ⟨b1, hb1⟩ : ∃ b1, (x1 == 2) = b1 := ⟨_, rfl⟩
  obtain ⟨b2, hb2⟩ : ∃ b2, (x2 == 4) = b2 := ⟨_, rfl⟩
  rw [hb1, hb2] at hok0
  have HOK0 := Lib.hid hok0
  clear hok0
  go_enter Try.func71, Try.ntmps71
  go_wp2_with fail
  refine (HNW.out _ _ HM).mono ?_
  rintro e w ⟨g, P, q, rfl, HM'⟩
  replace HM := HM'
  replace HB := HM.out.below
  clear HM'
  go_wp2_with fail
  refine (HOB.out _ HB).mono ?_
  rintro e w' ⟨rfl, rfl⟩
  go_wp2_with fail
  refine (HT0.out _ _ _ _ _ HM).mono ?_
  rintro e w ⟨rfl, HM'⟩
  replace HM := HM'
  replace HB := HM.out.below
  clear HM'
  go_wp2_with fail
  refine (HT1.out _ _ _ _ _ HM).mono ?_
  rintro e w ⟨rfl, HM'⟩
  replace HM := HM'
  replace HB := HM.out.below
  clear HM'
  clear hm1 hm2 hm3
  go_wp2_with fail
  refine (HT2.out _ _ _ _ _ HM).mono ?_
  rintro e w ⟨rfl, HM'⟩
  replace HM := HM'
  replace HB := HM.out.below
  clear HM'
  cases b2
  all_goals
    go_wp2_with fail
    generalize hwl : World.alloc w _ = wl
    replace HM : HMem w0 wl _ := Lib.hid (by rw [← hwl]; exact HM.out.newRow (below_alloc (Below.refl _ _) _) (OW.lit law64 w w.heap.size [0, 0, 65535, 101] (Nat.le_refl _) (by first | decide | simp)))
    clear hwl HB
    generalize w.heap.size = bl at HM ⊢
    have HB := HM.out.below
    clear w
    obtain ⟨w, rfl⟩ : ∃ w, w = wl := ⟨_, rfl⟩
    clear hb1 hb2
    rw [show ([0, 0, 65535, 101] : List Nat).length = 4 from rfl] at HM
    replace HM : HMem w0 w (tkB g P q l (8 + 4 * 0) :: rowE R8 (.slice P l.length q) l :: rowE R64 (.slice (some ⟨bl, 0, none⟩) 4 4) nsH :: es) := Lib.hid ((HM.out.pull (show Del (rowE R8 _ _) _ _ by (first | ((repeat (first | with_reducible exact Del.head _ | with_reducible apply Del.tail)); done) | ((repeat (first | exact Del.head _ | apply Del.tail)); done)))).pull (show Del (tkB g P q l _) _ _ by (first | ((repeat (first | with_reducible exact Del.head _ | with_reducible apply Del.tail)); done) | ((repeat (first | exact Del.head _ | apply Del.tail)); done))))
    go_loopw [9, 47] (fun v9 v47 wr => ∃ j : Nat, j ≤ 4 ∧ v9 = .bool (okH true l j) ∧ v47 = .int .i64 (j : Int) ∧ HMem w0 wr (tkB g P q l (8 + 4 * j) :: rowE R8 (.slice P l.length q) l :: rowE R64 (.slice (some ⟨bl, 0, none⟩) 4 4) nsH :: es)) (fun _ v47 _ => 4 - (intOf v47).toNat)
    case atStart => exact ⟨0, by decide, by rw [← HOK0.out]; cases b1 <;> rfl, rfl, HM⟩
    case round =>
      clear HM HB HOK0
      obtain ⟨j, hj, rfl, rfl, HM⟩ := hrel
      have HB := HM.out.below
      by_cases hlt : j < 4
      · have HCN : Hid (∀ W es, Mem w0 W es → rowE R64 (.slice (some ⟨bl, 0, none⟩) 4 4) nsH ∈ es → W.cell? ⟨bl, j, none⟩ = some (.int .u64 ((nsH.getD j 0 : Nat) : Int))) := Lib.hid (fun W es hm me => hm.cellR law64 me (i := j) (x := nsH.getD j 0) (by rw [List.getD_eq_getElem?_getD]; simp [nsH, hlt]) 0 rfl (by simp [R64]))
        have HT3' := Lib.hid (fun w es hm => HT3.out g P q j w es hlt hm)
        have hok := HOK.out j
        have hbb : (((val true ((l.drop (8 + 4 * j)).take 4) : Nat) : Int) == ((nsH.getD j 0 : Nat) : Int)) = (val true ((l.drop (8 + 4 * j)).take 4) == nsH.getD j 0) := by rw [Bool.eq_iff_iff, beq_iff_eq, beq_iff_eq]; omega
        generalize (val true ((l.drop (8 + 4 * j)).take 4) == nsH.getD j 0) = bj at hok hbb
        generalize ((nsH.getD j 0 : Nat) : Int) = nj at HCN hbb
        generalize ((val true ((l.drop (8 + 4 * j)).take 4) : Nat) : Int) = yj at HT3' hbb
        have HOKJ := Lib.hid hok
        clear hok
        go_wp2_with (first | (refine m_rd ?_ HM (Rd.fact rfl (by kernel_rfl) rfl (fun w hm => HCN.out w _ hm (by (first | ((repeat (first | with_reducible exact List.Mem.head _ | with_reducible apply List.Mem.tail)); done) | ((repeat (first | exact List.Mem.head _ | apply List.Mem.tail)); done)))))) | refine m_rd ?_ | (refine m_wr ?_; clear HM HB; intro w b HM HB; try clear b) | fail)
        refine (HT3'.out _ _ HM).mono ?_
        rintro e w ⟨rfl, HM'⟩
        replace HM := HM'
        replace HB := HM.out.below
        clear HM'
        cases bj
        all_goals
          go_wp2_with fail
          go_roundw
          case rel => exact ⟨j + 1, by omega, by rw [HOKJ.out]; simp, by go_num, HM⟩
          case measure => (simp [intOf]) <;> omega
      · obtain rfl : j = 4 := by omega
        clear hj hlt HOK
        clear HIFF
        cases hk : okH true l 4
        · have HK := Lib.hid hk
          clear hk
          go_wp2_with fail
          go_ret3
          refine ⟨?_, HB⟩
          rw [HK.out, if_neg (by decide)]
          rfl
        · have HK := Lib.hid hk
          clear hk
          go_wp2_with fail
          go_ret3
          refine ⟨?_, HB⟩
          rw [if_pos HK.out]
          exact ⟨g, P, q, rfl, Lib.hid (HM.out.sub (by ((repeat (first | exact List.Sublist.refl _ | apply List.Sublist.cons_cons | apply List.Sublist.cons)); done)))⟩
set_option maxHeartbeats 4000000 in
theorem opened_false {w0 w : World} {es : List Ent} {A : Option Addr} {c : Nat} {l : List UInt8} (h : HMem w0 w es) (hr : RB w0 (.slice A l.length c) l) (hl : l.length ≤ 1099511627776) (h24 : 24 ≤ l.length) (hm : l.take 4 = num false 4 2712847316) :
    Calls Try.prog 71 #[.slice A l.length c] w (OpenOut false 62 w0 l es) := by
  have HM := h
  have HB := HM.out.below
  have HL := Lib.hid hl
  have HR := Lib.hid hr
  have HNW : Hid (∀ W es, HMem w0 W es → Calls Try.prog 59 #[.slice A l.length c] W fun e w' => ∃ g P q, e = .returned (.pointer (some ⟨g, 0, none⟩)) ∧ HMem w0 w' (tkB g P q l 0 :: rowE R8 (.slice P l.length q) l :: es)) := Lib.hid (fun W es hm => mnew hm (hr.below hm.out.below) hl)
  have hcc : l.length ≤ c := by obtain ⟨A', c', e, hc, _⟩ := hr; injection e with _ _ e3; omega
  obtain ⟨hsl0, hrl⟩ := to2 A c l 4 (by omega) hcc
  have hsl : ∀ W : World, (Instr.slice 27 (.slice A l.length c) none (some (.int .i64 4)) none).run Try.prog W = .ok (.slice A 4 c) W := hsl0
  clear hsl0
  have HOB : Hid (∀ W, Below w0.heap.size w0 W → Calls Try.prog 82 #[.slice A 4 c] W fun e w' => e = .returned (.tuple #[.int .u64 ((val true (l.take 4) : Nat) : Int), .int .i64 0]) ∧ W = w') := Lib.hid (fun W hb => by
    obtain ⟨A', c', e, hc, hrd⟩ := hr.below hb
    injection e with e1 _ e3
    subst e1 e3
    have h4 : (l.take 4).length = 4 := by rw [List.length_take]; omega
    have hrb : RB W (.slice A 4 c) (l.take 4) := ⟨A, c, by rw [h4], by omega, by rw [h4]; exact hrl W hrd⟩
    exact ofBig_any _ _ W hrb (by omega) (by omega))
  have HT : Hid (∀ (g : Nat) (P : Option Addr) (q j m : Nat) (w : World) (es : List Ent), 1 ≤ m → m ≤ 4 → j + m ≤ 24 → HMem w0 w (tkB g P q l j :: rowE R8 (.slice P l.length q) l :: es) → Calls Try.prog 62 #[.pointer (some ⟨g, 0, none⟩), .int .i64 (m : Int)] w fun e w' => e = .returned (.int .u64 ((val false ((l.drop j).take m) : Nat) : Int)) ∧ HMem w0 w' (tkB g P q l (j + m) :: rowE R8 (.slice P l.length q) l :: es)) := Lib.hid (fun g P q j m w es h1 h4 hj hm => mlittle m m hm rfl h1 (by omega) (by omega) hl)
  have HT0 : Hid (∀ (g : Nat) (P : Option Addr) (q : Nat) (w : World) (es : List Ent), HMem w0 w (tkB g P q l 0 :: rowE R8 (.slice P l.length q) l :: es) → Calls Try.prog 62 #[.pointer (some ⟨g, 0, none⟩), .int .i64 4] w fun e w' => e = .returned (.int .u64 ((val false (l.take 4) : Nat) : Int)) ∧ HMem w0 w' (tkB g P q l 4 :: rowE R8 (.slice P l.length q) l :: es)) := Lib.hid (fun g P q w es hm => HT.out g P q 0 4 w es (by decide) (by decide) (by decide) hm)
  have HT1 : Hid (∀ (g : Nat) (P : Option Addr) (q : Nat) (w : World) (es : List Ent), HMem w0 w (tkB g P q l 4 :: rowE R8 (.slice P l.length q) l :: es) → Calls Try.prog 62 #[.pointer (some ⟨g, 0, none⟩), .int .i64 2] w fun e w' => e = .returned (.int .u64 ((val false ((l.drop 4).take 2) : Nat) : Int)) ∧ HMem w0 w' (tkB g P q l 6 :: rowE R8 (.slice P l.length q) l :: es)) := Lib.hid (fun g P q w es hm => HT.out g P q 4 2 w es (by decide) (by decide) (by decide) hm)
  have HT2 : Hid (∀ (g : Nat) (P : Option Addr) (q : Nat) (w : World) (es : List Ent), HMem w0 w (tkB g P q l 6 :: rowE R8 (.slice P l.length q) l :: es) → Calls Try.prog 62 #[.pointer (some ⟨g, 0, none⟩), .int .i64 2] w fun e w' => e = .returned (.int .u64 ((val false ((l.drop 6).take 2) : Nat) : Int)) ∧ HMem w0 w' (tkB g P q l (8 + 4 * 0) :: rowE R8 (.slice P l.length q) l :: es)) := Lib.hid (fun g P q w es hm => HT.out g P q 6 2 w es (by decide) (by decide) (by decide) hm)
  have HT3 : Hid (∀ (g : Nat) (P : Option Addr) (q j : Nat) (w : World) (es : List Ent), j < 4 → HMem w0 w (tkB g P q l (8 + 4 * j) :: rowE R8 (.slice P l.length q) l :: es) → Calls Try.prog 62 #[.pointer (some ⟨g, 0, none⟩), .int .i64 4] w fun e w' => e = .returned (.int .u64 ((val false ((l.drop (8 + 4 * j)).take 4) : Nat) : Int)) ∧ HMem w0 w' (tkB g P q l (8 + 4 * (j + 1)) :: rowE R8 (.slice P l.length q) l :: es)) := Lib.hid (fun g P q j w es hj hm => HT.out g P q (8 + 4 * j) 4 w es (by decide) (by decide) (by omega) hm)
  have HOK := Lib.hid (okH_succ false l)
  have hok0 : (((val false ((l.drop 4).take 2) : Nat) : Int) == 2 && ((val false ((l.drop 6).take 2) : Nat) : Int) == 4) = okH false l 0 := by
    unfold okH
    simp only [List.range_zero, List.all_nil, Bool.and_true]
    congr 1
    · rw [Bool.eq_iff_iff, beq_iff_eq, beq_iff_eq]; omega
    · rw [Bool.eq_iff_iff, beq_iff_eq, beq_iff_eq]; omega
  have hl3 : decide ((l.length : Int) < 24) = false := decide_eq_false (by omega)
  have hm1 : (((val true (l.take 4) : Nat) : Int) == 2712847316) = false := by rw [hm]; decide
  have hm2 : (((val false (l.take 4) : Nat) : Int) == 2712847316) = true := by rw [hm]; decide
  have HIFF := Lib.hid (head_iff false l h24 hm)
  clear h hr hl h24 hm hcc hrl HT
  generalize ((val true (l.take 4) : Nat) : Int) = m1 at HOB hm1
  generalize ((val false (l.take 4) : Nat) : Int) = m2 at HT0 hm2
  generalize ((val false ((l.drop 4).take 2) : Nat) : Int) = x1 at HT1 hok0
  generalize ((val false ((l.drop 6).take 2) : Nat) : Int) = x2 at HT2 hok0
  have hm3 : (m2 != 2712847316) = false := by rw [bne, hm2]; rfl
  obtain ⟨b1, hb1⟩ : ∃ b1, (x1 == 2) = b1 := ⟨_, rfl⟩
  obtain ⟨b2, hb2⟩ : ∃ b2, (x2 == 4) = b2 := ⟨_, rfl⟩
  rw [hb1, hb2] at hok0
  have HOK0 := Lib.hid hok0
  clear hok0
  go_enter Try.func71, Try.ntmps71
  go_wp2_with fail
  refine (HNW.out _ _ HM).mono ?_
  rintro e w ⟨g, P, q, rfl, HM'⟩
  replace HM := HM'
  replace HB := HM.out.below
  clear HM'
  go_wp2_with fail
  refine (HOB.out _ HB).mono ?_
  rintro e w' ⟨rfl, rfl⟩
  go_wp2_with fail
  refine (HT0.out _ _ _ _ _ HM).mono ?_
  rintro e w ⟨rfl, HM'⟩
  replace HM := HM'
  replace HB := HM.out.below
  clear HM'
  go_wp2_with fail
  refine (HT1.out _ _ _ _ _ HM).mono ?_
  rintro e w ⟨rfl, HM'⟩
  replace HM := HM'
  replace HB := HM.out.below
  clear HM'
  clear hm1 hm2 hm3
  go_wp2_with fail
  refine (HT2.out _ _ _ _ _ HM).mono ?_
  rintro e w ⟨rfl, HM'⟩
  replace HM := HM'
  replace HB := HM.out.below
  clear HM'
  cases b2
  all_goals
    go_wp2_with fail
    generalize hwl : World.alloc w _ = wl
    replace HM : HMem w0 wl _ := Lib.hid (by rw [← hwl]; exact HM.out.newRow (below_alloc (Below.refl _ _) _) (OW.lit law64 w w.heap.size [0, 0, 65535, 101] (Nat.le_refl _) (by first | decide | simp)))
    clear hwl HB
    generalize w.heap.size = bl at HM ⊢
    have HB := HM.out.below
    clear w
    obtain ⟨w, rfl⟩ : ∃ w, w = wl := ⟨_, rfl⟩
    clear hb1 hb2
    rw [show ([0, 0, 65535, 101] : List Nat).length = 4 from rfl] at HM
    replace HM : HMem w0 w (tkB g P q l (8 + 4 * 0) :: rowE R8 (.slice P l.length q) l :: rowE R64 (.slice (some ⟨bl, 0, none⟩) 4 4) nsH :: es) := Lib.hid ((HM.out.pull (show Del (rowE R8 _ _) _ _ by (first | ((repeat (first | with_reducible exact Del.head _ | with_reducible apply Del.tail)); done) | ((repeat (first | exact Del.head _ | apply Del.tail)); done)))).pull (show Del (tkB g P q l _) _ _ by (first | ((repeat (first | with_reducible exact Del.head _ | with_reducible apply Del.tail)); done) | ((repeat (first | exact Del.head _ | apply Del.tail)); done))))
    go_loopw [9, 47] (fun v9 v47 wr => ∃ j : Nat, j ≤ 4 ∧ v9 = .bool (okH false l j) ∧ v47 = .int .i64 (j : Int) ∧ HMem w0 wr (tkB g P q l (8 + 4 * j) :: rowE R8 (.slice P l.length q) l :: rowE R64 (.slice (some ⟨bl, 0, none⟩) 4 4) nsH :: es)) (fun _ v47 _ => 4 - (intOf v47).toNat)
    case atStart => exact ⟨0, by decide, by rw [← HOK0.out]; cases b1 <;> rfl, rfl, HM⟩
    case round =>
      clear HM HB HOK0
      obtain ⟨j, hj, rfl, rfl, HM⟩ := hrel
      have HB := HM.out.below
      by_cases hlt : j < 4
      · have HCN : Hid (∀ W es, Mem w0 W es → rowE R64 (.slice (some ⟨bl, 0, none⟩) 4 4) nsH ∈ es → W.cell? ⟨bl, j, none⟩ = some (.int .u64 ((nsH.getD j 0 : Nat) : Int))) := Lib.hid (fun W es hm me => hm.cellR law64 me (i := j) (x := nsH.getD j 0) (by rw [List.getD_eq_getElem?_getD]; simp [nsH, hlt]) 0 rfl (by simp [R64]))
        have HT3' := Lib.hid (fun w es hm => HT3.out g P q j w es hlt hm)
        have hok := HOK.out j
        have hbb : (((val false ((l.drop (8 + 4 * j)).take 4) : Nat) : Int) == ((nsH.getD j 0 : Nat) : Int)) = (val false ((l.drop (8 + 4 * j)).take 4) == nsH.getD j 0) := by rw [Bool.eq_iff_iff, beq_iff_eq, beq_iff_eq]; omega
        generalize (val false ((l.drop (8 + 4 * j)).take 4) == nsH.getD j 0) = bj at hok hbb
        generalize ((nsH.getD j 0 : Nat) : Int) = nj at HCN hbb
        generalize ((val false ((l.drop (8 + 4 * j)).take 4) : Nat) : Int) = yj at HT3' hbb
        have HOKJ := Lib.hid hok
        clear hok
        go_wp2_with (first | (refine m_rd ?_ HM (Rd.fact rfl (by kernel_rfl) rfl (fun w hm => HCN.out w _ hm (by (first | ((repeat (first | with_reducible exact List.Mem.head _ | with_reducible apply List.Mem.tail)); done) | ((repeat (first | exact List.Mem.head _ | apply List.Mem.tail)); done)))))) | refine m_rd ?_ | (refine m_wr ?_; clear HM HB; intro w b HM HB; try clear b) | fail)
        refine (HT3'.out _ _ HM).mono ?_
        rintro e w ⟨rfl, HM'⟩
        replace HM := HM'
        replace HB := HM.out.below
        clear HM'
        cases bj
        all_goals
          go_wp2_with fail
          go_roundw
          case rel => exact ⟨j + 1, by omega, by rw [HOKJ.out]; simp, by go_num, HM⟩
          case measure => (simp [intOf]) <;> omega
      · obtain rfl : j = 4 := by omega
        clear hj hlt HOK
        clear HIFF
        cases hk : okH false l 4
        · have HK := Lib.hid hk
          clear hk
          go_wp2_with fail
          go_ret3
          refine ⟨?_, HB⟩
          rw [HK.out, if_neg (by decide)]
          rfl
        · have HK := Lib.hid hk
          clear hk
          go_wp2_with fail
          go_ret3
          refine ⟨?_, HB⟩
          rw [if_pos HK.out]
          exact ⟨g, P, q, rfl, Lib.hid (HM.out.sub (by ((repeat (first | exact List.Sublist.refl _ | apply List.Sublist.cons_cons | apply List.Sublist.cons)); done)))⟩
theorem opened_short {w0 w : World} {es : List Ent} {A : Option Addr} {c : Nat} {l : List UInt8} (h : HMem w0 w es) (hr : RB w0 (.slice A l.length c) l) (hl : l.length ≤ 1099511627776) (h24 : l.length < 24) :
    Calls Try.prog 71 #[.slice A l.length c] w fun e w' => e = .returned (.tuple #[.pointer none, .nilFunc, .int .i64 3]) ∧ Below w0.heap.size w0 w' := by
  have HM := h
  have HB := HM.out.below
  have HNW : Hid (∀ W es, HMem w0 W es → Calls Try.prog 59 #[.slice A l.length c] W fun e w' => ∃ g P q, e = .returned (.pointer (some ⟨g, 0, none⟩)) ∧ HMem w0 w' (tkB g P q l 0 :: rowE R8 (.slice P l.length q) l :: es)) := Lib.hid (fun W es hm => mnew hm (hr.below hm.out.below) hl)
  have hl3 : decide ((l.length : Int) < 24) = true := decide_eq_true (by omega)
  clear h hr hl h24
  go_enter Try.func71, Try.ntmps71
  go_wp2_with fail
  refine (HNW.out _ _ HM).mono ?_
  rintro e w ⟨g, P, q, rfl, HM'⟩
  replace HB := HM'.out.below
  clear HM'
  go_wp2_with fail
  go_ret3
  exact ⟨rfl, HB⟩
set_option maxHeartbeats 4000000 in
theorem opened_kind {w0 w : World} {es : List Ent} {A : Option Addr} {c : Nat} {l : List UInt8} (h : HMem w0 w es) (hr : RB w0 (.slice A l.length c) l) (hl : l.length ≤ 1099511627776) (h24 : 24 ≤ l.length) (hn1 : l.take 4 ≠ num true 4 2712847316) (hn2 : l.take 4 ≠ num false 4 2712847316) :
    Calls Try.prog 71 #[.slice A l.length c] w fun e w' => e = .returned (.tuple #[.pointer none, .nilFunc, .int .i64 9]) ∧ Below w0.heap.size w0 w' := by
  have HM := h
  have HB := HM.out.below
  have HNW : Hid (∀ W es, HMem w0 W es → Calls Try.prog 59 #[.slice A l.length c] W fun e w' => ∃ g P q, e = .returned (.pointer (some ⟨g, 0, none⟩)) ∧ HMem w0 w' (tkB g P q l 0 :: rowE R8 (.slice P l.length q) l :: es)) := Lib.hid (fun W es hm => mnew hm (hr.below hm.out.below) hl)
  have hcc : l.length ≤ c := by obtain ⟨A', c', e, hc, _⟩ := hr; injection e with _ _ e3; omega
  have h4 : (l.take 4).length = 4 := by rw [List.length_take]; omega
  obtain ⟨hsl0, hrl⟩ := to2 A c l 4 (by omega) hcc
  have hsl : ∀ W : World, (Instr.slice 27 (.slice A l.length c) none (some (.int .i64 4)) none).run Try.prog W = .ok (.slice A 4 c) W := hsl0
  clear hsl0
  have HOB : Hid (∀ W, Below w0.heap.size w0 W → Calls Try.prog 82 #[.slice A 4 c] W fun e w' => e = .returned (.tuple #[.int .u64 ((val true (l.take 4) : Nat) : Int), .int .i64 0]) ∧ W = w') := Lib.hid (fun W hb => by
    obtain ⟨A', c', e, hc, hrd⟩ := hr.below hb
    injection e with e1 _ e3
    subst e1 e3
    have hrb : RB W (.slice A 4 c) (l.take 4) := ⟨A, c, by rw [h4], by omega, by rw [h4]; exact hrl W hrd⟩
    exact ofBig_any _ _ W hrb (by omega) (by omega))
  have HT0 : Hid (∀ (g : Nat) (P : Option Addr) (q : Nat) (w : World) (es : List Ent), HMem w0 w (tkB g P q l 0 :: rowE R8 (.slice P l.length q) l :: es) → Calls Try.prog 62 #[.pointer (some ⟨g, 0, none⟩), .int .i64 4] w fun e w' => e = .returned (.int .u64 ((val false (l.take 4) : Nat) : Int)) ∧ HMem w0 w' (tkB g P q l 4 :: rowE R8 (.slice P l.length q) l :: es)) := Lib.hid (fun g P q w es hm => mlittle 4 4 hm rfl (by decide) (by decide) (by omega) hl)
  have hl3 : decide ((l.length : Int) < 24) = false := decide_eq_false (by omega)
  have hm1 : (((val true (l.take 4) : Nat) : Int) == 2712847316) = false := by
    rw [beq_eq_false_iff_ne]
    intro e
    exact hn1 ((val_iff true _ 4 _ h4 (by decide)).1 (by omega))
  have hm2 : (((val false (l.take 4) : Nat) : Int) == 2712847316) = false := by
    rw [beq_eq_false_iff_ne]
    intro e
    exact hn2 ((val_iff false _ 4 _ h4 (by decide)).1 (by omega))
  clear h hr hl h24 hn1 hn2 hcc hrl h4
  generalize ((val true (l.take 4) : Nat) : Int) = m1 at HOB hm1
  generalize ((val false (l.take 4) : Nat) : Int) = m2 at HT0 hm2
  have hm3 : (m2 != 2712847316) = true := by rw [bne, hm2]; rfl
  go_enter Try.func71, Try.ntmps71
  go_wp2_with fail
  refine (HNW.out _ _ HM).mono ?_
  rintro e w ⟨g, P, q, rfl, HM'⟩
  replace HM := HM'
  replace HB := HM.out.below
  clear HM'
  go_wp2_with fail
  refine (HOB.out _ HB).mono ?_
  rintro e w' ⟨rfl, rfl⟩
  go_wp2_with fail
  refine (HT0.out _ _ _ _ _ HM).mono ?_
  rintro e w ⟨rfl, HM'⟩
  replace HM := HM'
  replace HB := HM.out.below
  clear HM'
  go_wp2_with fail
  go_ret3
  exact ⟨rfl, HB⟩
end Go.Proofs.Ytnehbhhjdjiieaa.Cp
