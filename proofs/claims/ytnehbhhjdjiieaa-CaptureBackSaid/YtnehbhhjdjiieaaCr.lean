/- Package capture: its records and its writer. -/
import Derived.Test.YtnehbhhjdjiieaaCq
import Derived.Test.YtnehbhhjdjiieaaRg
import Derived.Test.YtnehbhhjdjiieaaTn
set_option linter.unusedSimpArgs false
set_option linter.unusedVariables false
set_option maxRecDepth 100000
namespace Go.Proofs.Ytnehbhhjdjiieaa.Cp
open Go.RowKit Go.Proofs.YtnehbhhjdjiieaaW.PrintWords Go.Proofs.Ytnehbhhjdjiieaa.Bs Go.Proofs.Ytnehbhhjdjiieaa.Gm Go.Proofs.Ytnehbhhjdjiieaa.Le Go.Proofs.Ytnehbhhjdjiieaa.En
open Go.Proofs.Ytnehbhhjdjiieaa.Mv (flat flat_snoc flat_length)

/-- A record, and where its data lies. -/
structure RV where
  r : Rec
  A : Option Addr
  c : Nat
def encV (p : RV) : Array Value := #[.int .u32 (p.r.s : Int), .int .u32 (p.r.u : Int), .int .u32 (p.r.z : Int), .slice p.A p.r.d.length p.c]
def RC : RK RV := ⟨71, 74, 4, 40, encV⟩
def RD : RK RV := ⟨72, 75, 4, 40, encV⟩
theorem oneV (p : RV) : (encV p).all (·.oneCell') = true := by simp [encV, Value.oneCell']
theorem lawC : RC.Law := RK.law_of Try.underlying71 (by kernel_rfl) (by decide) (by decide) (fun _ => rfl) oneV
theorem lawD : RD.Law := RK.law_of Try.underlying72 (by kernel_rfl) (by decide) (by decide) (fun _ => rfl) oneV
def R64 : RK Nat := ⟨117, 57, 1, 8, fun x => #[.int .u64 (x : Int)]⟩
theorem law64 : R64.Law := RK.law_of Try.underlying117 (by kernel_rfl) (by decide) (by decide) (fun _ => rfl) (fun x => by simp [R64, Value.oneCell'])

theorem right_any (p : RV) (w0 : World) (hf : p.r.fits) (hd : p.r.d.length ≤ 1099511627776) :
    Calls Try.prog 42 #[.agg (encV p)] w0 fun e w' => e = .returned (.bool (rightR p.r)) ∧ Below w0.heap.size w0 w' := by
  obtain ⟨⟨s, u, z, d⟩, A, c⟩ := p
  obtain ⟨f1, f2, f3⟩ := hf
  unfold encV rightR
  simp only [] at f1 f2 f3 hd ⊢
  generalize d.length = n at *
  have e1 : decide (u < 1000000) = decide ((u : Int) < 1000000) := by congr 1; simp only [eq_iff_iff]; omega
  have e2 : decide (n ≤ 65535) = decide ((n : Int) ≤ 65535) := by congr 1; simp only [eq_iff_iff]; omega
  have e3 : decide (n ≤ z) = decide ((n : Int) ≤ (z : Int)) := by congr 1; simp only [eq_iff_iff]; omega
  rw [e1, e2, e3]
  clear e1 e2 e3
  have g1 : (0 : Int) ≤ (u : Int) := Int.natCast_nonneg _
  have g3 : (0 : Int) ≤ (z : Int) := Int.natCast_nonneg _
  have g4 : (0 : Int) ≤ (s : Int) := Int.natCast_nonneg _
  have b1 : n ≤ 9223372036854775807 := by omega
  have b3 : (z : Int) < 4294967296 := by omega
  clear hd f1 f2 f3
  generalize (u : Int) = u' at *
  generalize (z : Int) = z' at *
  generalize (s : Int) = s' at *
  clear u z s
  by_cases h1 : decide (u' < 1000000) = true
  · rw [h1]
    by_cases h2 : decide ((n : Int) ≤ 65535) = true
    · rw [h2]
      by_cases h3 : decide ((n : Int) ≤ z') = true
      · rw [h3]
        go_enter Try.func42, Try.ntmps42
        go_wp2_with fail
        go_ret
        exact ⟨rfl, below_alloc (Below.refl _ _) _⟩
      · rw [Bool.not_eq_true] at h3
        rw [h3]
        go_enter Try.func42, Try.ntmps42
        go_wp2_with fail
        go_ret
        exact ⟨rfl, below_alloc (Below.refl _ _) _⟩
    · rw [Bool.not_eq_true] at h2
      rw [h2]
      go_enter Try.func42, Try.ntmps42
      go_wp2_with fail
      go_ret
      exact ⟨rfl, below_alloc (Below.refl _ _) _⟩
  · rw [Bool.not_eq_true] at h1
    rw [h1]
    go_enter Try.func42, Try.ntmps42
    go_wp2_with fail
    go_ret
    exact ⟨rfl, below_alloc (Below.refl _ _) _⟩
theorem refRight_any (p : RV) (w0 : World) (hf : p.r.fits) (hd : p.r.d.length ≤ 1099511627776) :
    Calls Try.prog 43 #[.agg (encV p)] w0 fun e w' => e = .returned (.bool (rightR p.r)) ∧ Below w0.heap.size w0 w' := by
  obtain ⟨⟨s, u, z, d⟩, A, c⟩ := p
  obtain ⟨f1, f2, f3⟩ := hf
  unfold encV rightR
  simp only [] at f1 f2 f3 hd ⊢
  generalize d.length = n at *
  have e1 : decide (u < 1000000) = decide ((u : Int) < 1000000) := by congr 1; simp only [eq_iff_iff]; omega
  have e2 : decide (n ≤ 65535) = decide ((n : Int) ≤ 65535) := by congr 1; simp only [eq_iff_iff]; omega
  have e3 : decide (n ≤ z) = decide ((n : Int) ≤ (z : Int)) := by congr 1; simp only [eq_iff_iff]; omega
  rw [e1, e2, e3]
  clear e1 e2 e3
  have g1 : (0 : Int) ≤ (u : Int) := Int.natCast_nonneg _
  have g3 : (0 : Int) ≤ (z : Int) := Int.natCast_nonneg _
  have g4 : (0 : Int) ≤ (s : Int) := Int.natCast_nonneg _
  have b1 : n ≤ 9223372036854775807 := by omega
  have b3 : (z : Int) < 4294967296 := by omega
  clear hd f1 f2 f3
  generalize (u : Int) = u' at *
  generalize (z : Int) = z' at *
  generalize (s : Int) = s' at *
  clear u z s
  by_cases h1 : decide (u' < 1000000) = true
  · rw [h1]
    by_cases h2 : decide ((n : Int) ≤ 65535) = true
    · rw [h2]
      by_cases h3 : decide ((n : Int) ≤ z') = true
      · rw [h3]
        go_enter Try.func43, Try.ntmps43
        go_wp2_with fail
        go_ret
        exact ⟨rfl, below_alloc (Below.refl _ _) _⟩
      · rw [Bool.not_eq_true] at h3
        rw [h3]
        go_enter Try.func43, Try.ntmps43
        go_wp2_with fail
        go_ret
        exact ⟨rfl, below_alloc (Below.refl _ _) _⟩
    · rw [Bool.not_eq_true] at h2
      rw [h2]
      go_enter Try.func43, Try.ntmps43
      go_wp2_with fail
      go_ret
      exact ⟨rfl, below_alloc (Below.refl _ _) _⟩
  · rw [Bool.not_eq_true] at h1
    rw [h1]
    go_enter Try.func43, Try.ntmps43
    go_wp2_with fail
    go_ret
    exact ⟨rfl, below_alloc (Below.refl _ _) _⟩
/-- A writer: its block, and what it gathered. -/
theorem num_any {w0 w : World} {es : List Ent} {b : Nat} {v : Value} {l : List UInt8} (n s : Nat) (L : List UInt8) (m : Nat) (hL : l ++ leB s n = L) (hm : L.length = m) (HM : HMem w0 w (.blk b #[v] 115 :: rowE R8 v l :: es)) (hn : n < 18446744073709551616) (h1 : 1 ≤ s) (h8 : s ≤ 8) (h : s < 8 → n < pw s) (hl : m ≤ 1099511627776) :
    Calls Try.prog 70 #[.pointer (some ⟨b, 0, none⟩), .int .u64 n, .int .i64 s] w fun e w' => e = .returned (.tuple #[]) ∧ ∃ A c, HMem w0 w' (.blk b #[.slice A m c] 115 :: rowE R8 (.slice A m c) L :: es) := by
  have HB := HM.out.below
  have HC := Lib.hid (fun w : World => little_any n s w hn h1 h8 h)
  have HN1 : Hid (l.length + (leB s n).length = m) := Lib.hid (by rw [← hm, ← hL, List.length_append])
  have HL1 : Hid (m * R8.bytes ≤ 140737488355328) := Lib.hid (by simp only [R8]; omega)
  have HLL := Lib.hid hL
  clear hn h1 h8 h hl hL hm
  go_enter Try.func70, Try.ntmps70
  go_wp2_with fail
  refine (HC.out _).mono ?_
  rintro e w ⟨u, rfl, ho, hb⟩
  replace HM := Lib.hid (HM.out.row8 hb ho)
  replace HB := HM.out.below
  clear ho hb
  go_wp2_with (first | ((with_reducible apply m_rdh); (next => exact HM); (next => exact wanted_none rfl); (focus ((with_reducible apply Rd.cell); (next => with_reducible exact rfl); rotate_left; (next => exact rfl); (next => (first | ((repeat (first | with_reducible exact List.Mem.head _ | with_reducible apply List.Mem.tail)); done) | ((repeat (first | exact List.Mem.head _ | apply List.Mem.tail)); done))); (next => exact rfl); (next => decide +kernel)))) | (refine m_wx ?_ HM (Wx.app law8 rfl (by first | (go_simp; with_reducible rfl) | rfl) (by first | (go_simp; with_reducible rfl) | rfl) (by (first | ((repeat (first | with_reducible exact Del.head _ | with_reducible apply Del.tail)); done) | ((repeat (first | exact Del.head _ | apply Del.tail)); done))) (by intro w hm; first | with_reducible exact HR1.out.below hm.below | with_reducible exact HR2.out.below hm.below | exact hm.rw_ law8 (by (first | ((repeat (first | with_reducible exact List.Mem.head _ | with_reducible apply List.Mem.tail)); done) | ((repeat (first | exact List.Mem.head _ | apply List.Mem.tail)); done))) | exact HR1.out.below hm.below | exact HR2.out.below hm.below) (by first | exact HN1.out | exact HN2.out | exact HN3.out | exact HN4.out) (by first | exact HL1.out | exact HL2.out)) (wanted_none rfl); clear HM HB; rintro w ⟨Aq, cq⟩ HM HB) | ((with_reducible apply m_wrh); (next => exact HM); (next => exact wanted_none rfl); ((with_reducible apply Wr.put); (next => with_reducible exact rfl); (next => kernel_rfl); (next => exact rfl); (next => exact rfl); (next => exact rfl); (next => (first | ((repeat (first | with_reducible exact Upd.head _ | with_reducible apply Upd.tail)); done) | ((repeat (first | exact Upd.head _ | apply Upd.tail)); done))); (next => exact rfl); (next => simp only [List.setIfInBounds_toArray, List.set_cons_zero, List.set_cons_succ]; exact rfl)); clear HM HB; intro w b HM HB; try clear b) | refine m_rd ?_ | (refine m_wr ?_; clear HM HB; intro w b HM HB; try clear b) | fail)
  go_end0
  rw [HLL.out] at HM
  exact ⟨rfl, Aq, cq, Lib.hid ((HM.out.pull (show Del (Ent.blk b _ _) _ _ by (first | ((repeat (first | with_reducible exact Del.head _ | with_reducible apply Del.tail)); done) | ((repeat (first | exact Del.head _ | apply Del.tail)); done)))).sub (by ((repeat (first | exact List.Sublist.refl _ | apply List.Sublist.cons_cons | apply List.Sublist.cons)); done)))⟩
theorem zeroW : Cells 115 #[.slice none 0 0] := ⟨by kernel_rfl, by simp [Value.oneCell']⟩
theorem buildW : Built 115 #[] (.agg #[.slice none 0 0]) := fun W => by kernel_rfl
theorem lit4 (a b c d : Nat) : LitR R64 4 #[(0, .int .u64 a), (1, .int .u64 b), (2, .int .u64 c), (3, .int .u64 d)] [a, b, c, d] := ⟨rfl, by decide, fun W => by kernel_rfl⟩
def allRight (l : List RV) : Bool := l.all fun p => rightR p.r
def Out (w : World) (l : List RV) (e : Ending) (w' : World) : Prop := (if allRight l = true then ∃ v, e = .returned (.tuple #[v, .int .i64 0]) ∧ OB w.heap.size w' v (headB false ++ recsB false (l.map (·.r))) else e = .returned (.tuple #[.slice none 0 0, .int .i64 1])) ∧ Below w.heap.size w w'
/-- What is gathered behind so many records. -/
def cont (l : List RV) (i : Nat) : List UInt8 := headB false ++ recsB false ((l.take i).map (·.r))
theorem cont_zero (l : List RV) : cont l 0 = headB false := rfl
theorem cont_step (l : List RV) (i : Nat) (p : RV) (h : l[i]? = some p) : cont l i ++ flat [p.r.s, p.r.u, p.r.d.length, p.r.z] ++ p.r.d = cont l (i + 1) := by
  unfold cont
  rw [List.take_add_one, h]
  simp [recsB, recB, flat, num]
theorem right_take {l : List RV} {i : Nat} {p : RV} (h : l[i]? = some p) (ha : allRight (l.take i) = true) (hp : rightR p.r = true) : allRight (l.take (i + 1)) = true := by
  rw [List.take_add_one, h]
  unfold allRight at ha ⊢
  simp [List.all_append, ha, hp]
theorem right_not {l : List RV} {i : Nat} {p : RV} (h : l[i]? = some p) (hp : rightR p.r = false) : ¬ allRight l = true := fun ha => by
  unfold allRight at ha
  rw [List.all_eq_true] at ha
  have := ha p (List.mem_of_getElem? h)
  rw [hp] at this
  cases this
theorem cont_len (l : List RV) : ∀ i, allRight (l.take i) = true → (cont l i).length ≤ 24 + 65551 * i
  | 0, _ => by rw [cont_zero, headB_length]; omega
  | i + 1, h => by
    by_cases hi : i < l.length
    · have hp : l[i]? = some l[i] := by simp [hi]
      have h1 : l.take (i + 1) = l.take i ++ [l[i]] := by rw [List.take_add_one, hp]; rfl
      rw [h1] at h
      unfold allRight at h
      rw [List.all_append, Bool.and_eq_true] at h
      have ih := cont_len l i h.1
      have hd := right_le (r := l[i].r) (by simpa using h.2)
      rw [← cont_step l i _ hp, List.length_append, List.length_append]
      have hf : (flat [l[i].r.s, l[i].r.u, l[i].r.d.length, l[i].r.z]).length = 16 := by rw [flat_length]; rfl
      omega
    · have e : l.take (i + 1) = l.take i := by rw [List.take_of_length_le (by omega), List.take_of_length_le (by omega)]
      rw [e] at h
      have ih := cont_len l i h
      unfold cont at ih ⊢
      rw [e]; omega
theorem flat_take (ns : List Nat) (i : Nat) (h : i < ns.length) : flat (ns.take (i + 1)) = flat (ns.take i) ++ leB 4 (ns.getD i 0) := flat_snoc ns i h
theorem zeroC : ZeroOf 74 #[.int .u32 0, .int .u32 0, .int .u32 0, .slice none 0 0] := ⟨fun W => zero_of (by kernel_rfl) W, by kernel_rfl, by simp [Value.oneCell']⟩
theorem cellsV (p : RV) : Cells 74 (encV p) := ⟨by kernel_rfl, oneV p⟩
theorem recs_snoc (l : List RV) (i : Nat) (p : RV) (h : l[i]? = some p) : recsB false ((l.take (i + 1)).map (·.r)) = recsB false ((l.take i).map (·.r)) ++ recB false p.r := by
  have hlt := (List.getElem?_eq_some_iff.1 h).1
  rw [List.take_add_one, h]
  simp [recsB]
set_option maxHeartbeats 1000000 in
theorem bytes_any (A : Option Addr) (c : Nat) (l : List RV) (w0 : World) (hr : RW RC w0 (.slice A l.length c) l) (hd : ∀ p ∈ l, p.r.fits ∧ p.r.d.length ≤ 1099511627776 ∧ RB w0 (.slice p.A p.r.d.length p.c) p.r.d) (hl : l.length ≤ 1000) :
    Calls Try.prog 44 #[.slice A l.length c] w0 (Out w0 l) := by
  have HR := Lib.hid hr
  have HD := Lib.hid hd
  have HC := Lib.hid zeroW
  have BH1 := Lib.hid buildW
  have AL1 := Lib.hid zeroC
  have HLN := Lib.hid (cont_len l)
  clear hr hd
  have HF : Hid (∀ i, i < 4 → num false 4 2712847316 ++ num false 2 2 ++ num false 2 4 ++ flat (([0, 0, 65535, 101] : List Nat).take i) ++ leB 4 (([0, 0, 65535, 101] : List Nat).getD i 0) = num false 4 2712847316 ++ num false 2 2 ++ num false 2 4 ++ flat (([0, 0, 65535, 101] : List Nat).take (i + 1))) := Lib.hid (fun i hi => by rw [flat_take _ _ hi, List.append_assoc])
  have HFL : Hid (∀ i, i ≤ 4 → (num false 4 2712847316 ++ num false 2 2 ++ num false 2 4 ++ flat (([0, 0, 65535, 101] : List Nat).take i)).length = 8 + 4 * i) := Lib.hid (fun i hi => by simp only [List.length_append, num_length, flat_length, List.length_take, List.length_cons, List.length_nil]; omega)
  have HM := Lib.hid (Mem.start w0)
  have HB := HM.out.below
  go_enter Try.func44, Try.ntmps44
  go_wp2_with (first | refine m_rd ?_ | (refine m_wr ?_; clear HM HB; intro w bw HM HB) | fail)
  refine (num_any 2712847316 4 (num false 4 2712847316) 4 rfl rfl (Lib.hid ((HM.out.nilR R8).pull (show Del (Ent.blk bw _ _) _ _ by (first | ((repeat (first | with_reducible exact Del.head _ | with_reducible apply Del.tail)); done) | ((repeat (first | exact Del.head _ | apply Del.tail)); done))))) (by first | decide | (have := HNL.out; omega) | omega) (by decide) (by decide) (fun h => by unfold pw; first | decide | (have := HNL.out; omega) | omega) (by first | decide | (have := HNL.out; omega) | omega)).mono ?_
  rintro e w ⟨rfl, Aw, cw, HM'⟩
  replace HM := HM'
  replace HB := HM.out.below
  clear HM'
  go_wp2_with (first | refine m_rd ?_ | (refine m_wr ?_; clear HM HB; intro w b HM HB; try clear b) | fail)
  refine (num_any 2 2 (num false 4 2712847316 ++ num false 2 2) 6 rfl rfl (Lib.hid ((HM.out).pull (show Del (Ent.blk bw _ _) _ _ by (first | ((repeat (first | with_reducible exact Del.head _ | with_reducible apply Del.tail)); done) | ((repeat (first | exact Del.head _ | apply Del.tail)); done))))) (by first | decide | (have := HNL.out; omega) | omega) (by decide) (by decide) (fun h => by unfold pw; first | decide | (have := HNL.out; omega) | omega) (by first | decide | (have := HNL.out; omega) | omega)).mono ?_
  rintro e w ⟨rfl, Aw, cw, HM'⟩
  replace HM := HM'
  replace HB := HM.out.below
  clear HM'
  go_wp2_with (first | refine m_rd ?_ | (refine m_wr ?_; clear HM HB; intro w b HM HB; try clear b) | fail)
  refine (num_any 4 2 (num false 4 2712847316 ++ num false 2 2 ++ num false 2 4) 8 rfl rfl (Lib.hid ((HM.out).pull (show Del (Ent.blk bw _ _) _ _ by (first | ((repeat (first | with_reducible exact Del.head _ | with_reducible apply Del.tail)); done) | ((repeat (first | exact Del.head _ | apply Del.tail)); done))))) (by first | decide | (have := HNL.out; omega) | omega) (by decide) (by decide) (fun h => by unfold pw; first | decide | (have := HNL.out; omega) | omega) (by first | decide | (have := HNL.out; omega) | omega)).mono ?_
  rintro e w ⟨rfl, Aw, cw, HM'⟩
  replace HM := HM'
  replace HB := HM.out.below
  clear HM'
  go_wp2_with (first | refine m_rd ?_ | (refine m_wr ?_; clear HM HB; intro w b HM HB; try clear b) | fail)
  generalize hwl : World.alloc w _ = wl
  replace HM : HMem w0 wl _ := Lib.hid (by rw [← hwl]; exact HM.out.newRow (below_alloc (Below.refl _ _) _) (OW.lit law64 w w.heap.size [0, 0, 65535, 101] (Nat.le_refl _) (by first | decide | simp)))
  clear hwl HB
  generalize w.heap.size = bl at HM ⊢
  have HB := HM.out.below
  clear w
  obtain ⟨w, rfl⟩ : ∃ w, w = wl := ⟨_, rfl⟩
  have HM : HMem w0 w (Ent.blk bw #[.slice Aw (8 + 4 * 0) cw] 115 :: rowE R8 (.slice Aw (8 + 4 * 0) cw) (num false 4 2712847316 ++ num false 2 2 ++ num false 2 4 ++ flat (([0, 0, 65535, 101] : List Nat).take 0)) :: rowE R64 (.slice (some ⟨bl, 0, none⟩) 4 4) [0, 0, 65535, 101] :: []) := Lib.hid (HM.out.perm ((List.Perm.swap _ _ _).trans (List.Perm.cons _ (List.Perm.swap _ _ _))))
  go_loopw [21] (fun v21 wr => ∃ i A' c', i ≤ 4 ∧ v21 = .int .i64 (i : Nat) ∧ HMem w0 wr (.blk bw #[.slice A' (8 + 4 * i) c'] 115 :: rowE R8 (.slice A' (8 + 4 * i) c') (num false 4 2712847316 ++ num false 2 2 ++ num false 2 4 ++ flat (([0, 0, 65535, 101] : List Nat).take i)) :: rowE R64 (.slice (some ⟨bl, 0, none⟩) 4 4) [0, 0, 65535, 101] :: [])) (fun v21 _ => 4 - (intOf v21).toNat)
  case atStart => exact ⟨0, Aw, cw, by decide, rfl, HM⟩
  case round =>
    clear HM HB
    obtain ⟨i, A', c', hi, rfl, HM⟩ := hrel
    have HB := HM.out.below
    by_cases hlt : i < 4
    · have HCN : Hid (∀ W es, Mem w0 W es → rowE R64 (.slice (some ⟨bl, 0, none⟩) 4 4) [0, 0, 65535, 101] ∈ es → W.cell? ⟨bl, i, none⟩ = some (.int .u64 ((([0, 0, 65535, 101] : List Nat).getD i 0 : Nat) : Int))) := Lib.hid (fun W es hm me => hm.cellR law64 me (i := i) (x := ([0, 0, 65535, 101] : List Nat).getD i 0) (by rw [List.getD_eq_getElem?_getD]; simp [hlt]) 0 rfl (by simp [R64]))
      have hnl : ([0, 0, 65535, 101] : List Nat).getD i 0 < 4294967296 := by
        rcases i with _ | _ | _ | _ | i <;> first | decide | omega
      have HF1 := Lib.hid (HF.out i hlt)
      have HF2 := Lib.hid (HFL.out (i + 1) hlt)
      generalize ([0, 0, 65535, 101] : List Nat).getD i 0 = n at HCN hnl HF1
      have HNL := Lib.hid hnl
      clear hnl
      go_wp2_with (first | (refine m_rd ?_ HM (Rd.fact rfl (by kernel_rfl) rfl (fun w hm => HCN.out w _ hm (by (first | ((repeat (first | with_reducible exact List.Mem.head _ | with_reducible apply List.Mem.tail)); done) | ((repeat (first | exact List.Mem.head _ | apply List.Mem.tail)); done)))))) | refine m_rd ?_ | (refine m_wr ?_; clear HM HB; intro w b HM HB; try clear b) | fail)
      refine (num_any n 4 _ _ HF1.out HF2.out (Lib.hid ((HM.out).pull (show Del (Ent.blk bw _ _) _ _ by (first | ((repeat (first | with_reducible exact Del.head _ | with_reducible apply Del.tail)); done) | ((repeat (first | exact Del.head _ | apply Del.tail)); done))))) (by first | decide | (have := HNL.out; omega) | omega) (by decide) (by decide) (fun h => by unfold pw; first | decide | (have := HNL.out; omega) | omega) (by first | decide | (have := HNL.out; omega) | omega)).mono ?_
      rintro e w ⟨rfl, Aw, cw, HM'⟩
      replace HM := HM'
      replace HB := HM.out.below
      clear HM'
      go_wp2_with (first | refine m_rd ?_ | (refine m_wr ?_; clear HM HB; intro w b HM HB; try clear b) | fail)
      go_roundw
      case rel => exact ⟨i + 1, Aw, cw, by omega, by go_num, HM⟩
      case measure => (simp [intOf]) <;> omega
    · obtain rfl : i = 4 := by omega
      clear HF HFL hlt hi
      replace HM : HMem w0 wr (Ent.blk bw #[.slice A' (cont l 0).length c'] 115 :: rowE R8 (.slice A' (cont l 0).length c') (cont l 0) :: []) := Lib.hid (HM.out.sub (List.Sublist.cons_cons _ (List.Sublist.cons_cons _ (List.nil_sublist _))))
      clear HC
      go_wp2_with (first | refine m_rd ?_ | (refine m_wr ?_; clear HM HB; intro w b HM HB; try clear b) | fail)
      rw [show ((4 : Nat) : Int) = 4 from rfl]
      go_loopw [31] (fun v31 wr => ∃ i A' c', i ≤ l.length ∧ v31 = .int .i64 (i : Nat) ∧ Hid (allRight (l.take i) = true) ∧ HMem w0 wr (.blk bw #[.slice A' (cont l i).length c'] 115 :: rowE R8 (.slice A' (cont l i).length c') (cont l i) :: [])) (fun v31 _ => l.length - (intOf v31).toNat)
      case atStart => exact ⟨0, A', c', Nat.zero_le _, rfl, Lib.hid rfl, HM⟩
      case round =>
        clear HM HB A' c'
        obtain ⟨i, A', c', hi, rfl, HAR, HM⟩ := hrel
        have HB := HM.out.below
        by_cases hlt : i < l.length
        · obtain ⟨p, hp⟩ : ∃ p, l[i]? = some p := ⟨l[i], by simp [hlt]⟩
          obtain ⟨ad, rfl, hra⟩ := HR.out.elem lawC hp
          obtain ⟨hf, hdl, hrb⟩ := HD.out p (List.mem_of_getElem? hp)
          have HEL : Hid (∀ W, Below w0.heap.size w0 W → RangeA W (ad.add (i * 4)) (encV p)) := Lib.hid (fun W hb => hra.below hb)
          have HC := Lib.hid (cellsV p)
          have HRC : Hid (∀ W, Calls Try.prog 42 #[.agg (encV p)] W fun e w' => e = .returned (.bool (rightR p.r)) ∧ Below W.heap.size W w') := Lib.hid (fun W => right_any p W hf hdl)
          have HR1 : Hid (RW R8 w0 (.slice p.A p.r.d.length p.c) p.r.d) := Lib.hid (rw8.1 hrb)
          have HFT := Lib.hid hf
          have HPI := Lib.hid hp
          clear hra hrb hf hp
          by_cases hrt : rightR p.r = true
          · rw [hrt] at HRC
            go_wp2_with (first | (refine m_rd ?_ HM (Rd.elem rfl (by kernel_rfl) rfl (fun w hm => HEL.out w hm.below) (by kernel_rfl))) | refine m_rd ?_ | (refine m_wr ?_; clear HM HB; intro w b HM HB; try clear b) | fail)
            refine (HRC.out _).mono ?_
            rintro e w ⟨rfl, hb⟩
            replace HM := Lib.hid (HM.out.call hb)
            replace HB := HM.out.below
            clear hb
            obtain ⟨q1, q2, q3⟩ := HFT.out
            have q4 := right_le hrt
            have g1 : (p.r.s : Int) < 4294967296 := by omega
            have g2 : (p.r.u : Int) < 4294967296 := by omega
            have g3 : (p.r.z : Int) < 4294967296 := by omega
            have g4 : (p.r.d.length : Int) < 4294967296 := by omega
            clear q1 q2 q3 q4
            have CV1 : Hid ((encV p)[0]? = some (.int .u32 (p.r.s : Int))) := Lib.hid rfl
            have CV2 : Hid ((encV p)[1]? = some (.int .u32 (p.r.u : Int))) := Lib.hid rfl
            have CV3 : Hid ((encV p)[2]? = some (.int .u32 (p.r.z : Int))) := Lib.hid rfl
            have CV4 : Hid ((encV p)[3]? = some (.slice p.A p.r.d.length p.c)) := Lib.hid rfl
            go_wp2_with (first | refine m_rd ?_ | (refine m_wr ?_; clear HM HB; intro w b HM HB; try clear b) | fail)
            generalize hwl : World.alloc w _ = wl
            replace HM : HMem w0 wl _ := Lib.hid (by rw [← hwl]; exact HM.out.newRow (below_alloc (Below.refl _ _) _) (OW.lit law64 w w.heap.size [p.r.s, p.r.u, p.r.d.length, p.r.z] (Nat.le_refl _) (by first | decide | simp)))
            clear hwl HB
            generalize w.heap.size = bl at HM ⊢
            have HB := HM.out.below
            clear w
            obtain ⟨w, rfl⟩ : ∃ w, w = wl := ⟨_, rfl⟩
            have HST := Lib.hid (cont_step l i p HPI.out)
            have HNB : Hid (∀ j, ([p.r.s, p.r.u, p.r.d.length, p.r.z] : List Nat).getD j 0 < 4294967296) := Lib.hid (fun j => by
              have := HFT.out
              unfold Rec.fits at this
              rcases j with _ | _ | _ | _ | j
              · exact this.1
              · exact this.2.1
              · show p.r.d.length < _
                omega
              · exact this.2.2
              · show 0 < _
                decide)
            have HNN : Hid (([p.r.s, p.r.u, p.r.d.length, p.r.z] : List Nat).length = 4) := Lib.hid rfl
            rw [show ([p.r.s, p.r.u, p.r.d.length, p.r.z] : List Nat).length = 4 from rfl] at HM
            clear g1 g2 g3 g4
            generalize ([p.r.s, p.r.u, p.r.d.length, p.r.z] : List Nat) = ns at HM HST HNB HNN
            have HCL := Lib.hid (HLN.out i HAR.out)
            replace HM : HMem w0 w (Ent.blk bw #[.slice A' ((cont l i).length + 4 * 0) c'] 115 :: rowE R8 (.slice A' ((cont l i).length + 4 * 0) c') (cont l i ++ flat (ns.take 0)) :: Ent.blk b (encV p) 74 :: rowE R64 (.slice (some ⟨bl, 0, none⟩) 4 4) ns :: []) := Lib.hid (by
              have h := (((HM.out.pull (show Del (Ent.blk b _ _) _ _ by (first | ((repeat (first | with_reducible exact Del.head _ | with_reducible apply Del.tail)); done) | ((repeat (first | exact Del.head _ | apply Del.tail)); done)))).pull (show Del (rowE R8 _ _) _ _ by (first | ((repeat (first | with_reducible exact Del.head _ | with_reducible apply Del.tail)); done) | ((repeat (first | exact Del.head _ | apply Del.tail)); done)))).pull (show Del (Ent.blk bw _ _) _ _ by (first | ((repeat (first | with_reducible exact Del.head _ | with_reducible apply Del.tail)); done) | ((repeat (first | exact Del.head _ | apply Del.tail)); done))))
              rw [show flat (ns.take 0) = [] from rfl, List.append_nil]
              exact h)
            go_loopw [53] (fun v53 wr => ∃ j A2 c2, j ≤ 4 ∧ v53 = .int .i64 (j : Nat) ∧ HMem w0 wr (.blk bw #[.slice A2 ((cont l i).length + 4 * j) c2] 115 :: rowE R8 (.slice A2 ((cont l i).length + 4 * j) c2) (cont l i ++ flat (ns.take j)) :: Ent.blk b (encV p) 74 :: rowE R64 (.slice (some ⟨bl, 0, none⟩) 4 4) ns :: [])) (fun v53 _ => 4 - (intOf v53).toNat)
            case atStart => exact ⟨0, A', c', by decide, rfl, HM⟩
            case round =>
              clear HM HB
              obtain ⟨j, A2, c2, hj, rfl, HM⟩ := hrel
              have HB := HM.out.below
              by_cases hlt2 : j < 4
              · have HCN : Hid (∀ W es, Mem w0 W es → rowE R64 (.slice (some ⟨bl, 0, none⟩) 4 4) ns ∈ es → W.cell? ⟨bl, j, none⟩ = some (.int .u64 ((ns.getD j 0 : Nat) : Int))) := Lib.hid (fun W es hm me => hm.cellR law64 me (i := j) (x := ns.getD j 0) (by rw [List.getD_eq_getElem?_getD]; have := HNN.out; simp [this, hlt2]) 0 rfl (by simp [R64]))
                have HNL := Lib.hid (HNB.out j)
                have HF1 : Hid (cont l i ++ flat (ns.take j) ++ leB 4 (ns.getD j 0) = cont l i ++ flat (ns.take (j + 1))) := Lib.hid (by rw [List.append_assoc, ← flat_take _ _ (by have := HNN.out; omega)])
                have HF2 : Hid ((cont l i ++ flat (ns.take (j + 1))).length = (cont l i).length + 4 * (j + 1)) := Lib.hid (by have := HNN.out; simp only [List.length_append, flat_length, List.length_take]; omega)
                have HNM : Hid ((cont l i).length + 4 * (j + 1) ≤ 1099511627776) := Lib.hid (by have := HCL.out; omega)
                generalize ns.getD j 0 = n at HCN HNL HF1
                go_wp2_with (first | (refine m_rd ?_ HM (Rd.fact rfl (by kernel_rfl) rfl (fun w hm => HCN.out w _ hm (by (first | ((repeat (first | with_reducible exact List.Mem.head _ | with_reducible apply List.Mem.tail)); done) | ((repeat (first | exact List.Mem.head _ | apply List.Mem.tail)); done)))))) | refine m_rd ?_ | (refine m_wr ?_; clear HM HB; intro w b HM HB; try clear b) | fail)
                refine (num_any n 4 _ _ HF1.out HF2.out HM (by have := HNL.out; omega) (by decide) (by decide) (fun h => by unfold pw; have := HNL.out; omega) HNM.out).mono ?_
                rintro e w ⟨rfl, Aw, cw, HM'⟩
                replace HM := HM'
                replace HB := HM.out.below
                clear HM'
                go_wp2_with (first | refine m_rd ?_ | (refine m_wr ?_; clear HM HB; intro w b HM HB; try clear b) | fail)
                go_roundw
                case rel => exact ⟨j + 1, Aw, cw, by omega, by go_num, HM⟩
                case measure => (simp [intOf]) <;> omega
              · obtain rfl : j = 4 := by omega
                clear hlt2 hj
                have HN1 : Hid ((cont l i ++ flat (ns.take 4)).length + p.r.d.length = (cont l (i + 1)).length) := Lib.hid (by have := HNN.out; rw [← HST.out, List.take_of_length_le (by omega), List.length_append (bs := p.r.d)])
                have HAR2 := Lib.hid (right_take HPI.out HAR.out hrt)
                have HL1 : Hid ((cont l (i + 1)).length * R8.bytes ≤ 140737488355328) := Lib.hid (by have := HLN.out (i + 1) HAR2.out; simp only [R8]; omega)
                have HST2 : Hid (cont l i ++ flat (ns.take 4) ++ p.r.d = cont l (i + 1)) := Lib.hid (by have := HNN.out; rw [← HST.out, List.take_of_length_le (by omega)])
                go_wp2_with (first | refine m_rd ?_ | (refine m_wr ?_; clear HM HB; intro w b HM HB; try clear b) | fail)
                try simp only [Act.put, List.setIfInBounds_toArray, List.set_cons_zero, List.set_cons_succ]
                refine wp_region_2 10 (fun w' => Mem w0 w' (Ent.blk bw _ _ :: Ent.blk b _ _ :: [])) (fun _ => True) (by kernel_rfl) (HM.out.drew.sub (by ((repeat (first | exact List.Sublist.refl _ | apply List.Sublist.cons_cons | apply List.Sublist.cons)); done))) (fun hS hG => ?_)
                replace HM := Lib.hid HM.out.drew
                replace HB := HM.out.below
                refine t2p 0 61 ?_ hG hS rfl rfl (by kernel_rfl) (by kernel_rfl) (by kernel_rfl) (by kernel_rfl) (by kernel_rfl) (by intro w'; go_simp; try with_reducible rfl) (by simp only [Act.put, List.setIfInBounds_toArray, List.set_cons_zero, List.set_cons_succ]; try exact rfl) (fun _ _ _ h => h)
                clear hS hG
                intro hG hS
                refine t2p 1 62 ?_ hG hS rfl rfl (by kernel_rfl) (by kernel_rfl) (by kernel_rfl) (by kernel_rfl) (by kernel_rfl) (by intro w'; go_simp; try with_reducible rfl) (by simp only [Act.put, List.setIfInBounds_toArray, List.set_cons_zero, List.set_cons_succ]; try exact rfl) (fun _ _ _ h => h)
                clear hS hG
                intro hG hS
                refine t2p 2 63 ?_ hG hS rfl rfl (by kernel_rfl) (by kernel_rfl) (by kernel_rfl) (by kernel_rfl) (by kernel_rfl) (by intro w'; go_simp; try with_reducible rfl) (by simp only [Act.put, List.setIfInBounds_toArray, List.set_cons_zero, List.set_cons_succ]; try exact rfl) (fun _ _ _ h => h)
                clear hS hG
                intro hG hS
                refine t2p 3 64 ?_ hG hS rfl rfl (by kernel_rfl) (by kernel_rfl) (by kernel_rfl) (by kernel_rfl) (by kernel_rfl) (by intro w'; go_simp; try with_reducible rfl) (by simp only [Act.put, List.setIfInBounds_toArray, List.set_cons_zero, List.set_cons_succ]; try exact rfl) (fun _ _ _ h => h)
                clear hS hG
                intro hG hS
                refine t2a 4 65 _ rfl (yields_cell rfl (by kernel_rfl) rfl (fun _ h => h) (by (first | ((repeat (first | with_reducible exact List.Mem.head _ | with_reducible apply List.Mem.tail)); done) | ((repeat (first | exact List.Mem.head _ | apply List.Mem.tail)); done))) rfl (by kernel_rfl)) ?_ hG hS rfl (by kernel_rfl) (by kernel_rfl) (by kernel_rfl) (by kernel_rfl) (by kernel_rfl) (by simp only [Act.put, List.setIfInBounds_toArray, List.set_cons_zero, List.set_cons_succ]; try exact rfl) (fun _ _ _ h => h)
                clear hS hG
                intro hG hS
                refine t2p 5 66 ?_ hG hS rfl rfl (by kernel_rfl) (by kernel_rfl) (by kernel_rfl) (by kernel_rfl) (by kernel_rfl) (by intro w'; go_simp; try with_reducible rfl) (by simp only [Act.put, List.setIfInBounds_toArray, List.set_cons_zero, List.set_cons_succ]; try exact rfl) (fun _ _ _ h => h)
                clear hS hG
                intro hG hS
                refine t2a 6 67 _ rfl (yields_cell rfl (by kernel_rfl) rfl (fun _ h => h) (by (first | ((repeat (first | with_reducible exact List.Mem.head _ | with_reducible apply List.Mem.tail)); done) | ((repeat (first | exact List.Mem.head _ | apply List.Mem.tail)); done))) CV4.out (by kernel_rfl)) ?_ hG hS rfl (by kernel_rfl) (by kernel_rfl) (by kernel_rfl) (by kernel_rfl) (by kernel_rfl) (by simp only [Act.put, List.setIfInBounds_toArray, List.set_cons_zero, List.set_cons_succ]; try exact rfl) (fun _ _ _ h => h)
                clear hS hG
                intro hG hS
                refine r2 7 rfl hG (fun K' hK => ?_) (by kernel_rfl)
                refine s_wx ?_ HM (Wx.app law8 rfl (by first | (go_simp; with_reducible rfl) | rfl) (by first | (go_simp; with_reducible rfl) | rfl) (by (first | ((repeat (first | with_reducible exact Del.head _ | with_reducible apply Del.tail)); done) | ((repeat (first | exact Del.head _ | apply Del.tail)); done))) (by intro w hm; first | with_reducible exact HR1.out.below hm.below | with_reducible exact HR2.out.below hm.below | exact hm.rw_ law8 (by (first | ((repeat (first | with_reducible exact List.Mem.head _ | with_reducible apply List.Mem.tail)); done) | ((repeat (first | exact List.Mem.head _ | apply List.Mem.tail)); done))) | exact HR1.out.below hm.below | exact HR2.out.below hm.below) (by first | exact HN1.out | exact HN2.out | exact HN3.out | exact HN4.out) (by first | exact HL1.out | exact HL2.out)) (by kernel_rfl)
                clear HM HB
                rintro w ⟨Aq, cq⟩ HM HB
                refine hK.out _ _ (stg1 (by kernel_rfl) (HM.out.sub (by ((repeat (first | exact List.Sublist.refl _ | apply List.Sublist.cons_cons | apply List.Sublist.cons)); done)))) (fun hG2 hS2 => ?_)
                clear hS hK hG
                have hS := hS2
                have hG := hG2
                clear hS2 hG2
                try simp only [Act.put, List.setIfInBounds_toArray, List.set_cons_zero, List.set_cons_succ]
                rw [HST2.out] at HM
                refine t2p 8 69 ?_ hG hS rfl rfl (by kernel_rfl) (by kernel_rfl) (by kernel_rfl) (by kernel_rfl) (by kernel_rfl) (by intro w'; go_simp; try with_reducible rfl) (by simp only [Act.put, List.setIfInBounds_toArray, List.set_cons_zero, List.set_cons_succ]; try exact rfl) (fun _ _ _ h => h)
                clear hS hG
                intro hG hS
                refine t2p 9 70 ?_ hG hS rfl rfl (by kernel_rfl) (by kernel_rfl) (by kernel_rfl) (by kernel_rfl) (by kernel_rfl) (by intro w'; go_simp; try with_reducible rfl) (by simp only [Act.put, List.setIfInBounds_toArray, List.set_cons_zero, List.set_cons_succ]; try exact rfl) (fun _ _ _ h => h)
                clear hS hG
                intro hG hS
                refine r2 10 rfl hG (fun K' hK => ?_) (by kernel_rfl)
                refine s_wr ?_ HM (Wr.put rfl (by kernel_rfl) rfl rfl rfl (by (first | ((repeat (first | with_reducible exact Upd.head _ | with_reducible apply Upd.tail)); done) | ((repeat (first | exact Upd.head _ | apply Upd.tail)); done))) rfl (by simp only [List.setIfInBounds_toArray, List.set_cons_zero, List.set_cons_succ]; exact rfl)) (by kernel_rfl)
                clear HM HB
                intro w _ HM HB
                refine hK.out _ _ (stg2 (by kernel_rfl) (trivial)) (fun hG2 hS2 => ?_)
                clear hS hK hG
                have hS := hS2
                have hG := hG2
                clear hS2 hG2
                try simp only [Act.put, List.setIfInBounds_toArray, List.set_cons_zero, List.set_cons_succ]
                refine done2 (by kernel_rfl) ?_ _
                clear hS hG
                replace HM := Lib.hid ((HM.out.pull (show Del (Ent.blk bw _ _) _ _ by (first | ((repeat (first | with_reducible exact Del.head _ | with_reducible apply Del.tail)); done) | ((repeat (first | exact Del.head _ | apply Del.tail)); done)))).sub (show List.Sublist [_, _] _ by exact List.Sublist.cons_cons _ (List.Sublist.cons_cons _ (List.nil_sublist _))))
                go_wp2_with (first | refine m_rd ?_ | (refine m_wr ?_; clear HM HB; intro w b HM HB; try clear b) | fail)
                go_roundw
                case rel => exact ⟨i + 1, Aq, cq, by omega, by go_num, HAR2, HM⟩
                case measure => (simp [intOf]) <;> omega
          · have hrf : rightR p.r = false := by simpa using hrt
            rw [hrf] at HRC
            have HNT := Lib.hid (right_not HPI.out hrf)
            clear hrt hrf
            go_wp2_with (first | (refine m_rd ?_ HM (Rd.elem rfl (by kernel_rfl) rfl (fun w hm => HEL.out w hm.below) (by kernel_rfl))) | refine m_rd ?_ | (refine m_wr ?_; clear HM HB; intro w b HM HB; try clear b) | fail)
            refine (HRC.out _).mono ?_
            rintro e w ⟨rfl, hb⟩
            replace HM := Lib.hid (HM.out.call hb)
            replace HB := HM.out.below
            clear hb
            go_wp2_with (first | refine m_rd ?_ | (refine m_wr ?_; clear HM HB; intro w b HM HB; try clear b) | fail)
            go_ret2
            unfold Out
            rw [if_neg HNT.out]
            exact ⟨rfl, HB⟩
        · obtain rfl : i = l.length := by omega
          go_wp2_with (first | ((with_reducible apply m_rdh); (next => exact HM); (next => exact wanted_none rfl); (focus ((with_reducible apply Rd.cell); (next => with_reducible exact rfl); rotate_left; (next => exact rfl); (next => (first | ((repeat (first | with_reducible exact List.Mem.head _ | with_reducible apply List.Mem.tail)); done) | ((repeat (first | exact List.Mem.head _ | apply List.Mem.tail)); done))); (next => exact rfl); (next => decide +kernel)))) | refine m_rd ?_ | (refine m_wr ?_; clear HM HB; intro w b HM HB; try clear b) | fail)
          go_ret2
          unfold Out
          have ha := HAR.out
          rw [List.take_length] at ha
          rw [if_pos ha]
          refine ⟨⟨_, rfl, ?_⟩, HB⟩
          have ho := HM.out.ob (List.Mem.tail _ (List.Mem.head _))
          rw [show headB false ++ recsB false (l.map (·.r)) = cont l l.length from (by unfold cont; rw [List.take_length])]
          exact ho
end Go.Proofs.Ytnehbhhjdjiieaa.Cp
