/- The document's layer 55: numbers out of bytes; all records of bytes. -/
import Derived.Test.YtnehbhhjdjiieaaCw
import Derived.Test.YtnehbhhjdjiieaaRt
set_option linter.unusedSimpArgs false
set_option linter.unusedVariables false
set_option maxRecDepth 100000
namespace Go.Proofs.Ytnehbhhjdjiieaa.Cp
open Go.RowKit Go.Proofs.YtnehbhhjdjiieaaW.PrintWords Go.Proofs.Ytnehbhhjdjiieaa.Bs Go.Proofs.Ytnehbhhjdjiieaa.Gm Go.Proofs.Ytnehbhhjdjiieaa.Le Go.Proofs.Ytnehbhhjdjiieaa.En

theorem refGet_any (v : Value) (l : List UInt8) (big : Bool) (w0 : World) (hr : RB w0 v l) (h8 : l.length ≤ 8) :
    Calls Try.prog 75 #[v, .bool big] w0 fun e w' => e = .returned (.int .u64 ((val big l : Nat) : Int)) ∧ Below w0.heap.size w0 w' := by
  have HG : Hid (∀ (w : World) (v : Value) (l : List UInt8), RB w v l → l.length ≤ 8 → Calls Try.prog 65 #[v] w fun e w' => e = .returned (.int .u64 (ofLe l)) ∧ w = w') := Lib.hid (fun w v l hr h => get_any v l w hr h)
  have HR := Lib.hid hr
  have H8 := Lib.hid h8
  clear hr h8
  have HM := Lib.hid (Mem.start w0)
  have HB := HM.out.below
  cases big
  · go_enter Try.func75, Try.ntmps75
    go_wp2_with fail
    refine (HG.out _ _ _ HR.out H8.out).mono ?_
    rintro e w' ⟨rfl, rfl⟩
    go_wp2_with fail
    go_ret
    exact ⟨rfl, HB⟩
  · go_enter Try.func75, Try.ntmps75
    go_wp2_with fail
    refine (reversed_any _ l _ (HR.out.below HB) (by have := H8.out; omega)).mono ?_
    rintro e w ⟨u, rfl, ho, hb⟩
    replace HM := Lib.hid (HM.out.row8 hb ho)
    replace HB := HM.out.below
    clear ho hb
    go_wp2_with fail
    refine (HG.out _ _ _ (HM.out.rb (List.Mem.head _)) (by rw [List.length_reverse]; exact H8.out)).mono ?_
    rintro e w' ⟨rfl, rfl⟩
    go_wp2_with fail
    go_ret
    exact ⟨rfl, HB⟩
/-- A part of a slice of bytes, and how it reads. -/
theorem cut_rb {w0 : World} {A : Option Addr} {n c : Nat} {l : List UInt8} (h : RB w0 (.slice A n c) l) (k m : Nat) (hk : k + m ≤ l.length) : ∃ A' : Option Addr, (∀ (lo hi : Int), lo = k → hi = (k : Int) + m → ∀ W : World, (Instr.slice 27 (.slice A n c) (some (.int .i64 lo)) (some (.int .i64 hi)) none).run Try.prog W = .ok (.slice A' m (c - k)) W) ∧ RB w0 (.slice A' m (c - k)) ((l.drop k).take m) := by
  obtain ⟨A0, c0, e, hc, hr⟩ := h
  injection e with e1 e2 e3
  subst e1 e2 e3
  obtain ⟨A', h1, h2, _⟩ := mid2 A c l k m hk hc
  have e : ((l.drop k).take m).length = m := by rw [List.length_take, List.length_drop]; omega
  refine ⟨A', fun lo hi e1 e2 W => ?_, A', c - k, by rw [e], by omega, by rw [e]; exact h2 _ hr⟩
  subst e1 e2
  exact h1 W
theorem from_rb {w0 : World} {A : Option Addr} {n c : Nat} {l : List UInt8} (h : RB w0 (.slice A n c) l) (k : Nat) (hk : k ≤ l.length) : ∃ A' : Option Addr, (∀ lo : Int, lo = k → ∀ W : World, (Instr.slice 27 (.slice A n c) (some (.int .i64 lo)) none none).run Try.prog W = .ok (.slice A' (l.drop k).length (c - k)) W) ∧ RB w0 (.slice A' (l.drop k).length (c - k)) (l.drop k) := by
  obtain ⟨A0, c0, e, hc, hr⟩ := h
  injection e with e1 e2 e3
  subst e1 e2 e3
  obtain ⟨A', h1, h2, _⟩ := from2 A c l k hk hc
  have e : (l.drop k).length = l.length - k := List.length_drop
  refine ⟨A', fun lo e1 W => ?_, A', c - k, rfl, by omega, by rw [e]; exact h2 _ hr⟩
  subst e1
  rw [e]
  exact h1 W
theorem to_rb {w0 : World} {A : Option Addr} {n c : Nat} {l : List UInt8} (h : RB w0 (.slice A n c) l) (m : Nat) (hm : m ≤ l.length) : (∀ hi : Int, hi = m → ∀ W : World, (Instr.slice 27 (.slice A n c) none (some (.int .i64 hi)) none).run Try.prog W = .ok (.slice A m c) W) ∧ RB w0 (.slice A m c) (l.take m) := by
  obtain ⟨A0, c0, e, hc, hr⟩ := h
  injection e with e1 e2 e3
  subst e1 e2 e3
  obtain ⟨h1, h2⟩ := to2 A c l m hm hc
  have e : (l.take m).length = m := by rw [List.length_take]; omega
  exact ⟨fun hi e1 W => by subst e1; exact h1 W, A, c, by rw [e], by omega, by rw [e]; exact h2 _ hr⟩
/-- The front of a file is made, and cut. -/
theorem mhead (big : Bool) {w0 w : World} {es : List Ent} (h : HMem w0 w es) : Calls Try.prog 73 #[.bool big] w fun e w' => ∃ A c, e = .returned (.slice A 24 c) ∧ HMem w0 w' (rowE R8 (.slice A 24 c) (headB big) :: es) ∧ (∀ W : World, (Instr.slice 27 (.slice A 24 c) none (some (.int .i64 4)) none).run Try.prog W = .ok (.slice A 4 c) W) ∧ ∀ W, Below w'.heap.size w' W → RB W (.slice A 24 c) (headB big) ∧ RB W (.slice A 4 c) (num big 4 2712847316) :=
  (refHead_any big w).mono fun e w' hh => by
    obtain ⟨v, rfl, ho, hb⟩ := hh
    obtain ⟨A, c, rfl, _⟩ := ho.rb
    have hl := headB_length big
    have hm := h.out.row8 hb ho
    have hrb := hm.rb (List.Mem.head _)
    rw [hl] at hm hrb
    obtain ⟨t1, t2⟩ := to_rb hrb 4 (by rw [hl]; decide)
    rw [head_take] at t2
    exact ⟨A, c, by rw [hl], Lib.hid hm, t1 4 rfl, fun W hb => ⟨hrb.below hb, t2.below hb⟩⟩
theorem same_cut {w0 : World} {v : Value} {l m : List UInt8} {b : Bool} (hr : RB w0 v l) (hb : decide (l = m) = b) : ∀ (W : World) (u : Value), Below w0.heap.size w0 W → RB W u m → Calls Try.prog 20 #[v, u] W fun e w' => e = .returned (.bool b) ∧ Below W.heap.size W w' := fun W u h1 h2 => by
  have := same_any v u l m W (hr.below h1) h2
  rwa [hb] at this
theorem refParse_short {A : Option Addr} {c : Nat} {l : List UInt8} (w0 : World) (h24 : l.length < 24) :
    Calls Try.prog 48 #[.slice A l.length c] w0 fun e w' => e = .returned (.tuple #[.slice none 0 0, .int .i64 3]) ∧ Below w0.heap.size w0 w' := by
  have hl3 : decide ((l.length : Int) < 24) = true := decide_eq_true (by omega)
  clear h24
  have HM := Lib.hid (Mem.start w0)
  have HB := HM.out.below
  go_enter Try.func48, Try.ntmps48
  go_wp2_with fail
  go_ret2
  exact ⟨rfl, HB⟩
set_option maxHeartbeats 4000000 in
theorem refParse_no {A : Option Addr} {c : Nat} {l : List UInt8} (w0 : World) (hr : RB w0 (.slice A l.length c) l) (hl : l.length ≤ 1000000) (h24 : 24 ≤ l.length) (hn1 : l.take 4 ≠ num true 4 2712847316) (hn2 : l.take 4 ≠ num false 4 2712847316) :
    Calls Try.prog 48 #[.slice A l.length c] w0 fun e w' => e = .returned (.tuple #[.slice none 0 0, .int .i64 9]) ∧ Below w0.heap.size w0 w' := by
  obtain ⟨t4, r4⟩ := to_rb hr 4 (by omega)
  have h4 := t4 4 rfl
  have HS1 := Lib.hid (same_cut (m := num true 4 2712847316) r4 (decide_eq_false hn1))
  have HS2 := Lib.hid (same_cut (m := num false 4 2712847316) r4 (decide_eq_false hn2))
  have hl3 : decide ((l.length : Int) < 24) = false := decide_eq_false (by omega)
  clear hr hl h24 hn1 hn2 t4 r4
  have HM := Lib.hid (Mem.start w0)
  have HB := HM.out.below
  go_enter Try.func48, Try.ntmps48
  go_wp2_with fail
  try simp only [Act.put, List.setIfInBounds_toArray, List.set_cons_zero, List.set_cons_succ]
  refine wp_region_held_drew (S := fun w' => Below w0.heap.size w0 w') (by kernel_rfl) (below_drew HB) (fun hS => ?_)
  replace HM := Lib.hid HM.out.drew
  replace HB := HM.out.below
  refine tk 0 11 ?_
  refine tk 1 12 ?_
  refine rone 2 rfl fun K' hK => ?_
  go_simp
  refine (mhead true HM).mono ?_
  rintro e w ⟨A1, c1, rfl, HM', hs1, hr1⟩
  replace HM := HM'
  replace HB := HM.out.below
  clear HM'
  have HR1 := Lib.hid hr1
  clear hr1
  refine hK.out _ _ (HB) (fun hS2 => ?_)
  clear hS hK
  have hS := hS2
  clear hS2
  try simp only [Act.put, List.setIfInBounds_toArray, List.set_cons_zero, List.set_cons_succ]
  refine tk 3 14 ?_
  refine rone 4 rfl fun K' hK => ?_
  go_simp
  refine (HS1.out _ _ HB (HR1.out _ (Below.refl _ _)).2).mono ?_
  rintro e w ⟨rfl, hb⟩
  replace HM := Lib.hid (HM.out.call hb)
  replace HB := HM.out.below
  clear hb
  refine hK.out _ _ (HB) (fun hS2 => ?_)
  clear hS hK
  have hS := hS2
  clear hS2
  try simp only [Act.put, List.setIfInBounds_toArray, List.set_cons_zero, List.set_cons_succ]
  clear hs1 HR1
  refine tk 5 4 ?_
  refine wpAnyH_done (by kernel_rfl) ?_ _
  clear hS
  go_wp2_with fail
  try simp only [Act.put, List.setIfInBounds_toArray, List.set_cons_zero, List.set_cons_succ]
  refine wp_region_held_drew (S := fun w' => Below w0.heap.size w0 w') (by kernel_rfl) (below_drew HB) (fun hS => ?_)
  replace HM := Lib.hid HM.out.drew
  replace HB := HM.out.below
  refine tk 0 16 ?_
  refine tk 1 17 ?_
  refine tk 2 18 ?_
  refine tk 3 19 ?_
  refine tk 4 20 ?_
  refine rone 5 rfl fun K' hK => ?_
  go_simp
  refine (mhead false HM).mono ?_
  rintro e w ⟨A1, c1, rfl, HM', hs1, hr1⟩
  replace HM := HM'
  replace HB := HM.out.below
  clear HM'
  have HR1 := Lib.hid hr1
  clear hr1
  refine hK.out _ _ (HB) (fun hS2 => ?_)
  clear hS hK
  have hS := hS2
  clear hS2
  try simp only [Act.put, List.setIfInBounds_toArray, List.set_cons_zero, List.set_cons_succ]
  refine tk 6 22 ?_
  refine rone 7 rfl fun K' hK => ?_
  go_simp
  refine (HS2.out _ _ HB (HR1.out _ (Below.refl _ _)).2).mono ?_
  rintro e w ⟨rfl, hb⟩
  replace HM := Lib.hid (HM.out.call hb)
  replace HB := HM.out.below
  clear hb
  refine hK.out _ _ (HB) (fun hS2 => ?_)
  clear hS hK
  have hS := hS2
  clear hS2
  try simp only [Act.put, List.setIfInBounds_toArray, List.set_cons_zero, List.set_cons_succ]
  clear hs1 HR1
  refine tk 8 24 ?_
  refine tk 9 25 ?_
  refine wpAnyH_done (by kernel_rfl) ?_ _
  clear hS
  go_wp2_with fail
  go_ret2
  exact ⟨rfl, HB⟩
/-- How long a slice's value is. -/
def lenV : Value → Nat | .slice _ n _ => n | _ => 0
theorem build4 (a b c : Int) (A : Option Addr) (n q : Nat) : Built 75 #[(0, .int .u32 a), (1, .int .u32 b), (2, .int .u32 c), (3, .slice A n q)] (.agg #[.int .u32 a, .int .u32 b, .int .u32 c, .slice A n q]) := fun W => by kernel_rfl
theorem litD (p : RV) : LitR RD 1 #[(0, .agg (encV p))] [p] := ⟨rfl, by decide, fun W => by kernel_rfl⟩
theorem lit0 : LitR R8 0 #[] [] := ⟨rfl, by decide, fun W => by kernel_rfl⟩
/-- What one round of Parse makes of the bytes that are left. -/
theorem cases_int {big : Bool} {b : List UInt8} {m : Nat} (hm : b.length = m) (h16 : 16 ≤ m) : badN big b = 4 ∧ (65535 : Int) < (sizeN big b : Nat) ∨ badN big b = 3 ∧ ((sizeN big b : Nat) : Int) ≤ 65535 ∧ (m : Int) - 16 < ((sizeN big b : Nat) : Int) ∨
    ((sizeN big b : Nat) : Int) ≤ 65535 ∧ ((sizeN big b : Nat) : Int) ≤ (m : Int) - 16 ∧ (badN big b = 6 ∧ rightR (recN big b) = false ∨ badN big b = 0 ∧ rightR (recN big b) = true) := by
  rcases badN_cases big b with ⟨_, h⟩ | ⟨h0, _, h⟩ | ⟨h0, _, h1, h⟩ | ⟨h0, _, h1, h2, h⟩ | ⟨h0, _, h1, h2, h⟩
  · exact absurd h (by omega)
  · exact .inl ⟨h0, by omega⟩
  · exact .inr (.inl ⟨h0, by omega, by omega⟩)
  · exact .inr (.inr ⟨by omega, by omega, .inl ⟨h0, h⟩⟩)
  · exact .inr (.inr ⟨by omega, by omega, .inr ⟨h0, h⟩⟩)
theorem get_cut {w0 : World} {v : Value} {l : List UInt8} (big : Bool) (n : Int) (hr : RB w0 v l) (h8 : l.length ≤ 8) (hn : ((val big l : Nat) : Int) = n) : ∀ W : World, Below w0.heap.size w0 W → Calls Try.prog 75 #[v, .bool big] W fun e w' => e = .returned (.int .u64 n) ∧ Below W.heap.size W w' := fun W hb => by
  subst hn
  exact refGet_any v l big W (hr.below hb) h8
set_option maxHeartbeats 4000000 in
theorem refParse_bad_true {A : Option Addr} {c : Nat} {l : List UInt8} (w0 : World) (hr : RB w0 (.slice A l.length c) l) (h24 : 24 ≤ l.length) (hm : l.take 4 = num true 4 2712847316) (hh : l.take 24 ≠ headB true) :
    Calls Try.prog 48 #[.slice A l.length c] w0 fun e w' => e = .returned (.tuple #[.slice none 0 0, .int .i64 5]) ∧ Below w0.heap.size w0 w' := by
  obtain ⟨t4, r4⟩ := to_rb hr 4 (by omega)
  obtain ⟨t24, r24⟩ := to_rb hr 24 (by omega)
  have h4 := t4 4 rfl
  have h5 := t24 24 rfl
  have HS1 := Lib.hid (same_cut (b := true) (m := num true 4 2712847316) r4 (by rw [hm]; decide))
  have HS2 := Lib.hid (same_cut (b := false) (m := num false 4 2712847316) r4 (by rw [hm]; decide))
  have HS3 := Lib.hid (same_cut (b := false) r24 (decide_eq_false hh))
  have hl3 : decide ((l.length : Int) < 24) = false := decide_eq_false (by omega)
  clear hr h24 hm hh t4 r4 t24 r24
  have HM := Lib.hid (Mem.start w0)
  have HB := HM.out.below
  go_enter Try.func48, Try.ntmps48
  go_wp2_with fail
  try simp only [Act.put, List.setIfInBounds_toArray, List.set_cons_zero, List.set_cons_succ]
  refine wp_region_held_drew (S := fun w' => Below w0.heap.size w0 w') (by kernel_rfl) (below_drew HB) (fun hS => ?_)
  replace HM := Lib.hid HM.out.drew
  replace HB := HM.out.below
  refine tk 0 11 ?_
  refine tk 1 12 ?_
  refine rone 2 rfl fun K' hK => ?_
  go_simp
  refine (mhead true HM).mono ?_
  rintro e w ⟨A1, c1, rfl, HM', hs1, hr1⟩
  replace HM := HM'
  replace HB := HM.out.below
  clear HM'
  have HR1 := Lib.hid hr1
  clear hr1
  refine hK.out _ _ (HB) (fun hS2 => ?_)
  clear hS hK
  have hS := hS2
  clear hS2
  try simp only [Act.put, List.setIfInBounds_toArray, List.set_cons_zero, List.set_cons_succ]
  refine tk 3 14 ?_
  refine rone 4 rfl fun K' hK => ?_
  go_simp
  refine (HS1.out _ _ HB (HR1.out _ (Below.refl _ _)).2).mono ?_
  rintro e w ⟨rfl, hb⟩
  replace HM := Lib.hid (HM.out.call hb)
  replace HB := HM.out.below
  clear hb
  refine hK.out _ _ (HB) (fun hS2 => ?_)
  clear hS hK
  have hS := hS2
  clear hS2
  try simp only [Act.put, List.setIfInBounds_toArray, List.set_cons_zero, List.set_cons_succ]
  clear hs1 HR1
  refine tk 5 4 ?_
  refine wpAnyH_done (by kernel_rfl) ?_ _
  clear hS
  go_wp2_with fail
  try simp only [Act.put, List.setIfInBounds_toArray, List.set_cons_zero, List.set_cons_succ]
  refine wp_region_held_drew (S := fun w' => Below w0.heap.size w0 w') (by kernel_rfl) (below_drew HB) (fun hS => ?_)
  replace HM := Lib.hid HM.out.drew
  replace HB := HM.out.below
  refine tk 0 16 ?_
  refine tk 1 17 ?_
  refine tk 2 18 ?_
  refine tku 3 19 ?_
  refine tku 4 20 ?_
  refine tku 5 21 ?_
  refine tku 6 22 ?_
  refine tku 7 23 ?_
  refine tku 8 24 ?_
  refine tk 9 25 ?_
  refine wpAnyH_done (by kernel_rfl) ?_ _
  clear hS
  go_wp2_with fail
  try simp only [Act.put, List.setIfInBounds_toArray, List.set_cons_zero, List.set_cons_succ]
  refine wp_region_held_drew (S := fun w' => Below w0.heap.size w0 w') (by kernel_rfl) (below_drew HB) (fun hS => ?_)
  replace HM := Lib.hid HM.out.drew
  replace HB := HM.out.below
  refine tk 0 26 ?_
  refine tk 1 27 ?_
  refine tk 2 28 ?_
  refine rone 3 rfl fun K' hK => ?_
  go_simp
  refine (mhead true HM).mono ?_
  rintro e w ⟨A1, c1, rfl, HM', hs1, hr1⟩
  replace HM := HM'
  replace HB := HM.out.below
  clear HM'
  have HR1 := Lib.hid hr1
  clear hr1
  refine hK.out _ _ (HB) (fun hS2 => ?_)
  clear hS hK
  have hS := hS2
  clear hS2
  try simp only [Act.put, List.setIfInBounds_toArray, List.set_cons_zero, List.set_cons_succ]
  refine rone 4 rfl fun K' hK => ?_
  go_simp
  refine (HS3.out _ _ HB (HR1.out _ (Below.refl _ _)).1).mono ?_
  rintro e w ⟨rfl, hb⟩
  replace HM := Lib.hid (HM.out.call hb)
  replace HB := HM.out.below
  clear hb
  refine hK.out _ _ (HB) (fun hS2 => ?_)
  clear hS hK
  have hS := hS2
  clear hS2
  try simp only [Act.put, List.setIfInBounds_toArray, List.set_cons_zero, List.set_cons_succ]
  clear hs1 HR1
  refine tk 5 31 ?_
  refine wpAnyH_done (by kernel_rfl) ?_ _
  clear hS
  go_wp2_with fail
  go_ret2
  exact ⟨rfl, HB⟩
set_option maxHeartbeats 4000000 in
theorem refParse_bad_false {A : Option Addr} {c : Nat} {l : List UInt8} (w0 : World) (hr : RB w0 (.slice A l.length c) l) (h24 : 24 ≤ l.length) (hm : l.take 4 = num false 4 2712847316) (hh : l.take 24 ≠ headB false) :
    Calls Try.prog 48 #[.slice A l.length c] w0 fun e w' => e = .returned (.tuple #[.slice none 0 0, .int .i64 5]) ∧ Below w0.heap.size w0 w' := by
  obtain ⟨t4, r4⟩ := to_rb hr 4 (by omega)
  obtain ⟨t24, r24⟩ := to_rb hr 24 (by omega)
  have h4 := t4 4 rfl
  have h5 := t24 24 rfl
  have HS1 := Lib.hid (same_cut (b := false) (m := num true 4 2712847316) r4 (by rw [hm]; decide))
  have HS2 := Lib.hid (same_cut (b := true) (m := num false 4 2712847316) r4 (by rw [hm]; decide))
  have HS3 := Lib.hid (same_cut (b := false) r24 (decide_eq_false hh))
  have hl3 : decide ((l.length : Int) < 24) = false := decide_eq_false (by omega)
  clear hr h24 hm hh t4 r4 t24 r24
  have HM := Lib.hid (Mem.start w0)
  have HB := HM.out.below
  go_enter Try.func48, Try.ntmps48
  go_wp2_with fail
  try simp only [Act.put, List.setIfInBounds_toArray, List.set_cons_zero, List.set_cons_succ]
  refine wp_region_held_drew (S := fun w' => Below w0.heap.size w0 w') (by kernel_rfl) (below_drew HB) (fun hS => ?_)
  replace HM := Lib.hid HM.out.drew
  replace HB := HM.out.below
  refine tk 0 11 ?_
  refine tk 1 12 ?_
  refine rone 2 rfl fun K' hK => ?_
  go_simp
  refine (mhead true HM).mono ?_
  rintro e w ⟨A1, c1, rfl, HM', hs1, hr1⟩
  replace HM := HM'
  replace HB := HM.out.below
  clear HM'
  have HR1 := Lib.hid hr1
  clear hr1
  refine hK.out _ _ (HB) (fun hS2 => ?_)
  clear hS hK
  have hS := hS2
  clear hS2
  try simp only [Act.put, List.setIfInBounds_toArray, List.set_cons_zero, List.set_cons_succ]
  refine tk 3 14 ?_
  refine rone 4 rfl fun K' hK => ?_
  go_simp
  refine (HS1.out _ _ HB (HR1.out _ (Below.refl _ _)).2).mono ?_
  rintro e w ⟨rfl, hb⟩
  replace HM := Lib.hid (HM.out.call hb)
  replace HB := HM.out.below
  clear hb
  refine hK.out _ _ (HB) (fun hS2 => ?_)
  clear hS hK
  have hS := hS2
  clear hS2
  try simp only [Act.put, List.setIfInBounds_toArray, List.set_cons_zero, List.set_cons_succ]
  clear hs1 HR1
  refine tk 5 4 ?_
  refine wpAnyH_done (by kernel_rfl) ?_ _
  clear hS
  go_wp2_with fail
  try simp only [Act.put, List.setIfInBounds_toArray, List.set_cons_zero, List.set_cons_succ]
  refine wp_region_held_drew (S := fun w' => Below w0.heap.size w0 w') (by kernel_rfl) (below_drew HB) (fun hS => ?_)
  replace HM := Lib.hid HM.out.drew
  replace HB := HM.out.below
  refine tk 0 16 ?_
  refine tk 1 17 ?_
  refine tk 2 18 ?_
  refine tk 3 19 ?_
  refine tk 4 20 ?_
  refine rone 5 rfl fun K' hK => ?_
  go_simp
  refine (mhead false HM).mono ?_
  rintro e w ⟨A1, c1, rfl, HM', hs1, hr1⟩
  replace HM := HM'
  replace HB := HM.out.below
  clear HM'
  have HR1 := Lib.hid hr1
  clear hr1
  refine hK.out _ _ (HB) (fun hS2 => ?_)
  clear hS hK
  have hS := hS2
  clear hS2
  try simp only [Act.put, List.setIfInBounds_toArray, List.set_cons_zero, List.set_cons_succ]
  refine tk 6 22 ?_
  refine rone 7 rfl fun K' hK => ?_
  go_simp
  refine (HS2.out _ _ HB (HR1.out _ (Below.refl _ _)).2).mono ?_
  rintro e w ⟨rfl, hb⟩
  replace HM := Lib.hid (HM.out.call hb)
  replace HB := HM.out.below
  clear hb
  refine hK.out _ _ (HB) (fun hS2 => ?_)
  clear hS hK
  have hS := hS2
  clear hS2
  try simp only [Act.put, List.setIfInBounds_toArray, List.set_cons_zero, List.set_cons_succ]
  clear hs1 HR1
  refine tk 8 24 ?_
  refine tk 9 25 ?_
  refine wpAnyH_done (by kernel_rfl) ?_ _
  clear hS
  go_wp2_with fail
  try simp only [Act.put, List.setIfInBounds_toArray, List.set_cons_zero, List.set_cons_succ]
  refine wp_region_held_drew (S := fun w' => Below w0.heap.size w0 w') (by kernel_rfl) (below_drew HB) (fun hS => ?_)
  replace HM := Lib.hid HM.out.drew
  replace HB := HM.out.below
  refine tk 0 26 ?_
  refine tk 1 27 ?_
  refine tk 2 28 ?_
  refine rone 3 rfl fun K' hK => ?_
  go_simp
  refine (mhead false HM).mono ?_
  rintro e w ⟨A1, c1, rfl, HM', hs1, hr1⟩
  replace HM := HM'
  replace HB := HM.out.below
  clear HM'
  have HR1 := Lib.hid hr1
  clear hr1
  refine hK.out _ _ (HB) (fun hS2 => ?_)
  clear hS hK
  have hS := hS2
  clear hS2
  try simp only [Act.put, List.setIfInBounds_toArray, List.set_cons_zero, List.set_cons_succ]
  refine rone 4 rfl fun K' hK => ?_
  go_simp
  refine (HS3.out _ _ HB (HR1.out _ (Below.refl _ _)).1).mono ?_
  rintro e w ⟨rfl, hb⟩
  replace HM := Lib.hid (HM.out.call hb)
  replace HB := HM.out.below
  clear hb
  refine hK.out _ _ (HB) (fun hS2 => ?_)
  clear hS hK
  have hS := hS2
  clear hS2
  try simp only [Act.put, List.setIfInBounds_toArray, List.set_cons_zero, List.set_cons_succ]
  clear hs1 HR1
  refine tk 5 31 ?_
  refine wpAnyH_done (by kernel_rfl) ?_ _
  clear hS
  go_wp2_with fail
  go_ret2
  exact ⟨rfl, HB⟩
-- RFLOOP_BEGIN
set_option maxHeartbeats 8000000 in
theorem refParse_good_true {A : Option Addr} {c : Nat} {l : List UInt8} (w0 : World) (hr : RB w0 (.slice A l.length c) l) (hl : l.length ≤ 1000000) (h24 : 24 ≤ l.length) (hm : l.take 4 = num true 4 2712847316) (hh : l.take 24 = headB true) :
    Calls Try.prog 48 #[.slice A l.length c] w0 (ParseOut RD w0 (parseB true (l.drop 24))) := by
  obtain ⟨t4, r4⟩ := to_rb hr 4 (by omega)
  obtain ⟨t24, r24⟩ := to_rb hr 24 (by omega)
  have h4 := t4 4 rfl
  have h5 := t24 24 rfl
  obtain ⟨A0, tf, rf⟩ := from_rb hr 24 h24
  have h6 := tf 24 rfl
  have HRF := Lib.hid rf
  have HS1 := Lib.hid (same_cut (b := true) (m := num true 4 2712847316) r4 (by rw [hm]; decide))
  have HS2 := Lib.hid (same_cut (b := false) (m := num false 4 2712847316) r4 (by rw [hm]; decide))
  have HS3 := Lib.hid (same_cut (b := true) r24 (decide_eq_true hh))
  have hl3 : decide ((l.length : Int) < 24) = false := decide_eq_false (by omega)
  have HLM := Lib.hid hl
  have H24 := Lib.hid h24
  have AL1 := Lib.hid zeroD
  clear hr h24 hm hh t4 r4 t24 r24 hl tf rf
  have HM := Lib.hid (Mem.start w0)
  have HB := HM.out.below
  go_enter Try.func48, Try.ntmps48
  go_wp2_with fail
  try simp only [Act.put, List.setIfInBounds_toArray, List.set_cons_zero, List.set_cons_succ]
  refine wp_region_held_drew (S := fun w' => Below w0.heap.size w0 w') (by kernel_rfl) (below_drew HB) (fun hS => ?_)
  replace HM := Lib.hid HM.out.drew
  replace HB := HM.out.below
  refine tk 0 11 ?_
  refine tk 1 12 ?_
  refine rone 2 rfl fun K' hK => ?_
  go_simp
  refine (mhead true HM).mono ?_
  rintro e w ⟨A1, c1, rfl, HM', hs1, hr1⟩
  replace HM := HM'
  replace HB := HM.out.below
  clear HM'
  have HR1 := Lib.hid hr1
  clear hr1
  refine hK.out _ _ (HB) (fun hS2 => ?_)
  clear hS hK
  have hS := hS2
  clear hS2
  try simp only [Act.put, List.setIfInBounds_toArray, List.set_cons_zero, List.set_cons_succ]
  refine tk 3 14 ?_
  refine rone 4 rfl fun K' hK => ?_
  go_simp
  refine (HS1.out _ _ HB (HR1.out _ (Below.refl _ _)).2).mono ?_
  rintro e w ⟨rfl, hb⟩
  replace HM := Lib.hid (HM.out.call hb)
  replace HB := HM.out.below
  clear hb
  refine hK.out _ _ (HB) (fun hS2 => ?_)
  clear hS hK
  have hS := hS2
  clear hS2
  try simp only [Act.put, List.setIfInBounds_toArray, List.set_cons_zero, List.set_cons_succ]
  clear hs1 HR1
  refine tk 5 4 ?_
  refine wpAnyH_done (by kernel_rfl) ?_ _
  clear hS
  go_wp2_with fail
  try simp only [Act.put, List.setIfInBounds_toArray, List.set_cons_zero, List.set_cons_succ]
  refine wp_region_held_drew (S := fun w' => Below w0.heap.size w0 w') (by kernel_rfl) (below_drew HB) (fun hS => ?_)
  replace HM := Lib.hid HM.out.drew
  replace HB := HM.out.below
  refine tk 0 16 ?_
  refine tk 1 17 ?_
  refine tk 2 18 ?_
  refine tku 3 19 ?_
  refine tku 4 20 ?_
  refine tku 5 21 ?_
  refine tku 6 22 ?_
  refine tku 7 23 ?_
  refine tku 8 24 ?_
  refine tk 9 25 ?_
  refine wpAnyH_done (by kernel_rfl) ?_ _
  clear hS
  go_wp2_with fail
  try simp only [Act.put, List.setIfInBounds_toArray, List.set_cons_zero, List.set_cons_succ]
  refine wp_region_held_drew (S := fun w' => Below w0.heap.size w0 w') (by kernel_rfl) (below_drew HB) (fun hS => ?_)
  replace HM := Lib.hid HM.out.drew
  replace HB := HM.out.below
  refine tk 0 26 ?_
  refine tk 1 27 ?_
  refine tk 2 28 ?_
  refine rone 3 rfl fun K' hK => ?_
  go_simp
  refine (mhead true HM).mono ?_
  rintro e w ⟨A1, c1, rfl, HM', hs1, hr1⟩
  replace HM := HM'
  replace HB := HM.out.below
  clear HM'
  have HR1 := Lib.hid hr1
  clear hr1
  refine hK.out _ _ (HB) (fun hS2 => ?_)
  clear hS hK
  have hS := hS2
  clear hS2
  try simp only [Act.put, List.setIfInBounds_toArray, List.set_cons_zero, List.set_cons_succ]
  refine rone 4 rfl fun K' hK => ?_
  go_simp
  refine (HS3.out _ _ HB (HR1.out _ (Below.refl _ _)).1).mono ?_
  rintro e w ⟨rfl, hb⟩
  replace HM := Lib.hid (HM.out.call hb)
  replace HB := HM.out.below
  clear hb
  refine hK.out _ _ (HB) (fun hS2 => ?_)
  clear hS hK
  have hS := hS2
  clear hS2
  try simp only [Act.put, List.setIfInBounds_toArray, List.set_cons_zero, List.set_cons_succ]
  clear hs1 HR1
  refine tk 5 31 ?_
  refine wpAnyH_done (by kernel_rfl) ?_ _
  clear hS
  go_wp2_with fail
  clear HS1 HS2 HS3 h4 h5 h6 hl3
  replace HM : HMem w0 w (rowE RD (.slice none 0 0) [] :: dataE []) := Lib.hid ((HM.out.nilR RD).sub (List.Sublist.cons_cons _ (List.nil_sublist _)))
  go_loopw [0, 5] (fun v0 v5 wr => ∃ k outs A' c' A2 c2, v0 = .slice A2 (l.drop k).length c2 ∧ v5 = .slice A' (outs.length : Nat) c' ∧ k ≤ l.length ∧ Hid (outs.length ≤ k) ∧ Hid (Par true (l.drop 24) (l.drop k) (outs.map (·.r))) ∧ Hid (RB w0 (.slice A2 (l.drop k).length c2) (l.drop k)) ∧ HMem w0 wr (rowE RD (.slice A' outs.length c') outs :: dataE outs)) (fun v0 _ _ => lenV v0)
  case atStart => exact ⟨24, [], none, 0, _, _, by rw [List.length_drop], rfl, H24.out, Lib.hid (by decide), Lib.hid (Par.start _ _), HRF, HM⟩
  case round =>
    clear HM HB HRF
    obtain ⟨k, outs, A', c', A2, c2, rfl, rfl, hk, HOL, HPR, HR, HM⟩ := hrel
    have HB := HM.out.below
    have HKK := Lib.hid hk
    obtain ⟨m, HLN⟩ : ∃ m, Hid ((l.drop k).length = m) := ⟨_, Lib.hid rfl⟩
    have hmm : m ≤ 1000000 := by rw [← HLN.out, List.length_drop]; have := HLM.out; omega
    rw [HLN.out] at HR ⊢
    clear hk
    by_cases h0 : m = 0
    · subst h0
      clear hmm
      go_wp2_with fail
      go_ret2
      have hd := HPR.out.done HLN.out
      rw [hd]
      exact ⟨outs, A', c', rfl, rfl, HM.out.rw_ lawD (List.Mem.head _), fun p hp => HM.out.rb (List.Mem.tail _ (dataE_mem hp)), HB⟩
    · have HNE : Hid ((l.drop k).length ≠ 0) := Lib.hid (by rw [HLN.out]; exact h0)
      have hp1 : decide (0 < m) = true := decide_eq_true (by omega)
      have hp0 : 0 < m := by omega
      clear h0
      by_cases h16 : m < 16
      · have hp2 : decide ((m : Int) < 16) = true := decide_eq_true (by omega)
        have hb3 : badN true (l.drop k) = 3 := by unfold badN; rw [HLN.out, if_pos h16]
        have HPB := Lib.hid (HPR.out.bad HNE.out (by rw [hb3]; decide))
        rw [hb3] at HPB
        clear h16 hmm hb3
        go_wp2_with fail
        go_ret2
        rw [HPB.out]
        exact ⟨[], none, 0, rfl, rfl, RW.nil _ _, fun p hp => absurd hp List.not_mem_nil, HB⟩
      · have hp2 : decide ((m : Int) < 16) = false := decide_eq_false (by omega)
        have hge : 16 ≤ m := by omega
        have hle : (l.drop k).length = m := HLN.out
        obtain ⟨S8, t8, r8⟩ := cut_rb HR.out 8 4 (by omega)
        obtain ⟨S0, t0, r0⟩ := cut_rb HR.out 0 4 (by omega)
        obtain ⟨S4, t4, r4⟩ := cut_rb HR.out 4 4 (by omega)
        obtain ⟨S12, t12, r12⟩ := cut_rb HR.out 12 4 (by omega)
        have c8 := t8 8 12 rfl rfl
        have c0 := t0 0 4 rfl rfl
        have c4 := t4 4 8 rfl rfl
        have c12 := t12 12 16 rfl rfl
        clear t8 t0 t4 t12
        have l4 : ∀ o : Nat, (((l.drop k).drop o).take 4).length ≤ 8 := fun o => by rw [List.length_take]; omega
        have HGN := Lib.hid (get_cut true ((sizeN true (l.drop k) : Nat) : Int) r8 (l4 8) rfl)
        have HGS := Lib.hid (get_cut true (((recN true (l.drop k)).s : Nat) : Int) r0 (l4 0) rfl)
        have HGU := Lib.hid (get_cut true (((recN true (l.drop k)).u : Nat) : Int) r4 (l4 4) rfl)
        have HGZ := Lib.hid (get_cut true (((recN true (l.drop k)).z : Nat) : Int) r12 (l4 12) rfl)
        clear r8 r0 r4 r12 l4
        have HCS := Lib.hid (cases_int (big := true) hle hge)
        have hsl := sizeN_lt true (l.drop k)
        have g4 : ((sizeN true (l.drop k) : Nat) : Int) < 4294967296 := by omega
        have g8 := Int.natCast_nonneg (sizeN true (l.drop k))
        obtain ⟨sz, hsz⟩ : ∃ sz, sizeN true (l.drop k) = sz := ⟨_, rfl⟩
        have HSZ := Lib.hid hsz
        rw [hsz] at HGN HCS g4 g8
        clear hsl hsz
        rcases HCS.out with ⟨hbd, h⟩ | ⟨hbd, h1, h⟩ | ⟨h1, h2, h⟩
        · have HPB := Lib.hid (HPR.out.bad HNE.out (by rw [hbd]; decide))
          rw [hbd] at HPB
          have d1 : decide ((65535 : Int) < (sz : Int)) = true := decide_eq_true h
          clear h hbd hmm hge hle HCS
          generalize (sz : Int) = isz at HGN g4 g8 d1
          go_wp2_with fail
          refine (HGN.out _ HB).mono ?_
          rintro e w ⟨rfl, hb⟩
          replace HM := Lib.hid (HM.out.call hb)
          replace HB := HM.out.below
          clear hb
          go_wp2_with fail
          go_ret2
          rw [HPB.out]
          exact ⟨[], none, 0, rfl, rfl, RW.nil _ _, fun p hp => absurd hp List.not_mem_nil, HB⟩
        · have HPB := Lib.hid (HPR.out.bad HNE.out (by rw [hbd]; decide))
          rw [hbd] at HPB
          have d1 : decide ((65535 : Int) < (sz : Int)) = false := decide_eq_false (by omega)
          have d2 : decide ((m : Int) - 16 < (sz : Int)) = true := decide_eq_true h
          clear h h1 hbd hge hle HCS
          generalize (sz : Int) = isz at HGN g4 g8 d1 d2
          go_wp2_with fail
          refine (HGN.out _ HB).mono ?_
          rintro e w ⟨rfl, hb⟩
          replace HM := Lib.hid (HM.out.call hb)
          replace HB := HM.out.below
          clear hb
          go_wp2_with fail
          go_ret2
          rw [HPB.out]
          exact ⟨[], none, 0, rfl, rfl, RW.nil _ _, fun p hp => absurd hp List.not_mem_nil, HB⟩
        · have HOR := Lib.hid h
          have HF := Lib.hid (recN_fits true (l.drop k))
          have HQ : Hid (sz ≤ m - 16) := Lib.hid (by omega)
          have HQ2 : Hid (sz ≤ 65535) := Lib.hid (by omega)
          have HDL : Hid ((recN true (l.drop k)).d.length = sz) := Lib.hid (by
            show (((l.drop k).drop 16).take (sizeN true (l.drop k))).length = _
            rw [HSZ.out, List.length_take, List.length_drop, hle]; omega)
          obtain ⟨S16, t16, r16⟩ := cut_rb HR.out 16 sz (by omega)
          have c16 := t16 16 (16 + (sz : Int)) rfl (by omega)
          have HR1 : Hid (RW R8 w0 (.slice S16 sz (c2 - 16)) (recN true (l.drop k)).d) := Lib.hid (by
            have := rw8.1 r16
            rw [← HSZ.out] at this ⊢
            exact this)
          obtain ⟨SF, tF, rF⟩ := from_rb HR.out (16 + sz) (by omega)
          obtain ⟨m2, HM2⟩ : ∃ m2, Hid (((l.drop k).drop (16 + sz)).length = m2) := ⟨_, Lib.hid rfl⟩
          have cF := tF (16 + (sz : Int)) (by omega)
          rw [HM2.out] at cF rF
          obtain ⟨c3, HC3⟩ : ∃ c3, Hid (c2 - (16 + sz) = c3) := ⟨_, Lib.hid rfl⟩
          rw [HC3.out] at cF rF
          have HRF := Lib.hid rF
          have HN1 : Hid (([] : List UInt8).length + (recN true (l.drop k)).d.length = sz) := Lib.hid (by rw [HDL.out]; simp)
          have HL1 : Hid (sz * R8.bytes ≤ 140737488355328) := Lib.hid (by have := HQ2.out; simp only [R8]; omega)
          have HRT : Hid (∀ (A : Option Addr) (c : Nat) (W : World), Calls Try.prog 43 #[.agg #[.int .u32 ((recN true (l.drop k)).s : Int), .int .u32 ((recN true (l.drop k)).u : Int), .int .u32 ((recN true (l.drop k)).z : Int), .slice A sz c]] W fun e w' => e = .returned (.bool (rightR (recN true (l.drop k)))) ∧ Below W.heap.size W w') := Lib.hid (fun A c W => by
            have := refRight_any ⟨recN true (l.drop k), A, c⟩ W HF.out (by rw [HDL.out]; have := HQ2.out; omega)
            unfold encV at this
            simp only [HDL.out] at this
            exact this)
          have f1 : ((recN true (l.drop k)).s : Int) < 4294967296 := by have := HF.out.1; omega
          have f2 : ((recN true (l.drop k)).u : Int) < 4294967296 := by have := HF.out.2.1; omega
          have f3 : ((recN true (l.drop k)).z : Int) < 4294967296 := by have := HF.out.2.2; omega
          have f4 := Int.natCast_nonneg (recN true (l.drop k)).s
          have f5 := Int.natCast_nonneg (recN true (l.drop k)).u
          have f6 := Int.natCast_nonneg (recN true (l.drop k)).z
          obtain ⟨r, HRR⟩ : ∃ r, Hid (recN true (l.drop k) = r) := ⟨_, Lib.hid rfl⟩
          rw [HRR.out] at HGS HGU HGZ HR1 HN1 HRT HDL HOR f1 f2 f3 f4 f5 f6
          have HEV : Hid (∀ A c, #[Value.int .u32 (r.s : Int), .int .u32 (r.u : Int), .int .u32 (r.z : Int), .slice A sz c] = encV ⟨r, A, c⟩) := Lib.hid (fun A c => by unfold encV; simp only [HDL.out])
          clear t16 r16 tF rF HF hle hge h
          have d1 : decide ((65535 : Int) < (sz : Int)) = false := decide_eq_false (by omega)
          have d2 : decide ((m : Int) - 16 < (sz : Int)) = false := decide_eq_false (by omega)
          have d3 : (sz : Int) ≤ 65535 := h1
          clear h1 h2 HCS
          generalize hsi : (sz : Int) = isz at HGN g4 g8 d1 d2 d3 c16 cF
          clear hsi
          generalize (r.s : Int) = is at HGS HRT f1 f4 HEV
          generalize (r.u : Int) = iu at HGU HRT f2 f5 HEV
          generalize (r.z : Int) = iz at HGZ HRT f3 f6 HEV
          have hw1 : IntKind.i64.wrap isz = isz := by rw [IntKind.wrap_i64]; omega
          have hw2 : IntKind.i64.wrap (16 + isz) = 16 + isz := by rw [IntKind.wrap_i64]; omega
          have hw3 : IntKind.u32.wrap is = is := by rw [IntKind.wrap_u32]; omega
          have hw4 : IntKind.u32.wrap iu = iu := by rw [IntKind.wrap_u32]; omega
          have hw5 : IntKind.u32.wrap iz = iz := by rw [IntKind.wrap_u32]; omega
          have HC : Hid (∀ (A : Option Addr) (c : Nat), Cells 75 #[.int .u32 is, .int .u32 iu, .int .u32 iz, .slice A sz c]) := Lib.hid (fun A c => ⟨by kernel_rfl, by simp [Value.oneCell']⟩)
          go_wp2_with fail
          refine (HGN.out _ HB).mono ?_
          rintro e w ⟨rfl, hb⟩
          replace HM := Lib.hid (HM.out.call hb)
          replace HB := HM.out.below
          clear hb
          go_wp2_with fail
          apply region_cut (w0 := w0) (fun (Aq : Option Addr) (cq bx b0 : Nat) => rowE R8 (.slice Aq sz cq) r.d :: .blk bx #[.int .u32 is, .int .u32 iu, .int .u32 iz, .slice Aq sz cq] 75 :: rowE RD (.slice A' outs.length c') outs :: dataE outs)
          case h =>
            try simp only [Act.put, List.setIfInBounds_toArray, List.set_cons_zero, List.set_cons_succ]
            refine wp_region_held_drew (S := fun w' => Below w0.heap.size w0 w') (by kernel_rfl) (below_drew HB) (fun hS => ?_)
            replace HM := Lib.hid HM.out.drew
            replace HB := HM.out.below
            refine tk 0 52 ?_
            refine tk 1 53 ?_
            refine tk 2 54 ?_
            refine tk 5 57 ?_
            refine tk 6 58 ?_
            refine tk 7 59 ?_
            refine tk 10 62 ?_
            refine tk 11 63 ?_
            refine tk 12 64 ?_
            refine tk 16 68 ?_
            refine tk 17 69 ?_
            refine tk 18 70 ?_
            refine tk 19 71 ?_
            refine tk 20 72 ?_
            refine wpAnyH_ready (rs := [3, 15, 23]) (by kernel_rfl) (by simp) (rmore 3 rfl (fun K' hK => ?_) (rmore 15 rfl (fun K' hK => ?_) (rmore 23 rfl (fun K' hK => ?_) AllReadyH.nil)))
            · go_simp
              refine (HGS.out _ HB).mono ?_
              rintro e w ⟨rfl, hb⟩
              replace HM := Lib.hid (HM.out.call hb)
              replace HB := HM.out.below
              clear hb
              refine hK.out _ _ (HB) (fun hS2 => ?_)
              clear hS hK
              have hS := hS2
              clear hS2
              try simp only [Act.put, List.setIfInBounds_toArray, List.set_cons_zero, List.set_cons_succ]
              refine tk 4 56 ?_
              refine wpAnyH_ready (rs := [8, 15, 23]) (by kernel_rfl) (by simp) (rmore 8 rfl (fun K' hK => ?_) (rmore 15 rfl (fun K' hK => ?_) (rmore 23 rfl (fun K' hK => ?_) AllReadyH.nil)))
              · go_simp
                refine (HGU.out _ HB).mono ?_
                rintro e w ⟨rfl, hb⟩
                replace HM := Lib.hid (HM.out.call hb)
                replace HB := HM.out.below
                clear hb
                refine hK.out _ _ (HB) (fun hS2 => ?_)
                clear hS hK
                have hS := hS2
                clear hS2
                try simp only [Act.put, List.setIfInBounds_toArray, List.set_cons_zero, List.set_cons_succ]
                refine tk 9 61 ?_
                refine wpAnyH_ready (rs := [13, 15, 23]) (by kernel_rfl) (by simp) (rmore 13 rfl (fun K' hK => ?_) (rmore 15 rfl (fun K' hK => ?_) (rmore 23 rfl (fun K' hK => ?_) AllReadyH.nil)))
                · go_simp
                  refine (HGZ.out _ HB).mono ?_
                  rintro e w ⟨rfl, hb⟩
                  replace HM := Lib.hid (HM.out.call hb)
                  replace HB := HM.out.below
                  clear hb
                  refine hK.out _ _ (HB) (fun hS2 => ?_)
                  clear hS hK
                  have hS := hS2
                  clear hS2
                  try simp only [Act.put, List.setIfInBounds_toArray, List.set_cons_zero, List.set_cons_succ]
                  refine tk 14 66 ?_
                  refine wpAnyH_ready (rs := [15, 23]) (by kernel_rfl) (by simp) (rmore 15 rfl (fun K' hK => ?_) (rmore 23 rfl (fun K' hK => ?_) AllReadyH.nil))
                  · refine s_wr ?_ HM (Wr.litR law8 rfl lit0 rfl) (by kernel_rfl)
                    clear HM HB
                    intro w b0 HM HB
                    refine hK.out _ _ (HB) (fun hS2 => ?_)
                    clear hS hK
                    have hS := hS2
                    clear hS2
                    try simp only [Act.put, List.setIfInBounds_toArray, List.set_cons_zero, List.set_cons_succ]
                    refine wpAnyH_ready (rs := [21, 23]) (by kernel_rfl) (by simp) (rmore 21 rfl (fun K' hK => ?_) (rmore 23 rfl (fun K' hK => ?_) AllReadyH.nil))
                    · refine s_wx ?_ HM (Wx.app law8 rfl (by first | (go_simp; with_reducible rfl) | rfl) (by first | (go_simp; with_reducible rfl) | rfl) (by (first | ((repeat (first | with_reducible exact Del.head _ | with_reducible apply Del.tail)); done) | ((repeat (first | exact Del.head _ | apply Del.tail)); done))) (by intro w hm; first | with_reducible exact HR1.out.below hm.below | with_reducible exact HR2.out.below hm.below | exact hm.rw_ law8 (by (first | ((repeat (first | with_reducible exact List.Mem.head _ | with_reducible apply List.Mem.tail)); done) | ((repeat (first | exact List.Mem.head _ | apply List.Mem.tail)); done))) | exact HR1.out.below hm.below | exact HR2.out.below hm.below) (by first | exact HN1.out | exact HN2.out | exact HN3.out | exact HN4.out) (by first | exact HL1.out | exact HL2.out)) (by kernel_rfl)
                      clear HM HB
                      rintro w ⟨Aq, cq⟩ HM HB
                      refine hK.out _ _ (HB) (fun hS2 => ?_)
                      clear hS hK
                      have hS := hS2
                      clear hS2
                      try simp only [Act.put, List.setIfInBounds_toArray, List.set_cons_zero, List.set_cons_succ]
                      refine tkv 22 74 _ rfl (yields_build rfl #[(0, .int .u32 is), (1, .int .u32 iu), (2, .int .u32 iz), (3, .slice Aq sz cq)] rfl (build4 _ _ _ _ _ _) (by kernel_rfl)) ?_
                      refine rone 23 rfl fun K' hK => ?_
                      refine s_wr ?_ HM (Wr.alloc rfl AL1.out.1 AL1.out.2) (by kernel_rfl)
                      clear HM HB
                      intro w bx HM HB
                      refine hK.out _ _ (HB) (fun hS2 => ?_)
                      clear hS hK
                      have hS := hS2
                      clear hS2
                      try simp only [Act.put, List.setIfInBounds_toArray, List.set_cons_zero, List.set_cons_succ]
                      refine rone 24 rfl fun K' hK => ?_
                      refine s_wr ?_ HM (Wr.whole rfl rfl rfl (by (first | ((repeat (first | with_reducible exact Upd.head _ | with_reducible apply Upd.tail)); done) | ((repeat (first | exact Upd.head _ | apply Upd.tail)); done))) (HC.out Aq cq)) (by kernel_rfl)
                      clear HM HB
                      intro w _ HM HB
                      refine hK.out _ _ (HB) (fun hS2 => ?_)
                      clear hS hK
                      have hS := hS2
                      clear hS2
                      try simp only [Act.put, List.setIfInBounds_toArray, List.set_cons_zero, List.set_cons_succ]
                      refine wpAnyH_done (by kernel_rfl) ?_ _
                      clear hS
                      exact leaf HM Aq cq bx b0 (by first | exact List.Perm.refl _ | exact List.Perm.swap _ _ _) rfl
                    · refine s_wr ?_ HM (Wr.alloc rfl AL1.out.1 AL1.out.2) (by kernel_rfl)
                      clear HM HB
                      intro w bx HM HB
                      refine hK.out _ _ (HB) (fun hS2 => ?_)
                      clear hS hK
                      have hS := hS2
                      clear hS2
                      try simp only [Act.put, List.setIfInBounds_toArray, List.set_cons_zero, List.set_cons_succ]
                      refine rone 21 rfl fun K' hK => ?_
                      refine s_wx ?_ HM (Wx.app law8 rfl (by first | (go_simp; with_reducible rfl) | rfl) (by first | (go_simp; with_reducible rfl) | rfl) (by (first | ((repeat (first | with_reducible exact Del.head _ | with_reducible apply Del.tail)); done) | ((repeat (first | exact Del.head _ | apply Del.tail)); done))) (by intro w hm; first | with_reducible exact HR1.out.below hm.below | with_reducible exact HR2.out.below hm.below | exact hm.rw_ law8 (by (first | ((repeat (first | with_reducible exact List.Mem.head _ | with_reducible apply List.Mem.tail)); done) | ((repeat (first | exact List.Mem.head _ | apply List.Mem.tail)); done))) | exact HR1.out.below hm.below | exact HR2.out.below hm.below) (by first | exact HN1.out | exact HN2.out | exact HN3.out | exact HN4.out) (by first | exact HL1.out | exact HL2.out)) (by kernel_rfl)
                      clear HM HB
                      rintro w ⟨Aq, cq⟩ HM HB
                      refine hK.out _ _ (HB) (fun hS2 => ?_)
                      clear hS hK
                      have hS := hS2
                      clear hS2
                      try simp only [Act.put, List.setIfInBounds_toArray, List.set_cons_zero, List.set_cons_succ]
                      refine tkv 22 74 _ rfl (yields_build rfl #[(0, .int .u32 is), (1, .int .u32 iu), (2, .int .u32 iz), (3, .slice Aq sz cq)] rfl (build4 _ _ _ _ _ _) (by kernel_rfl)) ?_
                      refine rone 24 rfl fun K' hK => ?_
                      refine s_wr ?_ HM (Wr.whole rfl rfl rfl (by (first | ((repeat (first | with_reducible exact Upd.head _ | with_reducible apply Upd.tail)); done) | ((repeat (first | exact Upd.head _ | apply Upd.tail)); done))) (HC.out Aq cq)) (by kernel_rfl)
                      clear HM HB
                      intro w _ HM HB
                      refine hK.out _ _ (HB) (fun hS2 => ?_)
                      clear hS hK
                      have hS := hS2
                      clear hS2
                      try simp only [Act.put, List.setIfInBounds_toArray, List.set_cons_zero, List.set_cons_succ]
                      refine wpAnyH_done (by kernel_rfl) ?_ _
                      clear hS
                      exact leaf HM Aq cq bx b0 (by first | exact List.Perm.refl _ | exact List.Perm.swap _ _ _) rfl
                  · refine s_wr ?_ HM (Wr.alloc rfl AL1.out.1 AL1.out.2) (by kernel_rfl)
                    clear HM HB
                    intro w bx HM HB
                    refine hK.out _ _ (HB) (fun hS2 => ?_)
                    clear hS hK
                    have hS := hS2
                    clear hS2
                    try simp only [Act.put, List.setIfInBounds_toArray, List.set_cons_zero, List.set_cons_succ]
                    refine rone 15 rfl fun K' hK => ?_
                    refine s_wr ?_ HM (Wr.litR law8 rfl lit0 rfl) (by kernel_rfl)
                    clear HM HB
                    intro w b0 HM HB
                    refine hK.out _ _ (HB) (fun hS2 => ?_)
                    clear hS hK
                    have hS := hS2
                    clear hS2
                    try simp only [Act.put, List.setIfInBounds_toArray, List.set_cons_zero, List.set_cons_succ]
                    refine rone 21 rfl fun K' hK => ?_
                    refine s_wx ?_ HM (Wx.app law8 rfl (by first | (go_simp; with_reducible rfl) | rfl) (by first | (go_simp; with_reducible rfl) | rfl) (by (first | ((repeat (first | with_reducible exact Del.head _ | with_reducible apply Del.tail)); done) | ((repeat (first | exact Del.head _ | apply Del.tail)); done))) (by intro w hm; first | with_reducible exact HR1.out.below hm.below | with_reducible exact HR2.out.below hm.below | exact hm.rw_ law8 (by (first | ((repeat (first | with_reducible exact List.Mem.head _ | with_reducible apply List.Mem.tail)); done) | ((repeat (first | exact List.Mem.head _ | apply List.Mem.tail)); done))) | exact HR1.out.below hm.below | exact HR2.out.below hm.below) (by first | exact HN1.out | exact HN2.out | exact HN3.out | exact HN4.out) (by first | exact HL1.out | exact HL2.out)) (by kernel_rfl)
                    clear HM HB
                    rintro w ⟨Aq, cq⟩ HM HB
                    refine hK.out _ _ (HB) (fun hS2 => ?_)
                    clear hS hK
                    have hS := hS2
                    clear hS2
                    try simp only [Act.put, List.setIfInBounds_toArray, List.set_cons_zero, List.set_cons_succ]
                    refine tkv 22 74 _ rfl (yields_build rfl #[(0, .int .u32 is), (1, .int .u32 iu), (2, .int .u32 iz), (3, .slice Aq sz cq)] rfl (build4 _ _ _ _ _ _) (by kernel_rfl)) ?_
                    refine rone 24 rfl fun K' hK => ?_
                    refine s_wr ?_ HM (Wr.whole rfl rfl rfl (by (first | ((repeat (first | with_reducible exact Upd.head _ | with_reducible apply Upd.tail)); done) | ((repeat (first | exact Upd.head _ | apply Upd.tail)); done))) (HC.out Aq cq)) (by kernel_rfl)
                    clear HM HB
                    intro w _ HM HB
                    refine hK.out _ _ (HB) (fun hS2 => ?_)
                    clear hS hK
                    have hS := hS2
                    clear hS2
                    try simp only [Act.put, List.setIfInBounds_toArray, List.set_cons_zero, List.set_cons_succ]
                    refine wpAnyH_done (by kernel_rfl) ?_ _
                    clear hS
                    exact leaf HM Aq cq bx b0 (by first | exact List.Perm.refl _ | exact List.Perm.swap _ _ _) rfl
                · refine s_wr ?_ HM (Wr.litR law8 rfl lit0 rfl) (by kernel_rfl)
                  clear HM HB
                  intro w b0 HM HB
                  refine hK.out _ _ (HB) (fun hS2 => ?_)
                  clear hS hK
                  have hS := hS2
                  clear hS2
                  try simp only [Act.put, List.setIfInBounds_toArray, List.set_cons_zero, List.set_cons_succ]
                  refine wpAnyH_ready (rs := [13, 23]) (by kernel_rfl) (by simp) (rmore 13 rfl (fun K' hK => ?_) (rmore 23 rfl (fun K' hK => ?_) AllReadyH.nil))
                  · go_simp
                    refine (HGZ.out _ HB).mono ?_
                    rintro e w ⟨rfl, hb⟩
                    replace HM := Lib.hid (HM.out.call hb)
                    replace HB := HM.out.below
                    clear hb
                    refine hK.out _ _ (HB) (fun hS2 => ?_)
                    clear hS hK
                    have hS := hS2
                    clear hS2
                    try simp only [Act.put, List.setIfInBounds_toArray, List.set_cons_zero, List.set_cons_succ]
                    refine tk 14 66 ?_
                    refine wpAnyH_ready (rs := [21, 23]) (by kernel_rfl) (by simp) (rmore 21 rfl (fun K' hK => ?_) (rmore 23 rfl (fun K' hK => ?_) AllReadyH.nil))
                    · refine s_wx ?_ HM (Wx.app law8 rfl (by first | (go_simp; with_reducible rfl) | rfl) (by first | (go_simp; with_reducible rfl) | rfl) (by (first | ((repeat (first | with_reducible exact Del.head _ | with_reducible apply Del.tail)); done) | ((repeat (first | exact Del.head _ | apply Del.tail)); done))) (by intro w hm; first | with_reducible exact HR1.out.below hm.below | with_reducible exact HR2.out.below hm.below | exact hm.rw_ law8 (by (first | ((repeat (first | with_reducible exact List.Mem.head _ | with_reducible apply List.Mem.tail)); done) | ((repeat (first | exact List.Mem.head _ | apply List.Mem.tail)); done))) | exact HR1.out.below hm.below | exact HR2.out.below hm.below) (by first | exact HN1.out | exact HN2.out | exact HN3.out | exact HN4.out) (by first | exact HL1.out | exact HL2.out)) (by kernel_rfl)
                      clear HM HB
                      rintro w ⟨Aq, cq⟩ HM HB
                      refine hK.out _ _ (HB) (fun hS2 => ?_)
                      clear hS hK
                      have hS := hS2
                      clear hS2
                      try simp only [Act.put, List.setIfInBounds_toArray, List.set_cons_zero, List.set_cons_succ]
                      refine tkv 22 74 _ rfl (yields_build rfl #[(0, .int .u32 is), (1, .int .u32 iu), (2, .int .u32 iz), (3, .slice Aq sz cq)] rfl (build4 _ _ _ _ _ _) (by kernel_rfl)) ?_
                      refine rone 23 rfl fun K' hK => ?_
                      refine s_wr ?_ HM (Wr.alloc rfl AL1.out.1 AL1.out.2) (by kernel_rfl)
                      clear HM HB
                      intro w bx HM HB
                      refine hK.out _ _ (HB) (fun hS2 => ?_)
                      clear hS hK
                      have hS := hS2
                      clear hS2
                      try simp only [Act.put, List.setIfInBounds_toArray, List.set_cons_zero, List.set_cons_succ]
                      refine rone 24 rfl fun K' hK => ?_
                      refine s_wr ?_ HM (Wr.whole rfl rfl rfl (by (first | ((repeat (first | with_reducible exact Upd.head _ | with_reducible apply Upd.tail)); done) | ((repeat (first | exact Upd.head _ | apply Upd.tail)); done))) (HC.out Aq cq)) (by kernel_rfl)
                      clear HM HB
                      intro w _ HM HB
                      refine hK.out _ _ (HB) (fun hS2 => ?_)
                      clear hS hK
                      have hS := hS2
                      clear hS2
                      try simp only [Act.put, List.setIfInBounds_toArray, List.set_cons_zero, List.set_cons_succ]
                      refine wpAnyH_done (by kernel_rfl) ?_ _
                      clear hS
                      exact leaf HM Aq cq bx b0 (by first | exact List.Perm.refl _ | exact List.Perm.swap _ _ _) rfl
                    · refine s_wr ?_ HM (Wr.alloc rfl AL1.out.1 AL1.out.2) (by kernel_rfl)
                      clear HM HB
                      intro w bx HM HB
                      refine hK.out _ _ (HB) (fun hS2 => ?_)
                      clear hS hK
                      have hS := hS2
                      clear hS2
                      try simp only [Act.put, List.setIfInBounds_toArray, List.set_cons_zero, List.set_cons_succ]
                      refine rone 21 rfl fun K' hK => ?_
                      refine s_wx ?_ HM (Wx.app law8 rfl (by first | (go_simp; with_reducible rfl) | rfl) (by first | (go_simp; with_reducible rfl) | rfl) (by (first | ((repeat (first | with_reducible exact Del.head _ | with_reducible apply Del.tail)); done) | ((repeat (first | exact Del.head _ | apply Del.tail)); done))) (by intro w hm; first | with_reducible exact HR1.out.below hm.below | with_reducible exact HR2.out.below hm.below | exact hm.rw_ law8 (by (first | ((repeat (first | with_reducible exact List.Mem.head _ | with_reducible apply List.Mem.tail)); done) | ((repeat (first | exact List.Mem.head _ | apply List.Mem.tail)); done))) | exact HR1.out.below hm.below | exact HR2.out.below hm.below) (by first | exact HN1.out | exact HN2.out | exact HN3.out | exact HN4.out) (by first | exact HL1.out | exact HL2.out)) (by kernel_rfl)
                      clear HM HB
                      rintro w ⟨Aq, cq⟩ HM HB
                      refine hK.out _ _ (HB) (fun hS2 => ?_)
                      clear hS hK
                      have hS := hS2
                      clear hS2
                      try simp only [Act.put, List.setIfInBounds_toArray, List.set_cons_zero, List.set_cons_succ]
                      refine tkv 22 74 _ rfl (yields_build rfl #[(0, .int .u32 is), (1, .int .u32 iu), (2, .int .u32 iz), (3, .slice Aq sz cq)] rfl (build4 _ _ _ _ _ _) (by kernel_rfl)) ?_
                      refine rone 24 rfl fun K' hK => ?_
                      refine s_wr ?_ HM (Wr.whole rfl rfl rfl (by (first | ((repeat (first | with_reducible exact Upd.head _ | with_reducible apply Upd.tail)); done) | ((repeat (first | exact Upd.head _ | apply Upd.tail)); done))) (HC.out Aq cq)) (by kernel_rfl)
                      clear HM HB
                      intro w _ HM HB
                      refine hK.out _ _ (HB) (fun hS2 => ?_)
                      clear hS hK
                      have hS := hS2
                      clear hS2
                      try simp only [Act.put, List.setIfInBounds_toArray, List.set_cons_zero, List.set_cons_succ]
                      refine wpAnyH_done (by kernel_rfl) ?_ _
                      clear hS
                      exact leaf HM Aq cq bx b0 (by first | exact List.Perm.refl _ | exact List.Perm.swap _ _ _) rfl
                  · refine s_wr ?_ HM (Wr.alloc rfl AL1.out.1 AL1.out.2) (by kernel_rfl)
                    clear HM HB
                    intro w bx HM HB
                    refine hK.out _ _ (HB) (fun hS2 => ?_)
                    clear hS hK
                    have hS := hS2
                    clear hS2
                    try simp only [Act.put, List.setIfInBounds_toArray, List.set_cons_zero, List.set_cons_succ]
                    refine rone 13 rfl fun K' hK => ?_
                    go_simp
                    refine (HGZ.out _ HB).mono ?_
                    rintro e w ⟨rfl, hb⟩
                    replace HM := Lib.hid (HM.out.call hb)
                    replace HB := HM.out.below
                    clear hb
                    refine hK.out _ _ (HB) (fun hS2 => ?_)
                    clear hS hK
                    have hS := hS2
                    clear hS2
                    try simp only [Act.put, List.setIfInBounds_toArray, List.set_cons_zero, List.set_cons_succ]
                    refine tk 14 66 ?_
                    refine rone 21 rfl fun K' hK => ?_
                    refine s_wx ?_ HM (Wx.app law8 rfl (by first | (go_simp; with_reducible rfl) | rfl) (by first | (go_simp; with_reducible rfl) | rfl) (by (first | ((repeat (first | with_reducible exact Del.head _ | with_reducible apply Del.tail)); done) | ((repeat (first | exact Del.head _ | apply Del.tail)); done))) (by intro w hm; first | with_reducible exact HR1.out.below hm.below | with_reducible exact HR2.out.below hm.below | exact hm.rw_ law8 (by (first | ((repeat (first | with_reducible exact List.Mem.head _ | with_reducible apply List.Mem.tail)); done) | ((repeat (first | exact List.Mem.head _ | apply List.Mem.tail)); done))) | exact HR1.out.below hm.below | exact HR2.out.below hm.below) (by first | exact HN1.out | exact HN2.out | exact HN3.out | exact HN4.out) (by first | exact HL1.out | exact HL2.out)) (by kernel_rfl)
                    clear HM HB
                    rintro w ⟨Aq, cq⟩ HM HB
                    refine hK.out _ _ (HB) (fun hS2 => ?_)
                    clear hS hK
                    have hS := hS2
                    clear hS2
                    try simp only [Act.put, List.setIfInBounds_toArray, List.set_cons_zero, List.set_cons_succ]
                    refine tkv 22 74 _ rfl (yields_build rfl #[(0, .int .u32 is), (1, .int .u32 iu), (2, .int .u32 iz), (3, .slice Aq sz cq)] rfl (build4 _ _ _ _ _ _) (by kernel_rfl)) ?_
                    refine rone 24 rfl fun K' hK => ?_
                    refine s_wr ?_ HM (Wr.whole rfl rfl rfl (by (first | ((repeat (first | with_reducible exact Upd.head _ | with_reducible apply Upd.tail)); done) | ((repeat (first | exact Upd.head _ | apply Upd.tail)); done))) (HC.out Aq cq)) (by kernel_rfl)
                    clear HM HB
                    intro w _ HM HB
                    refine hK.out _ _ (HB) (fun hS2 => ?_)
                    clear hS hK
                    have hS := hS2
                    clear hS2
                    try simp only [Act.put, List.setIfInBounds_toArray, List.set_cons_zero, List.set_cons_succ]
                    refine wpAnyH_done (by kernel_rfl) ?_ _
                    clear hS
                    exact leaf HM Aq cq bx b0 (by first | exact List.Perm.refl _ | exact List.Perm.swap _ _ _) rfl
                · refine s_wr ?_ HM (Wr.alloc rfl AL1.out.1 AL1.out.2) (by kernel_rfl)
                  clear HM HB
                  intro w bx HM HB
                  refine hK.out _ _ (HB) (fun hS2 => ?_)
                  clear hS hK
                  have hS := hS2
                  clear hS2
                  try simp only [Act.put, List.setIfInBounds_toArray, List.set_cons_zero, List.set_cons_succ]
                  refine wpAnyH_ready (rs := [13, 15]) (by kernel_rfl) (by simp) (rmore 13 rfl (fun K' hK => ?_) (rmore 15 rfl (fun K' hK => ?_) AllReadyH.nil))
                  · go_simp
                    refine (HGZ.out _ HB).mono ?_
                    rintro e w ⟨rfl, hb⟩
                    replace HM := Lib.hid (HM.out.call hb)
                    replace HB := HM.out.below
                    clear hb
                    refine hK.out _ _ (HB) (fun hS2 => ?_)
                    clear hS hK
                    have hS := hS2
                    clear hS2
                    try simp only [Act.put, List.setIfInBounds_toArray, List.set_cons_zero, List.set_cons_succ]
                    refine tk 14 66 ?_
                    refine rone 15 rfl fun K' hK => ?_
                    refine s_wr ?_ HM (Wr.litR law8 rfl lit0 rfl) (by kernel_rfl)
                    clear HM HB
                    intro w b0 HM HB
                    refine hK.out _ _ (HB) (fun hS2 => ?_)
                    clear hS hK
                    have hS := hS2
                    clear hS2
                    try simp only [Act.put, List.setIfInBounds_toArray, List.set_cons_zero, List.set_cons_succ]
                    refine rone 21 rfl fun K' hK => ?_
                    refine s_wx ?_ HM (Wx.app law8 rfl (by first | (go_simp; with_reducible rfl) | rfl) (by first | (go_simp; with_reducible rfl) | rfl) (by (first | ((repeat (first | with_reducible exact Del.head _ | with_reducible apply Del.tail)); done) | ((repeat (first | exact Del.head _ | apply Del.tail)); done))) (by intro w hm; first | with_reducible exact HR1.out.below hm.below | with_reducible exact HR2.out.below hm.below | exact hm.rw_ law8 (by (first | ((repeat (first | with_reducible exact List.Mem.head _ | with_reducible apply List.Mem.tail)); done) | ((repeat (first | exact List.Mem.head _ | apply List.Mem.tail)); done))) | exact HR1.out.below hm.below | exact HR2.out.below hm.below) (by first | exact HN1.out | exact HN2.out | exact HN3.out | exact HN4.out) (by first | exact HL1.out | exact HL2.out)) (by kernel_rfl)
                    clear HM HB
                    rintro w ⟨Aq, cq⟩ HM HB
                    refine hK.out _ _ (HB) (fun hS2 => ?_)
                    clear hS hK
                    have hS := hS2
                    clear hS2
                    try simp only [Act.put, List.setIfInBounds_toArray, List.set_cons_zero, List.set_cons_succ]
                    refine tkv 22 74 _ rfl (yields_build rfl #[(0, .int .u32 is), (1, .int .u32 iu), (2, .int .u32 iz), (3, .slice Aq sz cq)] rfl (build4 _ _ _ _ _ _) (by kernel_rfl)) ?_
                    refine rone 24 rfl fun K' hK => ?_
                    refine s_wr ?_ HM (Wr.whole rfl rfl rfl (by (first | ((repeat (first | with_reducible exact Upd.head _ | with_reducible apply Upd.tail)); done) | ((repeat (first | exact Upd.head _ | apply Upd.tail)); done))) (HC.out Aq cq)) (by kernel_rfl)
                    clear HM HB
                    intro w _ HM HB
                    refine hK.out _ _ (HB) (fun hS2 => ?_)
                    clear hS hK
                    have hS := hS2
                    clear hS2
                    try simp only [Act.put, List.setIfInBounds_toArray, List.set_cons_zero, List.set_cons_succ]
                    refine wpAnyH_done (by kernel_rfl) ?_ _
                    clear hS
                    exact leaf HM Aq cq bx b0 (by first | exact List.Perm.refl _ | exact List.Perm.swap _ _ _) rfl
                  · refine s_wr ?_ HM (Wr.litR law8 rfl lit0 rfl) (by kernel_rfl)
                    clear HM HB
                    intro w b0 HM HB
                    refine hK.out _ _ (HB) (fun hS2 => ?_)
                    clear hS hK
                    have hS := hS2
                    clear hS2
                    try simp only [Act.put, List.setIfInBounds_toArray, List.set_cons_zero, List.set_cons_succ]
                    refine rone 13 rfl fun K' hK => ?_
                    go_simp
                    refine (HGZ.out _ HB).mono ?_
                    rintro e w ⟨rfl, hb⟩
                    replace HM := Lib.hid (HM.out.call hb)
                    replace HB := HM.out.below
                    clear hb
                    refine hK.out _ _ (HB) (fun hS2 => ?_)
                    clear hS hK
                    have hS := hS2
                    clear hS2
                    try simp only [Act.put, List.setIfInBounds_toArray, List.set_cons_zero, List.set_cons_succ]
                    refine tk 14 66 ?_
                    refine rone 21 rfl fun K' hK => ?_
                    refine s_wx ?_ HM (Wx.app law8 rfl (by first | (go_simp; with_reducible rfl) | rfl) (by first | (go_simp; with_reducible rfl) | rfl) (by (first | ((repeat (first | with_reducible exact Del.head _ | with_reducible apply Del.tail)); done) | ((repeat (first | exact Del.head _ | apply Del.tail)); done))) (by intro w hm; first | with_reducible exact HR1.out.below hm.below | with_reducible exact HR2.out.below hm.below | exact hm.rw_ law8 (by (first | ((repeat (first | with_reducible exact List.Mem.head _ | with_reducible apply List.Mem.tail)); done) | ((repeat (first | exact List.Mem.head _ | apply List.Mem.tail)); done))) | exact HR1.out.below hm.below | exact HR2.out.below hm.below) (by first | exact HN1.out | exact HN2.out | exact HN3.out | exact HN4.out) (by first | exact HL1.out | exact HL2.out)) (by kernel_rfl)
                    clear HM HB
                    rintro w ⟨Aq, cq⟩ HM HB
                    refine hK.out _ _ (HB) (fun hS2 => ?_)
                    clear hS hK
                    have hS := hS2
                    clear hS2
                    try simp only [Act.put, List.setIfInBounds_toArray, List.set_cons_zero, List.set_cons_succ]
                    refine tkv 22 74 _ rfl (yields_build rfl #[(0, .int .u32 is), (1, .int .u32 iu), (2, .int .u32 iz), (3, .slice Aq sz cq)] rfl (build4 _ _ _ _ _ _) (by kernel_rfl)) ?_
                    refine rone 24 rfl fun K' hK => ?_
                    refine s_wr ?_ HM (Wr.whole rfl rfl rfl (by (first | ((repeat (first | with_reducible exact Upd.head _ | with_reducible apply Upd.tail)); done) | ((repeat (first | exact Upd.head _ | apply Upd.tail)); done))) (HC.out Aq cq)) (by kernel_rfl)
                    clear HM HB
                    intro w _ HM HB
                    refine hK.out _ _ (HB) (fun hS2 => ?_)
                    clear hS hK
                    have hS := hS2
                    clear hS2
                    try simp only [Act.put, List.setIfInBounds_toArray, List.set_cons_zero, List.set_cons_succ]
                    refine wpAnyH_done (by kernel_rfl) ?_ _
                    clear hS
                    exact leaf HM Aq cq bx b0 (by first | exact List.Perm.refl _ | exact List.Perm.swap _ _ _) rfl
              · refine s_wr ?_ HM (Wr.litR law8 rfl lit0 rfl) (by kernel_rfl)
                clear HM HB
                intro w b0 HM HB
                refine hK.out _ _ (HB) (fun hS2 => ?_)
                clear hS hK
                have hS := hS2
                clear hS2
                try simp only [Act.put, List.setIfInBounds_toArray, List.set_cons_zero, List.set_cons_succ]
                refine wpAnyH_ready (rs := [8, 23]) (by kernel_rfl) (by simp) (rmore 8 rfl (fun K' hK => ?_) (rmore 23 rfl (fun K' hK => ?_) AllReadyH.nil))
                · go_simp
                  refine (HGU.out _ HB).mono ?_
                  rintro e w ⟨rfl, hb⟩
                  replace HM := Lib.hid (HM.out.call hb)
                  replace HB := HM.out.below
                  clear hb
                  refine hK.out _ _ (HB) (fun hS2 => ?_)
                  clear hS hK
                  have hS := hS2
                  clear hS2
                  try simp only [Act.put, List.setIfInBounds_toArray, List.set_cons_zero, List.set_cons_succ]
                  refine tk 9 61 ?_
                  refine wpAnyH_ready (rs := [13, 23]) (by kernel_rfl) (by simp) (rmore 13 rfl (fun K' hK => ?_) (rmore 23 rfl (fun K' hK => ?_) AllReadyH.nil))
                  · go_simp
                    refine (HGZ.out _ HB).mono ?_
                    rintro e w ⟨rfl, hb⟩
                    replace HM := Lib.hid (HM.out.call hb)
                    replace HB := HM.out.below
                    clear hb
                    refine hK.out _ _ (HB) (fun hS2 => ?_)
                    clear hS hK
                    have hS := hS2
                    clear hS2
                    try simp only [Act.put, List.setIfInBounds_toArray, List.set_cons_zero, List.set_cons_succ]
                    refine tk 14 66 ?_
                    refine wpAnyH_ready (rs := [21, 23]) (by kernel_rfl) (by simp) (rmore 21 rfl (fun K' hK => ?_) (rmore 23 rfl (fun K' hK => ?_) AllReadyH.nil))
                    · refine s_wx ?_ HM (Wx.app law8 rfl (by first | (go_simp; with_reducible rfl) | rfl) (by first | (go_simp; with_reducible rfl) | rfl) (by (first | ((repeat (first | with_reducible exact Del.head _ | with_reducible apply Del.tail)); done) | ((repeat (first | exact Del.head _ | apply Del.tail)); done))) (by intro w hm; first | with_reducible exact HR1.out.below hm.below | with_reducible exact HR2.out.below hm.below | exact hm.rw_ law8 (by (first | ((repeat (first | with_reducible exact List.Mem.head _ | with_reducible apply List.Mem.tail)); done) | ((repeat (first | exact List.Mem.head _ | apply List.Mem.tail)); done))) | exact HR1.out.below hm.below | exact HR2.out.below hm.below) (by first | exact HN1.out | exact HN2.out | exact HN3.out | exact HN4.out) (by first | exact HL1.out | exact HL2.out)) (by kernel_rfl)
                      clear HM HB
                      rintro w ⟨Aq, cq⟩ HM HB
                      refine hK.out _ _ (HB) (fun hS2 => ?_)
                      clear hS hK
                      have hS := hS2
                      clear hS2
                      try simp only [Act.put, List.setIfInBounds_toArray, List.set_cons_zero, List.set_cons_succ]
                      refine tkv 22 74 _ rfl (yields_build rfl #[(0, .int .u32 is), (1, .int .u32 iu), (2, .int .u32 iz), (3, .slice Aq sz cq)] rfl (build4 _ _ _ _ _ _) (by kernel_rfl)) ?_
                      refine rone 23 rfl fun K' hK => ?_
                      refine s_wr ?_ HM (Wr.alloc rfl AL1.out.1 AL1.out.2) (by kernel_rfl)
                      clear HM HB
                      intro w bx HM HB
                      refine hK.out _ _ (HB) (fun hS2 => ?_)
                      clear hS hK
                      have hS := hS2
                      clear hS2
                      try simp only [Act.put, List.setIfInBounds_toArray, List.set_cons_zero, List.set_cons_succ]
                      refine rone 24 rfl fun K' hK => ?_
                      refine s_wr ?_ HM (Wr.whole rfl rfl rfl (by (first | ((repeat (first | with_reducible exact Upd.head _ | with_reducible apply Upd.tail)); done) | ((repeat (first | exact Upd.head _ | apply Upd.tail)); done))) (HC.out Aq cq)) (by kernel_rfl)
                      clear HM HB
                      intro w _ HM HB
                      refine hK.out _ _ (HB) (fun hS2 => ?_)
                      clear hS hK
                      have hS := hS2
                      clear hS2
                      try simp only [Act.put, List.setIfInBounds_toArray, List.set_cons_zero, List.set_cons_succ]
                      refine wpAnyH_done (by kernel_rfl) ?_ _
                      clear hS
                      exact leaf HM Aq cq bx b0 (by first | exact List.Perm.refl _ | exact List.Perm.swap _ _ _) rfl
                    · refine s_wr ?_ HM (Wr.alloc rfl AL1.out.1 AL1.out.2) (by kernel_rfl)
                      clear HM HB
                      intro w bx HM HB
                      refine hK.out _ _ (HB) (fun hS2 => ?_)
                      clear hS hK
                      have hS := hS2
                      clear hS2
                      try simp only [Act.put, List.setIfInBounds_toArray, List.set_cons_zero, List.set_cons_succ]
                      refine rone 21 rfl fun K' hK => ?_
                      refine s_wx ?_ HM (Wx.app law8 rfl (by first | (go_simp; with_reducible rfl) | rfl) (by first | (go_simp; with_reducible rfl) | rfl) (by (first | ((repeat (first | with_reducible exact Del.head _ | with_reducible apply Del.tail)); done) | ((repeat (first | exact Del.head _ | apply Del.tail)); done))) (by intro w hm; first | with_reducible exact HR1.out.below hm.below | with_reducible exact HR2.out.below hm.below | exact hm.rw_ law8 (by (first | ((repeat (first | with_reducible exact List.Mem.head _ | with_reducible apply List.Mem.tail)); done) | ((repeat (first | exact List.Mem.head _ | apply List.Mem.tail)); done))) | exact HR1.out.below hm.below | exact HR2.out.below hm.below) (by first | exact HN1.out | exact HN2.out | exact HN3.out | exact HN4.out) (by first | exact HL1.out | exact HL2.out)) (by kernel_rfl)
                      clear HM HB
                      rintro w ⟨Aq, cq⟩ HM HB
                      refine hK.out _ _ (HB) (fun hS2 => ?_)
                      clear hS hK
                      have hS := hS2
                      clear hS2
                      try simp only [Act.put, List.setIfInBounds_toArray, List.set_cons_zero, List.set_cons_succ]
                      refine tkv 22 74 _ rfl (yields_build rfl #[(0, .int .u32 is), (1, .int .u32 iu), (2, .int .u32 iz), (3, .slice Aq sz cq)] rfl (build4 _ _ _ _ _ _) (by kernel_rfl)) ?_
                      refine rone 24 rfl fun K' hK => ?_
                      refine s_wr ?_ HM (Wr.whole rfl rfl rfl (by (first | ((repeat (first | with_reducible exact Upd.head _ | with_reducible apply Upd.tail)); done) | ((repeat (first | exact Upd.head _ | apply Upd.tail)); done))) (HC.out Aq cq)) (by kernel_rfl)
                      clear HM HB
                      intro w _ HM HB
                      refine hK.out _ _ (HB) (fun hS2 => ?_)
                      clear hS hK
                      have hS := hS2
                      clear hS2
                      try simp only [Act.put, List.setIfInBounds_toArray, List.set_cons_zero, List.set_cons_succ]
                      refine wpAnyH_done (by kernel_rfl) ?_ _
                      clear hS
                      exact leaf HM Aq cq bx b0 (by first | exact List.Perm.refl _ | exact List.Perm.swap _ _ _) rfl
                  · refine s_wr ?_ HM (Wr.alloc rfl AL1.out.1 AL1.out.2) (by kernel_rfl)
                    clear HM HB
                    intro w bx HM HB
                    refine hK.out _ _ (HB) (fun hS2 => ?_)
                    clear hS hK
                    have hS := hS2
                    clear hS2
                    try simp only [Act.put, List.setIfInBounds_toArray, List.set_cons_zero, List.set_cons_succ]
                    refine rone 13 rfl fun K' hK => ?_
                    go_simp
                    refine (HGZ.out _ HB).mono ?_
                    rintro e w ⟨rfl, hb⟩
                    replace HM := Lib.hid (HM.out.call hb)
                    replace HB := HM.out.below
                    clear hb
                    refine hK.out _ _ (HB) (fun hS2 => ?_)
                    clear hS hK
                    have hS := hS2
                    clear hS2
                    try simp only [Act.put, List.setIfInBounds_toArray, List.set_cons_zero, List.set_cons_succ]
                    refine tk 14 66 ?_
                    refine rone 21 rfl fun K' hK => ?_
                    refine s_wx ?_ HM (Wx.app law8 rfl (by first | (go_simp; with_reducible rfl) | rfl) (by first | (go_simp; with_reducible rfl) | rfl) (by (first | ((repeat (first | with_reducible exact Del.head _ | with_reducible apply Del.tail)); done) | ((repeat (first | exact Del.head _ | apply Del.tail)); done))) (by intro w hm; first | with_reducible exact HR1.out.below hm.below | with_reducible exact HR2.out.below hm.below | exact hm.rw_ law8 (by (first | ((repeat (first | with_reducible exact List.Mem.head _ | with_reducible apply List.Mem.tail)); done) | ((repeat (first | exact List.Mem.head _ | apply List.Mem.tail)); done))) | exact HR1.out.below hm.below | exact HR2.out.below hm.below) (by first | exact HN1.out | exact HN2.out | exact HN3.out | exact HN4.out) (by first | exact HL1.out | exact HL2.out)) (by kernel_rfl)
                    clear HM HB
                    rintro w ⟨Aq, cq⟩ HM HB
                    refine hK.out _ _ (HB) (fun hS2 => ?_)
                    clear hS hK
                    have hS := hS2
                    clear hS2
                    try simp only [Act.put, List.setIfInBounds_toArray, List.set_cons_zero, List.set_cons_succ]
                    refine tkv 22 74 _ rfl (yields_build rfl #[(0, .int .u32 is), (1, .int .u32 iu), (2, .int .u32 iz), (3, .slice Aq sz cq)] rfl (build4 _ _ _ _ _ _) (by kernel_rfl)) ?_
                    refine rone 24 rfl fun K' hK => ?_
                    refine s_wr ?_ HM (Wr.whole rfl rfl rfl (by (first | ((repeat (first | with_reducible exact Upd.head _ | with_reducible apply Upd.tail)); done) | ((repeat (first | exact Upd.head _ | apply Upd.tail)); done))) (HC.out Aq cq)) (by kernel_rfl)
                    clear HM HB
                    intro w _ HM HB
                    refine hK.out _ _ (HB) (fun hS2 => ?_)
                    clear hS hK
                    have hS := hS2
                    clear hS2
                    try simp only [Act.put, List.setIfInBounds_toArray, List.set_cons_zero, List.set_cons_succ]
                    refine wpAnyH_done (by kernel_rfl) ?_ _
                    clear hS
                    exact leaf HM Aq cq bx b0 (by first | exact List.Perm.refl _ | exact List.Perm.swap _ _ _) rfl
                · refine s_wr ?_ HM (Wr.alloc rfl AL1.out.1 AL1.out.2) (by kernel_rfl)
                  clear HM HB
                  intro w bx HM HB
                  refine hK.out _ _ (HB) (fun hS2 => ?_)
                  clear hS hK
                  have hS := hS2
                  clear hS2
                  try simp only [Act.put, List.setIfInBounds_toArray, List.set_cons_zero, List.set_cons_succ]
                  refine rone 8 rfl fun K' hK => ?_
                  go_simp
                  refine (HGU.out _ HB).mono ?_
                  rintro e w ⟨rfl, hb⟩
                  replace HM := Lib.hid (HM.out.call hb)
                  replace HB := HM.out.below
                  clear hb
                  refine hK.out _ _ (HB) (fun hS2 => ?_)
                  clear hS hK
                  have hS := hS2
                  clear hS2
                  try simp only [Act.put, List.setIfInBounds_toArray, List.set_cons_zero, List.set_cons_succ]
                  refine tk 9 61 ?_
                  refine rone 13 rfl fun K' hK => ?_
                  go_simp
                  refine (HGZ.out _ HB).mono ?_
                  rintro e w ⟨rfl, hb⟩
                  replace HM := Lib.hid (HM.out.call hb)
                  replace HB := HM.out.below
                  clear hb
                  refine hK.out _ _ (HB) (fun hS2 => ?_)
                  clear hS hK
                  have hS := hS2
                  clear hS2
                  try simp only [Act.put, List.setIfInBounds_toArray, List.set_cons_zero, List.set_cons_succ]
                  refine tk 14 66 ?_
                  refine rone 21 rfl fun K' hK => ?_
                  refine s_wx ?_ HM (Wx.app law8 rfl (by first | (go_simp; with_reducible rfl) | rfl) (by first | (go_simp; with_reducible rfl) | rfl) (by (first | ((repeat (first | with_reducible exact Del.head _ | with_reducible apply Del.tail)); done) | ((repeat (first | exact Del.head _ | apply Del.tail)); done))) (by intro w hm; first | with_reducible exact HR1.out.below hm.below | with_reducible exact HR2.out.below hm.below | exact hm.rw_ law8 (by (first | ((repeat (first | with_reducible exact List.Mem.head _ | with_reducible apply List.Mem.tail)); done) | ((repeat (first | exact List.Mem.head _ | apply List.Mem.tail)); done))) | exact HR1.out.below hm.below | exact HR2.out.below hm.below) (by first | exact HN1.out | exact HN2.out | exact HN3.out | exact HN4.out) (by first | exact HL1.out | exact HL2.out)) (by kernel_rfl)
                  clear HM HB
                  rintro w ⟨Aq, cq⟩ HM HB
                  refine hK.out _ _ (HB) (fun hS2 => ?_)
                  clear hS hK
                  have hS := hS2
                  clear hS2
                  try simp only [Act.put, List.setIfInBounds_toArray, List.set_cons_zero, List.set_cons_succ]
                  refine tkv 22 74 _ rfl (yields_build rfl #[(0, .int .u32 is), (1, .int .u32 iu), (2, .int .u32 iz), (3, .slice Aq sz cq)] rfl (build4 _ _ _ _ _ _) (by kernel_rfl)) ?_
                  refine rone 24 rfl fun K' hK => ?_
                  refine s_wr ?_ HM (Wr.whole rfl rfl rfl (by (first | ((repeat (first | with_reducible exact Upd.head _ | with_reducible apply Upd.tail)); done) | ((repeat (first | exact Upd.head _ | apply Upd.tail)); done))) (HC.out Aq cq)) (by kernel_rfl)
                  clear HM HB
                  intro w _ HM HB
                  refine hK.out _ _ (HB) (fun hS2 => ?_)
                  clear hS hK
                  have hS := hS2
                  clear hS2
                  try simp only [Act.put, List.setIfInBounds_toArray, List.set_cons_zero, List.set_cons_succ]
                  refine wpAnyH_done (by kernel_rfl) ?_ _
                  clear hS
                  exact leaf HM Aq cq bx b0 (by first | exact List.Perm.refl _ | exact List.Perm.swap _ _ _) rfl
              · refine s_wr ?_ HM (Wr.alloc rfl AL1.out.1 AL1.out.2) (by kernel_rfl)
                clear HM HB
                intro w bx HM HB
                refine hK.out _ _ (HB) (fun hS2 => ?_)
                clear hS hK
                have hS := hS2
                clear hS2
                try simp only [Act.put, List.setIfInBounds_toArray, List.set_cons_zero, List.set_cons_succ]
                refine wpAnyH_ready (rs := [8, 15]) (by kernel_rfl) (by simp) (rmore 8 rfl (fun K' hK => ?_) (rmore 15 rfl (fun K' hK => ?_) AllReadyH.nil))
                · go_simp
                  refine (HGU.out _ HB).mono ?_
                  rintro e w ⟨rfl, hb⟩
                  replace HM := Lib.hid (HM.out.call hb)
                  replace HB := HM.out.below
                  clear hb
                  refine hK.out _ _ (HB) (fun hS2 => ?_)
                  clear hS hK
                  have hS := hS2
                  clear hS2
                  try simp only [Act.put, List.setIfInBounds_toArray, List.set_cons_zero, List.set_cons_succ]
                  refine tk 9 61 ?_
                  refine wpAnyH_ready (rs := [13, 15]) (by kernel_rfl) (by simp) (rmore 13 rfl (fun K' hK => ?_) (rmore 15 rfl (fun K' hK => ?_) AllReadyH.nil))
                  · go_simp
                    refine (HGZ.out _ HB).mono ?_
                    rintro e w ⟨rfl, hb⟩
                    replace HM := Lib.hid (HM.out.call hb)
                    replace HB := HM.out.below
                    clear hb
                    refine hK.out _ _ (HB) (fun hS2 => ?_)
                    clear hS hK
                    have hS := hS2
                    clear hS2
                    try simp only [Act.put, List.setIfInBounds_toArray, List.set_cons_zero, List.set_cons_succ]
                    refine tk 14 66 ?_
                    refine rone 15 rfl fun K' hK => ?_
                    refine s_wr ?_ HM (Wr.litR law8 rfl lit0 rfl) (by kernel_rfl)
                    clear HM HB
                    intro w b0 HM HB
                    refine hK.out _ _ (HB) (fun hS2 => ?_)
                    clear hS hK
                    have hS := hS2
                    clear hS2
                    try simp only [Act.put, List.setIfInBounds_toArray, List.set_cons_zero, List.set_cons_succ]
                    refine rone 21 rfl fun K' hK => ?_
                    refine s_wx ?_ HM (Wx.app law8 rfl (by first | (go_simp; with_reducible rfl) | rfl) (by first | (go_simp; with_reducible rfl) | rfl) (by (first | ((repeat (first | with_reducible exact Del.head _ | with_reducible apply Del.tail)); done) | ((repeat (first | exact Del.head _ | apply Del.tail)); done))) (by intro w hm; first | with_reducible exact HR1.out.below hm.below | with_reducible exact HR2.out.below hm.below | exact hm.rw_ law8 (by (first | ((repeat (first | with_reducible exact List.Mem.head _ | with_reducible apply List.Mem.tail)); done) | ((repeat (first | exact List.Mem.head _ | apply List.Mem.tail)); done))) | exact HR1.out.below hm.below | exact HR2.out.below hm.below) (by first | exact HN1.out | exact HN2.out | exact HN3.out | exact HN4.out) (by first | exact HL1.out | exact HL2.out)) (by kernel_rfl)
                    clear HM HB
                    rintro w ⟨Aq, cq⟩ HM HB
                    refine hK.out _ _ (HB) (fun hS2 => ?_)
                    clear hS hK
                    have hS := hS2
                    clear hS2
                    try simp only [Act.put, List.setIfInBounds_toArray, List.set_cons_zero, List.set_cons_succ]
                    refine tkv 22 74 _ rfl (yields_build rfl #[(0, .int .u32 is), (1, .int .u32 iu), (2, .int .u32 iz), (3, .slice Aq sz cq)] rfl (build4 _ _ _ _ _ _) (by kernel_rfl)) ?_
                    refine rone 24 rfl fun K' hK => ?_
                    refine s_wr ?_ HM (Wr.whole rfl rfl rfl (by (first | ((repeat (first | with_reducible exact Upd.head _ | with_reducible apply Upd.tail)); done) | ((repeat (first | exact Upd.head _ | apply Upd.tail)); done))) (HC.out Aq cq)) (by kernel_rfl)
                    clear HM HB
                    intro w _ HM HB
                    refine hK.out _ _ (HB) (fun hS2 => ?_)
                    clear hS hK
                    have hS := hS2
                    clear hS2
                    try simp only [Act.put, List.setIfInBounds_toArray, List.set_cons_zero, List.set_cons_succ]
                    refine wpAnyH_done (by kernel_rfl) ?_ _
                    clear hS
                    exact leaf HM Aq cq bx b0 (by first | exact List.Perm.refl _ | exact List.Perm.swap _ _ _) rfl
                  · refine s_wr ?_ HM (Wr.litR law8 rfl lit0 rfl) (by kernel_rfl)
                    clear HM HB
                    intro w b0 HM HB
                    refine hK.out _ _ (HB) (fun hS2 => ?_)
                    clear hS hK
                    have hS := hS2
                    clear hS2
                    try simp only [Act.put, List.setIfInBounds_toArray, List.set_cons_zero, List.set_cons_succ]
                    refine rone 13 rfl fun K' hK => ?_
                    go_simp
                    refine (HGZ.out _ HB).mono ?_
                    rintro e w ⟨rfl, hb⟩
                    replace HM := Lib.hid (HM.out.call hb)
                    replace HB := HM.out.below
                    clear hb
                    refine hK.out _ _ (HB) (fun hS2 => ?_)
                    clear hS hK
                    have hS := hS2
                    clear hS2
                    try simp only [Act.put, List.setIfInBounds_toArray, List.set_cons_zero, List.set_cons_succ]
                    refine tk 14 66 ?_
                    refine rone 21 rfl fun K' hK => ?_
                    refine s_wx ?_ HM (Wx.app law8 rfl (by first | (go_simp; with_reducible rfl) | rfl) (by first | (go_simp; with_reducible rfl) | rfl) (by (first | ((repeat (first | with_reducible exact Del.head _ | with_reducible apply Del.tail)); done) | ((repeat (first | exact Del.head _ | apply Del.tail)); done))) (by intro w hm; first | with_reducible exact HR1.out.below hm.below | with_reducible exact HR2.out.below hm.below | exact hm.rw_ law8 (by (first | ((repeat (first | with_reducible exact List.Mem.head _ | with_reducible apply List.Mem.tail)); done) | ((repeat (first | exact List.Mem.head _ | apply List.Mem.tail)); done))) | exact HR1.out.below hm.below | exact HR2.out.below hm.below) (by first | exact HN1.out | exact HN2.out | exact HN3.out | exact HN4.out) (by first | exact HL1.out | exact HL2.out)) (by kernel_rfl)
                    clear HM HB
                    rintro w ⟨Aq, cq⟩ HM HB
                    refine hK.out _ _ (HB) (fun hS2 => ?_)
                    clear hS hK
                    have hS := hS2
                    clear hS2
                    try simp only [Act.put, List.setIfInBounds_toArray, List.set_cons_zero, List.set_cons_succ]
                    refine tkv 22 74 _ rfl (yields_build rfl #[(0, .int .u32 is), (1, .int .u32 iu), (2, .int .u32 iz), (3, .slice Aq sz cq)] rfl (build4 _ _ _ _ _ _) (by kernel_rfl)) ?_
                    refine rone 24 rfl fun K' hK => ?_
                    refine s_wr ?_ HM (Wr.whole rfl rfl rfl (by (first | ((repeat (first | with_reducible exact Upd.head _ | with_reducible apply Upd.tail)); done) | ((repeat (first | exact Upd.head _ | apply Upd.tail)); done))) (HC.out Aq cq)) (by kernel_rfl)
                    clear HM HB
                    intro w _ HM HB
                    refine hK.out _ _ (HB) (fun hS2 => ?_)
                    clear hS hK
                    have hS := hS2
                    clear hS2
                    try simp only [Act.put, List.setIfInBounds_toArray, List.set_cons_zero, List.set_cons_succ]
                    refine wpAnyH_done (by kernel_rfl) ?_ _
                    clear hS
                    exact leaf HM Aq cq bx b0 (by first | exact List.Perm.refl _ | exact List.Perm.swap _ _ _) rfl
                · refine s_wr ?_ HM (Wr.litR law8 rfl lit0 rfl) (by kernel_rfl)
                  clear HM HB
                  intro w b0 HM HB
                  refine hK.out _ _ (HB) (fun hS2 => ?_)
                  clear hS hK
                  have hS := hS2
                  clear hS2
                  try simp only [Act.put, List.setIfInBounds_toArray, List.set_cons_zero, List.set_cons_succ]
                  refine rone 8 rfl fun K' hK => ?_
                  go_simp
                  refine (HGU.out _ HB).mono ?_
                  rintro e w ⟨rfl, hb⟩
                  replace HM := Lib.hid (HM.out.call hb)
                  replace HB := HM.out.below
                  clear hb
                  refine hK.out _ _ (HB) (fun hS2 => ?_)
                  clear hS hK
                  have hS := hS2
                  clear hS2
                  try simp only [Act.put, List.setIfInBounds_toArray, List.set_cons_zero, List.set_cons_succ]
                  refine tk 9 61 ?_
                  refine rone 13 rfl fun K' hK => ?_
                  go_simp
                  refine (HGZ.out _ HB).mono ?_
                  rintro e w ⟨rfl, hb⟩
                  replace HM := Lib.hid (HM.out.call hb)
                  replace HB := HM.out.below
                  clear hb
                  refine hK.out _ _ (HB) (fun hS2 => ?_)
                  clear hS hK
                  have hS := hS2
                  clear hS2
                  try simp only [Act.put, List.setIfInBounds_toArray, List.set_cons_zero, List.set_cons_succ]
                  refine tk 14 66 ?_
                  refine rone 21 rfl fun K' hK => ?_
                  refine s_wx ?_ HM (Wx.app law8 rfl (by first | (go_simp; with_reducible rfl) | rfl) (by first | (go_simp; with_reducible rfl) | rfl) (by (first | ((repeat (first | with_reducible exact Del.head _ | with_reducible apply Del.tail)); done) | ((repeat (first | exact Del.head _ | apply Del.tail)); done))) (by intro w hm; first | with_reducible exact HR1.out.below hm.below | with_reducible exact HR2.out.below hm.below | exact hm.rw_ law8 (by (first | ((repeat (first | with_reducible exact List.Mem.head _ | with_reducible apply List.Mem.tail)); done) | ((repeat (first | exact List.Mem.head _ | apply List.Mem.tail)); done))) | exact HR1.out.below hm.below | exact HR2.out.below hm.below) (by first | exact HN1.out | exact HN2.out | exact HN3.out | exact HN4.out) (by first | exact HL1.out | exact HL2.out)) (by kernel_rfl)
                  clear HM HB
                  rintro w ⟨Aq, cq⟩ HM HB
                  refine hK.out _ _ (HB) (fun hS2 => ?_)
                  clear hS hK
                  have hS := hS2
                  clear hS2
                  try simp only [Act.put, List.setIfInBounds_toArray, List.set_cons_zero, List.set_cons_succ]
                  refine tkv 22 74 _ rfl (yields_build rfl #[(0, .int .u32 is), (1, .int .u32 iu), (2, .int .u32 iz), (3, .slice Aq sz cq)] rfl (build4 _ _ _ _ _ _) (by kernel_rfl)) ?_
                  refine rone 24 rfl fun K' hK => ?_
                  refine s_wr ?_ HM (Wr.whole rfl rfl rfl (by (first | ((repeat (first | with_reducible exact Upd.head _ | with_reducible apply Upd.tail)); done) | ((repeat (first | exact Upd.head _ | apply Upd.tail)); done))) (HC.out Aq cq)) (by kernel_rfl)
                  clear HM HB
                  intro w _ HM HB
                  refine hK.out _ _ (HB) (fun hS2 => ?_)
                  clear hS hK
                  have hS := hS2
                  clear hS2
                  try simp only [Act.put, List.setIfInBounds_toArray, List.set_cons_zero, List.set_cons_succ]
                  refine wpAnyH_done (by kernel_rfl) ?_ _
                  clear hS
                  exact leaf HM Aq cq bx b0 (by first | exact List.Perm.refl _ | exact List.Perm.swap _ _ _) rfl
            · refine s_wr ?_ HM (Wr.litR law8 rfl lit0 rfl) (by kernel_rfl)
              clear HM HB
              intro w b0 HM HB
              refine hK.out _ _ (HB) (fun hS2 => ?_)
              clear hS hK
              have hS := hS2
              clear hS2
              try simp only [Act.put, List.setIfInBounds_toArray, List.set_cons_zero, List.set_cons_succ]
              refine wpAnyH_ready (rs := [3, 23]) (by kernel_rfl) (by simp) (rmore 3 rfl (fun K' hK => ?_) (rmore 23 rfl (fun K' hK => ?_) AllReadyH.nil))
              · go_simp
                refine (HGS.out _ HB).mono ?_
                rintro e w ⟨rfl, hb⟩
                replace HM := Lib.hid (HM.out.call hb)
                replace HB := HM.out.below
                clear hb
                refine hK.out _ _ (HB) (fun hS2 => ?_)
                clear hS hK
                have hS := hS2
                clear hS2
                try simp only [Act.put, List.setIfInBounds_toArray, List.set_cons_zero, List.set_cons_succ]
                refine tk 4 56 ?_
                refine wpAnyH_ready (rs := [8, 23]) (by kernel_rfl) (by simp) (rmore 8 rfl (fun K' hK => ?_) (rmore 23 rfl (fun K' hK => ?_) AllReadyH.nil))
                · go_simp
                  refine (HGU.out _ HB).mono ?_
                  rintro e w ⟨rfl, hb⟩
                  replace HM := Lib.hid (HM.out.call hb)
                  replace HB := HM.out.below
                  clear hb
                  refine hK.out _ _ (HB) (fun hS2 => ?_)
                  clear hS hK
                  have hS := hS2
                  clear hS2
                  try simp only [Act.put, List.setIfInBounds_toArray, List.set_cons_zero, List.set_cons_succ]
                  refine tk 9 61 ?_
                  refine wpAnyH_ready (rs := [13, 23]) (by kernel_rfl) (by simp) (rmore 13 rfl (fun K' hK => ?_) (rmore 23 rfl (fun K' hK => ?_) AllReadyH.nil))
                  · go_simp
                    refine (HGZ.out _ HB).mono ?_
                    rintro e w ⟨rfl, hb⟩
                    replace HM := Lib.hid (HM.out.call hb)
                    replace HB := HM.out.below
                    clear hb
                    refine hK.out _ _ (HB) (fun hS2 => ?_)
                    clear hS hK
                    have hS := hS2
                    clear hS2
                    try simp only [Act.put, List.setIfInBounds_toArray, List.set_cons_zero, List.set_cons_succ]
                    refine tk 14 66 ?_
                    refine wpAnyH_ready (rs := [21, 23]) (by kernel_rfl) (by simp) (rmore 21 rfl (fun K' hK => ?_) (rmore 23 rfl (fun K' hK => ?_) AllReadyH.nil))
                    · refine s_wx ?_ HM (Wx.app law8 rfl (by first | (go_simp; with_reducible rfl) | rfl) (by first | (go_simp; with_reducible rfl) | rfl) (by (first | ((repeat (first | with_reducible exact Del.head _ | with_reducible apply Del.tail)); done) | ((repeat (first | exact Del.head _ | apply Del.tail)); done))) (by intro w hm; first | with_reducible exact HR1.out.below hm.below | with_reducible exact HR2.out.below hm.below | exact hm.rw_ law8 (by (first | ((repeat (first | with_reducible exact List.Mem.head _ | with_reducible apply List.Mem.tail)); done) | ((repeat (first | exact List.Mem.head _ | apply List.Mem.tail)); done))) | exact HR1.out.below hm.below | exact HR2.out.below hm.below) (by first | exact HN1.out | exact HN2.out | exact HN3.out | exact HN4.out) (by first | exact HL1.out | exact HL2.out)) (by kernel_rfl)
                      clear HM HB
                      rintro w ⟨Aq, cq⟩ HM HB
                      refine hK.out _ _ (HB) (fun hS2 => ?_)
                      clear hS hK
                      have hS := hS2
                      clear hS2
                      try simp only [Act.put, List.setIfInBounds_toArray, List.set_cons_zero, List.set_cons_succ]
                      refine tkv 22 74 _ rfl (yields_build rfl #[(0, .int .u32 is), (1, .int .u32 iu), (2, .int .u32 iz), (3, .slice Aq sz cq)] rfl (build4 _ _ _ _ _ _) (by kernel_rfl)) ?_
                      refine rone 23 rfl fun K' hK => ?_
                      refine s_wr ?_ HM (Wr.alloc rfl AL1.out.1 AL1.out.2) (by kernel_rfl)
                      clear HM HB
                      intro w bx HM HB
                      refine hK.out _ _ (HB) (fun hS2 => ?_)
                      clear hS hK
                      have hS := hS2
                      clear hS2
                      try simp only [Act.put, List.setIfInBounds_toArray, List.set_cons_zero, List.set_cons_succ]
                      refine rone 24 rfl fun K' hK => ?_
                      refine s_wr ?_ HM (Wr.whole rfl rfl rfl (by (first | ((repeat (first | with_reducible exact Upd.head _ | with_reducible apply Upd.tail)); done) | ((repeat (first | exact Upd.head _ | apply Upd.tail)); done))) (HC.out Aq cq)) (by kernel_rfl)
                      clear HM HB
                      intro w _ HM HB
                      refine hK.out _ _ (HB) (fun hS2 => ?_)
                      clear hS hK
                      have hS := hS2
                      clear hS2
                      try simp only [Act.put, List.setIfInBounds_toArray, List.set_cons_zero, List.set_cons_succ]
                      refine wpAnyH_done (by kernel_rfl) ?_ _
                      clear hS
                      exact leaf HM Aq cq bx b0 (by first | exact List.Perm.refl _ | exact List.Perm.swap _ _ _) rfl
                    · refine s_wr ?_ HM (Wr.alloc rfl AL1.out.1 AL1.out.2) (by kernel_rfl)
                      clear HM HB
                      intro w bx HM HB
                      refine hK.out _ _ (HB) (fun hS2 => ?_)
                      clear hS hK
                      have hS := hS2
                      clear hS2
                      try simp only [Act.put, List.setIfInBounds_toArray, List.set_cons_zero, List.set_cons_succ]
                      refine rone 21 rfl fun K' hK => ?_
                      refine s_wx ?_ HM (Wx.app law8 rfl (by first | (go_simp; with_reducible rfl) | rfl) (by first | (go_simp; with_reducible rfl) | rfl) (by (first | ((repeat (first | with_reducible exact Del.head _ | with_reducible apply Del.tail)); done) | ((repeat (first | exact Del.head _ | apply Del.tail)); done))) (by intro w hm; first | with_reducible exact HR1.out.below hm.below | with_reducible exact HR2.out.below hm.below | exact hm.rw_ law8 (by (first | ((repeat (first | with_reducible exact List.Mem.head _ | with_reducible apply List.Mem.tail)); done) | ((repeat (first | exact List.Mem.head _ | apply List.Mem.tail)); done))) | exact HR1.out.below hm.below | exact HR2.out.below hm.below) (by first | exact HN1.out | exact HN2.out | exact HN3.out | exact HN4.out) (by first | exact HL1.out | exact HL2.out)) (by kernel_rfl)
                      clear HM HB
                      rintro w ⟨Aq, cq⟩ HM HB
                      refine hK.out _ _ (HB) (fun hS2 => ?_)
                      clear hS hK
                      have hS := hS2
                      clear hS2
                      try simp only [Act.put, List.setIfInBounds_toArray, List.set_cons_zero, List.set_cons_succ]
                      refine tkv 22 74 _ rfl (yields_build rfl #[(0, .int .u32 is), (1, .int .u32 iu), (2, .int .u32 iz), (3, .slice Aq sz cq)] rfl (build4 _ _ _ _ _ _) (by kernel_rfl)) ?_
                      refine rone 24 rfl fun K' hK => ?_
                      refine s_wr ?_ HM (Wr.whole rfl rfl rfl (by (first | ((repeat (first | with_reducible exact Upd.head _ | with_reducible apply Upd.tail)); done) | ((repeat (first | exact Upd.head _ | apply Upd.tail)); done))) (HC.out Aq cq)) (by kernel_rfl)
                      clear HM HB
                      intro w _ HM HB
                      refine hK.out _ _ (HB) (fun hS2 => ?_)
                      clear hS hK
                      have hS := hS2
                      clear hS2
                      try simp only [Act.put, List.setIfInBounds_toArray, List.set_cons_zero, List.set_cons_succ]
                      refine wpAnyH_done (by kernel_rfl) ?_ _
                      clear hS
                      exact leaf HM Aq cq bx b0 (by first | exact List.Perm.refl _ | exact List.Perm.swap _ _ _) rfl
                  · refine s_wr ?_ HM (Wr.alloc rfl AL1.out.1 AL1.out.2) (by kernel_rfl)
                    clear HM HB
                    intro w bx HM HB
                    refine hK.out _ _ (HB) (fun hS2 => ?_)
                    clear hS hK
                    have hS := hS2
                    clear hS2
                    try simp only [Act.put, List.setIfInBounds_toArray, List.set_cons_zero, List.set_cons_succ]
                    refine rone 13 rfl fun K' hK => ?_
                    go_simp
                    refine (HGZ.out _ HB).mono ?_
                    rintro e w ⟨rfl, hb⟩
                    replace HM := Lib.hid (HM.out.call hb)
                    replace HB := HM.out.below
                    clear hb
                    refine hK.out _ _ (HB) (fun hS2 => ?_)
                    clear hS hK
                    have hS := hS2
                    clear hS2
                    try simp only [Act.put, List.setIfInBounds_toArray, List.set_cons_zero, List.set_cons_succ]
                    refine tk 14 66 ?_
                    refine rone 21 rfl fun K' hK => ?_
                    refine s_wx ?_ HM (Wx.app law8 rfl (by first | (go_simp; with_reducible rfl) | rfl) (by first | (go_simp; with_reducible rfl) | rfl) (by (first | ((repeat (first | with_reducible exact Del.head _ | with_reducible apply Del.tail)); done) | ((repeat (first | exact Del.head _ | apply Del.tail)); done))) (by intro w hm; first | with_reducible exact HR1.out.below hm.below | with_reducible exact HR2.out.below hm.below | exact hm.rw_ law8 (by (first | ((repeat (first | with_reducible exact List.Mem.head _ | with_reducible apply List.Mem.tail)); done) | ((repeat (first | exact List.Mem.head _ | apply List.Mem.tail)); done))) | exact HR1.out.below hm.below | exact HR2.out.below hm.below) (by first | exact HN1.out | exact HN2.out | exact HN3.out | exact HN4.out) (by first | exact HL1.out | exact HL2.out)) (by kernel_rfl)
                    clear HM HB
                    rintro w ⟨Aq, cq⟩ HM HB
                    refine hK.out _ _ (HB) (fun hS2 => ?_)
                    clear hS hK
                    have hS := hS2
                    clear hS2
                    try simp only [Act.put, List.setIfInBounds_toArray, List.set_cons_zero, List.set_cons_succ]
                    refine tkv 22 74 _ rfl (yields_build rfl #[(0, .int .u32 is), (1, .int .u32 iu), (2, .int .u32 iz), (3, .slice Aq sz cq)] rfl (build4 _ _ _ _ _ _) (by kernel_rfl)) ?_
                    refine rone 24 rfl fun K' hK => ?_
                    refine s_wr ?_ HM (Wr.whole rfl rfl rfl (by (first | ((repeat (first | with_reducible exact Upd.head _ | with_reducible apply Upd.tail)); done) | ((repeat (first | exact Upd.head _ | apply Upd.tail)); done))) (HC.out Aq cq)) (by kernel_rfl)
                    clear HM HB
                    intro w _ HM HB
                    refine hK.out _ _ (HB) (fun hS2 => ?_)
                    clear hS hK
                    have hS := hS2
                    clear hS2
                    try simp only [Act.put, List.setIfInBounds_toArray, List.set_cons_zero, List.set_cons_succ]
                    refine wpAnyH_done (by kernel_rfl) ?_ _
                    clear hS
                    exact leaf HM Aq cq bx b0 (by first | exact List.Perm.refl _ | exact List.Perm.swap _ _ _) rfl
                · refine s_wr ?_ HM (Wr.alloc rfl AL1.out.1 AL1.out.2) (by kernel_rfl)
                  clear HM HB
                  intro w bx HM HB
                  refine hK.out _ _ (HB) (fun hS2 => ?_)
                  clear hS hK
                  have hS := hS2
                  clear hS2
                  try simp only [Act.put, List.setIfInBounds_toArray, List.set_cons_zero, List.set_cons_succ]
                  refine rone 8 rfl fun K' hK => ?_
                  go_simp
                  refine (HGU.out _ HB).mono ?_
                  rintro e w ⟨rfl, hb⟩
                  replace HM := Lib.hid (HM.out.call hb)
                  replace HB := HM.out.below
                  clear hb
                  refine hK.out _ _ (HB) (fun hS2 => ?_)
                  clear hS hK
                  have hS := hS2
                  clear hS2
                  try simp only [Act.put, List.setIfInBounds_toArray, List.set_cons_zero, List.set_cons_succ]
                  refine tk 9 61 ?_
                  refine rone 13 rfl fun K' hK => ?_
                  go_simp
                  refine (HGZ.out _ HB).mono ?_
                  rintro e w ⟨rfl, hb⟩
                  replace HM := Lib.hid (HM.out.call hb)
                  replace HB := HM.out.below
                  clear hb
                  refine hK.out _ _ (HB) (fun hS2 => ?_)
                  clear hS hK
                  have hS := hS2
                  clear hS2
                  try simp only [Act.put, List.setIfInBounds_toArray, List.set_cons_zero, List.set_cons_succ]
                  refine tk 14 66 ?_
                  refine rone 21 rfl fun K' hK => ?_
                  refine s_wx ?_ HM (Wx.app law8 rfl (by first | (go_simp; with_reducible rfl) | rfl) (by first | (go_simp; with_reducible rfl) | rfl) (by (first | ((repeat (first | with_reducible exact Del.head _ | with_reducible apply Del.tail)); done) | ((repeat (first | exact Del.head _ | apply Del.tail)); done))) (by intro w hm; first | with_reducible exact HR1.out.below hm.below | with_reducible exact HR2.out.below hm.below | exact hm.rw_ law8 (by (first | ((repeat (first | with_reducible exact List.Mem.head _ | with_reducible apply List.Mem.tail)); done) | ((repeat (first | exact List.Mem.head _ | apply List.Mem.tail)); done))) | exact HR1.out.below hm.below | exact HR2.out.below hm.below) (by first | exact HN1.out | exact HN2.out | exact HN3.out | exact HN4.out) (by first | exact HL1.out | exact HL2.out)) (by kernel_rfl)
                  clear HM HB
                  rintro w ⟨Aq, cq⟩ HM HB
                  refine hK.out _ _ (HB) (fun hS2 => ?_)
                  clear hS hK
                  have hS := hS2
                  clear hS2
                  try simp only [Act.put, List.setIfInBounds_toArray, List.set_cons_zero, List.set_cons_succ]
                  refine tkv 22 74 _ rfl (yields_build rfl #[(0, .int .u32 is), (1, .int .u32 iu), (2, .int .u32 iz), (3, .slice Aq sz cq)] rfl (build4 _ _ _ _ _ _) (by kernel_rfl)) ?_
                  refine rone 24 rfl fun K' hK => ?_
                  refine s_wr ?_ HM (Wr.whole rfl rfl rfl (by (first | ((repeat (first | with_reducible exact Upd.head _ | with_reducible apply Upd.tail)); done) | ((repeat (first | exact Upd.head _ | apply Upd.tail)); done))) (HC.out Aq cq)) (by kernel_rfl)
                  clear HM HB
                  intro w _ HM HB
                  refine hK.out _ _ (HB) (fun hS2 => ?_)
                  clear hS hK
                  have hS := hS2
                  clear hS2
                  try simp only [Act.put, List.setIfInBounds_toArray, List.set_cons_zero, List.set_cons_succ]
                  refine wpAnyH_done (by kernel_rfl) ?_ _
                  clear hS
                  exact leaf HM Aq cq bx b0 (by first | exact List.Perm.refl _ | exact List.Perm.swap _ _ _) rfl
              · refine s_wr ?_ HM (Wr.alloc rfl AL1.out.1 AL1.out.2) (by kernel_rfl)
                clear HM HB
                intro w bx HM HB
                refine hK.out _ _ (HB) (fun hS2 => ?_)
                clear hS hK
                have hS := hS2
                clear hS2
                try simp only [Act.put, List.setIfInBounds_toArray, List.set_cons_zero, List.set_cons_succ]
                refine rone 3 rfl fun K' hK => ?_
                go_simp
                refine (HGS.out _ HB).mono ?_
                rintro e w ⟨rfl, hb⟩
                replace HM := Lib.hid (HM.out.call hb)
                replace HB := HM.out.below
                clear hb
                refine hK.out _ _ (HB) (fun hS2 => ?_)
                clear hS hK
                have hS := hS2
                clear hS2
                try simp only [Act.put, List.setIfInBounds_toArray, List.set_cons_zero, List.set_cons_succ]
                refine tk 4 56 ?_
                refine rone 8 rfl fun K' hK => ?_
                go_simp
                refine (HGU.out _ HB).mono ?_
                rintro e w ⟨rfl, hb⟩
                replace HM := Lib.hid (HM.out.call hb)
                replace HB := HM.out.below
                clear hb
                refine hK.out _ _ (HB) (fun hS2 => ?_)
                clear hS hK
                have hS := hS2
                clear hS2
                try simp only [Act.put, List.setIfInBounds_toArray, List.set_cons_zero, List.set_cons_succ]
                refine tk 9 61 ?_
                refine rone 13 rfl fun K' hK => ?_
                go_simp
                refine (HGZ.out _ HB).mono ?_
                rintro e w ⟨rfl, hb⟩
                replace HM := Lib.hid (HM.out.call hb)
                replace HB := HM.out.below
                clear hb
                refine hK.out _ _ (HB) (fun hS2 => ?_)
                clear hS hK
                have hS := hS2
                clear hS2
                try simp only [Act.put, List.setIfInBounds_toArray, List.set_cons_zero, List.set_cons_succ]
                refine tk 14 66 ?_
                refine rone 21 rfl fun K' hK => ?_
                refine s_wx ?_ HM (Wx.app law8 rfl (by first | (go_simp; with_reducible rfl) | rfl) (by first | (go_simp; with_reducible rfl) | rfl) (by (first | ((repeat (first | with_reducible exact Del.head _ | with_reducible apply Del.tail)); done) | ((repeat (first | exact Del.head _ | apply Del.tail)); done))) (by intro w hm; first | with_reducible exact HR1.out.below hm.below | with_reducible exact HR2.out.below hm.below | exact hm.rw_ law8 (by (first | ((repeat (first | with_reducible exact List.Mem.head _ | with_reducible apply List.Mem.tail)); done) | ((repeat (first | exact List.Mem.head _ | apply List.Mem.tail)); done))) | exact HR1.out.below hm.below | exact HR2.out.below hm.below) (by first | exact HN1.out | exact HN2.out | exact HN3.out | exact HN4.out) (by first | exact HL1.out | exact HL2.out)) (by kernel_rfl)
                clear HM HB
                rintro w ⟨Aq, cq⟩ HM HB
                refine hK.out _ _ (HB) (fun hS2 => ?_)
                clear hS hK
                have hS := hS2
                clear hS2
                try simp only [Act.put, List.setIfInBounds_toArray, List.set_cons_zero, List.set_cons_succ]
                refine tkv 22 74 _ rfl (yields_build rfl #[(0, .int .u32 is), (1, .int .u32 iu), (2, .int .u32 iz), (3, .slice Aq sz cq)] rfl (build4 _ _ _ _ _ _) (by kernel_rfl)) ?_
                refine rone 24 rfl fun K' hK => ?_
                refine s_wr ?_ HM (Wr.whole rfl rfl rfl (by (first | ((repeat (first | with_reducible exact Upd.head _ | with_reducible apply Upd.tail)); done) | ((repeat (first | exact Upd.head _ | apply Upd.tail)); done))) (HC.out Aq cq)) (by kernel_rfl)
                clear HM HB
                intro w _ HM HB
                refine hK.out _ _ (HB) (fun hS2 => ?_)
                clear hS hK
                have hS := hS2
                clear hS2
                try simp only [Act.put, List.setIfInBounds_toArray, List.set_cons_zero, List.set_cons_succ]
                refine wpAnyH_done (by kernel_rfl) ?_ _
                clear hS
                exact leaf HM Aq cq bx b0 (by first | exact List.Perm.refl _ | exact List.Perm.swap _ _ _) rfl
            · refine s_wr ?_ HM (Wr.alloc rfl AL1.out.1 AL1.out.2) (by kernel_rfl)
              clear HM HB
              intro w bx HM HB
              refine hK.out _ _ (HB) (fun hS2 => ?_)
              clear hS hK
              have hS := hS2
              clear hS2
              try simp only [Act.put, List.setIfInBounds_toArray, List.set_cons_zero, List.set_cons_succ]
              refine wpAnyH_ready (rs := [3, 15]) (by kernel_rfl) (by simp) (rmore 3 rfl (fun K' hK => ?_) (rmore 15 rfl (fun K' hK => ?_) AllReadyH.nil))
              · go_simp
                refine (HGS.out _ HB).mono ?_
                rintro e w ⟨rfl, hb⟩
                replace HM := Lib.hid (HM.out.call hb)
                replace HB := HM.out.below
                clear hb
                refine hK.out _ _ (HB) (fun hS2 => ?_)
                clear hS hK
                have hS := hS2
                clear hS2
                try simp only [Act.put, List.setIfInBounds_toArray, List.set_cons_zero, List.set_cons_succ]
                refine tk 4 56 ?_
                refine wpAnyH_ready (rs := [8, 15]) (by kernel_rfl) (by simp) (rmore 8 rfl (fun K' hK => ?_) (rmore 15 rfl (fun K' hK => ?_) AllReadyH.nil))
                · go_simp
                  refine (HGU.out _ HB).mono ?_
                  rintro e w ⟨rfl, hb⟩
                  replace HM := Lib.hid (HM.out.call hb)
                  replace HB := HM.out.below
                  clear hb
                  refine hK.out _ _ (HB) (fun hS2 => ?_)
                  clear hS hK
                  have hS := hS2
                  clear hS2
                  try simp only [Act.put, List.setIfInBounds_toArray, List.set_cons_zero, List.set_cons_succ]
                  refine tk 9 61 ?_
                  refine wpAnyH_ready (rs := [13, 15]) (by kernel_rfl) (by simp) (rmore 13 rfl (fun K' hK => ?_) (rmore 15 rfl (fun K' hK => ?_) AllReadyH.nil))
                  · go_simp
                    refine (HGZ.out _ HB).mono ?_
                    rintro e w ⟨rfl, hb⟩
                    replace HM := Lib.hid (HM.out.call hb)
                    replace HB := HM.out.below
                    clear hb
                    refine hK.out _ _ (HB) (fun hS2 => ?_)
                    clear hS hK
                    have hS := hS2
                    clear hS2
                    try simp only [Act.put, List.setIfInBounds_toArray, List.set_cons_zero, List.set_cons_succ]
                    refine tk 14 66 ?_
                    refine rone 15 rfl fun K' hK => ?_
                    refine s_wr ?_ HM (Wr.litR law8 rfl lit0 rfl) (by kernel_rfl)
                    clear HM HB
                    intro w b0 HM HB
                    refine hK.out _ _ (HB) (fun hS2 => ?_)
                    clear hS hK
                    have hS := hS2
                    clear hS2
                    try simp only [Act.put, List.setIfInBounds_toArray, List.set_cons_zero, List.set_cons_succ]
                    refine rone 21 rfl fun K' hK => ?_
                    refine s_wx ?_ HM (Wx.app law8 rfl (by first | (go_simp; with_reducible rfl) | rfl) (by first | (go_simp; with_reducible rfl) | rfl) (by (first | ((repeat (first | with_reducible exact Del.head _ | with_reducible apply Del.tail)); done) | ((repeat (first | exact Del.head _ | apply Del.tail)); done))) (by intro w hm; first | with_reducible exact HR1.out.below hm.below | with_reducible exact HR2.out.below hm.below | exact hm.rw_ law8 (by (first | ((repeat (first | with_reducible exact List.Mem.head _ | with_reducible apply List.Mem.tail)); done) | ((repeat (first | exact List.Mem.head _ | apply List.Mem.tail)); done))) | exact HR1.out.below hm.below | exact HR2.out.below hm.below) (by first | exact HN1.out | exact HN2.out | exact HN3.out | exact HN4.out) (by first | exact HL1.out | exact HL2.out)) (by kernel_rfl)
                    clear HM HB
                    rintro w ⟨Aq, cq⟩ HM HB
                    refine hK.out _ _ (HB) (fun hS2 => ?_)
                    clear hS hK
                    have hS := hS2
                    clear hS2
                    try simp only [Act.put, List.setIfInBounds_toArray, List.set_cons_zero, List.set_cons_succ]
                    refine tkv 22 74 _ rfl (yields_build rfl #[(0, .int .u32 is), (1, .int .u32 iu), (2, .int .u32 iz), (3, .slice Aq sz cq)] rfl (build4 _ _ _ _ _ _) (by kernel_rfl)) ?_
                    refine rone 24 rfl fun K' hK => ?_
                    refine s_wr ?_ HM (Wr.whole rfl rfl rfl (by (first | ((repeat (first | with_reducible exact Upd.head _ | with_reducible apply Upd.tail)); done) | ((repeat (first | exact Upd.head _ | apply Upd.tail)); done))) (HC.out Aq cq)) (by kernel_rfl)
                    clear HM HB
                    intro w _ HM HB
                    refine hK.out _ _ (HB) (fun hS2 => ?_)
                    clear hS hK
                    have hS := hS2
                    clear hS2
                    try simp only [Act.put, List.setIfInBounds_toArray, List.set_cons_zero, List.set_cons_succ]
                    refine wpAnyH_done (by kernel_rfl) ?_ _
                    clear hS
                    exact leaf HM Aq cq bx b0 (by first | exact List.Perm.refl _ | exact List.Perm.swap _ _ _) rfl
                  · refine s_wr ?_ HM (Wr.litR law8 rfl lit0 rfl) (by kernel_rfl)
                    clear HM HB
                    intro w b0 HM HB
                    refine hK.out _ _ (HB) (fun hS2 => ?_)
                    clear hS hK
                    have hS := hS2
                    clear hS2
                    try simp only [Act.put, List.setIfInBounds_toArray, List.set_cons_zero, List.set_cons_succ]
                    refine rone 13 rfl fun K' hK => ?_
                    go_simp
                    refine (HGZ.out _ HB).mono ?_
                    rintro e w ⟨rfl, hb⟩
                    replace HM := Lib.hid (HM.out.call hb)
                    replace HB := HM.out.below
                    clear hb
                    refine hK.out _ _ (HB) (fun hS2 => ?_)
                    clear hS hK
                    have hS := hS2
                    clear hS2
                    try simp only [Act.put, List.setIfInBounds_toArray, List.set_cons_zero, List.set_cons_succ]
                    refine tk 14 66 ?_
                    refine rone 21 rfl fun K' hK => ?_
                    refine s_wx ?_ HM (Wx.app law8 rfl (by first | (go_simp; with_reducible rfl) | rfl) (by first | (go_simp; with_reducible rfl) | rfl) (by (first | ((repeat (first | with_reducible exact Del.head _ | with_reducible apply Del.tail)); done) | ((repeat (first | exact Del.head _ | apply Del.tail)); done))) (by intro w hm; first | with_reducible exact HR1.out.below hm.below | with_reducible exact HR2.out.below hm.below | exact hm.rw_ law8 (by (first | ((repeat (first | with_reducible exact List.Mem.head _ | with_reducible apply List.Mem.tail)); done) | ((repeat (first | exact List.Mem.head _ | apply List.Mem.tail)); done))) | exact HR1.out.below hm.below | exact HR2.out.below hm.below) (by first | exact HN1.out | exact HN2.out | exact HN3.out | exact HN4.out) (by first | exact HL1.out | exact HL2.out)) (by kernel_rfl)
                    clear HM HB
                    rintro w ⟨Aq, cq⟩ HM HB
                    refine hK.out _ _ (HB) (fun hS2 => ?_)
                    clear hS hK
                    have hS := hS2
                    clear hS2
                    try simp only [Act.put, List.setIfInBounds_toArray, List.set_cons_zero, List.set_cons_succ]
                    refine tkv 22 74 _ rfl (yields_build rfl #[(0, .int .u32 is), (1, .int .u32 iu), (2, .int .u32 iz), (3, .slice Aq sz cq)] rfl (build4 _ _ _ _ _ _) (by kernel_rfl)) ?_
                    refine rone 24 rfl fun K' hK => ?_
                    refine s_wr ?_ HM (Wr.whole rfl rfl rfl (by (first | ((repeat (first | with_reducible exact Upd.head _ | with_reducible apply Upd.tail)); done) | ((repeat (first | exact Upd.head _ | apply Upd.tail)); done))) (HC.out Aq cq)) (by kernel_rfl)
                    clear HM HB
                    intro w _ HM HB
                    refine hK.out _ _ (HB) (fun hS2 => ?_)
                    clear hS hK
                    have hS := hS2
                    clear hS2
                    try simp only [Act.put, List.setIfInBounds_toArray, List.set_cons_zero, List.set_cons_succ]
                    refine wpAnyH_done (by kernel_rfl) ?_ _
                    clear hS
                    exact leaf HM Aq cq bx b0 (by first | exact List.Perm.refl _ | exact List.Perm.swap _ _ _) rfl
                · refine s_wr ?_ HM (Wr.litR law8 rfl lit0 rfl) (by kernel_rfl)
                  clear HM HB
                  intro w b0 HM HB
                  refine hK.out _ _ (HB) (fun hS2 => ?_)
                  clear hS hK
                  have hS := hS2
                  clear hS2
                  try simp only [Act.put, List.setIfInBounds_toArray, List.set_cons_zero, List.set_cons_succ]
                  refine rone 8 rfl fun K' hK => ?_
                  go_simp
                  refine (HGU.out _ HB).mono ?_
                  rintro e w ⟨rfl, hb⟩
                  replace HM := Lib.hid (HM.out.call hb)
                  replace HB := HM.out.below
                  clear hb
                  refine hK.out _ _ (HB) (fun hS2 => ?_)
                  clear hS hK
                  have hS := hS2
                  clear hS2
                  try simp only [Act.put, List.setIfInBounds_toArray, List.set_cons_zero, List.set_cons_succ]
                  refine tk 9 61 ?_
                  refine rone 13 rfl fun K' hK => ?_
                  go_simp
                  refine (HGZ.out _ HB).mono ?_
                  rintro e w ⟨rfl, hb⟩
                  replace HM := Lib.hid (HM.out.call hb)
                  replace HB := HM.out.below
                  clear hb
                  refine hK.out _ _ (HB) (fun hS2 => ?_)
                  clear hS hK
                  have hS := hS2
                  clear hS2
                  try simp only [Act.put, List.setIfInBounds_toArray, List.set_cons_zero, List.set_cons_succ]
                  refine tk 14 66 ?_
                  refine rone 21 rfl fun K' hK => ?_
                  refine s_wx ?_ HM (Wx.app law8 rfl (by first | (go_simp; with_reducible rfl) | rfl) (by first | (go_simp; with_reducible rfl) | rfl) (by (first | ((repeat (first | with_reducible exact Del.head _ | with_reducible apply Del.tail)); done) | ((repeat (first | exact Del.head _ | apply Del.tail)); done))) (by intro w hm; first | with_reducible exact HR1.out.below hm.below | with_reducible exact HR2.out.below hm.below | exact hm.rw_ law8 (by (first | ((repeat (first | with_reducible exact List.Mem.head _ | with_reducible apply List.Mem.tail)); done) | ((repeat (first | exact List.Mem.head _ | apply List.Mem.tail)); done))) | exact HR1.out.below hm.below | exact HR2.out.below hm.below) (by first | exact HN1.out | exact HN2.out | exact HN3.out | exact HN4.out) (by first | exact HL1.out | exact HL2.out)) (by kernel_rfl)
                  clear HM HB
                  rintro w ⟨Aq, cq⟩ HM HB
                  refine hK.out _ _ (HB) (fun hS2 => ?_)
                  clear hS hK
                  have hS := hS2
                  clear hS2
                  try simp only [Act.put, List.setIfInBounds_toArray, List.set_cons_zero, List.set_cons_succ]
                  refine tkv 22 74 _ rfl (yields_build rfl #[(0, .int .u32 is), (1, .int .u32 iu), (2, .int .u32 iz), (3, .slice Aq sz cq)] rfl (build4 _ _ _ _ _ _) (by kernel_rfl)) ?_
                  refine rone 24 rfl fun K' hK => ?_
                  refine s_wr ?_ HM (Wr.whole rfl rfl rfl (by (first | ((repeat (first | with_reducible exact Upd.head _ | with_reducible apply Upd.tail)); done) | ((repeat (first | exact Upd.head _ | apply Upd.tail)); done))) (HC.out Aq cq)) (by kernel_rfl)
                  clear HM HB
                  intro w _ HM HB
                  refine hK.out _ _ (HB) (fun hS2 => ?_)
                  clear hS hK
                  have hS := hS2
                  clear hS2
                  try simp only [Act.put, List.setIfInBounds_toArray, List.set_cons_zero, List.set_cons_succ]
                  refine wpAnyH_done (by kernel_rfl) ?_ _
                  clear hS
                  exact leaf HM Aq cq bx b0 (by first | exact List.Perm.refl _ | exact List.Perm.swap _ _ _) rfl
              · refine s_wr ?_ HM (Wr.litR law8 rfl lit0 rfl) (by kernel_rfl)
                clear HM HB
                intro w b0 HM HB
                refine hK.out _ _ (HB) (fun hS2 => ?_)
                clear hS hK
                have hS := hS2
                clear hS2
                try simp only [Act.put, List.setIfInBounds_toArray, List.set_cons_zero, List.set_cons_succ]
                refine rone 3 rfl fun K' hK => ?_
                go_simp
                refine (HGS.out _ HB).mono ?_
                rintro e w ⟨rfl, hb⟩
                replace HM := Lib.hid (HM.out.call hb)
                replace HB := HM.out.below
                clear hb
                refine hK.out _ _ (HB) (fun hS2 => ?_)
                clear hS hK
                have hS := hS2
                clear hS2
                try simp only [Act.put, List.setIfInBounds_toArray, List.set_cons_zero, List.set_cons_succ]
                refine tk 4 56 ?_
                refine rone 8 rfl fun K' hK => ?_
                go_simp
                refine (HGU.out _ HB).mono ?_
                rintro e w ⟨rfl, hb⟩
                replace HM := Lib.hid (HM.out.call hb)
                replace HB := HM.out.below
                clear hb
                refine hK.out _ _ (HB) (fun hS2 => ?_)
                clear hS hK
                have hS := hS2
                clear hS2
                try simp only [Act.put, List.setIfInBounds_toArray, List.set_cons_zero, List.set_cons_succ]
                refine tk 9 61 ?_
                refine rone 13 rfl fun K' hK => ?_
                go_simp
                refine (HGZ.out _ HB).mono ?_
                rintro e w ⟨rfl, hb⟩
                replace HM := Lib.hid (HM.out.call hb)
                replace HB := HM.out.below
                clear hb
                refine hK.out _ _ (HB) (fun hS2 => ?_)
                clear hS hK
                have hS := hS2
                clear hS2
                try simp only [Act.put, List.setIfInBounds_toArray, List.set_cons_zero, List.set_cons_succ]
                refine tk 14 66 ?_
                refine rone 21 rfl fun K' hK => ?_
                refine s_wx ?_ HM (Wx.app law8 rfl (by first | (go_simp; with_reducible rfl) | rfl) (by first | (go_simp; with_reducible rfl) | rfl) (by (first | ((repeat (first | with_reducible exact Del.head _ | with_reducible apply Del.tail)); done) | ((repeat (first | exact Del.head _ | apply Del.tail)); done))) (by intro w hm; first | with_reducible exact HR1.out.below hm.below | with_reducible exact HR2.out.below hm.below | exact hm.rw_ law8 (by (first | ((repeat (first | with_reducible exact List.Mem.head _ | with_reducible apply List.Mem.tail)); done) | ((repeat (first | exact List.Mem.head _ | apply List.Mem.tail)); done))) | exact HR1.out.below hm.below | exact HR2.out.below hm.below) (by first | exact HN1.out | exact HN2.out | exact HN3.out | exact HN4.out) (by first | exact HL1.out | exact HL2.out)) (by kernel_rfl)
                clear HM HB
                rintro w ⟨Aq, cq⟩ HM HB
                refine hK.out _ _ (HB) (fun hS2 => ?_)
                clear hS hK
                have hS := hS2
                clear hS2
                try simp only [Act.put, List.setIfInBounds_toArray, List.set_cons_zero, List.set_cons_succ]
                refine tkv 22 74 _ rfl (yields_build rfl #[(0, .int .u32 is), (1, .int .u32 iu), (2, .int .u32 iz), (3, .slice Aq sz cq)] rfl (build4 _ _ _ _ _ _) (by kernel_rfl)) ?_
                refine rone 24 rfl fun K' hK => ?_
                refine s_wr ?_ HM (Wr.whole rfl rfl rfl (by (first | ((repeat (first | with_reducible exact Upd.head _ | with_reducible apply Upd.tail)); done) | ((repeat (first | exact Upd.head _ | apply Upd.tail)); done))) (HC.out Aq cq)) (by kernel_rfl)
                clear HM HB
                intro w _ HM HB
                refine hK.out _ _ (HB) (fun hS2 => ?_)
                clear hS hK
                have hS := hS2
                clear hS2
                try simp only [Act.put, List.setIfInBounds_toArray, List.set_cons_zero, List.set_cons_succ]
                refine wpAnyH_done (by kernel_rfl) ?_ _
                clear hS
                exact leaf HM Aq cq bx b0 (by first | exact List.Perm.refl _ | exact List.Perm.swap _ _ _) rfl
          case k =>
            intro A1 c1 bx b0 w HM
            have HB := HM.out.below
            rcases HOR.out with ⟨hbd, h⟩ | ⟨hbd, h⟩
            · rw [h] at HRT
              have HPB := Lib.hid (HPR.out.bad HNE.out (by rw [hbd]; decide))
              rw [hbd] at HPB
              clear hbd h
              go_wp2_with (first | refine m_rd ?_ | (refine m_wr ?_; clear HM HB; intro w b HM HB; try clear b) | fail)
              refine (HRT.out _ _ _).mono ?_
              rintro e w ⟨rfl, hb⟩
              replace HM := Lib.hid (HM.out.call hb)
              replace HB := HM.out.below
              clear hb
              go_wp2_with fail
              go_ret2
              rw [HPB.out]
              exact ⟨[], none, 0, rfl, rfl, RW.nil _ _, fun p hp => absurd hp List.not_mem_nil, HB⟩
            · rw [h] at HRT
              have HST := Lib.hid (HPR.out.step HNE.out hbd)
              rw [HRR.out, HSZ.out] at HST
              clear hbd h
              obtain ⟨p, hpr, hpA, hpc⟩ : ∃ p : RV, p.r = r ∧ p.A = A1 ∧ p.c = c1 := ⟨⟨r, A1, c1⟩, rfl, rfl, rfl⟩
              subst hpr hpA hpc
              have hev := HEV.out p.A p.c
              rw [show (⟨p.r, p.A, p.c⟩ : RV) = p from rfl] at hev
              rw [hev] at HM
              have HEE := Lib.hid hev
              have HRT2 := HRT.out p.A p.c
              rw [hev] at HRT2
              have HRT3 := Lib.hid HRT2
              clear hev HRT2 HRT HEV HC HN1 HL1 HGN HGS HGU HGZ HR1
              have LT1 := Lib.hid (litD p)
              have HN1 : Hid (outs.length + [p].length = outs.length + 1) := Lib.hid rfl
              have HL1 : Hid ((outs.length + 1) * RD.bytes ≤ 140737488355328) := Lib.hid (by have := HOL.out; have := HKK.out; have := HLM.out; simp only [RD]; omega)
              go_wp2_with (first | refine m_rd ?_ | (refine m_wr ?_; clear HM HB; intro w b HM HB; try clear b) | fail)
              refine (HRT3.out _).mono ?_
              rintro e w ⟨rfl, hb⟩
              replace HM := Lib.hid (HM.out.call hb)
              replace HB := HM.out.below
              clear hb
              go_wp2_with (first | ((with_reducible apply m_wrh); (next => exact HM); (next => exact wanted_none rfl); ((with_reducible apply Wr.litR lawD); (next => exact rfl); (next => first | with_reducible exact LT1.out | with_reducible exact LT2.out | with_reducible exact LT3.out | exact LT1.out | exact LT2.out | exact LT3.out); (next => first | (go_simp; done) | exact rfl)); clear HM HB; intro w b HM HB; try clear b) | ((with_reducible apply m_wxh); (next => exact HM); (next => exact wanted_none rfl); ((with_reducible apply Wx.app lawD); (next => exact rfl); (next => first | (go_simp; with_reducible rfl) | exact rfl); (next => first | (go_simp; with_reducible rfl) | exact rfl); (next => (first | ((repeat (first | with_reducible exact Del.head _ | with_reducible apply Del.tail)); done) | ((repeat (first | exact Del.head _ | apply Del.tail)); done))); (next => intro w hm; first | with_reducible exact HR1.out.below hm.below | with_reducible exact HR2.out.below hm.below | exact hm.rw_ lawD (by (first | ((repeat (first | with_reducible exact List.Mem.head _ | with_reducible apply List.Mem.tail)); done) | ((repeat (first | exact List.Mem.head _ | apply List.Mem.tail)); done)))); (next => first | exact HN1.out | exact HN2.out | exact HN3.out | exact HN4.out); (next => first | exact HL1.out | exact HL2.out)); clear HM HB; rintro w ⟨Aq, cq⟩ HM HB) | refine m_rd ?_ | (refine m_wr ?_; clear HM HB; intro w b HM HB; try clear b) | fail)
              go_roundw
              case rel =>
                refine ⟨k + (16 + sz), outs ++ [p], Aq, cq, SF, c3, by rw [← List.drop_drop, HM2.out], ?_, by have := HQ.out; have := HLN.out; rw [List.length_drop] at this; omega, Lib.hid (by have := HOL.out; simp; omega), Lib.hid ?_, Lib.hid (by rw [← List.drop_drop, HM2.out]; exact HRF.out), Lib.hid ?_⟩
                · rw [List.length_append]; rfl
                · rw [List.map_append, ← List.drop_drop]; exact HST.out
                · have hm := (HM.out.pull (show Del (rowE R8 (.slice p.A sz p.c) p.r.d) _ _ by (first | ((repeat (first | with_reducible exact Del.head _ | with_reducible apply Del.tail)); done) | ((repeat (first | exact Del.head _ | apply Del.tail)); done)))).pull (show Del (rowE RD _ (outs ++ [p])) _ _ by (first | ((repeat (first | with_reducible exact Del.head _ | with_reducible apply Del.tail)); done) | ((repeat (first | exact Del.head _ | apply Del.tail)); done)))
                  have hm2 : Mem w0 w (rowE RD (.slice Aq (outs.length + 1) cq) (outs ++ [p]) :: rowE R8 (.slice p.A sz p.c) p.r.d :: dataE outs) := hm.sub (by ((repeat (first | exact List.Sublist.refl _ | apply List.Sublist.cons_cons | apply List.Sublist.cons)); done))
                  rw [← HDL.out] at hm2
                  rw [List.length_append]
                  refine hm2.perm (List.Perm.cons _ ?_)
                  unfold dataE
                  rw [List.map_append]
                  exact (List.perm_append_singleton _ _).symm
              case measure =>
                have e1 : ((l.drop k).drop (16 + sz)).length = (l.drop k).length - (16 + sz) := List.length_drop
                rw [HM2.out, HLN.out] at e1
                show m2 < m
                clear HST HEE
                omega

set_option maxHeartbeats 8000000 in
theorem refParse_good_false {A : Option Addr} {c : Nat} {l : List UInt8} (w0 : World) (hr : RB w0 (.slice A l.length c) l) (hl : l.length ≤ 1000000) (h24 : 24 ≤ l.length) (hm : l.take 4 = num false 4 2712847316) (hh : l.take 24 = headB false) :
    Calls Try.prog 48 #[.slice A l.length c] w0 (ParseOut RD w0 (parseB false (l.drop 24))) := by
  obtain ⟨t4, r4⟩ := to_rb hr 4 (by omega)
  obtain ⟨t24, r24⟩ := to_rb hr 24 (by omega)
  have h4 := t4 4 rfl
  have h5 := t24 24 rfl
  obtain ⟨A0, tf, rf⟩ := from_rb hr 24 h24
  have h6 := tf 24 rfl
  have HRF := Lib.hid rf
  have HS1 := Lib.hid (same_cut (b := false) (m := num true 4 2712847316) r4 (by rw [hm]; decide))
  have HS2 := Lib.hid (same_cut (b := true) (m := num false 4 2712847316) r4 (by rw [hm]; decide))
  have HS3 := Lib.hid (same_cut (b := true) r24 (decide_eq_true hh))
  have hl3 : decide ((l.length : Int) < 24) = false := decide_eq_false (by omega)
  have HLM := Lib.hid hl
  have H24 := Lib.hid h24
  have AL1 := Lib.hid zeroD
  clear hr h24 hm hh t4 r4 t24 r24 hl tf rf
  have HM := Lib.hid (Mem.start w0)
  have HB := HM.out.below
  go_enter Try.func48, Try.ntmps48
  go_wp2_with fail
  try simp only [Act.put, List.setIfInBounds_toArray, List.set_cons_zero, List.set_cons_succ]
  refine wp_region_held_drew (S := fun w' => Below w0.heap.size w0 w') (by kernel_rfl) (below_drew HB) (fun hS => ?_)
  replace HM := Lib.hid HM.out.drew
  replace HB := HM.out.below
  refine tk 0 11 ?_
  refine tk 1 12 ?_
  refine rone 2 rfl fun K' hK => ?_
  go_simp
  refine (mhead true HM).mono ?_
  rintro e w ⟨A1, c1, rfl, HM', hs1, hr1⟩
  replace HM := HM'
  replace HB := HM.out.below
  clear HM'
  have HR1 := Lib.hid hr1
  clear hr1
  refine hK.out _ _ (HB) (fun hS2 => ?_)
  clear hS hK
  have hS := hS2
  clear hS2
  try simp only [Act.put, List.setIfInBounds_toArray, List.set_cons_zero, List.set_cons_succ]
  refine tk 3 14 ?_
  refine rone 4 rfl fun K' hK => ?_
  go_simp
  refine (HS1.out _ _ HB (HR1.out _ (Below.refl _ _)).2).mono ?_
  rintro e w ⟨rfl, hb⟩
  replace HM := Lib.hid (HM.out.call hb)
  replace HB := HM.out.below
  clear hb
  refine hK.out _ _ (HB) (fun hS2 => ?_)
  clear hS hK
  have hS := hS2
  clear hS2
  try simp only [Act.put, List.setIfInBounds_toArray, List.set_cons_zero, List.set_cons_succ]
  clear hs1 HR1
  refine tk 5 4 ?_
  refine wpAnyH_done (by kernel_rfl) ?_ _
  clear hS
  go_wp2_with fail
  try simp only [Act.put, List.setIfInBounds_toArray, List.set_cons_zero, List.set_cons_succ]
  refine wp_region_held_drew (S := fun w' => Below w0.heap.size w0 w') (by kernel_rfl) (below_drew HB) (fun hS => ?_)
  replace HM := Lib.hid HM.out.drew
  replace HB := HM.out.below
  refine tk 0 16 ?_
  refine tk 1 17 ?_
  refine tk 2 18 ?_
  refine tk 3 19 ?_
  refine tk 4 20 ?_
  refine rone 5 rfl fun K' hK => ?_
  go_simp
  refine (mhead false HM).mono ?_
  rintro e w ⟨A1, c1, rfl, HM', hs1, hr1⟩
  replace HM := HM'
  replace HB := HM.out.below
  clear HM'
  have HR1 := Lib.hid hr1
  clear hr1
  refine hK.out _ _ (HB) (fun hS2 => ?_)
  clear hS hK
  have hS := hS2
  clear hS2
  try simp only [Act.put, List.setIfInBounds_toArray, List.set_cons_zero, List.set_cons_succ]
  refine tk 6 22 ?_
  refine rone 7 rfl fun K' hK => ?_
  go_simp
  refine (HS2.out _ _ HB (HR1.out _ (Below.refl _ _)).2).mono ?_
  rintro e w ⟨rfl, hb⟩
  replace HM := Lib.hid (HM.out.call hb)
  replace HB := HM.out.below
  clear hb
  refine hK.out _ _ (HB) (fun hS2 => ?_)
  clear hS hK
  have hS := hS2
  clear hS2
  try simp only [Act.put, List.setIfInBounds_toArray, List.set_cons_zero, List.set_cons_succ]
  clear hs1 HR1
  refine tk 8 24 ?_
  refine tk 9 25 ?_
  refine wpAnyH_done (by kernel_rfl) ?_ _
  clear hS
  go_wp2_with fail
  try simp only [Act.put, List.setIfInBounds_toArray, List.set_cons_zero, List.set_cons_succ]
  refine wp_region_held_drew (S := fun w' => Below w0.heap.size w0 w') (by kernel_rfl) (below_drew HB) (fun hS => ?_)
  replace HM := Lib.hid HM.out.drew
  replace HB := HM.out.below
  refine tk 0 26 ?_
  refine tk 1 27 ?_
  refine tk 2 28 ?_
  refine rone 3 rfl fun K' hK => ?_
  go_simp
  refine (mhead false HM).mono ?_
  rintro e w ⟨A1, c1, rfl, HM', hs1, hr1⟩
  replace HM := HM'
  replace HB := HM.out.below
  clear HM'
  have HR1 := Lib.hid hr1
  clear hr1
  refine hK.out _ _ (HB) (fun hS2 => ?_)
  clear hS hK
  have hS := hS2
  clear hS2
  try simp only [Act.put, List.setIfInBounds_toArray, List.set_cons_zero, List.set_cons_succ]
  refine rone 4 rfl fun K' hK => ?_
  go_simp
  refine (HS3.out _ _ HB (HR1.out _ (Below.refl _ _)).1).mono ?_
  rintro e w ⟨rfl, hb⟩
  replace HM := Lib.hid (HM.out.call hb)
  replace HB := HM.out.below
  clear hb
  refine hK.out _ _ (HB) (fun hS2 => ?_)
  clear hS hK
  have hS := hS2
  clear hS2
  try simp only [Act.put, List.setIfInBounds_toArray, List.set_cons_zero, List.set_cons_succ]
  clear hs1 HR1
  refine tk 5 31 ?_
  refine wpAnyH_done (by kernel_rfl) ?_ _
  clear hS
  go_wp2_with fail
  clear HS1 HS2 HS3 h4 h5 h6 hl3
  replace HM : HMem w0 w (rowE RD (.slice none 0 0) [] :: dataE []) := Lib.hid ((HM.out.nilR RD).sub (List.Sublist.cons_cons _ (List.nil_sublist _)))
  go_loopw [0, 5] (fun v0 v5 wr => ∃ k outs A' c' A2 c2, v0 = .slice A2 (l.drop k).length c2 ∧ v5 = .slice A' (outs.length : Nat) c' ∧ k ≤ l.length ∧ Hid (outs.length ≤ k) ∧ Hid (Par false (l.drop 24) (l.drop k) (outs.map (·.r))) ∧ Hid (RB w0 (.slice A2 (l.drop k).length c2) (l.drop k)) ∧ HMem w0 wr (rowE RD (.slice A' outs.length c') outs :: dataE outs)) (fun v0 _ _ => lenV v0)
  case atStart => exact ⟨24, [], none, 0, _, _, by rw [List.length_drop], rfl, H24.out, Lib.hid (by decide), Lib.hid (Par.start _ _), HRF, HM⟩
  case round =>
    clear HM HB HRF
    obtain ⟨k, outs, A', c', A2, c2, rfl, rfl, hk, HOL, HPR, HR, HM⟩ := hrel
    have HB := HM.out.below
    have HKK := Lib.hid hk
    obtain ⟨m, HLN⟩ : ∃ m, Hid ((l.drop k).length = m) := ⟨_, Lib.hid rfl⟩
    have hmm : m ≤ 1000000 := by rw [← HLN.out, List.length_drop]; have := HLM.out; omega
    rw [HLN.out] at HR ⊢
    clear hk
    by_cases h0 : m = 0
    · subst h0
      clear hmm
      go_wp2_with fail
      go_ret2
      have hd := HPR.out.done HLN.out
      rw [hd]
      exact ⟨outs, A', c', rfl, rfl, HM.out.rw_ lawD (List.Mem.head _), fun p hp => HM.out.rb (List.Mem.tail _ (dataE_mem hp)), HB⟩
    · have HNE : Hid ((l.drop k).length ≠ 0) := Lib.hid (by rw [HLN.out]; exact h0)
      have hp1 : decide (0 < m) = true := decide_eq_true (by omega)
      have hp0 : 0 < m := by omega
      clear h0
      by_cases h16 : m < 16
      · have hp2 : decide ((m : Int) < 16) = true := decide_eq_true (by omega)
        have hb3 : badN false (l.drop k) = 3 := by unfold badN; rw [HLN.out, if_pos h16]
        have HPB := Lib.hid (HPR.out.bad HNE.out (by rw [hb3]; decide))
        rw [hb3] at HPB
        clear h16 hmm hb3
        go_wp2_with fail
        go_ret2
        rw [HPB.out]
        exact ⟨[], none, 0, rfl, rfl, RW.nil _ _, fun p hp => absurd hp List.not_mem_nil, HB⟩
      · have hp2 : decide ((m : Int) < 16) = false := decide_eq_false (by omega)
        have hge : 16 ≤ m := by omega
        have hle : (l.drop k).length = m := HLN.out
        obtain ⟨S8, t8, r8⟩ := cut_rb HR.out 8 4 (by omega)
        obtain ⟨S0, t0, r0⟩ := cut_rb HR.out 0 4 (by omega)
        obtain ⟨S4, t4, r4⟩ := cut_rb HR.out 4 4 (by omega)
        obtain ⟨S12, t12, r12⟩ := cut_rb HR.out 12 4 (by omega)
        have c8 := t8 8 12 rfl rfl
        have c0 := t0 0 4 rfl rfl
        have c4 := t4 4 8 rfl rfl
        have c12 := t12 12 16 rfl rfl
        clear t8 t0 t4 t12
        have l4 : ∀ o : Nat, (((l.drop k).drop o).take 4).length ≤ 8 := fun o => by rw [List.length_take]; omega
        have HGN := Lib.hid (get_cut false ((sizeN false (l.drop k) : Nat) : Int) r8 (l4 8) rfl)
        have HGS := Lib.hid (get_cut false (((recN false (l.drop k)).s : Nat) : Int) r0 (l4 0) rfl)
        have HGU := Lib.hid (get_cut false (((recN false (l.drop k)).u : Nat) : Int) r4 (l4 4) rfl)
        have HGZ := Lib.hid (get_cut false (((recN false (l.drop k)).z : Nat) : Int) r12 (l4 12) rfl)
        clear r8 r0 r4 r12 l4
        have HCS := Lib.hid (cases_int (big := false) hle hge)
        have hsl := sizeN_lt false (l.drop k)
        have g4 : ((sizeN false (l.drop k) : Nat) : Int) < 4294967296 := by omega
        have g8 := Int.natCast_nonneg (sizeN false (l.drop k))
        obtain ⟨sz, hsz⟩ : ∃ sz, sizeN false (l.drop k) = sz := ⟨_, rfl⟩
        have HSZ := Lib.hid hsz
        rw [hsz] at HGN HCS g4 g8
        clear hsl hsz
        rcases HCS.out with ⟨hbd, h⟩ | ⟨hbd, h1, h⟩ | ⟨h1, h2, h⟩
        · have HPB := Lib.hid (HPR.out.bad HNE.out (by rw [hbd]; decide))
          rw [hbd] at HPB
          have d1 : decide ((65535 : Int) < (sz : Int)) = true := decide_eq_true h
          clear h hbd hmm hge hle HCS
          generalize (sz : Int) = isz at HGN g4 g8 d1
          go_wp2_with fail
          refine (HGN.out _ HB).mono ?_
          rintro e w ⟨rfl, hb⟩
          replace HM := Lib.hid (HM.out.call hb)
          replace HB := HM.out.below
          clear hb
          go_wp2_with fail
          go_ret2
          rw [HPB.out]
          exact ⟨[], none, 0, rfl, rfl, RW.nil _ _, fun p hp => absurd hp List.not_mem_nil, HB⟩
        · have HPB := Lib.hid (HPR.out.bad HNE.out (by rw [hbd]; decide))
          rw [hbd] at HPB
          have d1 : decide ((65535 : Int) < (sz : Int)) = false := decide_eq_false (by omega)
          have d2 : decide ((m : Int) - 16 < (sz : Int)) = true := decide_eq_true h
          clear h h1 hbd hge hle HCS
          generalize (sz : Int) = isz at HGN g4 g8 d1 d2
          go_wp2_with fail
          refine (HGN.out _ HB).mono ?_
          rintro e w ⟨rfl, hb⟩
          replace HM := Lib.hid (HM.out.call hb)
          replace HB := HM.out.below
          clear hb
          go_wp2_with fail
          go_ret2
          rw [HPB.out]
          exact ⟨[], none, 0, rfl, rfl, RW.nil _ _, fun p hp => absurd hp List.not_mem_nil, HB⟩
        · have HOR := Lib.hid h
          have HF := Lib.hid (recN_fits false (l.drop k))
          have HQ : Hid (sz ≤ m - 16) := Lib.hid (by omega)
          have HQ2 : Hid (sz ≤ 65535) := Lib.hid (by omega)
          have HDL : Hid ((recN false (l.drop k)).d.length = sz) := Lib.hid (by
            show (((l.drop k).drop 16).take (sizeN false (l.drop k))).length = _
            rw [HSZ.out, List.length_take, List.length_drop, hle]; omega)
          obtain ⟨S16, t16, r16⟩ := cut_rb HR.out 16 sz (by omega)
          have c16 := t16 16 (16 + (sz : Int)) rfl (by omega)
          have HR1 : Hid (RW R8 w0 (.slice S16 sz (c2 - 16)) (recN false (l.drop k)).d) := Lib.hid (by
            have := rw8.1 r16
            rw [← HSZ.out] at this ⊢
            exact this)
          obtain ⟨SF, tF, rF⟩ := from_rb HR.out (16 + sz) (by omega)
          obtain ⟨m2, HM2⟩ : ∃ m2, Hid (((l.drop k).drop (16 + sz)).length = m2) := ⟨_, Lib.hid rfl⟩
          have cF := tF (16 + (sz : Int)) (by omega)
          rw [HM2.out] at cF rF
          obtain ⟨c3, HC3⟩ : ∃ c3, Hid (c2 - (16 + sz) = c3) := ⟨_, Lib.hid rfl⟩
          rw [HC3.out] at cF rF
          have HRF := Lib.hid rF
          have HN1 : Hid (([] : List UInt8).length + (recN false (l.drop k)).d.length = sz) := Lib.hid (by rw [HDL.out]; simp)
          have HL1 : Hid (sz * R8.bytes ≤ 140737488355328) := Lib.hid (by have := HQ2.out; simp only [R8]; omega)
          have HRT : Hid (∀ (A : Option Addr) (c : Nat) (W : World), Calls Try.prog 43 #[.agg #[.int .u32 ((recN false (l.drop k)).s : Int), .int .u32 ((recN false (l.drop k)).u : Int), .int .u32 ((recN false (l.drop k)).z : Int), .slice A sz c]] W fun e w' => e = .returned (.bool (rightR (recN false (l.drop k)))) ∧ Below W.heap.size W w') := Lib.hid (fun A c W => by
            have := refRight_any ⟨recN false (l.drop k), A, c⟩ W HF.out (by rw [HDL.out]; have := HQ2.out; omega)
            unfold encV at this
            simp only [HDL.out] at this
            exact this)
          have f1 : ((recN false (l.drop k)).s : Int) < 4294967296 := by have := HF.out.1; omega
          have f2 : ((recN false (l.drop k)).u : Int) < 4294967296 := by have := HF.out.2.1; omega
          have f3 : ((recN false (l.drop k)).z : Int) < 4294967296 := by have := HF.out.2.2; omega
          have f4 := Int.natCast_nonneg (recN false (l.drop k)).s
          have f5 := Int.natCast_nonneg (recN false (l.drop k)).u
          have f6 := Int.natCast_nonneg (recN false (l.drop k)).z
          obtain ⟨r, HRR⟩ : ∃ r, Hid (recN false (l.drop k) = r) := ⟨_, Lib.hid rfl⟩
          rw [HRR.out] at HGS HGU HGZ HR1 HN1 HRT HDL HOR f1 f2 f3 f4 f5 f6
          have HEV : Hid (∀ A c, #[Value.int .u32 (r.s : Int), .int .u32 (r.u : Int), .int .u32 (r.z : Int), .slice A sz c] = encV ⟨r, A, c⟩) := Lib.hid (fun A c => by unfold encV; simp only [HDL.out])
          clear t16 r16 tF rF HF hle hge h
          have d1 : decide ((65535 : Int) < (sz : Int)) = false := decide_eq_false (by omega)
          have d2 : decide ((m : Int) - 16 < (sz : Int)) = false := decide_eq_false (by omega)
          have d3 : (sz : Int) ≤ 65535 := h1
          clear h1 h2 HCS
          generalize hsi : (sz : Int) = isz at HGN g4 g8 d1 d2 d3 c16 cF
          clear hsi
          generalize (r.s : Int) = is at HGS HRT f1 f4 HEV
          generalize (r.u : Int) = iu at HGU HRT f2 f5 HEV
          generalize (r.z : Int) = iz at HGZ HRT f3 f6 HEV
          have hw1 : IntKind.i64.wrap isz = isz := by rw [IntKind.wrap_i64]; omega
          have hw2 : IntKind.i64.wrap (16 + isz) = 16 + isz := by rw [IntKind.wrap_i64]; omega
          have hw3 : IntKind.u32.wrap is = is := by rw [IntKind.wrap_u32]; omega
          have hw4 : IntKind.u32.wrap iu = iu := by rw [IntKind.wrap_u32]; omega
          have hw5 : IntKind.u32.wrap iz = iz := by rw [IntKind.wrap_u32]; omega
          have HC : Hid (∀ (A : Option Addr) (c : Nat), Cells 75 #[.int .u32 is, .int .u32 iu, .int .u32 iz, .slice A sz c]) := Lib.hid (fun A c => ⟨by kernel_rfl, by simp [Value.oneCell']⟩)
          go_wp2_with fail
          refine (HGN.out _ HB).mono ?_
          rintro e w ⟨rfl, hb⟩
          replace HM := Lib.hid (HM.out.call hb)
          replace HB := HM.out.below
          clear hb
          go_wp2_with fail
          apply region_cut (w0 := w0) (fun (Aq : Option Addr) (cq bx b0 : Nat) => rowE R8 (.slice Aq sz cq) r.d :: .blk bx #[.int .u32 is, .int .u32 iu, .int .u32 iz, .slice Aq sz cq] 75 :: rowE RD (.slice A' outs.length c') outs :: dataE outs)
          case h =>
            try simp only [Act.put, List.setIfInBounds_toArray, List.set_cons_zero, List.set_cons_succ]
            refine wp_region_held_drew (S := fun w' => Below w0.heap.size w0 w') (by kernel_rfl) (below_drew HB) (fun hS => ?_)
            replace HM := Lib.hid HM.out.drew
            replace HB := HM.out.below
            refine tk 0 52 ?_
            refine tk 1 53 ?_
            refine tk 2 54 ?_
            refine tk 5 57 ?_
            refine tk 6 58 ?_
            refine tk 7 59 ?_
            refine tk 10 62 ?_
            refine tk 11 63 ?_
            refine tk 12 64 ?_
            refine tk 16 68 ?_
            refine tk 17 69 ?_
            refine tk 18 70 ?_
            refine tk 19 71 ?_
            refine tk 20 72 ?_
            refine wpAnyH_ready (rs := [3, 15, 23]) (by kernel_rfl) (by simp) (rmore 3 rfl (fun K' hK => ?_) (rmore 15 rfl (fun K' hK => ?_) (rmore 23 rfl (fun K' hK => ?_) AllReadyH.nil)))
            · go_simp
              refine (HGS.out _ HB).mono ?_
              rintro e w ⟨rfl, hb⟩
              replace HM := Lib.hid (HM.out.call hb)
              replace HB := HM.out.below
              clear hb
              refine hK.out _ _ (HB) (fun hS2 => ?_)
              clear hS hK
              have hS := hS2
              clear hS2
              try simp only [Act.put, List.setIfInBounds_toArray, List.set_cons_zero, List.set_cons_succ]
              refine tk 4 56 ?_
              refine wpAnyH_ready (rs := [8, 15, 23]) (by kernel_rfl) (by simp) (rmore 8 rfl (fun K' hK => ?_) (rmore 15 rfl (fun K' hK => ?_) (rmore 23 rfl (fun K' hK => ?_) AllReadyH.nil)))
              · go_simp
                refine (HGU.out _ HB).mono ?_
                rintro e w ⟨rfl, hb⟩
                replace HM := Lib.hid (HM.out.call hb)
                replace HB := HM.out.below
                clear hb
                refine hK.out _ _ (HB) (fun hS2 => ?_)
                clear hS hK
                have hS := hS2
                clear hS2
                try simp only [Act.put, List.setIfInBounds_toArray, List.set_cons_zero, List.set_cons_succ]
                refine tk 9 61 ?_
                refine wpAnyH_ready (rs := [13, 15, 23]) (by kernel_rfl) (by simp) (rmore 13 rfl (fun K' hK => ?_) (rmore 15 rfl (fun K' hK => ?_) (rmore 23 rfl (fun K' hK => ?_) AllReadyH.nil)))
                · go_simp
                  refine (HGZ.out _ HB).mono ?_
                  rintro e w ⟨rfl, hb⟩
                  replace HM := Lib.hid (HM.out.call hb)
                  replace HB := HM.out.below
                  clear hb
                  refine hK.out _ _ (HB) (fun hS2 => ?_)
                  clear hS hK
                  have hS := hS2
                  clear hS2
                  try simp only [Act.put, List.setIfInBounds_toArray, List.set_cons_zero, List.set_cons_succ]
                  refine tk 14 66 ?_
                  refine wpAnyH_ready (rs := [15, 23]) (by kernel_rfl) (by simp) (rmore 15 rfl (fun K' hK => ?_) (rmore 23 rfl (fun K' hK => ?_) AllReadyH.nil))
                  · refine s_wr ?_ HM (Wr.litR law8 rfl lit0 rfl) (by kernel_rfl)
                    clear HM HB
                    intro w b0 HM HB
                    refine hK.out _ _ (HB) (fun hS2 => ?_)
                    clear hS hK
                    have hS := hS2
                    clear hS2
                    try simp only [Act.put, List.setIfInBounds_toArray, List.set_cons_zero, List.set_cons_succ]
                    refine wpAnyH_ready (rs := [21, 23]) (by kernel_rfl) (by simp) (rmore 21 rfl (fun K' hK => ?_) (rmore 23 rfl (fun K' hK => ?_) AllReadyH.nil))
                    · refine s_wx ?_ HM (Wx.app law8 rfl (by first | (go_simp; with_reducible rfl) | rfl) (by first | (go_simp; with_reducible rfl) | rfl) (by (first | ((repeat (first | with_reducible exact Del.head _ | with_reducible apply Del.tail)); done) | ((repeat (first | exact Del.head _ | apply Del.tail)); done))) (by intro w hm; first | with_reducible exact HR1.out.below hm.below | with_reducible exact HR2.out.below hm.below | exact hm.rw_ law8 (by (first | ((repeat (first | with_reducible exact List.Mem.head _ | with_reducible apply List.Mem.tail)); done) | ((repeat (first | exact List.Mem.head _ | apply List.Mem.tail)); done))) | exact HR1.out.below hm.below | exact HR2.out.below hm.below) (by first | exact HN1.out | exact HN2.out | exact HN3.out | exact HN4.out) (by first | exact HL1.out | exact HL2.out)) (by kernel_rfl)
                      clear HM HB
                      rintro w ⟨Aq, cq⟩ HM HB
                      refine hK.out _ _ (HB) (fun hS2 => ?_)
                      clear hS hK
                      have hS := hS2
                      clear hS2
                      try simp only [Act.put, List.setIfInBounds_toArray, List.set_cons_zero, List.set_cons_succ]
                      refine tkv 22 74 _ rfl (yields_build rfl #[(0, .int .u32 is), (1, .int .u32 iu), (2, .int .u32 iz), (3, .slice Aq sz cq)] rfl (build4 _ _ _ _ _ _) (by kernel_rfl)) ?_
                      refine rone 23 rfl fun K' hK => ?_
                      refine s_wr ?_ HM (Wr.alloc rfl AL1.out.1 AL1.out.2) (by kernel_rfl)
                      clear HM HB
                      intro w bx HM HB
                      refine hK.out _ _ (HB) (fun hS2 => ?_)
                      clear hS hK
                      have hS := hS2
                      clear hS2
                      try simp only [Act.put, List.setIfInBounds_toArray, List.set_cons_zero, List.set_cons_succ]
                      refine rone 24 rfl fun K' hK => ?_
                      refine s_wr ?_ HM (Wr.whole rfl rfl rfl (by (first | ((repeat (first | with_reducible exact Upd.head _ | with_reducible apply Upd.tail)); done) | ((repeat (first | exact Upd.head _ | apply Upd.tail)); done))) (HC.out Aq cq)) (by kernel_rfl)
                      clear HM HB
                      intro w _ HM HB
                      refine hK.out _ _ (HB) (fun hS2 => ?_)
                      clear hS hK
                      have hS := hS2
                      clear hS2
                      try simp only [Act.put, List.setIfInBounds_toArray, List.set_cons_zero, List.set_cons_succ]
                      refine wpAnyH_done (by kernel_rfl) ?_ _
                      clear hS
                      exact leaf HM Aq cq bx b0 (by first | exact List.Perm.refl _ | exact List.Perm.swap _ _ _) rfl
                    · refine s_wr ?_ HM (Wr.alloc rfl AL1.out.1 AL1.out.2) (by kernel_rfl)
                      clear HM HB
                      intro w bx HM HB
                      refine hK.out _ _ (HB) (fun hS2 => ?_)
                      clear hS hK
                      have hS := hS2
                      clear hS2
                      try simp only [Act.put, List.setIfInBounds_toArray, List.set_cons_zero, List.set_cons_succ]
                      refine rone 21 rfl fun K' hK => ?_
                      refine s_wx ?_ HM (Wx.app law8 rfl (by first | (go_simp; with_reducible rfl) | rfl) (by first | (go_simp; with_reducible rfl) | rfl) (by (first | ((repeat (first | with_reducible exact Del.head _ | with_reducible apply Del.tail)); done) | ((repeat (first | exact Del.head _ | apply Del.tail)); done))) (by intro w hm; first | with_reducible exact HR1.out.below hm.below | with_reducible exact HR2.out.below hm.below | exact hm.rw_ law8 (by (first | ((repeat (first | with_reducible exact List.Mem.head _ | with_reducible apply List.Mem.tail)); done) | ((repeat (first | exact List.Mem.head _ | apply List.Mem.tail)); done))) | exact HR1.out.below hm.below | exact HR2.out.below hm.below) (by first | exact HN1.out | exact HN2.out | exact HN3.out | exact HN4.out) (by first | exact HL1.out | exact HL2.out)) (by kernel_rfl)
                      clear HM HB
                      rintro w ⟨Aq, cq⟩ HM HB
                      refine hK.out _ _ (HB) (fun hS2 => ?_)
                      clear hS hK
                      have hS := hS2
                      clear hS2
                      try simp only [Act.put, List.setIfInBounds_toArray, List.set_cons_zero, List.set_cons_succ]
                      refine tkv 22 74 _ rfl (yields_build rfl #[(0, .int .u32 is), (1, .int .u32 iu), (2, .int .u32 iz), (3, .slice Aq sz cq)] rfl (build4 _ _ _ _ _ _) (by kernel_rfl)) ?_
                      refine rone 24 rfl fun K' hK => ?_
                      refine s_wr ?_ HM (Wr.whole rfl rfl rfl (by (first | ((repeat (first | with_reducible exact Upd.head _ | with_reducible apply Upd.tail)); done) | ((repeat (first | exact Upd.head _ | apply Upd.tail)); done))) (HC.out Aq cq)) (by kernel_rfl)
                      clear HM HB
                      intro w _ HM HB
                      refine hK.out _ _ (HB) (fun hS2 => ?_)
                      clear hS hK
                      have hS := hS2
                      clear hS2
                      try simp only [Act.put, List.setIfInBounds_toArray, List.set_cons_zero, List.set_cons_succ]
                      refine wpAnyH_done (by kernel_rfl) ?_ _
                      clear hS
                      exact leaf HM Aq cq bx b0 (by first | exact List.Perm.refl _ | exact List.Perm.swap _ _ _) rfl
                  · refine s_wr ?_ HM (Wr.alloc rfl AL1.out.1 AL1.out.2) (by kernel_rfl)
                    clear HM HB
                    intro w bx HM HB
                    refine hK.out _ _ (HB) (fun hS2 => ?_)
                    clear hS hK
                    have hS := hS2
                    clear hS2
                    try simp only [Act.put, List.setIfInBounds_toArray, List.set_cons_zero, List.set_cons_succ]
                    refine rone 15 rfl fun K' hK => ?_
                    refine s_wr ?_ HM (Wr.litR law8 rfl lit0 rfl) (by kernel_rfl)
                    clear HM HB
                    intro w b0 HM HB
                    refine hK.out _ _ (HB) (fun hS2 => ?_)
                    clear hS hK
                    have hS := hS2
                    clear hS2
                    try simp only [Act.put, List.setIfInBounds_toArray, List.set_cons_zero, List.set_cons_succ]
                    refine rone 21 rfl fun K' hK => ?_
                    refine s_wx ?_ HM (Wx.app law8 rfl (by first | (go_simp; with_reducible rfl) | rfl) (by first | (go_simp; with_reducible rfl) | rfl) (by (first | ((repeat (first | with_reducible exact Del.head _ | with_reducible apply Del.tail)); done) | ((repeat (first | exact Del.head _ | apply Del.tail)); done))) (by intro w hm; first | with_reducible exact HR1.out.below hm.below | with_reducible exact HR2.out.below hm.below | exact hm.rw_ law8 (by (first | ((repeat (first | with_reducible exact List.Mem.head _ | with_reducible apply List.Mem.tail)); done) | ((repeat (first | exact List.Mem.head _ | apply List.Mem.tail)); done))) | exact HR1.out.below hm.below | exact HR2.out.below hm.below) (by first | exact HN1.out | exact HN2.out | exact HN3.out | exact HN4.out) (by first | exact HL1.out | exact HL2.out)) (by kernel_rfl)
                    clear HM HB
                    rintro w ⟨Aq, cq⟩ HM HB
                    refine hK.out _ _ (HB) (fun hS2 => ?_)
                    clear hS hK
                    have hS := hS2
                    clear hS2
                    try simp only [Act.put, List.setIfInBounds_toArray, List.set_cons_zero, List.set_cons_succ]
                    refine tkv 22 74 _ rfl (yields_build rfl #[(0, .int .u32 is), (1, .int .u32 iu), (2, .int .u32 iz), (3, .slice Aq sz cq)] rfl (build4 _ _ _ _ _ _) (by kernel_rfl)) ?_
                    refine rone 24 rfl fun K' hK => ?_
                    refine s_wr ?_ HM (Wr.whole rfl rfl rfl (by (first | ((repeat (first | with_reducible exact Upd.head _ | with_reducible apply Upd.tail)); done) | ((repeat (first | exact Upd.head _ | apply Upd.tail)); done))) (HC.out Aq cq)) (by kernel_rfl)
                    clear HM HB
                    intro w _ HM HB
                    refine hK.out _ _ (HB) (fun hS2 => ?_)
                    clear hS hK
                    have hS := hS2
                    clear hS2
                    try simp only [Act.put, List.setIfInBounds_toArray, List.set_cons_zero, List.set_cons_succ]
                    refine wpAnyH_done (by kernel_rfl) ?_ _
                    clear hS
                    exact leaf HM Aq cq bx b0 (by first | exact List.Perm.refl _ | exact List.Perm.swap _ _ _) rfl
                · refine s_wr ?_ HM (Wr.litR law8 rfl lit0 rfl) (by kernel_rfl)
                  clear HM HB
                  intro w b0 HM HB
                  refine hK.out _ _ (HB) (fun hS2 => ?_)
                  clear hS hK
                  have hS := hS2
                  clear hS2
                  try simp only [Act.put, List.setIfInBounds_toArray, List.set_cons_zero, List.set_cons_succ]
                  refine wpAnyH_ready (rs := [13, 23]) (by kernel_rfl) (by simp) (rmore 13 rfl (fun K' hK => ?_) (rmore 23 rfl (fun K' hK => ?_) AllReadyH.nil))
                  · go_simp
                    refine (HGZ.out _ HB).mono ?_
                    rintro e w ⟨rfl, hb⟩
                    replace HM := Lib.hid (HM.out.call hb)
                    replace HB := HM.out.below
                    clear hb
                    refine hK.out _ _ (HB) (fun hS2 => ?_)
                    clear hS hK
                    have hS := hS2
                    clear hS2
                    try simp only [Act.put, List.setIfInBounds_toArray, List.set_cons_zero, List.set_cons_succ]
                    refine tk 14 66 ?_
                    refine wpAnyH_ready (rs := [21, 23]) (by kernel_rfl) (by simp) (rmore 21 rfl (fun K' hK => ?_) (rmore 23 rfl (fun K' hK => ?_) AllReadyH.nil))
                    · refine s_wx ?_ HM (Wx.app law8 rfl (by first | (go_simp; with_reducible rfl) | rfl) (by first | (go_simp; with_reducible rfl) | rfl) (by (first | ((repeat (first | with_reducible exact Del.head _ | with_reducible apply Del.tail)); done) | ((repeat (first | exact Del.head _ | apply Del.tail)); done))) (by intro w hm; first | with_reducible exact HR1.out.below hm.below | with_reducible exact HR2.out.below hm.below | exact hm.rw_ law8 (by (first | ((repeat (first | with_reducible exact List.Mem.head _ | with_reducible apply List.Mem.tail)); done) | ((repeat (first | exact List.Mem.head _ | apply List.Mem.tail)); done))) | exact HR1.out.below hm.below | exact HR2.out.below hm.below) (by first | exact HN1.out | exact HN2.out | exact HN3.out | exact HN4.out) (by first | exact HL1.out | exact HL2.out)) (by kernel_rfl)
                      clear HM HB
                      rintro w ⟨Aq, cq⟩ HM HB
                      refine hK.out _ _ (HB) (fun hS2 => ?_)
                      clear hS hK
                      have hS := hS2
                      clear hS2
                      try simp only [Act.put, List.setIfInBounds_toArray, List.set_cons_zero, List.set_cons_succ]
                      refine tkv 22 74 _ rfl (yields_build rfl #[(0, .int .u32 is), (1, .int .u32 iu), (2, .int .u32 iz), (3, .slice Aq sz cq)] rfl (build4 _ _ _ _ _ _) (by kernel_rfl)) ?_
                      refine rone 23 rfl fun K' hK => ?_
                      refine s_wr ?_ HM (Wr.alloc rfl AL1.out.1 AL1.out.2) (by kernel_rfl)
                      clear HM HB
                      intro w bx HM HB
                      refine hK.out _ _ (HB) (fun hS2 => ?_)
                      clear hS hK
                      have hS := hS2
                      clear hS2
                      try simp only [Act.put, List.setIfInBounds_toArray, List.set_cons_zero, List.set_cons_succ]
                      refine rone 24 rfl fun K' hK => ?_
                      refine s_wr ?_ HM (Wr.whole rfl rfl rfl (by (first | ((repeat (first | with_reducible exact Upd.head _ | with_reducible apply Upd.tail)); done) | ((repeat (first | exact Upd.head _ | apply Upd.tail)); done))) (HC.out Aq cq)) (by kernel_rfl)
                      clear HM HB
                      intro w _ HM HB
                      refine hK.out _ _ (HB) (fun hS2 => ?_)
                      clear hS hK
                      have hS := hS2
                      clear hS2
                      try simp only [Act.put, List.setIfInBounds_toArray, List.set_cons_zero, List.set_cons_succ]
                      refine wpAnyH_done (by kernel_rfl) ?_ _
                      clear hS
                      exact leaf HM Aq cq bx b0 (by first | exact List.Perm.refl _ | exact List.Perm.swap _ _ _) rfl
                    · refine s_wr ?_ HM (Wr.alloc rfl AL1.out.1 AL1.out.2) (by kernel_rfl)
                      clear HM HB
                      intro w bx HM HB
                      refine hK.out _ _ (HB) (fun hS2 => ?_)
                      clear hS hK
                      have hS := hS2
                      clear hS2
                      try simp only [Act.put, List.setIfInBounds_toArray, List.set_cons_zero, List.set_cons_succ]
                      refine rone 21 rfl fun K' hK => ?_
                      refine s_wx ?_ HM (Wx.app law8 rfl (by first | (go_simp; with_reducible rfl) | rfl) (by first | (go_simp; with_reducible rfl) | rfl) (by (first | ((repeat (first | with_reducible exact Del.head _ | with_reducible apply Del.tail)); done) | ((repeat (first | exact Del.head _ | apply Del.tail)); done))) (by intro w hm; first | with_reducible exact HR1.out.below hm.below | with_reducible exact HR2.out.below hm.below | exact hm.rw_ law8 (by (first | ((repeat (first | with_reducible exact List.Mem.head _ | with_reducible apply List.Mem.tail)); done) | ((repeat (first | exact List.Mem.head _ | apply List.Mem.tail)); done))) | exact HR1.out.below hm.below | exact HR2.out.below hm.below) (by first | exact HN1.out | exact HN2.out | exact HN3.out | exact HN4.out) (by first | exact HL1.out | exact HL2.out)) (by kernel_rfl)
                      clear HM HB
                      rintro w ⟨Aq, cq⟩ HM HB
                      refine hK.out _ _ (HB) (fun hS2 => ?_)
                      clear hS hK
                      have hS := hS2
                      clear hS2
                      try simp only [Act.put, List.setIfInBounds_toArray, List.set_cons_zero, List.set_cons_succ]
                      refine tkv 22 74 _ rfl (yields_build rfl #[(0, .int .u32 is), (1, .int .u32 iu), (2, .int .u32 iz), (3, .slice Aq sz cq)] rfl (build4 _ _ _ _ _ _) (by kernel_rfl)) ?_
                      refine rone 24 rfl fun K' hK => ?_
                      refine s_wr ?_ HM (Wr.whole rfl rfl rfl (by (first | ((repeat (first | with_reducible exact Upd.head _ | with_reducible apply Upd.tail)); done) | ((repeat (first | exact Upd.head _ | apply Upd.tail)); done))) (HC.out Aq cq)) (by kernel_rfl)
                      clear HM HB
                      intro w _ HM HB
                      refine hK.out _ _ (HB) (fun hS2 => ?_)
                      clear hS hK
                      have hS := hS2
                      clear hS2
                      try simp only [Act.put, List.setIfInBounds_toArray, List.set_cons_zero, List.set_cons_succ]
                      refine wpAnyH_done (by kernel_rfl) ?_ _
                      clear hS
                      exact leaf HM Aq cq bx b0 (by first | exact List.Perm.refl _ | exact List.Perm.swap _ _ _) rfl
                  · refine s_wr ?_ HM (Wr.alloc rfl AL1.out.1 AL1.out.2) (by kernel_rfl)
                    clear HM HB
                    intro w bx HM HB
                    refine hK.out _ _ (HB) (fun hS2 => ?_)
                    clear hS hK
                    have hS := hS2
                    clear hS2
                    try simp only [Act.put, List.setIfInBounds_toArray, List.set_cons_zero, List.set_cons_succ]
                    refine rone 13 rfl fun K' hK => ?_
                    go_simp
                    refine (HGZ.out _ HB).mono ?_
                    rintro e w ⟨rfl, hb⟩
                    replace HM := Lib.hid (HM.out.call hb)
                    replace HB := HM.out.below
                    clear hb
                    refine hK.out _ _ (HB) (fun hS2 => ?_)
                    clear hS hK
                    have hS := hS2
                    clear hS2
                    try simp only [Act.put, List.setIfInBounds_toArray, List.set_cons_zero, List.set_cons_succ]
                    refine tk 14 66 ?_
                    refine rone 21 rfl fun K' hK => ?_
                    refine s_wx ?_ HM (Wx.app law8 rfl (by first | (go_simp; with_reducible rfl) | rfl) (by first | (go_simp; with_reducible rfl) | rfl) (by (first | ((repeat (first | with_reducible exact Del.head _ | with_reducible apply Del.tail)); done) | ((repeat (first | exact Del.head _ | apply Del.tail)); done))) (by intro w hm; first | with_reducible exact HR1.out.below hm.below | with_reducible exact HR2.out.below hm.below | exact hm.rw_ law8 (by (first | ((repeat (first | with_reducible exact List.Mem.head _ | with_reducible apply List.Mem.tail)); done) | ((repeat (first | exact List.Mem.head _ | apply List.Mem.tail)); done))) | exact HR1.out.below hm.below | exact HR2.out.below hm.below) (by first | exact HN1.out | exact HN2.out | exact HN3.out | exact HN4.out) (by first | exact HL1.out | exact HL2.out)) (by kernel_rfl)
                    clear HM HB
                    rintro w ⟨Aq, cq⟩ HM HB
                    refine hK.out _ _ (HB) (fun hS2 => ?_)
                    clear hS hK
                    have hS := hS2
                    clear hS2
                    try simp only [Act.put, List.setIfInBounds_toArray, List.set_cons_zero, List.set_cons_succ]
                    refine tkv 22 74 _ rfl (yields_build rfl #[(0, .int .u32 is), (1, .int .u32 iu), (2, .int .u32 iz), (3, .slice Aq sz cq)] rfl (build4 _ _ _ _ _ _) (by kernel_rfl)) ?_
                    refine rone 24 rfl fun K' hK => ?_
                    refine s_wr ?_ HM (Wr.whole rfl rfl rfl (by (first | ((repeat (first | with_reducible exact Upd.head _ | with_reducible apply Upd.tail)); done) | ((repeat (first | exact Upd.head _ | apply Upd.tail)); done))) (HC.out Aq cq)) (by kernel_rfl)
                    clear HM HB
                    intro w _ HM HB
                    refine hK.out _ _ (HB) (fun hS2 => ?_)
                    clear hS hK
                    have hS := hS2
                    clear hS2
                    try simp only [Act.put, List.setIfInBounds_toArray, List.set_cons_zero, List.set_cons_succ]
                    refine wpAnyH_done (by kernel_rfl) ?_ _
                    clear hS
                    exact leaf HM Aq cq bx b0 (by first | exact List.Perm.refl _ | exact List.Perm.swap _ _ _) rfl
                · refine s_wr ?_ HM (Wr.alloc rfl AL1.out.1 AL1.out.2) (by kernel_rfl)
                  clear HM HB
                  intro w bx HM HB
                  refine hK.out _ _ (HB) (fun hS2 => ?_)
                  clear hS hK
                  have hS := hS2
                  clear hS2
                  try simp only [Act.put, List.setIfInBounds_toArray, List.set_cons_zero, List.set_cons_succ]
                  refine wpAnyH_ready (rs := [13, 15]) (by kernel_rfl) (by simp) (rmore 13 rfl (fun K' hK => ?_) (rmore 15 rfl (fun K' hK => ?_) AllReadyH.nil))
                  · go_simp
                    refine (HGZ.out _ HB).mono ?_
                    rintro e w ⟨rfl, hb⟩
                    replace HM := Lib.hid (HM.out.call hb)
                    replace HB := HM.out.below
                    clear hb
                    refine hK.out _ _ (HB) (fun hS2 => ?_)
                    clear hS hK
                    have hS := hS2
                    clear hS2
                    try simp only [Act.put, List.setIfInBounds_toArray, List.set_cons_zero, List.set_cons_succ]
                    refine tk 14 66 ?_
                    refine rone 15 rfl fun K' hK => ?_
                    refine s_wr ?_ HM (Wr.litR law8 rfl lit0 rfl) (by kernel_rfl)
                    clear HM HB
                    intro w b0 HM HB
                    refine hK.out _ _ (HB) (fun hS2 => ?_)
                    clear hS hK
                    have hS := hS2
                    clear hS2
                    try simp only [Act.put, List.setIfInBounds_toArray, List.set_cons_zero, List.set_cons_succ]
                    refine rone 21 rfl fun K' hK => ?_
                    refine s_wx ?_ HM (Wx.app law8 rfl (by first | (go_simp; with_reducible rfl) | rfl) (by first | (go_simp; with_reducible rfl) | rfl) (by (first | ((repeat (first | with_reducible exact Del.head _ | with_reducible apply Del.tail)); done) | ((repeat (first | exact Del.head _ | apply Del.tail)); done))) (by intro w hm; first | with_reducible exact HR1.out.below hm.below | with_reducible exact HR2.out.below hm.below | exact hm.rw_ law8 (by (first | ((repeat (first | with_reducible exact List.Mem.head _ | with_reducible apply List.Mem.tail)); done) | ((repeat (first | exact List.Mem.head _ | apply List.Mem.tail)); done))) | exact HR1.out.below hm.below | exact HR2.out.below hm.below) (by first | exact HN1.out | exact HN2.out | exact HN3.out | exact HN4.out) (by first | exact HL1.out | exact HL2.out)) (by kernel_rfl)
                    clear HM HB
                    rintro w ⟨Aq, cq⟩ HM HB
                    refine hK.out _ _ (HB) (fun hS2 => ?_)
                    clear hS hK
                    have hS := hS2
                    clear hS2
                    try simp only [Act.put, List.setIfInBounds_toArray, List.set_cons_zero, List.set_cons_succ]
                    refine tkv 22 74 _ rfl (yields_build rfl #[(0, .int .u32 is), (1, .int .u32 iu), (2, .int .u32 iz), (3, .slice Aq sz cq)] rfl (build4 _ _ _ _ _ _) (by kernel_rfl)) ?_
                    refine rone 24 rfl fun K' hK => ?_
                    refine s_wr ?_ HM (Wr.whole rfl rfl rfl (by (first | ((repeat (first | with_reducible exact Upd.head _ | with_reducible apply Upd.tail)); done) | ((repeat (first | exact Upd.head _ | apply Upd.tail)); done))) (HC.out Aq cq)) (by kernel_rfl)
                    clear HM HB
                    intro w _ HM HB
                    refine hK.out _ _ (HB) (fun hS2 => ?_)
                    clear hS hK
                    have hS := hS2
                    clear hS2
                    try simp only [Act.put, List.setIfInBounds_toArray, List.set_cons_zero, List.set_cons_succ]
                    refine wpAnyH_done (by kernel_rfl) ?_ _
                    clear hS
                    exact leaf HM Aq cq bx b0 (by first | exact List.Perm.refl _ | exact List.Perm.swap _ _ _) rfl
                  · refine s_wr ?_ HM (Wr.litR law8 rfl lit0 rfl) (by kernel_rfl)
                    clear HM HB
                    intro w b0 HM HB
                    refine hK.out _ _ (HB) (fun hS2 => ?_)
                    clear hS hK
                    have hS := hS2
                    clear hS2
                    try simp only [Act.put, List.setIfInBounds_toArray, List.set_cons_zero, List.set_cons_succ]
                    refine rone 13 rfl fun K' hK => ?_
                    go_simp
                    refine (HGZ.out _ HB).mono ?_
                    rintro e w ⟨rfl, hb⟩
                    replace HM := Lib.hid (HM.out.call hb)
                    replace HB := HM.out.below
                    clear hb
                    refine hK.out _ _ (HB) (fun hS2 => ?_)
                    clear hS hK
                    have hS := hS2
                    clear hS2
                    try simp only [Act.put, List.setIfInBounds_toArray, List.set_cons_zero, List.set_cons_succ]
                    refine tk 14 66 ?_
                    refine rone 21 rfl fun K' hK => ?_
                    refine s_wx ?_ HM (Wx.app law8 rfl (by first | (go_simp; with_reducible rfl) | rfl) (by first | (go_simp; with_reducible rfl) | rfl) (by (first | ((repeat (first | with_reducible exact Del.head _ | with_reducible apply Del.tail)); done) | ((repeat (first | exact Del.head _ | apply Del.tail)); done))) (by intro w hm; first | with_reducible exact HR1.out.below hm.below | with_reducible exact HR2.out.below hm.below | exact hm.rw_ law8 (by (first | ((repeat (first | with_reducible exact List.Mem.head _ | with_reducible apply List.Mem.tail)); done) | ((repeat (first | exact List.Mem.head _ | apply List.Mem.tail)); done))) | exact HR1.out.below hm.below | exact HR2.out.below hm.below) (by first | exact HN1.out | exact HN2.out | exact HN3.out | exact HN4.out) (by first | exact HL1.out | exact HL2.out)) (by kernel_rfl)
                    clear HM HB
                    rintro w ⟨Aq, cq⟩ HM HB
                    refine hK.out _ _ (HB) (fun hS2 => ?_)
                    clear hS hK
                    have hS := hS2
                    clear hS2
                    try simp only [Act.put, List.setIfInBounds_toArray, List.set_cons_zero, List.set_cons_succ]
                    refine tkv 22 74 _ rfl (yields_build rfl #[(0, .int .u32 is), (1, .int .u32 iu), (2, .int .u32 iz), (3, .slice Aq sz cq)] rfl (build4 _ _ _ _ _ _) (by kernel_rfl)) ?_
                    refine rone 24 rfl fun K' hK => ?_
                    refine s_wr ?_ HM (Wr.whole rfl rfl rfl (by (first | ((repeat (first | with_reducible exact Upd.head _ | with_reducible apply Upd.tail)); done) | ((repeat (first | exact Upd.head _ | apply Upd.tail)); done))) (HC.out Aq cq)) (by kernel_rfl)
                    clear HM HB
                    intro w _ HM HB
                    refine hK.out _ _ (HB) (fun hS2 => ?_)
                    clear hS hK
                    have hS := hS2
                    clear hS2
                    try simp only [Act.put, List.setIfInBounds_toArray, List.set_cons_zero, List.set_cons_succ]
                    refine wpAnyH_done (by kernel_rfl) ?_ _
                    clear hS
                    exact leaf HM Aq cq bx b0 (by first | exact List.Perm.refl _ | exact List.Perm.swap _ _ _) rfl
              · refine s_wr ?_ HM (Wr.litR law8 rfl lit0 rfl) (by kernel_rfl)
                clear HM HB
                intro w b0 HM HB
                refine hK.out _ _ (HB) (fun hS2 => ?_)
                clear hS hK
                have hS := hS2
                clear hS2
                try simp only [Act.put, List.setIfInBounds_toArray, List.set_cons_zero, List.set_cons_succ]
                refine wpAnyH_ready (rs := [8, 23]) (by kernel_rfl) (by simp) (rmore 8 rfl (fun K' hK => ?_) (rmore 23 rfl (fun K' hK => ?_) AllReadyH.nil))
                · go_simp
                  refine (HGU.out _ HB).mono ?_
                  rintro e w ⟨rfl, hb⟩
                  replace HM := Lib.hid (HM.out.call hb)
                  replace HB := HM.out.below
                  clear hb
                  refine hK.out _ _ (HB) (fun hS2 => ?_)
                  clear hS hK
                  have hS := hS2
                  clear hS2
                  try simp only [Act.put, List.setIfInBounds_toArray, List.set_cons_zero, List.set_cons_succ]
                  refine tk 9 61 ?_
                  refine wpAnyH_ready (rs := [13, 23]) (by kernel_rfl) (by simp) (rmore 13 rfl (fun K' hK => ?_) (rmore 23 rfl (fun K' hK => ?_) AllReadyH.nil))
                  · go_simp
                    refine (HGZ.out _ HB).mono ?_
                    rintro e w ⟨rfl, hb⟩
                    replace HM := Lib.hid (HM.out.call hb)
                    replace HB := HM.out.below
                    clear hb
                    refine hK.out _ _ (HB) (fun hS2 => ?_)
                    clear hS hK
                    have hS := hS2
                    clear hS2
                    try simp only [Act.put, List.setIfInBounds_toArray, List.set_cons_zero, List.set_cons_succ]
                    refine tk 14 66 ?_
                    refine wpAnyH_ready (rs := [21, 23]) (by kernel_rfl) (by simp) (rmore 21 rfl (fun K' hK => ?_) (rmore 23 rfl (fun K' hK => ?_) AllReadyH.nil))
                    · refine s_wx ?_ HM (Wx.app law8 rfl (by first | (go_simp; with_reducible rfl) | rfl) (by first | (go_simp; with_reducible rfl) | rfl) (by (first | ((repeat (first | with_reducible exact Del.head _ | with_reducible apply Del.tail)); done) | ((repeat (first | exact Del.head _ | apply Del.tail)); done))) (by intro w hm; first | with_reducible exact HR1.out.below hm.below | with_reducible exact HR2.out.below hm.below | exact hm.rw_ law8 (by (first | ((repeat (first | with_reducible exact List.Mem.head _ | with_reducible apply List.Mem.tail)); done) | ((repeat (first | exact List.Mem.head _ | apply List.Mem.tail)); done))) | exact HR1.out.below hm.below | exact HR2.out.below hm.below) (by first | exact HN1.out | exact HN2.out | exact HN3.out | exact HN4.out) (by first | exact HL1.out | exact HL2.out)) (by kernel_rfl)
                      clear HM HB
                      rintro w ⟨Aq, cq⟩ HM HB
                      refine hK.out _ _ (HB) (fun hS2 => ?_)
                      clear hS hK
                      have hS := hS2
                      clear hS2
                      try simp only [Act.put, List.setIfInBounds_toArray, List.set_cons_zero, List.set_cons_succ]
                      refine tkv 22 74 _ rfl (yields_build rfl #[(0, .int .u32 is), (1, .int .u32 iu), (2, .int .u32 iz), (3, .slice Aq sz cq)] rfl (build4 _ _ _ _ _ _) (by kernel_rfl)) ?_
                      refine rone 23 rfl fun K' hK => ?_
                      refine s_wr ?_ HM (Wr.alloc rfl AL1.out.1 AL1.out.2) (by kernel_rfl)
                      clear HM HB
                      intro w bx HM HB
                      refine hK.out _ _ (HB) (fun hS2 => ?_)
                      clear hS hK
                      have hS := hS2
                      clear hS2
                      try simp only [Act.put, List.setIfInBounds_toArray, List.set_cons_zero, List.set_cons_succ]
                      refine rone 24 rfl fun K' hK => ?_
                      refine s_wr ?_ HM (Wr.whole rfl rfl rfl (by (first | ((repeat (first | with_reducible exact Upd.head _ | with_reducible apply Upd.tail)); done) | ((repeat (first | exact Upd.head _ | apply Upd.tail)); done))) (HC.out Aq cq)) (by kernel_rfl)
                      clear HM HB
                      intro w _ HM HB
                      refine hK.out _ _ (HB) (fun hS2 => ?_)
                      clear hS hK
                      have hS := hS2
                      clear hS2
                      try simp only [Act.put, List.setIfInBounds_toArray, List.set_cons_zero, List.set_cons_succ]
                      refine wpAnyH_done (by kernel_rfl) ?_ _
                      clear hS
                      exact leaf HM Aq cq bx b0 (by first | exact List.Perm.refl _ | exact List.Perm.swap _ _ _) rfl
                    · refine s_wr ?_ HM (Wr.alloc rfl AL1.out.1 AL1.out.2) (by kernel_rfl)
                      clear HM HB
                      intro w bx HM HB
                      refine hK.out _ _ (HB) (fun hS2 => ?_)
                      clear hS hK
                      have hS := hS2
                      clear hS2
                      try simp only [Act.put, List.setIfInBounds_toArray, List.set_cons_zero, List.set_cons_succ]
                      refine rone 21 rfl fun K' hK => ?_
                      refine s_wx ?_ HM (Wx.app law8 rfl (by first | (go_simp; with_reducible rfl) | rfl) (by first | (go_simp; with_reducible rfl) | rfl) (by (first | ((repeat (first | with_reducible exact Del.head _ | with_reducible apply Del.tail)); done) | ((repeat (first | exact Del.head _ | apply Del.tail)); done))) (by intro w hm; first | with_reducible exact HR1.out.below hm.below | with_reducible exact HR2.out.below hm.below | exact hm.rw_ law8 (by (first | ((repeat (first | with_reducible exact List.Mem.head _ | with_reducible apply List.Mem.tail)); done) | ((repeat (first | exact List.Mem.head _ | apply List.Mem.tail)); done))) | exact HR1.out.below hm.below | exact HR2.out.below hm.below) (by first | exact HN1.out | exact HN2.out | exact HN3.out | exact HN4.out) (by first | exact HL1.out | exact HL2.out)) (by kernel_rfl)
                      clear HM HB
                      rintro w ⟨Aq, cq⟩ HM HB
                      refine hK.out _ _ (HB) (fun hS2 => ?_)
                      clear hS hK
                      have hS := hS2
                      clear hS2
                      try simp only [Act.put, List.setIfInBounds_toArray, List.set_cons_zero, List.set_cons_succ]
                      refine tkv 22 74 _ rfl (yields_build rfl #[(0, .int .u32 is), (1, .int .u32 iu), (2, .int .u32 iz), (3, .slice Aq sz cq)] rfl (build4 _ _ _ _ _ _) (by kernel_rfl)) ?_
                      refine rone 24 rfl fun K' hK => ?_
                      refine s_wr ?_ HM (Wr.whole rfl rfl rfl (by (first | ((repeat (first | with_reducible exact Upd.head _ | with_reducible apply Upd.tail)); done) | ((repeat (first | exact Upd.head _ | apply Upd.tail)); done))) (HC.out Aq cq)) (by kernel_rfl)
                      clear HM HB
                      intro w _ HM HB
                      refine hK.out _ _ (HB) (fun hS2 => ?_)
                      clear hS hK
                      have hS := hS2
                      clear hS2
                      try simp only [Act.put, List.setIfInBounds_toArray, List.set_cons_zero, List.set_cons_succ]
                      refine wpAnyH_done (by kernel_rfl) ?_ _
                      clear hS
                      exact leaf HM Aq cq bx b0 (by first | exact List.Perm.refl _ | exact List.Perm.swap _ _ _) rfl
                  · refine s_wr ?_ HM (Wr.alloc rfl AL1.out.1 AL1.out.2) (by kernel_rfl)
                    clear HM HB
                    intro w bx HM HB
                    refine hK.out _ _ (HB) (fun hS2 => ?_)
                    clear hS hK
                    have hS := hS2
                    clear hS2
                    try simp only [Act.put, List.setIfInBounds_toArray, List.set_cons_zero, List.set_cons_succ]
                    refine rone 13 rfl fun K' hK => ?_
                    go_simp
                    refine (HGZ.out _ HB).mono ?_
                    rintro e w ⟨rfl, hb⟩
                    replace HM := Lib.hid (HM.out.call hb)
                    replace HB := HM.out.below
                    clear hb
                    refine hK.out _ _ (HB) (fun hS2 => ?_)
                    clear hS hK
                    have hS := hS2
                    clear hS2
                    try simp only [Act.put, List.setIfInBounds_toArray, List.set_cons_zero, List.set_cons_succ]
                    refine tk 14 66 ?_
                    refine rone 21 rfl fun K' hK => ?_
                    refine s_wx ?_ HM (Wx.app law8 rfl (by first | (go_simp; with_reducible rfl) | rfl) (by first | (go_simp; with_reducible rfl) | rfl) (by (first | ((repeat (first | with_reducible exact Del.head _ | with_reducible apply Del.tail)); done) | ((repeat (first | exact Del.head _ | apply Del.tail)); done))) (by intro w hm; first | with_reducible exact HR1.out.below hm.below | with_reducible exact HR2.out.below hm.below | exact hm.rw_ law8 (by (first | ((repeat (first | with_reducible exact List.Mem.head _ | with_reducible apply List.Mem.tail)); done) | ((repeat (first | exact List.Mem.head _ | apply List.Mem.tail)); done))) | exact HR1.out.below hm.below | exact HR2.out.below hm.below) (by first | exact HN1.out | exact HN2.out | exact HN3.out | exact HN4.out) (by first | exact HL1.out | exact HL2.out)) (by kernel_rfl)
                    clear HM HB
                    rintro w ⟨Aq, cq⟩ HM HB
                    refine hK.out _ _ (HB) (fun hS2 => ?_)
                    clear hS hK
                    have hS := hS2
                    clear hS2
                    try simp only [Act.put, List.setIfInBounds_toArray, List.set_cons_zero, List.set_cons_succ]
                    refine tkv 22 74 _ rfl (yields_build rfl #[(0, .int .u32 is), (1, .int .u32 iu), (2, .int .u32 iz), (3, .slice Aq sz cq)] rfl (build4 _ _ _ _ _ _) (by kernel_rfl)) ?_
                    refine rone 24 rfl fun K' hK => ?_
                    refine s_wr ?_ HM (Wr.whole rfl rfl rfl (by (first | ((repeat (first | with_reducible exact Upd.head _ | with_reducible apply Upd.tail)); done) | ((repeat (first | exact Upd.head _ | apply Upd.tail)); done))) (HC.out Aq cq)) (by kernel_rfl)
                    clear HM HB
                    intro w _ HM HB
                    refine hK.out _ _ (HB) (fun hS2 => ?_)
                    clear hS hK
                    have hS := hS2
                    clear hS2
                    try simp only [Act.put, List.setIfInBounds_toArray, List.set_cons_zero, List.set_cons_succ]
                    refine wpAnyH_done (by kernel_rfl) ?_ _
                    clear hS
                    exact leaf HM Aq cq bx b0 (by first | exact List.Perm.refl _ | exact List.Perm.swap _ _ _) rfl
                · refine s_wr ?_ HM (Wr.alloc rfl AL1.out.1 AL1.out.2) (by kernel_rfl)
                  clear HM HB
                  intro w bx HM HB
                  refine hK.out _ _ (HB) (fun hS2 => ?_)
                  clear hS hK
                  have hS := hS2
                  clear hS2
                  try simp only [Act.put, List.setIfInBounds_toArray, List.set_cons_zero, List.set_cons_succ]
                  refine rone 8 rfl fun K' hK => ?_
                  go_simp
                  refine (HGU.out _ HB).mono ?_
                  rintro e w ⟨rfl, hb⟩
                  replace HM := Lib.hid (HM.out.call hb)
                  replace HB := HM.out.below
                  clear hb
                  refine hK.out _ _ (HB) (fun hS2 => ?_)
                  clear hS hK
                  have hS := hS2
                  clear hS2
                  try simp only [Act.put, List.setIfInBounds_toArray, List.set_cons_zero, List.set_cons_succ]
                  refine tk 9 61 ?_
                  refine rone 13 rfl fun K' hK => ?_
                  go_simp
                  refine (HGZ.out _ HB).mono ?_
                  rintro e w ⟨rfl, hb⟩
                  replace HM := Lib.hid (HM.out.call hb)
                  replace HB := HM.out.below
                  clear hb
                  refine hK.out _ _ (HB) (fun hS2 => ?_)
                  clear hS hK
                  have hS := hS2
                  clear hS2
                  try simp only [Act.put, List.setIfInBounds_toArray, List.set_cons_zero, List.set_cons_succ]
                  refine tk 14 66 ?_
                  refine rone 21 rfl fun K' hK => ?_
                  refine s_wx ?_ HM (Wx.app law8 rfl (by first | (go_simp; with_reducible rfl) | rfl) (by first | (go_simp; with_reducible rfl) | rfl) (by (first | ((repeat (first | with_reducible exact Del.head _ | with_reducible apply Del.tail)); done) | ((repeat (first | exact Del.head _ | apply Del.tail)); done))) (by intro w hm; first | with_reducible exact HR1.out.below hm.below | with_reducible exact HR2.out.below hm.below | exact hm.rw_ law8 (by (first | ((repeat (first | with_reducible exact List.Mem.head _ | with_reducible apply List.Mem.tail)); done) | ((repeat (first | exact List.Mem.head _ | apply List.Mem.tail)); done))) | exact HR1.out.below hm.below | exact HR2.out.below hm.below) (by first | exact HN1.out | exact HN2.out | exact HN3.out | exact HN4.out) (by first | exact HL1.out | exact HL2.out)) (by kernel_rfl)
                  clear HM HB
                  rintro w ⟨Aq, cq⟩ HM HB
                  refine hK.out _ _ (HB) (fun hS2 => ?_)
                  clear hS hK
                  have hS := hS2
                  clear hS2
                  try simp only [Act.put, List.setIfInBounds_toArray, List.set_cons_zero, List.set_cons_succ]
                  refine tkv 22 74 _ rfl (yields_build rfl #[(0, .int .u32 is), (1, .int .u32 iu), (2, .int .u32 iz), (3, .slice Aq sz cq)] rfl (build4 _ _ _ _ _ _) (by kernel_rfl)) ?_
                  refine rone 24 rfl fun K' hK => ?_
                  refine s_wr ?_ HM (Wr.whole rfl rfl rfl (by (first | ((repeat (first | with_reducible exact Upd.head _ | with_reducible apply Upd.tail)); done) | ((repeat (first | exact Upd.head _ | apply Upd.tail)); done))) (HC.out Aq cq)) (by kernel_rfl)
                  clear HM HB
                  intro w _ HM HB
                  refine hK.out _ _ (HB) (fun hS2 => ?_)
                  clear hS hK
                  have hS := hS2
                  clear hS2
                  try simp only [Act.put, List.setIfInBounds_toArray, List.set_cons_zero, List.set_cons_succ]
                  refine wpAnyH_done (by kernel_rfl) ?_ _
                  clear hS
                  exact leaf HM Aq cq bx b0 (by first | exact List.Perm.refl _ | exact List.Perm.swap _ _ _) rfl
              · refine s_wr ?_ HM (Wr.alloc rfl AL1.out.1 AL1.out.2) (by kernel_rfl)
                clear HM HB
                intro w bx HM HB
                refine hK.out _ _ (HB) (fun hS2 => ?_)
                clear hS hK
                have hS := hS2
                clear hS2
                try simp only [Act.put, List.setIfInBounds_toArray, List.set_cons_zero, List.set_cons_succ]
                refine wpAnyH_ready (rs := [8, 15]) (by kernel_rfl) (by simp) (rmore 8 rfl (fun K' hK => ?_) (rmore 15 rfl (fun K' hK => ?_) AllReadyH.nil))
                · go_simp
                  refine (HGU.out _ HB).mono ?_
                  rintro e w ⟨rfl, hb⟩
                  replace HM := Lib.hid (HM.out.call hb)
                  replace HB := HM.out.below
                  clear hb
                  refine hK.out _ _ (HB) (fun hS2 => ?_)
                  clear hS hK
                  have hS := hS2
                  clear hS2
                  try simp only [Act.put, List.setIfInBounds_toArray, List.set_cons_zero, List.set_cons_succ]
                  refine tk 9 61 ?_
                  refine wpAnyH_ready (rs := [13, 15]) (by kernel_rfl) (by simp) (rmore 13 rfl (fun K' hK => ?_) (rmore 15 rfl (fun K' hK => ?_) AllReadyH.nil))
                  · go_simp
                    refine (HGZ.out _ HB).mono ?_
                    rintro e w ⟨rfl, hb⟩
                    replace HM := Lib.hid (HM.out.call hb)
                    replace HB := HM.out.below
                    clear hb
                    refine hK.out _ _ (HB) (fun hS2 => ?_)
                    clear hS hK
                    have hS := hS2
                    clear hS2
                    try simp only [Act.put, List.setIfInBounds_toArray, List.set_cons_zero, List.set_cons_succ]
                    refine tk 14 66 ?_
                    refine rone 15 rfl fun K' hK => ?_
                    refine s_wr ?_ HM (Wr.litR law8 rfl lit0 rfl) (by kernel_rfl)
                    clear HM HB
                    intro w b0 HM HB
                    refine hK.out _ _ (HB) (fun hS2 => ?_)
                    clear hS hK
                    have hS := hS2
                    clear hS2
                    try simp only [Act.put, List.setIfInBounds_toArray, List.set_cons_zero, List.set_cons_succ]
                    refine rone 21 rfl fun K' hK => ?_
                    refine s_wx ?_ HM (Wx.app law8 rfl (by first | (go_simp; with_reducible rfl) | rfl) (by first | (go_simp; with_reducible rfl) | rfl) (by (first | ((repeat (first | with_reducible exact Del.head _ | with_reducible apply Del.tail)); done) | ((repeat (first | exact Del.head _ | apply Del.tail)); done))) (by intro w hm; first | with_reducible exact HR1.out.below hm.below | with_reducible exact HR2.out.below hm.below | exact hm.rw_ law8 (by (first | ((repeat (first | with_reducible exact List.Mem.head _ | with_reducible apply List.Mem.tail)); done) | ((repeat (first | exact List.Mem.head _ | apply List.Mem.tail)); done))) | exact HR1.out.below hm.below | exact HR2.out.below hm.below) (by first | exact HN1.out | exact HN2.out | exact HN3.out | exact HN4.out) (by first | exact HL1.out | exact HL2.out)) (by kernel_rfl)
                    clear HM HB
                    rintro w ⟨Aq, cq⟩ HM HB
                    refine hK.out _ _ (HB) (fun hS2 => ?_)
                    clear hS hK
                    have hS := hS2
                    clear hS2
                    try simp only [Act.put, List.setIfInBounds_toArray, List.set_cons_zero, List.set_cons_succ]
                    refine tkv 22 74 _ rfl (yields_build rfl #[(0, .int .u32 is), (1, .int .u32 iu), (2, .int .u32 iz), (3, .slice Aq sz cq)] rfl (build4 _ _ _ _ _ _) (by kernel_rfl)) ?_
                    refine rone 24 rfl fun K' hK => ?_
                    refine s_wr ?_ HM (Wr.whole rfl rfl rfl (by (first | ((repeat (first | with_reducible exact Upd.head _ | with_reducible apply Upd.tail)); done) | ((repeat (first | exact Upd.head _ | apply Upd.tail)); done))) (HC.out Aq cq)) (by kernel_rfl)
                    clear HM HB
                    intro w _ HM HB
                    refine hK.out _ _ (HB) (fun hS2 => ?_)
                    clear hS hK
                    have hS := hS2
                    clear hS2
                    try simp only [Act.put, List.setIfInBounds_toArray, List.set_cons_zero, List.set_cons_succ]
                    refine wpAnyH_done (by kernel_rfl) ?_ _
                    clear hS
                    exact leaf HM Aq cq bx b0 (by first | exact List.Perm.refl _ | exact List.Perm.swap _ _ _) rfl
                  · refine s_wr ?_ HM (Wr.litR law8 rfl lit0 rfl) (by kernel_rfl)
                    clear HM HB
                    intro w b0 HM HB
                    refine hK.out _ _ (HB) (fun hS2 => ?_)
                    clear hS hK
                    have hS := hS2
                    clear hS2
                    try simp only [Act.put, List.setIfInBounds_toArray, List.set_cons_zero, List.set_cons_succ]
                    refine rone 13 rfl fun K' hK => ?_
                    go_simp
                    refine (HGZ.out _ HB).mono ?_
                    rintro e w ⟨rfl, hb⟩
                    replace HM := Lib.hid (HM.out.call hb)
                    replace HB := HM.out.below
                    clear hb
                    refine hK.out _ _ (HB) (fun hS2 => ?_)
                    clear hS hK
                    have hS := hS2
                    clear hS2
                    try simp only [Act.put, List.setIfInBounds_toArray, List.set_cons_zero, List.set_cons_succ]
                    refine tk 14 66 ?_
                    refine rone 21 rfl fun K' hK => ?_
                    refine s_wx ?_ HM (Wx.app law8 rfl (by first | (go_simp; with_reducible rfl) | rfl) (by first | (go_simp; with_reducible rfl) | rfl) (by (first | ((repeat (first | with_reducible exact Del.head _ | with_reducible apply Del.tail)); done) | ((repeat (first | exact Del.head _ | apply Del.tail)); done))) (by intro w hm; first | with_reducible exact HR1.out.below hm.below | with_reducible exact HR2.out.below hm.below | exact hm.rw_ law8 (by (first | ((repeat (first | with_reducible exact List.Mem.head _ | with_reducible apply List.Mem.tail)); done) | ((repeat (first | exact List.Mem.head _ | apply List.Mem.tail)); done))) | exact HR1.out.below hm.below | exact HR2.out.below hm.below) (by first | exact HN1.out | exact HN2.out | exact HN3.out | exact HN4.out) (by first | exact HL1.out | exact HL2.out)) (by kernel_rfl)
                    clear HM HB
                    rintro w ⟨Aq, cq⟩ HM HB
                    refine hK.out _ _ (HB) (fun hS2 => ?_)
                    clear hS hK
                    have hS := hS2
                    clear hS2
                    try simp only [Act.put, List.setIfInBounds_toArray, List.set_cons_zero, List.set_cons_succ]
                    refine tkv 22 74 _ rfl (yields_build rfl #[(0, .int .u32 is), (1, .int .u32 iu), (2, .int .u32 iz), (3, .slice Aq sz cq)] rfl (build4 _ _ _ _ _ _) (by kernel_rfl)) ?_
                    refine rone 24 rfl fun K' hK => ?_
                    refine s_wr ?_ HM (Wr.whole rfl rfl rfl (by (first | ((repeat (first | with_reducible exact Upd.head _ | with_reducible apply Upd.tail)); done) | ((repeat (first | exact Upd.head _ | apply Upd.tail)); done))) (HC.out Aq cq)) (by kernel_rfl)
                    clear HM HB
                    intro w _ HM HB
                    refine hK.out _ _ (HB) (fun hS2 => ?_)
                    clear hS hK
                    have hS := hS2
                    clear hS2
                    try simp only [Act.put, List.setIfInBounds_toArray, List.set_cons_zero, List.set_cons_succ]
                    refine wpAnyH_done (by kernel_rfl) ?_ _
                    clear hS
                    exact leaf HM Aq cq bx b0 (by first | exact List.Perm.refl _ | exact List.Perm.swap _ _ _) rfl
                · refine s_wr ?_ HM (Wr.litR law8 rfl lit0 rfl) (by kernel_rfl)
                  clear HM HB
                  intro w b0 HM HB
                  refine hK.out _ _ (HB) (fun hS2 => ?_)
                  clear hS hK
                  have hS := hS2
                  clear hS2
                  try simp only [Act.put, List.setIfInBounds_toArray, List.set_cons_zero, List.set_cons_succ]
                  refine rone 8 rfl fun K' hK => ?_
                  go_simp
                  refine (HGU.out _ HB).mono ?_
                  rintro e w ⟨rfl, hb⟩
                  replace HM := Lib.hid (HM.out.call hb)
                  replace HB := HM.out.below
                  clear hb
                  refine hK.out _ _ (HB) (fun hS2 => ?_)
                  clear hS hK
                  have hS := hS2
                  clear hS2
                  try simp only [Act.put, List.setIfInBounds_toArray, List.set_cons_zero, List.set_cons_succ]
                  refine tk 9 61 ?_
                  refine rone 13 rfl fun K' hK => ?_
                  go_simp
                  refine (HGZ.out _ HB).mono ?_
                  rintro e w ⟨rfl, hb⟩
                  replace HM := Lib.hid (HM.out.call hb)
                  replace HB := HM.out.below
                  clear hb
                  refine hK.out _ _ (HB) (fun hS2 => ?_)
                  clear hS hK
                  have hS := hS2
                  clear hS2
                  try simp only [Act.put, List.setIfInBounds_toArray, List.set_cons_zero, List.set_cons_succ]
                  refine tk 14 66 ?_
                  refine rone 21 rfl fun K' hK => ?_
                  refine s_wx ?_ HM (Wx.app law8 rfl (by first | (go_simp; with_reducible rfl) | rfl) (by first | (go_simp; with_reducible rfl) | rfl) (by (first | ((repeat (first | with_reducible exact Del.head _ | with_reducible apply Del.tail)); done) | ((repeat (first | exact Del.head _ | apply Del.tail)); done))) (by intro w hm; first | with_reducible exact HR1.out.below hm.below | with_reducible exact HR2.out.below hm.below | exact hm.rw_ law8 (by (first | ((repeat (first | with_reducible exact List.Mem.head _ | with_reducible apply List.Mem.tail)); done) | ((repeat (first | exact List.Mem.head _ | apply List.Mem.tail)); done))) | exact HR1.out.below hm.below | exact HR2.out.below hm.below) (by first | exact HN1.out | exact HN2.out | exact HN3.out | exact HN4.out) (by first | exact HL1.out | exact HL2.out)) (by kernel_rfl)
                  clear HM HB
                  rintro w ⟨Aq, cq⟩ HM HB
                  refine hK.out _ _ (HB) (fun hS2 => ?_)
                  clear hS hK
                  have hS := hS2
                  clear hS2
                  try simp only [Act.put, List.setIfInBounds_toArray, List.set_cons_zero, List.set_cons_succ]
                  refine tkv 22 74 _ rfl (yields_build rfl #[(0, .int .u32 is), (1, .int .u32 iu), (2, .int .u32 iz), (3, .slice Aq sz cq)] rfl (build4 _ _ _ _ _ _) (by kernel_rfl)) ?_
                  refine rone 24 rfl fun K' hK => ?_
                  refine s_wr ?_ HM (Wr.whole rfl rfl rfl (by (first | ((repeat (first | with_reducible exact Upd.head _ | with_reducible apply Upd.tail)); done) | ((repeat (first | exact Upd.head _ | apply Upd.tail)); done))) (HC.out Aq cq)) (by kernel_rfl)
                  clear HM HB
                  intro w _ HM HB
                  refine hK.out _ _ (HB) (fun hS2 => ?_)
                  clear hS hK
                  have hS := hS2
                  clear hS2
                  try simp only [Act.put, List.setIfInBounds_toArray, List.set_cons_zero, List.set_cons_succ]
                  refine wpAnyH_done (by kernel_rfl) ?_ _
                  clear hS
                  exact leaf HM Aq cq bx b0 (by first | exact List.Perm.refl _ | exact List.Perm.swap _ _ _) rfl
            · refine s_wr ?_ HM (Wr.litR law8 rfl lit0 rfl) (by kernel_rfl)
              clear HM HB
              intro w b0 HM HB
              refine hK.out _ _ (HB) (fun hS2 => ?_)
              clear hS hK
              have hS := hS2
              clear hS2
              try simp only [Act.put, List.setIfInBounds_toArray, List.set_cons_zero, List.set_cons_succ]
              refine wpAnyH_ready (rs := [3, 23]) (by kernel_rfl) (by simp) (rmore 3 rfl (fun K' hK => ?_) (rmore 23 rfl (fun K' hK => ?_) AllReadyH.nil))
              · go_simp
                refine (HGS.out _ HB).mono ?_
                rintro e w ⟨rfl, hb⟩
                replace HM := Lib.hid (HM.out.call hb)
                replace HB := HM.out.below
                clear hb
                refine hK.out _ _ (HB) (fun hS2 => ?_)
                clear hS hK
                have hS := hS2
                clear hS2
                try simp only [Act.put, List.setIfInBounds_toArray, List.set_cons_zero, List.set_cons_succ]
                refine tk 4 56 ?_
                refine wpAnyH_ready (rs := [8, 23]) (by kernel_rfl) (by simp) (rmore 8 rfl (fun K' hK => ?_) (rmore 23 rfl (fun K' hK => ?_) AllReadyH.nil))
                · go_simp
                  refine (HGU.out _ HB).mono ?_
                  rintro e w ⟨rfl, hb⟩
                  replace HM := Lib.hid (HM.out.call hb)
                  replace HB := HM.out.below
                  clear hb
                  refine hK.out _ _ (HB) (fun hS2 => ?_)
                  clear hS hK
                  have hS := hS2
                  clear hS2
                  try simp only [Act.put, List.setIfInBounds_toArray, List.set_cons_zero, List.set_cons_succ]
                  refine tk 9 61 ?_
                  refine wpAnyH_ready (rs := [13, 23]) (by kernel_rfl) (by simp) (rmore 13 rfl (fun K' hK => ?_) (rmore 23 rfl (fun K' hK => ?_) AllReadyH.nil))
                  · go_simp
                    refine (HGZ.out _ HB).mono ?_
                    rintro e w ⟨rfl, hb⟩
                    replace HM := Lib.hid (HM.out.call hb)
                    replace HB := HM.out.below
                    clear hb
                    refine hK.out _ _ (HB) (fun hS2 => ?_)
                    clear hS hK
                    have hS := hS2
                    clear hS2
                    try simp only [Act.put, List.setIfInBounds_toArray, List.set_cons_zero, List.set_cons_succ]
                    refine tk 14 66 ?_
                    refine wpAnyH_ready (rs := [21, 23]) (by kernel_rfl) (by simp) (rmore 21 rfl (fun K' hK => ?_) (rmore 23 rfl (fun K' hK => ?_) AllReadyH.nil))
                    · refine s_wx ?_ HM (Wx.app law8 rfl (by first | (go_simp; with_reducible rfl) | rfl) (by first | (go_simp; with_reducible rfl) | rfl) (by (first | ((repeat (first | with_reducible exact Del.head _ | with_reducible apply Del.tail)); done) | ((repeat (first | exact Del.head _ | apply Del.tail)); done))) (by intro w hm; first | with_reducible exact HR1.out.below hm.below | with_reducible exact HR2.out.below hm.below | exact hm.rw_ law8 (by (first | ((repeat (first | with_reducible exact List.Mem.head _ | with_reducible apply List.Mem.tail)); done) | ((repeat (first | exact List.Mem.head _ | apply List.Mem.tail)); done))) | exact HR1.out.below hm.below | exact HR2.out.below hm.below) (by first | exact HN1.out | exact HN2.out | exact HN3.out | exact HN4.out) (by first | exact HL1.out | exact HL2.out)) (by kernel_rfl)
                      clear HM HB
                      rintro w ⟨Aq, cq⟩ HM HB
                      refine hK.out _ _ (HB) (fun hS2 => ?_)
                      clear hS hK
                      have hS := hS2
                      clear hS2
                      try simp only [Act.put, List.setIfInBounds_toArray, List.set_cons_zero, List.set_cons_succ]
                      refine tkv 22 74 _ rfl (yields_build rfl #[(0, .int .u32 is), (1, .int .u32 iu), (2, .int .u32 iz), (3, .slice Aq sz cq)] rfl (build4 _ _ _ _ _ _) (by kernel_rfl)) ?_
                      refine rone 23 rfl fun K' hK => ?_
                      refine s_wr ?_ HM (Wr.alloc rfl AL1.out.1 AL1.out.2) (by kernel_rfl)
                      clear HM HB
                      intro w bx HM HB
                      refine hK.out _ _ (HB) (fun hS2 => ?_)
                      clear hS hK
                      have hS := hS2
                      clear hS2
                      try simp only [Act.put, List.setIfInBounds_toArray, List.set_cons_zero, List.set_cons_succ]
                      refine rone 24 rfl fun K' hK => ?_
                      refine s_wr ?_ HM (Wr.whole rfl rfl rfl (by (first | ((repeat (first | with_reducible exact Upd.head _ | with_reducible apply Upd.tail)); done) | ((repeat (first | exact Upd.head _ | apply Upd.tail)); done))) (HC.out Aq cq)) (by kernel_rfl)
                      clear HM HB
                      intro w _ HM HB
                      refine hK.out _ _ (HB) (fun hS2 => ?_)
                      clear hS hK
                      have hS := hS2
                      clear hS2
                      try simp only [Act.put, List.setIfInBounds_toArray, List.set_cons_zero, List.set_cons_succ]
                      refine wpAnyH_done (by kernel_rfl) ?_ _
                      clear hS
                      exact leaf HM Aq cq bx b0 (by first | exact List.Perm.refl _ | exact List.Perm.swap _ _ _) rfl
                    · refine s_wr ?_ HM (Wr.alloc rfl AL1.out.1 AL1.out.2) (by kernel_rfl)
                      clear HM HB
                      intro w bx HM HB
                      refine hK.out _ _ (HB) (fun hS2 => ?_)
                      clear hS hK
                      have hS := hS2
                      clear hS2
                      try simp only [Act.put, List.setIfInBounds_toArray, List.set_cons_zero, List.set_cons_succ]
                      refine rone 21 rfl fun K' hK => ?_
                      refine s_wx ?_ HM (Wx.app law8 rfl (by first | (go_simp; with_reducible rfl) | rfl) (by first | (go_simp; with_reducible rfl) | rfl) (by (first | ((repeat (first | with_reducible exact Del.head _ | with_reducible apply Del.tail)); done) | ((repeat (first | exact Del.head _ | apply Del.tail)); done))) (by intro w hm; first | with_reducible exact HR1.out.below hm.below | with_reducible exact HR2.out.below hm.below | exact hm.rw_ law8 (by (first | ((repeat (first | with_reducible exact List.Mem.head _ | with_reducible apply List.Mem.tail)); done) | ((repeat (first | exact List.Mem.head _ | apply List.Mem.tail)); done))) | exact HR1.out.below hm.below | exact HR2.out.below hm.below) (by first | exact HN1.out | exact HN2.out | exact HN3.out | exact HN4.out) (by first | exact HL1.out | exact HL2.out)) (by kernel_rfl)
                      clear HM HB
                      rintro w ⟨Aq, cq⟩ HM HB
                      refine hK.out _ _ (HB) (fun hS2 => ?_)
                      clear hS hK
                      have hS := hS2
                      clear hS2
                      try simp only [Act.put, List.setIfInBounds_toArray, List.set_cons_zero, List.set_cons_succ]
                      refine tkv 22 74 _ rfl (yields_build rfl #[(0, .int .u32 is), (1, .int .u32 iu), (2, .int .u32 iz), (3, .slice Aq sz cq)] rfl (build4 _ _ _ _ _ _) (by kernel_rfl)) ?_
                      refine rone 24 rfl fun K' hK => ?_
                      refine s_wr ?_ HM (Wr.whole rfl rfl rfl (by (first | ((repeat (first | with_reducible exact Upd.head _ | with_reducible apply Upd.tail)); done) | ((repeat (first | exact Upd.head _ | apply Upd.tail)); done))) (HC.out Aq cq)) (by kernel_rfl)
                      clear HM HB
                      intro w _ HM HB
                      refine hK.out _ _ (HB) (fun hS2 => ?_)
                      clear hS hK
                      have hS := hS2
                      clear hS2
                      try simp only [Act.put, List.setIfInBounds_toArray, List.set_cons_zero, List.set_cons_succ]
                      refine wpAnyH_done (by kernel_rfl) ?_ _
                      clear hS
                      exact leaf HM Aq cq bx b0 (by first | exact List.Perm.refl _ | exact List.Perm.swap _ _ _) rfl
                  · refine s_wr ?_ HM (Wr.alloc rfl AL1.out.1 AL1.out.2) (by kernel_rfl)
                    clear HM HB
                    intro w bx HM HB
                    refine hK.out _ _ (HB) (fun hS2 => ?_)
                    clear hS hK
                    have hS := hS2
                    clear hS2
                    try simp only [Act.put, List.setIfInBounds_toArray, List.set_cons_zero, List.set_cons_succ]
                    refine rone 13 rfl fun K' hK => ?_
                    go_simp
                    refine (HGZ.out _ HB).mono ?_
                    rintro e w ⟨rfl, hb⟩
                    replace HM := Lib.hid (HM.out.call hb)
                    replace HB := HM.out.below
                    clear hb
                    refine hK.out _ _ (HB) (fun hS2 => ?_)
                    clear hS hK
                    have hS := hS2
                    clear hS2
                    try simp only [Act.put, List.setIfInBounds_toArray, List.set_cons_zero, List.set_cons_succ]
                    refine tk 14 66 ?_
                    refine rone 21 rfl fun K' hK => ?_
                    refine s_wx ?_ HM (Wx.app law8 rfl (by first | (go_simp; with_reducible rfl) | rfl) (by first | (go_simp; with_reducible rfl) | rfl) (by (first | ((repeat (first | with_reducible exact Del.head _ | with_reducible apply Del.tail)); done) | ((repeat (first | exact Del.head _ | apply Del.tail)); done))) (by intro w hm; first | with_reducible exact HR1.out.below hm.below | with_reducible exact HR2.out.below hm.below | exact hm.rw_ law8 (by (first | ((repeat (first | with_reducible exact List.Mem.head _ | with_reducible apply List.Mem.tail)); done) | ((repeat (first | exact List.Mem.head _ | apply List.Mem.tail)); done))) | exact HR1.out.below hm.below | exact HR2.out.below hm.below) (by first | exact HN1.out | exact HN2.out | exact HN3.out | exact HN4.out) (by first | exact HL1.out | exact HL2.out)) (by kernel_rfl)
                    clear HM HB
                    rintro w ⟨Aq, cq⟩ HM HB
                    refine hK.out _ _ (HB) (fun hS2 => ?_)
                    clear hS hK
                    have hS := hS2
                    clear hS2
                    try simp only [Act.put, List.setIfInBounds_toArray, List.set_cons_zero, List.set_cons_succ]
                    refine tkv 22 74 _ rfl (yields_build rfl #[(0, .int .u32 is), (1, .int .u32 iu), (2, .int .u32 iz), (3, .slice Aq sz cq)] rfl (build4 _ _ _ _ _ _) (by kernel_rfl)) ?_
                    refine rone 24 rfl fun K' hK => ?_
                    refine s_wr ?_ HM (Wr.whole rfl rfl rfl (by (first | ((repeat (first | with_reducible exact Upd.head _ | with_reducible apply Upd.tail)); done) | ((repeat (first | exact Upd.head _ | apply Upd.tail)); done))) (HC.out Aq cq)) (by kernel_rfl)
                    clear HM HB
                    intro w _ HM HB
                    refine hK.out _ _ (HB) (fun hS2 => ?_)
                    clear hS hK
                    have hS := hS2
                    clear hS2
                    try simp only [Act.put, List.setIfInBounds_toArray, List.set_cons_zero, List.set_cons_succ]
                    refine wpAnyH_done (by kernel_rfl) ?_ _
                    clear hS
                    exact leaf HM Aq cq bx b0 (by first | exact List.Perm.refl _ | exact List.Perm.swap _ _ _) rfl
                · refine s_wr ?_ HM (Wr.alloc rfl AL1.out.1 AL1.out.2) (by kernel_rfl)
                  clear HM HB
                  intro w bx HM HB
                  refine hK.out _ _ (HB) (fun hS2 => ?_)
                  clear hS hK
                  have hS := hS2
                  clear hS2
                  try simp only [Act.put, List.setIfInBounds_toArray, List.set_cons_zero, List.set_cons_succ]
                  refine rone 8 rfl fun K' hK => ?_
                  go_simp
                  refine (HGU.out _ HB).mono ?_
                  rintro e w ⟨rfl, hb⟩
                  replace HM := Lib.hid (HM.out.call hb)
                  replace HB := HM.out.below
                  clear hb
                  refine hK.out _ _ (HB) (fun hS2 => ?_)
                  clear hS hK
                  have hS := hS2
                  clear hS2
                  try simp only [Act.put, List.setIfInBounds_toArray, List.set_cons_zero, List.set_cons_succ]
                  refine tk 9 61 ?_
                  refine rone 13 rfl fun K' hK => ?_
                  go_simp
                  refine (HGZ.out _ HB).mono ?_
                  rintro e w ⟨rfl, hb⟩
                  replace HM := Lib.hid (HM.out.call hb)
                  replace HB := HM.out.below
                  clear hb
                  refine hK.out _ _ (HB) (fun hS2 => ?_)
                  clear hS hK
                  have hS := hS2
                  clear hS2
                  try simp only [Act.put, List.setIfInBounds_toArray, List.set_cons_zero, List.set_cons_succ]
                  refine tk 14 66 ?_
                  refine rone 21 rfl fun K' hK => ?_
                  refine s_wx ?_ HM (Wx.app law8 rfl (by first | (go_simp; with_reducible rfl) | rfl) (by first | (go_simp; with_reducible rfl) | rfl) (by (first | ((repeat (first | with_reducible exact Del.head _ | with_reducible apply Del.tail)); done) | ((repeat (first | exact Del.head _ | apply Del.tail)); done))) (by intro w hm; first | with_reducible exact HR1.out.below hm.below | with_reducible exact HR2.out.below hm.below | exact hm.rw_ law8 (by (first | ((repeat (first | with_reducible exact List.Mem.head _ | with_reducible apply List.Mem.tail)); done) | ((repeat (first | exact List.Mem.head _ | apply List.Mem.tail)); done))) | exact HR1.out.below hm.below | exact HR2.out.below hm.below) (by first | exact HN1.out | exact HN2.out | exact HN3.out | exact HN4.out) (by first | exact HL1.out | exact HL2.out)) (by kernel_rfl)
                  clear HM HB
                  rintro w ⟨Aq, cq⟩ HM HB
                  refine hK.out _ _ (HB) (fun hS2 => ?_)
                  clear hS hK
                  have hS := hS2
                  clear hS2
                  try simp only [Act.put, List.setIfInBounds_toArray, List.set_cons_zero, List.set_cons_succ]
                  refine tkv 22 74 _ rfl (yields_build rfl #[(0, .int .u32 is), (1, .int .u32 iu), (2, .int .u32 iz), (3, .slice Aq sz cq)] rfl (build4 _ _ _ _ _ _) (by kernel_rfl)) ?_
                  refine rone 24 rfl fun K' hK => ?_
                  refine s_wr ?_ HM (Wr.whole rfl rfl rfl (by (first | ((repeat (first | with_reducible exact Upd.head _ | with_reducible apply Upd.tail)); done) | ((repeat (first | exact Upd.head _ | apply Upd.tail)); done))) (HC.out Aq cq)) (by kernel_rfl)
                  clear HM HB
                  intro w _ HM HB
                  refine hK.out _ _ (HB) (fun hS2 => ?_)
                  clear hS hK
                  have hS := hS2
                  clear hS2
                  try simp only [Act.put, List.setIfInBounds_toArray, List.set_cons_zero, List.set_cons_succ]
                  refine wpAnyH_done (by kernel_rfl) ?_ _
                  clear hS
                  exact leaf HM Aq cq bx b0 (by first | exact List.Perm.refl _ | exact List.Perm.swap _ _ _) rfl
              · refine s_wr ?_ HM (Wr.alloc rfl AL1.out.1 AL1.out.2) (by kernel_rfl)
                clear HM HB
                intro w bx HM HB
                refine hK.out _ _ (HB) (fun hS2 => ?_)
                clear hS hK
                have hS := hS2
                clear hS2
                try simp only [Act.put, List.setIfInBounds_toArray, List.set_cons_zero, List.set_cons_succ]
                refine rone 3 rfl fun K' hK => ?_
                go_simp
                refine (HGS.out _ HB).mono ?_
                rintro e w ⟨rfl, hb⟩
                replace HM := Lib.hid (HM.out.call hb)
                replace HB := HM.out.below
                clear hb
                refine hK.out _ _ (HB) (fun hS2 => ?_)
                clear hS hK
                have hS := hS2
                clear hS2
                try simp only [Act.put, List.setIfInBounds_toArray, List.set_cons_zero, List.set_cons_succ]
                refine tk 4 56 ?_
                refine rone 8 rfl fun K' hK => ?_
                go_simp
                refine (HGU.out _ HB).mono ?_
                rintro e w ⟨rfl, hb⟩
                replace HM := Lib.hid (HM.out.call hb)
                replace HB := HM.out.below
                clear hb
                refine hK.out _ _ (HB) (fun hS2 => ?_)
                clear hS hK
                have hS := hS2
                clear hS2
                try simp only [Act.put, List.setIfInBounds_toArray, List.set_cons_zero, List.set_cons_succ]
                refine tk 9 61 ?_
                refine rone 13 rfl fun K' hK => ?_
                go_simp
                refine (HGZ.out _ HB).mono ?_
                rintro e w ⟨rfl, hb⟩
                replace HM := Lib.hid (HM.out.call hb)
                replace HB := HM.out.below
                clear hb
                refine hK.out _ _ (HB) (fun hS2 => ?_)
                clear hS hK
                have hS := hS2
                clear hS2
                try simp only [Act.put, List.setIfInBounds_toArray, List.set_cons_zero, List.set_cons_succ]
                refine tk 14 66 ?_
                refine rone 21 rfl fun K' hK => ?_
                refine s_wx ?_ HM (Wx.app law8 rfl (by first | (go_simp; with_reducible rfl) | rfl) (by first | (go_simp; with_reducible rfl) | rfl) (by (first | ((repeat (first | with_reducible exact Del.head _ | with_reducible apply Del.tail)); done) | ((repeat (first | exact Del.head _ | apply Del.tail)); done))) (by intro w hm; first | with_reducible exact HR1.out.below hm.below | with_reducible exact HR2.out.below hm.below | exact hm.rw_ law8 (by (first | ((repeat (first | with_reducible exact List.Mem.head _ | with_reducible apply List.Mem.tail)); done) | ((repeat (first | exact List.Mem.head _ | apply List.Mem.tail)); done))) | exact HR1.out.below hm.below | exact HR2.out.below hm.below) (by first | exact HN1.out | exact HN2.out | exact HN3.out | exact HN4.out) (by first | exact HL1.out | exact HL2.out)) (by kernel_rfl)
                clear HM HB
                rintro w ⟨Aq, cq⟩ HM HB
                refine hK.out _ _ (HB) (fun hS2 => ?_)
                clear hS hK
                have hS := hS2
                clear hS2
                try simp only [Act.put, List.setIfInBounds_toArray, List.set_cons_zero, List.set_cons_succ]
                refine tkv 22 74 _ rfl (yields_build rfl #[(0, .int .u32 is), (1, .int .u32 iu), (2, .int .u32 iz), (3, .slice Aq sz cq)] rfl (build4 _ _ _ _ _ _) (by kernel_rfl)) ?_
                refine rone 24 rfl fun K' hK => ?_
                refine s_wr ?_ HM (Wr.whole rfl rfl rfl (by (first | ((repeat (first | with_reducible exact Upd.head _ | with_reducible apply Upd.tail)); done) | ((repeat (first | exact Upd.head _ | apply Upd.tail)); done))) (HC.out Aq cq)) (by kernel_rfl)
                clear HM HB
                intro w _ HM HB
                refine hK.out _ _ (HB) (fun hS2 => ?_)
                clear hS hK
                have hS := hS2
                clear hS2
                try simp only [Act.put, List.setIfInBounds_toArray, List.set_cons_zero, List.set_cons_succ]
                refine wpAnyH_done (by kernel_rfl) ?_ _
                clear hS
                exact leaf HM Aq cq bx b0 (by first | exact List.Perm.refl _ | exact List.Perm.swap _ _ _) rfl
            · refine s_wr ?_ HM (Wr.alloc rfl AL1.out.1 AL1.out.2) (by kernel_rfl)
              clear HM HB
              intro w bx HM HB
              refine hK.out _ _ (HB) (fun hS2 => ?_)
              clear hS hK
              have hS := hS2
              clear hS2
              try simp only [Act.put, List.setIfInBounds_toArray, List.set_cons_zero, List.set_cons_succ]
              refine wpAnyH_ready (rs := [3, 15]) (by kernel_rfl) (by simp) (rmore 3 rfl (fun K' hK => ?_) (rmore 15 rfl (fun K' hK => ?_) AllReadyH.nil))
              · go_simp
                refine (HGS.out _ HB).mono ?_
                rintro e w ⟨rfl, hb⟩
                replace HM := Lib.hid (HM.out.call hb)
                replace HB := HM.out.below
                clear hb
                refine hK.out _ _ (HB) (fun hS2 => ?_)
                clear hS hK
                have hS := hS2
                clear hS2
                try simp only [Act.put, List.setIfInBounds_toArray, List.set_cons_zero, List.set_cons_succ]
                refine tk 4 56 ?_
                refine wpAnyH_ready (rs := [8, 15]) (by kernel_rfl) (by simp) (rmore 8 rfl (fun K' hK => ?_) (rmore 15 rfl (fun K' hK => ?_) AllReadyH.nil))
                · go_simp
                  refine (HGU.out _ HB).mono ?_
                  rintro e w ⟨rfl, hb⟩
                  replace HM := Lib.hid (HM.out.call hb)
                  replace HB := HM.out.below
                  clear hb
                  refine hK.out _ _ (HB) (fun hS2 => ?_)
                  clear hS hK
                  have hS := hS2
                  clear hS2
                  try simp only [Act.put, List.setIfInBounds_toArray, List.set_cons_zero, List.set_cons_succ]
                  refine tk 9 61 ?_
                  refine wpAnyH_ready (rs := [13, 15]) (by kernel_rfl) (by simp) (rmore 13 rfl (fun K' hK => ?_) (rmore 15 rfl (fun K' hK => ?_) AllReadyH.nil))
                  · go_simp
                    refine (HGZ.out _ HB).mono ?_
                    rintro e w ⟨rfl, hb⟩
                    replace HM := Lib.hid (HM.out.call hb)
                    replace HB := HM.out.below
                    clear hb
                    refine hK.out _ _ (HB) (fun hS2 => ?_)
                    clear hS hK
                    have hS := hS2
                    clear hS2
                    try simp only [Act.put, List.setIfInBounds_toArray, List.set_cons_zero, List.set_cons_succ]
                    refine tk 14 66 ?_
                    refine rone 15 rfl fun K' hK => ?_
                    refine s_wr ?_ HM (Wr.litR law8 rfl lit0 rfl) (by kernel_rfl)
                    clear HM HB
                    intro w b0 HM HB
                    refine hK.out _ _ (HB) (fun hS2 => ?_)
                    clear hS hK
                    have hS := hS2
                    clear hS2
                    try simp only [Act.put, List.setIfInBounds_toArray, List.set_cons_zero, List.set_cons_succ]
                    refine rone 21 rfl fun K' hK => ?_
                    refine s_wx ?_ HM (Wx.app law8 rfl (by first | (go_simp; with_reducible rfl) | rfl) (by first | (go_simp; with_reducible rfl) | rfl) (by (first | ((repeat (first | with_reducible exact Del.head _ | with_reducible apply Del.tail)); done) | ((repeat (first | exact Del.head _ | apply Del.tail)); done))) (by intro w hm; first | with_reducible exact HR1.out.below hm.below | with_reducible exact HR2.out.below hm.below | exact hm.rw_ law8 (by (first | ((repeat (first | with_reducible exact List.Mem.head _ | with_reducible apply List.Mem.tail)); done) | ((repeat (first | exact List.Mem.head _ | apply List.Mem.tail)); done))) | exact HR1.out.below hm.below | exact HR2.out.below hm.below) (by first | exact HN1.out | exact HN2.out | exact HN3.out | exact HN4.out) (by first | exact HL1.out | exact HL2.out)) (by kernel_rfl)
                    clear HM HB
                    rintro w ⟨Aq, cq⟩ HM HB
                    refine hK.out _ _ (HB) (fun hS2 => ?_)
                    clear hS hK
                    have hS := hS2
                    clear hS2
                    try simp only [Act.put, List.setIfInBounds_toArray, List.set_cons_zero, List.set_cons_succ]
                    refine tkv 22 74 _ rfl (yields_build rfl #[(0, .int .u32 is), (1, .int .u32 iu), (2, .int .u32 iz), (3, .slice Aq sz cq)] rfl (build4 _ _ _ _ _ _) (by kernel_rfl)) ?_
                    refine rone 24 rfl fun K' hK => ?_
                    refine s_wr ?_ HM (Wr.whole rfl rfl rfl (by (first | ((repeat (first | with_reducible exact Upd.head _ | with_reducible apply Upd.tail)); done) | ((repeat (first | exact Upd.head _ | apply Upd.tail)); done))) (HC.out Aq cq)) (by kernel_rfl)
                    clear HM HB
                    intro w _ HM HB
                    refine hK.out _ _ (HB) (fun hS2 => ?_)
                    clear hS hK
                    have hS := hS2
                    clear hS2
                    try simp only [Act.put, List.setIfInBounds_toArray, List.set_cons_zero, List.set_cons_succ]
                    refine wpAnyH_done (by kernel_rfl) ?_ _
                    clear hS
                    exact leaf HM Aq cq bx b0 (by first | exact List.Perm.refl _ | exact List.Perm.swap _ _ _) rfl
                  · refine s_wr ?_ HM (Wr.litR law8 rfl lit0 rfl) (by kernel_rfl)
                    clear HM HB
                    intro w b0 HM HB
                    refine hK.out _ _ (HB) (fun hS2 => ?_)
                    clear hS hK
                    have hS := hS2
                    clear hS2
                    try simp only [Act.put, List.setIfInBounds_toArray, List.set_cons_zero, List.set_cons_succ]
                    refine rone 13 rfl fun K' hK => ?_
                    go_simp
                    refine (HGZ.out _ HB).mono ?_
                    rintro e w ⟨rfl, hb⟩
                    replace HM := Lib.hid (HM.out.call hb)
                    replace HB := HM.out.below
                    clear hb
                    refine hK.out _ _ (HB) (fun hS2 => ?_)
                    clear hS hK
                    have hS := hS2
                    clear hS2
                    try simp only [Act.put, List.setIfInBounds_toArray, List.set_cons_zero, List.set_cons_succ]
                    refine tk 14 66 ?_
                    refine rone 21 rfl fun K' hK => ?_
                    refine s_wx ?_ HM (Wx.app law8 rfl (by first | (go_simp; with_reducible rfl) | rfl) (by first | (go_simp; with_reducible rfl) | rfl) (by (first | ((repeat (first | with_reducible exact Del.head _ | with_reducible apply Del.tail)); done) | ((repeat (first | exact Del.head _ | apply Del.tail)); done))) (by intro w hm; first | with_reducible exact HR1.out.below hm.below | with_reducible exact HR2.out.below hm.below | exact hm.rw_ law8 (by (first | ((repeat (first | with_reducible exact List.Mem.head _ | with_reducible apply List.Mem.tail)); done) | ((repeat (first | exact List.Mem.head _ | apply List.Mem.tail)); done))) | exact HR1.out.below hm.below | exact HR2.out.below hm.below) (by first | exact HN1.out | exact HN2.out | exact HN3.out | exact HN4.out) (by first | exact HL1.out | exact HL2.out)) (by kernel_rfl)
                    clear HM HB
                    rintro w ⟨Aq, cq⟩ HM HB
                    refine hK.out _ _ (HB) (fun hS2 => ?_)
                    clear hS hK
                    have hS := hS2
                    clear hS2
                    try simp only [Act.put, List.setIfInBounds_toArray, List.set_cons_zero, List.set_cons_succ]
                    refine tkv 22 74 _ rfl (yields_build rfl #[(0, .int .u32 is), (1, .int .u32 iu), (2, .int .u32 iz), (3, .slice Aq sz cq)] rfl (build4 _ _ _ _ _ _) (by kernel_rfl)) ?_
                    refine rone 24 rfl fun K' hK => ?_
                    refine s_wr ?_ HM (Wr.whole rfl rfl rfl (by (first | ((repeat (first | with_reducible exact Upd.head _ | with_reducible apply Upd.tail)); done) | ((repeat (first | exact Upd.head _ | apply Upd.tail)); done))) (HC.out Aq cq)) (by kernel_rfl)
                    clear HM HB
                    intro w _ HM HB
                    refine hK.out _ _ (HB) (fun hS2 => ?_)
                    clear hS hK
                    have hS := hS2
                    clear hS2
                    try simp only [Act.put, List.setIfInBounds_toArray, List.set_cons_zero, List.set_cons_succ]
                    refine wpAnyH_done (by kernel_rfl) ?_ _
                    clear hS
                    exact leaf HM Aq cq bx b0 (by first | exact List.Perm.refl _ | exact List.Perm.swap _ _ _) rfl
                · refine s_wr ?_ HM (Wr.litR law8 rfl lit0 rfl) (by kernel_rfl)
                  clear HM HB
                  intro w b0 HM HB
                  refine hK.out _ _ (HB) (fun hS2 => ?_)
                  clear hS hK
                  have hS := hS2
                  clear hS2
                  try simp only [Act.put, List.setIfInBounds_toArray, List.set_cons_zero, List.set_cons_succ]
                  refine rone 8 rfl fun K' hK => ?_
                  go_simp
                  refine (HGU.out _ HB).mono ?_
                  rintro e w ⟨rfl, hb⟩
                  replace HM := Lib.hid (HM.out.call hb)
                  replace HB := HM.out.below
                  clear hb
                  refine hK.out _ _ (HB) (fun hS2 => ?_)
                  clear hS hK
                  have hS := hS2
                  clear hS2
                  try simp only [Act.put, List.setIfInBounds_toArray, List.set_cons_zero, List.set_cons_succ]
                  refine tk 9 61 ?_
                  refine rone 13 rfl fun K' hK => ?_
                  go_simp
                  refine (HGZ.out _ HB).mono ?_
                  rintro e w ⟨rfl, hb⟩
                  replace HM := Lib.hid (HM.out.call hb)
                  replace HB := HM.out.below
                  clear hb
                  refine hK.out _ _ (HB) (fun hS2 => ?_)
                  clear hS hK
                  have hS := hS2
                  clear hS2
                  try simp only [Act.put, List.setIfInBounds_toArray, List.set_cons_zero, List.set_cons_succ]
                  refine tk 14 66 ?_
                  refine rone 21 rfl fun K' hK => ?_
                  refine s_wx ?_ HM (Wx.app law8 rfl (by first | (go_simp; with_reducible rfl) | rfl) (by first | (go_simp; with_reducible rfl) | rfl) (by (first | ((repeat (first | with_reducible exact Del.head _ | with_reducible apply Del.tail)); done) | ((repeat (first | exact Del.head _ | apply Del.tail)); done))) (by intro w hm; first | with_reducible exact HR1.out.below hm.below | with_reducible exact HR2.out.below hm.below | exact hm.rw_ law8 (by (first | ((repeat (first | with_reducible exact List.Mem.head _ | with_reducible apply List.Mem.tail)); done) | ((repeat (first | exact List.Mem.head _ | apply List.Mem.tail)); done))) | exact HR1.out.below hm.below | exact HR2.out.below hm.below) (by first | exact HN1.out | exact HN2.out | exact HN3.out | exact HN4.out) (by first | exact HL1.out | exact HL2.out)) (by kernel_rfl)
                  clear HM HB
                  rintro w ⟨Aq, cq⟩ HM HB
                  refine hK.out _ _ (HB) (fun hS2 => ?_)
                  clear hS hK
                  have hS := hS2
                  clear hS2
                  try simp only [Act.put, List.setIfInBounds_toArray, List.set_cons_zero, List.set_cons_succ]
                  refine tkv 22 74 _ rfl (yields_build rfl #[(0, .int .u32 is), (1, .int .u32 iu), (2, .int .u32 iz), (3, .slice Aq sz cq)] rfl (build4 _ _ _ _ _ _) (by kernel_rfl)) ?_
                  refine rone 24 rfl fun K' hK => ?_
                  refine s_wr ?_ HM (Wr.whole rfl rfl rfl (by (first | ((repeat (first | with_reducible exact Upd.head _ | with_reducible apply Upd.tail)); done) | ((repeat (first | exact Upd.head _ | apply Upd.tail)); done))) (HC.out Aq cq)) (by kernel_rfl)
                  clear HM HB
                  intro w _ HM HB
                  refine hK.out _ _ (HB) (fun hS2 => ?_)
                  clear hS hK
                  have hS := hS2
                  clear hS2
                  try simp only [Act.put, List.setIfInBounds_toArray, List.set_cons_zero, List.set_cons_succ]
                  refine wpAnyH_done (by kernel_rfl) ?_ _
                  clear hS
                  exact leaf HM Aq cq bx b0 (by first | exact List.Perm.refl _ | exact List.Perm.swap _ _ _) rfl
              · refine s_wr ?_ HM (Wr.litR law8 rfl lit0 rfl) (by kernel_rfl)
                clear HM HB
                intro w b0 HM HB
                refine hK.out _ _ (HB) (fun hS2 => ?_)
                clear hS hK
                have hS := hS2
                clear hS2
                try simp only [Act.put, List.setIfInBounds_toArray, List.set_cons_zero, List.set_cons_succ]
                refine rone 3 rfl fun K' hK => ?_
                go_simp
                refine (HGS.out _ HB).mono ?_
                rintro e w ⟨rfl, hb⟩
                replace HM := Lib.hid (HM.out.call hb)
                replace HB := HM.out.below
                clear hb
                refine hK.out _ _ (HB) (fun hS2 => ?_)
                clear hS hK
                have hS := hS2
                clear hS2
                try simp only [Act.put, List.setIfInBounds_toArray, List.set_cons_zero, List.set_cons_succ]
                refine tk 4 56 ?_
                refine rone 8 rfl fun K' hK => ?_
                go_simp
                refine (HGU.out _ HB).mono ?_
                rintro e w ⟨rfl, hb⟩
                replace HM := Lib.hid (HM.out.call hb)
                replace HB := HM.out.below
                clear hb
                refine hK.out _ _ (HB) (fun hS2 => ?_)
                clear hS hK
                have hS := hS2
                clear hS2
                try simp only [Act.put, List.setIfInBounds_toArray, List.set_cons_zero, List.set_cons_succ]
                refine tk 9 61 ?_
                refine rone 13 rfl fun K' hK => ?_
                go_simp
                refine (HGZ.out _ HB).mono ?_
                rintro e w ⟨rfl, hb⟩
                replace HM := Lib.hid (HM.out.call hb)
                replace HB := HM.out.below
                clear hb
                refine hK.out _ _ (HB) (fun hS2 => ?_)
                clear hS hK
                have hS := hS2
                clear hS2
                try simp only [Act.put, List.setIfInBounds_toArray, List.set_cons_zero, List.set_cons_succ]
                refine tk 14 66 ?_
                refine rone 21 rfl fun K' hK => ?_
                refine s_wx ?_ HM (Wx.app law8 rfl (by first | (go_simp; with_reducible rfl) | rfl) (by first | (go_simp; with_reducible rfl) | rfl) (by (first | ((repeat (first | with_reducible exact Del.head _ | with_reducible apply Del.tail)); done) | ((repeat (first | exact Del.head _ | apply Del.tail)); done))) (by intro w hm; first | with_reducible exact HR1.out.below hm.below | with_reducible exact HR2.out.below hm.below | exact hm.rw_ law8 (by (first | ((repeat (first | with_reducible exact List.Mem.head _ | with_reducible apply List.Mem.tail)); done) | ((repeat (first | exact List.Mem.head _ | apply List.Mem.tail)); done))) | exact HR1.out.below hm.below | exact HR2.out.below hm.below) (by first | exact HN1.out | exact HN2.out | exact HN3.out | exact HN4.out) (by first | exact HL1.out | exact HL2.out)) (by kernel_rfl)
                clear HM HB
                rintro w ⟨Aq, cq⟩ HM HB
                refine hK.out _ _ (HB) (fun hS2 => ?_)
                clear hS hK
                have hS := hS2
                clear hS2
                try simp only [Act.put, List.setIfInBounds_toArray, List.set_cons_zero, List.set_cons_succ]
                refine tkv 22 74 _ rfl (yields_build rfl #[(0, .int .u32 is), (1, .int .u32 iu), (2, .int .u32 iz), (3, .slice Aq sz cq)] rfl (build4 _ _ _ _ _ _) (by kernel_rfl)) ?_
                refine rone 24 rfl fun K' hK => ?_
                refine s_wr ?_ HM (Wr.whole rfl rfl rfl (by (first | ((repeat (first | with_reducible exact Upd.head _ | with_reducible apply Upd.tail)); done) | ((repeat (first | exact Upd.head _ | apply Upd.tail)); done))) (HC.out Aq cq)) (by kernel_rfl)
                clear HM HB
                intro w _ HM HB
                refine hK.out _ _ (HB) (fun hS2 => ?_)
                clear hS hK
                have hS := hS2
                clear hS2
                try simp only [Act.put, List.setIfInBounds_toArray, List.set_cons_zero, List.set_cons_succ]
                refine wpAnyH_done (by kernel_rfl) ?_ _
                clear hS
                exact leaf HM Aq cq bx b0 (by first | exact List.Perm.refl _ | exact List.Perm.swap _ _ _) rfl
          case k =>
            intro A1 c1 bx b0 w HM
            have HB := HM.out.below
            rcases HOR.out with ⟨hbd, h⟩ | ⟨hbd, h⟩
            · rw [h] at HRT
              have HPB := Lib.hid (HPR.out.bad HNE.out (by rw [hbd]; decide))
              rw [hbd] at HPB
              clear hbd h
              go_wp2_with (first | refine m_rd ?_ | (refine m_wr ?_; clear HM HB; intro w b HM HB; try clear b) | fail)
              refine (HRT.out _ _ _).mono ?_
              rintro e w ⟨rfl, hb⟩
              replace HM := Lib.hid (HM.out.call hb)
              replace HB := HM.out.below
              clear hb
              go_wp2_with fail
              go_ret2
              rw [HPB.out]
              exact ⟨[], none, 0, rfl, rfl, RW.nil _ _, fun p hp => absurd hp List.not_mem_nil, HB⟩
            · rw [h] at HRT
              have HST := Lib.hid (HPR.out.step HNE.out hbd)
              rw [HRR.out, HSZ.out] at HST
              clear hbd h
              obtain ⟨p, hpr, hpA, hpc⟩ : ∃ p : RV, p.r = r ∧ p.A = A1 ∧ p.c = c1 := ⟨⟨r, A1, c1⟩, rfl, rfl, rfl⟩
              subst hpr hpA hpc
              have hev := HEV.out p.A p.c
              rw [show (⟨p.r, p.A, p.c⟩ : RV) = p from rfl] at hev
              rw [hev] at HM
              have HEE := Lib.hid hev
              have HRT2 := HRT.out p.A p.c
              rw [hev] at HRT2
              have HRT3 := Lib.hid HRT2
              clear hev HRT2 HRT HEV HC HN1 HL1 HGN HGS HGU HGZ HR1
              have LT1 := Lib.hid (litD p)
              have HN1 : Hid (outs.length + [p].length = outs.length + 1) := Lib.hid rfl
              have HL1 : Hid ((outs.length + 1) * RD.bytes ≤ 140737488355328) := Lib.hid (by have := HOL.out; have := HKK.out; have := HLM.out; simp only [RD]; omega)
              go_wp2_with (first | refine m_rd ?_ | (refine m_wr ?_; clear HM HB; intro w b HM HB; try clear b) | fail)
              refine (HRT3.out _).mono ?_
              rintro e w ⟨rfl, hb⟩
              replace HM := Lib.hid (HM.out.call hb)
              replace HB := HM.out.below
              clear hb
              go_wp2_with (first | ((with_reducible apply m_wrh); (next => exact HM); (next => exact wanted_none rfl); ((with_reducible apply Wr.litR lawD); (next => exact rfl); (next => first | with_reducible exact LT1.out | with_reducible exact LT2.out | with_reducible exact LT3.out | exact LT1.out | exact LT2.out | exact LT3.out); (next => first | (go_simp; done) | exact rfl)); clear HM HB; intro w b HM HB; try clear b) | ((with_reducible apply m_wxh); (next => exact HM); (next => exact wanted_none rfl); ((with_reducible apply Wx.app lawD); (next => exact rfl); (next => first | (go_simp; with_reducible rfl) | exact rfl); (next => first | (go_simp; with_reducible rfl) | exact rfl); (next => (first | ((repeat (first | with_reducible exact Del.head _ | with_reducible apply Del.tail)); done) | ((repeat (first | exact Del.head _ | apply Del.tail)); done))); (next => intro w hm; first | with_reducible exact HR1.out.below hm.below | with_reducible exact HR2.out.below hm.below | exact hm.rw_ lawD (by (first | ((repeat (first | with_reducible exact List.Mem.head _ | with_reducible apply List.Mem.tail)); done) | ((repeat (first | exact List.Mem.head _ | apply List.Mem.tail)); done)))); (next => first | exact HN1.out | exact HN2.out | exact HN3.out | exact HN4.out); (next => first | exact HL1.out | exact HL2.out)); clear HM HB; rintro w ⟨Aq, cq⟩ HM HB) | refine m_rd ?_ | (refine m_wr ?_; clear HM HB; intro w b HM HB; try clear b) | fail)
              go_roundw
              case rel =>
                refine ⟨k + (16 + sz), outs ++ [p], Aq, cq, SF, c3, by rw [← List.drop_drop, HM2.out], ?_, by have := HQ.out; have := HLN.out; rw [List.length_drop] at this; omega, Lib.hid (by have := HOL.out; simp; omega), Lib.hid ?_, Lib.hid (by rw [← List.drop_drop, HM2.out]; exact HRF.out), Lib.hid ?_⟩
                · rw [List.length_append]; rfl
                · rw [List.map_append, ← List.drop_drop]; exact HST.out
                · have hm := (HM.out.pull (show Del (rowE R8 (.slice p.A sz p.c) p.r.d) _ _ by (first | ((repeat (first | with_reducible exact Del.head _ | with_reducible apply Del.tail)); done) | ((repeat (first | exact Del.head _ | apply Del.tail)); done)))).pull (show Del (rowE RD _ (outs ++ [p])) _ _ by (first | ((repeat (first | with_reducible exact Del.head _ | with_reducible apply Del.tail)); done) | ((repeat (first | exact Del.head _ | apply Del.tail)); done)))
                  have hm2 : Mem w0 w (rowE RD (.slice Aq (outs.length + 1) cq) (outs ++ [p]) :: rowE R8 (.slice p.A sz p.c) p.r.d :: dataE outs) := hm.sub (by ((repeat (first | exact List.Sublist.refl _ | apply List.Sublist.cons_cons | apply List.Sublist.cons)); done))
                  rw [← HDL.out] at hm2
                  rw [List.length_append]
                  refine hm2.perm (List.Perm.cons _ ?_)
                  unfold dataE
                  rw [List.map_append]
                  exact (List.perm_append_singleton _ _).symm
              case measure =>
                have e1 : ((l.drop k).drop (16 + sz)).length = (l.drop k).length - (16 + sz) := List.length_drop
                rw [HM2.out, HLN.out] at e1
                show m2 < m
                clear HST HEE
                omega

theorem refParse_any {A : Option Addr} {c : Nat} {l : List UInt8} (w0 : World) (hr : RB w0 (.slice A l.length c) l) (hl : l.length ≤ 1000000) :
    Calls Try.prog 48 #[.slice A l.length c] w0 (ParseOut RD w0 (fileB l)) := by
  have no : ∀ x : Nat, ∀ e w', (e = Ending.returned (.tuple #[.slice none 0 0, .int .i64 (x : Int)]) ∧ Below w0.heap.size w0 w') → ParseOut RD w0 (x, []) e w' := fun x e w' hh => ⟨[], none, 0, hh.1, rfl, RW.nil _ _, fun p hp => absurd hp List.not_mem_nil, hh.2⟩
  unfold fileB
  by_cases h24 : l.length < 24
  · rw [if_pos h24]
    exact (refParse_short w0 h24).mono (no 3)
  · rw [if_neg h24]
    by_cases h1 : l.take 4 = num true 4 2712847316
    · rw [if_pos h1]
      by_cases h3 : l.take 24 = headB true
      · rw [if_pos h3]; exact refParse_good_true w0 hr hl (by omega) h1 h3
      · rw [if_neg h3]; exact (refParse_bad_true w0 hr (by omega) h1 h3).mono (no 5)
    · rw [if_neg h1]
      by_cases h2 : l.take 4 = num false 4 2712847316
      · rw [if_pos h2]
        by_cases h3 : l.take 24 = headB false
        · rw [if_pos h3]; exact refParse_good_false w0 hr hl (by omega) h2 h3
        · rw [if_neg h3]; exact (refParse_bad_false w0 hr (by omega) h2 h3).mono (no 5)
      · rw [if_neg h2]; exact (refParse_no w0 hr hl (by omega) h1 h2).mono (no 9)
-- RFLOOP_END
end Go.Proofs.Ytnehbhhjdjiieaa.Cp
