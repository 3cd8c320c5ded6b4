/- Package session: what a session's block holds, and what each of its methods does to it. -/
import Derived.Test.YtapncdgeigbgmaaGn
import Derived.Test.YtapncdgeigbgmaaCtr
import Derived.Test.YtapncdgeigbgmaaRpL
set_option linter.unusedSimpArgs false
set_option linter.unusedVariables false
set_option maxRecDepth 100000
namespace Go.Proofs.Ytapncdgeigbgmaa.Sf
open Go.RowKit Go.Proofs.YtapncdgeigbgmaaW.PrintWords Go.Proofs.Ytapncdgeigbgmaa.Bs Go.Proofs.Ytapncdgeigbgmaa.Rp Go.Proofs.Ytapncdgeigbgmaa.Gm

/-- A session: its key, the two places, the next number, and a window that holds m. -/
structure SesP (b : Nat) (K : Array Value) (lo re n : Int) (m : List Nat) (w : World) : Prop where
  key : ∀ j, j < 32 → w.cell? ⟨b, j, none⟩ = K[j]?
  plo : w.cell? ⟨b, 32, none⟩ = some (.int .u32 lo)
  pre : w.cell? ⟨b, 33, none⟩ = some (.int .u32 re)
  nx : w.cell? ⟨b, 34, none⟩ = some (.int .u64 n)
  fz : w.frozen? ⟨b, 34, none⟩ = false
  win : Holds w b 35 m
theorem Holds.of_cells {w w1 : World} {b b1 o : Nat} {m : List Nat} (h : Holds w b o m) (hc : ∀ j, o ≤ j ∧ j < o + 34 → w1.cell? ⟨b1, j, none⟩ = w.cell? ⟨b, j, none⟩) (hf : ∀ j, o ≤ j ∧ j < o + 34 → w1.frozen? ⟨b1, j, none⟩ = false) : Holds w1 b1 o m := by
  obtain ⟨t, s, R, ⟨c0, c1, c2, f, ht, hR⟩, hi⟩ := h
  exact ⟨t, s, R, ⟨(hc _ ⟨by omega, by omega⟩).trans c0, (hc _ ⟨by omega, by omega⟩).trans c1, fun i hi => (hc _ ⟨by omega, by omega⟩).trans (c2 i hi), fun i hi => hf _ ⟨by omega, by omega⟩, ht, hR⟩, hi⟩
theorem SesP.of_cells {w w1 : World} {b b1 : Nat} {K : Array Value} {lo re n : Int} {m : List Nat} (h : SesP b K lo re n m w) (hc : ∀ j, j < 69 → w1.cell? ⟨b1, j, none⟩ = w.cell? ⟨b, j, none⟩) (hf : ∀ j, j < 69 → w1.frozen? ⟨b1, j, none⟩ = false) : SesP b1 K lo re n m w1 :=
  ⟨fun j hj => (hc j (by omega)).trans (h.key j hj), (hc 32 (by decide)).trans h.plo, (hc 33 (by decide)).trans h.pre, (hc 34 (by decide)).trans h.nx, hf 34 (by decide), Holds.of_cells h.win (fun j hj => hc j (by omega)) (fun j hj => hf j (by omega))⟩
theorem Win.fz {w : World} {b o t : Nat} {s : Bool} {R : Nat → Nat} (h : Win w b o t s R) (j : Nat) (h1 : o ≤ j) (h2 : j < o + 34) : w.frozen? ⟨b, j, none⟩ = false := by
  have := h.2.2.2.1 (j - o) (by omega)
  rwa [show o + (j - o) = j by omega] at this
theorem SesP.lt {w : World} {b : Nat} {K : Array Value} {lo re n : Int} {m : List Nat} (h : SesP b K lo re n m w) : b < w.heap.size := World.block_lt_of_cell? w ⟨b, 34, none⟩ h.nx
theorem SesP.block {w w1 : World} {b : Nat} {K : Array Value} {lo re n : Int} {m : List Nat} (h : SesP b K lo re n m w) (hb : w1.heap[b]? = w.heap[b]?) : SesP b K lo re n m w1 := by
  have hc : ∀ j, w1.cell? ⟨b, j, none⟩ = w.cell? ⟨b, j, none⟩ := fun j => by unfold World.cell?; rw [hb]
  have hf : ∀ j, w1.frozen? ⟨b, j, none⟩ = w.frozen? ⟨b, j, none⟩ := fun j => by unfold World.frozen?; rw [hb]
  obtain ⟨t, s, R, hw, hi⟩ := h.win
  exact ⟨fun j hj => (hc j).trans (h.key j hj), (hc _).trans h.plo, (hc _).trans h.pre, (hc _).trans h.nx, (hf _).trans h.fz, Holds.of_cells ⟨t, s, R, hw, hi⟩ (fun j _ => hc j) (fun j hj => (hf j).trans (Win.fz hw j hj.1 hj.2))⟩
theorem SesP.local_ (b : Nat) (K : Array Value) (lo re n : Int) (m : List Nat) : Local (some b) (fun _ w => SesP b K lo re n m w) := fun base w w1 row h hg hr =>
  h.block (hg.block b h.lt (hr b rfl))
theorem SesP.sent {w : World} {b : Nat} {K : Array Value} {lo re n : Int} {m : List Nat} (h : SesP b K lo re n m w) (n' : Int) : SesP b K lo re n' m (w.setCell ⟨b, 34, none⟩ (.int .u64 n')) := by
  have hc : ∀ j, j ≠ 34 → (w.setCell ⟨b, 34, none⟩ (.int .u64 n')).cell? ⟨b, j, none⟩ = w.cell? ⟨b, j, none⟩ := fun j hj => World.cell?_setCell_other (h := far_off (Ne.symm hj)) ..
  have hf : ∀ j, (w.setCell ⟨b, 34, none⟩ (.int .u64 n')).frozen? ⟨b, j, none⟩ = w.frozen? ⟨b, j, none⟩ := fun j => World.frozen?_setCell _ _ _ _
  obtain ⟨t, s, R, hw, hi⟩ := h.win
  exact ⟨fun j hj => (hc j (by omega)).trans (h.key j hj), (hc _ (by decide)).trans h.plo, (hc _ (by decide)).trans h.pre, World.cell?_setCell_same (h := h.nx) .., (hf _).trans h.fz, Holds.of_cells ⟨t, s, R, hw, hi⟩ (fun j hj => hc j (by omega)) (fun j hj => (hf j).trans (Win.fz hw j hj.1 hj.2))⟩
theorem SesP.took {w w1 : World} {b : Nat} {K : Array Value} {lo re n : Int} {m m' : List Nat} (h : SesP b K lo re n m w) (hr : Wr w w1 b 35) (hm : Holds w1 b 35 m') : SesP b K lo re n m' w1 :=
  ⟨fun j hj => (hr.2.1 j (.inl (by omega))).trans (h.key j hj), (hr.2.1 _ (.inl (by decide))).trans h.plo, (hr.2.1 _ (.inl (by decide))).trans h.pre, (hr.2.1 _ (.inl (by decide))).trans h.nx, (hr.2.2 _).trans h.fz, hm⟩

/-- What is sent. -/
def nextN (n : Int) : Int := if n < Ctr.lim then n + 1 else n
def outN (n : Int) : Int := if n < Ctr.lim then n else 0
def errN (n : Int) : Int := if n < Ctr.lim then 0 else 18
theorem send_any {w : World} {b : Nat} {K : Array Value} {lo re n : Int} {m : List Nat} (h : SesP b K lo re n m w) (h0 : 0 ≤ n) :
    Calls Try.prog 16 #[.pointer (some ⟨b, 0, none⟩)] w fun e w' => e = .returned (.tuple #[.int .u64 (outN n), .int .i64 (errN n)]) ∧ SesP b K lo re (nextN n) m w' ∧ w.grownBy w' (some b) := by
  have H := Lib.hid h
  clear h
  unfold nextN outN errN
  by_cases hn : n < Ctr.lim
  · rw [if_pos hn, if_pos hn, if_pos hn]
    have HN := Lib.hid hn
    clear hn
    go_enter Try.func16, Try.ntmps16
    go_wp2_with fail
    refine (Ctr.next_more ⟨b, 34, none⟩ n _ H.out.nx H.out.fz h0 HN.out).mono ?_
    rintro e w' ⟨rfl, rfl⟩
    go_wp2_with fail
    go_ret2
    exact ⟨rfl, H.out.sent _, grown_set _ _ _ _⟩
  · rw [if_neg hn, if_neg hn, if_neg hn]
    have HN : Hid (Ctr.lim ≤ n) := Lib.hid (by omega)
    clear hn
    go_enter Try.func16, Try.ntmps16
    go_wp2_with fail
    refine (Ctr.next_spent ⟨b, 34, none⟩ n _ H.out.nx HN.out).mono ?_
    rintro e w' ⟨rfl, rfl⟩
    go_wp2_with fail
    go_ret2
    exact ⟨rfl, H.out, World.grownBy.refl _ _⟩
theorem can_any {w : World} {b : Nat} {K : Array Value} {lo re n : Int} {m : List Nat} (h : SesP b K lo re n m w) (x : Nat) (hx : x < 18446744073709551616) :
    Calls Try.prog 17 #[.pointer (some ⟨b, 0, none⟩), .int .u64 x] w fun e w' => e = .returned (.bool (canL m x)) ∧ w = w' := by
  have H := Lib.hid h
  have HX := Lib.hid hx
  clear h hx
  go_enter Try.func17, Try.ntmps17
  go_wp2_with (first | go_at_call 54 ; go_in)
  refine (can_inv b 35 x m _ H.out.win HX.out).mono ?_
  rintro e w' ⟨rfl, rfl⟩
  go_wp2_with fail
  go_ret
  exact ⟨rfl, rfl⟩
def takeL (m : List Nat) (x : Nat) : List Nat := if canL m x = true then m ++ [x] else m
theorem take_any {w : World} {b : Nat} {K : Array Value} {lo re n : Int} {m : List Nat} (h : SesP b K lo re n m w) (x : Nat) (hx : x < 18446744073709551616) :
    Calls Try.prog 18 #[.pointer (some ⟨b, 0, none⟩), .int .u64 x] w fun e w' => e = .returned (.int .i64 (if canL m x = true then 0 else 16)) ∧ SesP b K lo re n (takeL m x) w' ∧ w.grownBy w' (some b) := by
  have H := Lib.hid h
  have HX := Lib.hid hx
  clear h hx
  by_cases hc : canL m x = true
  · rw [if_pos hc]
    have HC := Lib.hid hc
    clear hc
    go_enter Try.func18, Try.ntmps18
    go_wp2_with fail
    refine (take_inv b 35 x m _ H.out.win HX.out).mono ?_
    rintro e w' ⟨rfl, hw, hr⟩
    have HS : Hid (SesP b K lo re n (takeL m x) w' ∧ w.grownBy w' (some b)) := Lib.hid ⟨H.out.took hr hw, hr.1⟩
    clear hw hr
    rw [HC.out]
    go_wp2_with fail
    go_ret
    exact ⟨rfl, HS.out⟩
  · rw [if_neg hc]
    replace hc : canL m x = false := by simpa using hc
    have HC := Lib.hid hc
    clear hc
    go_enter Try.func18, Try.ntmps18
    go_wp2_with fail
    refine (take_inv b 35 x m _ H.out.win HX.out).mono ?_
    rintro e w' ⟨rfl, hw, hr⟩
    have HS : Hid (SesP b K lo re n (takeL m x) w' ∧ w.grownBy w' (some b)) := Lib.hid ⟨H.out.took hr hw, hr.1⟩
    clear hw hr
    rw [HC.out]
    go_wp2_with fail
    go_ret
    exact ⟨rfl, HS.out⟩
theorem spent_any {w : World} {b : Nat} {K : Array Value} {lo re n : Int} {m : List Nat} (h : SesP b K lo re n m w) (h0 : 0 ≤ n) :
    Calls Try.prog 19 #[.pointer (some ⟨b, 0, none⟩)] w fun e w' => e = .returned (.bool (decide (Ctr.lim ≤ n))) ∧ w = w' := by
  have H := Lib.hid h
  clear h
  by_cases hn : Ctr.lim ≤ n
  · rw [decide_eq_true hn]
    have HN := Lib.hid hn
    clear hn
    go_enter Try.func19, Try.ntmps19
    go_wp2_with fail
    refine (Ctr.left_spent ⟨b, 34, none⟩ n _ H.out.nx HN.out).mono ?_
    rintro e w' ⟨rfl, rfl⟩
    go_wp2_with fail
    go_ret
    exact ⟨rfl, rfl⟩
  · rw [decide_eq_false hn]
    have HN : Hid (n < Ctr.lim) := Lib.hid (by omega)
    have hz : (Ctr.lim - n == 0) = false := beq_false_of_ne (by omega)
    unfold Ctr.lim at hz
    clear hn
    go_enter Try.func19, Try.ntmps19
    go_wp2_with fail
    refine (Ctr.left_more ⟨b, 34, none⟩ n _ H.out.nx h0 HN.out).mono ?_
    rintro e w' ⟨rfl, rfl⟩
    go_wp2_with fail
    go_ret
    exact ⟨rfl, rfl⟩
theorem send_nil (w : World) : Calls Try.prog 16 #[.pointer none] w fun e w' => e = .returned (.tuple #[.int .u64 0, .int .i64 2]) ∧ w = w' := by
  go_enter Try.func16, Try.ntmps16
  go_wp2
  go_ret2
  exact ⟨rfl, rfl⟩
theorem can_nil (x : Int) (w : World) : Calls Try.prog 17 #[.pointer none, .int .u64 x] w fun e w' => e = .returned (.bool false) ∧ w = w' := by
  go_enter Try.func17, Try.ntmps17
  go_wp2
  go_ret
  exact ⟨rfl, rfl⟩
theorem take_nil (x : Int) (w : World) : Calls Try.prog 18 #[.pointer none, .int .u64 x] w fun e w' => e = .returned (.int .i64 2) ∧ w = w' := by
  go_enter Try.func18, Try.ntmps18
  go_wp2
  go_ret
  exact ⟨rfl, rfl⟩
theorem spent_nil (w : World) : Calls Try.prog 19 #[.pointer none] w fun e w' => e = .returned (.bool true) ∧ w = w' := by
  go_enter Try.func19, Try.ntmps19
  go_wp2
  go_ret
  exact ⟨rfl, rfl⟩
theorem copy_nil (w : World) : Calls Try.prog 15 #[.pointer none] w fun e w' => e = .returned (.pointer none) ∧ w = w' := by
  go_enter Try.func15, Try.ntmps15
  go_wp2
  go_ret
  exact ⟨rfl, rfl⟩
/-- The cells of a window. -/
def winC (t : Nat) (s : Bool) (R : Nat → Nat) : List Value := [Value.int .u64 t, .bool s] ++ (List.range 32).map (fun i => Value.int .u64 (R i : Int))
theorem winC_length (t : Nat) (s : Bool) (R : Nat → Nat) : (winC t s R).length = 34 := by simp [winC]
theorem winC_at (t : Nat) (s : Bool) (R : Nat → Nat) : (winC t s R)[0]? = some (.int .u64 t) ∧ (winC t s R)[1]? = some (.bool s) ∧ ∀ i, i < 32 → (winC t s R)[2 + i]? = some (.int .u64 (R i : Int)) := by
  refine ⟨rfl, rfl, fun i hi => ?_⟩
  unfold winC
  rw [List.getElem?_append_right (by simp), List.getElem?_map, show 2 + i - ([Value.int .u64 t, .bool s] : List Value).length = i by simp, List.getElem?_range hi]
  rfl
/-- All the cells of a session. -/
def sesC (K : Array Value) (lo re n : Int) (W : List Value) : Array Value := (K.toList ++ [Value.int .u32 lo, .int .u32 re, .int .u64 n] ++ W).toArray
theorem sesC_size (K : Array Value) (lo re n : Int) (W : List Value) (hK : K.size = 32) (hW : W.length = 34) : (sesC K lo re n W).size = 69 := by simp [sesC, hK, hW]
theorem sesC_at (K : Array Value) (lo re n : Int) (W : List Value) (hK : K.size = 32) : (∀ j, j < 32 → (sesC K lo re n W)[j]? = K[j]?) ∧ (sesC K lo re n W)[32]? = some (.int .u32 lo) ∧ (sesC K lo re n W)[33]? = some (.int .u32 re) ∧ (sesC K lo re n W)[34]? = some (.int .u64 n) ∧ ∀ j, (sesC K lo re n W)[35 + j]? = W[j]? := by
  have hl : K.toList.length = 32 := by simpa using hK
  have h3 : (K.toList ++ [Value.int .u32 lo, .int .u32 re, .int .u64 n]).length = 35 := by simp [hK]
  unfold sesC
  refine ⟨fun j hj => ?_, ?_, ?_, ?_, fun j => ?_⟩
  · rw [List.getElem?_toArray, List.append_assoc, List.getElem?_append_left (by omega)]; simp
  · rw [List.getElem?_toArray, List.append_assoc, List.getElem?_append_right (by omega), hl]; rfl
  · rw [List.getElem?_toArray, List.append_assoc, List.getElem?_append_right (by omega), hl]; rfl
  · rw [List.getElem?_toArray, List.append_assoc, List.getElem?_append_right (by omega), hl]; rfl
  · rw [List.getElem?_toArray, List.getElem?_append_right (by omega), h3, show 35 + j - 35 = j by omega]
theorem sesC_one (K : Array Value) (lo re n : Int) (t : Nat) (s : Bool) (R : Nat → Nat) (h1 : K.all (·.oneCell') = true) : (sesC K lo re n (winC t s R)).all (·.oneCell') = true := by
  rw [Array.all_eq_true_iff_forall_mem] at h1 ⊢
  intro v hv
  unfold sesC winC at hv
  simp only [List.mem_toArray, List.mem_append, Array.mem_toList_iff, List.mem_cons, List.not_mem_nil, or_false, List.mem_map] at hv
  rcases hv with (hv | rfl | rfl | rfl) | (rfl | rfl) | ⟨i, _, rfl⟩
  · exact h1 v hv
  all_goals rfl
/-- A block whose cells are a session's is a session. -/
theorem SesP.of_block {w : World} {b : Nat} {K : Array Value} {lo re n : Int} {t : Nat} {s : Bool} {R : Nat → Nat} {m : List Nat} {T : TypeId} (h : w.heap[b]? = some (.cells (sesC K lo re n (winC t s R)) T (0, 0))) (hK : K.size = 32) (ht : t < 18446744073709551616) (hR : ∀ i, i < 32 → R i < 18446744073709551616) (hi : Inv t s R m) : SesP b K lo re n m w := by
  obtain ⟨a0, a1, a2, a3, a4⟩ := sesC_at K lo re n (winC t s R) hK
  obtain ⟨c0, c1, c2⟩ := winC_at t s R
  have hc := fun j => blk_cell h j
  refine ⟨fun j hj => (hc j).trans (a0 j hj), (hc _).trans a1, (hc _).trans a2, (hc _).trans a3, blk_frozen h _, t, s, R, ⟨(hc _).trans ((a4 0).trans c0), (hc _).trans ((a4 1).trans c1), fun i hi => ?_, fun j _ => blk_frozen h _, ht, hR⟩, hi⟩
  rw [show 35 + 2 + i = 35 + (2 + i) by omega]
  exact (hc _).trans ((a4 (2 + i)).trans (c2 i hi))
theorem infoSes : (Try.prog.info? 40).map (·.size) = some 69 := by kernel_rfl
/-- A session's block, read whole. -/
theorem SesP.range {w : World} {b : Nat} {K : Array Value} {lo re n : Int} {m : List Nat} (h : SesP b K lo re n m w) (hK : K.size = 32) : ∃ t s R, Win w b 35 t s R ∧ Inv t s R m ∧ w.rangeAt b 0 (sesC K lo re n (winC t s R)).toList := by
  obtain ⟨t, s, R, hw, hi⟩ := h.win
  refine ⟨t, s, R, hw, hi, fun j v hv => ?_⟩
  obtain ⟨a0, a1, a2, a3, a4⟩ := sesC_at K lo re n (winC t s R) hK
  obtain ⟨c0, c1, c2⟩ := winC_at t s R
  have hv' : (sesC K lo re n (winC t s R))[j]? = some v := by simpa using hv
  rw [Nat.zero_add]
  by_cases h1 : j < 32
  · exact (h.key j h1).trans ((a0 j h1).symm.trans hv')
  by_cases h2 : j = 32
  · subst h2; rw [h.plo, ← a1, hv']
  by_cases h3 : j = 33
  · subst h3; rw [h.pre, ← a2, hv']
  by_cases h4 : j = 34
  · subst h4; rw [h.nx, ← a3, hv']
  obtain ⟨i, rfl⟩ : ∃ i, j = 35 + i := ⟨j - 35, by omega⟩
  have hv2 := (a4 i).symm.trans hv'
  by_cases h5 : i = 0
  · subst h5; rw [show (35 + 0) = 35 from rfl, hw.1, ← c0, hv2]
  by_cases h6 : i = 1
  · subst h6; rw [show (35 + 1) = 35 + 1 from rfl, hw.2.1, ← c1, hv2]
  obtain ⟨k, rfl⟩ : ∃ k, i = 2 + k := ⟨i - 2, by omega⟩
  have hk : k < 32 := by
    obtain ⟨hl, _⟩ := List.getElem?_eq_some_iff.1 hv2
    rw [winC_length] at hl; omega
  rw [show 35 + (2 + k) = 35 + 2 + k by omega, hw.2.2.1 k hk, ← c2 k hk, hv2]
end Go.Proofs.Ytapncdgeigbgmaa.Sf
