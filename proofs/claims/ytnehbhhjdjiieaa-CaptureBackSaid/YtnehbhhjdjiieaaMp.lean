/- Messages and their bytes: what parsing comes to, and that it turns the bytes back. -/
import Derived.Test.YtnehbhhjdjiieaaMv
import Derived.Test.YtnehbhhjdjiieaaLe
set_option linter.unusedSimpArgs false
set_option linter.unusedVariables false
set_option maxRecDepth 100000
namespace Go.Proofs.Ytnehbhhjdjiieaa.Mv
open Go.RowKit Go.Proofs.YtnehbhhjdjiieaaW.PrintWords Go.Proofs.Ytnehbhhjdjiieaa.Bs Go.Proofs.Ytnehbhhjdjiieaa.Le

/-- The bytes of a message: its kind, three zeros, its numbers, its bytes. -/
def raw1 (κ : UInt8) (n : Nat) (L : List UInt8) : List UInt8 := [κ, 0, 0, 0] ++ leB 4 n ++ L
def raw2 (κ : UInt8) (n m : Nat) (L : List UInt8) : List UInt8 := [κ, 0, 0, 0] ++ leB 4 n ++ leB 4 m ++ L
def flat (ns : List Nat) : List UInt8 := (ns.map (leB 4)).flatten
theorem flat_snoc (ns : List Nat) (j : Nat) (h : j < ns.length) : flat (ns.take (j + 1)) = flat (ns.take j) ++ leB 4 (ns.getD j 0) := by
  unfold flat
  rw [List.take_add_one, List.map_append, List.flatten_append]
  simp [List.getD_eq_getElem?_getD, List.getElem?_eq_getElem h]
theorem flat_length : ∀ ns : List Nat, (flat ns).length = 4 * ns.length
  | [] => rfl
  | n :: r => by
    have h := flat_length r
    unfold flat at h ⊢
    rw [List.map_cons, List.flatten_cons, List.length_append, leB_length, h, List.length_cons]
    omega
theorem cutB (l : List UInt8) (a b n : Nat) : (l.drop a).take (b + n) = (l.drop a).take b ++ (l.drop (a + b)).take n := by
  rw [List.take_add, List.drop_drop]
theorem flatten_snoc (ls : List (List UInt8)) (k : Nat) (h : k < ls.length) : (ls.take (k + 1)).flatten = (ls.take k).flatten ++ ls.getD k [] := by
  rw [List.take_add_one, List.flatten_append]
  simp [List.getD_eq_getElem?_getD, List.getElem?_eq_getElem h]
theorem flatten_le (ls : List (List UInt8)) (k : Nat) : (ls.take k).flatten.length ≤ ls.flatten.length := by
  have h : ls.flatten = (ls.take k).flatten ++ (ls.drop k).flatten := by rw [← List.flatten_append, List.take_append_drop]
  rw [h, List.length_append]; omega
theorem raw1_flat (κ : UInt8) (n : Nat) (L : List UInt8) : [κ, 0, 0, 0] ++ flat [n] ++ L = raw1 κ n L := by simp [raw1, flat]
theorem raw2_flat (κ : UInt8) (n m : Nat) (L : List UInt8) : [κ, 0, 0, 0] ++ flat [n, m] ++ L = raw2 κ n m L := by simp [raw2, flat]
/-- Three zeros behind the kind. -/
def zero3 (b : List UInt8) : Prop := b.getD 1 0 = 0 ∧ b.getD 2 0 = 0 ∧ b.getD 3 0 = 0
instance (b : List UInt8) : Decidable (zero3 b) := by unfold zero3; infer_instance
/-- Why bytes are no message of a kind and a length, or 0. -/
def badM (κ : UInt8) (sz : Nat) (b : List UInt8) : Int :=
  if b.length < sz then 3 else if sz < b.length then 4 else if b.getD 0 0 ≠ κ then 9 else if ¬ zero3 b then 10 else 0
def msg1 (κ : UInt8) (sz : Nat) (b : List UInt8) : Array Value := if badM κ (8 + sz) b = 0 then MV [ofLe ((b.drop 4).take 4)] (b.drop 8) else MV [0] (List.replicate sz 0)
def msg2 (κ : UInt8) (sz : Nat) (b : List UInt8) : Array Value := if badM κ (12 + sz) b = 0 then MV [ofLe ((b.drop 4).take 4), ofLe ((b.drop 8).take 4)] (b.drop 12) else MV [0, 0] (List.replicate sz 0)

theorem badM_cases (κ : UInt8) (sz : Nat) (b : List UInt8) : badM κ sz b = 3 ∧ b.length < sz ∨ badM κ sz b = 4 ∧ sz < b.length ∨ badM κ sz b = 9 ∧ b.length = sz ∧ b.getD 0 0 ≠ κ ∨ badM κ sz b = 10 ∧ b.length = sz ∧ b.getD 0 0 = κ ∧ ¬ zero3 b ∨ badM κ sz b = 0 ∧ b.length = sz ∧ b.getD 0 0 = κ ∧ zero3 b := by
  unfold badM
  split
  · exact .inl ⟨rfl, by assumption⟩
  · split
    · exact .inr (.inl ⟨rfl, by assumption⟩)
    · split
      · exact .inr (.inr (.inl ⟨rfl, by omega, by assumption⟩))
      · split
        · exact .inr (.inr (.inr (.inl ⟨rfl, by omega, by simp_all, by assumption⟩)))
        · exact .inr (.inr (.inr (.inr ⟨rfl, by omega, by simp_all, by simp_all⟩)))
theorem badM_zero {κ : UInt8} {sz : Nat} {b : List UInt8} (h : badM κ sz b = 0) : b.length = sz ∧ b.getD 0 0 = κ ∧ zero3 b := by
  rcases badM_cases κ sz b with ⟨h1, _⟩ | ⟨h1, _⟩ | ⟨h1, _⟩ | ⟨h1, _⟩ | ⟨_, h2⟩
  · rw [h] at h1; cases h1
  · rw [h] at h1; cases h1
  · rw [h] at h1; cases h1
  · rw [h] at h1; cases h1
  · exact h2

theorem first4 (b : List UInt8) (h : 4 ≤ b.length) : b.take 4 = [b.getD 0 0, b.getD 1 0, b.getD 2 0, b.getD 3 0] := by
  match b, h with
  | x :: y :: z :: u :: r, _ => simp
theorem back1 {κ : UInt8} {sz : Nat} {b : List UInt8} (h : badM κ (8 + sz) b = 0) : raw1 κ (ofLe ((b.drop 4).take 4)) (b.drop 8) = b := by
  obtain ⟨h1, h2, h3, h4, h5⟩ := badM_zero h
  have e4 : ((b.drop 4).take 4).length = 4 := by simp; omega
  have e : leB 4 (ofLe ((b.drop 4).take 4)) = (b.drop 4).take 4 := by
    have := leB_ofLe ((b.drop 4).take 4)
    rwa [e4] at this
  have f := first4 b (by omega)
  rw [h2, h3, h4, h5] at f
  unfold raw1
  rw [e, ← f, show b.drop 8 = (b.drop 4).drop 4 by rw [List.drop_drop], List.append_assoc, List.take_append_drop, List.take_append_drop]
theorem back2 {κ : UInt8} {sz : Nat} {b : List UInt8} (h : badM κ (12 + sz) b = 0) : raw2 κ (ofLe ((b.drop 4).take 4)) (ofLe ((b.drop 8).take 4)) (b.drop 12) = b := by
  obtain ⟨h1, h2, h3, h4, h5⟩ := badM_zero h
  have e4 : ((b.drop 4).take 4).length = 4 := by simp; omega
  have e8 : ((b.drop 8).take 4).length = 4 := by simp; omega
  have e : leB 4 (ofLe ((b.drop 4).take 4)) = (b.drop 4).take 4 := by
    have := leB_ofLe ((b.drop 4).take 4)
    rwa [e4] at this
  have e2 : leB 4 (ofLe ((b.drop 8).take 4)) = (b.drop 8).take 4 := by
    have := leB_ofLe ((b.drop 8).take 4)
    rwa [e8] at this
  have f := first4 b (by omega)
  rw [h2, h3, h4, h5] at f
  unfold raw2
  rw [e, e2, ← f, show b.drop 12 = (b.drop 8).drop 4 by rw [List.drop_drop], List.append_assoc, List.take_append_drop, show b.drop 8 = (b.drop 4).drop 4 by rw [List.drop_drop], List.append_assoc, List.take_append_drop, List.take_append_drop]
theorem raw1_length (κ : UInt8) (n : Nat) (L : List UInt8) : (raw1 κ n L).length = 8 + L.length := by unfold raw1; simp [leB_length]; omega
theorem raw2_length (κ : UInt8) (n m : Nat) (L : List UInt8) : (raw2 κ n m L).length = 12 + L.length := by unfold raw2; simp [leB_length]; omega
theorem raw1_good (κ : UInt8) (n : Nat) (L : List UInt8) : badM κ (8 + L.length) (raw1 κ n L) = 0 := by
  unfold badM
  rw [raw1_length, if_neg (by omega), if_neg (by omega), if_neg (by simp [raw1]), if_neg (by simp [zero3, raw1])]
theorem raw2_good (κ : UInt8) (n m : Nat) (L : List UInt8) : badM κ (12 + L.length) (raw2 κ n m L) = 0 := by
  unfold badM
  rw [raw2_length, if_neg (by omega), if_neg (by omega), if_neg (by simp [raw2]), if_neg (by simp [zero3, raw2])]
theorem raw1_msg (κ : UInt8) (n sz : Nat) (L : List UInt8) (hn : n < 4294967296) (hL : L.length = sz) : msg1 κ sz (raw1 κ n L) = MV [n] L := by
  subst hL
  unfold msg1
  rw [if_pos (raw1_good κ n L)]
  have e1 : ((raw1 κ n L).drop 4).take 4 = leB 4 n := by unfold raw1; simp [leB_length, List.take_append, List.drop_append, leB]
  have e2 : (raw1 κ n L).drop 8 = L := by unfold raw1; simp [leB_length, List.drop_append, leB]
  rw [e1, e2, ofLe_leB 4 n (by simpa using hn)]
theorem raw2_msg (κ : UInt8) (n m sz : Nat) (L : List UInt8) (hn : n < 4294967296) (hm : m < 4294967296) (hL : L.length = sz) : msg2 κ sz (raw2 κ n m L) = MV [n, m] L := by
  subst hL
  unfold msg2
  rw [if_pos (raw2_good κ n m L)]
  have e1 : ((raw2 κ n m L).drop 4).take 4 = leB 4 n := by unfold raw2; simp [leB_length, List.take_append, List.drop_append, leB]
  have e3 : ((raw2 κ n m L).drop 8).take 4 = leB 4 m := by unfold raw2; simp [leB_length, List.take_append, List.drop_append, leB]
  have e2 : (raw2 κ n m L).drop 12 = L := by unfold raw2; simp [leB_length, List.drop_append, leB]
  rw [e1, e2, e3, ofLe_leB 4 n (by simpa using hn), ofLe_leB 4 m (by simpa using hm)]
/-- The shape of what is parsed. -/
theorem msg1_form (κ : UInt8) (sz : Nat) (b : List UInt8) : ∃ n L, msg1 κ sz b = MV [n] L ∧ n < 4294967296 ∧ L.length = sz := by
  unfold msg1
  split
  · rename_i h
    obtain ⟨h1, _⟩ := badM_zero h
    refine ⟨_, _, rfl, ?_, by simp; omega⟩
    have h2 := ofLe_lt ((b.drop 4).take 4)
    have e4 : ((b.drop 4).take 4).length = 4 := by simp; omega
    rw [e4] at h2
    simpa using h2
  · exact ⟨0, _, rfl, by decide, by simp⟩
theorem msg2_form (κ : UInt8) (sz : Nat) (b : List UInt8) : ∃ n m L, msg2 κ sz b = MV [n, m] L ∧ n < 4294967296 ∧ m < 4294967296 ∧ L.length = sz := by
  unfold msg2
  split
  · rename_i h
    obtain ⟨h1, _⟩ := badM_zero h
    refine ⟨_, _, _, rfl, ?_, ?_, by simp; omega⟩
    · have h2 := ofLe_lt ((b.drop 4).take 4)
      have e4 : ((b.drop 4).take 4).length = 4 := by simp; omega
      rw [e4] at h2
      simpa using h2
    · have h2 := ofLe_lt ((b.drop 8).take 4)
      have e4 : ((b.drop 8).take 4).length = 4 := by simp; omega
      rw [e4] at h2
      simpa using h2
  · exact ⟨0, 0, _, rfl, by decide, by decide, by simp⟩

/-- A row whose place for more is laid beside it. -/
theorem OB.made_cap (W : World) (base l c : Nat) (hb : base ≤ W.heap.size) (hlc : l ≤ c) (hm : c ≤ 281474976710656) :
    OB base (W.alloc (.cells (madeCells #[.int .u8 0] c) 5)) (.slice (some ⟨W.heap.size, 0, none⟩) l c) (List.replicate l 0) := by
  have h := OB.made W base c hb hm
  unfold OB at h ⊢
  rw [List.length_replicate] at h ⊢
  refine ⟨by simp [encs], .inr ⟨W.heap.size, c, madeCells #[.int .u8 0] c, rfl, hb, blk_new W _, hlc, by unfold maxLen; omega, by simp [size_madeCells], ?_⟩⟩
  apply List.ext_getElem
  · simp [encs, madeCells]; omega
  · intro i h1 h2
    simp [encs, madeCells, B, Nat.mod_one]
theorem make_cap (l c : Nat) (hlc : l ≤ c) (hm : c ≤ 281474976710656) (W : World) : (Instr.makeSlice 27 (.int .i64 (l : Int)) (.int .i64 (c : Int))).run Try.prog W = .ok (.slice (some ⟨W.heap.size, 0, none⟩) l c) (W.alloc (.cells (madeCells #[.int .u8 0] c) 5)) := by
  obtain ⟨i, hi, h⟩ := Option.map_eq_some_iff.1 info8
  simp only [Prod.mk.injEq] at h
  have h2 := run_make (P := Try.prog) W 27 5 i (.int .u8 0) Try.underlying27 hi h.1 .i64 .i64 (l : Int) (c : Int) (by omega) (by omega) (by rw [h.2.2]; omega) (by omega)
  rw [h2, h.2.1]
  simp [Value.cells]
end Go.Proofs.Ytnehbhhjdjiieaa.Mv
