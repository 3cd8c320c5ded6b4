/- Layer 55, in plain words: numbers either end first, the front of a file, a record's bytes, records out of bytes. -/
import Derived.Test.YtnehbhhjdjiieaaMp
set_option linter.unusedSimpArgs false
set_option linter.unusedVariables false
namespace Go.Proofs.Ytnehbhhjdjiieaa.Cp
open Go.Proofs.Ytnehbhhjdjiieaa.Le

structure Rec where
  s : Nat
  u : Nat
  z : Nat
  d : List UInt8
def Rec.fits (r : Rec) : Prop := r.s < 4294967296 ∧ r.u < 4294967296 ∧ r.z < 4294967296
def num (big : Bool) (k n : Nat) : List UInt8 := if big then (leB k n).reverse else leB k n
def val (big : Bool) (l : List UInt8) : Nat := ofLe (if big then l.reverse else l)
theorem num_length (big : Bool) (k n : Nat) : (num big k n).length = k := by cases big <;> simp [num, leB_length]
theorem val_num (big : Bool) (k n : Nat) (h : n < 256 ^ k) : val big (num big k n) = n := by cases big <;> simp [num, val, ofLe_leB k n h]
theorem num_val (big : Bool) (l : List UInt8) : num big l.length (val big l) = l := by
  cases big
  · simp [num, val, leB_ofLe]
  · have := leB_ofLe l.reverse
    rw [List.length_reverse] at this
    simp [num, val, this]
theorem val_lt (big : Bool) (l : List UInt8) : val big l < 256 ^ l.length := by
  cases big
  · simpa [val] using ofLe_lt l
  · simpa [val] using ofLe_lt l.reverse
theorem val_iff (big : Bool) (l : List UInt8) (k n : Nat) (hl : l.length = k) (h : n < 256 ^ k) : val big l = n ↔ l = num big k n := by
  subst hl
  constructor
  · rintro rfl; exact (num_val big l).symm
  · intro e; rw [e, val_num big _ _ h]
def headB (big : Bool) : List UInt8 := num big 4 2712847316 ++ num big 2 2 ++ num big 2 4 ++ num big 4 0 ++ num big 4 0 ++ num big 4 65535 ++ num big 4 101
theorem headB_length (big : Bool) : (headB big).length = 24 := by simp [headB, num_length]
def rightR (r : Rec) : Bool := decide (r.u < 1000000) && (decide (r.d.length ≤ 65535) && decide (r.d.length ≤ r.z))
def recB (big : Bool) (r : Rec) : List UInt8 := num big 4 r.s ++ (num big 4 r.u ++ (num big 4 r.d.length ++ (num big 4 r.z ++ r.d)))
theorem recB_length (big : Bool) (r : Rec) : (recB big r).length = 16 + r.d.length := by simp [recB, num_length]; omega
def recsB (big : Bool) (l : List Rec) : List UInt8 := (l.map (recB big)).flatten
/-- How many bytes of data the next record says it has; the record; what is wrong with it. -/
def sizeN (big : Bool) (b : List UInt8) : Nat := val big ((b.drop 8).take 4)
def recN (big : Bool) (b : List UInt8) : Rec := ⟨val big (b.take 4), val big ((b.drop 4).take 4), val big ((b.drop 12).take 4), (b.drop 16).take (sizeN big b)⟩
def badN (big : Bool) (b : List UInt8) : Nat := if b.length < 16 then 3 else if 65535 < sizeN big b then 4 else if b.length - 16 < sizeN big b then 3 else if rightR (recN big b) = true then 0 else 6
/-- All records, or what is wrong. -/
def parseB (big : Bool) (b : List UInt8) : Nat × List Rec :=
  if h : b.length = 0 then (0, []) else if badN big b = 0 then ((parseB big (b.drop (16 + sizeN big b))).1, if (parseB big (b.drop (16 + sizeN big b))).1 = 0 then recN big b :: (parseB big (b.drop (16 + sizeN big b))).2 else []) else (badN big b, [])
termination_by b.length
decreasing_by all_goals (simp only [List.length_drop]; omega)
theorem parseB_nil (big : Bool) : parseB big [] = (0, []) := by rw [parseB]; rfl
theorem parseB_bad {big : Bool} {b : List UInt8} (h : b.length ≠ 0) (hb : badN big b ≠ 0) : parseB big b = (badN big b, []) := by rw [parseB, dif_neg h, if_neg hb]
theorem parseB_good {big : Bool} {b : List UInt8} (h : b.length ≠ 0) (hb : badN big b = 0) : parseB big b = ((parseB big (b.drop (16 + sizeN big b))).1, if (parseB big (b.drop (16 + sizeN big b))).1 = 0 then recN big b :: (parseB big (b.drop (16 + sizeN big b))).2 else []) := by
  rw [parseB, dif_neg h, if_pos hb]
theorem badN_zero {big : Bool} {b : List UInt8} (h : badN big b = 0) : 16 ≤ b.length ∧ sizeN big b ≤ 65535 ∧ sizeN big b ≤ b.length - 16 ∧ rightR (recN big b) = true := by
  unfold badN at h
  split at h
  · cases h
  · split at h
    · cases h
    · split at h
      · cases h
      · split at h
        · exact ⟨by omega, by omega, by omega, by assumption⟩
        · cases h
theorem badN_cases (big : Bool) (b : List UInt8) : badN big b = 3 ∧ b.length < 16 ∨ badN big b = 4 ∧ 16 ≤ b.length ∧ 65535 < sizeN big b ∨ badN big b = 3 ∧ 16 ≤ b.length ∧ sizeN big b ≤ 65535 ∧ b.length - 16 < sizeN big b ∨
    badN big b = 6 ∧ 16 ≤ b.length ∧ sizeN big b ≤ 65535 ∧ sizeN big b ≤ b.length - 16 ∧ rightR (recN big b) = false ∨ badN big b = 0 ∧ 16 ≤ b.length ∧ sizeN big b ≤ 65535 ∧ sizeN big b ≤ b.length - 16 ∧ rightR (recN big b) = true := by
  unfold badN
  split
  · exact .inl ⟨rfl, by assumption⟩
  · split
    · exact .inr (.inl ⟨rfl, by omega, by assumption⟩)
    · split
      · exact .inr (.inr (.inl ⟨rfl, by omega, by omega, by assumption⟩))
      · split
        · exact .inr (.inr (.inr (.inr ⟨rfl, by omega, by omega, by omega, by assumption⟩)))
        · exact .inr (.inr (.inr (.inl ⟨rfl, by omega, by omega, by omega, by simpa using (by assumption : ¬ rightR (recN big b) = true)⟩)))
theorem sizeN_lt (big : Bool) (b : List UInt8) : sizeN big b < 4294967296 := by
  have h := val_lt big ((b.drop 8).take 4)
  have h2 : ((b.drop 8).take 4).length ≤ 4 := List.length_take_le _ _
  have := pow_le h2
  unfold sizeN
  omega
theorem recN_fits (big : Bool) (b : List UInt8) : (recN big b).fits := by
  have k : ∀ l : List UInt8, l.length ≤ 4 → val big l < 4294967296 := fun l hl => by
    have h := val_lt big l
    have := pow_le hl
    omega
  exact ⟨k _ (List.length_take_le _ _), k _ (List.length_take_le _ _), k _ (List.length_take_le _ _)⟩
/-- The bytes of records are parsed as they. -/
theorem cut4 (big : Bool) (r : Rec) (t : List UInt8) (h : r.fits) (hd : r.d.length < 4294967296) : recN big (recB big r ++ t) = r ∧ sizeN big (recB big r ++ t) = r.d.length ∧ (recB big r ++ t).drop (16 + r.d.length) = t := by
  have e : recB big r ++ t = num big 4 r.s ++ (num big 4 r.u ++ (num big 4 r.d.length ++ (num big 4 r.z ++ (r.d ++ t)))) := by simp [recB]
  have l1 := num_length big 4 r.s
  have l2 := num_length big 4 r.u
  have l3 := num_length big 4 r.d.length
  have l4 := num_length big 4 r.z
  have hz : sizeN big (recB big r ++ t) = r.d.length := by
    unfold sizeN
    rw [e, show (8 : Nat) = (num big 4 r.s).length + ((num big 4 r.u).length + 0) by omega, List.drop_length_add_append, List.drop_length_add_append, List.drop_zero, List.take_append_of_le_length (by omega), List.take_of_length_le (by omega)]
    exact val_num big 4 _ (by simpa using hd)
  refine ⟨?_, hz, ?_⟩
  · unfold recN
    rw [hz, e]
    obtain ⟨s, u, z, d⟩ := r
    simp only [Rec.fits] at h l1 l2 l3 l4 ⊢
    congr 1
    · rw [List.take_append_of_le_length (by omega), List.take_of_length_le (by omega)]; exact val_num big 4 _ (by simpa using h.1)
    · rw [List.drop_left' l1, List.take_append_of_le_length (by omega), List.take_of_length_le (by omega)]
      exact val_num big 4 _ (by simpa using h.2.1)
    · rw [show (12 : Nat) = (num big 4 s).length + ((num big 4 u).length + ((num big 4 d.length).length + 0)) by omega, List.drop_length_add_append, List.drop_length_add_append, List.drop_length_add_append, List.drop_zero, List.take_append_of_le_length (by omega), List.take_of_length_le (by omega)]
      exact val_num big 4 _ (by simpa using h.2.2)
    · rw [show (16 : Nat) = (num big 4 s).length + ((num big 4 u).length + ((num big 4 d.length).length + ((num big 4 z).length + 0))) by omega, List.drop_length_add_append, List.drop_length_add_append, List.drop_length_add_append, List.drop_length_add_append, List.drop_zero, List.take_append_of_le_length (by omega), List.take_of_length_le (by omega)]
  · have := recB_length big r
    rw [← this, List.drop_left]
theorem right_le {r : Rec} (h : rightR r = true) : r.d.length ≤ 65535 := by unfold rightR at h; simp at h; omega
theorem parse_back (big : Bool) : ∀ l : List Rec, (∀ r ∈ l, r.fits ∧ rightR r = true) → parseB big (recsB big l) = (0, l)
  | [], _ => parseB_nil big
  | r :: l, h => by
    have hr := h r (List.mem_cons_self ..)
    have hd := right_le hr.2
    have e : recsB big (r :: l) = recB big r ++ recsB big l := rfl
    obtain ⟨h1, h2, h3⟩ := cut4 big r (recsB big l) hr.1 (by omega)
    have hlen : (recB big r ++ recsB big l).length = 16 + r.d.length + (recsB big l).length := by rw [List.length_append, recB_length]
    have hb : badN big (recB big r ++ recsB big l) = 0 := by
      unfold badN
      rw [h1, h2, hlen, if_neg (by omega), if_neg (by omega), if_neg (by omega), if_pos hr.2]
    have ih := parse_back big l (fun q hq => h q (List.mem_cons_of_mem _ hq))
    rw [e, parseB_good (by omega) hb, h2, h3, h1, ih]
    rfl
/-- What is parsed has just these bytes. -/
theorem rec_back {big : Bool} {b : List UInt8} (h : badN big b = 0) : recB big (recN big b) ++ b.drop (16 + sizeN big b) = b := by
  obtain ⟨h1, h2, h3, h4⟩ := badN_zero h
  have k : ∀ o, o + 4 ≤ b.length → num big 4 (val big ((b.drop o).take 4)) = (b.drop o).take 4 := fun o ho => by
    have := num_val big ((b.drop o).take 4)
    rwa [show ((b.drop o).take 4).length = 4 by rw [List.length_take, List.length_drop]; omega] at this
  have hl : ((b.drop 16).take (sizeN big b)).length = sizeN big b := by rw [List.length_take, List.length_drop]; omega
  have cut : ∀ o n, (b.drop o).take n ++ b.drop (o + n) = b.drop o := fun o n => by rw [← List.drop_drop, List.take_append_drop]
  unfold recB recN
  simp only []
  rw [hl, k 4 (by omega), k 12 (by omega), show num big 4 (sizeN big b) = (b.drop 8).take 4 from k 8 (by omega), show num big 4 (val big (b.take 4)) = (b.drop 0).take 4 from k 0 (by omega)]
  simp only [List.append_assoc]
  rw [cut 16, show (16 : Nat) = 12 + 4 from rfl, cut 12, show (12 : Nat) = 8 + 4 from rfl, cut 8, show (8 : Nat) = 4 + 4 from rfl, cut 4]
  have := cut 0 4
  rw [Nat.zero_add] at this
  rw [this, List.drop_zero]
theorem parse_bytes (big : Bool) : ∀ (n : Nat) (b : List UInt8), b.length ≤ n → (parseB big b).1 = 0 → recsB big (parseB big b).2 = b ∧ ∀ r ∈ (parseB big b).2, r.fits ∧ rightR r = true
  | n, [], _, _ => by rw [parseB_nil]; exact ⟨rfl, fun r hr => absurd hr List.not_mem_nil⟩
  | 0, x :: b, h, _ => absurd h (by simp)
  | n + 1, x :: b, h, h0 => by
    have hne : (x :: b).length ≠ 0 := by simp
    by_cases hb : badN big (x :: b) = 0
    · rw [parseB_good hne hb] at h0 ⊢
      simp only [] at h0 ⊢
      rw [if_pos h0]
      obtain ⟨i1, i2⟩ := parse_bytes big n ((x :: b).drop (16 + sizeN big (x :: b))) (by rw [List.length_drop]; omega) h0
      refine ⟨?_, fun r hr => ?_⟩
      · show recB big _ ++ recsB big _ = _
        rw [i1]
        exact rec_back hb
      · rcases List.mem_cons.1 hr with rfl | hr
        · exact ⟨recN_fits big _, (badN_zero hb).2.2.2⟩
        · exact i2 r hr
    · rw [parseB_bad hne hb] at h0
      exact absurd h0 hb
/-- A file: what is wrong, or its records, and which end comes first. -/
def fileB (b : List UInt8) : Nat × List Rec :=
  if b.length < 24 then (3, []) else
  if b.take 4 = num true 4 2712847316 then (if b.take 24 = headB true then parseB true (b.drop 24) else (5, [])) else
  if b.take 4 = num false 4 2712847316 then (if b.take 24 = headB false then parseB false (b.drop 24) else (5, [])) else (9, [])
theorem head_take (big : Bool) : (headB big).take 4 = num big 4 2712847316 := by cases big <;> rfl
theorem file_back (big : Bool) (l : List Rec) (h : ∀ r ∈ l, r.fits ∧ rightR r = true) : fileB (headB big ++ recsB big l) = (0, l) := by
  have hl := headB_length big
  have e1 : (headB big ++ recsB big l).take 24 = headB big := by rw [List.take_append_of_le_length (by omega), List.take_of_length_le (by omega)]
  have e2 : (headB big ++ recsB big l).take 4 = num big 4 2712847316 := by rw [List.take_append_of_le_length (by omega), head_take]
  have e3 : (headB big ++ recsB big l).drop 24 = recsB big l := by rw [← hl, List.drop_left]
  unfold fileB
  rw [if_neg (by rw [List.length_append]; omega), e1, e2, e3]
  cases big
  · rw [if_neg (by decide), if_pos rfl, if_pos rfl]; exact parse_back false l h
  · rw [if_pos rfl, if_pos rfl]; exact parse_back true l h
theorem file_bytes (b : List UInt8) (h : (fileB b).1 = 0) (h0 : b.getD 0 0 = 212) : headB false ++ recsB false (fileB b).2 = b ∧ ∀ r ∈ (fileB b).2, r.fits ∧ rightR r = true := by
  unfold fileB at h ⊢
  split at h
  · cases h
  · rename_i hlen
    rw [if_neg hlen]
    split at h
    · rename_i hb
      exfalso
      have h1 : b.getD 0 0 = (b.take 4).getD 0 0 := by
        rw [List.getD_eq_getElem?_getD, List.getD_eq_getElem?_getD, List.getElem?_take, if_pos (by decide)]
      rw [h1, hb] at h0
      exact absurd h0 (by decide)
    · rename_i hb
      rw [if_neg hb]
      split at h
      · rename_i hc
        rw [if_pos hc]
        split at h
        · rename_i hd
          rw [if_pos hd]
          obtain ⟨i1, i2⟩ := parse_bytes false _ (b.drop 24) (Nat.le_refl _) h
          exact ⟨by rw [i1, ← hd]; exact List.take_append_drop 24 b, i2⟩
        · cases h
      · cases h
/-- The front of a file, number by number. -/
def nsH : List Nat := [0, 0, 65535, 101]
def okH (big : Bool) (l : List UInt8) (j : Nat) : Bool := (val big ((l.drop 4).take 2) == 2 && val big ((l.drop 6).take 2) == 4) && (List.range j).all fun i => val big ((l.drop (8 + 4 * i)).take 4) == nsH.getD i 0
theorem okH_succ (big : Bool) (l : List UInt8) (j : Nat) : okH big l (j + 1) = (okH big l j && val big ((l.drop (8 + 4 * j)).take 4) == nsH.getD j 0) := by
  unfold okH
  rw [List.range_succ, List.all_append, ← Bool.and_assoc]
  simp only [List.all_cons, List.all_nil, Bool.and_true]
theorem cutH (l : List UInt8) (h : 24 ≤ l.length) : l.take 24 = l.take 4 ++ (l.drop 4).take 2 ++ (l.drop 6).take 2 ++ (l.drop 8).take 4 ++ (l.drop 12).take 4 ++ (l.drop 16).take 4 ++ (l.drop 20).take 4 := by
  have c : ∀ a b : Nat, l.take (a + b) = l.take a ++ (l.drop a).take b := fun a b => by rw [List.take_add]
  rw [show (24 : Nat) = 20 + 4 from rfl, c, show (20 : Nat) = 16 + 4 from rfl, c, show (16 : Nat) = 12 + 4 from rfl, c, show (12 : Nat) = 8 + 4 from rfl, c, show (8 : Nat) = 6 + 2 from rfl, c, show (6 : Nat) = 4 + 2 from rfl, c]
theorem head_iff (big : Bool) (l : List UInt8) (h : 24 ≤ l.length) (h4 : l.take 4 = num big 4 2712847316) : (l.take 24 = headB big) = (okH big l 4 = true) := by
  have hl : ∀ o n, o + n ≤ 24 → ((l.drop o).take n).length = n := fun o n ho => by rw [List.length_take, List.length_drop]; omega
  rw [cutH l h, h4]
  unfold headB okH nsH
  have e : ∀ (o n k x : Nat), o + n ≤ 24 → k = n → x < 256 ^ k → (val big ((l.drop o).take n) == x) = decide ((l.drop o).take n = num big k x) := fun o n k x ho hk hx => by
    subst hk
    have := val_iff big ((l.drop o).take k) k x (hl o k ho) hx
    by_cases hv : val big ((l.drop o).take k) = x
    · rw [beq_iff_eq.2 hv, decide_eq_true (this.1 hv)]
    · rw [decide_eq_false (fun hc => hv (this.2 hc))]; simpa using hv
  simp only [List.range_succ, List.range_zero, List.nil_append, List.cons_append, List.all_cons, List.all_nil, Bool.and_true]
  rw [e 4 2 2 2 (by omega) rfl (by decide), e 6 2 2 4 (by omega) rfl (by decide), e (8 + 4 * 0) 4 4 _ (by omega) rfl (by decide), e (8 + 4 * 1) 4 4 _ (by omega) rfl (by decide), e (8 + 4 * 2) 4 4 _ (by omega) rfl (by decide), e (8 + 4 * 3) 4 4 _ (by omega) rfl (by decide)]
  simp only [Bool.and_eq_true, decide_eq_true_eq, eq_iff_iff]
  have n4 : ∀ x, (num big 4 x).length = 4 := num_length big 4
  have n2 : ∀ x, (num big 2 x).length = 2 := num_length big 2
  constructor
  · intro hh
    obtain ⟨h1, h7⟩ := List.append_inj' hh (by rw [hl 20 4 (by omega), n4])
    obtain ⟨h1, h6⟩ := List.append_inj' h1 (by rw [hl 16 4 (by omega), n4])
    obtain ⟨h1, h5⟩ := List.append_inj' h1 (by rw [hl 12 4 (by omega), n4])
    obtain ⟨h1, h4⟩ := List.append_inj' h1 (by rw [hl 8 4 (by omega), n4])
    obtain ⟨h1, h3⟩ := List.append_inj' h1 (by rw [hl 6 2 (by omega), n2])
    obtain ⟨h1, h2⟩ := List.append_inj' h1 (by rw [hl 4 2 (by omega), n2])
    exact ⟨⟨h2, h3⟩, h4, h5, h6, h7⟩
  · rintro ⟨⟨h2, h3⟩, h4, h5, h6, h7⟩
    rw [h2, h3]
    simp only [Nat.reduceMul, Nat.reduceAdd] at h4 h5 h6 h7
    rw [h4, h5, h6, h7]
    rfl
theorem parseB_err (big : Bool) (b : List UInt8) (h : (parseB big b).1 ≠ 0) : (parseB big b).2 = [] := by
  by_cases h0 : b.length = 0
  · rw [List.eq_nil_of_length_eq_zero h0, parseB_nil]
  · by_cases hb : badN big b = 0
    · rw [parseB_good h0 hb] at h ⊢
      simp only [] at h ⊢
      rw [if_neg h]
    · rw [parseB_bad h0 hb]
/-- So many records have been parsed of b0; b is left. -/
def Par (big : Bool) (b0 b : List UInt8) (outs : List Rec) : Prop := (parseB big b0).1 = (parseB big b).1 ∧ ((parseB big b).1 = 0 → (parseB big b0).2 = outs ++ (parseB big b).2)
theorem Par.start (big : Bool) (b : List UInt8) : Par big b b [] := ⟨rfl, fun _ => rfl⟩
theorem Par.step {big : Bool} {b0 b : List UInt8} {outs : List Rec} (h : Par big b0 b outs) (h0 : b.length ≠ 0) (hb : badN big b = 0) : Par big b0 (b.drop (16 + sizeN big b)) (outs ++ [recN big b]) := by
  obtain ⟨h1, h2⟩ := h
  rw [parseB_good h0 hb] at h1 h2
  simp only [] at h1 h2
  refine ⟨h1, fun he => ?_⟩
  have := h2 he
  rw [if_pos he] at this
  rw [this, List.append_assoc]
  rfl
theorem Par.bad {big : Bool} {b0 b : List UInt8} {outs : List Rec} (h : Par big b0 b outs) (h0 : b.length ≠ 0) (hb : badN big b ≠ 0) : parseB big b0 = (badN big b, []) := by
  have h1 := h.1
  rw [parseB_bad h0 hb] at h1
  have h2 := parseB_err big b0 (by rw [h1]; exact hb)
  exact Prod.ext h1 h2
theorem Par.done {big : Bool} {b0 b : List UInt8} {outs : List Rec} (h : Par big b0 b outs) (h0 : b.length = 0) : parseB big b0 = (0, outs) := by
  obtain ⟨h1, h2⟩ := h
  rw [List.eq_nil_of_length_eq_zero h0, parseB_nil] at h1 h2
  have := h2 rfl
  rw [List.append_nil] at this
  exact Prod.ext h1 this
end Go.Proofs.Ytnehbhhjdjiieaa.Cp
