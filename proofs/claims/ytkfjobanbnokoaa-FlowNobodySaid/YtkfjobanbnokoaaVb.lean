/- Layer 54, plain: which of two flows is ahead. -/
import Derived.Test.YtkfjobanbnokoaaVa
import Derived.Lib.Bytealg
set_option linter.unusedSimpArgs false
set_option linter.unusedVariables false
set_option linter.unusedSectionVars false
set_option maxRecDepth 100000
namespace Go.Proofs.Ytkfjobanbnokoaa.Fw

def cmpZ (a b : Int) : Int := if a < b then -1 else if b < a then 1 else 0
/-- Rows of numbers, the first difference first. -/
def cmpL : List Int → List Int → Int
  | x :: xs, y :: ys => if x < y then -1 else if y < x then 1 else cmpL xs ys
  | _, _ => 0
theorem cmpL_cons (x y : Int) (xs ys : List Int) : cmpL (x :: xs) (y :: ys) = if x < y then -1 else if y < x then 1 else cmpL xs ys := rfl
theorem cmpL_swap : ∀ (x y : List Int), cmpL y x = - cmpL x y
  | [], [] => rfl
  | [], _ :: _ => rfl
  | _ :: _, [] => rfl
  | x :: xs, y :: ys => by
    unfold cmpL
    have := cmpL_swap xs ys
    by_cases h : x < y
    · rw [if_neg (by omega), if_pos h, if_pos h]; rfl
    · by_cases h2 : y < x
      · rw [if_pos h2, if_neg h, if_pos h2]
      · rw [if_neg h2, if_neg h, if_neg h, if_neg h2]; exact this
theorem cmpL_zero : ∀ (x y : List Int), x.length = y.length → (cmpL x y = 0 ↔ x = y)
  | [], [], _ => by simp [cmpL]
  | x :: xs, y :: ys, h => by
    have ih := cmpL_zero xs ys (by simpa using h)
    unfold cmpL
    by_cases h1 : x < y
    · rw [if_pos h1]; simp; omega
    · by_cases h2 : y < x
      · rw [if_neg h1, if_pos h2]; simp; omega
      · obtain rfl : x = y := by omega
        rw [if_neg h1, if_neg h2, ih]; simp
theorem cmpL_self (x : List Int) : cmpL x x = 0 := (cmpL_zero x x rfl).2 rfl
theorem cmpL_val : ∀ (x y : List Int), cmpL x y = -1 ∨ cmpL x y = 0 ∨ cmpL x y = 1
  | [], [] => .inr (.inl rfl)
  | [], _ :: _ => .inr (.inl rfl)
  | _ :: _, [] => .inr (.inl rfl)
  | x :: xs, y :: ys => by
    unfold cmpL
    split
    · exact .inl rfl
    · split
      · exact .inr (.inr rfl)
      · exact cmpL_val xs ys
theorem cmpL_trans : ∀ (x y z : List Int), x.length = y.length → y.length = z.length → cmpL x y < 0 → cmpL y z < 0 → cmpL x z < 0
  | [], [], _, _, _, h, _ => by simp [cmpL] at h
  | x :: xs, y :: ys, [], _, h, _, _ => by simp at h
  | x :: xs, y :: ys, z :: zs, h1, h2, h, k => by
    have ih := cmpL_trans xs ys zs (by simpa using h1) (by simpa using h2)
    unfold cmpL at h k ⊢
    by_cases a1 : x < y
    · by_cases b1 : y < z
      · rw [if_pos (by omega)]; decide
      · rw [if_neg b1] at k
        by_cases b2 : z < y
        · rw [if_pos b2] at k; omega
        · rw [if_pos (by omega)]; decide
    · rw [if_neg a1] at h
      by_cases a2 : y < x
      · rw [if_pos a2] at h; omega
      · rw [if_neg a2] at h
        by_cases b1 : y < z
        · rw [if_pos (by omega)]; decide
        · rw [if_neg b1] at k
          by_cases b2 : z < y
          · rw [if_pos b2] at k; omega
          · rw [if_neg b2] at k
            rw [if_neg (by omega), if_neg (by omega)]
            exact ih h k
theorem cmpL_append : ∀ (x y x' y' : List Int), x.length = y.length → cmpL (x ++ x') (y ++ y') = if cmpL x y = 0 then cmpL x' y' else cmpL x y
  | [], [], x', y', _ => by simp [cmpL]
  | x :: xs, y :: ys, x', y', h => by
    have ih := cmpL_append xs ys x' y' (by simpa using h)
    rw [List.cons_append, List.cons_append]
    by_cases h1 : x < y
    · have e : ∀ a b : List Int, cmpL (x :: a) (y :: b) = -1 := fun a b => by rw [cmpL_cons, if_pos h1]
      rw [e, e]; rfl
    · by_cases h2 : y < x
      · have e : ∀ a b : List Int, cmpL (x :: a) (y :: b) = 1 := fun a b => by rw [cmpL_cons, if_neg h1, if_pos h2]
        rw [e, e]; rfl
      · have e : ∀ a b : List Int, cmpL (x :: a) (y :: b) = cmpL a b := fun a b => by rw [cmpL_cons, if_neg h1, if_neg h2]
        rw [e, e, ih]
theorem cmpL_app1 (a b : Int) (x y : List Int) : cmpL ([a] ++ x) ([b] ++ y) = if cmpL [a] [b] = 0 then cmpL x y else cmpL [a] [b] := cmpL_append _ _ _ _ rfl
theorem cmpL_one (a b : Int) : cmpL [a] [b] = cmpZ a b := rfl
def bytesL (l : List UInt8) : List Int := l.map fun x => (x.toNat : Int)
theorem cmp_bytes : ∀ (x y : List UInt8), x.length = y.length → Lib.compareBytes x y = cmpL (bytesL x) (bytesL y)
  | [], [], _ => rfl
  | x :: xs, y :: ys, h => by
    have ih := cmp_bytes xs ys (by simpa using h)
    unfold bytesL at ih ⊢
    simp only [List.map_cons]
    unfold Lib.compareBytes cmpL
    rw [ih]
    have e1 : (x < y) ↔ ((x.toNat : Int) < (y.toNat : Int)) := by rw [UInt8.lt_iff_toNat_lt]; omega
    have e2 : (y < x) ↔ ((y.toNat : Int) < (x.toNat : Int)) := by rw [UInt8.lt_iff_toNat_lt]; omega
    simp only [e1, e2]
def keyA (a : Adr) : List Int := a.v.toInt :: bytesL a.b.toList
theorem keyA_len (a : Adr) : (keyA a).length = 17 := by simp [keyA, bytesL]
theorem bytesL_inj {x y : List UInt8} (h : bytesL x = bytesL y) : x = y := by
  unfold bytesL at h
  exact List.map_inj_right (fun a b e => UInt8.toNat_inj.1 (by omega)) |>.1 h
theorem keyA_inj {a b : Adr} (h : keyA a = keyA b) : a = b := by
  unfold keyA at h
  injection h with h1 h2
  have e1 := Int64.toInt_inj.1 h1
  have e2 := Vector.toList_inj.1 (bytesL_inj h2)
  cases a; cases b
  simp_all
def lessA (a b : Adr) : Bool := decide (cmpL (keyA a) (keyA b) < 0)
def aheadZ (a b : Adr) : Int := cmpL (keyA a) (keyA b)
theorem aheadZ_is (a b : Adr) : aheadZ a b = if a = b then 0 else if lessA a b then -1 else 1 := by
  unfold aheadZ lessA
  by_cases h : a = b
  · subst h; rw [if_pos rfl, cmpL_self]
  · rw [if_neg h]
    have h0 : cmpL (keyA a) (keyA b) ≠ 0 := fun e => h (keyA_inj ((cmpL_zero _ _ (by rw [keyA_len, keyA_len])).1 e))
    rcases cmpL_val (keyA a) (keyA b) with e | e | e
    · rw [e]; rfl
    · exact absurd e h0
    · rw [e]; rfl
theorem lessA_is (a b : Adr) : lessA a b = if a.v ≠ b.v then decide (a.v.toInt < b.v.toInt) else decide (Lib.compareBytes a.b.toList b.b.toList < 0) := by
  unfold lessA keyA
  rw [cmp_bytes _ _ (by simp), cmpL_cons]
  by_cases h : a.v = b.v
  · rw [h]; simp
  · have h' : a.v.toInt ≠ b.v.toInt := fun e => h (Int64.toInt_inj.1 e)
    simp only [h, ne_eq, not_false_iff, if_true]
    by_cases h1 : a.v.toInt < b.v.toInt
    · simp [h1]
    · have h2 : b.v.toInt < a.v.toInt := by omega
      simp [h1, h2]
def keyF (f : Flow) : List Int := [f.v.toInt] ++ ([f.pr.toInt] ++ (keyA f.s ++ (keyA f.d ++ ([f.sp.toInt] ++ [f.dp.toInt]))))
theorem keyF_len (f : Flow) : (keyF f).length = 38 := by
  unfold keyF
  simp only [List.length_append, keyA_len, List.length_cons, List.length_nil]
theorem one_inj {a b : Int} {x y : List Int} (h : [a] ++ x = [b] ++ y) : a = b ∧ x = y := List.cons.inj h
theorem flow_ext {f g : Flow} (h1 : f.v = g.v) (h2 : f.pr = g.pr) (h3 : f.s = g.s) (h4 : f.d = g.d) (h5 : f.sp = g.sp) (h6 : f.dp = g.dp) : f = g := by
  obtain ⟨a, b, c, d, e, k⟩ := f
  obtain ⟨a', b', c', d', e', k'⟩ := g
  simp only at h1 h2 h3 h4 h5 h6
  rw [h1, h2, h3, h4, h5, h6]
theorem keyF_inj {f g : Flow} (h : keyF f = keyF g) : f = g := by
  unfold keyF at h
  obtain ⟨e1, h⟩ := one_inj h
  obtain ⟨e2, h⟩ := one_inj h
  obtain ⟨e3, h⟩ := append_cut h (by rw [keyA_len, keyA_len])
  obtain ⟨e4, h⟩ := append_cut h (by rw [keyA_len, keyA_len])
  obtain ⟨e5, h⟩ := one_inj h
  have e6 := (List.cons.inj h).1
  exact flow_ext (Int64.toInt_inj.1 e1) (Int64.toInt_inj.1 e2) (keyA_inj e3) (keyA_inj e4) (Int64.toInt_inj.1 e5) (Int64.toInt_inj.1 e6)
def orderZ (f g : Flow) : Int := cmpL (keyF f) (keyF g)
/-- The first that is not 0. -/
def orZ : List Int → Int
  | [] => 0
  | x :: l => if x = 0 then orZ l else x
theorem orderZ_is (f g : Flow) : orderZ f g = orZ [cmpZ f.v.toInt g.v.toInt, cmpZ f.pr.toInt g.pr.toInt, aheadZ f.s g.s, aheadZ f.d g.d, cmpZ f.sp.toInt g.sp.toInt, cmpZ f.dp.toInt g.dp.toInt] := by
  unfold orderZ keyF
  rw [cmpL_app1, cmpL_app1, cmpL_append (keyA f.s) (keyA g.s) _ _ (by rw [keyA_len, keyA_len]), cmpL_append (keyA f.d) (keyA g.d) _ _ (by rw [keyA_len, keyA_len]), cmpL_app1]
  simp only [cmpL_one]
  unfold aheadZ
  simp only [orZ]
  by_cases h : cmpZ f.dp.toInt g.dp.toInt = 0
  · rw [h]; rfl
  · have e : orZ [cmpZ f.dp.toInt g.dp.toInt] = cmpZ f.dp.toInt g.dp.toInt := by unfold orZ; rw [if_neg h]
    rw [show (if cmpZ f.dp.toInt g.dp.toInt = 0 then (0 : Int) else cmpZ f.dp.toInt g.dp.toInt) = cmpZ f.dp.toInt g.dp.toInt from if_neg h]
    rfl
theorem orderZ_swap (f g : Flow) : orderZ g f = - orderZ f g := cmpL_swap _ _
theorem orderZ_zero (f g : Flow) : orderZ f g = 0 ↔ f = g := by
  unfold orderZ
  rw [cmpL_zero _ _ (by rw [keyF_len, keyF_len])]
  exact ⟨keyF_inj, fun e => by rw [e]⟩
def lessF (f g : Flow) : Bool := decide (orderZ f g < 0)
theorem lessF_self (f : Flow) : lessF f f = false := by unfold lessF; rw [(orderZ_zero f f).2 rfl]; rfl
theorem lessF_trans {f g h : Flow} (h1 : lessF f g = true) (h2 : lessF g h = true) : lessF f h = true := by
  unfold lessF at h1 h2 ⊢
  rw [decide_eq_true_eq] at h1 h2 ⊢
  exact cmpL_trans _ _ _ (by rw [keyF_len, keyF_len]) (by rw [keyF_len, keyF_len]) h1 h2
/-- One of two unlike flows is ahead. -/
theorem lessF_one (f g : Flow) : (lessF f g != lessF g f) = decide (f ≠ g) := by
  have h1 := orderZ_swap f g
  have h2 := orderZ_zero f g
  unfold lessF
  rw [h1]
  by_cases h : f = g
  · subst h
    rw [h2.2 rfl]; simp
  · have h3 : orderZ f g ≠ 0 := fun e => h (h2.1 e)
    by_cases h4 : orderZ f g < 0
    · have h5 : ¬ (- orderZ f g < 0) := by omega
      rw [decide_eq_true h4, decide_eq_false h5, decide_eq_true h]; rfl
    · have h5 : (- orderZ f g < 0) := by omega
      rw [decide_eq_false h4, decide_eq_true h5, decide_eq_true h]; rfl
def otherF (f : Flow) : Flow := ⟨f.v, f.pr, f.d, f.s, f.dp, f.sp⟩
theorem other_other (f : Flow) : otherF (otherF f) = f := rfl
def talkF (f : Flow) : Flow := if lessF (otherF f) f then otherF f else f
theorem talk_other (f : Flow) : talkF (otherF f) = talkF f := by
  unfold talkF
  rw [other_other]
  have h := lessF_one f (otherF f)
  by_cases e : f = otherF f
  · rw [← e]
  · rw [decide_eq_true e] at h
    cases h1 : lessF f (otherF f) <;> cases h2 : lessF (otherF f) f <;> simp_all
/-- As the document has it. -/
theorem lessF_is (f g : Flow) : lessF f g = if f.v ≠ g.v then decide (f.v.toInt < g.v.toInt) else if f.pr ≠ g.pr then decide (f.pr.toInt < g.pr.toInt) else if f.s ≠ g.s then lessA f.s g.s else if f.d ≠ g.d then lessA f.d g.d else if f.sp ≠ g.sp then decide (f.sp.toInt < g.sp.toInt) else decide (f.dp.toInt < g.dp.toInt) := by
  have cz : ∀ a b : Int64, cmpZ a.toInt b.toInt = 0 ↔ a = b := fun a b => by
    unfold cmpZ
    constructor
    · intro h
      split at h
      · omega
      · split at h
        · omega
        · exact Int64.toInt_inj.1 (by omega)
    · rintro rfl; simp
  have cl : ∀ a b : Int64, a ≠ b → decide (cmpZ a.toInt b.toInt < 0) = decide (a.toInt < b.toInt) := fun a b h => by
    have : a.toInt ≠ b.toInt := fun e => h (Int64.toInt_inj.1 e)
    unfold cmpZ
    by_cases h1 : a.toInt < b.toInt
    · simp [h1]
    · have h2 : b.toInt < a.toInt := by omega
      simp [h1, h2]
  have az : ∀ a b : Adr, aheadZ a b = 0 ↔ a = b := fun a b => by
    unfold aheadZ
    rw [cmpL_zero _ _ (by rw [keyA_len, keyA_len])]
    exact ⟨keyA_inj, fun e => by rw [e]⟩
  unfold lessF
  rw [orderZ_is]
  unfold orZ
  by_cases h1 : f.v = g.v
  · rw [if_pos ((cz _ _).2 h1), if_neg (by simpa using h1)]
    unfold orZ
    by_cases h2 : f.pr = g.pr
    · rw [if_pos ((cz _ _).2 h2), if_neg (by simpa using h2)]
      unfold orZ
      by_cases h3 : f.s = g.s
      · rw [if_pos ((az _ _).2 h3), if_neg (by simpa using h3)]
        unfold orZ
        by_cases h4 : f.d = g.d
        · rw [if_pos ((az _ _).2 h4), if_neg (by simpa using h4)]
          unfold orZ
          by_cases h5 : f.sp = g.sp
          · rw [if_pos ((cz _ _).2 h5), if_neg (by simpa using h5)]
            unfold orZ
            by_cases h6 : f.dp = g.dp
            · rw [if_pos ((cz _ _).2 h6), h6]; simp [orZ]
            · rw [if_neg (fun e => h6 ((cz _ _).1 e)), cl _ _ h6]
          · rw [if_neg (fun e => h5 ((cz _ _).1 e)), if_pos h5, cl _ _ h5]
        · rw [if_neg (fun e => h4 ((az _ _).1 e)), if_pos h4]; rfl
      · rw [if_neg (fun e => h3 ((az _ _).1 e)), if_pos h3]; rfl
    · rw [if_neg (fun e => h2 ((cz _ _).1 e)), if_pos h2, cl _ _ h2]
  · rw [if_neg (fun e => h1 ((cz _ _).1 e)), if_pos h1, cl _ _ h1]
end Go.Proofs.Ytkfjobanbnokoaa.Fw
