/- Plain: what a head of either family is, and the bytes of one; no program in sight. -/
import Derived.Test.YtahnibhcfdamdaaOs3
import Derived.Test.YtahnibhcfdamdaaLe
set_option linter.unusedSimpArgs false
set_option linter.unusedVariables false
set_option maxRecDepth 100000
namespace Go.Proofs.Ytahnibhcfdamdaa.Ip
open Go Go.Proofs.Ytahnibhcfdamdaa.Le Go.Proofs.Ytahnibhcfdamdaa.Os

def gb (l : List UInt8) (i : Nat) : Nat := (l.getD i 0).toNat
theorem gb_lt (l : List UInt8) (i : Nat) : gb l i < 256 := (l.getD i 0).toNat_lt
theorem gb_getD (l : List UInt8) (i : Nat) : (l.getD i 0).toNat = gb l i := rfl

/-! Family 6. -/
def tot6 (l : List UInt8) : Nat := 40 + (256 * gb l 4 + gb l 5)
def bad6 (l : List UInt8) : Nat := if l.length < 40 then 3 else if gb l 0 / 16 ≠ 6 then 9 else if l.length < tot6 l then 3 else 0
def ns6 (l : List UInt8) : List Int := [6, 40, (tot6 l : Nat), ((16 * (gb l 0 % 16) + gb l 1 / 16 : Nat) : Int), ((65536 * (gb l 1 % 16) + 256 * gb l 2 + gb l 3 : Nat) : Int), 0, 0, (gb l 7 : Nat), (gb l 6 : Nat)]
theorem bad6_cases (l : List UInt8) : bad6 l = 3 ∧ l.length < 40 ∨ bad6 l = 9 ∧ 40 ≤ l.length ∧ gb l 0 / 16 ≠ 6 ∨ bad6 l = 3 ∧ 40 ≤ l.length ∧ gb l 0 / 16 = 6 ∧ l.length < tot6 l ∨ bad6 l = 0 ∧ 40 ≤ l.length ∧ gb l 0 / 16 = 6 ∧ tot6 l ≤ l.length := by
  unfold bad6
  by_cases h1 : l.length < 40
  · exact .inl ⟨if_pos h1, h1⟩
  · rw [if_neg h1]
    by_cases h2 : gb l 0 / 16 ≠ 6
    · exact .inr (.inl ⟨if_pos h2, by omega, h2⟩)
    · rw [if_neg h2]
      by_cases h3 : l.length < tot6 l
      · exact .inr (.inr (.inl ⟨if_pos h3, by omega, by omega, h3⟩))
      · exact .inr (.inr (.inr ⟨if_neg h3, by omega, by omega, by omega⟩))
theorem take_eight (b : List UInt8) (h : 8 ≤ b.length) : b.take 8 = [b.getD 0 0, b.getD 1 0, b.getD 2 0, b.getD 3 0, b.getD 4 0, b.getD 5 0, b.getD 6 0, b.getD 7 0] := by
  match b, h with
  | a0 :: a1 :: a2 :: a3 :: a4 :: a5 :: a6 :: a7 :: r, _ => rfl
theorem take_two (b : List UInt8) (i : Nat) (h : i + 2 ≤ b.length) : (b.drop i).take 2 = [b.getD i 0, b.getD (i + 1) 0] := by
  rw [List.drop_eq_getElem_cons (by omega), List.drop_eq_getElem_cons (by omega)]
  show [_, _] = _
  simp [List.getD_eq_getElem?_getD, List.getElem?_eq_getElem (show i < b.length by omega), List.getElem?_eq_getElem (show i + 1 < b.length by omega)]
/-- The first eight bytes as one number. -/
def top8 (l : List UInt8) : Nat := ofLe (l.take 8).reverse
theorem top8_eq (l : List UInt8) (h : 8 ≤ l.length) : top8 l = 72057594037927936 * gb l 0 + 281474976710656 * gb l 1 + 1099511627776 * gb l 2 + 4294967296 * gb l 3 + 16777216 * gb l 4 + 65536 * gb l 5 + 256 * gb l 6 + gb l 7 := by
  unfold top8 gb
  rw [take_eight l h]
  simp only [List.reverse_cons, List.reverse_nil, List.nil_append, List.cons_append, ofLe]
  omega
theorem top8_lt (l : List UInt8) (h : 8 ≤ l.length) : top8 l < 18446744073709551616 := by
  have := ofLe_lt (l.take 8).reverse
  rw [List.length_reverse, List.length_take, Nat.min_eq_left h] at this
  exact this
theorem two_eq (l : List UInt8) (i : Nat) (h : i + 2 ≤ l.length) : ofLe ((l.drop i).take 2).reverse = 256 * gb l i + gb l (i + 1) := by
  rw [take_two l i h]
  unfold gb
  simp only [List.reverse_cons, List.reverse_nil, List.nil_append, List.cons_append, ofLe]
  omega
theorem top8_parts (l : List UInt8) (h : 8 ≤ l.length) : top8 l / 65536 % 65536 = 256 * gb l 4 + gb l 5 ∧ top8 l / 4503599627370496 % 256 = 16 * (gb l 0 % 16) + gb l 1 / 16 ∧ top8 l / 4294967296 % 1048576 = 65536 * (gb l 1 % 16) + 256 * gb l 2 + gb l 3 ∧ top8 l / 256 % 256 = gb l 6 ∧ top8 l % 256 = gb l 7 := by
  have e := top8_eq l h
  have h0 := gb_lt l 0
  have h1 := gb_lt l 1
  have h2 := gb_lt l 2
  have h3 := gb_lt l 3
  have h4 := gb_lt l 4
  have h5 := gb_lt l 5
  have h6 := gb_lt l 6
  have h7 := gb_lt l 7
  generalize gb l 0 = a0 at *
  generalize gb l 1 = a1 at *
  generalize gb l 2 = a2 at *
  generalize gb l 3 = a3 at *
  generalize gb l 4 = a4 at *
  generalize gb l 5 = a5 at *
  generalize gb l 6 = a6 at *
  generalize gb l 7 = a7 at *
  generalize top8 l = F at *
  refine ⟨?_, ?_, ?_, ?_, ?_⟩ <;> omega

/-! Family 4. -/
def siz4 (l : List UInt8) : Nat := 4 * (gb l 0 % 16)
def tot4 (l : List UInt8) : Nat := 256 * gb l 2 + gb l 3
/-- Why there is no size. -/
def badS (l : List UInt8) : Nat :=
  if l.length < 20 then 3 else if gb l 0 / 16 ≠ 4 then 9 else if siz4 l < 20 then 5 else if l.length < siz4 l then 3 else if tot4 l < siz4 l then 5 else if l.length < tot4 l then 3 else 0
def bad4 (l : List UInt8) : Nat := if badS l ≠ 0 then badS l else if sum16 (l.take (siz4 l)) ≠ 65535 then 11 else 0
def ns4 (l : List UInt8) : List Int := [4, (siz4 l : Nat), (tot4 l : Nat), (gb l 1 : Nat), ((256 * gb l 4 + gb l 5 : Nat) : Int), ((gb l 6 / 32 : Nat) : Int), (((256 * gb l 6 + gb l 7) % 8192 : Nat) : Int), (gb l 8 : Nat), (gb l 9 : Nat)]
theorem badS_cases (l : List UInt8) : badS l = 3 ∧ l.length < 20 ∨ badS l = 9 ∧ 20 ≤ l.length ∧ gb l 0 / 16 ≠ 4 ∨ badS l = 5 ∧ 20 ≤ l.length ∧ gb l 0 / 16 = 4 ∧ siz4 l < 20 ∨ badS l = 3 ∧ 20 ≤ l.length ∧ gb l 0 / 16 = 4 ∧ 20 ≤ siz4 l ∧ l.length < siz4 l ∨
    badS l = 5 ∧ 20 ≤ l.length ∧ gb l 0 / 16 = 4 ∧ 20 ≤ siz4 l ∧ siz4 l ≤ l.length ∧ tot4 l < siz4 l ∨ badS l = 3 ∧ 20 ≤ l.length ∧ gb l 0 / 16 = 4 ∧ 20 ≤ siz4 l ∧ siz4 l ≤ l.length ∧ siz4 l ≤ tot4 l ∧ l.length < tot4 l ∨
    badS l = 0 ∧ 20 ≤ l.length ∧ gb l 0 / 16 = 4 ∧ 20 ≤ siz4 l ∧ siz4 l ≤ l.length ∧ siz4 l ≤ tot4 l ∧ tot4 l ≤ l.length := by
  by_cases h1 : l.length < 20
  · have e : badS l = 3 := by unfold badS; rw [if_pos h1]
    exact .inl ⟨e, h1⟩
  by_cases h2 : gb l 0 / 16 ≠ 4
  · have e : badS l = 9 := by unfold badS; rw [if_neg h1, if_pos h2]
    exact .inr (.inl ⟨e, by omega, h2⟩)
  by_cases h3 : siz4 l < 20
  · have e : badS l = 5 := by unfold badS; rw [if_neg h1, if_neg h2, if_pos h3]
    exact .inr (.inr (.inl ⟨e, by omega, by omega, h3⟩))
  by_cases h4 : l.length < siz4 l
  · have e : badS l = 3 := by unfold badS; rw [if_neg h1, if_neg h2, if_neg h3, if_pos h4]
    exact .inr (.inr (.inr (.inl ⟨e, by omega, by omega, by omega, h4⟩)))
  by_cases h5 : tot4 l < siz4 l
  · have e : badS l = 5 := by unfold badS; rw [if_neg h1, if_neg h2, if_neg h3, if_neg h4, if_pos h5]
    exact .inr (.inr (.inr (.inr (.inl ⟨e, by omega, by omega, by omega, by omega, h5⟩))))
  by_cases h6 : l.length < tot4 l
  · have e : badS l = 3 := by unfold badS; rw [if_neg h1, if_neg h2, if_neg h3, if_neg h4, if_neg h5, if_pos h6]
    exact .inr (.inr (.inr (.inr (.inr (.inl ⟨e, by omega, by omega, by omega, by omega, by omega, h6⟩)))))
  have e : badS l = 0 := by unfold badS; rw [if_neg h1, if_neg h2, if_neg h3, if_neg h4, if_neg h5, if_neg h6]
  exact .inr (.inr (.inr (.inr (.inr (.inr ⟨e, by omega, by omega, by omega, by omega, by omega, by omega⟩)))))

/-! The bytes of a head of family 6. -/
def raw6 (c i n p t : Nat) : List UInt8 := [UInt8.ofNat (96 + c / 16), UInt8.ofNat (16 * (c % 16) + i / 65536), UInt8.ofNat (i / 256 % 256), UInt8.ofNat (i % 256), UInt8.ofNat (n / 256), UInt8.ofNat (n % 256), UInt8.ofNat p, UInt8.ofNat t]
theorem leB8 (F : Nat) : (leB 8 F).reverse = [UInt8.ofNat (F / 256 / 256 / 256 / 256 / 256 / 256 / 256 % 256), UInt8.ofNat (F / 256 / 256 / 256 / 256 / 256 / 256 % 256), UInt8.ofNat (F / 256 / 256 / 256 / 256 / 256 % 256), UInt8.ofNat (F / 256 / 256 / 256 / 256 % 256), UInt8.ofNat (F / 256 / 256 / 256 % 256), UInt8.ofNat (F / 256 / 256 % 256), UInt8.ofNat (F / 256 % 256), UInt8.ofNat (F % 256)] := rfl
theorem raw6_of (F c i n p t : Nat) (hF : F = 6917529027641081856 + c * 4503599627370496 + i * 4294967296 + n * 65536 + p * 256 + t) (hc : c < 256) (hi : i < 1048576) (hn : n < 65536) (hp : p < 256) (ht : t < 256) :
    (leB 8 F).reverse = raw6 c i n p t := by
  have e0 : F / 256 / 256 / 256 / 256 / 256 / 256 / 256 % 256 = 96 + c / 16 := by omega
  have e1 : F / 256 / 256 / 256 / 256 / 256 / 256 % 256 = 16 * (c % 16) + i / 65536 := by omega
  have e2 : F / 256 / 256 / 256 / 256 / 256 % 256 = i / 256 % 256 := by omega
  have e3 : F / 256 / 256 / 256 / 256 % 256 = i % 256 := by omega
  have e4 : F / 256 / 256 / 256 % 256 = n / 256 := by omega
  have e5 : F / 256 / 256 % 256 = n % 256 := by omega
  have e6 : F / 256 % 256 = p := by omega
  have e7 : F % 256 = t := by omega
  rw [leB8, e0, e1, e2, e3, e4, e5, e6, e7]
  rfl
theorem raw6_big (c i n p t : Nat) (hc : c < 256) (hi : i < 1048576) (hn : n < 65536) (hp : p < 256) (ht : t < 256) :
    (leB 8 (6917529027641081856 + c * 4503599627370496 + i * 4294967296 + n * 65536 + p * 256 + t)).reverse = raw6 c i n p t := raw6_of _ c i n p t rfl hc hi hn hp ht
/-- Two numbers that share no bit. -/
theorem or_apart (h l k : Nat) (hl : l < 2 ^ k) (hs : h * 2 ^ k + l < 18446744073709551616) : bits .or .u64 ((h * 2 ^ k : Nat) : Int) (l : Int) = ((h * 2 ^ k + l : Nat) : Int) := by
  rw [u64_or_nat (h * 2 ^ k) l (by omega) (by omega), nat_join k (h * 2 ^ k) l (Nat.mul_mod_left _ _) hl]
theorem raw6_or (c i n p t : Nat) (hc : c < 256) (hi : i < 1048576) (hn : n < 65536) (hp : p < 256) (ht : t < 256) :
    bits .or .u64 6917529027641081856 ((c * 4503599627370496 : Nat) : Int) = ((6917529027641081856 + c * 4503599627370496 : Nat) : Int) ∧
    bits .or .u64 ((6917529027641081856 + c * 4503599627370496 : Nat) : Int) ((i * 4294967296 : Nat) : Int) = ((6917529027641081856 + c * 4503599627370496 + i * 4294967296 : Nat) : Int) ∧
    bits .or .u64 ((6917529027641081856 + c * 4503599627370496 + i * 4294967296 : Nat) : Int) ((n * 65536 : Nat) : Int) = ((6917529027641081856 + c * 4503599627370496 + i * 4294967296 + n * 65536 : Nat) : Int) ∧
    bits .or .u64 ((6917529027641081856 + c * 4503599627370496 + i * 4294967296 + n * 65536 : Nat) : Int) ((p * 256 : Nat) : Int) = ((6917529027641081856 + c * 4503599627370496 + i * 4294967296 + n * 65536 + p * 256 : Nat) : Int) ∧
    bits .or .u64 ((6917529027641081856 + c * 4503599627370496 + i * 4294967296 + n * 65536 + p * 256 : Nat) : Int) (t : Int) = ((6917529027641081856 + c * 4503599627370496 + i * 4294967296 + n * 65536 + p * 256 + t : Nat) : Int) := by
  have p60 : (2 : Nat) ^ 60 = 1152921504606846976 := by decide
  have p52 : (2 : Nat) ^ 52 = 4503599627370496 := by decide
  have p32 : (2 : Nat) ^ 32 = 4294967296 := by decide
  have p16 : (2 : Nat) ^ 16 = 65536 := by decide
  have p8 : (2 : Nat) ^ 8 = 256 := by decide
  have g1 := or_apart 6 (c * 4503599627370496) 60 (by omega) (by omega)
  have g2 := or_apart (1536 + c) (i * 4294967296) 52 (by omega) (by omega)
  have g3 := or_apart (1610612736 + c * 1048576 + i) (n * 65536) 32 (by omega) (by omega)
  have g4 := or_apart (105553116266496 + c * 68719476736 + i * 65536 + n) (p * 256) 16 (by omega) (by omega)
  have g5 := or_apart (27021597764222976 + c * 17592186044416 + i * 16777216 + n * 256 + p) t 8 (by omega) (by omega)
  rw [p60] at g1
  rw [p52, show (1536 + c) * 4503599627370496 = 6917529027641081856 + c * 4503599627370496 by omega] at g2
  rw [p32, show (1610612736 + c * 1048576 + i) * 4294967296 = 6917529027641081856 + c * 4503599627370496 + i * 4294967296 by omega] at g3
  rw [p16, show (105553116266496 + c * 68719476736 + i * 65536 + n) * 65536 = 6917529027641081856 + c * 4503599627370496 + i * 4294967296 + n * 65536 by omega] at g4
  rw [p8, show (27021597764222976 + c * 17592186044416 + i * 16777216 + n * 256 + p) * 256 = 6917529027641081856 + c * 4503599627370496 + i * 4294967296 + n * 65536 + p * 256 by omega] at g5
  exact ⟨g1, g2, g3, g4, g5⟩
def all6 (c i p t : Nat) (x y body : List UInt8) : List UInt8 := raw6 c i body.length p t ++ x ++ y ++ body
theorem gb_ofNat (n : Nat) (h : n < 256) : (UInt8.ofNat n).toNat = n := by simp only [UInt8.toNat_ofNat']; omega
theorem all6_back (c i p t : Nat) (x y body : List UInt8) (hc : c < 256) (hi : i < 1048576) (hn : body.length < 65536) (hp : p < 256) (ht : t < 256) (hx : x.length = 16) (hy : y.length = 16) :
    bad6 (all6 c i p t x y body) = 0 ∧ ns6 (all6 c i p t x y body) = [6, 40, ((40 + body.length : Nat) : Int), (c : Int), (i : Int), 0, 0, (t : Int), (p : Int)] ∧ ((all6 c i p t x y body).drop 8).take 16 = x ∧ ((all6 c i p t x y body).drop 24).take 16 = y ∧ (all6 c i p t x y body).length = 40 + body.length := by
  have hl : (all6 c i p t x y body).length = 40 + body.length := by simp [all6, raw6, hx, hy]; omega
  have q0 : gb (all6 c i p t x y body) 0 = 96 + c / 16 := gb_ofNat _ (by omega)
  have q1 : gb (all6 c i p t x y body) 1 = 16 * (c % 16) + i / 65536 := gb_ofNat _ (by omega)
  have q2 : gb (all6 c i p t x y body) 2 = i / 256 % 256 := gb_ofNat _ (by omega)
  have q3 : gb (all6 c i p t x y body) 3 = i % 256 := gb_ofNat _ (by omega)
  have q4 : gb (all6 c i p t x y body) 4 = body.length / 256 := gb_ofNat _ (by omega)
  have q5 : gb (all6 c i p t x y body) 5 = body.length % 256 := gb_ofNat _ (by omega)
  have q6 : gb (all6 c i p t x y body) 6 = p := gb_ofNat _ hp
  have q7 : gb (all6 c i p t x y body) 7 = t := gb_ofNat _ ht
  have ht6 : tot6 (all6 c i p t x y body) = 40 + body.length := by unfold tot6; rw [q4, q5]; omega
  refine ⟨?_, ?_, ?_, ?_, hl⟩
  · rcases bad6_cases (all6 c i p t x y body) with ⟨h, h1⟩ | ⟨h, h1, h2⟩ | ⟨h, h1, h2, h3⟩ | ⟨h, _⟩
    · omega
    · rw [q0] at h2; omega
    · omega
    · exact h
  · unfold ns6
    rw [ht6, q0, q1, q2, q3, q6, q7]
    congr 4
    · congr 1
      omega
    · congr 1
      · congr 1; omega
  · show ((x ++ y ++ body).take 16) = x
    rw [List.append_assoc, List.take_append_of_le_length (by omega), List.take_of_length_le (by omega)]
  · show (((x ++ y ++ body).drop 16).take 16) = y
    rw [List.append_assoc, List.drop_append, List.drop_of_length_le (by omega), List.nil_append, hx, Nat.sub_self, List.drop_zero, List.take_append_of_le_length (by omega), List.take_of_length_le (by omega)]

/-! The bytes of a head of family 4. -/
def raw4 (c n i f r t p : Nat) : List UInt8 := [69, UInt8.ofNat c, UInt8.ofNat (n / 256), UInt8.ofNat (n % 256), UInt8.ofNat (i / 256), UInt8.ofNat (i % 256), UInt8.ofNat ((8192 * f + r) / 256), UInt8.ofNat ((8192 * f + r) % 256), UInt8.ofNat t, UInt8.ofNat p, 0, 0]
/-- The head without its check. -/
def bare4 (c n i f r t p : Nat) (x y : List UInt8) : List UInt8 := raw4 c n i f r t p ++ x ++ y
def head4 (c n i f r t p : Nat) (x y : List UInt8) : List UInt8 := filled (bare4 c n i f r t p x y) 5 (65535 - sum16 (bare4 c n i f r t p x y))
theorem bare4_length (c n i f r t p : Nat) (x y : List UInt8) (hx : x.length = 4) (hy : y.length = 4) : (bare4 c n i f r t p x y).length = 20 := by simp [bare4, raw4, hx, hy]
theorem bare4_blank (c n i f r t p : Nat) (x y : List UInt8) : Os.blank (bare4 c n i f r t p x y) 5 = bare4 c n i f r t p x y := by
  unfold Os.blank bare4 raw4
  rfl
theorem list4 {l : List UInt8} (h : l.length = 4) : ∃ a b c d : UInt8, l = [a, b, c, d] := by
  match l, h with
  | [a, b, c, d], _ => exact ⟨a, b, c, d, rfl⟩
theorem head4_form (c n i f r t p : Nat) (x y : List UInt8) : head4 c n i f r t p x y = ((raw4 c n i f r t p).take 10).append ([UInt8.ofNat ((65535 - sum16 (bare4 c n i f r t p x y)) / 256), UInt8.ofNat ((65535 - sum16 (bare4 c n i f r t p x y)) % 256)] ++ (x ++ y)) := by
  unfold head4
  generalize 65535 - sum16 (bare4 c n i f r t p x y) = s
  unfold filled
  rw [bare4_blank]
  rfl
def all4 (c i f r t p : Nat) (x y body : List UInt8) : List UInt8 := head4 c (20 + body.length) i f r t p x y ++ body
theorem all4_back (c i f r t p : Nat) (x y body : List UInt8) (hc : c < 256) (hi : i < 65536) (hn : 20 + body.length < 65536) (hf : f < 8) (hr : r < 8192) (ht : t < 256) (hp : p < 256) (hx : x.length = 4) (hy : y.length = 4) :
    bad4 (all4 c i f r t p x y body) = 0 ∧ ns4 (all4 c i f r t p x y body) = [4, 20, ((20 + body.length : Nat) : Int), (c : Int), (i : Int), (f : Int), (r : Int), (t : Int), (p : Int)] ∧ ((all4 c i f r t p x y body).drop 12).take 4 = x ∧ ((all4 c i f r t p x y body).drop 16).take 4 = y ∧ (all4 c i f r t p x y body).length = 20 + body.length ∧ siz4 (all4 c i f r t p x y body) = 20 := by
  have hb := bare4_length c (20 + body.length) i f r t p x y hx hy
  have hg := (filled_good (bare4 c (20 + body.length) i f r t p x y) 5 (by rw [hb]; decide)).2.2
  rw [bare4_blank] at hg
  change sum16 (head4 c (20 + body.length) i f r t p x y) = 65535 at hg
  have h20 : (head4 c (20 + body.length) i f r t p x y).length = 20 := by unfold head4; rw [filled_length, hb]
  have hl : (all4 c i f r t p x y body).length = 20 + body.length := by unfold all4; rw [List.length_append, h20]
  have hform := head4_form c (20 + body.length) i f r t p x y
  generalize 65535 - sum16 (bare4 c (20 + body.length) i f r t p x y) = s at hform
  have hall : all4 c i f r t p x y body = (((raw4 c (20 + body.length) i f r t p).take 10).append ([UInt8.ofNat (s / 256), UInt8.ofNat (s % 256)] ++ (x ++ y))) ++ body := by unfold all4; rw [hform]
  have q0 : gb (all4 c i f r t p x y body) 0 = 69 := by rw [hall]; rfl
  have q1 : gb (all4 c i f r t p x y body) 1 = c := by rw [hall]; exact gb_ofNat _ hc
  have q2 : gb (all4 c i f r t p x y body) 2 = (20 + body.length) / 256 := by rw [hall]; exact gb_ofNat _ (by omega)
  have q3 : gb (all4 c i f r t p x y body) 3 = (20 + body.length) % 256 := by rw [hall]; exact gb_ofNat _ (by omega)
  have q4 : gb (all4 c i f r t p x y body) 4 = i / 256 := by rw [hall]; exact gb_ofNat _ (by omega)
  have q5 : gb (all4 c i f r t p x y body) 5 = i % 256 := by rw [hall]; exact gb_ofNat _ (by omega)
  have q6 : gb (all4 c i f r t p x y body) 6 = (8192 * f + r) / 256 := by rw [hall]; exact gb_ofNat _ (by omega)
  have q7 : gb (all4 c i f r t p x y body) 7 = (8192 * f + r) % 256 := by rw [hall]; exact gb_ofNat _ (by omega)
  have q8 : gb (all4 c i f r t p x y body) 8 = t := by rw [hall]; exact gb_ofNat _ ht
  have q9 : gb (all4 c i f r t p x y body) 9 = p := by rw [hall]; exact gb_ofNat _ hp
  have e1 : siz4 (all4 c i f r t p x y body) = 20 := by unfold siz4; rw [q0]
  have e2 : tot4 (all4 c i f r t p x y body) = 20 + body.length := by unfold tot4; rw [q2, q3]; omega
  have e3 : (all4 c i f r t p x y body).take 20 = head4 c (20 + body.length) i f r t p x y := by unfold all4; rw [List.take_append_of_le_length (by omega), List.take_of_length_le (by omega)]
  have e4 : badS (all4 c i f r t p x y body) = 0 := by
    rcases badS_cases (all4 c i f r t p x y body) with h | h | h | h | h | h | h
    all_goals (clear hall hform hr hf; generalize siz4 (all4 c i f r t p x y body) = u1 at *; generalize tot4 (all4 c i f r t p x y body) = u2 at *; generalize gb (all4 c i f r t p x y body) 0 = u3 at *; omega)
  refine ⟨?_, ?_, ?_, ?_, hl, e1⟩
  · unfold bad4
    rw [if_neg (by rw [e4]; simp), e1, e3, if_neg (by rw [hg]; simp)]
  · unfold ns4
    rw [e1, e2, q1, q4, q5, q6, q7, q8, q9]
    rw [show 256 * (i / 256) + i % 256 = i by omega, show (8192 * f + r) / 256 / 32 = f by omega, show (256 * ((8192 * f + r) / 256) + (8192 * f + r) % 256) % 8192 = r by omega]
    rfl
  · rw [hall]
    show ((x ++ y ++ body).take 4) = x
    rw [List.append_assoc, List.take_append_of_le_length (by omega), List.take_of_length_le (by omega)]
  · rw [hall]
    obtain ⟨a, b, c', d, rfl⟩ := list4 hx
    show ((y ++ body).take 4) = y
    rw [List.take_append_of_le_length (by omega), List.take_of_length_le (by omega)]
end Go.Proofs.Ytahnibhcfdamdaa.Ip
