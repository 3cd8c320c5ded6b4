/- The seat's base: bytes as values (B), what a slice of bytes reads as (RB), a row of bytes of the call's own (OB), and how these live on. Plain facts on numbers as bytes, the lowest first: no program in sight. Package endian and its reference: what each call comes to, over the bytes. A struct that is one block: loaded and stored whole, whatever its cells. A composite literal without fields, as one step. Addresses and heads as cells: whole numbers, then bytes; and what lies in a block of such cells. Messages as cells: whole numbers, then bytes; and what lies in a block of such cells. Messages and their bytes: what parsing comes to, and that it turns the bytes back. slices.Concat of slices of bytes. Package onesum and its reference: the sum of words with its carries brought round, as a plain function of the bytes; each call comes to it. The rest of onesum's chapter: the turned bit, the guards, the chapter's examples, and the walks of its three laws. The walk of the law OnesumCheck: what is checked is good, and with one bit turned it is not. -/
import Derived.Test.YtkfjobanbnokoaaProg
import Derived.Test.YtkfjobanbnokoaaWWords
import Derived.Lib.Hide
import Derived.Laws.CopyOwn
import Derived.Laws.BitsAllLaws
import Derived.WalkKit
import Derived.RowKit3
import Derived.Deep.LoopGhost
import Derived.Deep.QuietTactic
import Derived.BigQuiet
import Derived.RegionTactic
import Derived.ChangeAlike
import Derived.Deep.MidRow
import Derived.Lib.AppendZeros
set_option linter.unusedSimpArgs false
set_option linter.unusedVariables false
set_option maxRecDepth 100000
namespace Go.Proofs.Ytkfjobanbnokoaa.Bs
open Go.RowKit Go.Proofs.YtkfjobanbnokoaaW.PrintWords

/-- A byte as a value. -/
def B (x : UInt8) : Value := .int .u8 (x.toNat : Int)
theorem B_eq (x : UInt8) : B x = .int .u8 (x.toNat : Int) := rfl
theorem B_one (x : UInt8) : (B x).oneCell' = true := rfl
theorem byte_lt (x : UInt8) : (x.toNat : Int) < 256 := by have := x.toNat_lt; omega
theorem B_of (n : Int) (h0 : 0 ≤ n) (h1 : n < 256) : Value.int .u8 n = B (UInt8.ofNat n.toNat) := by
  unfold B
  congr 1
  simp only [UInt8.toNat_ofNat']
  omega
theorem B_nat (n : Nat) (h1 : n < 256) : Value.int .u8 (n : Int) = B (UInt8.ofNat n) := by
  rw [B_of _ (by omega) (by omega)]; rfl

theorem B_hi (n : Nat) (h : n < 65536) : B (UInt8.ofNat (n / 256)) = .int .u8 ((n : Int) / 256) := (B_nat (n / 256) (by omega)).symm
theorem B_lo (n : Nat) : B (UInt8.ofNat (n % 256)) = .int .u8 ((n : Int) % 256) := (B_nat (n % 256) (by omega)).symm

/-- A slice of bytes reads as l. -/
def RB (w : World) (v : Value) (l : List UInt8) : Prop := ∃ A c, v = .slice A l.length c ∧ l.length ≤ c ∧ ReadsOf B 0 w A l.length l
/-- A row of bytes of the call's own. -/
def OB (base : Nat) (w : World) (v : Value) (l : List UInt8) : Prop := w.ownsRow base 5 1 v l.length (encs B l)

theorem info8 : (Try.prog.info? 5).map (fun i => (i.zero, i.size, i.bytes)) = some (some (.int .u8 0), 1, 1) := by kernel_rfl
theorem info8' : ∃ i, Try.prog.info? 5 = some i ∧ i.size = 1 := by
  obtain ⟨i, hi, h⟩ := Option.map_eq_some_iff.1 info8
  simp only [Prod.mk.injEq] at h
  exact ⟨i, hi, h.2.1⟩

theorem RB.below {w w1 : World} {v : Value} {l : List UInt8} (h : RB w v l) (hb : Below w.heap.size w w1) : RB w1 v l := by
  obtain ⟨A, c, rfl, hc, hr⟩ := h
  exact ⟨A, c, rfl, hc, hr.below hb⟩
theorem RB.alloc {w : World} {v : Value} {l : List UInt8} (h : RB w v l) (o : Obj) : RB (w.alloc o) v l := h.below (below_alloc (Below.refl _ _) o)
theorem RB.nil (w : World) : RB w (.slice none 0 0) [] := ⟨none, 0, rfl, Nat.le_refl _, rfl, by simp, fun h => absurd h (Nat.lt_irrefl 0)⟩
theorem RB.len {w : World} {v : Value} {l : List UInt8} (h : RB w v l) : l.length ≤ 9223372036854775807 := by
  obtain ⟨A, c, rfl, hc, hr⟩ := h
  exact hr.2.1
/-- The cell of a byte. -/
theorem reads_cell {w : World} {A : Option Addr} {l : List UInt8} (h : ReadsOf B 0 w A l.length l) (k : Nat) (hk : k < l.length) :
    ∃ ad, A = some ad ∧ w.cell? (ad.add k) = some (.int .u8 ((l.getD k 0).toNat : Int)) := by
  obtain ⟨ad, e, hc⟩ := h.2.2 (by omega)
  exact ⟨ad, e, hc k hk⟩

/-- A slice of slices of bytes reads as ls. -/
def RBS (w : World) (A : Option Addr) (ls : List (List UInt8)) : Prop :=
  ls.length ≤ 9223372036854775807 ∧ ∀ j, j < ls.length → ∃ ad u, A = some ad ∧ w.cell? (ad.add j) = some u ∧ RB w u (ls.getD j [])
theorem RBS.below {w w1 : World} {A : Option Addr} {ls : List (List UInt8)} (h : RBS w A ls) (hb : Below w.heap.size w w1) : RBS w1 A ls :=
  ⟨h.1, fun j hj => by
    obtain ⟨ad, u, e, hc, hr⟩ := h.2 j hj
    exact ⟨ad, u, e, pw_cell_below hb hc, hr.below hb⟩⟩

theorem OB.rb {base : Nat} {w : World} {v : Value} {l : List UInt8} (h : OB base w v l) : RB w v l := by
  obtain ⟨A, c, rfl, hc, hr⟩ := own_reads_of_le (enc := B) (d := 0) h
  exact ⟨A, c, rfl, hc, hr⟩
theorem OB.below {base : Nat} {w w1 : World} {v : Value} {l : List UInt8} (h : OB base w v l) (hb : Below w.heap.size w w1) : OB base w1 v l := pw_own_below h hb
theorem OB.alloc {base : Nat} {w : World} {v : Value} {l : List UInt8} (h : OB base w v l) (o : Obj) : OB base (w.alloc o) v l := h.below (below_alloc (Below.refl _ _) o)
theorem OB.weaken {base base' : Nat} {w : World} {v : Value} {l : List UInt8} (h : OB base w v l) (hb : base' ≤ base) : OB base' w v l := own_weaken h hb
theorem OB.nil (base : Nat) (w : World) : OB base w (.slice none 0 0) [] := own_nil _ _ _ _

/-- What a call hands back that makes a row of bytes. -/
def Row (w : World) (l : List UInt8) (e : Ending) (w' : World) : Prop := ∃ v, e = .returned v ∧ OB w.heap.size w' v l ∧ Below w.heap.size w w'

theorem below_comp {w w1 w2 : World} (h : Below w.heap.size w w1) (k : Below w1.heap.size w1 w2) : Below w.heap.size w w2 := h.trans (k.mono h.size)

theorem ret_int {k : IntKind} {a b : Int} (h : a = b) : Ending.returned (.int k a) = .returned (.int k b) := by rw [h]
theorem ret_two {k : IntKind} {a b : Int} {v : Value} (h : a = b) : Ending.returned (.tuple #[.int k a, v]) = .returned (.tuple #[.int k b, v]) := by rw [h]
theorem int_eq {k : IntKind} {a b : Int} (h : a = b) : Value.int k a = .int k b := by rw [h]
theorem ret_bool {a b : Bool} (h : a = b) : Ending.returned (.bool a) = .returned (.bool b) := by rw [h]

section
variable {ops : Array Oper} {rest : List Oper} {o : Oper} {a : Act} {Q : Exit → Act → World → Prop} {W : World}
/-- A look ahead: the operation is this builtin over these places; a call of this function. -/
theorem is_builtin {b : Builtin} {xs : Array Operand} {ts : Array TypeId} (_ho : o.op = .call { callee := .builtin b, args := xs, argTypes := ts }) (h : wpList Try.prog ops Q (o :: rest) a W) : wpList Try.prog ops Q (o :: rest) a W := h
theorem is_call {f : FuncId} {xs : Array Operand} {ts : Array TypeId} (_ho : o.op = .call { callee := .value (.func f), args := xs, argTypes := ts }) (h : wpList Try.prog ops Q (o :: rest) a W) : wpList Try.prog ops Q (o :: rest) a W := h

/-- append(v, u...) on a row of bytes of the call's own. -/
theorem append_bytes {w0 : World} (base : Nat) (hgd : o.guard = none) (s x : Operand)
    (ho : o.op = .call { callee := .builtin .append, args := #[s, x], argTypes := #[22, 22] })
    (v u : Value) (xs ys : List UInt8) (hs : a.eval s = v) (hx : a.eval x = u)
    (HO : OB base W v xs) (HR : RB W u ys) (HB : Below base w0 W) (hbase : base ≤ W.heap.size) (hl : xs.length + ys.length ≤ 140737488355328)
    (h : ∀ v1 w1, OB base w1 v1 (xs ++ ys) → Below base w0 w1 → W.grownBy w1 v.ownBlock → (v1.ownBlock = v.ownBlock ∨ ∃ b, v1.ownBlock = some b ∧ W.heap.size ≤ b) → wpList Try.prog ops Q rest (a.put o.dst v1) w1) :
    wpList Try.prog ops Q (o :: rest) a W := by
  obtain ⟨A, c, rfl, _, hr⟩ := HR
  exact print_append_row_of B 0 base hgd s x 22 5 (.int .u8 0) 1 ho Try.underlying22 info8 rfl (by decide) B_one v xs ys A ys.length c hs hx HO hr HB hbase (by omega) h

/-- append(v, x) of one byte. -/
theorem append_byte {w0 : World} (base : Nat) (hgd : o.guard = none) (s x : Operand)
    (ho : o.op = .call { callee := .builtin .append, args := #[s, x], argTypes := #[22, 22] })
    (v : Value) (xs : List UInt8) (n : Int) (hn0 : 0 ≤ n) (hn1 : n < 256) (hs : a.eval s = v) (hx : a.eval x = .slice (some ⟨W.heap.size, 0, none⟩) 1 1)
    (HO : OB base W v xs) (HB : Below base w0 W) (hbase : base ≤ W.heap.size) (hl : xs.length + 1 ≤ 140737488355328)
    (h : ∀ v1 w1, OB base w1 v1 (xs ++ [UInt8.ofNat n.toNat]) → Below base w0 w1 → W.grownBy w1 v.ownBlock → (v1.ownBlock = v.ownBlock ∨ ∃ b, v1.ownBlock = some b ∧ W.heap.size ≤ b) → wpList Try.prog ops Q rest (a.put o.dst v1) w1) :
    wpList Try.prog ops Q (o :: rest) a (W.alloc (.cells #[.int .u8 n] 5)) := by
  rw [B_of n hn0 hn1]
  exact print_append_of B base hgd s x 22 5 (.int .u8 0) 1 ho Try.underlying22 info8 rfl (by decide) v xs _ hs hx (B_one _) HO HB hbase (by omega) h
end

/-- What lies in xs behind copy(xs, ys). -/
def over (xs ys : List UInt8) : List UInt8 := ys.take xs.length ++ xs.drop ys.length
theorem over_length (xs ys : List UInt8) : (over xs ys).length = xs.length := by unfold over; rw [List.length_append, List.length_take, List.length_drop]; omega
theorem over_short (xs ys : List UInt8) (h : ys.length ≤ xs.length) : over xs ys = ys ++ xs.drop ys.length := by unfold over; rw [List.take_of_length_le h]
theorem over_all (xs ys : List UInt8) (h : ys.length = xs.length) : over xs ys = ys := by unfold over; rw [List.take_of_length_le (by omega), List.drop_of_length_le (by omega), List.append_nil]

set_option maxRecDepth 100000 in
theorem copy_bytes {ops : Array Oper} {rest : List Oper} {o : Oper} {a : Act} {Q : Exit → Act → World → Prop} {W w0 : World} (base : Nat) (hgd : o.guard = none) (d s : Operand)
    (ho : o.op = .call { callee := .builtin .copy, args := #[d, s], argTypes := #[22, 22] })
    (v u : Value) (xs ys : List UInt8) (hd : a.eval d = v) (hs : a.eval s = u) (HO : OB base W v xs) (HR : RB W u ys) (HB : Below base w0 W)
    (h : ∀ w1, OB base w1 v (over xs ys) → Below base w0 w1 → wpList Try.prog ops Q rest (a.put o.dst (goInt (ys.take xs.length).length)) w1) :
    wpList Try.prog ops Q (o :: rest) a W := by
  obtain ⟨A, c, rfl, _, hr⟩ := HR
  obtain ⟨i8, hi8, hs8⟩ := info8'
  have hsz : (Try.prog.info? 5).map (·.size) = some 1 := by rw [hi8]; simp [hs8]
  have hln : (ys.take xs.length).length = Nat.min ys.length xs.length := by rw [List.length_take]; simp [Nat.min_def]; split <;> split <;> omega
  have ho' : OB base W v xs := HO
  rcases HO.2 with ⟨rfl, hn⟩ | ⟨g, cap, cur, rfl, hb, hg, hnc, hcm, hcs, htk⟩
  · obtain rfl : xs = [] := List.eq_nil_of_length_eq_zero hn
    refine wpList_copy_nothing hgd d s _ _ ho 5 Try.underlying22 hsz none A 0 0 ys.length c hd hs (by simp) ?_
    have h2 := h W (by rw [show over [] ys = [] from by simp [over]]; exact ho') HB
    simpa using h2
  · have hcl : cur.toList.length = cap := by rw [Array.length_toList, hcs, Nat.mul_one]
    refine wpList_copy_splice hgd d s _ _ ho 5 Try.underlying22 hsz (some ⟨g, 0, none⟩) A xs.length cap ys.length c hd hs g 0 cur.toList 5 (by simpa using hg) (encs B (ys.take xs.length)) (by rw [encs_length, hln])
      (fun hp => ?_) (by rw [encs_length, List.length_take]; omega) (fun z hz => ?_) base w0 HB hb (fun w1 hw1 hb1 => ?_)
    · rw [encs_length, List.length_take] at hp
      obtain ⟨ad, rfl, hcell⟩ := hr.2.2 (by omega)
      refine ⟨rfl, ad, rfl, fun j z hz => ?_⟩
      obtain ⟨hj, _⟩ := List.getElem?_eq_some_iff.1 hz
      rw [encs_length] at hj
      rw [encs_get (d := 0) _ j hj] at hz
      rw [List.length_take] at hj
      rw [hcell j (by omega), ← hz]
      simp [List.getD_eq_getElem?_getD, List.getElem?_take, show j < xs.length by omega]
    · simp only [encs, List.mem_map] at hz
      obtain ⟨q, _, rfl⟩ := hz
      exact rfl
    · have hown : OB base w1 (.slice (some ⟨g, 0, none⟩) xs.length cap) (over xs ys) := by
        refine ⟨by rw [encs_length, Nat.mul_one], .inr ⟨g, cap, (splice cur.toList 0 (encs B (ys.take xs.length))).toArray, by rw [over_length], hb, hw1.out, by rw [over_length]; exact hnc, hcm, ?_, ?_⟩⟩
        · have hl := length_splice cur.toList 0 (encs B (ys.take xs.length)) (by rw [encs_length, List.length_take]; omega)
          simp only [List.size_toArray, hl, hcl, Nat.mul_one]
        · rw [over_length, Nat.mul_one] at *
          unfold splice over
          simp only [List.take_zero, List.nil_append, Nat.zero_add, encs_length]
          rw [List.take_append, encs_length, List.take_of_length_le (by rw [encs_length, List.length_take]; omega), encs_append]
          congr 1
          rw [List.take_drop, List.length_take]
          have e : (min xs.length ys.length) + (xs.length - min xs.length ys.length) = xs.length := by omega
          rw [e, htk]
          simp only [encs, List.map_drop]
          by_cases hxy : ys.length ≤ xs.length
          · rw [Nat.min_eq_right hxy]
          · rw [List.drop_of_length_le (by simp; omega), List.drop_of_length_le (by simp; omega)]
      have h2 := h w1 hown hb1
      rw [encs_length]
      exact h2

/-- make([]byte, m). -/
theorem make_bytes (m : Nat) (hm : m ≤ 281474976710656) : ∀ W : World, (Instr.makeSlice 22 (.int .i64 (m : Int)) (.int .i64 (m : Int))).run Try.prog W = .ok (.slice (some ⟨W.heap.size, 0, none⟩) m m) (W.alloc (.cells (madeCells #[.int .u8 0] m) 5)) :=
  print_make_of 22 5 (.int .u8 0) 1 Try.underlying22 info8 rfl (by decide) m (by omega)
theorem OB.made (W : World) (base m : Nat) (hb : base ≤ W.heap.size) (hm : m ≤ 281474976710656) :
    OB base (W.alloc (.cells (madeCells #[.int .u8 0] m) 5)) (.slice (some ⟨W.heap.size, 0, none⟩) m m) (List.replicate m 0) := by
  have h := own_made_of (enc := B) (d := 0) W base 5 m hb (by omega)
  unfold OB
  rw [List.length_replicate]
  exact h

theorem elem8 : Try.prog.elem 22 = 5 := by simp [Program.elem, Try.underlying22]
theorem under8 : Try.prog.underlying 22 = some (.slice (Try.prog.elem 22)) := by rw [elem8]; exact Try.underlying22
theorem reads_mid {w : World} {A : Option Addr} {l : List UInt8} (k m : Nat) (h : k + m ≤ l.length) (hr : ReadsOf B 0 w A l.length l) (hm : 0 < m) : ReadsOf B 0 w (A.map (·.add k)) m ((l.drop k).take m) := by
  have h1 := hr.drop_ (c := l.length) k (by omega) (Nat.le_refl _)
  rw [if_neg (by omega)] at h1
  exact h1.take_ m (by omega)
theorem reads_none {w : World} (A : Option Addr) : ReadsOf B (0 : UInt8) w A 0 [] := ⟨rfl, by omega, fun h => absurd h (Nat.lt_irrefl 0)⟩
/-- 'b[k : k+m : k+m]'. -/
theorem mid3 (A : Option Addr) (c : Nat) (l : List UInt8) (k m : Nat) (h : k + m ≤ l.length) (hc : l.length ≤ c) :
    ∃ A' : Option Addr, (∀ W : World, (Instr.slice 22 (.slice A l.length c) (some (.int .i64 (k : Int))) (some (.int .i64 ((k : Int) + m))) (some (.int .i64 ((k : Int) + m)))).run Try.prog W = .ok (.slice A' m m) W) ∧
      (∀ w : World, ReadsOf B 0 w A l.length l → ReadsOf B 0 w A' m ((l.drop k).take m)) ∧ ∀ n1 c1 n2 c2, (Value.slice A' n1 c1).ownBlock = (Value.slice A n2 c2).ownBlock := by
  obtain ⟨i8, hi8, hs8⟩ := info8'
  have hrun : ∀ W : World, (Instr.slice 22 (.slice A l.length c) (some (.int .i64 (k : Int))) (some (.int .i64 ((k : Int) + m))) (some (.int .i64 ((k : Int) + m)))).run Try.prog W = .ok (.slice (if k + m = k then A else A.map (·.add k)) m m) W := by
    intro W
    rw [run_slice_lhm W 22 A l.length c under8 .i64 .i64 .i64 (k : Int) ((k : Int) + m) ((k : Int) + m) (by omega) (by omega) (by omega) (by omega), elem8]
    have e1 : ((k : Int) + m).toNat = k + m := by omega
    simp [sizeOf, typeInfo, hi8, hs8, sliced, Result.andThen, e1, Int.toNat_natCast, Nat.add_sub_cancel_left]
  by_cases hm : m = 0
  · subst hm
    refine ⟨A, fun W => by have h1 := hrun W; rw [if_pos (by omega)] at h1; exact h1, fun w hr => by simpa using reads_none A, fun _ _ _ _ => by cases A <;> rfl⟩
  · refine ⟨A.map (·.add k), fun W => by have h1 := hrun W; rw [if_neg (by omega)] at h1; exact h1, fun w hr => reads_mid k m h hr (by omega), fun _ _ _ _ => ?_⟩
    cases A with
    | none => rfl
    | some a => simp [Value.ownBlock, Addr.add]; split <;> rfl
/-- 'b[k : k+m]'. -/
theorem mid2 (A : Option Addr) (c : Nat) (l : List UInt8) (k m : Nat) (h : k + m ≤ l.length) (hc : l.length ≤ c) :
    ∃ A' : Option Addr, (∀ W : World, (Instr.slice 22 (.slice A l.length c) (some (.int .i64 (k : Int))) (some (.int .i64 ((k : Int) + m))) none).run Try.prog W = .ok (.slice A' m (c - k)) W) ∧
      (∀ w : World, ReadsOf B 0 w A l.length l → ReadsOf B 0 w A' m ((l.drop k).take m)) ∧ ∀ n1 c1 n2 c2, (Value.slice A' n1 c1).ownBlock = (Value.slice A n2 c2).ownBlock := by
  obtain ⟨i8, hi8, hs8⟩ := info8'
  have hrun : ∀ W : World, (Instr.slice 22 (.slice A l.length c) (some (.int .i64 (k : Int))) (some (.int .i64 ((k : Int) + m))) none).run Try.prog W = .ok (.slice (if c = k then A else A.map (·.add k)) m (c - k)) W := by
    intro W
    rw [run_slice_lh W 22 A l.length c under8 .i64 .i64 (k : Int) ((k : Int) + m) (by omega) (by omega) (by omega), elem8]
    have e1 : ((k : Int) + m).toNat = k + m := by omega
    simp [sizeOf, typeInfo, hi8, hs8, sliced, Result.andThen, e1, Int.toNat_natCast, Nat.add_sub_cancel_left]
  refine ⟨if c = k then A else A.map (·.add k), hrun, fun w hr => ?_, fun _ _ _ _ => ?_⟩
  · by_cases hm : m = 0
    · subst hm; simpa using reads_none _
    · rw [if_neg (by omega)]; exact reads_mid k m h hr (by omega)
  · split
    · cases A <;> rfl
    · cases A with
      | none => rfl
      | some a => simp [Value.ownBlock, Addr.add]; split <;> rfl
/-- 'b[k:]'. -/
theorem from2 (A : Option Addr) (c : Nat) (l : List UInt8) (k : Nat) (h : k ≤ l.length) (hc : l.length ≤ c) :
    ∃ A' : Option Addr, (∀ W : World, (Instr.slice 22 (.slice A l.length c) (some (.int .i64 (k : Int))) none none).run Try.prog W = .ok (.slice A' (l.length - k) (c - k)) W) ∧
      (∀ w : World, ReadsOf B 0 w A l.length l → ReadsOf B 0 w A' (l.length - k) (l.drop k)) ∧ ∀ n1 c1 n2 c2, (Value.slice A' n1 c1).ownBlock = (Value.slice A n2 c2).ownBlock := by
  obtain ⟨i8, hi8, hs8⟩ := info8'
  have hrun : ∀ W : World, (Instr.slice 22 (.slice A l.length c) (some (.int .i64 (k : Int))) none none).run Try.prog W = .ok (.slice (if c = k then A else A.map (·.add k)) (l.length - k) (c - k)) W := by
    intro W
    rw [run_slice_l W 22 A l.length c under8 .i64 (k : Int) (by omega) (by omega), elem8]
    simp [sizeOf, typeInfo, hi8, hs8, sliced, Result.andThen]
  refine ⟨if c = k then A else A.map (·.add k), hrun, fun w hr => ?_, fun _ _ _ _ => ?_⟩
  · exact hr.drop_ k h hc
  · split
    · cases A <;> rfl
    · cases A with
      | none => rfl
      | some a => simp [Value.ownBlock, Addr.add]; split <;> rfl
/-- 'b[:m]'. -/
theorem to2 (A : Option Addr) (c : Nat) (l : List UInt8) (m : Nat) (h : m ≤ l.length) (hc : l.length ≤ c) :
    (∀ W : World, (Instr.slice 22 (.slice A l.length c) none (some (.int .i64 (m : Int))) none).run Try.prog W = .ok (.slice A m c) W) ∧
      ∀ w : World, ReadsOf B 0 w A l.length l → ReadsOf B 0 w A m (l.take m) := by
  have h1 := print_take_of (P := Try.prog) B 0 22 5 .i64 Try.underlying22 info8'.choose_spec.1 info8'.choose_spec.2 A c l (m : Int) (by omega) (by omega) hc
  have e : (l.take ((m : Int)).toNat).length = m := by rw [Int.toNat_natCast, List.length_take]; omega
  rw [e] at h1
  exact ⟨h1.1, fun w hr => by have := h1.2.1 w hr; rwa [Int.toNat_natCast] at this⟩

/-- A slice whose bytes lie apart from a block keeps them while that block alone is written. -/
theorem RB.grown {w w1 : World} {v : Value} {l : List UInt8} (h : RB w v l) {g : Nat} (hg : w.grownBy w1 (some g)) (hs : l = [] ∨ v.ownBlock ≠ some g) : RB w1 v l := by
  obtain ⟨A, c, rfl, hc, hr⟩ := h
  refine ⟨A, c, rfl, hc, hr.1, hr.2.1, fun hn => ?_⟩
  obtain ⟨ad, rfl, hcell⟩ := hr.2.2 hn
  refine ⟨ad, rfl, fun j hj => ?_⟩
  have hne : l ≠ [] := by intro e; rw [e] at hn; exact absurd hn (Nat.lt_irrefl 0)
  have hb : ad.block ≠ g := by
    rcases hs with hs | hs
    · exact absurd hs hne
    · intro e; exact hs (by simp [Value.ownBlock, e])
  have hc1 := hcell j hj
  have hlt := World.block_lt_of_cell? w _ hc1
  have hbk : (ad.add j).block = ad.block := by unfold Addr.add; split <;> rfl
  have he := hg.block (ad.add j).block hlt (by rw [hbk]; intro e; injection e with e; exact hb e)
  unfold World.cell? at hc1 ⊢
  rw [he]; exact hc1
theorem grown_set (w : World) (g j : Nat) (v : Value) : w.grownBy (w.setCell ⟨g, j, none⟩ v) (some g) :=
  ⟨rfl, rfl, rfl, by simp, fun i hi hne => Below.heap_setCell w ⟨g, j, none⟩ v i (fun e => hne (by rw [e]))⟩
theorem grown_below {w w1 : World} {g : Nat} (h : w.grownBy w1 (some g)) {B : Nat} {w0 : World} (hb : Below B w0 w) (hB : B ≤ w.heap.size) (hg : B ≤ g) : Below B w0 w1 :=
  pw_below_grown hb (some g) hB h (fun k e => by injection e with e; omega)
/-- A slice of bytes that was there before the block g. -/
theorem RB.apart {w : World} {v : Value} {l : List UInt8} (h : RB w v l) {g : Nat} (hg : w.heap.size ≤ g) : l = [] ∨ v.ownBlock ≠ some g := by
  obtain ⟨A, c, rfl, hc, hr⟩ := h
  by_cases hl : l = []
  · exact .inl hl
  · refine .inr fun e => ?_
    obtain ⟨ad, rfl, hcell⟩ := hr.2.2 (List.length_pos_iff.2 hl)
    have h0 := hcell 0 (List.length_pos_iff.2 hl)
    have hlt := World.block_lt_of_cell? w _ h0
    have hbk : (ad.add 0).block = ad.block := by unfold Addr.add; split <;> rfl
    simp [Value.ownBlock] at e
    omega

/-- A literal's block is a row of the call's own. -/
theorem OB.lit (W : World) (base : Nat) (l : List UInt8) (hb : base ≤ W.heap.size) (hl : l.length ≤ 9223372036854775807) :
    OB base (W.alloc (.cells (encs B l).toArray 5)) (.slice (some ⟨W.heap.size, 0, none⟩) l.length l.length) l := own_lit_of W base 5 l hb hl
/-- A block of one slice's value. -/
theorem RBS.one {w : World} {v : Value} {l : List UInt8} (h : RB w v l) (T : TypeId) : RBS (w.alloc (.cells #[v] T)) (some ⟨w.heap.size, 0, none⟩) [l] := by
  refine ⟨by simp, fun j hj => ?_⟩
  obtain rfl : j = 0 := by simpa using hj
  refine ⟨_, v, rfl, ?_, h.alloc _⟩
  rw [add_plain]
  exact (blk_cell (blk_new w _) 0).trans rfl

theorem OB.form {base : Nat} {w : World} {v : Value} {l : List UInt8} (h : OB base w v l) (hp : 0 < l.length) :
    ∃ g cap, v = .slice (some ⟨g, 0, none⟩) l.length cap ∧ base ≤ g ∧ g < w.heap.size ∧ l.length ≤ cap := by
  obtain ⟨g, cap, rfl, _, _⟩ := World.ownsRow.form h hp
  exact ⟨g, cap, rfl, own_base h g rfl, own_lt h g rfl, own_le h⟩
theorem OB.size {base n cap : Nat} {A : Option Addr} {w : World} {l : List UInt8} (h : OB base w (.slice A n cap) l) : n = l.length := by
  obtain ⟨A', c', e, _⟩ := OB.rb h
  injection e
theorem OB.at_ {base g n cap : Nat} {w : World} {l : List UInt8} (h : OB base w (.slice (some ⟨g, 0, none⟩) n cap) l) (j : Nat) (hj : j < l.length) :
    w.cell? ⟨g, j, none⟩ = some (.int .u8 ((l.getD j 0).toNat : Int)) ∧ w.frozen? ⟨g, j, none⟩ = false := by
  obtain rfl := h.size
  exact own_at_of (d := 0) h (j : Int) (by omega) (by omega)
theorem OB.store {base g n cap : Nat} {w : World} {l : List UInt8} (h : OB base w (.slice (some ⟨g, 0, none⟩) n cap) l) (j : Nat) (x : Int) (h0 : 0 ≤ x) (h1 : x < 256) :
    OB base (w.setCell ⟨g, j, none⟩ (.int .u8 x)) (.slice (some ⟨g, 0, none⟩) n cap) (l.set j (UInt8.ofNat x.toNat)) := by
  obtain rfl := h.size
  have hs := (own_store_of h (j : Int) (UInt8.ofNat x.toNat)).1
  rw [← B_of x h0 h1] at hs
  have e : (l.set j (UInt8.ofNat x.toNat)).length = l.length := List.length_set
  unfold OB
  rw [e]
  exact hs

/-- A literal of one slice, behind a literal of bytes. -/
theorem RBS.lit1 (w : World) (l : List UInt8) (cs : Array Value) (n : Nat) (T : TypeId) (hcs : (encs B l).toArray = cs) (hn : l.length = n) (hl : l.length ≤ 9223372036854775807) :
    RBS ((w.alloc (.cells cs 5)).alloc (.cells #[.slice (some ⟨w.heap.size, 0, none⟩) n n] T)) (some ⟨w.heap.size + 1, 0, none⟩) [l] := by
  subst hcs hn
  have h := RBS.one (OB.rb (OB.lit w 0 l (Nat.zero_le _) hl)) T
  rwa [World.size_alloc] at h

/-- Bytes out of numbers. -/
theorem toNat_ofNat (n : Nat) (h : n < 256) : (UInt8.ofNat n).toNat = n := by simp only [UInt8.toNat_ofNat']; omega

end Go.Proofs.Ytkfjobanbnokoaa.Bs

set_option linter.unusedSimpArgs false
set_option linter.unusedVariables false
set_option maxRecDepth 100000
namespace Go.Proofs.Ytkfjobanbnokoaa.Le
open Go

/-- A number in so many bytes, the lowest first; the number of bytes. -/
def leB : Nat → Nat → List UInt8
  | 0, _ => []
  | k + 1, n => UInt8.ofNat (n % 256) :: leB k (n / 256)
def ofLe : List UInt8 → Nat
  | [] => 0
  | x :: r => x.toNat + 256 * ofLe r
theorem leB_length : ∀ k n, (leB k n).length = k
  | 0, _ => rfl
  | k + 1, n => by rw [leB, List.length_cons, leB_length k]
theorem leB_snoc : ∀ k n, leB (k + 1) n = leB k n ++ [UInt8.ofNat (n / 256 ^ k % 256)]
  | 0, n => by simp [leB]
  | k + 1, n => by
    rw [leB, leB_snoc k (n / 256), leB, List.cons_append, Nat.div_div_eq_div_mul]
    rw [show 256 * 256 ^ k = 256 ^ (k + 1) by rw [Nat.pow_succ, Nat.mul_comm]]
theorem ofLe_snoc (x : UInt8) : ∀ l : List UInt8, ofLe (l ++ [x]) = ofLe l + 256 ^ l.length * x.toNat
  | [] => by simp [ofLe]
  | y :: r => by
    rw [List.cons_append, ofLe, ofLe_snoc x r, ofLe, List.length_cons, Nat.pow_succ, Nat.mul_add, Nat.add_assoc, Nat.mul_comm (256 ^ r.length) 256, Nat.mul_assoc]
theorem ofLe_lt : ∀ l : List UInt8, ofLe l < 256 ^ l.length
  | [] => by simp [ofLe]
  | x :: r => by
    have h := ofLe_lt r
    have hx := x.toNat_lt
    rw [ofLe, List.length_cons, Nat.pow_succ]
    omega
theorem leB_ofLe : ∀ l : List UInt8, leB l.length (ofLe l) = l
  | [] => rfl
  | x :: r => by
    have hx := x.toNat_lt
    rw [List.length_cons, leB, ofLe]
    rw [show (x.toNat + 256 * ofLe r) % 256 = x.toNat by omega, show (x.toNat + 256 * ofLe r) / 256 = ofLe r by omega, leB_ofLe r]
    simp
theorem ofLe_leB : ∀ k n, n < 256 ^ k → ofLe (leB k n) = n
  | 0, n, h => by simp at h; simp [leB, ofLe, h]
  | k + 1, n, h => by
    rw [Nat.pow_succ] at h
    rw [leB, ofLe, ofLe_leB k (n / 256) (by omega), UInt8.toNat_ofNat']
    omega
theorem pow_le {a b : Nat} (h : a ≤ b) : 256 ^ a ≤ 256 ^ b := Nat.pow_le_pow_right (by decide) h
theorem pow_eight (k : Nat) (h : k ≤ 8) : 256 ^ k ≤ 18446744073709551616 := Nat.le_trans (pow_le h) (by decide)
theorem two_pow (k : Nat) : 2 ^ (8 * k) = 256 ^ k := by rw [Nat.pow_mul]
theorem take_snoc (l : List UInt8) (k : Nat) (h : k < l.length) : l.take (k + 1) = l.take k ++ [l.getD k 0] := by
  rw [List.take_succ_eq_append_getElem h]
  simp [List.getD_eq_getElem?_getD, List.getElem?_eq_getElem h]
/-- So many bytes of a number, zeros behind. -/
def fillB (s i n : Nat) : List UInt8 := leB i n ++ List.replicate (s - i) 0
theorem fillB_length (s i n : Nat) (h : i ≤ s) : (fillB s i n).length = s := by unfold fillB; rw [List.length_append, leB_length, List.length_replicate]; omega
theorem fillB_zero (s n : Nat) : fillB s 0 n = List.replicate s 0 := by simp [fillB, leB]
theorem fillB_all (s n : Nat) : fillB s s n = leB s n := by simp [fillB]
theorem fill_step (s i n : Nat) (h : i < s) : (fillB s i n).set i (UInt8.ofNat (n / 256 ^ i % 256)) = fillB s (i + 1) n := by
  unfold fillB
  rw [show s - i = (s - (i + 1)) + 1 by omega, List.replicate_succ, List.set_append_right _ _ (by rw [leB_length]; omega), leB_length, Nat.sub_self, List.set_cons_zero, leB_snoc, List.append_assoc, List.singleton_append]
theorem reverse_snoc (l : List UInt8) (k : Nat) (h : k < l.length) : (l.drop k).reverse = (l.drop (k + 1)).reverse ++ [l.getD k 0] := by
  rw [List.drop_eq_getElem_cons h, List.reverse_cons]
  simp [List.getD_eq_getElem?_getD, List.getElem?_eq_getElem h]
theorem ofLe_drop (l : List UInt8) (k : Nat) (h : k < l.length) : ofLe (l.drop k) = (l.getD k 0).toNat + 256 * ofLe (l.drop (k + 1)) := by
  rw [List.drop_eq_getElem_cons h, ofLe]
  simp [List.getD_eq_getElem?_getD, List.getElem?_eq_getElem h]

/-- Clearing the k lowest bits. -/
theorem clear_low (n k : Nat) (hk : k ≤ 64) (hn : n < 2 ^ 64) : n &&& (2 ^ 64 - 2 ^ k) = n / 2 ^ k * 2 ^ k := by
  have e : 2 ^ 64 - 2 ^ k = (2 ^ (64 - k) - 1) <<< k := by
    rw [Nat.shiftLeft_eq, Nat.sub_mul, Nat.one_mul, ← Nat.pow_add, show 64 - k + k = 64 by omega]
  have e2 : n / 2 ^ k * 2 ^ k = (n >>> k) <<< k := by rw [Nat.shiftRight_eq_div_pow, Nat.shiftLeft_eq]
  rw [e, e2]
  apply Nat.eq_of_testBit_eq
  intro i
  rw [Nat.testBit_and, Nat.testBit_shiftLeft, Nat.testBit_shiftLeft, Nat.testBit_shiftRight, Nat.testBit_two_pow_sub_one]
  by_cases h1 : k ≤ i
  · rw [show k + (i - k) = i by omega]
    by_cases h2 : i < 64
    · simp [h1, show i - k < 64 - k by omega]
    · have hz : Nat.testBit n i = false := Nat.testBit_lt_two_pow (Nat.lt_of_lt_of_le hn (Nat.pow_le_pow_right (by decide) (by omega)))
      simp [hz]
  · simp [h1]
/-- What a mask of k ones leaves of a number is none just where the number has k bits at most. -/
theorem andNot_mask (n k : Nat) (hk : k ≤ 64) (hn : n < 2 ^ 64) : bits .andNot .u64 (n : Int) ((2 ^ k - 1 : Nat) : Int) = ((n / 2 ^ k * 2 ^ k : Nat) : Int) := by
  have hp : 2 ^ k ≤ 2 ^ 64 := Nat.pow_le_pow_right (by decide) hk
  have hpos : 0 < 2 ^ k := Nat.two_pow_pos k
  rw [u64_andNot_nat n (2 ^ k - 1) (by simpa using hn) (by have : (2:Nat) ^ 64 = 18446744073709551616 := by decide
                                                           omega)]
  rw [← clear_low n k hk hn]
  congr 2
  have : (2:Nat) ^ 64 = 18446744073709551616 := by decide
  omega
theorem andNot_zero (n k : Nat) (hk : k ≤ 64) (hn : n < 2 ^ 64) (h : n < 2 ^ k) : bits .andNot .u64 (n : Int) ((2 ^ k - 1 : Nat) : Int) = 0 := by
  rw [andNot_mask n k hk hn, Nat.div_eq_of_lt h]; simp
theorem andNot_ne (n k : Nat) (hk : k ≤ 64) (hn : n < 2 ^ 64) (h : 2 ^ k ≤ n) : bits .andNot .u64 (n : Int) ((2 ^ k - 1 : Nat) : Int) ≠ 0 := by
  rw [andNot_mask n k hk hn]
  have h1 : 0 < n / 2 ^ k := Nat.div_pos h (Nat.two_pow_pos k)
  have h2 : 0 < n / 2 ^ k * 2 ^ k := Nat.mul_pos h1 (Nat.two_pow_pos k)
  omega
end Go.Proofs.Ytkfjobanbnokoaa.Le

set_option linter.unusedSimpArgs false
set_option linter.unusedVariables false
set_option maxRecDepth 100000
namespace Go.Proofs.Ytkfjobanbnokoaa.En
open Go.RowKit Go.Proofs.YtkfjobanbnokoaaW.PrintWords Go.Proofs.Ytkfjobanbnokoaa.Bs Go.Proofs.Ytkfjobanbnokoaa.Le

/-- So many ones. -/
def maskN (k : Int) : Nat := 2 ^ (min k.toNat 64) - 1
theorem maskN_nat (k : Nat) (h : k ≤ 64) : maskN (k : Int) = 2 ^ k - 1 := by unfold maskN; rw [Int.toNat_natCast, Nat.min_eq_left h]

theorem mask_mid (k : Int) (h0 : 0 < k) (h : k < 64) : IntKind.u64.wrap (IntKind.u64.wrap (2 ^ k.toNat) - 1) = (maskN k : Int) := by
  obtain ⟨m, rfl⟩ := Int.eq_ofNat_of_zero_le (show 0 ≤ k by omega)
  rw [Int.toNat_natCast, maskN_nat m (by omega)]
  have hp : (2 : Nat) ^ m < 2 ^ 64 := Nat.pow_lt_pow_right (by decide) (by omega)
  have hq : 0 < (2 : Nat) ^ m := Nat.two_pow_pos m
  rw [show ((2 : Int) ^ m) = ((2 ^ m : Nat) : Int) by simp]
  generalize (2 : Nat) ^ m = q at *
  rw [IntKind.wrap_u64, IntKind.wrap_u64]
  omega

set_option maxRecDepth 100000 in
theorem mask_any (k : Int) (w : World) (h0 : -9223372036854775808 ≤ k) (h1 : k ≤ 9223372036854775807) :
    Calls Try.prog 68 #[.int .i64 k] w fun e w' => e = .returned (.int .u64 (maskN k)) ∧ w = w' := by
  by_cases h : k ≤ 0
  · have e : (maskN k : Int) = 0 := by unfold maskN; rw [Int.toNat_of_nonpos h]; rfl
    rw [e]
    go_enter Try.func68, Try.ntmps68
    go_wp2
    go_ret
    exact ⟨rfl, rfl⟩
  · by_cases h64 : 64 ≤ k
    · have e : (maskN k : Int) = 18446744073709551615 := by unfold maskN; rw [Nat.min_eq_right (by omega)]; rfl
      rw [e]
      go_enter Try.func68, Try.ntmps68
      go_wp2
      go_ret
      exact ⟨rfl, rfl⟩
    · go_enter Try.func68, Try.ntmps68
      go_wp2
      go_ret
      exact ⟨ret_int (mask_mid k (by omega) (by omega)), rfl⟩

theorem sized_any (v : Value) (l : List UInt8) (w : World) (hr : RB w v l) :
    Calls Try.prog 81 #[v] w fun e w' => e = .returned (.bool (decide (1 ≤ l.length ∧ l.length ≤ 8))) ∧ w = w' := by
  have hl := hr.len
  obtain ⟨A, c, rfl, hc, hr⟩ := hr
  clear hr
  by_cases h1 : 1 ≤ l.length
  · go_enter Try.func81, Try.ntmps81
    go_wp2
    go_ret
    exact ⟨ret_bool (by rw [decide_eq_decide]; omega), rfl⟩
  · go_enter Try.func81, Try.ntmps81
    go_wp2
    go_ret
    exact ⟨rfl, rfl⟩

/-- 'n | x << j' where n has no more than j bits. -/
theorem or_high (n x k : Nat) (hk : k < 8) (hn : n < 256 ^ k) (hx : x < 256) : bits .or .u64 (n : Int) ((256 ^ k * x : Nat) : Int) = ((n + 256 ^ k * x : Nat) : Int) := by
  have hp : 256 ^ (k + 1) ≤ 256 ^ 8 := pow_le (by omega)
  have e8 : (256 : Nat) ^ 8 = 18446744073709551616 := by decide
  have hpos : 0 < 256 ^ k := Nat.pow_pos (by decide)
  have hm : 256 ^ k * x < 256 ^ (k + 1) := by
    rw [Nat.pow_succ]; exact Nat.mul_lt_mul_of_pos_left hx hpos
  have hle : 256 ^ k ≤ 256 ^ 8 := pow_le (by omega)
  rw [u64_or_nat n (256 ^ k * x) (by omega) (by omega), Nat.or_comm]
  rw [nat_join (8 * k) (256 ^ k * x) n (by rw [two_pow]; exact Nat.mul_mod_right _ _) (by rw [two_pow]; exact hn), Nat.add_comm]

theorem or_walk (n x k : Nat) (hk : k < 8) (hn : n < 256 ^ k) (hx : x < 256) : bits .or .u64 (n : Int) (IntKind.u64.wrap ((x : Int) * 2 ^ (8 * k))) = ((n + 256 ^ k * x : Nat) : Int) := by
  rw [← or_high n x k hk hn hx]
  congr 1
  have hp : 256 ^ (k + 1) ≤ 256 ^ 8 := pow_le (by omega)
  have e8 : (256 : Nat) ^ 8 = 18446744073709551616 := by decide
  have hpos : 0 < 256 ^ k := Nat.pow_pos (by decide)
  have hm : 256 ^ k * x < 256 ^ (k + 1) := by
    rw [Nat.pow_succ]; exact Nat.mul_lt_mul_of_pos_left hx hpos
  have e : (x : Int) * 2 ^ (8 * k) = ((256 ^ k * x : Nat) : Int) := by
    rw [← two_pow]; simp [Int.mul_comm]
  rw [e]
  generalize 256 ^ k * x = m at *
  rw [IntKind.wrap_u64]
  omega

/-- 'n << 8 | x'. -/
theorem shl_or (n x : Nat) (hn : n < 72057594037927936) (hx : x < 256) : bits .or .u64 ((n : Int) * 256) (x : Int) = ((n * 256 + x : Nat) : Int) := by
  rw [show ((n : Int) * 256) = ((n * 256 : Nat) : Int) by omega, u64_or_nat (n * 256) x (by omega) (by omega)]
  rw [nat_join 8 (n * 256) x (by omega) (by omega)]

set_option maxRecDepth 100000 in
set_option maxHeartbeats 1000000 in
theorem ofBig_bad (v : Value) (l : List UInt8) (w : World) (hr : RB w v l) (h : ¬ (1 ≤ l.length ∧ l.length ≤ 8)) :
    Calls Try.prog 67 #[v] w fun e w' => e = .returned (.tuple #[.int .u64 0, .int .i64 1]) ∧ w = w' := by
  have HR := Lib.hid hr
  clear hr
  go_enter Try.func67, Try.ntmps67
  go_wp2_with fail
  refine (sized_any v l _ HR.out).mono ?_
  rintro e w' ⟨rfl, rfl⟩
  rw [decide_eq_false h]
  go_wp2_with fail
  go_ret2
  exact ⟨rfl, rfl⟩

set_option maxRecDepth 100000 in
set_option maxHeartbeats 1000000 in
theorem ofBig_any (v : Value) (l : List UInt8) (w : World) (hr : RB w v l) (h1 : 1 ≤ l.length) (h8 : l.length ≤ 8) :
    Calls Try.prog 67 #[v] w fun e w' => e = .returned (.tuple #[.int .u64 (ofLe l.reverse), .int .i64 0]) ∧ w = w' := by
  have hl := hr.len
  have HR := Lib.hid hr
  obtain ⟨A, c, rfl, _, hr⟩ := hr
  have HRR := Lib.hid hr
  clear hr
  go_enter Try.func67, Try.ntmps67
  go_wp2_with fail
  refine (sized_any _ l _ HR.out).mono ?_
  rintro e w' ⟨rfl, rfl⟩
  rw [decide_eq_true (show 1 ≤ l.length ∧ l.length ≤ 8 from ⟨h1, h8⟩)]
  go_wp2_with fail
  go_loop [4, 12] (fun v4 v12 => ∃ (n k : Nat), k ≤ l.length ∧ v4 = .int .u64 n ∧ v12 = .int .i64 k ∧ Hid (n = ofLe (l.take k).reverse)) (fun _ v12 => l.length - (intOf v12).toNat)
  case atStart => exact ⟨0, 0, Nat.zero_le _, rfl, rfl, Lib.hid rfl⟩
  case round =>
    obtain ⟨n, k, hk, rfl, rfl, HN⟩ := hrel
    by_cases hlt : k < l.length
    · obtain ⟨ad, rfl, hc⟩ := reads_cell HRR.out k hlt
      have hby := byte_lt (l.getD k 0)
      have HF : Hid (n * 256 + (l.getD k 0).toNat = ofLe (l.take (k + 1)).reverse) := Lib.hid (by
        rw [take_snoc l k hlt, List.reverse_append, List.reverse_singleton, List.singleton_append, ofLe, ← HN.out]; omega)
      have hn : n < 72057594037927936 := by
        have h := ofLe_lt (l.take k).reverse
        rw [List.length_reverse, List.length_take, Nat.min_eq_left (by omega)] at h
        rw [HN.out]
        exact Nat.lt_of_lt_of_le h (Nat.le_trans (pow_le (show k ≤ 7 by omega)) (by decide))
      generalize l.getD k 0 = x at hc hby HF
      go_wp2
      go_round
      case rel => exact ⟨n * 256 + x.toNat, k + 1, by omega, int_eq (shl_or n x.toNat hn (by omega)), by go_num, HF⟩
      case measure => (simp [intOf]) <;> omega
    · have HF : Hid (ofLe l.reverse = n) := Lib.hid (by have h := HN.out; rw [List.take_of_length_le (show l.length ≤ k by omega)] at h; exact h.symm)
      go_wp2
      go_ret2
      exact ⟨ret_two (by rw [HF.out]), rfl⟩

/-- 256 to the power of a number. -/
def pw (k : Nat) : Nat := 256 ^ k
theorem pw_pos (k : Nat) : 0 < pw k := Nat.pow_pos (by decide)
theorem pw_le (k : Nat) (h : k ≤ 7) : pw k ≤ 72057594037927936 := Nat.le_trans (pow_le h) (by decide)

/-- What Put, Little and Big hand back: a row and 0. -/
def RowTup (w : World) (l : List UInt8) (e : Ending) (w' : World) : Prop := ∃ v, e = .returned (.tuple #[v, .int .i64 0]) ∧ OB w.heap.size w' v l ∧ Below w.heap.size w w'

theorem shr_walk (n i : Nat) : (n : Int) / 2 ^ (8 * i) % 256 = ((n / 256 ^ i % 256 : Nat) : Int) := by
  rw [← two_pow]; simp
theorem mask_eight (s : Nat) (h : s ≤ 8) : maskN (8 * (s : Int)) = 2 ^ (8 * s) - 1 := by
  rw [show (8 * (s : Int)) = ((8 * s : Nat) : Int) by omega, maskN_nat _ (by omega)]

/-- A row of the call's own whose ends are exchanged up to place i. -/
def Half (l L : List UInt8) (i : Nat) : Prop := L.length = l.length ∧ ∀ k, k < l.length → L.getD k 0 = if k < i ∨ l.length - i ≤ k then l.getD (l.length - 1 - k) 0 else l.getD k 0
theorem Half.start (l : List UInt8) : Half l l 0 := ⟨rfl, fun k hk => by rw [if_neg (by omega)]⟩
theorem getD_set (L : List UInt8) (i k : Nat) (x : UInt8) (h : k < L.length) : (L.set i x).getD k 0 = if k = i then x else L.getD k 0 := by
  by_cases e : k = i
  · subst e
    simp [List.getD_eq_getElem?_getD, List.getElem?_set_self h]
  · rw [if_neg e]
    simp [List.getD_eq_getElem?_getD, List.getElem?_set_ne (fun h => e h.symm)]
theorem Half.step {l L : List UInt8} {i : Nat} (h : Half l L i) (hi : i + 1 < l.length - i) :
    Half l ((L.set i (L.getD (l.length - 1 - i) 0)).set (l.length - 1 - i) (L.getD i 0)) (i + 1) := by
  refine ⟨by rw [List.length_set, List.length_set]; exact h.1, fun k hk => ?_⟩
  have hL := h.1
  rw [getD_set _ _ _ _ (by rw [List.length_set]; omega), getD_set _ _ _ _ (by omega)]
  by_cases h1 : k = l.length - 1 - i
  · rw [if_pos h1, if_pos (by omega), h.2 i (by omega), if_neg (by omega)]
    congr 1; omega
  · rw [if_neg h1]
    by_cases h2 : k = i
    · rw [if_pos h2, if_pos (by omega), h.2 _ (by omega), if_neg (by omega)]
      congr 1; omega
    · rw [if_neg h2, h.2 k hk]
      by_cases h3 : k < i ∨ l.length - i ≤ k
      · rw [if_pos h3, if_pos (by omega)]
      · rw [if_neg h3, if_neg (by omega)]
theorem Half.done {l L : List UInt8} {i : Nat} (h : Half l L i) (hi : l.length - 1 - i ≤ i) : L = l.reverse := by
  apply List.ext_getElem
  · rw [List.length_reverse]; exact h.1
  · intro k h1 h2
    have hL := h.1
    have hk : k < l.length := by omega
    have h3 := h.2 k hk
    rw [List.getElem_reverse]
    have e1 : L.getD k 0 = L[k] := by simp [List.getD_eq_getElem?_getD, List.getElem?_eq_getElem h1]
    have e2 : l.getD (l.length - 1 - k) 0 = l[l.length - 1 - k] := by simp [List.getD_eq_getElem?_getD, List.getElem?_eq_getElem (show l.length - 1 - k < l.length by omega)]
    rw [e1] at h3
    by_cases h4 : k < i ∨ l.length - i ≤ k
    · rw [if_pos h4, e2] at h3; exact h3
    · rw [if_neg h4] at h3
      rw [h3, ← e2]
      congr 1; omega

/-- A word whose bits are turned. -/
def rot (n k : Nat) : Nat := n * 2 ^ k % 4294967296 + n / 2 ^ (32 - k)
theorem rot_or (n k : Nat) (hk : k < 32) (hn : n < 4294967296) : bits .or .u32 ((n * 2 ^ k % 4294967296 : Nat) : Int) ((n / 2 ^ (32 - k) : Nat) : Int) = ((rot n k : Nat) : Int) := by
  have e32 : (4294967296 : Nat) = 2 ^ k * 2 ^ (32 - k) := by rw [← Nat.pow_add, show k + (32 - k) = 32 by omega]
  have hq : n / 2 ^ (32 - k) < 2 ^ k := by
    rw [Nat.div_lt_iff_lt_mul (Nat.two_pow_pos _), ← e32]; exact hn
  have hle : n / 2 ^ (32 - k) ≤ n := Nat.div_le_self _ _
  have hm : (n * 2 ^ k % 4294967296) % 2 ^ k = 0 := by
    rw [e32, Nat.mod_mul_right_mod, Nat.mul_mod_left]
  rw [u32_or_nat _ _ (Nat.mod_lt _ (by decide)) (by omega), nat_join k _ _ hm hq]
  rfl

/-- A bit, counted from the highest one of the first byte on. -/
def bitN (l : List UInt8) (i : Nat) : Nat := (l.getD (i / 8) 0).toNat / 2 ^ (7 - i % 8) % 2
/-- So many ones stand ahead of the first 0. -/
def IsOnes (l : List UInt8) (n : Nat) : Prop := n ≤ 8 * l.length ∧ (∀ j, j < n → bitN l j = 1) ∧ (n < 8 * l.length → bitN l n = 0)
theorem IsOnes.unique {l : List UInt8} {n m : Nat} (h : IsOnes l n) (k : IsOnes l m) : n = m := by
  rcases Nat.lt_trichotomy n m with h1 | h1 | h1
  · have a := h.2.2 (Nat.lt_of_lt_of_le h1 k.1)
    have b := k.2.1 n h1
    omega
  · exact h1
  · have a := k.2.2 (Nat.lt_of_lt_of_le h1 h.1)
    have b := h.2.1 m h1
    omega
theorem bitN_two (l : List UInt8) (i : Nat) : bitN l i < 2 := Nat.mod_lt _ (by decide)
theorem and_one (x b : Nat) (hx : x < 256) : bits .and .u8 ((x : Int) / 2 ^ b) 1 = ((x / 2 ^ b % 2 : Nat) : Int) := by
  have h : x / 2 ^ b ≤ x := Nat.div_le_self _ _
  rw [show ((x : Int) / 2 ^ b) = ((x / 2 ^ b : Nat) : Int) by simp, show (1 : Int) = ((1 : Nat) : Int) from rfl, u8_and_nat _ 1 (by omega) (by decide)]
  rw [nat_mask1]

/-- What Ones hands back. -/
def TellsOnes (w : World) (l : List UInt8) (e : Ending) (w' : World) : Prop := w = w' ∧ ∃ n : Nat, IsOnes l n ∧ e = .returned (.int .i64 n)

end Go.Proofs.Ytkfjobanbnokoaa.En

set_option linter.unusedSimpArgs false
set_option linter.unusedVariables false
set_option maxRecDepth 100000
namespace Go.Proofs.Ytkfjobanbnokoaa.Bs
open Go.RowKit Go.Proofs.YtkfjobanbnokoaaW.PrintWords

theorem blk_old {w : World} {g : Nat} {o : Obj} (h : w.heap[g]? = some o) (o' : Obj) : (w.alloc o').heap[g]? = some o := blk_below h (below_alloc (Below.refl _ _) _)
theorem size_push (w : World) (o : Obj) : (w.alloc o).heap.size = w.heap.size + 1 := by show (w.heap.push o).size = _; rw [Array.size_push]
theorem blk_new1 (w : World) (o1 o2 : Obj) : ((w.alloc o1).alloc o2).heap[w.heap.size + 1]? = some o2 := by
  have h := blk_new (w.alloc o1) o2
  rwa [size_push] at h
theorem range_block {w : World} {b : Nat} {cs : Array Value} {T : TypeId} (h : w.heap[b]? = some (.cells cs T (0, 0))) : w.rangeAt b 0 cs.toList := fun j v hv => by
  rw [Nat.zero_add]
  exact (blk_cell h j).trans (by simpa using hv)
theorem there_block {w : World} {b : Nat} {cs : Array Value} {T : TypeId} (h : w.heap[b]? = some (.cells cs T (0, 0))) : w.there b 0 cs.size := fun j hj => by
  rw [Nat.zero_add]
  exact ⟨by rw [blk_cell h j]; simp [hj], blk_frozen h _⟩
theorem load_block {w : World} {b : Nat} {cs : Array Value} {T : TypeId} (h : w.heap[b]? = some (.cells cs T (0, 0))) (ty : TypeId) (d : TypeDesc) (hu : Try.prog.underlying ty = some d) (hd : d.isRow = true) (hi : (Try.prog.info? ty).map (·.size) = some cs.size) :
    (loadVar ty ⟨b, 0, none⟩).run Try.prog w = .ok (.agg cs) w := by
  have h2 := run_loadVar_mid (P := Try.prog) w b 0 ty cs.toList d (range_block h) hu hd (by simpa using hi)
  simpa using h2
theorem step_load {ops : Array Oper} {rest : List Oper} {op : Oper} {a : Act} {w : World} {Q : Exit → Act → World → Prop} (hgd : op.guard = none) (ty : TypeId) (x : Operand) (ho : op.op = .load ty x)
    {b : Nat} (hx : a.eval x = .pointer (some ⟨b, 0, none⟩)) {cs : Array Value} {T : TypeId} (hc : w.heap[b]? = some (.cells cs T (0, 0))) (d : TypeDesc)
    (hu : Try.prog.underlying ty = some d) (hd : d.isRow = true) (hi : (Try.prog.info? ty).map (·.size) = some cs.size)
    (h : wpList Try.prog ops Q rest (a.put op.dst (.agg cs)) w) : wpList Try.prog ops Q (op :: rest) a w :=
  wpList_load_mid (P := Try.prog) hgd ty x ho b 0 hx cs.toList d (range_block hc) hu hd (by simpa using hi) (by simpa using h)
theorem setCells_keep (b : Nat) : ∀ (vs : List Value) (o : Nat) (w : World) (cs : Array Value) (T : TypeId), w.heap[b]? = some (.cells cs T (0, 0)) → o + vs.length ≤ cs.size →
    ∃ cs', (w.setCells b o vs).heap[b]? = some (.cells cs' T (0, 0)) ∧ cs'.size = cs.size ∧ (∀ i, i < o ∨ o + vs.length ≤ i → cs'[i]? = cs[i]?) ∧ ∀ j, j < vs.length → cs'[o + j]? = vs[j]?
  | [], o, w, cs, T, h, hs => ⟨cs, h, rfl, fun _ _ => rfl, fun j hj => absurd hj (Nat.not_lt_zero j)⟩
  | v :: r, o, w, cs, T, h, hs => by
    have hs' : o + (r.length + 1) ≤ cs.size := by simpa using hs
    obtain ⟨cs', h1, h2, h3, h4⟩ := setCells_keep b r (o + 1) _ _ T (blk_set h o v) (by rw [Array.size_setIfInBounds]; omega)
    refine ⟨cs', h1, by rw [h2, Array.size_setIfInBounds], fun i hi => ?_, fun j hj => ?_⟩
    · have hi' : i < o ∨ o + (r.length + 1) ≤ i := by simpa using hi
      rw [h3 i (by omega), Array.getElem?_setIfInBounds_ne (by omega)]
    · cases j with
      | zero =>
        rw [h3 (o + 0) (by omega), Nat.add_zero, Array.getElem?_setIfInBounds_self_of_lt (by omega)]
        rfl
      | succ j =>
        have := h4 j (by simpa using hj)
        rw [show o + (j + 1) = o + 1 + j by omega, this]
        rfl
theorem setCells_block {w : World} {b : Nat} {cs vs : Array Value} {T : TypeId} (h : w.heap[b]? = some (.cells cs T (0, 0))) (hs : vs.size = cs.size) :
    (w.setCells b 0 vs.toList).heap[b]? = some (.cells vs T (0, 0)) := by
  obtain ⟨cs', h1, h2, _, h4⟩ := setCells_keep b vs.toList 0 w cs T h (by simp; omega)
  rw [h1]
  congr 2
  apply Array.ext_getElem?
  intro i
  by_cases hi : i < vs.size
  · have := h4 i (by simpa using hi)
    rw [Nat.zero_add] at this
    rw [this]; simp
  · rw [Array.getElem?_eq_none (by omega), Array.getElem?_eq_none (by omega)]
theorem setCells_below {B : Nat} {a : World} (b : Nat) (hb : B ≤ b) : ∀ (vs : List Value) (o : Nat) (w : World), Below B a w → Below B a (w.setCells b o vs)
  | [], _, _, h => h
  | v :: r, o, w, h => setCells_below b hb r (o + 1) _ (h.setCell (p := ⟨b, o, none⟩) hb v)
theorem setCells_grown (b : Nat) : ∀ (vs : List Value) (o : Nat) (w : World), w.grownBy (w.setCells b o vs) (some b)
  | [], _, w => World.grownBy.refl _ _
  | v :: r, o, w => World.grownBy.trans (grown_set w b o v) (setCells_grown b r (o + 1) _)

theorem step_store {ops : Array Oper} {rest : List Oper} {op : Oper} {a : Act} {w : World} {Q : Exit → Act → World → Prop} (hgd : op.guard = none) (ty : TypeId) (x y : Operand) (ho : op.op = .store ty x y)
    {b : Nat} {cs vs : Array Value} {T : TypeId} (hx : a.eval x = .pointer (some ⟨b, 0, none⟩)) (hy : a.eval y = .agg vs) (hc : w.heap[b]? = some (.cells cs T (0, 0))) (hs : vs.size = cs.size)
    (hi : (Try.prog.info? ty).map (·.size) = some cs.size) (h1 : vs.all (·.oneCell') = true)
    (h : wpList Try.prog ops Q rest (a.put op.dst undef) (w.setCells b 0 vs.toList)) : wpList Try.prog ops Q (op :: rest) a w :=
  wpList_store_mid (P := Try.prog) hgd ty x y ho b 0 vs hx hy (by rw [hs]; exact there_block hc) (by rw [hs]; exact hi) h1 h
theorem zero_of {t : TypeId} {z : Value} (h : (Try.prog.info? t).map (·.zero) = some (some z)) (W : World) : (zeroValue t).run Try.prog W = .ok z W := by
  obtain ⟨i, hi, hz⟩ := Option.map_eq_some_iff.1 h
  simp [zeroValue, typeInfo, hi, hz]
theorem step_alloc {ops : Array Oper} {rest : List Oper} {op : Oper} {a : Act} {w : World} {Q : Exit → Act → World → Prop} (hgd : op.guard = none) (t : TypeId) (ho : op.op = .alloc t) (cs : Array Value)
    (hz : ∀ W : World, (zeroValue t).run Try.prog W = .ok (.agg cs) W)
    (h : wpList Try.prog ops Q rest (a.put op.dst (.pointer (some ⟨w.heap.size, 0, none⟩))) (w.alloc (.cells cs t))) : wpList Try.prog ops Q (op :: rest) a w := by
  refine wpList_plain hgd fun K hK => ?_
  unfold Oper.wp
  simp [execOp, ho, Instr.alloc, hz, newVar, newRow, Value.cells, Result.andThen]
  exact hK _ _ h
theorem results_c {fn : Func} {a : Tmp} {t : TypeId} (h : fn.results = #[.cell a t]) (tmps : Array Value) (P : Program) (w : World) (b : Nat) (cs : Array Value) (ha : tmps.getD a undef = .pointer (some ⟨b, 0, none⟩))
    (hl : (loadVar t ⟨b, 0, none⟩).run P w = .ok (.agg cs) w) : (results fn tmps).run P w = .ok (.agg cs) w := by
  have ha2 : tmps[a]?.getD undef = .pointer (some ⟨b, 0, none⟩) := by rw [← ha]; simp
  simp [results, h, ha2, hl, asAddr]
theorem results_c1 {fn : Func} {a p : Tmp} {t : TypeId} (h : fn.results = #[.cell a t, .tmp p]) (tmps : Array Value) (P : Program) (w : World) (b : Nat) (cs : Array Value) (ha : tmps.getD a undef = .pointer (some ⟨b, 0, none⟩))
    (hl : (loadVar t ⟨b, 0, none⟩).run P w = .ok (.agg cs) w) : (results fn tmps).run P w = .ok (.tuple #[.agg cs, tmps.getD p undef]) w := by
  have ha2 : tmps[a]?.getD undef = .pointer (some ⟨b, 0, none⟩) := by rw [← ha]; simp
  simp [results, h, ha2, hl, asAddr]
theorem results_c2 {fn : Func} {a p q : Tmp} {t : TypeId} (h : fn.results = #[.cell a t, .tmp p, .tmp q]) (tmps : Array Value) (P : Program) (w : World) (b : Nat) (cs : Array Value) (ha : tmps.getD a undef = .pointer (some ⟨b, 0, none⟩))
    (hl : (loadVar t ⟨b, 0, none⟩).run P w = .ok (.agg cs) w) : (results fn tmps).run P w = .ok (.tuple #[.agg cs, tmps.getD p undef, tmps.getD q undef]) w := by
  have ha2 : tmps[a]?.getD undef = .pointer (some ⟨b, 0, none⟩) := by rw [← ha]; simp
  simp [results, h, ha2, hl, asAddr]
end Go.Proofs.Ytkfjobanbnokoaa.Bs

set_option linter.unusedSimpArgs false
set_option linter.unusedVariables false
set_option maxRecDepth 100000
namespace Go.Proofs.Ytkfjobanbnokoaa.Bs
open Go.RowKit Go.Proofs.YtkfjobanbnokoaaW.PrintWords

theorem step_build {ops : Array Oper} {rest : List Oper} {op : Oper} {a : Act} {w : World} {Q : Exit → Act → World → Prop} (hgd : op.guard = none) (t : TypeId) (ho : op.op = .build t #[]) (cs : Array Value)
    (hz : ∀ W : World, (Instr.build t #[]).run Try.prog W = .ok (.agg cs) W)
    (h : wpList Try.prog ops Q rest (a.put op.dst (.agg cs)) w) : wpList Try.prog ops Q (op :: rest) a w := by
  refine wpList_plain hgd fun K hK => ?_
  unfold Oper.wp
  simp [execOp, ho, hz, Result.andThen]
  exact hK _ _ h
/-- A whole load behind a guard that is met. -/
theorem step_loadG {ops : Array Oper} {rest : List Oper} {op : Oper} {a : Act} {w : World} {Q : Exit → Act → World → Prop} (hw : Region.wanted op (yielded ops a.tmps) = true) (ty : TypeId) (x : Operand) (ho : op.op = .load ty x)
    {b : Nat} (hx : a.eval x = .pointer (some ⟨b, 0, none⟩)) {cs : Array Value} {T : TypeId} (hc : w.heap[b]? = some (.cells cs T (0, 0))) (d : TypeDesc)
    (hu : Try.prog.underlying ty = some d) (hd : d.isRow = true) (hi : (Try.prog.info? ty).map (·.size) = some cs.size)
    (h : wpList Try.prog ops Q rest (a.put op.dst (.agg cs)) w) : wpList Try.prog ops Q (op :: rest) a w :=
  wpList_step fun K hK => by
    rw [if_pos hw]
    exact wp_load_mid (P := Try.prog) ty x ho b 0 hx cs.toList d (range_block hc) hu hd (by simpa using hi) (hK _ _ (by simpa using h))
end Go.Proofs.Ytkfjobanbnokoaa.Bs

set_option linter.unusedSimpArgs false
set_option linter.unusedVariables false
set_option maxRecDepth 100000
namespace Go.Proofs.Ytkfjobanbnokoaa.Av
open Go.RowKit Go.Proofs.YtkfjobanbnokoaaW.PrintWords Go.Proofs.Ytkfjobanbnokoaa.Bs

/-- The cells of a message: its numbers, then its bytes. -/
def AV (ns : List Int) (l : List UInt8) : Array Value := (ns.map (fun n : Int => Value.int .i64 n) ++ encs B l).toArray
theorem AV_size (ns : List Int) (l : List UInt8) : (AV ns l).size = ns.length + l.length := by simp [AV, encs]
theorem AV_list (ns : List Int) (l : List UInt8) : (AV ns l).toList = ns.map (fun n : Int => Value.int .i64 n) ++ encs B l := by simp [AV]
theorem AV_one (ns : List Int) (l : List UInt8) : (AV ns l).all (·.oneCell') = true := by
  rw [Array.all_eq_true_iff_forall_mem]
  intro v hv
  simp only [AV, encs, List.mem_toArray, List.mem_append, List.mem_map] at hv
  rcases hv with ⟨x, _, rfl⟩ | ⟨x, _, rfl⟩ <;> rfl
theorem AV_byte (ns : List Int) (l : List UInt8) (j : Nat) (hj : j < l.length) : (AV ns l)[ns.length + j]? = some (.int .u8 ((l.getD j 0).toNat : Int)) := by
  unfold AV
  rw [List.getElem?_toArray, List.getElem?_append_right (by simp), List.length_map, show ns.length + j - ns.length = j by omega, encs_get (d := 0) _ j hj]
  rfl
theorem AV_at (ns : List Int) (l : List UInt8) (p j : Nat) (hp : p = ns.length + j) (hj : j < l.length) : (AV ns l)[p]? = some (.int .u8 ((l.getD j 0).toNat : Int)) := by
  subst hp; exact AV_byte ns l j hj
theorem AV_num (n : Int) (r : List Int) (l : List UInt8) : (AV (n :: r) l)[0]? = some (.int .i64 n) := by simp [AV]
theorem AV_num1 (n m : Int) (r : List Int) (l : List UInt8) : (AV (n :: m :: r) l)[1]? = some (.int .i64 m) := by simp [AV]
theorem AV_set0 (n m : Int) (r : List Int) (l : List UInt8) : (AV (n :: r) l).setIfInBounds 0 (.int .i64 m) = AV (m :: r) l := by simp [AV]
theorem AV_set1 (n n' m : Int) (r : List Int) (l : List UInt8) : (AV (n :: n' :: r) l).setIfInBounds 1 (.int .i64 m) = AV (n :: m :: r) l := by simp [AV]
theorem AV_setb (ns : List Int) (l : List UInt8) (j : Nat) (x : UInt8) : (AV ns l).setIfInBounds (ns.length + j) (.int .u8 (x.toNat : Int)) = AV ns (l.set j x) := by
  unfold AV
  apply Array.ext'
  rw [Array.toList_setIfInBounds]
  simp only [encs]
  rw [List.set_append_right _ _ (by simp), List.length_map, show ns.length + j - ns.length = j by omega, List.map_set]
  rfl
theorem AV_splice (ns : List Int) (l y : List UInt8) (o : Nat) (h : o + y.length ≤ l.length) : (splice (AV ns l).toList (ns.length + o) (encs B y)).toArray = AV ns (l.take o ++ y ++ l.drop (o + y.length)) := by
  unfold splice
  rw [AV_list, encs_length]
  unfold AV encs
  rw [List.take_append, List.drop_append, List.length_map, List.take_of_length_le (by simp), List.drop_of_length_le (by simp; omega), show ns.length + o - ns.length = o by omega, show ns.length + o + y.length - ns.length = o + y.length by omega, List.nil_append]
  simp only [List.map_append, List.map_take, List.map_drop, List.append_assoc]

/-- What was filled in up to a place. -/
def fillP (L : List UInt8) (i : Nat) : List UInt8 := L.take i ++ List.replicate (L.length - i) 0
theorem part_length (L : List UInt8) (i : Nat) (h : i ≤ L.length) : (fillP L i).length = L.length := by unfold fillP; simp; omega
theorem part_zero (L : List UInt8) : fillP L 0 = List.replicate L.length 0 := by simp [fillP]
theorem part_all (L : List UInt8) (i : Nat) (h : i = L.length) : fillP L i = L := by subst h; simp [fillP]
theorem part_set (L : List UInt8) (i : Nat) (h : i < L.length) : (fillP L i).set i (L.getD i 0) = fillP L (i + 1) := by
  unfold fillP
  rw [List.set_append_right _ _ (by simp; omega), List.length_take, show i - min i L.length = 0 by omega, show L.length - i = (L.length - (i + 1)) + 1 by omega, List.replicate_succ, List.set_cons_zero, List.take_add_one, List.append_assoc]
  congr 1
  simp [List.getD_eq_getElem?_getD, List.getElem?_eq_getElem h]
theorem part_copy (L : List UInt8) (o n : Nat) (h : o + n ≤ L.length) : (fillP L o).take o ++ (L.drop o).take n ++ (fillP L o).drop (o + n) = fillP L (o + n) := by
  have e1 : (fillP L o).take o = L.take o := by
    unfold fillP
    rw [List.take_append_of_le_length (by simp; omega), List.take_take, Nat.min_self]
  have e2 : (fillP L o).drop (o + n) = List.replicate (L.length - (o + n)) 0 := by
    unfold fillP
    rw [List.drop_append, List.drop_of_length_le (by simp; omega), List.nil_append, List.drop_replicate, List.length_take]
    congr 1; omega
  rw [e1, e2]
  unfold fillP
  rw [List.take_add]
theorem add_off (b o j : Nat) : (⟨b, o, none⟩ : Addr).add j = ⟨b, o + j, none⟩ := by
  unfold Addr.add
  split
  · next h => subst h; rfl
  · rfl

theorem add_lit (ad : Addr) (k : Nat) (h : k ≠ 0) : ad.add k = ⟨ad.block, ad.off + k, none⟩ := by unfold Addr.add; rw [if_neg h]
/-- The bytes of a message in a block, from a place on. -/
theorem RB_block {w : World} {b : Nat} {ns : List Int} {l : List UInt8} {T : TypeId} (h : w.heap[b]? = some (.cells (AV ns l) T (0, 0))) (o n p : Nat) (hp : p = ns.length + o) (hn : o + n ≤ l.length) (hl : l.length ≤ 9223372036854775807) :
    RB w (.slice (some ⟨b, p, none⟩) n n) ((l.drop o).take n) := by
  subst hp
  have e : ((l.drop o).take n).length = n := by simp; omega
  refine ⟨some ⟨b, ns.length + o, none⟩, n, by rw [e], by omega, rfl, by omega, fun hn0 => ⟨_, rfl, fun j hj => ?_⟩⟩
  rw [add_off]
  refine (blk_cell h _).trans ?_
  rw [Nat.add_assoc, AV_byte ns l (o + j) (by omega)]
  congr 3
  simp [List.getD_eq_getElem?_getD, List.getElem?_take, List.getElem?_drop, show j < n by omega]

theorem grown_setRow (w : World) (b : Nat) (cs : Array Value) : w.grownBy (w.setRow b cs) (some b) :=
  ⟨rfl, rfl, rfl, by simp [World.setRow], fun i _ hne => setRow_other w b i cs (fun e => hne (by rw [e]))⟩

/-- copy(m[o:o+n], src), the first a part of a block of a message. -/
theorem copy_mid {ops : Array Oper} {rest : List Oper} {op : Oper} {a : Act} {Q : Exit → Act → World → Prop} {W : World} (hgd : op.guard = none) (d s : Operand)
    (ho : op.op = .call { callee := .builtin .copy, args := #[d, s], argTypes := #[22, 22] })
    (b p o n : Nat) (ns : List Int) (l ys : List UInt8) (T : TypeId) (u : Value) (hp : p = ns.length + o) (hd : a.eval d = .slice (some ⟨b, p, none⟩) n n) (hs : a.eval s = u)
    (hg : W.heap[b]? = some (.cells (AV ns l) T (0, 0))) (HR : RB W u ys) (hy : ys.length = n) (hn : o + n ≤ l.length) (hn0 : 0 < n)
    (h : ∀ w1, w1.heap[b]? = some (.cells (AV ns (l.take o ++ ys ++ l.drop (o + n))) T (0, 0)) → W.grownBy w1 (some b) → wpList Try.prog ops Q rest (a.put op.dst (goInt n)) w1) :
    wpList Try.prog ops Q (op :: rest) a W := by
  obtain ⟨A, c, rfl, _, hr⟩ := HR
  obtain ⟨i8, hi8, hs8⟩ := info8'
  have hsz : (Try.prog.info? 5).map (·.size) = some 1 := by rw [hi8]; simp [hs8]
  subst hp hy
  obtain ⟨ad, rfl, hcell⟩ := hr.2.2 hn0
  refine wpList_copy_own hgd d s _ _ ho 5 Try.underlying22 hsz b (ns.length + o) ys.length ys.length ad ys.length c hd hs (AV ns l) T hg (encs B ys) (by rw [encs_length]; simp) (fun j z hz => ?_) (by rw [encs_length, AV_size]; omega) (fun z hz => ?_) ?_
  · obtain ⟨hj, _⟩ := List.getElem?_eq_some_iff.1 hz
    rw [encs_length] at hj
    rw [encs_get (d := 0) _ j hj] at hz
    rw [hcell j hj, ← hz]
  · simp only [encs, List.mem_map] at hz
    obtain ⟨q, _, rfl⟩ := hz
    exact rfl
  · have hX : ((AV ns l).toList.take (ns.length + o) ++ (encs B ys ++ (AV ns l).toList.drop (ns.length + o + ys.length))).toArray = AV ns (l.take o ++ ys ++ l.drop (o + ys.length)) := by
      have h3 := AV_splice ns l ys o hn
      unfold splice at h3
      rwa [encs_length] at h3
    have h1 := setRow_heap W b (AV ns l) (AV ns (l.take o ++ ys ++ l.drop (o + ys.length))) T _ hg
    rw [encs_length, hX]
    exact h _ h1 (grown_setRow W b _)

/-- The same as one step of a region that draws its order. -/
theorem step_copy_mid {ops : Array Oper} {op : Oper} {a : Act} {K : Act → World → Prop} {Q : Exit → Act → World → Prop} {E : Prop} {W : World} (hgd : op.guard = none) (d s : Operand)
    (ho : op.op = .call { callee := .builtin .copy, args := #[d, s], argTypes := #[22, 22] })
    (b p o n : Nat) (ns : List Int) (l ys : List UInt8) (T : TypeId) (u : Value) (hp : p = ns.length + o) (hd : a.eval d = .slice (some ⟨b, p, none⟩) n n) (hs : a.eval s = u)
    (hg : W.heap[b]? = some (.cells (AV ns l) T (0, 0))) (HR : RB W u ys) (hy : ys.length = n) (hn : o + n ≤ l.length) (hn0 : 0 < n)
    (h : ∀ w1, w1.heap[b]? = some (.cells (AV ns (l.take o ++ ys ++ l.drop (o + n))) T (0, 0)) → W.grownBy w1 (some b) → K (a.put op.dst (goInt n)) w1) :
    if Region.wanted op (yielded ops a.tmps) = true then Oper.wp Try.prog op a W K Q else E := by
  obtain ⟨A, c, rfl, _, hr⟩ := HR
  obtain ⟨i8, hi8, hs8⟩ := info8'
  have hsz : (Try.prog.info? 5).map (·.size) = some 1 := by rw [hi8]; simp [hs8]
  subst hp hy
  obtain ⟨ad, rfl, hcell⟩ := hr.2.2 hn0
  have hw : Region.wanted op (yielded ops a.tmps) = true := by simp [Region.wanted, hgd]
  rw [if_pos hw]
  have hrun := run_copy_row (P := Try.prog) W 22 22 op.type 5 b (ns.length + o) ys.length ys.length ad ys.length c (AV ns l) T (encs B ys) Try.underlying22 hsz hg (by rw [encs_length]; simp) (fun j z hz => by
    obtain ⟨hj, _⟩ := List.getElem?_eq_some_iff.1 hz
    rw [encs_length] at hj
    rw [encs_get (d := 0) _ j hj] at hz
    rw [hcell j hj, ← hz]) (by rw [encs_length, AV_size]; omega) (fun z hz => by
    simp only [encs, List.mem_map] at hz
    obtain ⟨q, _, rfl⟩ := hz
    exact rfl)
  have hX : ((AV ns l).toList.take (ns.length + o) ++ encs B ys ++ (AV ns l).toList.drop (ns.length + o + ys.length)).toArray = AV ns (l.take o ++ ys ++ l.drop (o + ys.length)) := by
    have h3 := AV_splice ns l ys o hn
    unfold splice at h3
    rwa [encs_length, ← List.append_assoc] at h3
  rw [encs_length, hX] at hrun
  have h1 := setRow_heap W b (AV ns l) (AV ns (l.take o ++ ys ++ l.drop (o + ys.length))) T _ hg
  have h2 := h _ h1 (grown_setRow W b _)
  simp only [List.append_assoc] at h2
  unfold Oper.wp
  simp [execOp, ho, resolve, invoke, builtin, hd, hs, hrun, Result.andThen]
  exact h2

end Go.Proofs.Ytkfjobanbnokoaa.Av

set_option linter.unusedSimpArgs false
set_option linter.unusedVariables false
set_option maxRecDepth 100000
namespace Go.Proofs.Ytkfjobanbnokoaa.Mv
open Go.RowKit Go.Proofs.YtkfjobanbnokoaaW.PrintWords Go.Proofs.Ytkfjobanbnokoaa.Bs

/-- The cells of a message: its numbers, then its bytes. -/
def MV (ns : List Nat) (l : List UInt8) : Array Value := (ns.map (fun n : Nat => Value.int .u32 (n : Int)) ++ encs B l).toArray
theorem MV_size (ns : List Nat) (l : List UInt8) : (MV ns l).size = ns.length + l.length := by simp [MV, encs]
theorem MV_list (ns : List Nat) (l : List UInt8) : (MV ns l).toList = ns.map (fun n : Nat => Value.int .u32 (n : Int)) ++ encs B l := by simp [MV]
theorem MV_one (ns : List Nat) (l : List UInt8) : (MV ns l).all (·.oneCell') = true := by
  rw [Array.all_eq_true_iff_forall_mem]
  intro v hv
  simp only [MV, encs, List.mem_toArray, List.mem_append, List.mem_map] at hv
  rcases hv with ⟨x, _, rfl⟩ | ⟨x, _, rfl⟩ <;> rfl
theorem MV_byte (ns : List Nat) (l : List UInt8) (j : Nat) (hj : j < l.length) : (MV ns l)[ns.length + j]? = some (.int .u8 ((l.getD j 0).toNat : Int)) := by
  unfold MV
  rw [List.getElem?_toArray, List.getElem?_append_right (by simp), List.length_map, show ns.length + j - ns.length = j by omega, encs_get (d := 0) _ j hj]
  rfl
theorem MV_at (ns : List Nat) (l : List UInt8) (p j : Nat) (hp : p = ns.length + j) (hj : j < l.length) : (MV ns l)[p]? = some (.int .u8 ((l.getD j 0).toNat : Int)) := by
  subst hp; exact MV_byte ns l j hj
theorem MV_num (n : Nat) (r : List Nat) (l : List UInt8) : (MV (n :: r) l)[0]? = some (.int .u32 (n : Int)) := by simp [MV]
theorem MV_num1 (n m : Nat) (r : List Nat) (l : List UInt8) : (MV (n :: m :: r) l)[1]? = some (.int .u32 (m : Int)) := by simp [MV]
theorem MV_set0 (n m : Nat) (r : List Nat) (l : List UInt8) : (MV (n :: r) l).setIfInBounds 0 (.int .u32 (m : Int)) = MV (m :: r) l := by simp [MV]
theorem MV_set1 (n n' m : Nat) (r : List Nat) (l : List UInt8) : (MV (n :: n' :: r) l).setIfInBounds 1 (.int .u32 (m : Int)) = MV (n :: m :: r) l := by simp [MV]
theorem MV_setb (ns : List Nat) (l : List UInt8) (j : Nat) (x : UInt8) : (MV ns l).setIfInBounds (ns.length + j) (.int .u8 (x.toNat : Int)) = MV ns (l.set j x) := by
  unfold MV
  apply Array.ext'
  rw [Array.toList_setIfInBounds]
  simp only [encs]
  rw [List.set_append_right _ _ (by simp), List.length_map, show ns.length + j - ns.length = j by omega, List.map_set]
  rfl
theorem MV_splice (ns : List Nat) (l y : List UInt8) (o : Nat) (h : o + y.length ≤ l.length) : (splice (MV ns l).toList (ns.length + o) (encs B y)).toArray = MV ns (l.take o ++ y ++ l.drop (o + y.length)) := by
  unfold splice
  rw [MV_list, encs_length]
  unfold MV encs
  rw [List.take_append, List.drop_append, List.length_map, List.take_of_length_le (by simp), List.drop_of_length_le (by simp; omega), show ns.length + o - ns.length = o by omega, show ns.length + o + y.length - ns.length = o + y.length by omega, List.nil_append]
  simp only [List.map_append, List.map_take, List.map_drop, List.append_assoc]

/-- What was filled in up to a place. -/
def fillP (L : List UInt8) (i : Nat) : List UInt8 := L.take i ++ List.replicate (L.length - i) 0
theorem part_length (L : List UInt8) (i : Nat) (h : i ≤ L.length) : (fillP L i).length = L.length := by unfold fillP; simp; omega
theorem part_zero (L : List UInt8) : fillP L 0 = List.replicate L.length 0 := by simp [fillP]
theorem part_all (L : List UInt8) (i : Nat) (h : i = L.length) : fillP L i = L := by subst h; simp [fillP]
theorem part_set (L : List UInt8) (i : Nat) (h : i < L.length) : (fillP L i).set i (L.getD i 0) = fillP L (i + 1) := by
  unfold fillP
  rw [List.set_append_right _ _ (by simp; omega), List.length_take, show i - min i L.length = 0 by omega, show L.length - i = (L.length - (i + 1)) + 1 by omega, List.replicate_succ, List.set_cons_zero, List.take_add_one, List.append_assoc]
  congr 1
  simp [List.getD_eq_getElem?_getD, List.getElem?_eq_getElem h]
theorem part_copy (L : List UInt8) (o n : Nat) (h : o + n ≤ L.length) : (fillP L o).take o ++ (L.drop o).take n ++ (fillP L o).drop (o + n) = fillP L (o + n) := by
  have e1 : (fillP L o).take o = L.take o := by
    unfold fillP
    rw [List.take_append_of_le_length (by simp; omega), List.take_take, Nat.min_self]
  have e2 : (fillP L o).drop (o + n) = List.replicate (L.length - (o + n)) 0 := by
    unfold fillP
    rw [List.drop_append, List.drop_of_length_le (by simp; omega), List.nil_append, List.drop_replicate, List.length_take]
    congr 1; omega
  rw [e1, e2]
  unfold fillP
  rw [List.take_add]
theorem add_off (b o j : Nat) : (⟨b, o, none⟩ : Addr).add j = ⟨b, o + j, none⟩ := by
  unfold Addr.add
  split
  · next h => subst h; rfl
  · rfl

theorem add_lit (ad : Addr) (k : Nat) (h : k ≠ 0) : ad.add k = ⟨ad.block, ad.off + k, none⟩ := by unfold Addr.add; rw [if_neg h]
/-- The bytes of a message in a block, from a place on. -/
theorem RB_block {w : World} {b : Nat} {ns : List Nat} {l : List UInt8} {T : TypeId} (h : w.heap[b]? = some (.cells (MV ns l) T (0, 0))) (o n p : Nat) (hp : p = ns.length + o) (hn : o + n ≤ l.length) (hl : l.length ≤ 9223372036854775807) :
    RB w (.slice (some ⟨b, p, none⟩) n n) ((l.drop o).take n) := by
  subst hp
  have e : ((l.drop o).take n).length = n := by simp; omega
  refine ⟨some ⟨b, ns.length + o, none⟩, n, by rw [e], by omega, rfl, by omega, fun hn0 => ⟨_, rfl, fun j hj => ?_⟩⟩
  rw [add_off]
  refine (blk_cell h _).trans ?_
  rw [Nat.add_assoc, MV_byte ns l (o + j) (by omega)]
  congr 3
  simp [List.getD_eq_getElem?_getD, List.getElem?_take, List.getElem?_drop, show j < n by omega]

theorem grown_setRow (w : World) (b : Nat) (cs : Array Value) : w.grownBy (w.setRow b cs) (some b) :=
  ⟨rfl, rfl, rfl, by simp [World.setRow], fun i _ hne => setRow_other w b i cs (fun e => hne (by rw [e]))⟩

/-- copy(m[o:o+n], src), the first a part of a block of a message. -/
theorem copy_mid {ops : Array Oper} {rest : List Oper} {op : Oper} {a : Act} {Q : Exit → Act → World → Prop} {W : World} (hgd : op.guard = none) (d s : Operand)
    (ho : op.op = .call { callee := .builtin .copy, args := #[d, s], argTypes := #[22, 22] })
    (b p o n : Nat) (ns : List Nat) (l ys : List UInt8) (T : TypeId) (u : Value) (hp : p = ns.length + o) (hd : a.eval d = .slice (some ⟨b, p, none⟩) n n) (hs : a.eval s = u)
    (hg : W.heap[b]? = some (.cells (MV ns l) T (0, 0))) (HR : RB W u ys) (hy : ys.length = n) (hn : o + n ≤ l.length) (hn0 : 0 < n)
    (h : ∀ w1, w1.heap[b]? = some (.cells (MV ns (l.take o ++ ys ++ l.drop (o + n))) T (0, 0)) → W.grownBy w1 (some b) → wpList Try.prog ops Q rest (a.put op.dst (goInt n)) w1) :
    wpList Try.prog ops Q (op :: rest) a W := by
  obtain ⟨A, c, rfl, _, hr⟩ := HR
  obtain ⟨i8, hi8, hs8⟩ := info8'
  have hsz : (Try.prog.info? 5).map (·.size) = some 1 := by rw [hi8]; simp [hs8]
  subst hp hy
  obtain ⟨ad, rfl, hcell⟩ := hr.2.2 hn0
  refine wpList_copy_own hgd d s _ _ ho 5 Try.underlying22 hsz b (ns.length + o) ys.length ys.length ad ys.length c hd hs (MV ns l) T hg (encs B ys) (by rw [encs_length]; simp) (fun j z hz => ?_) (by rw [encs_length, MV_size]; omega) (fun z hz => ?_) ?_
  · obtain ⟨hj, _⟩ := List.getElem?_eq_some_iff.1 hz
    rw [encs_length] at hj
    rw [encs_get (d := 0) _ j hj] at hz
    rw [hcell j hj, ← hz]
  · simp only [encs, List.mem_map] at hz
    obtain ⟨q, _, rfl⟩ := hz
    exact rfl
  · have hX : ((MV ns l).toList.take (ns.length + o) ++ (encs B ys ++ (MV ns l).toList.drop (ns.length + o + ys.length))).toArray = MV ns (l.take o ++ ys ++ l.drop (o + ys.length)) := by
      have h3 := MV_splice ns l ys o hn
      unfold splice at h3
      rwa [encs_length] at h3
    have h1 := setRow_heap W b (MV ns l) (MV ns (l.take o ++ ys ++ l.drop (o + ys.length))) T _ hg
    rw [encs_length, hX]
    exact h _ h1 (grown_setRow W b _)

/-- The same as one step of a region that draws its order. -/
theorem step_copy_mid {ops : Array Oper} {op : Oper} {a : Act} {K : Act → World → Prop} {Q : Exit → Act → World → Prop} {E : Prop} {W : World} (hgd : op.guard = none) (d s : Operand)
    (ho : op.op = .call { callee := .builtin .copy, args := #[d, s], argTypes := #[22, 22] })
    (b p o n : Nat) (ns : List Nat) (l ys : List UInt8) (T : TypeId) (u : Value) (hp : p = ns.length + o) (hd : a.eval d = .slice (some ⟨b, p, none⟩) n n) (hs : a.eval s = u)
    (hg : W.heap[b]? = some (.cells (MV ns l) T (0, 0))) (HR : RB W u ys) (hy : ys.length = n) (hn : o + n ≤ l.length) (hn0 : 0 < n)
    (h : ∀ w1, w1.heap[b]? = some (.cells (MV ns (l.take o ++ ys ++ l.drop (o + n))) T (0, 0)) → W.grownBy w1 (some b) → K (a.put op.dst (goInt n)) w1) :
    if Region.wanted op (yielded ops a.tmps) = true then Oper.wp Try.prog op a W K Q else E := by
  obtain ⟨A, c, rfl, _, hr⟩ := HR
  obtain ⟨i8, hi8, hs8⟩ := info8'
  have hsz : (Try.prog.info? 5).map (·.size) = some 1 := by rw [hi8]; simp [hs8]
  subst hp hy
  obtain ⟨ad, rfl, hcell⟩ := hr.2.2 hn0
  have hw : Region.wanted op (yielded ops a.tmps) = true := by simp [Region.wanted, hgd]
  rw [if_pos hw]
  have hrun := run_copy_row (P := Try.prog) W 22 22 op.type 5 b (ns.length + o) ys.length ys.length ad ys.length c (MV ns l) T (encs B ys) Try.underlying22 hsz hg (by rw [encs_length]; simp) (fun j z hz => by
    obtain ⟨hj, _⟩ := List.getElem?_eq_some_iff.1 hz
    rw [encs_length] at hj
    rw [encs_get (d := 0) _ j hj] at hz
    rw [hcell j hj, ← hz]) (by rw [encs_length, MV_size]; omega) (fun z hz => by
    simp only [encs, List.mem_map] at hz
    obtain ⟨q, _, rfl⟩ := hz
    exact rfl)
  have hX : ((MV ns l).toList.take (ns.length + o) ++ encs B ys ++ (MV ns l).toList.drop (ns.length + o + ys.length)).toArray = MV ns (l.take o ++ ys ++ l.drop (o + ys.length)) := by
    have h3 := MV_splice ns l ys o hn
    unfold splice at h3
    rwa [encs_length, ← List.append_assoc] at h3
  rw [encs_length, hX] at hrun
  have h1 := setRow_heap W b (MV ns l) (MV ns (l.take o ++ ys ++ l.drop (o + ys.length))) T _ hg
  have h2 := h _ h1 (grown_setRow W b _)
  simp only [List.append_assoc] at h2
  unfold Oper.wp
  simp [execOp, ho, resolve, invoke, builtin, hd, hs, hrun, Result.andThen]
  exact h2

end Go.Proofs.Ytkfjobanbnokoaa.Mv

set_option linter.unusedSimpArgs false
set_option linter.unusedVariables false
set_option maxRecDepth 100000
namespace Go.Proofs.Ytkfjobanbnokoaa.Mv
open Go.RowKit Go.Proofs.YtkfjobanbnokoaaW.PrintWords Go.Proofs.Ytkfjobanbnokoaa.Bs Go.Proofs.Ytkfjobanbnokoaa.Le

/-- The bytes of a message: its kind, three zeros, its numbers, its bytes. -/
def raw1 (κ : UInt8) (n : Nat) (L : List UInt8) : List UInt8 := [κ, 0, 0, 0] ++ leB 4 n ++ L
def raw2 (κ : UInt8) (n m : Nat) (L : List UInt8) : List UInt8 := [κ, 0, 0, 0] ++ leB 4 n ++ leB 4 m ++ L
def flat (ns : List Nat) : List UInt8 := (ns.map (leB 4)).flatten
theorem flat_snoc (ns : List Nat) (j : Nat) (h : j < ns.length) : flat (ns.take (j + 1)) = flat (ns.take j) ++ leB 4 (ns.getD j 0) := by
  unfold flat
  rw [List.take_add_one, List.map_append, List.flatten_append]
  simp [List.getD_eq_getElem?_getD, List.getElem?_eq_getElem h]
theorem flat_length : ∀ ns : List Nat, (flat ns).length = 4 * ns.length
  | [] => rfl
  | n :: r => by
    have h := flat_length r
    unfold flat at h ⊢
    rw [List.map_cons, List.flatten_cons, List.length_append, leB_length, h, List.length_cons]
    omega
theorem cutB (l : List UInt8) (a b n : Nat) : (l.drop a).take (b + n) = (l.drop a).take b ++ (l.drop (a + b)).take n := by
  rw [List.take_add, List.drop_drop]
theorem flatten_snoc (ls : List (List UInt8)) (k : Nat) (h : k < ls.length) : (ls.take (k + 1)).flatten = (ls.take k).flatten ++ ls.getD k [] := by
  rw [List.take_add_one, List.flatten_append]
  simp [List.getD_eq_getElem?_getD, List.getElem?_eq_getElem h]
theorem flatten_le (ls : List (List UInt8)) (k : Nat) : (ls.take k).flatten.length ≤ ls.flatten.length := by
  have h : ls.flatten = (ls.take k).flatten ++ (ls.drop k).flatten := by rw [← List.flatten_append, List.take_append_drop]
  rw [h, List.length_append]; omega
theorem raw1_flat (κ : UInt8) (n : Nat) (L : List UInt8) : [κ, 0, 0, 0] ++ flat [n] ++ L = raw1 κ n L := by simp [raw1, flat]
theorem raw2_flat (κ : UInt8) (n m : Nat) (L : List UInt8) : [κ, 0, 0, 0] ++ flat [n, m] ++ L = raw2 κ n m L := by simp [raw2, flat]
/-- Three zeros behind the kind. -/
def zero3 (b : List UInt8) : Prop := b.getD 1 0 = 0 ∧ b.getD 2 0 = 0 ∧ b.getD 3 0 = 0
instance (b : List UInt8) : Decidable (zero3 b) := by unfold zero3; infer_instance
/-- Why bytes are no message of a kind and a length, or 0. -/
def badM (κ : UInt8) (sz : Nat) (b : List UInt8) : Int :=
  if b.length < sz then 3 else if sz < b.length then 4 else if b.getD 0 0 ≠ κ then 9 else if ¬ zero3 b then 10 else 0
def msg1 (κ : UInt8) (sz : Nat) (b : List UInt8) : Array Value := if badM κ (8 + sz) b = 0 then MV [ofLe ((b.drop 4).take 4)] (b.drop 8) else MV [0] (List.replicate sz 0)
def msg2 (κ : UInt8) (sz : Nat) (b : List UInt8) : Array Value := if badM κ (12 + sz) b = 0 then MV [ofLe ((b.drop 4).take 4), ofLe ((b.drop 8).take 4)] (b.drop 12) else MV [0, 0] (List.replicate sz 0)

theorem badM_cases (κ : UInt8) (sz : Nat) (b : List UInt8) : badM κ sz b = 3 ∧ b.length < sz ∨ badM κ sz b = 4 ∧ sz < b.length ∨ badM κ sz b = 9 ∧ b.length = sz ∧ b.getD 0 0 ≠ κ ∨ badM κ sz b = 10 ∧ b.length = sz ∧ b.getD 0 0 = κ ∧ ¬ zero3 b ∨ badM κ sz b = 0 ∧ b.length = sz ∧ b.getD 0 0 = κ ∧ zero3 b := by
  unfold badM
  split
  · exact .inl ⟨rfl, by assumption⟩
  · split
    · exact .inr (.inl ⟨rfl, by assumption⟩)
    · split
      · exact .inr (.inr (.inl ⟨rfl, by omega, by assumption⟩))
      · split
        · exact .inr (.inr (.inr (.inl ⟨rfl, by omega, by simp_all, by assumption⟩)))
        · exact .inr (.inr (.inr (.inr ⟨rfl, by omega, by simp_all, by simp_all⟩)))
theorem badM_zero {κ : UInt8} {sz : Nat} {b : List UInt8} (h : badM κ sz b = 0) : b.length = sz ∧ b.getD 0 0 = κ ∧ zero3 b := by
  rcases badM_cases κ sz b with ⟨h1, _⟩ | ⟨h1, _⟩ | ⟨h1, _⟩ | ⟨h1, _⟩ | ⟨_, h2⟩
  · rw [h] at h1; cases h1
  · rw [h] at h1; cases h1
  · rw [h] at h1; cases h1
  · rw [h] at h1; cases h1
  · exact h2

theorem first4 (b : List UInt8) (h : 4 ≤ b.length) : b.take 4 = [b.getD 0 0, b.getD 1 0, b.getD 2 0, b.getD 3 0] := by
  match b, h with
  | x :: y :: z :: u :: r, _ => simp
theorem back1 {κ : UInt8} {sz : Nat} {b : List UInt8} (h : badM κ (8 + sz) b = 0) : raw1 κ (ofLe ((b.drop 4).take 4)) (b.drop 8) = b := by
  obtain ⟨h1, h2, h3, h4, h5⟩ := badM_zero h
  have e4 : ((b.drop 4).take 4).length = 4 := by simp; omega
  have e : leB 4 (ofLe ((b.drop 4).take 4)) = (b.drop 4).take 4 := by
    have := leB_ofLe ((b.drop 4).take 4)
    rwa [e4] at this
  have f := first4 b (by omega)
  rw [h2, h3, h4, h5] at f
  unfold raw1
  rw [e, ← f, show b.drop 8 = (b.drop 4).drop 4 by rw [List.drop_drop], List.append_assoc, List.take_append_drop, List.take_append_drop]
theorem back2 {κ : UInt8} {sz : Nat} {b : List UInt8} (h : badM κ (12 + sz) b = 0) : raw2 κ (ofLe ((b.drop 4).take 4)) (ofLe ((b.drop 8).take 4)) (b.drop 12) = b := by
  obtain ⟨h1, h2, h3, h4, h5⟩ := badM_zero h
  have e4 : ((b.drop 4).take 4).length = 4 := by simp; omega
  have e8 : ((b.drop 8).take 4).length = 4 := by simp; omega
  have e : leB 4 (ofLe ((b.drop 4).take 4)) = (b.drop 4).take 4 := by
    have := leB_ofLe ((b.drop 4).take 4)
    rwa [e4] at this
  have e2 : leB 4 (ofLe ((b.drop 8).take 4)) = (b.drop 8).take 4 := by
    have := leB_ofLe ((b.drop 8).take 4)
    rwa [e8] at this
  have f := first4 b (by omega)
  rw [h2, h3, h4, h5] at f
  unfold raw2
  rw [e, e2, ← f, show b.drop 12 = (b.drop 8).drop 4 by rw [List.drop_drop], List.append_assoc, List.take_append_drop, show b.drop 8 = (b.drop 4).drop 4 by rw [List.drop_drop], List.append_assoc, List.take_append_drop, List.take_append_drop]
theorem raw1_length (κ : UInt8) (n : Nat) (L : List UInt8) : (raw1 κ n L).length = 8 + L.length := by unfold raw1; simp [leB_length]; omega
theorem raw2_length (κ : UInt8) (n m : Nat) (L : List UInt8) : (raw2 κ n m L).length = 12 + L.length := by unfold raw2; simp [leB_length]; omega
theorem raw1_good (κ : UInt8) (n : Nat) (L : List UInt8) : badM κ (8 + L.length) (raw1 κ n L) = 0 := by
  unfold badM
  rw [raw1_length, if_neg (by omega), if_neg (by omega), if_neg (by simp [raw1]), if_neg (by simp [zero3, raw1])]
theorem raw2_good (κ : UInt8) (n m : Nat) (L : List UInt8) : badM κ (12 + L.length) (raw2 κ n m L) = 0 := by
  unfold badM
  rw [raw2_length, if_neg (by omega), if_neg (by omega), if_neg (by simp [raw2]), if_neg (by simp [zero3, raw2])]
theorem raw1_msg (κ : UInt8) (n sz : Nat) (L : List UInt8) (hn : n < 4294967296) (hL : L.length = sz) : msg1 κ sz (raw1 κ n L) = MV [n] L := by
  subst hL
  unfold msg1
  rw [if_pos (raw1_good κ n L)]
  have e1 : ((raw1 κ n L).drop 4).take 4 = leB 4 n := by unfold raw1; simp [leB_length, List.take_append, List.drop_append, leB]
  have e2 : (raw1 κ n L).drop 8 = L := by unfold raw1; simp [leB_length, List.drop_append, leB]
  rw [e1, e2, ofLe_leB 4 n (by simpa using hn)]
theorem raw2_msg (κ : UInt8) (n m sz : Nat) (L : List UInt8) (hn : n < 4294967296) (hm : m < 4294967296) (hL : L.length = sz) : msg2 κ sz (raw2 κ n m L) = MV [n, m] L := by
  subst hL
  unfold msg2
  rw [if_pos (raw2_good κ n m L)]
  have e1 : ((raw2 κ n m L).drop 4).take 4 = leB 4 n := by unfold raw2; simp [leB_length, List.take_append, List.drop_append, leB]
  have e3 : ((raw2 κ n m L).drop 8).take 4 = leB 4 m := by unfold raw2; simp [leB_length, List.take_append, List.drop_append, leB]
  have e2 : (raw2 κ n m L).drop 12 = L := by unfold raw2; simp [leB_length, List.drop_append, leB]
  rw [e1, e2, e3, ofLe_leB 4 n (by simpa using hn), ofLe_leB 4 m (by simpa using hm)]
/-- The shape of what is parsed. -/
theorem msg1_form (κ : UInt8) (sz : Nat) (b : List UInt8) : ∃ n L, msg1 κ sz b = MV [n] L ∧ n < 4294967296 ∧ L.length = sz := by
  unfold msg1
  split
  · rename_i h
    obtain ⟨h1, _⟩ := badM_zero h
    refine ⟨_, _, rfl, ?_, by simp; omega⟩
    have h2 := ofLe_lt ((b.drop 4).take 4)
    have e4 : ((b.drop 4).take 4).length = 4 := by simp; omega
    rw [e4] at h2
    simpa using h2
  · exact ⟨0, _, rfl, by decide, by simp⟩
theorem msg2_form (κ : UInt8) (sz : Nat) (b : List UInt8) : ∃ n m L, msg2 κ sz b = MV [n, m] L ∧ n < 4294967296 ∧ m < 4294967296 ∧ L.length = sz := by
  unfold msg2
  split
  · rename_i h
    obtain ⟨h1, _⟩ := badM_zero h
    refine ⟨_, _, _, rfl, ?_, ?_, by simp; omega⟩
    · have h2 := ofLe_lt ((b.drop 4).take 4)
      have e4 : ((b.drop 4).take 4).length = 4 := by simp; omega
      rw [e4] at h2
      simpa using h2
    · have h2 := ofLe_lt ((b.drop 8).take 4)
      have e4 : ((b.drop 8).take 4).length = 4 := by simp; omega
      rw [e4] at h2
      simpa using h2
  · exact ⟨0, 0, _, rfl, by decide, by decide, by simp⟩

/-- A row whose place for more is laid beside it. -/
theorem OB.made_cap (W : World) (base l c : Nat) (hb : base ≤ W.heap.size) (hlc : l ≤ c) (hm : c ≤ 281474976710656) :
    OB base (W.alloc (.cells (madeCells #[.int .u8 0] c) 5)) (.slice (some ⟨W.heap.size, 0, none⟩) l c) (List.replicate l 0) := by
  have h := OB.made W base c hb hm
  unfold OB at h ⊢
  rw [List.length_replicate] at h ⊢
  refine ⟨by simp [encs], .inr ⟨W.heap.size, c, madeCells #[.int .u8 0] c, rfl, hb, blk_new W _, hlc, by unfold maxLen; omega, by simp [size_madeCells], ?_⟩⟩
  apply List.ext_getElem
  · simp [encs, madeCells]; omega
  · intro i h1 h2
    simp [encs, madeCells, B, Nat.mod_one]
theorem make_cap (l c : Nat) (hlc : l ≤ c) (hm : c ≤ 281474976710656) (W : World) : (Instr.makeSlice 22 (.int .i64 (l : Int)) (.int .i64 (c : Int))).run Try.prog W = .ok (.slice (some ⟨W.heap.size, 0, none⟩) l c) (W.alloc (.cells (madeCells #[.int .u8 0] c) 5)) := by
  obtain ⟨i, hi, h⟩ := Option.map_eq_some_iff.1 info8
  simp only [Prod.mk.injEq] at h
  have h2 := run_make (P := Try.prog) W 22 5 i (.int .u8 0) Try.underlying22 hi h.1 .i64 .i64 (l : Int) (c : Int) (by omega) (by omega) (by rw [h.2.2]; omega) (by omega)
  rw [h2, h.2.1]
  simp [Value.cells]
end Go.Proofs.Ytkfjobanbnokoaa.Mv

set_option linter.unusedSimpArgs false
set_option linter.unusedVariables false
set_option maxRecDepth 100000
namespace Go.Proofs.Ytkfjobanbnokoaa.Co
open Go.RowKit Go.Proofs.YtkfjobanbnokoaaW.PrintWords Go.Proofs.Ytkfjobanbnokoaa.Bs Go.Proofs.Ytkfjobanbnokoaa.Mv

set_option maxHeartbeats 1000000 in
theorem grow_nil (n : Nat) (w : World) (hn : n ≤ 1099511627776) :
    Calls Try.prog 60 #[.slice none 0 0, .int .i64 n] w (Row w []) := by
  by_cases h0 : n = 0
  · subst h0
    go_enter Try.func60, Try.ntmps60
    go_wp2
    go_ret
    exact ⟨_, rfl, OB.nil _ _, Below.refl _ _⟩
  · obtain ⟨i, hi, hz⟩ := Option.map_eq_some_iff.1 info8
    simp only [Prod.mk.injEq] at hz
    have hrun := Lib.run_append_nil_zeros (P := Try.prog) w 22 3 22 5 i (.int .u8 0) .i64 .i64 Try.underlying22 Try.underlying3 hi hz.1 n (by omega) (by rw [hz.2.1]; decide) (by omega) (by rw [hz.2.2]; omega)
    have hg := grownCap_ge w n 0 5
    have hm := grownCap_le_maxLen w n 0 5 (by unfold maxLen; omega)
    generalize grownCap w n 0 5 = cap at hrun hg hm
    have HR := Lib.hid hrun
    clear hrun hi
    go_enter Try.func60, Try.ntmps60
    go_wp2_with (first | ((with_reducible refine is_builtin (b := .append) (xs := #[.tmp 20, .tmp 21]) rfl ?_); refine Lib.wpList_append_run _ rfl (.tmp 20) (.tmp 21) 22 3 rfl (.slice none 0 0) (.int .i64 n) rfl rfl _ _ HR.out ?_))
    go_ret
    refine ⟨_, rfl, ⟨rfl, .inr ⟨w.heap.size, cap, _, rfl, Nat.le_refl _, blk_new w.drew _, Nat.zero_le _, hm, ?_, rfl⟩⟩, below_alloc (below_drew (Below.refl _ _)) _⟩
    rw [Array.size_append, size_zeroCells, size_zeroCells]
    show n * 1 + (cap - n) * 1 = cap * 1
    omega

set_option maxHeartbeats 2000000 in
theorem concat_any (A : Option Addr) (c : Nat) (ls : List (List UInt8)) (w : World) (hr : RBS w A ls) (hs : ls.flatten.length ≤ 1099511627776) :
    Calls Try.prog 45 #[.slice A ls.length c] w (Row w ls.flatten) := by
  have hl := hr.1
  have HR := Lib.hid hr
  have HL := Lib.hid hs
  clear hr hs
  go_enter Try.func45, Try.ntmps45
  go_wp2_with fail
  go_loop [3, 11] (fun v3 v11 => ∃ j : Nat, j ≤ ls.length ∧ v3 = .int .i64 (((ls.take j).flatten.length : Nat) : Int) ∧ v11 = .int .i64 j) (fun _ v11 => ls.length - (intOf v11).toNat)
  case atStart => exact ⟨0, Nat.zero_le _, by simp, rfl⟩
  case round =>
    obtain ⟨j, hj, rfl, rfl⟩ := hrel
    by_cases hlt : j < ls.length
    · obtain ⟨ad, u, rfl, hcu, hru⟩ := HR.out.2 j hlt
      obtain ⟨A', c', rfl, _, _⟩ := hru
      have hF : (ls.take (j + 1)).flatten.length = (ls.take j).flatten.length + (ls.getD j []).length := by rw [flatten_snoc ls j hlt, List.length_append]
      have hle := flatten_le ls (j + 1)
      have hle2 := HL.out
      have HF := Lib.hid hF
      generalize (ls.getD j []).length = m at hcu hF HF
      generalize hx : (ls.take j).flatten.length = x at hF HF ⊢
      have hwr : IntKind.i64.wrap ((x : Int) + (m : Int)) = (x : Int) + m := by rw [IntKind.wrap_i64]; omega
      have hneg : ¬ (x : Int) + (m : Int) < 0 := by omega
      clear hle hle2 hx hF
      go_wp2_with fail
      go_round
      case rel => exact ⟨j + 1, by omega, int_eq (by rw [HF.out]; omega), by go_num⟩
      case measure => (simp [intOf]) <;> omega
    · have hE : (ls.take j).flatten = ls.flatten := by rw [List.take_of_length_le (show ls.length ≤ j by omega)]
      have HE := Lib.hid (show (ls.take j).flatten.length = ls.flatten.length by rw [hE])
      clear hE
      generalize (ls.take j).flatten.length = x at HE ⊢
      go_wp2_with fail
      refine (grow_nil _ _ (by rw [HE.out]; exact HL.out)).mono ?_
      rintro e w1 ⟨v, rfl, ho, hb⟩
      have HO := Lib.hid ho
      have HB := Lib.hid hb
      clear ho hb HE
      go_wp2_with fail
      go_loopw [6, 27] (fun v6 v27 wr => ∃ (k : Nat), k ≤ ls.length ∧ v27 = .int .i64 k ∧ Hid (OB w.heap.size wr v6 (ls.take k).flatten) ∧ Hid (Below w.heap.size w wr)) (fun _ v27 _ => ls.length - (intOf v27).toNat)
      case atStart => exact ⟨0, Nat.zero_le _, rfl, HO, HB⟩
      case round =>
        obtain ⟨k, hk, rfl, HO, HB⟩ := hrel
        by_cases hlt : k < ls.length
        · obtain ⟨ad, u, rfl, hcu, hru⟩ := (HR.out.below HB.out).2 k hlt
          have HU := Lib.hid hru
          have HF := Lib.hid (flatten_snoc ls k hlt)
          have HLE := Lib.hid (flatten_le ls (k + 1))
          have HLN : Hid ((ls.take k).flatten.length + (ls.getD k []).length = (ls.take (k + 1)).flatten.length) := Lib.hid (by rw [HF.out, List.length_append])
          clear hru
          go_wp2_with (first | ((with_reducible refine is_builtin (b := .append) (xs := #[.tmp 31, .tmp 32]) rfl ?_); refine append_bytes (w0 := w) (w).heap.size rfl (.tmp 31) (.tmp 32) rfl u6 u (ls.take k).flatten (ls.getD k []) rfl rfl ?aO ?aR ?aB ?aS ?aL ?_; (case aO => exact HO.out); (case aR => exact HU.out); (case aB => exact HB.out); (case aS => exact (HB.out).size); (case aL => (have h1 := HLN.out; have h2 := HLE.out; have h3 := HL.out; omega)); intro v1 w1 ho hb1 _ _; have HO1 := Lib.hid ho; have HB1 := Lib.hid hb1; clear ho hb1))
          go_roundw
          case rel => exact ⟨k + 1, by omega, by go_num, Lib.hid (by rw [HF.out]; exact HO1.out), HB1⟩
          case measure => simp [intOf]; omega
        · go_wp2
          go_ret
          exact ⟨_, rfl, by have h := HO.out; rwa [List.take_of_length_le (show ls.length ≤ k by omega)] at h, HB.out⟩

/-- A block of slices of bytes. -/
theorem RBS.block {w : World} {g : Nat} {vs : List Value} {T : TypeId} {ls : List (List UInt8)} (h : w.heap[g]? = some (.cells vs.toArray T (0, 0))) (hl : ls.length = vs.length) (h63 : ls.length ≤ 9223372036854775807)
    (hr : ∀ j, j < ls.length → RB w (vs.getD j undef) (ls.getD j [])) : RBS w (some ⟨g, 0, none⟩) ls := by
  refine ⟨h63, fun j hj => ⟨_, vs.getD j undef, rfl, ?_, hr j hj⟩⟩
  rw [add_plain]
  refine (blk_cell h j).trans ?_
  simp [List.getD_eq_getElem?_getD, show j < vs.length by omega]
end Go.Proofs.Ytkfjobanbnokoaa.Co

set_option linter.unusedSimpArgs false
set_option linter.unusedVariables false
set_option maxRecDepth 100000
namespace Go.Proofs.Ytkfjobanbnokoaa.Os
open Go.RowKit Go.Proofs.YtkfjobanbnokoaaW.PrintWords Go.Proofs.Ytkfjobanbnokoaa.Bs

/-- A number, its carries brought round: what is congruent to it by 65535, and 0 for 0 alone. -/
def fold16 (n : Nat) : Nat := if n = 0 then 0 else (n - 1) % 65535 + 1
theorem fold16_small (n : Nat) (h : n ≤ 65535) : fold16 n = n := by unfold fold16; split <;> omega
theorem fold16_step (n : Nat) (h : 65535 < n) : fold16 (n / 65536 + n % 65536) = fold16 n := by unfold fold16; split <;> split <;> omega
theorem fold16_le (n : Nat) : fold16 n ≤ 65535 := by unfold fold16; split <;> omega
theorem fold16_fold (a b : Nat) : fold16 (fold16 a + b) = fold16 (a + b) := by
  unfold fold16
  by_cases h : a = 0
  · simp [h]
  · rw [if_neg h, if_neg (by omega), if_neg (by omega)]
    omega

/-- The words' sum, an even place (p) 256-fold. -/
def sumFrom : Bool → List UInt8 → Nat
  | _, [] => 0
  | p, x :: r => (if p then 256 * x.toNat else x.toNat) + sumFrom (!p) r
theorem sumFrom_append (a b : List UInt8) : ∀ p, sumFrom p (a ++ b) = sumFrom p a + sumFrom (if a.length % 2 = 0 then p else !p) b := by
  induction a with
  | nil => intro p; simp [sumFrom]
  | cons x r ih =>
    intro p
    have e : (if (x :: r).length % 2 = 0 then p else !p) = (if r.length % 2 = 0 then !p else !!p) := by
      simp only [List.length_cons, Bool.not_not]
      by_cases h : r.length % 2 = 0
      · rw [if_pos h, if_neg (by omega)]
      · rw [if_neg h, if_pos (by omega)]
    rw [e, List.cons_append, sumFrom, sumFrom, ih, Nat.add_assoc]
def sumW (l : List UInt8) : Nat := sumFrom true l
theorem sumW_snoc (a : List UInt8) (x : UInt8) : sumW (a ++ [x]) = sumW a + (if a.length % 2 = 0 then 256 * x.toNat else x.toNat) := by
  unfold sumW
  rw [sumFrom_append]
  by_cases h : a.length % 2 = 0
  · simp [h, sumFrom]
  · simp [h, sumFrom]
theorem sumFrom_le (a : List UInt8) : ∀ p, sumFrom p a ≤ 65280 * a.length := by
  induction a with
  | nil => intro p; simp [sumFrom]
  | cons x r ih =>
    intro p
    have := ih (!p)
    have := x.toNat_lt
    rw [sumFrom, List.length_cons]
    split <;> omega
theorem sumW_le (a : List UInt8) : sumW a ≤ 65280 * a.length := sumFrom_le a true
def sum16 (l : List UInt8) : Nat := fold16 (sumW l)

theorem fold_any (n : Nat) (w : World) (h1 : n < 18446744073709551616) :
    Calls Try.prog 80 #[.int .u64 n] w fun e w' => e = .returned (.int .u16 (fold16 n)) ∧ w = w' := by
  go_enter Try.func80, Try.ntmps80
  go_wp2
  go_loop [0] (fun v0 => ∃ x : Nat, x < 18446744073709551616 ∧ v0 = .int .u64 x ∧ Hid (fold16 x = fold16 n)) (fun v0 => (intOf v0).toNat)
  case atStart => exact ⟨n, h1, rfl, Lib.hid rfl⟩
  case round =>
    obtain ⟨x, hx, rfl, HX⟩ := hrel
    by_cases hb : 65535 < x
    · have hand : Go.bits .and .u64 (x : Int) 65535 = ((x % 65536 : Nat) : Int) := by
        rw [show (65535 : Int) = ((65535 : Nat) : Int) from rfl, u64_and_nat x 65535 hx (by decide)]
        congr 1
        exact Nat.and_two_pow_sub_one_eq_mod x 16
      have HF : Hid (fold16 (x / 65536 + x % 65536) = fold16 n) := Lib.hid (by rw [fold16_step x hb]; exact HX.out)
      go_wp2
      go_round
      case rel => exact ⟨x / 65536 + x % 65536, by omega, by go_num, HF⟩
      case measure => simp [intOf]; omega
    · have HF : Hid (fold16 n = x) := Lib.hid (by rw [← HX.out]; exact fold16_small x (by omega))
      go_wp2
      go_ret
      exact ⟨ret_int (by rw [HF.out]), rfl⟩

theorem take_snoc (l : List UInt8) (k : Nat) (h : k < l.length) : l.take (k + 1) = l.take k ++ [l.getD k 0] := by
  rw [List.take_succ_eq_append_getElem h]
  simp [List.getD_eq_getElem?_getD, List.getElem?_eq_getElem h]
theorem flat_snoc (ls : List (List UInt8)) (j : Nat) (h : j < ls.length) : (ls.take (j + 1)).flatten = (ls.take j).flatten ++ ls.getD j [] := by
  rw [List.take_succ_eq_append_getElem h, List.flatten_append]
  simp [List.getD_eq_getElem?_getD, List.getElem?_eq_getElem h]
theorem flat_le (ls : List (List UInt8)) (j : Nat) : (ls.take j).flatten.length ≤ ls.flatten.length := by
  conv => rhs; rw [← List.take_append_drop j ls, List.flatten_append, List.length_append]
  omega
theorem flat_at (ls : List (List UInt8)) (j k : Nat) (y : List UInt8) (hy : ls.getD j [] = y) (h : j < ls.length) (hk : k ≤ y.length) : ((ls.take j).flatten ++ y.take k).length ≤ ls.flatten.length := by
  subst hy
  have h1 := flat_le ls (j + 1)
  rw [flat_snoc ls j h, List.length_append] at h1
  rw [List.length_append, List.length_take]
  omega

/-- How far the next byte goes up. -/
def Shf (n : Nat) (s : Int) : Prop := n % 2 = 0 ∧ s = 8 ∨ n % 2 = 1 ∧ s = 0

set_option maxHeartbeats 2000000 in
set_option maxRecDepth 100000 in
theorem of_any (A : Option Addr) (c : Nat) (ls : List (List UInt8)) (w : World) (hr : RBS w A ls) (hs : ls.flatten.length ≤ 1099511627776) :
    Calls Try.prog 62 #[.slice A ls.length c] w fun e w' => e = .returned (.int .u16 (sum16 ls.flatten)) ∧ w = w' := by
  have hl : ls.length ≤ 9223372036854775807 := hr.1
  have HR := Lib.hid hr
  have HL := Lib.hid hs
  clear hr hs
  go_enter Try.func62, Try.ntmps62
  go_wp2
  go_loop [3, 4, 11] (fun v3 v4 v11 => ∃ (n : Nat) (s : Int) (j : Nat), j ≤ ls.length ∧ v3 = .int .u64 n ∧ v4 = .int .u64 s ∧ v11 = .int .i64 j ∧ n < 72057594037927936 ∧ Hid (n = sumW (ls.take j).flatten) ∧ Hid (Shf (ls.take j).flatten.length s)) (fun _ _ v11 => ls.length - (intOf v11).toNat)
  case atStart => exact ⟨0, 8, 0, Nat.zero_le _, rfl, rfl, rfl, by omega, Lib.hid (by simp [sumW, sumFrom]), Lib.hid (.inl ⟨rfl, rfl⟩)⟩
  case round =>
    obtain ⟨n, s, j, hj, rfl, rfl, rfl, hn, HN, HS⟩ := hrel
    by_cases hlt : j < ls.length
    · obtain ⟨ad, u, rfl, hcu, hru⟩ := HR.out.2 j hlt
      generalize hy : ls.getD j [] = y at hru
      have HY := Lib.hid hy
      clear hy
      obtain ⟨A1, c1, rfl, hc1, hr1⟩ := hru
      have hl1 := hr1.2.1
      have H1 := Lib.hid hr1
      clear hr1
      go_wp2
      go_loop [3, 4, 17] (fun v3 v4 v17 => ∃ (n : Nat) (s : Int) (k : Nat), k ≤ y.length ∧ v3 = .int .u64 n ∧ v4 = .int .u64 s ∧ v17 = .int .i64 k ∧ n < 72057594037927936 ∧ Hid (n = sumW ((ls.take j).flatten ++ y.take k)) ∧ Hid (Shf ((ls.take j).flatten ++ y.take k).length s)) (fun _ _ v17 => y.length - (intOf v17).toNat)
      case atStart => exact ⟨n, s, 0, Nat.zero_le _, rfl, rfl, rfl, hn, Lib.hid (by simpa using HN.out), Lib.hid (by simpa using HS.out)⟩
      case round =>
        obtain ⟨m, r, k, hk, rfl, rfl, rfl, hm, HM, HT⟩ := hrel
        by_cases hkl : k < y.length
        · obtain ⟨ad1, rfl, hcell⟩ := reads_cell H1.out k hkl
          have hby := byte_lt (y.getD k 0)
          have HF1 : Hid ((ls.take j).flatten ++ y.take (k + 1) = ((ls.take j).flatten ++ y.take k) ++ [y.getD k 0]) := Lib.hid (by rw [take_snoc _ k hkl, List.append_assoc])
          have HLE := Lib.hid (flat_at ls j (k + 1) y HY.out hlt (by omega))
          have HSL := Lib.hid (sumW_le ((ls.take j).flatten ++ y.take (k + 1)))
          generalize hx : y.getD k 0 = x at hcell hby HF1
          clear hx
          have HSN := Lib.hid (sumW_snoc ((ls.take j).flatten ++ y.take k) x)
          have HLN : Hid (((ls.take j).flatten ++ y.take (k + 1)).length = ((ls.take j).flatten ++ y.take k).length + 1) := Lib.hid (by rw [HF1.out, List.length_append]; rfl)
          rcases HT.out with ⟨hp, rfl⟩ | ⟨hp, rfl⟩
          · have HP := Lib.hid hp
            clear hp
            have HF : Hid (m + x.toNat * 256 = sumW ((ls.take j).flatten ++ y.take (k + 1))) := Lib.hid (by rw [HF1.out, HSN.out, if_pos HP.out, ← HM.out]; omega)
            go_wp2
            go_round
            case rel => exact ⟨m + x.toNat * 256, 0, k + 1, by omega, by go_num, rfl, by go_num, by have h1 := HF.out; have h2 := HSL.out; have h3 := HLE.out; have h4 := HL.out; omega, HF, Lib.hid (.inr ⟨by have h1 := HLN.out; have h2 := HP.out; omega, rfl⟩)⟩
            case measure => simp [intOf]; omega
          · have HP := Lib.hid hp
            clear hp
            have HF : Hid (m + x.toNat = sumW ((ls.take j).flatten ++ y.take (k + 1))) := Lib.hid (by rw [HF1.out, HSN.out, if_neg (by have h1 := HP.out; omega), ← HM.out])
            go_wp2
            go_round
            case rel => exact ⟨m + x.toNat, 8, k + 1, by omega, by go_num, rfl, by go_num, by have h1 := HF.out; have h2 := HSL.out; have h3 := HLE.out; have h4 := HL.out; omega, HF, Lib.hid (.inl ⟨by have h1 := HLN.out; have h2 := HP.out; omega, rfl⟩)⟩
            case measure => simp [intOf]; omega
        · have HF : Hid ((ls.take (j + 1)).flatten = (ls.take j).flatten ++ y.take k) := Lib.hid (by rw [flat_snoc ls j hlt, HY.out, List.take_of_length_le (show y.length ≤ k by omega)])
          go_wp2
          go_round
          case rel => exact ⟨m, r, j + 1, by omega, rfl, rfl, by go_num, hm, Lib.hid (by rw [HF.out]; exact HM.out), Lib.hid (by rw [HF.out]; exact HT.out)⟩
          case measure => simp [intOf]; omega
    · have HF : Hid (fold16 n = sum16 ls.flatten) := Lib.hid (by have h1 := HN.out; rw [List.take_of_length_le (show ls.length ≤ j by omega)] at h1; rw [h1]; rfl)
      go_wp2_with fail
      refine (fold_any n _ (by omega)).mono ?_
      rintro e w' ⟨rfl, rfl⟩
      go_wp2_with fail
      go_ret
      exact ⟨ret_int (by rw [HF.out]), rfl⟩

theorem not16 (s : Nat) (h : s ≤ 65535) : Go.bits .xor .u16 IntKind.u16.max (s : Int) = ((65535 - s : Nat) : Int) := by
  show IntKind.u16.wrap ((BitVec.ofInt 16 IntKind.u16.max ^^^ BitVec.ofInt 16 (s : Int)).toNat : Int) = _
  rw [show BitVec.ofInt 16 IntKind.u16.max = BitVec.allOnes 16 from by decide, BitVec.allOnes_xor, BitVec.toNat_not, ofInt_u16 s (by omega), IntKind.wrap_u16]
  omega

theorem check_any (A : Option Addr) (c : Nat) (ls : List (List UInt8)) (w : World) (hr : RBS w A ls) (hs : ls.flatten.length ≤ 1099511627776) :
    Calls Try.prog 47 #[.slice A ls.length c] w fun e w' => e = .returned (.int .u16 (65535 - sum16 ls.flatten : Nat)) ∧ w = w' := by
  have hl := hr.1
  have HR := Lib.hid hr
  have HS := Lib.hid hs
  clear hr hs
  have hle := fold16_le (sumW ls.flatten)
  go_enter Try.func47, Try.ntmps47
  go_wp2_with fail
  refine (of_any A c ls _ HR.out HS.out).mono ?_
  rintro e w' ⟨rfl, rfl⟩
  go_wp2_with fail
  go_ret
  exact ⟨ret_int (not16 _ hle), rfl⟩

theorem good_any (A : Option Addr) (c : Nat) (ls : List (List UInt8)) (w : World) (hr : RBS w A ls) (hs : ls.flatten.length ≤ 1099511627776) :
    Calls Try.prog 64 #[.slice A ls.length c] w fun e w' => e = .returned (.bool (((sum16 ls.flatten : Nat) : Int) == 65535)) ∧ w = w' := by
  have hl := hr.1
  have HR := Lib.hid hr
  have HS := Lib.hid hs
  clear hr hs
  go_enter Try.func64, Try.ntmps64
  go_wp2_with fail
  refine (of_any A c ls _ HR.out HS.out).mono ?_
  rintro e w' ⟨rfl, rfl⟩
  go_wp2_with fail
  go_ret
  exact ⟨rfl, rfl⟩

set_option maxHeartbeats 1000000 in
set_option maxRecDepth 100000 in
theorem refOf_any (A : Option Addr) (c : Nat) (l : List UInt8) (w : World) (hr : ReadsOf B 0 w A l.length l) (hs : l.length ≤ 1099511627776) :
    Calls Try.prog 71 #[.slice A l.length c] w fun e w' => e = .returned (.int .i64 (sum16 l)) ∧ w = w' := by
  have hl := hr.2.1
  have HR := Lib.hid hr
  have HL := Lib.hid hs
  clear hr hs
  go_enter Try.func71, Try.ntmps71
  go_wp2
  go_loop [3, 4] (fun v3 v4 => ∃ (n k : Nat), k ≤ l.length ∧ v3 = .int .i64 n ∧ v4 = .int .i64 k ∧ n < 72057594037927936 ∧ Hid (n = sumW (l.take k))) (fun _ v4 => l.length - (intOf v4).toNat)
  case atStart => exact ⟨0, 0, Nat.zero_le _, rfl, rfl, by omega, Lib.hid (by simp [sumW, sumFrom])⟩
  case round =>
    obtain ⟨n, k, hk, rfl, rfl, hn, HN⟩ := hrel
    by_cases hlt : k < l.length
    · obtain ⟨ad, rfl, hcell⟩ := reads_cell HR.out k hlt
      have hby := byte_lt (l.getD k 0)
      have HF1 := Lib.hid (take_snoc l k hlt)
      have HSL := Lib.hid (sumW_le (l.take (k + 1)))
      have HLE : Hid ((l.take (k + 1)).length ≤ l.length) := Lib.hid (by rw [List.length_take]; omega)
      generalize hx : l.getD k 0 = x at hcell hby HF1
      clear hx
      have HSN := Lib.hid (sumW_snoc (l.take k) x)
      have HLN : Hid ((l.take k).length = k) := Lib.hid (by rw [List.length_take]; omega)
      have hmod : Int.tmod (k : Int) 2 = ((k % 2 : Nat) : Int) := rfl
      by_cases hp : k % 2 = 0
      · have HF : Hid (n + 256 * x.toNat = sumW (l.take (k + 1))) := Lib.hid (by rw [HF1.out, HSN.out, HLN.out, if_pos hp, ← HN.out])
        have ht : (((k % 2 : Nat) : Int) == 0) = true := by rw [hp]; rfl
        have HP := Lib.hid hp
        clear hp
        go_wp2
        go_round
        case rel => exact ⟨n + 256 * x.toNat, k + 1, by omega, by go_num, by go_num, by have h1 := HF.out; have h2 := HSL.out; have h3 := HLE.out; have h4 := HL.out; omega, HF⟩
        case measure => simp [intOf]; omega
      · have HF : Hid (n + x.toNat = sumW (l.take (k + 1))) := Lib.hid (by rw [HF1.out, HSN.out, HLN.out, if_neg hp, ← HN.out])
        have ht : (((k % 2 : Nat) : Int) == 0) = false := by rw [show k % 2 = 1 by omega]; rfl
        have HP := Lib.hid hp
        clear hp
        go_wp2
        go_round
        case rel => exact ⟨n + x.toNat, k + 1, by omega, by go_num, by go_num, by have h1 := HF.out; have h2 := HSL.out; have h3 := HLE.out; have h4 := HL.out; omega, HF⟩
        case measure => simp [intOf]; omega
    · have HF : Hid (fold16 n = sum16 l) := Lib.hid (by have h1 := HN.out; rw [List.take_of_length_le (show l.length ≤ k by omega)] at h1; rw [h1]; rfl)
      go_wp2
      go_loop [3] (fun v3 => ∃ m : Nat, m < 72057594037927936 ∧ v3 = .int .i64 m ∧ Hid (fold16 m = sum16 l)) (fun v3 => (intOf v3).toNat)
      case atStart => exact ⟨n, hn, rfl, HF⟩
      case round =>
        obtain ⟨m, hm, rfl, HM⟩ := hrel
        by_cases hb : 65535 < m
        · have HG : Hid (fold16 (m / 65536 + m % 65536) = sum16 l) := Lib.hid (by rw [fold16_step m hb]; exact HM.out)
          go_wp2
          go_round
          case rel => exact ⟨m / 65536 + m % 65536, by omega, by go_num, HG⟩
          case measure => simp [intOf]; omega
        · have HG : Hid (sum16 l = m) := Lib.hid (by rw [← HM.out]; exact fold16_small m (by omega))
          go_wp2
          go_ret
          exact ⟨ret_int (by rw [HG.out]), rfl⟩

end Go.Proofs.Ytkfjobanbnokoaa.Os

set_option linter.unusedSimpArgs false
set_option linter.unusedVariables false
set_option maxRecDepth 100000
namespace Go.Proofs.Ytkfjobanbnokoaa.Os
open Go.RowKit Go.Proofs.YtkfjobanbnokoaaW.PrintWords Go.Proofs.Ytkfjobanbnokoaa.Bs

/-- What a bit is worth in its byte. -/
def bitW (bit : Nat) : Nat := 128 / 2 ^ (bit % 8)
theorem half_pow (i : Nat) : 128 / 2 ^ i / 2 = 128 / 2 ^ (i + 1) := by rw [Nat.div_div_eq_div_mul, Nat.pow_succ]
theorem bitW_pos (i : Nat) (h : i < 8) : 0 < 128 / 2 ^ i ∧ 128 / 2 ^ i ≤ 128 := by
  have : ∀ i : Fin 8, 0 < 128 / 2 ^ (i : Nat) ∧ 128 / 2 ^ (i : Nat) ≤ 128 := by decide
  exact this ⟨i, h⟩
def turnB (x : UInt8) (n : Nat) : UInt8 := if x.toNat / n % 2 = 1 then UInt8.ofNat (x.toNat - n) else UInt8.ofNat (x.toNat + n)
def turned (l : List UInt8) (bit : Nat) : List UInt8 := l.set (bit / 8) (turnB (l.getD (bit / 8) 0) (bitW bit))
/-- A bit that is not set leaves room for it. -/
theorem room (x n : Nat) (hx : x < 256) (hn : n = 1 ∨ n = 2 ∨ n = 4 ∨ n = 8 ∨ n = 16 ∨ n = 32 ∨ n = 64 ∨ n = 128) : (x / n % 2 = 1 → n ≤ x) ∧ (¬ x / n % 2 = 1 → x + n < 256) := by
  rcases hn with rfl | rfl | rfl | rfl | rfl | rfl | rfl | rfl <;> omega
theorem bitW_cases (i : Nat) (h : i < 8) : 128 / 2 ^ i = 1 ∨ 128 / 2 ^ i = 2 ∨ 128 / 2 ^ i = 4 ∨ 128 / 2 ^ i = 8 ∨ 128 / 2 ^ i = 16 ∨ 128 / 2 ^ i = 32 ∨ 128 / 2 ^ i = 64 ∨ 128 / 2 ^ i = 128 := by
  have : ∀ i : Fin 8, 128 / 2 ^ (i : Nat) = 1 ∨ 128 / 2 ^ (i : Nat) = 2 ∨ 128 / 2 ^ (i : Nat) = 4 ∨ 128 / 2 ^ (i : Nat) = 8 ∨ 128 / 2 ^ (i : Nat) = 16 ∨ 128 / 2 ^ (i : Nat) = 32 ∨ 128 / 2 ^ (i : Nat) = 64 ∨ 128 / 2 ^ (i : Nat) = 128 := by decide
  exact this ⟨i, h⟩

theorem bit_wrap (x n : Nat) (hx : x < 256) : wrap64 ((x : Int) / (n : Int)) = (x : Int) / (n : Int) := by
  have h := Nat.div_le_self x n
  rw [← Int.natCast_ediv]
  generalize x / n = q at *
  unfold wrap64; omega
theorem bit_one (x n : Nat) (h : x / n % 2 = 1) : (((x : Int) / (n : Int)).tmod 2 == 1) = true := by
  rw [← Int.natCast_ediv]
  generalize x / n = q at *
  rw [show Int.tmod (q : Int) 2 = ((q % 2 : Nat) : Int) from rfl, h]; rfl
theorem bit_not (x n : Nat) (h : ¬ x / n % 2 = 1) : (((x : Int) / (n : Int)).tmod 2 == 1) = false := by
  rw [← Int.natCast_ediv]
  generalize x / n = q at *
  rw [show Int.tmod (q : Int) 2 = ((q % 2 : Nat) : Int) from rfl, show q % 2 = 0 by omega]; rfl

/-- Parts that are few, and short. -/
def Few (ls : List (List UInt8)) : Prop := ls.length ≤ 20 ∧ ∀ j, j < ls.length → (ls.getD j []).length ≤ 200
theorem Few.flat {ls : List (List UInt8)} (h : Few ls) : ls.flatten.length ≤ 4000 := by
  have key : ∀ k, k ≤ ls.length → (ls.take k).flatten.length ≤ 200 * k := by
    intro k
    induction k with
    | zero => intro _; simp
    | succ k ih =>
      intro hk
      have h1 := ih (by omega)
      have h2 := h.2 k (by omega)
      rw [flat_snoc ls k (by omega), List.length_append]
      omega
  have h1 := key ls.length (Nat.le_refl _)
  rw [List.take_length] at h1
  have h2 := h.1
  omega

/-- The guard tells true just where the parts are few, and short. -/
def TellsFew (w : World) (ls : List (List UInt8)) (e : Ending) (w' : World) : Prop := w = w' ∧ (e = .returned (.bool true) ∧ Few ls ∨ e = .returned (.bool false) ∧ ¬ Few ls)

theorem example1 : sum16 [[255, 255, 0, 1]].flatten = 1 := by decide
/-- The four bytes of two words. -/
def four (x y : Nat) : List UInt8 := [UInt8.ofNat (x / 256), UInt8.ofNat (x % 256), UInt8.ofNat (y / 256), UInt8.ofNat (y % 256)]
theorem four_cells (x y : Nat) (hx : x < 65536) (hy : y < 65536) : (encs B (four x y)).toArray = #[.int .u8 ((x : Int) / 256), .int .u8 ((x : Int) % 256), .int .u8 ((y : Int) / 256), .int .u8 ((y : Int) % 256)] := by
  rw [← B_hi x hx, ← B_lo x, ← B_hi y hy, ← B_lo y]; rfl
theorem four_sum (x y : Nat) (hx : x < 65536) (hy : y < 65536) : sum16 (four x y) = fold16 (x + y) := by
  unfold sum16 sumW four
  simp only [sumFrom, Bool.not_true, Bool.not_false, if_true]
  rw [toNat_ofNat _ (show x / 256 < 256 by omega), toNat_ofNat _ (show x % 256 < 256 by omega), toNat_ofNat _ (show y / 256 < 256 by omega), toNat_ofNat _ (show y % 256 < 256 by omega)]
  congr 1
  simp only [Bool.false_eq_true, if_false]
  omega

/-- What a place counts. -/
def wt (i : Nat) : Nat := if i % 2 = 0 then 256 else 1
theorem sumFrom_set (l : List UInt8) : ∀ (p : Bool) (i : Nat) (x : UInt8), i < l.length →
    sumFrom p (l.set i x) + (if (i % 2 = 0) = (p = true) then 256 else 1) * (l.getD i 0).toNat = sumFrom p l + (if (i % 2 = 0) = (p = true) then 256 else 1) * x.toNat := by
  induction l with
  | nil => intro p i x h; exact absurd h (Nat.not_lt_zero i)
  | cons y r ih =>
    intro p i x h
    cases i with
    | zero =>
      cases p
      · simp [sumFrom]; omega
      · simp [sumFrom]; omega
    | succ i =>
      have h1 := ih (!p) i x (by simpa using h)
      have e : (if ((i + 1) % 2 = 0) = (p = true) then 256 else 1) = (if (i % 2 = 0) = ((!p) = true) then 256 else 1) := by
        cases p
        · by_cases hi : i % 2 = 0
          · simp [hi, show (i + 1) % 2 = 1 by omega]
          · simp [show i % 2 = 1 by omega, show (i + 1) % 2 = 0 by omega]
        · by_cases hi : i % 2 = 0
          · simp [hi, show (i + 1) % 2 = 1 by omega]
          · simp [show i % 2 = 1 by omega, show (i + 1) % 2 = 0 by omega]
      rw [e, List.set_cons_succ, sumFrom, sumFrom, List.getD_cons_succ]
      omega
theorem sumW_set (l : List UInt8) (i : Nat) (x : UInt8) (h : i < l.length) : sumW (l.set i x) + wt i * (l.getD i 0).toNat = sumW l + wt i * x.toNat := by
  have h1 := sumFrom_set l true i x h
  have e : (if (i % 2 = 0) = (true = true) then 256 else 1) = wt i := by unfold wt; by_cases hi : i % 2 = 0 <;> simp [hi]
  rw [e] at h1
  exact h1
theorem getD_set_self (l : List UInt8) (i : Nat) (x : UInt8) (h : i < l.length) : (l.set i x).getD i 0 = x := by
  simp [List.getD_eq_getElem?_getD, List.getElem?_set_self h]
theorem getD_set_other (l : List UInt8) (i j : Nat) (x : UInt8) (h : i ≠ j) : (l.set i x).getD j 0 = l.getD j 0 := by
  simp [List.getD_eq_getElem?_getD, List.getElem?_set_ne h]

/-- Two bytes of zeros at a word's place; its check there. -/
def blank (l : List UInt8) (k : Nat) : List UInt8 := (l.set (2 * k) 0).set (2 * k + 1) 0
def filled (l : List UInt8) (k n : Nat) : List UInt8 := ((blank l k).set (2 * k) (UInt8.ofNat (n / 256))).set (2 * k + 1) (UInt8.ofNat (n % 256))
theorem blank_length (l : List UInt8) (k : Nat) : (blank l k).length = l.length := by simp [blank]
theorem filled_length (l : List UInt8) (k n : Nat) : (filled l k n).length = l.length := by simp [filled, blank]
theorem filled_sum (l : List UInt8) (k n : Nat) (h : 2 * k + 1 < l.length) (hn : n < 65536) : sumW (filled l k n) = sumW (blank l k) + n := by
  have hb := blank_length l k
  have h1 := sumW_set ((blank l k).set (2 * k) (UInt8.ofNat (n / 256))) (2 * k + 1) (UInt8.ofNat (n % 256)) (by simp [hb]; omega)
  have h2 := sumW_set (blank l k) (2 * k) (UInt8.ofNat (n / 256)) (by omega)
  rw [getD_set_other _ _ _ _ (by omega)] at h1
  have e1 : (blank l k).getD (2 * k + 1) 0 = 0 := by unfold blank; rw [getD_set_self _ _ _ (by simp; omega)]
  have e2 : (blank l k).getD (2 * k) 0 = 0 := by unfold blank; rw [getD_set_other _ _ _ _ (by omega), getD_set_self _ _ _ (by omega)]
  rw [e1, toNat_ofNat _ (by omega)] at h1
  rw [e2, toNat_ofNat _ (by omega)] at h2
  have w1 : wt (2 * k + 1) = 1 := by unfold wt; rw [if_neg (by omega)]
  have w2 : wt (2 * k) = 256 := by unfold wt; rw [if_pos (by omega)]
  rw [w1] at h1
  rw [w2] at h2
  have z : (0 : UInt8).toNat = 0 := rfl
  rw [z] at h1 h2
  unfold filled
  omega
/-- What is checked is good. -/
theorem filled_good (l : List UInt8) (k : Nat) (h : 2 * k + 1 < l.length) : sumW (filled l k (65535 - sum16 (blank l k))) % 65535 = 0 ∧ 0 < sumW (filled l k (65535 - sum16 (blank l k))) ∧ sum16 (filled l k (65535 - sum16 (blank l k))) = 65535 := by
  have hle : sum16 (blank l k) ≤ 65535 := fold16_le _
  have hs := filled_sum l k (65535 - sum16 (blank l k)) h (by omega)
  have he : sum16 (blank l k) = fold16 (sumW (blank l k)) := rfl
  have hg : ∀ n, n % 65535 = 0 → 0 < n → fold16 n = 65535 := by intro n h1 h2; unfold fold16; rw [if_neg (by omega)]; omega
  have ha : sumW (filled l k (65535 - sum16 (blank l k))) % 65535 = 0 ∧ 0 < sumW (filled l k (65535 - sum16 (blank l k))) := by
    rw [hs, he]
    generalize sumW (blank l k) = S
    unfold fold16
    by_cases h0 : S = 0
    · rw [if_pos h0, h0]; decide
    · rw [if_neg h0]; constructor <;> omega
  exact ⟨ha.1, ha.2, hg _ ha.1 ha.2⟩
/-- One bit turned is told. -/
theorem turned_bad (l : List UInt8) (bit : Nat) (hb : bit < 8 * l.length) (h0 : sumW l % 65535 = 0) : sum16 (turned l bit) ≠ 65535 := by
  have hj : bit / 8 < l.length := by omega
  have hs := sumW_set l (bit / 8) (turnB (l.getD (bit / 8) 0) (bitW bit)) hj
  have hc := bitW_cases (bit % 8) (by omega)
  have hx := (l.getD (bit / 8) 0).toNat_lt
  have hr := room (l.getD (bit / 8) 0).toNat (bitW bit) hx hc
  have hw : wt (bit / 8) = 256 ∨ wt (bit / 8) = 1 := by unfold wt; by_cases hi : bit / 8 % 2 = 0 <;> simp [hi]
  have hn : bitW bit = 1 ∨ bitW bit = 2 ∨ bitW bit = 4 ∨ bitW bit = 8 ∨ bitW bit = 16 ∨ bitW bit = 32 ∨ bitW bit = 64 ∨ bitW bit = 128 := hc
  unfold sum16 turned
  generalize hS : sumW (l.set (bit / 8) (turnB (l.getD (bit / 8) 0) (bitW bit))) = S at *
  generalize hy : l.getD (bit / 8) 0 = y at *
  generalize bitW bit = n at *
  generalize wt (bit / 8) = k at *
  have hne : S % 65535 ≠ 0 := by
    by_cases hbit : y.toNat / n % 2 = 1
    · have e : (turnB y n).toNat = y.toNat - n := by unfold turnB; rw [if_pos hbit]; exact toNat_ofNat _ (by omega)
      have hle := hr.1 hbit
      rw [e] at hs
      rcases hw with rfl | rfl <;> omega
    · have hlt := hr.2 hbit
      have e : (turnB y n).toNat = y.toNat + n := by unfold turnB; rw [if_neg hbit]; exact toNat_ofNat _ hlt
      rw [e] at hs
      rcases hw with rfl | rfl <;> omega
  unfold fold16
  by_cases hz : S = 0
  · rw [if_pos hz]; decide
  · rw [if_neg hz]; omega

end Go.Proofs.Ytkfjobanbnokoaa.Os

set_option linter.unusedSimpArgs false
set_option linter.unusedVariables false
set_option maxRecDepth 100000
namespace Go.Proofs.Ytkfjobanbnokoaa.Os
open Go.RowKit Go.Proofs.YtkfjobanbnokoaaW.PrintWords Go.Proofs.Ytkfjobanbnokoaa.Bs

end Go.Proofs.Ytkfjobanbnokoaa.Os
