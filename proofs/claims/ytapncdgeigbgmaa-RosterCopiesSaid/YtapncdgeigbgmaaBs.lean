/- The seat's base: bytes as values (B), what a slice of bytes reads as (RB), a row of bytes of the call's own (OB), and how these live on. -/
import Derived.Test.YtapncdgeigbgmaaProg
import Derived.Test.YtapncdgeigbgmaaWWords
import Derived.Lib.Hide
import Derived.Laws.CopyOwn
set_option linter.unusedSimpArgs false
set_option linter.unusedVariables false
set_option maxRecDepth 100000
namespace Go.Proofs.Ytapncdgeigbgmaa.Bs
open Go.RowKit Go.Proofs.YtapncdgeigbgmaaW.PrintWords

/-- A byte as a value. -/
def B (x : UInt8) : Value := .int .u8 (x.toNat : Int)
theorem B_eq (x : UInt8) : B x = .int .u8 (x.toNat : Int) := rfl
theorem B_one (x : UInt8) : (B x).oneCell' = true := rfl
theorem byte_lt (x : UInt8) : (x.toNat : Int) < 256 := by have := x.toNat_lt; omega
theorem B_of (n : Int) (h0 : 0 ≤ n) (h1 : n < 256) : Value.int .u8 n = B (UInt8.ofNat n.toNat) := by
  unfold B
  congr 1
  simp only [UInt8.toNat_ofNat']
  omega
theorem B_nat (n : Nat) (h1 : n < 256) : Value.int .u8 (n : Int) = B (UInt8.ofNat n) := by
  rw [B_of _ (by omega) (by omega)]; rfl

theorem B_hi (n : Nat) (h : n < 65536) : B (UInt8.ofNat (n / 256)) = .int .u8 ((n : Int) / 256) := (B_nat (n / 256) (by omega)).symm
theorem B_lo (n : Nat) : B (UInt8.ofNat (n % 256)) = .int .u8 ((n : Int) % 256) := (B_nat (n % 256) (by omega)).symm

/-- A slice of bytes reads as l. -/
def RB (w : World) (v : Value) (l : List UInt8) : Prop := ∃ A c, v = .slice A l.length c ∧ l.length ≤ c ∧ ReadsOf B 0 w A l.length l
/-- A row of bytes of the call's own. -/
def OB (base : Nat) (w : World) (v : Value) (l : List UInt8) : Prop := w.ownsRow base 5 1 v l.length (encs B l)

theorem info8 : (Try.prog.info? 5).map (fun i => (i.zero, i.size, i.bytes)) = some (some (.int .u8 0), 1, 1) := by kernel_rfl
theorem info8' : ∃ i, Try.prog.info? 5 = some i ∧ i.size = 1 := by
  obtain ⟨i, hi, h⟩ := Option.map_eq_some_iff.1 info8
  simp only [Prod.mk.injEq] at h
  exact ⟨i, hi, h.2.1⟩

theorem RB.below {w w1 : World} {v : Value} {l : List UInt8} (h : RB w v l) (hb : Below w.heap.size w w1) : RB w1 v l := by
  obtain ⟨A, c, rfl, hc, hr⟩ := h
  exact ⟨A, c, rfl, hc, hr.below hb⟩
theorem RB.alloc {w : World} {v : Value} {l : List UInt8} (h : RB w v l) (o : Obj) : RB (w.alloc o) v l := h.below (below_alloc (Below.refl _ _) o)
theorem RB.nil (w : World) : RB w (.slice none 0 0) [] := ⟨none, 0, rfl, Nat.le_refl _, rfl, by simp, fun h => absurd h (Nat.lt_irrefl 0)⟩
theorem RB.len {w : World} {v : Value} {l : List UInt8} (h : RB w v l) : l.length ≤ 9223372036854775807 := by
  obtain ⟨A, c, rfl, hc, hr⟩ := h
  exact hr.2.1
/-- The cell of a byte. -/
theorem reads_cell {w : World} {A : Option Addr} {l : List UInt8} (h : ReadsOf B 0 w A l.length l) (k : Nat) (hk : k < l.length) :
    ∃ ad, A = some ad ∧ w.cell? (ad.add k) = some (.int .u8 ((l.getD k 0).toNat : Int)) := by
  obtain ⟨ad, e, hc⟩ := h.2.2 (by omega)
  exact ⟨ad, e, hc k hk⟩

/-- A slice of slices of bytes reads as ls. -/
def RBS (w : World) (A : Option Addr) (ls : List (List UInt8)) : Prop :=
  ls.length ≤ 9223372036854775807 ∧ ∀ j, j < ls.length → ∃ ad u, A = some ad ∧ w.cell? (ad.add j) = some u ∧ RB w u (ls.getD j [])
theorem RBS.below {w w1 : World} {A : Option Addr} {ls : List (List UInt8)} (h : RBS w A ls) (hb : Below w.heap.size w w1) : RBS w1 A ls :=
  ⟨h.1, fun j hj => by
    obtain ⟨ad, u, e, hc, hr⟩ := h.2 j hj
    exact ⟨ad, u, e, pw_cell_below hb hc, hr.below hb⟩⟩

theorem OB.rb {base : Nat} {w : World} {v : Value} {l : List UInt8} (h : OB base w v l) : RB w v l := by
  obtain ⟨A, c, rfl, hc, hr⟩ := own_reads_of_le (enc := B) (d := 0) h
  exact ⟨A, c, rfl, hc, hr⟩
theorem OB.below {base : Nat} {w w1 : World} {v : Value} {l : List UInt8} (h : OB base w v l) (hb : Below w.heap.size w w1) : OB base w1 v l := pw_own_below h hb
theorem OB.alloc {base : Nat} {w : World} {v : Value} {l : List UInt8} (h : OB base w v l) (o : Obj) : OB base (w.alloc o) v l := h.below (below_alloc (Below.refl _ _) o)
theorem OB.weaken {base base' : Nat} {w : World} {v : Value} {l : List UInt8} (h : OB base w v l) (hb : base' ≤ base) : OB base' w v l := own_weaken h hb
theorem OB.nil (base : Nat) (w : World) : OB base w (.slice none 0 0) [] := own_nil _ _ _ _

/-- What a call hands back that makes a row of bytes. -/
def Row (w : World) (l : List UInt8) (e : Ending) (w' : World) : Prop := ∃ v, e = .returned v ∧ OB w.heap.size w' v l ∧ Below w.heap.size w w'

theorem below_comp {w w1 w2 : World} (h : Below w.heap.size w w1) (k : Below w1.heap.size w1 w2) : Below w.heap.size w w2 := h.trans (k.mono h.size)

theorem ret_int {k : IntKind} {a b : Int} (h : a = b) : Ending.returned (.int k a) = .returned (.int k b) := by rw [h]
theorem ret_two {k : IntKind} {a b : Int} {v : Value} (h : a = b) : Ending.returned (.tuple #[.int k a, v]) = .returned (.tuple #[.int k b, v]) := by rw [h]
theorem int_eq {k : IntKind} {a b : Int} (h : a = b) : Value.int k a = .int k b := by rw [h]
theorem ret_bool {a b : Bool} (h : a = b) : Ending.returned (.bool a) = .returned (.bool b) := by rw [h]

section
variable {ops : Array Oper} {rest : List Oper} {o : Oper} {a : Act} {Q : Exit → Act → World → Prop} {W : World}
/-- A look ahead: the operation is this builtin over these places; a call of this function. -/
theorem is_builtin {b : Builtin} {xs : Array Operand} {ts : Array TypeId} (_ho : o.op = .call { callee := .builtin b, args := xs, argTypes := ts }) (h : wpList Try.prog ops Q (o :: rest) a W) : wpList Try.prog ops Q (o :: rest) a W := h
theorem is_call {f : FuncId} {xs : Array Operand} {ts : Array TypeId} (_ho : o.op = .call { callee := .value (.func f), args := xs, argTypes := ts }) (h : wpList Try.prog ops Q (o :: rest) a W) : wpList Try.prog ops Q (o :: rest) a W := h

end

/-- What lies in xs behind copy(xs, ys). -/
def over (xs ys : List UInt8) : List UInt8 := ys.take xs.length ++ xs.drop ys.length
theorem over_length (xs ys : List UInt8) : (over xs ys).length = xs.length := by unfold over; rw [List.length_append, List.length_take, List.length_drop]; omega
theorem over_short (xs ys : List UInt8) (h : ys.length ≤ xs.length) : over xs ys = ys ++ xs.drop ys.length := by unfold over; rw [List.take_of_length_le h]
theorem over_all (xs ys : List UInt8) (h : ys.length = xs.length) : over xs ys = ys := by unfold over; rw [List.take_of_length_le (by omega), List.drop_of_length_le (by omega), List.append_nil]

theorem OB.made (W : World) (base m : Nat) (hb : base ≤ W.heap.size) (hm : m ≤ 281474976710656) :
    OB base (W.alloc (.cells (madeCells #[.int .u8 0] m) 5)) (.slice (some ⟨W.heap.size, 0, none⟩) m m) (List.replicate m 0) := by
  have h := own_made_of (enc := B) (d := 0) W base 5 m hb (by omega)
  unfold OB
  rw [List.length_replicate]
  exact h

theorem RB.grown {w w1 : World} {v : Value} {l : List UInt8} (h : RB w v l) {g : Nat} (hg : w.grownBy w1 (some g)) (hs : l = [] ∨ v.ownBlock ≠ some g) : RB w1 v l := by
  obtain ⟨A, c, rfl, hc, hr⟩ := h
  refine ⟨A, c, rfl, hc, hr.1, hr.2.1, fun hn => ?_⟩
  obtain ⟨ad, rfl, hcell⟩ := hr.2.2 hn
  refine ⟨ad, rfl, fun j hj => ?_⟩
  have hne : l ≠ [] := by intro e; rw [e] at hn; exact absurd hn (Nat.lt_irrefl 0)
  have hb : ad.block ≠ g := by
    rcases hs with hs | hs
    · exact absurd hs hne
    · intro e; exact hs (by simp [Value.ownBlock, e])
  have hc1 := hcell j hj
  have hlt := World.block_lt_of_cell? w _ hc1
  have hbk : (ad.add j).block = ad.block := by unfold Addr.add; split <;> rfl
  have he := hg.block (ad.add j).block hlt (by rw [hbk]; intro e; injection e with e; exact hb e)
  unfold World.cell? at hc1 ⊢
  rw [he]; exact hc1
theorem grown_set (w : World) (g j : Nat) (v : Value) : w.grownBy (w.setCell ⟨g, j, none⟩ v) (some g) :=
  ⟨rfl, rfl, rfl, by simp, fun i hi hne => Below.heap_setCell w ⟨g, j, none⟩ v i (fun e => hne (by rw [e]))⟩
theorem grown_below {w w1 : World} {g : Nat} (h : w.grownBy w1 (some g)) {B : Nat} {w0 : World} (hb : Below B w0 w) (hB : B ≤ w.heap.size) (hg : B ≤ g) : Below B w0 w1 :=
  pw_below_grown hb (some g) hB h (fun k e => by injection e with e; omega)
/-- A slice of bytes that was there before the block g. -/
theorem RB.apart {w : World} {v : Value} {l : List UInt8} (h : RB w v l) {g : Nat} (hg : w.heap.size ≤ g) : l = [] ∨ v.ownBlock ≠ some g := by
  obtain ⟨A, c, rfl, hc, hr⟩ := h
  by_cases hl : l = []
  · exact .inl hl
  · refine .inr fun e => ?_
    obtain ⟨ad, rfl, hcell⟩ := hr.2.2 (List.length_pos_iff.2 hl)
    have h0 := hcell 0 (List.length_pos_iff.2 hl)
    have hlt := World.block_lt_of_cell? w _ h0
    have hbk : (ad.add 0).block = ad.block := by unfold Addr.add; split <;> rfl
    simp [Value.ownBlock] at e
    omega

/-- A literal's block is a row of the call's own. -/
theorem OB.lit (W : World) (base : Nat) (l : List UInt8) (hb : base ≤ W.heap.size) (hl : l.length ≤ 9223372036854775807) :
    OB base (W.alloc (.cells (encs B l).toArray 5)) (.slice (some ⟨W.heap.size, 0, none⟩) l.length l.length) l := own_lit_of W base 5 l hb hl
/-- A block of one slice's value. -/
theorem RBS.one {w : World} {v : Value} {l : List UInt8} (h : RB w v l) (T : TypeId) : RBS (w.alloc (.cells #[v] T)) (some ⟨w.heap.size, 0, none⟩) [l] := by
  refine ⟨by simp, fun j hj => ?_⟩
  obtain rfl : j = 0 := by simpa using hj
  refine ⟨_, v, rfl, ?_, h.alloc _⟩
  rw [add_plain]
  exact (blk_cell (blk_new w _) 0).trans rfl

theorem OB.form {base : Nat} {w : World} {v : Value} {l : List UInt8} (h : OB base w v l) (hp : 0 < l.length) :
    ∃ g cap, v = .slice (some ⟨g, 0, none⟩) l.length cap ∧ base ≤ g ∧ g < w.heap.size ∧ l.length ≤ cap := by
  obtain ⟨g, cap, rfl, _, _⟩ := World.ownsRow.form h hp
  exact ⟨g, cap, rfl, own_base h g rfl, own_lt h g rfl, own_le h⟩
theorem OB.size {base n cap : Nat} {A : Option Addr} {w : World} {l : List UInt8} (h : OB base w (.slice A n cap) l) : n = l.length := by
  obtain ⟨A', c', e, _⟩ := OB.rb h
  injection e
theorem OB.at_ {base g n cap : Nat} {w : World} {l : List UInt8} (h : OB base w (.slice (some ⟨g, 0, none⟩) n cap) l) (j : Nat) (hj : j < l.length) :
    w.cell? ⟨g, j, none⟩ = some (.int .u8 ((l.getD j 0).toNat : Int)) ∧ w.frozen? ⟨g, j, none⟩ = false := by
  obtain rfl := h.size
  exact own_at_of (d := 0) h (j : Int) (by omega) (by omega)
theorem OB.store {base g n cap : Nat} {w : World} {l : List UInt8} (h : OB base w (.slice (some ⟨g, 0, none⟩) n cap) l) (j : Nat) (x : Int) (h0 : 0 ≤ x) (h1 : x < 256) :
    OB base (w.setCell ⟨g, j, none⟩ (.int .u8 x)) (.slice (some ⟨g, 0, none⟩) n cap) (l.set j (UInt8.ofNat x.toNat)) := by
  obtain rfl := h.size
  have hs := (own_store_of h (j : Int) (UInt8.ofNat x.toNat)).1
  rw [← B_of x h0 h1] at hs
  have e : (l.set j (UInt8.ofNat x.toNat)).length = l.length := List.length_set
  unfold OB
  rw [e]
  exact hs

/-- A literal of one slice, behind a literal of bytes. -/
theorem RBS.lit1 (w : World) (l : List UInt8) (cs : Array Value) (n : Nat) (T : TypeId) (hcs : (encs B l).toArray = cs) (hn : l.length = n) (hl : l.length ≤ 9223372036854775807) :
    RBS ((w.alloc (.cells cs 5)).alloc (.cells #[.slice (some ⟨w.heap.size, 0, none⟩) n n] T)) (some ⟨w.heap.size + 1, 0, none⟩) [l] := by
  subst hcs hn
  have h := RBS.one (OB.rb (OB.lit w 0 l (Nat.zero_le _) hl)) T
  rwa [World.size_alloc] at h

/-- Bytes out of numbers. -/
theorem toNat_ofNat (n : Nat) (h : n < 256) : (UInt8.ofNat n).toNat = n := by simp only [UInt8.toNat_ofNat']; omega

end Go.Proofs.Ytapncdgeigbgmaa.Bs
