/- A law's arguments that are messages, opened: numbers, then bytes. -/
import Derived.Test.YtnehbhhjdjiieaaMv
import Derived.Test.YtnehbhhjdjiieaaOp
set_option linter.unusedSimpArgs false
set_option linter.unusedVariables false
set_option maxRecDepth 100000
namespace Go.Proofs.Ytnehbhhjdjiieaa.Mv
open Go.RowKit Go.ChangeShapes Go.WideShapes Go.Proofs.YtnehbhhjdjiieaaW.PrintWords Go.Proofs.Ytnehbhhjdjiieaa.Bs

section
variable {H : Type} {enc : TypeId × Value → H} {W : World} {base : Nat} {spare : Nat → Bool} {held : Bool} {fuel : Nat} {v : Value} {d : DataW H} {ps : List MemPlace}

/-- The cells of an array of bytes. -/
theorem arr_bytes {t : TypeId} {n : Nat} {cs : List Value} {x : DataW H × List MemPlace} (ht : Try.prog.underlying t = some (.array n 5)) (hc : Try.prog.cellsOf t = n) (h : DataW.trod enc Try.prog W base spare held fuel t cs = some x) : ∃ l : List UInt8, l.length = n ∧ cs = encs B l := by
  obtain ⟨xs, m, _, _, hcl, hxl, hi⟩ := DataW.trod_array ht h
  rw [hc] at hcl
  have hz : ∀ i, i < n → ∃ z : Int, cs[i]? = some (.int .u8 z) ∧ 0 ≤ z ∧ z < 256 := by
    intro i hin
    have h1 := hi i hin
    rw [show Try.prog.cellsOf 5 = 1 by kernel_rfl, Nat.mul_one, List.getElem?_eq_getElem (by omega)] at h1
    have h2 : (cs.drop i).take 1 = [cs[i]] := by
      rw [List.drop_eq_getElem_cons (by omega)]; rfl
    rw [h2] at h1
    obtain ⟨z, e, _, hw⟩ := DataW.trod_int Try.underlying5 h1
    injection e with e _
    have := bounds_u8 hw
    exact ⟨z, by rw [List.getElem?_eq_getElem (by omega), e], by omega, by omega⟩
  refine ⟨cs.map (fun v => match v with | .int _ z => UInt8.ofNat z.toNat | _ => 0), by rw [List.length_map]; exact hcl, ?_⟩
  apply List.ext_getElem?
  intro i
  by_cases hin : i < n
  · obtain ⟨z, e, h0, h1⟩ := hz i hin
    rw [encs, List.map_map, List.getElem?_map, e]
    simp only [Option.map_some, Function.comp]
    rw [B_of z h0 h1]
  · rw [List.getElem?_eq_none (by omega), List.getElem?_eq_none (by rw [encs_length, List.length_map]; omega)]
theorem num_cell {cs : List Value} {x : DataW H × List MemPlace} (h : DataW.trod enc Try.prog W base spare held fuel 22 cs = some x) : ∃ n : Nat, cs = [.int .u32 (n : Int)] ∧ n < 4294967296 := by
  obtain ⟨z, e, _, hw⟩ := DataW.trod_int Try.underlying22 h
  have := bounds_u32 hw
  exact ⟨z.toNat, by rw [e, Int.toNat_of_nonneg (by omega)], by omega⟩
theorem fld {fs : Array Field} {n : Nat} {cs : List Value} {xs : List (DataW H × List MemPlace)} (hf : ∀ (i : Nat) (f : Field), fs[i]? = some f → DataW.trod enc Try.prog W base spare held n f.type ((cs.drop f.offset).take (Try.prog.cellsOf f.type)) = xs[i]?)
    (i : Nat) (f : Field) (hi : fs[i]? = some f) (t : TypeId) (o s : Nat) (ht : f.type = t) (ho : f.offset = o) (hs : Try.prog.cellsOf t = s) (hx : i < xs.length) : ∃ y, DataW.trod enc Try.prog W base spare held n t ((cs.drop o).take s) = some y := by
  subst ht ho hs
  exact ⟨_, (hf i f hi).trans (List.getElem?_eq_getElem hx)⟩
theorem cut2 (cs : List Value) (a b : Nat) (h : cs.length = a + b) : cs = (cs.drop 0).take a ++ (cs.drop a).take b := by
  rw [List.drop_zero, List.take_of_length_le (l := cs.drop a) (by simp; omega), List.take_append_drop]
theorem cut3 (cs : List Value) (a b n : Nat) : (cs.drop a).take (b + n) = (cs.drop a).take b ++ (cs.drop (a + b)).take n := by
  rw [List.take_add, List.drop_drop]

/-- The cells of a cookie. -/
theorem cells_cookie {cs : List Value} {x : DataW H × List MemPlace} (h : DataW.trod enc Try.prog W base spare held fuel 26 cs = some x) :
    ∃ (r : Nat) (l : List UInt8), cs = (MV [r] l).toList ∧ r < 4294967296 ∧ l.length = 56 := by
  obtain ⟨xs, n, _, _, hcl, hxl, hf⟩ := DataW.trod_struct Try.underlying26 h
  rw [show Try.prog.cellsOf 26 = 57 by kernel_rfl] at hcl
  have hxl' : xs.length = 3 := hxl
  obtain ⟨y0, h0⟩ := fld hf 0 _ rfl 22 0 1 rfl rfl (by kernel_rfl) (by omega)
  obtain ⟨y1, h1⟩ := fld hf 1 _ rfl 23 1 24 rfl rfl (by kernel_rfl) (by omega)
  obtain ⟨y2, h2⟩ := fld hf 2 _ rfl 24 25 32 rfl rfl (by kernel_rfl) (by omega)
  obtain ⟨r, e0, hr⟩ := num_cell h0
  obtain ⟨l1, n1, e1⟩ := arr_bytes Try.underlying23 (by kernel_rfl) h1
  obtain ⟨l2, n2, e2⟩ := arr_bytes Try.underlying24 (by kernel_rfl) h2
  refine ⟨r, l1 ++ l2, ?_, hr, by rw [List.length_append]; omega⟩
  rw [MV_list, encs_append, ← e1, ← e2]
  have hc := cut2 cs 1 (24 + 32) (by omega)
  rw [cut3, e0] at hc
  exact hc
theorem op_cookie {r : Reach} {b2 : Nat} (hv : Value.okWide Try.prog W r b2 26 v) (h : DataW.Trod enc Try.prog W base spare held 26 v d ps) :
    ∃ (n : Nat) (l : List UInt8), v = .agg (MV [n] l) ∧ n < 4294967296 ∧ l.length = 56 := by
  obtain ⟨cs, rfl, hsz⟩ := okWide_struct Try.underlying26 hv
  obtain ⟨fuel, hf⟩ := h
  have hf' : DataW.trod enc Try.prog W base spare held fuel 26 cs.toList = some (d, ps) := by simpa [Value.cells] using hf
  obtain ⟨n, l, e, hn, hl⟩ := cells_cookie hf'
  exact ⟨n, l, by rw [Array.toList_inj.1 e], hn, hl⟩

/-- The cells of a response. -/
theorem cells_answer {cs : List Value} {x : DataW H × List MemPlace} (h : DataW.trod enc Try.prog W base spare held fuel 40 cs = some x) :
    ∃ (r r2 : Nat) (l : List UInt8), cs = (MV [r, r2] l).toList ∧ r < 4294967296 ∧ r2 < 4294967296 ∧ l.length = 80 := by
  obtain ⟨xs, n, _, _, hcl, hxl, hf⟩ := DataW.trod_struct Try.underlying40 h
  rw [show Try.prog.cellsOf 40 = 82 by kernel_rfl] at hcl
  have hxl' : xs.length = 6 := hxl
  obtain ⟨y0, h0⟩ := fld hf 0 _ rfl 22 0 1 rfl rfl (by kernel_rfl) (by omega)
  obtain ⟨y1, h1⟩ := fld hf 1 _ rfl 22 1 1 rfl rfl (by kernel_rfl) (by omega)
  obtain ⟨y2, h2⟩ := fld hf 2 _ rfl 24 2 32 rfl rfl (by kernel_rfl) (by omega)
  obtain ⟨y3, h3⟩ := fld hf 3 _ rfl 38 34 16 rfl rfl (by kernel_rfl) (by omega)
  obtain ⟨y4, h4⟩ := fld hf 4 _ rfl 38 50 16 rfl rfl (by kernel_rfl) (by omega)
  obtain ⟨y5, h5⟩ := fld hf 5 _ rfl 38 66 16 rfl rfl (by kernel_rfl) (by omega)
  obtain ⟨r, e0, hr⟩ := num_cell h0
  obtain ⟨r2, e1, hr2⟩ := num_cell h1
  obtain ⟨l1, n1, e2⟩ := arr_bytes Try.underlying24 (by kernel_rfl) h2
  obtain ⟨l2, n2, e3⟩ := arr_bytes Try.underlying38 (by kernel_rfl) h3
  obtain ⟨l3, n3, e4⟩ := arr_bytes Try.underlying38 (by kernel_rfl) h4
  obtain ⟨l4, n4, e5⟩ := arr_bytes Try.underlying38 (by kernel_rfl) h5
  refine ⟨r, r2, l1 ++ (l2 ++ (l3 ++ l4)), ?_, hr, hr2, by simp only [List.length_append]; omega⟩
  rw [MV_list, encs_append, encs_append, encs_append, ← e2, ← e3, ← e4, ← e5]
  have hc := cut2 cs 1 (1 + (32 + (16 + (16 + 16)))) (by omega)
  rw [cut3, cut3, cut3, cut3, e0, e1] at hc
  exact hc
theorem op_answer {r : Reach} {b2 : Nat} (hv : Value.okWide Try.prog W r b2 40 v) (h : DataW.Trod enc Try.prog W base spare held 40 v d ps) :
    ∃ (n m : Nat) (l : List UInt8), v = .agg (MV [n, m] l) ∧ n < 4294967296 ∧ m < 4294967296 ∧ l.length = 80 := by
  obtain ⟨cs, rfl, hsz⟩ := okWide_struct Try.underlying40 hv
  obtain ⟨fuel, hf⟩ := h
  have hf' : DataW.trod enc Try.prog W base spare held fuel 40 cs.toList = some (d, ps) := by simpa [Value.cells] using hf
  obtain ⟨n, m, l, e, hn, hm, hl⟩ := cells_answer hf'
  exact ⟨n, m, l, by rw [Array.toList_inj.1 e], hn, hm, hl⟩

/-- The cells of an initiation. -/
theorem cells_initial {cs : List Value} {x : DataW H × List MemPlace} (h : DataW.trod enc Try.prog W base spare held fuel 50 cs = some x) :
    ∃ (r : Nat) (l : List UInt8), cs = (MV [r] l).toList ∧ r < 4294967296 ∧ l.length = 140 := by
  obtain ⟨xs, n, _, _, hcl, hxl, hf⟩ := DataW.trod_struct Try.underlying50 h
  rw [show Try.prog.cellsOf 50 = 141 by kernel_rfl] at hcl
  have hxl' : xs.length = 6 := hxl
  obtain ⟨y0, h0⟩ := fld hf 0 _ rfl 22 0 1 rfl rfl (by kernel_rfl) (by omega)
  obtain ⟨y1, h1⟩ := fld hf 1 _ rfl 24 1 32 rfl rfl (by kernel_rfl) (by omega)
  obtain ⟨y2, h2⟩ := fld hf 2 _ rfl 47 33 48 rfl rfl (by kernel_rfl) (by omega)
  obtain ⟨y3, h3⟩ := fld hf 3 _ rfl 48 81 28 rfl rfl (by kernel_rfl) (by omega)
  obtain ⟨y4, h4⟩ := fld hf 4 _ rfl 38 109 16 rfl rfl (by kernel_rfl) (by omega)
  obtain ⟨y5, h5⟩ := fld hf 5 _ rfl 38 125 16 rfl rfl (by kernel_rfl) (by omega)
  obtain ⟨r, e0, hr⟩ := num_cell h0
  obtain ⟨l1, n1, e1⟩ := arr_bytes Try.underlying24 (by kernel_rfl) h1
  obtain ⟨l2, n2, e2⟩ := arr_bytes Try.underlying47 (by kernel_rfl) h2
  obtain ⟨l3, n3, e3⟩ := arr_bytes Try.underlying48 (by kernel_rfl) h3
  obtain ⟨l4, n4, e4⟩ := arr_bytes Try.underlying38 (by kernel_rfl) h4
  obtain ⟨l5, n5, e5⟩ := arr_bytes Try.underlying38 (by kernel_rfl) h5
  refine ⟨r, l1 ++ (l2 ++ (l3 ++ (l4 ++ l5))), ?_, hr, by simp only [List.length_append]; omega⟩
  rw [MV_list, encs_append, encs_append, encs_append, encs_append, ← e1, ← e2, ← e3, ← e4, ← e5]
  have hc := cut2 cs 1 (32 + (48 + (28 + (16 + 16)))) (by omega)
  rw [cut3, cut3, cut3, cut3, e0] at hc
  exact hc
theorem op_initial {r : Reach} {b2 : Nat} (hv : Value.okWide Try.prog W r b2 50 v) (h : DataW.Trod enc Try.prog W base spare held 50 v d ps) :
    ∃ (n : Nat) (l : List UInt8), v = .agg (MV [n] l) ∧ n < 4294967296 ∧ l.length = 140 := by
  obtain ⟨cs, rfl, hsz⟩ := okWide_struct Try.underlying50 hv
  obtain ⟨fuel, hf⟩ := h
  have hf' : DataW.trod enc Try.prog W base spare held fuel 50 cs.toList = some (d, ps) := by simpa [Value.cells] using hf
  obtain ⟨n, l, e, hn, hl⟩ := cells_initial hf'
  exact ⟨n, l, by rw [Array.toList_inj.1 e], hn, hl⟩
end
end Go.Proofs.Ytnehbhhjdjiieaa.Mv
