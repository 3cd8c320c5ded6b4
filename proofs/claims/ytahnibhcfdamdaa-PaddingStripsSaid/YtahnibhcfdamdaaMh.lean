/- The step laws for heads, addresses and numbers, each over what the call knows of memory. -/
import Derived.Test.YtahnibhcfdamdaaHd
import Derived.Deep.RegionHeld3
set_option linter.unusedSimpArgs false
set_option linter.unusedVariables false
set_option maxRecDepth 100000
namespace Go.Proofs.Ytahnibhcfdamdaa.Mm
open Go.RowKit Go.Proofs.YtahnibhcfdamdaaW.PrintWords Go.Proofs.Ytahnibhcfdamdaa.Bs Go.Proofs.Ytahnibhcfdamdaa.Av Go.Proofs.Ytahnibhcfdamdaa.Ad Go.Proofs.Ytahnibhcfdamdaa.Hd

abbrev HMem (w0 w : World) (es : List Ent) : Prop := Hid (Mem w0 w es)
/-- So many cells as the type has, each of them one. -/
def Cells (t : TypeId) (vs : Array Value) : Prop := (Try.prog.info? t).map (·.size) = some vs.size ∧ vs.all (·.oneCell') = true
theorem cellsH (ns : List Int) (a : Int) (x : List UInt8) (b : Int) (y : List UInt8) (hn : ns.length = 9) (hx : x.length = 16) (hy : y.length = 16) : Cells 31 (HV ns a x b y) := ⟨info_HV ns a x b y hn hx hy, HV_one _ _ _ _ _⟩
theorem cellsZH : Cells 31 ZH := cellsH _ _ _ _ _ rfl rfl rfl
theorem cellsA (a : Int) (x : List UInt8) (hx : x.length = 16) : Cells 25 (AV [a] x) := ⟨info_AV a x hx, AV_one _ _⟩
theorem cellsZA : Cells 25 ZA := cellsA _ _ rfl
theorem run_loadI (W : World) (a : Addr) (v : Value) (hc : W.cell? a = some v) : (loadVar 3 a).run Try.prog W = .ok v W := by
  simp [loadVar, isAgg, run_underlying Try.underlying3, go_sem, hc]
theorem run_load8 (W : World) (a : Addr) (v : Value) (hc : W.cell? a = some v) : (loadVar 5 a).run Try.prog W = .ok v W := by
  simp [loadVar, isAgg, run_underlying Try.underlying5, go_sem, hc]
theorem run_storeI (W : World) (a : Addr) (n : Int) (v0 : Value) (hc : W.cell? a = some v0) (hf : W.frozen? a = false) : (storeVar 3 a (.int .i64 n)).run Try.prog W = .ok () (W.setCell a (.int .i64 n)) := by
  have hi : ∃ i, Try.prog.info? 3 = some i ∧ i.size = 1 := by
    have h : (Try.prog.info? 3).map (·.size) = some 1 := by kernel_rfl
    obtain ⟨i, hi, h⟩ := Option.map_eq_some_iff.1 h
    exact ⟨i, hi, h⟩
  obtain ⟨i, hi, h1⟩ := hi
  simp [storeVar, sizeOf, typeInfo, hi, h1, go_sem, hc, hf]
theorem add_zero (ad : Addr) : ad.add 0 = ad := by unfold Addr.add; simp
section
variable {ops : Array Oper} {rest : List Oper} {op : Oper} {a : Act} {Q : Exit → Act → World → Prop} {w0 w : World} {es es' : List Ent}
theorem m_alloc_ {t : TypeId} (ho : op.op = .alloc t) (hw : Region.wanted op (yielded ops a.tmps) = true) {cs : Array Value} (hz : ∀ W : World, (zeroValue t).run Try.prog W = .ok (.agg cs) W) (hc : Cells t cs) (HM : HMem w0 w es)
    (h : ∀ w1 b, HMem w0 w1 (.blk b cs t :: es) → Below w0.heap.size w0 w1 → wpList Try.prog ops Q rest (a.put op.dst (.pointer (some ⟨b, 0, none⟩))) w1) : wpList Try.prog ops Q (op :: rest) a w :=
  m_alloc ho hw hz hc.1 HM.out (fun w1 b hm => h w1 b (Lib.hid hm) hm.below)
theorem m_allocH (ho : op.op = .alloc 31) (hw : Region.wanted op (yielded ops a.tmps) = true) (HM : HMem w0 w es)
    (h : ∀ w1 b, HMem w0 w1 (.blk b ZH 31 :: es) → Below w0.heap.size w0 w1 → wpList Try.prog ops Q rest (a.put op.dst (.pointer (some ⟨b, 0, none⟩))) w1) : wpList Try.prog ops Q (op :: rest) a w := m_alloc_ ho hw zeroH cellsZH HM h
theorem m_allocA (ho : op.op = .alloc 25) (hw : Region.wanted op (yielded ops a.tmps) = true) (HM : HMem w0 w es)
    (h : ∀ w1 b, HMem w0 w1 (.blk b ZA 25 :: es) → Below w0.heap.size w0 w1 → wpList Try.prog ops Q rest (a.put op.dst (.pointer (some ⟨b, 0, none⟩))) w1) : wpList Try.prog ops Q (op :: rest) a w := m_alloc_ ho hw zeroA cellsZA HM h
theorem m_boxC {t : TypeId} {x : Operand} (ho : op.op = .box t x) (hw : Region.wanted op (yielded ops a.tmps) = true) {cs : Array Value} (hx : a.eval x = .agg cs) (hc : Cells t cs) (HM : HMem w0 w es)
    (h : ∀ w1 b, HMem w0 w1 (.blk b cs t :: es) → Below w0.heap.size w0 w1 → wpList Try.prog ops Q rest (a.put op.dst (.pointer (some ⟨b, 0, none⟩))) w1) : wpList Try.prog ops Q (op :: rest) a w :=
  m_box ho hw hx hc.1 HM.out (fun w1 b hm => h w1 b (Lib.hid hm) hm.below)
theorem step_buildW (hw : Region.wanted op (yielded ops a.tmps) = true) (t : TypeId) (ho : op.op = .build t #[]) (cs : Array Value)
    (hz : ∀ W : World, (Instr.build t #[]).run Try.prog W = .ok (.agg cs) W)
    (h : wpList Try.prog ops Q rest (a.put op.dst (.agg cs)) w) : wpList Try.prog ops Q (op :: rest) a w := by
  refine BigFrame.wpList_want hw fun K hK => ?_
  unfold Oper.wp
  simp [execOp, ho, hz, Result.andThen]
  exact hK _ _ h
theorem m_buildH0 (ho : op.op = .build 31 #[]) (hw : Region.wanted op (yielded ops a.tmps) = true) (h : wpList Try.prog ops Q rest (a.put op.dst (.agg ZH)) w) : wpList Try.prog ops Q (op :: rest) a w := step_buildW hw 31 ho ZH (fun W => by kernel_rfl) h
theorem m_buildA0 (ho : op.op = .build 25 #[]) (hw : Region.wanted op (yielded ops a.tmps) = true) (h : wpList Try.prog ops Q rest (a.put op.dst (.agg ZA)) w) : wpList Try.prog ops Q (op :: rest) a w := step_buildW hw 25 ho ZA (fun W => by kernel_rfl) h
theorem m_loadH {x : Operand} (ho : op.op = .load 31 x) (hw : Region.wanted op (yielded ops a.tmps) = true) {b : Nat} (hx : a.eval x = .pointer (some ⟨b, 0, none⟩)) (HM : HMem w0 w es) {cs : Array Value} (m : Ent.blk b cs 31 ∈ es)
    (h : wpList Try.prog ops Q rest (a.put op.dst (.agg cs)) w) : wpList Try.prog ops Q (op :: rest) a w := m_load ho hw hx HM.out m Try.underlying31 rfl h
theorem m_loadA {x : Operand} (ho : op.op = .load 25 x) (hw : Region.wanted op (yielded ops a.tmps) = true) {b : Nat} (hx : a.eval x = .pointer (some ⟨b, 0, none⟩)) (HM : HMem w0 w es) {cs : Array Value} (m : Ent.blk b cs 25 ∈ es)
    (h : wpList Try.prog ops Q rest (a.put op.dst (.agg cs)) w) : wpList Try.prog ops Q (op :: rest) a w := m_load ho hw hx HM.out m Try.underlying25 rfl h
/-- A head's own addresses. -/
theorem m_loadSrc {x : Operand} (ho : op.op = .load 25 x) (hw : Region.wanted op (yielded ops a.tmps) = true) {b : Nat} (hx : a.eval x = .pointer (some ⟨b, 9, none⟩)) (HM : HMem w0 w es) {ns : List Int} {p : Int} {u : List UInt8} {q : Int} {v : List UInt8} {T : TypeId} (m : Ent.blk b (HV ns p u q v) T ∈ es) (hn : ns.length = 9) (hu : u.length = 16)
    (h : wpList Try.prog ops Q rest (a.put op.dst (.agg (AV [p] u))) w) : wpList Try.prog ops Q (op :: rest) a w :=
  m_loadAt ho hw hx HM.out m (AV [p] u).toList (HV_src ns p u q v 9 hn.symm hu) Try.underlying25 rfl (by rw [Array.length_toList]; exact info_AV p u hu) (by simpa using h)
theorem m_loadDst {x : Operand} (ho : op.op = .load 25 x) (hw : Region.wanted op (yielded ops a.tmps) = true) {b : Nat} (hx : a.eval x = .pointer (some ⟨b, 26, none⟩)) (HM : HMem w0 w es) {ns : List Int} {p : Int} {u : List UInt8} {q : Int} {v : List UInt8} {T : TypeId} (m : Ent.blk b (HV ns p u q v) T ∈ es) (hn : ns.length = 9) (hu : u.length = 16) (hv : v.length = 16)
    (h : wpList Try.prog ops Q rest (a.put op.dst (.agg (AV [q] v))) w) : wpList Try.prog ops Q (op :: rest) a w :=
  m_loadAt ho hw hx HM.out m (AV [q] v).toList (HV_dst ns p u q v 26 (by rw [hn]) hu) Try.underlying25 rfl (by rw [Array.length_toList]; exact info_AV q v hv) (by simpa using h)
theorem m_storeC {t : TypeId} {x y : Operand} (ho : op.op = .store t x y) (hw : Region.wanted op (yielded ops a.tmps) = true) {b : Nat} (hx : a.eval x = .pointer (some ⟨b, 0, none⟩)) {vs : Array Value} (hy : a.eval y = .agg vs) (HM : HMem w0 w es) {cs : Array Value}
    (u : Upd (.blk b cs t) (.blk b vs t) es es') (hc : Cells t vs)
    (h : ∀ w1, HMem w0 w1 es' → Below w0.heap.size w0 w1 → wpList Try.prog ops Q rest (a.put op.dst undef) w1) : wpList Try.prog ops Q (op :: rest) a w :=
  m_store ho hw hx hy HM.out u hc.1 hc.2 (fun w1 hm => h w1 (Lib.hid hm) hm.below)
theorem m_int {x : Operand} (ho : op.op = .load 3 x) (hw : Region.wanted op (yielded ops a.tmps) = true) {b i : Nat} (hx : a.eval x = .pointer (some ⟨b, i, none⟩)) (HM : HMem w0 w es) {cs : Array Value} {T : TypeId} (m : Ent.blk b cs T ∈ es)
    {v : Value} (hv : cs[i]? = some v) (h : wpList Try.prog ops Q rest (a.put op.dst v) w) : wpList Try.prog ops Q (op :: rest) a w :=
  m_cell ho hw hx HM.out m hv (fun W hc => run_loadI W _ _ hc) h
theorem m_u8 {x : Operand} (ho : op.op = .load 5 x) (hw : Region.wanted op (yielded ops a.tmps) = true) {b i : Nat} (hx : a.eval x = .pointer (some ⟨b, i, none⟩)) (HM : HMem w0 w es) {cs : Array Value} {T : TypeId} (m : Ent.blk b cs T ∈ es)
    {v : Value} (hv : cs[i]? = some v) (h : wpList Try.prog ops Q rest (a.put op.dst v) w) : wpList Try.prog ops Q (op :: rest) a w :=
  m_cell ho hw hx HM.out m hv (fun W hc => run_load8 W _ _ hc) h
theorem m_putI {x y : Operand} (ho : op.op = .store 3 x y) (hw : Region.wanted op (yielded ops a.tmps) = true) {b i : Nat} (hx : a.eval x = .pointer (some ⟨b, i, none⟩)) {n : Int} (hy : a.eval y = .int .i64 n) (HM : HMem w0 w es) {cs cs' : Array Value} {T : TypeId}
    (u : Upd (.blk b cs T) (.blk b cs' T) es es') {v0 : Value} (hc0 : cs[i]? = some v0) (hc : cs.setIfInBounds i (.int .i64 n) = cs')
    (h : ∀ w1, HMem w0 w1 es' → Below w0.heap.size w0 w1 → wpList Try.prog ops Q rest (a.put op.dst undef) w1) : wpList Try.prog ops Q (op :: rest) a w :=
  m_put ho hw hx hy HM.out u hc0 hc (fun W h1 h2 => run_storeI W _ _ _ h1 h2) (fun w1 hm => h w1 (Lib.hid hm) hm.below)
end
section
variable {R : Ending → World → Prop} {fn : Func} {a : Act} {w0 w : World} {es : List Ent}
/-- The results: a block's cells; or these and one more value. -/
theorem m_ret_c {r : Tmp} {t : TypeId} (h : fn.results = #[.cell r t]) (hd : a.defers = []) {b : Nat} (ha : a.tmps.getD r undef = .pointer (some ⟨b, 0, none⟩)) (HM : HMem w0 w es) {cs : Array Value} (m : Ent.blk b cs t ∈ es)
    {d : TypeDesc} (hu : Try.prog.underlying t = some d) (hr : d.isRow = true) (hR : R (.returned (.agg cs)) w) : bodyPost Try.prog fn R .ret a w :=
  bodyPost_ret (results_c h _ _ _ b cs ha (load_block (HM.out.get m) t d hu hr (HM.out.size m))) hd hR
theorem m_ret_c1 {r p : Tmp} {t : TypeId} (h : fn.results = #[.cell r t, .tmp p]) (hd : a.defers = []) {b : Nat} (ha : a.tmps.getD r undef = .pointer (some ⟨b, 0, none⟩)) (HM : HMem w0 w es) {cs : Array Value} (m : Ent.blk b cs t ∈ es)
    {d : TypeDesc} (hu : Try.prog.underlying t = some d) (hr : d.isRow = true) (hR : R (.returned (.tuple #[.agg cs, a.tmps.getD p undef])) w) : bodyPost Try.prog fn R .ret a w :=
  bodyPost_ret (results_c1 h _ _ _ b cs ha (load_block (HM.out.get m) t d hu hr (HM.out.size m))) hd hR
end
end Go.Proofs.Ytahnibhcfdamdaa.Mm
namespace Go.Proofs.Ytahnibhcfdamdaa.Bs
open Go.RowKit Go.Proofs.YtahnibhcfdamdaaW.PrintWords Go.Proofs.Ytahnibhcfdamdaa.Mm
/-- A byte of a slice that came in, in whatever world of the call's. -/
theorem RB.byte {w0 : World} {ad : Addr} {c : Nat} {l : List UInt8} (h : RB w0 (.slice (some ad) l.length c) l) (k : Nat) (hk : k < l.length) : ∀ W : World, Below w0.heap.size w0 W → W.cell? (ad.add k) = some (.int .u8 ((l.getD k 0).toNat : Int)) := fun W hb => by
  obtain ⟨A', c', e, _, hr⟩ := h.below hb
  injection e with e1 e2 e3
  subst e1
  obtain ⟨ad2, e4, hc⟩ := reads_cell hr k hk
  injection e4 with e4
  subst e4
  exact hc
theorem RB.some {w : World} {A : Option Addr} {n c : Nat} {l : List UInt8} (h : RB w (.slice A n c) l) (hl : 0 < l.length) : ∃ ad, A = .some ad := by
  obtain ⟨A', c', e, _, hr⟩ := h
  injection e with e1 e2 e3
  subst e1
  obtain ⟨ad, e, _⟩ := hr.2.2 hl
  exact ⟨ad, e⟩
/-- 'b[k:h]', 'b[k:]' of a slice that is there. -/
theorem run_cut (ad : Addr) (n c : Nat) (lo hi : Int) (k m : Nat) (hk : lo = (k : Int)) (hh : hi = ((k + m : Nat) : Int)) (h2 : k + m ≤ c) (h3 : k < c) (W : World) :
    (Instr.slice 26 (.slice (.some ad) n c) (.some (.int .i64 lo)) (.some (.int .i64 hi)) none).run Try.prog W = .ok (.slice (.some (ad.add k)) m (c - k)) W := by
  subst hk hh
  obtain ⟨i8, hi8, hs8⟩ := info8'
  rw [run_slice_lh W 26 (.some ad) n c under8 .i64 .i64 (k : Int) ((k + m : Nat) : Int) (by omega) (by omega) (by omega), elem8]
  have e : ((k + m : Nat) : Int).toNat - k = m := by omega
  rw [Int.natCast_add] at e
  simp [sizeOf, typeInfo, hi8, hs8, sliced, Result.andThen, show ¬ c = k by omega, e]
theorem run_from (ad : Addr) (n c : Nat) (lo : Int) (k : Nat) (hk : lo = (k : Int)) (h2 : k ≤ n) (hc : n ≤ c) (h3 : k < c) (W : World) :
    (Instr.slice 26 (.slice (.some ad) n c) (.some (.int .i64 lo)) none none).run Try.prog W = .ok (.slice (.some (ad.add k)) (n - k) (c - k)) W := by
  subst hk
  obtain ⟨i8, hi8, hs8⟩ := info8'
  rw [run_slice_l W 26 (.some ad) n c under8 .i64 (k : Int) (by omega) (by omega), elem8]
  simp [sizeOf, typeInfo, hi8, hs8, sliced, Result.andThen, show ¬ c = k by omega]
/-- A part of a slice of bytes. -/
theorem RB.sub {w : World} {ad : Addr} {n c : Nat} {l : List UInt8} (h : RB w (.slice (.some ad) n c) l) (k m c' : Nat) (hk : k + m ≤ l.length) (hc : m ≤ c') : RB w (.slice (.some (ad.add k)) m c') ((l.drop k).take m) := by
  obtain ⟨A', c0, e, hc0, hr⟩ := h
  injection e with e1 e2 e3
  subst e1
  have e : ((l.drop k).take m).length = m := by simp; omega
  refine ⟨.some (ad.add k), c', by rw [e], by omega, rfl, by have := hr.2.1; omega, fun hp => ⟨_, rfl, fun j hj => ?_⟩⟩
  obtain ⟨ad2, e2, hcell⟩ := hr.2.2 (by omega)
  injection e2 with e2
  subst e2
  rw [add_add, hcell (k + j) (by omega)]
  congr 1
  simp [List.getD_eq_getElem?_getD, List.getElem?_take, List.getElem?_drop, show j < m by omega]
theorem RB.front {w : World} {ad : Addr} {n c : Nat} {l : List UInt8} (h : RB w (.slice (.some ad) n c) l) (m c' : Nat) (hk : m ≤ l.length) (hc : m ≤ c') : RB w (.slice (.some ad) m c') (l.take m) := by
  have := h.sub 0 m c' (by omega) hc
  rwa [add_zero, List.drop_zero] at this
end Go.Proofs.Ytahnibhcfdamdaa.Bs
