/- Step laws for regions that draw their order. -/
import Derived.Test.YtahnibhcfdamdaaMh
set_option linter.unusedSimpArgs false
set_option linter.unusedVariables false
set_option maxRecDepth 100000
namespace Go.Proofs.Ytahnibhcfdamdaa.Mm
open Go.RowKit Go.Proofs.YtahnibhcfdamdaaW.PrintWords Go.Proofs.Ytahnibhcfdamdaa.Bs Go.Proofs.Ytahnibhcfdamdaa.Av Go.Proofs.Ytahnibhcfdamdaa.Ad Go.Proofs.Ytahnibhcfdamdaa.Hd

theorem wrapI {x : Int} (h0 : -9223372036854775808 ≤ x) (h1 : x ≤ 9223372036854775807) : IntKind.i64.wrap x = x := by rw [IntKind.wrap_i64]; omega
theorem tmodI {x y : Int} (h0 : 0 ≤ x) : x.tmod y = x % y := Int.tmod_eq_emod_of_nonneg h0
theorem tdivI {x y : Int} (h0 : 0 ≤ x) : x.tdiv y = x / y := Int.tdiv_eq_ediv_of_nonneg h0
/-- An array of bytes out of what came in. -/
theorem yields_arr {ops : Array Oper} {op : Oper} {a : Act} {w0 : World} {t : TypeId} {x : Operand} (ho : op.op = .load t x) {ad : Addr} {k : Nat} (hx : a.eval x = .pointer (some (ad.add k))) {l : List UInt8} {c : Nat} (HR : RB w0 (.slice (some ad) l.length c) l)
    (n : Nat) (hk : k ≠ 0) (hn : k + n ≤ l.length) (hu : Try.prog.underlying t = some (.array n 5)) (hi : (Try.prog.info? t).map (·.size) = some n) (S : World → Prop) (hS : ∀ w', S w' → Below w0.heap.size w0 w') (hw : Region.wanted op (yielded ops a.tmps) = true) :
    YieldsIf Try.prog ops S op (.agg (encs B ((l.drop k).take n)).toArray) a := by
  have hl : (encs B ((l.drop k).take n)).length = n := by rw [encs_length]; simp; omega
  refine yieldsIf_load_mid hw t x ho ad.block (ad.off + k) (by rw [hx, add_lit _ _ hk]) (encs B ((l.drop k).take n)) _ (fun w' hS' j v hv => ?_) hu rfl (by rw [hl]; exact hi)
  obtain ⟨hj, _⟩ := List.getElem?_eq_some_iff.1 hv
  rw [hl] at hj
  rw [encs_get (d := 0) _ j (by simp; omega)] at hv
  have h1 := HR.byte (k + j) (by omega) w' (hS w' hS')
  rw [add_lit _ _ (by omega)] at h1
  rw [← hv, Nat.add_assoc, h1]
  congr 1
  unfold B
  congr 2
  simp [List.getD_eq_getElem?_getD, List.getElem?_take, List.getElem?_drop, hj]

theorem yields_build {ops : Array Oper} {op : Oper} {a : Act} {S : World → Prop} {t : TypeId} {ps : Array (Nat × Operand)} (ho : op.op = .build t ps) (qs : Array (Nat × Value)) (hq : ps.toList.map (fun p => (p.1, a.eval p.2)) = qs.toList) {v : Value}
    (hz : ∀ W : World, (Instr.build t qs).run Try.prog W = .ok v W) (hw : Region.wanted op (yielded ops a.tmps) = true) : YieldsIf Try.prog ops S op v a :=
  .inl ⟨hw, fun w _ => by
    have hq2 : ps.map (fun p => (p.1, a.eval p.2)) = qs := Array.ext' (by rw [Array.toList_map]; exact hq)
    subst hq2
    have := hz w
    simp [execOp, ho, resolve, this, Result.andThen]⟩
theorem build_head (n0 n1 n2 n3 n4 n7 n8 p q : Int) (x y : List UInt8) (hx : x.length = 16) (hy : y.length = 16) (W : World) :
    (Instr.build 31 #[(0, .int .i64 n0), (1, .int .i64 n1), (2, .int .i64 n2), (3, .int .i64 n3), (4, .int .i64 n4), (7, .int .i64 n7), (8, .int .i64 n8), (9, .agg (AV [p] x)), (10, .agg (AV [q] y))]).run Try.prog W = .ok (.agg (HV [n0, n1, n2, n3, n4, 0, 0, n7, n8] p x q y)) W := by
  obtain ⟨x0, x1, x2, x3, x4, x5, x6, x7, x8, x9, xa, xb, xc, xd, xe, xf, rfl⟩ := list16 hx
  obtain ⟨y0, y1, y2, y3, y4, y5, y6, y7, y8, y9, ya, yb, yc, yd, ye, yf, rfl⟩ := list16 hy
  kernel_rfl
theorem build_head9 (n0 n1 n2 n3 n4 n5 n6 n7 n8 p q : Int) (x y : List UInt8) (hx : x.length = 16) (hy : y.length = 16) (W : World) :
    (Instr.build 31 #[(0, .int .i64 n0), (1, .int .i64 n1), (2, .int .i64 n2), (3, .int .i64 n3), (4, .int .i64 n4), (5, .int .i64 n5), (6, .int .i64 n6), (7, .int .i64 n7), (8, .int .i64 n8), (9, .agg (AV [p] x)), (10, .agg (AV [q] y))]).run Try.prog W = .ok (.agg (HV [n0, n1, n2, n3, n4, n5, n6, n7, n8] p x q y)) W := by
  obtain ⟨x0, x1, x2, x3, x4, x5, x6, x7, x8, x9, xa, xb, xc, xd, xe, xf, rfl⟩ := list16 hx
  obtain ⟨y0, y1, y2, y3, y4, y5, y6, y7, y8, y9, ya, yb, yc, yd, ye, yf, rfl⟩ := list16 hy
  kernel_rfl
theorem refOf16 (v : Value) (l : List UInt8) (w : World) (hr : RB w v l) (hl : l.length = 16) :
    Calls Try.prog 94 #[v] w fun e w' => e = .returned (.tuple #[.agg (AV [6] l), .bool true]) ∧ Below w.heap.size w w' := by
  have h := refOf_at16 v l w hr hl
  rwa [List.replicate_zero, List.append_nil] at h

section
variable {ops : Array Oper} {op : Oper} {a : Act} {K : Act → World → Prop} {Q : Exit → Act → World → Prop} {E : Prop} {w0 w : World} {es es' : List Ent}
theorem s_storeAt (hw : Region.wanted op (yielded ops a.tmps) = true) {t : TypeId} {x y : Operand} (ho : op.op = .store t x y) {b o : Nat} (hx : a.eval x = .pointer (some ⟨b, o, none⟩)) {vs : Array Value} (hy : a.eval y = .agg vs) (HM : HMem w0 w es) {cs cs' : Array Value} {T : TypeId}
    (u : Upd (.blk b cs T) (.blk b cs' T) es es') (hs : o + vs.size ≤ cs.size) (hc : cs' = (cs.toList.take o ++ vs.toList ++ cs.toList.drop (o + vs.size)).toArray) (hi : (Try.prog.info? t).map (·.size) = some vs.size) (h1 : vs.all (·.oneCell') = true)
    (h : ∀ w1, HMem w0 w1 es' → Below w0.heap.size w0 w1 → K (a.put op.dst undef) w1) : if Region.wanted op (yielded ops a.tmps) = true then Oper.wp Try.prog op a w K Q else E := by
  rw [if_pos hw]
  have hm := HM.out.part o vs.toList (by simpa using hs) (by simpa using hc) u
  exact wp_store_mid (P := Try.prog) t x y ho b o vs hx hy (fun j hj => ⟨by rw [blk_cell (HM.out.get u.mem)]; simp; omega, blk_frozen (HM.out.get u.mem) _⟩) hi h1 (h _ (Lib.hid hm) hm.below)
theorem s_src (hw : Region.wanted op (yielded ops a.tmps) = true) {x y : Operand} (ho : op.op = .store 25 x y) {b : Nat} (hx : a.eval x = .pointer (some ⟨b, 9, none⟩)) {p' : Int} {u' : List UInt8} (hy : a.eval y = .agg (AV [p'] u')) (HM : HMem w0 w es)
    {ns : List Int} {p : Int} {u : List UInt8} {q : Int} {v : List UInt8} (m : Upd (.blk b (HV ns p u q v) 31) (.blk b (HV ns p' u' q v) 31) es es') (hn : ns.length = 9) (hu : u.length = 16) (hv : v.length = 16) (hu' : u'.length = 16)
    (h : ∀ w1, HMem w0 w1 es' → Below w0.heap.size w0 w1 → K (a.put op.dst undef) w1) : if Region.wanted op (yielded ops a.tmps) = true then Oper.wp Try.prog op a w K Q else E :=
  s_storeAt hw ho hx hy HM m (by rw [AV_size, HV_size _ _ _ _ _ hu hv, hn, hu']; simp) (HV_setSrc ns p u q v p' u' 9 hn.symm hu hu') (info_AV _ _ hu') (AV_one _ _) h
theorem s_dst (hw : Region.wanted op (yielded ops a.tmps) = true) {x y : Operand} (ho : op.op = .store 25 x y) {b : Nat} (hx : a.eval x = .pointer (some ⟨b, 26, none⟩)) {p' : Int} {u' : List UInt8} (hy : a.eval y = .agg (AV [p'] u')) (HM : HMem w0 w es)
    {ns : List Int} {p : Int} {u : List UInt8} {q : Int} {v : List UInt8} (m : Upd (.blk b (HV ns p u q v) 31) (.blk b (HV ns p u p' u') 31) es es') (hn : ns.length = 9) (hu : u.length = 16) (hv : v.length = 16) (hu' : u'.length = 16)
    (h : ∀ w1, HMem w0 w1 es' → Below w0.heap.size w0 w1 → K (a.put op.dst undef) w1) : if Region.wanted op (yielded ops a.tmps) = true then Oper.wp Try.prog op a w K Q else E :=
  s_storeAt hw ho hx hy HM m (by rw [AV_size, HV_size _ _ _ _ _ hu hv, hn, hu']; simp) (HV_setDst ns p u q v p' u' 26 (by rw [hn]) hu hv hu') (info_AV _ _ hu') (AV_one _ _) h
theorem s_storeC (hw : Region.wanted op (yielded ops a.tmps) = true) {t : TypeId} {x y : Operand} (ho : op.op = .store t x y) {b : Nat} (hx : a.eval x = .pointer (some ⟨b, 0, none⟩)) {vs : Array Value} (hy : a.eval y = .agg vs) (HM : HMem w0 w es) {cs : Array Value}
    (u : Upd (.blk b cs t) (.blk b vs t) es es') (hc : Cells t vs)
    (h : ∀ w1, HMem w0 w1 es' → Below w0.heap.size w0 w1 → K (a.put op.dst undef) w1) : if Region.wanted op (yielded ops a.tmps) = true then Oper.wp Try.prog op a w K Q else E := by
  have hs : vs.size = cs.size := by
    have h1 := HM.out.size u.mem
    rw [hc.1] at h1
    injection h1
  rw [if_pos hw]
  have hm := HM.out.store hs u
  exact wp_store_mid (P := Try.prog) t x y ho b 0 vs hx hy (by rw [hs]; exact there_block (HM.out.get u.mem)) (by rw [hs]; exact HM.out.size u.mem) hc.2 (h _ (Lib.hid hm) hm.below)
theorem s_allocC (hw : Region.wanted op (yielded ops a.tmps) = true) {t : TypeId} (ho : op.op = .alloc t) {cs : Array Value} (hz : ∀ W : World, (zeroValue t).run Try.prog W = .ok (.agg cs) W) (hc : Cells t cs) (HM : HMem w0 w es)
    (h : ∀ w1 b, HMem w0 w1 (.blk b cs t :: es) → Below w0.heap.size w0 w1 → K (a.put op.dst (.pointer (some ⟨b, 0, none⟩))) w1) : if Region.wanted op (yielded ops a.tmps) = true then Oper.wp Try.prog op a w K Q else E := by
  rw [if_pos hw]
  unfold Oper.wp
  simp [execOp, ho, Instr.alloc, hz, newVar, newRow, Result.andThen, Value.cells]
  have hm := HM.out.alloc cs t hc.1
  exact h _ _ (Lib.hid hm) hm.below
/-- A whole load in a region that draws. -/
theorem yields_own {t : TypeId} {x : Operand} (ho : op.op = .load t x) {b : Nat} (hx : a.eval x = .pointer (some ⟨b, 0, none⟩)) {S : World → Prop} (hS : ∀ w', S w' → Mem w0 w' es) {cs : Array Value} (m : Ent.blk b cs t ∈ es)
    {d : TypeDesc} (hu : Try.prog.underlying t = some d) (hd : d.isRow = true) (hi : (Try.prog.info? t).map (·.size) = some cs.size) (hw : Region.wanted op (yielded ops a.tmps) = true) : YieldsIf Try.prog ops S op (.agg cs) a := by
  have h := yieldsIf_load_mid (P := Try.prog) hw t x ho b 0 hx cs.toList d (S := S) (fun w' h => range_block ((hS w' h).get m)) hu hd (by simpa using hi)
  simpa using h
theorem yields_at {t : TypeId} {x : Operand} (ho : op.op = .load t x) {b o : Nat} (hx : a.eval x = .pointer (some ⟨b, o, none⟩)) {S : World → Prop} (hS : ∀ w', S w' → Mem w0 w' es) {cs : Array Value} {T : TypeId} (m : Ent.blk b cs T ∈ es)
    (vs : Array Value) (hv : ∀ j v, vs.toList[j]? = some v → cs[o + j]? = some v) {d : TypeDesc} (hu : Try.prog.underlying t = some d) (hd : d.isRow = true) (hi : (Try.prog.info? t).map (·.size) = some vs.size) (hw : Region.wanted op (yielded ops a.tmps) = true) : YieldsIf Try.prog ops S op (.agg vs) a := by
  have h := yieldsIf_load_mid (P := Try.prog) hw t x ho b o hx vs.toList d (S := S) (fun w' h j v hj => (blk_cell ((hS w' h).get m) (o + j)).trans (hv j v hj)) hu hd (by simpa using hi)
  simpa using h
end
end Go.Proofs.Ytahnibhcfdamdaa.Mm
