/- Package flow: tallies as values, the table; New, Note. -/
import Derived.Test.YtkfjobanbnokoaaVj
set_option linter.unusedSimpArgs false
set_option linter.unusedVariables false
set_option linter.unusedSectionVars false
set_option maxRecDepth 100000
namespace Go.Proofs.Ytkfjobanbnokoaa.Fw
open Go.RowKit Go.Proofs.YtkfjobanbnokoaaW.PrintWords Go.Proofs.Ytkfjobanbnokoaa.Bs Go.Proofs.Ytkfjobanbnokoaa.Gm
open Go.Proofs.Ytkfjobanbnokoaa.Av (AV)

/-- What is counted of a talk: packets there and back, bytes there and back. -/
structure Tal where
  k : Flow
  o : Int
  b : Int
  p : Int
  q : Int
deriving DecidableEq
def tallyC (t : Tal) : Array Value := flowC t.k ++ #[.int .i64 t.o, .int .i64 t.b, .int .i64 t.p, .int .i64 t.q]
theorem tallyC_size (t : Tal) : (tallyC t).size = 42 := by simp [tallyC, flowC_size]
theorem tallyC_one (t : Tal) : (tallyC t).all (·.oneCell') = true := by
  unfold tallyC
  rw [Array.all_append, flowC_one]
  simp [Value.oneCell']
theorem cellsTal (t : Tal) : Cells 57 (tallyC t) := ⟨by rw [tallyC_size]; kernel_rfl, tallyC_one t⟩
theorem cellsRTal (t : Tal) : Cells 55 (tallyC t) := ⟨by rw [tallyC_size]; kernel_rfl, tallyC_one t⟩
def zT : Tal := ⟨zF, 0, 0, 0, 0⟩
theorem zeroTal : ZeroOf 57 (tallyC zT) := ⟨fun W => zero_of (by kernel_rfl) W, cellsTal zT⟩
theorem zeroRTal : ZeroOf 55 (tallyC zT) := ⟨fun W => zero_of (by kernel_rfl) W, cellsRTal zT⟩
theorem tal_list (t : Tal) : (tallyC t).toList = (flowC t.k).toList ++ [.int .i64 t.o, .int .i64 t.b, .int .i64 t.p, .int .i64 t.q] := by simp [tallyC]
theorem flow_len (f : Flow) : (flowC f).toList.length = 38 := by simp [flowC_size]
theorem tat (t : Tal) (i : Nat) : (tallyC t)[i]? = (tallyC t).toList[i]? := by simp
theorem tal_o (t : Tal) : (tallyC t)[38]? = some (.int .i64 t.o) := by rw [tat, tal_list, List.getElem?_append_right (by rw [flow_len]; decide), flow_len]; rfl
theorem tal_b (t : Tal) : (tallyC t)[39]? = some (.int .i64 t.b) := by rw [tat, tal_list, List.getElem?_append_right (by rw [flow_len]; decide), flow_len]; rfl
theorem tal_p (t : Tal) : (tallyC t)[40]? = some (.int .i64 t.p) := by rw [tat, tal_list, List.getElem?_append_right (by rw [flow_len]; decide), flow_len]; rfl
theorem tal_q (t : Tal) : (tallyC t)[41]? = some (.int .i64 t.q) := by rw [tat, tal_list, List.getElem?_append_right (by rw [flow_len]; decide), flow_len]; rfl
theorem tal_k (t : Tal) (j : Nat) (v : Value) (h : (flowC t.k).toList[j]? = some v) : (tallyC t)[0 + j]? = some v := by
  obtain ⟨hj, _⟩ := List.getElem?_eq_some_iff.1 h
  rw [Nat.zero_add, tat, tal_list, List.getElem?_append_left hj]
  exact h
theorem part_k (t : Tal) : PartOf 28 (tallyC t) 0 (flowC t.k) := ⟨tal_k t, (cellsFlow _).1, by kernel_rfl⟩
theorem part_rk (t : Tal) : PartOf 32 (tallyC t) 0 (flowC t.k) := ⟨tal_k t, (cellsRFlow _).1, by kernel_rfl⟩
theorem to_k (t : Tal) (f : Flow) : PartTo 28 (tallyC t) 0 (flowC f) (tallyC ⟨f, t.o, t.b, t.p, t.q⟩) := by
  refine ⟨by rw [tallyC_size, flowC_size]; decide, ?_, cellsFlow f⟩
  apply Array.ext'
  rw [tal_list, List.take_zero, List.nil_append, tal_list, Nat.zero_add, flowC_size, List.drop_append, List.drop_of_length_le (by rw [flow_len]; decide), List.nil_append, flow_len]
  rfl
theorem set_o (t : Tal) (x : Int) : (tallyC t).setIfInBounds 38 (.int .i64 x) = tallyC ⟨t.k, x, t.b, t.p, t.q⟩ := by
  apply Array.ext'
  rw [Array.toList_setIfInBounds, tal_list, tal_list, List.set_append_right _ _ (by rw [flow_len]; decide), flow_len]
  rfl
theorem set_b (t : Tal) (x : Int) : (tallyC t).setIfInBounds 39 (.int .i64 x) = tallyC ⟨t.k, t.o, x, t.p, t.q⟩ := by
  apply Array.ext'
  rw [Array.toList_setIfInBounds, tal_list, tal_list, List.set_append_right _ _ (by rw [flow_len]; decide), flow_len]
  rfl
theorem set_p (t : Tal) (x : Int) : (tallyC t).setIfInBounds 40 (.int .i64 x) = tallyC ⟨t.k, t.o, t.b, x, t.q⟩ := by
  apply Array.ext'
  rw [Array.toList_setIfInBounds, tal_list, tal_list, List.set_append_right _ _ (by rw [flow_len]; decide), flow_len]
  rfl
theorem set_q (t : Tal) (x : Int) : (tallyC t).setIfInBounds 41 (.int .i64 x) = tallyC ⟨t.k, t.o, t.b, t.p, x⟩ := by
  apply Array.ext'
  rw [Array.toList_setIfInBounds, tal_list, tal_list, List.set_append_right _ _ (by rw [flow_len]; decide), flow_len]
  rfl
def MT : MK Flow Tal := ⟨75, 28, 57, fun f => .agg (flowC f), fun t => .agg (tallyC t), .agg (tallyC zT)⟩
theorem LT : MT.Law := ⟨fflow_law, fun x y h => by
  injection h with h
  exact flowC_inj h, Try.underlying75, zeroTal.1, flow_key⟩
def tblB (bt : Nat) (room : Int) (bm : Nat) : Ent := .blk bt #[.int .i64 room, .map (some bm)] 77
theorem cells_tbl (room : Int) (bm : Nat) : Cells 77 #[.int .i64 room, .map (some bm)] := ⟨by kernel_rfl, by simp [Value.oneCell']⟩
theorem built_tbl (room : Int) (bm : Nat) : Built 77 #[(0, .int .i64 room), (1, .map (some bm))] (.agg #[.int .i64 room, .map (some bm)]) := fun W => by kernel_rfl
theorem new_in {w0 w : World} {es : List Ent} (room : Int) (HM : HMem w0 w es) : Calls Try.prog 18 #[.int .i64 room] w fun e w' => ∃ bt bm, e = .returned (.pointer (some ⟨bt, 0, none⟩)) ∧ HMem w0 w' (tblB bt (min (max room 1) 1024) bm :: mapE MT bm [] :: es) := by
  have HB := HM.out.below
  have hc : room < 1 ∨ (1 ≤ room ∧ room ≤ 1024) ∨ 1024 < room := by omega
  rcases hc with hc | ⟨hc, hc2⟩ | hc
  · rw [show min (max room 1) 1024 = 1 by omega]
    have hd : room ≤ 1 := by omega
    go_enter Try.func18, Try.ntmps18
    go_wp2_with (first | (refine m_wr ?_ HM (Wr.mnew LT rfl) (wanted_none rfl); clear HM HB; intro w bm HM HB) | (refine m_rd ?_ HM (Rd.build rfl (built_tbl _ bm) rfl) (wanted_none rfl)) | (refine m_wr ?_ HM (Wr.box rfl rfl (cells_tbl _ bm)) (wanted_none rfl); clear HM HB; intro w bt HM HB))
    all_goals first | (exfalso; omega) | skip
    all_goals
      go_ret
      first | exact ⟨bt, bm, rfl, HM⟩ | exact ⟨bt, rfl, bm, HM⟩
  · rw [show min (max room 1) 1024 = room by omega]
    go_enter Try.func18, Try.ntmps18
    go_wp2_with (first | (refine m_wr ?_ HM (Wr.mnew LT rfl) (wanted_none rfl); clear HM HB; intro w bm HM HB) | (refine m_rd ?_ HM (Rd.build rfl (built_tbl _ bm) rfl) (wanted_none rfl)) | (refine m_wr ?_ HM (Wr.box rfl rfl (cells_tbl _ bm)) (wanted_none rfl); clear HM HB; intro w bt HM HB))
    all_goals first | (exfalso; omega) | skip
    all_goals
      go_ret
      first | exact ⟨bt, bm, rfl, HM⟩ | exact ⟨bt, rfl, bm, HM⟩
  · rw [show min (max room 1) 1024 = 1024 by omega]
    have hd : 1 < room := by omega
    have hd2 : ¬ room ≤ 1 := by omega
    go_enter Try.func18, Try.ntmps18
    go_wp2_with (first | (refine m_wr ?_ HM (Wr.mnew LT rfl) (wanted_none rfl); clear HM HB; intro w bm HM HB) | (refine m_rd ?_ HM (Rd.build rfl (built_tbl _ bm) rfl) (wanted_none rfl)) | (refine m_wr ?_ HM (Wr.box rfl rfl (cells_tbl _ bm)) (wanted_none rfl); clear HM HB; intro w bt HM HB))
    all_goals first | (exfalso; omega) | skip
    all_goals
      go_ret
      first | exact ⟨bt, bm, rfl, HM⟩ | exact ⟨bt, rfl, bm, HM⟩
end Go.Proofs.Ytkfjobanbnokoaa.Fw
