/- Chapter 27: a roster copied. -/
import Derived.Test.YtapncdgeigbgmaaUr
import Derived.Shelf.SlMaps.Clone
set_option linter.unusedSimpArgs false
set_option linter.unusedVariables false
set_option linter.unusedSectionVars false
set_option maxRecDepth 100000
namespace Go.Proofs.Ytapncdgeigbgmaa.Tb
open Go.RowKit Go.Proofs.YtapncdgeigbgmaaW.PrintWords Go.Proofs.Ytapncdgeigbgmaa.Bs Go.Proofs.Ytapncdgeigbgmaa.Gm Go.Proofs.Ytapncdgeigbgmaa.Sf

theorem clone_any {w0 w : World} {es : List Ent} {bm : Nat} {l : List (Key × Int)} (HM : HMem w0 w es) (m : mapE MI bm l ∈ es) :
    Calls Try.prog 63 #[.map (some bm)] w fun e w' => ∃ bn, e = .returned (.map (some bn)) ∧ HMem w0 w' (mapE MI bn l :: es) := by
  have hq := fun w => run_eql_map_nil_sl (P := Try.prog) w 80 _ _ (some bm) Try.underlying80
  have hm := HM.out.mapAt (M := MI) m
  obtain ⟨es', clock, hb, h2⟩ := hm.ex
  go_enter Try.func63, Try.ntmps63
  go_wp2_with fail
  rw [run_callFunc_extern Try.func83 (by kernel_rfl) (by kernel_rfl) (by kernel_rfl) (e := Extern.MapsClone.clone) (by kernel_rfl), run_maps_clone_sl w 80 hb]
  simp only [Result.andThen]
  rw [Oper.upon_value]
  go_wp2_with fail
  rw [run_typeAssert_map_sl _ 80 _ _ _ _ Try.underlying80]
  simp only [Result.andThen]
  rw [Oper.upon_value]
  go_wp2_with fail
  go_ret
  refine ⟨w.heap.size, rfl, Lib.hid (HM.out.any (below_alloc (Below.refl _ _) _) (P := fun _ w1 => Gm.MapAt MI.k MI.ek MI.ev w.heap.size l w1) ⟨⟨es', clock, (MapKept.heap_alloc w _).1, h2⟩, hm.nodup, hm.keys⟩ (Gm.MapAt.local_ _ _ _ _ _) (fun k hk => ?_))⟩
  injection hk with hk
  subst hk
  exact ⟨Nat.le_refl _, by rw [show (w.alloc (.map es' clock)).heap.size = w.heap.size + 1 from Array.size_push ..]; exact Nat.lt_succ_self _⟩
theorem built_ros2 (x : Nat) (n : Int) : Built 82 #[(0, .map (some x)), (1, .int .i64 n)] (.agg #[.map (some x), .int .i64 n]) := fun W => by kernel_rfl
theorem rcopy_any {w0 w : World} {es : List Ent} {br bm : Nat} {last : Int} {l : List (Key × Int)} (HM : HMem w0 w (rosB br bm last :: mapE MI bm l :: es)) :
    Calls Try.prog 31 #[.pointer (some ⟨br, 0, none⟩)] w fun e w' => ∃ cr cm, e = .returned (.pointer (some ⟨cr, 0, none⟩)) ∧ HMem w0 w' (rosB cr cm last :: mapE MI cm l :: rosB br bm last :: mapE MI bm l :: es) := by
  have HB := HM.out.below
  go_enter Try.func31, Try.ntmps31
  go_wp2_with fail
  try simp only [Act.put, List.setIfInBounds_toArray, List.set_cons_zero, List.set_cons_succ]
  refine wp_region_held_drew (S := fun w' => Mem w0 w' (rosB br bm last :: [])) (by kernel_rfl) (HM.out.drew.sub (by repeat (first | exact List.nil_sublist _ | apply List.Sublist.cons_cons | apply List.Sublist.cons))) (fun hS => ?_)
  replace HM := Lib.hid HM.out.drew
  replace HB := HM.out.below
  refine tk 0 5 ?_
  refine tk 1 6 ?_
  refine tk 2 7 ?_
  refine tkv 3 8 (.map (some bm)) rfl (yields_cell rfl (by kernel_rfl) rfl (fun _ h => h) (by (first | ((repeat (first | with_reducible exact List.Mem.head _ | with_reducible apply List.Mem.tail)); done) | ((repeat (first | exact List.Mem.head _ | apply List.Mem.tail)); done))) rfl (by kernel_rfl)) ?_
  refine tk 5 10 ?_
  refine tk 6 11 ?_
  refine tk 7 12 ?_
  refine tkv 8 13 (.int .i64 last) rfl (yields_cell rfl (by kernel_rfl) rfl (fun _ h => h) (by (first | ((repeat (first | with_reducible exact List.Mem.head _ | with_reducible apply List.Mem.tail)); done) | ((repeat (first | exact List.Mem.head _ | apply List.Mem.tail)); done))) rfl (by kernel_rfl)) ?_
  refine rone 4 rfl fun K' hK => ?_
  go_simp
  refine (clone_any HM (by (first | ((repeat (first | with_reducible exact List.Mem.head _ | with_reducible apply List.Mem.tail)); done) | ((repeat (first | exact List.Mem.head _ | apply List.Mem.tail)); done)))).mono ?_
  rintro e w ⟨bn, rfl, HM'⟩
  replace HM := HM'
  replace HB := HM.out.below
  clear HM'
  refine hK.out _ _ (HM.out.sub (by repeat (first | exact List.nil_sublist _ | apply List.Sublist.cons_cons | apply List.Sublist.cons))) (fun hS2 => ?_)
  clear hS hK
  have hS := hS2
  clear hS2
  try simp only [Act.put, List.setIfInBounds_toArray, List.set_cons_zero, List.set_cons_succ]
  refine tkv 9 14 (.agg #[.map (some bn), .int .i64 last]) rfl (yields_build rfl #[(0, .map (some bn)), (1, .int .i64 last)] rfl (built_ros2 bn last) (by kernel_rfl)) ?_
  refine rone 10 rfl fun K' hK => ?_
  refine s_wr ?_ HM (Wr.box rfl rfl (cells_ros bn last)) (by kernel_rfl)
  clear HM HB
  intro w cr HM HB
  refine hK.out _ _ (HM.out.sub (by repeat (first | exact List.nil_sublist _ | apply List.Sublist.cons_cons | apply List.Sublist.cons))) (fun hS2 => ?_)
  clear hS hK
  have hS := hS2
  clear hS2
  try simp only [Act.put, List.setIfInBounds_toArray, List.set_cons_zero, List.set_cons_succ]
  refine tk 11 2 ?_
  refine wpAnyH_done (by kernel_rfl) ?_ _
  clear hS
  go_wp2_with fail
  go_ret
  exact ⟨cr, bn, rfl, HM⟩
end Go.Proofs.Ytapncdgeigbgmaa.Tb
