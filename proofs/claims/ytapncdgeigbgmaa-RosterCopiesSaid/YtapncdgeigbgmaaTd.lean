/- Rows of numbers: slices.DeleteFunc and slices.Clone on them, by the library's own contracts. -/
import Derived.Test.YtapncdgeigbgmaaTc
import Derived.Shelf.SlicesE.DeleteFunc
import Derived.Shelf.SlicesE.Clone
set_option linter.unusedSimpArgs false
set_option linter.unusedVariables false
set_option linter.unusedSectionVars false
set_option maxRecDepth 100000
namespace Go.Proofs.Ytapncdgeigbgmaa.Tb
open Go.RowKit Go.Proofs.YtapncdgeigbgmaaW.PrintWords Go.Proofs.Ytapncdgeigbgmaa.Bs Go.Proofs.Ytapncdgeigbgmaa.Gm Go.Proofs.Ytapncdgeigbgmaa.Sf
open Go.Shelf

def layDel_ren : Go.Shelf.Ren := ⟨fun | 10 => 68 | 6 => 88 | n => n, fun | 22 => 98 | 23 => 23 | 25 => 136 | 3 => 3 | 4 => 4 | 0 => 0 | n => n, fun | n => n⟩
theorem layDel : Go.Proofs.SlLaysH.n10 Try.prog layDel_ren := {
  mixed := by kernel_rfl
  f6 := ⟨Try.f88.name, by decide, Try.func88.trans (congrArg some (by kernel_rfl))⟩
  f10 := ⟨Try.f68.name, by decide, Try.func68.trans (congrArg some (by kernel_rfl))⟩
  t0 := Try.underlying0
  a0 := Try.isAgg0
  z0 := Try.sizeOf0
  v0 := Try.zeroValue0
  t3 := Try.underlying3
  a3 := Try.isAgg3
  z3 := Try.sizeOf3
  v3 := Try.zeroValue3
  t4 := Try.underlying4
  a4 := Try.isAgg4
  z4 := Try.sizeOf4
  v4 := Try.zeroValue4
  t22 := Try.underlying98
  a22 := Try.isAgg98
  z22 := Try.sizeOf98
  v22 := Try.zeroValue98
  a23 := Try.isAgg23
  z23 := Try.sizeOf23
  t25 := Try.underlying136
  a25 := Try.isAgg136
  z25 := Try.sizeOf136
  v25 := Try.zeroValue136 }

def encN (x : UInt32) : Value := .int .u32 (x.toNat : Int)
theorem encR_N (l : List UInt32) : encR RN l = l.map encN := by
  induction l with
  | nil => rfl
  | cons x l ih => rw [encR_cons, ih]; rfl
/-- The closure. -/
theorem gives (lo x : UInt32) (B : Nat) (W : World) (hc : W.cell? ⟨B, 0, none⟩ = some (.int .u32 (lo.toNat : Int))) :
    FnGives Try.prog 69 #[.pointer (some ⟨B, 0, none⟩)] #[encN x] (.bool (decide (x = lo))) W := by
  show Calls Try.prog 69 #[.int .u32 (x.toNat : Int), .pointer (some ⟨B, 0, none⟩)] W _
  have he : ((x.toNat : Int) == (lo.toNat : Int)) = decide (x = lo) := by
    by_cases h : x = lo
    · subst h; simp
    · have : x.toNat ≠ lo.toNat := fun e => h (UInt32.toNat_inj.1 e)
      simp only [h, decide_false, beq_eq_false_iff_ne, ne_eq]
      omega
  generalize decide (x = lo) = r at he ⊢
  go_enter Try.func69, Try.ntmps69
  go_wp2
  all_goals (go_ret; exact ⟨by simp_all, 0, rfl⟩)
theorem put_heap {enc : UInt32 → Value} {w : World} {blk off : Nat} {d : Array UInt32} {c : Array Value} {e : TypeId} {fr : Nat × Nat} (hb : w.heap[blk]? = some (.cells c e fr)) : (Sort.putRow enc w blk off d).heap[blk]? = some (.cells (Sort.putCells enc off d c) e fr) := by
  simp [Sort.putRow, Sort.mapBlock, Array.getElem?_modify, hb, Sort.onCells]
theorem put_grown (enc : UInt32 → Value) (w : World) (blk off : Nat) (d : Array UInt32) : w.grownBy (Sort.putRow enc w blk off d) (some blk) :=
  ⟨rfl, rfl, rfl, by simp [Sort.putRow, Sort.mapBlock], fun k _ hk => by
    have : blk ≠ k := fun e => hk (by rw [e])
    simp [Sort.putRow, Sort.mapBlock, Array.getElem?_modify, this]⟩
theorem ahead_eq (w : World) (q : Nat) : Sort.ahead w q = w.drewN q := rfl
theorem del_any {w0 w : World} {es : List Ent} {B c n : Nat} {A : Option Addr} {xs : List UInt32} (lo : UInt32) (HM : HMem w0 w (Ent.blk B #[encN lo] 23 :: rowE RN (.slice A n c) xs :: es)) (hx : 0 < xs.length) :
    Calls Try.prog 68 #[.slice A n c, .func (.func 69) #[] #[.pointer (some ⟨B, 0, none⟩)]] w fun e w' => ∃ m, m = (xs.filter fun x => !decide (x = lo)).length ∧ e = .returned (.slice A m c) ∧ HMem w0 w' (Ent.blk B #[encN lo] 23 :: rowE RN (.slice A m c) (xs.filter fun x => !decide (x = lo)) :: es) := by
  have ho := HM.out.ow (v := .slice A n c) (l := xs) (R := RN) (by (first | ((repeat (first | with_reducible exact List.Mem.head _ | with_reducible apply List.Mem.tail)); done) | ((repeat (first | exact List.Mem.head _ | apply List.Mem.tail)); done)))
  have hB := blk_cell (HM.out.get (b := B) (cs := #[encN lo]) (by (first | ((repeat (first | with_reducible exact List.Mem.head _ | with_reducible apply List.Mem.tail)); done) | ((repeat (first | exact List.Mem.head _ | apply List.Mem.tail)); done)))) 0
  have hBlt : B < w.heap.size := World.block_lt_of_cell? w ⟨B, 0, none⟩ hB
  obtain ⟨_, hrest⟩ := ho
  rcases hrest with ⟨_, h0⟩ | ⟨g, cap, cur, hv, hbase, hg, hnc, hcm, hcs, htk⟩
  · omega
  injection hv with e1 e2 e3
  subst e1 e2 e3
  rw [encR_N] at htk
  have hap : B ≠ g := by
    have hp := HM.out.apart
    rw [List.pairwise_cons] at hp
    intro e
    exact hp.1 _ (List.mem_cons_self ..) B rfl (by rw [e]; rfl)
  have hk1 : RN.k = 1 := rfl
  rw [hk1, Nat.mul_one] at hcs htk
  have hH : Sort.Holds encN w g 0 xs.toArray := fun j hj => by
    have hj : j < xs.length := by simpa using hj
    have h1 : cur[j]? = some (encN xs[j]) := by
      have := congrArg (·[j]?) htk
      simp only [List.getElem?_take, hj, if_true, List.getElem?_map, List.getElem?_eq_getElem hj, Option.map_some] at this
      simpa using this
    refine ⟨?_, ?_⟩
    · rw [Nat.zero_add, getElem!_pos xs.toArray j (by simpa using hj)]
      exact (blk_cell hg j).trans (by simpa using h1)
    · have hlt := (Array.getElem?_eq_some_iff.1 h1).1
      simp [World.frozen?, hg, hlt]
  have hp : PredAt Try.prog 69 #[.pointer (some ⟨B, 0, none⟩)] encN (fun x => decide (x = lo)) w := fun W x hb => gives lo x B W ((hb.cell (p := ⟨B, 0, none⟩) hBlt).trans hB)
  have hpo : PredOver Try.prog 69 #[.pointer (some ⟨B, 0, none⟩)] encN (fun x => decide (x = lo)) g 0 xs.toArray.size w := fun n os dk x _ => gives lo x B _ (by
    unfold sortWorld
    rw [Sort.cell?_grow _ _ _ (by show B < (Sort.putRow _ _ _ _ _).heap.size; rw [Sort.size_putRow]; exact hBlt), Sort.cell?_putRow_other _ _ g 0 _ _ (Or.inl hap)]
    exact hB)
  have hcon := AnyE.slices_DeleteFunc layDel encN (fun _ => rfl) (fun x => decide (x = lo)) 69 #[.pointer (some ⟨B, 0, none⟩)] (enters_of Try.func69 (by kernel_rfl) rfl) (0 : UInt32) Try.zeroValue23 g 0 c xs.toArray w hp hpo hH (by simp only [List.size_toArray]; simp only [maxLen] at hcm; omega) (by simpa using hnc)
  simp only [List.size_toArray] at hcon
  change Calls Try.prog 68 _ _ _ at hcon
  refine hcon.mono ?_
  rintro e w' ⟨rfl, q, rfl⟩
  obtain ⟨ys, hys⟩ : ∃ ys, ys = xs.filter fun x => !decide (x = lo) := ⟨_, rfl⟩
  rw [← hys]
  have hle : ys.length ≤ xs.length := by rw [hys]; exact List.length_filter_le _ _
  refine ⟨_, rfl, rfl, Lib.hid ?_⟩
  have HM2 : Mem w0 (w.drewN q) (Ent.blk B #[encN lo] 23 :: rowE RN (.slice (some ⟨g, 0, none⟩) xs.length c) xs :: es) := HM.out.drewN q
  refine HM2.turn (Upd.tail _ (Upd.head _)) (put_grown encN _ g 0 _) (holdsR ?_) (fun k hk => .inl hk)
  refine ⟨by rw [encR_N]; simp [hk1], .inr ⟨g, c, _, rfl, hbase, put_heap hg, by omega, hcm, ?_, ?_⟩⟩
  · simp [Sort.putCells, hcs, hk1]
  · rw [encR_N, hk1, Nat.mul_one]
    apply List.ext_getElem?
    intro i
    rw [List.getElem?_take]
    by_cases hi : i < ys.length
    · rw [if_pos hi]
      have hic : i < cur.size := by rw [hcs]; omega
      simp [Sort.putCells, hic, hi]
      rw [if_pos (by omega), List.getElem?_append_left hi, List.getElem?_eq_getElem hi]
      rfl
    · rw [if_neg hi, List.getElem?_eq_none (by simpa using hi)]
end Go.Proofs.Ytapncdgeigbgmaa.Tb
