/- A packet's head as cells: nine numbers, then two addresses; parts of it loaded and stored; two heads compared. -/
import Derived.Test.YtahnibhcfdamdaaMm
import Derived.Test.YtahnibhcfdamdaaAi
set_option linter.unusedSimpArgs false
set_option linter.unusedVariables false
set_option maxRecDepth 100000
namespace Go.Proofs.Ytahnibhcfdamdaa.Hd
open Go.RowKit Go.Proofs.YtahnibhcfdamdaaW.PrintWords Go.Proofs.Ytahnibhcfdamdaa.Bs Go.Proofs.Ytahnibhcfdamdaa.Av Go.Proofs.Ytahnibhcfdamdaa.Mm Go.Proofs.Ytahnibhcfdamdaa.Ad

def HV (ns : List Int) (a : Int) (x : List UInt8) (b : Int) (y : List UInt8) : Array Value := (ns.map (fun n : Int => Value.int .i64 n) ++ ((AV [a] x).toList ++ (AV [b] y).toList)).toArray
theorem HV_size (ns : List Int) (a : Int) (x : List UInt8) (b : Int) (y : List UInt8) (hx : x.length = 16) (hy : y.length = 16) : (HV ns a x b y).size = ns.length + 34 := by
  simp [HV, AV_size, hx, hy]
theorem HV_one (ns : List Int) (a : Int) (x : List UInt8) (b : Int) (y : List UInt8) : (HV ns a x b y).all (·.oneCell') = true := by
  have h1 := AV_one [a] x
  have h2 := AV_one [b] y
  rw [Array.all_eq_true_iff_forall_mem] at h1 h2 ⊢
  intro v hv
  simp only [HV, List.mem_toArray, List.mem_append, List.mem_map, Array.mem_toList_iff] at hv
  rcases hv with ⟨n, _, rfl⟩ | hv | hv
  · rfl
  · exact h1 v hv
  · exact h2 v hv
theorem HV_list (ns : List Int) (a : Int) (x : List UInt8) (b : Int) (y : List UInt8) : (HV ns a x b y).toList = ns.map (fun n : Int => Value.int .i64 n) ++ ((AV [a] x).toList ++ (AV [b] y).toList) := by simp [HV]
theorem HV_num (ns : List Int) (a : Int) (x : List UInt8) (b : Int) (y : List UInt8) (i : Nat) (n : Int) (h : ns[i]? = some n) : (HV ns a x b y)[i]? = some (.int .i64 n) := by
  obtain ⟨hi, h2⟩ := List.getElem?_eq_some_iff.1 h
  unfold HV
  rw [List.getElem?_toArray, List.getElem?_append_left (by simpa using hi), List.getElem?_map, h]
  rfl
theorem HV_src (ns : List Int) (a : Int) (x : List UInt8) (b : Int) (y : List UInt8) (i : Nat) (hi : i = ns.length) (hx : x.length = 16) : ∀ j v, (AV [a] x).toList[j]? = some v → (HV ns a x b y)[i + j]? = some v := by
  intro j v h
  obtain ⟨hj, h2⟩ := List.getElem?_eq_some_iff.1 h
  subst hi
  unfold HV
  rw [List.getElem?_toArray, List.getElem?_append_right (by simp), List.length_map, show ns.length + j - ns.length = j by omega, List.getElem?_append_left hj, h]
theorem HV_dst (ns : List Int) (a : Int) (x : List UInt8) (b : Int) (y : List UInt8) (i : Nat) (hi : i = ns.length + 17) (hx : x.length = 16) : ∀ j v, (AV [b] y).toList[j]? = some v → (HV ns a x b y)[i + j]? = some v := by
  intro j v h
  subst hi
  have e : (AV [a] x).toList.length = 17 := by rw [Array.length_toList, AV_size, hx]; rfl
  unfold HV
  rw [List.getElem?_toArray, List.getElem?_append_right (by simp; omega), List.length_map, show ns.length + 17 + j - ns.length = 17 + j by omega, List.getElem?_append_right (by rw [e]; omega), e, show 17 + j - 17 = j by omega, h]
theorem HV_set (ns : List Int) (a : Int) (x : List UInt8) (b : Int) (y : List UInt8) (i : Nat) (n : Int) (hi : i < ns.length) : (HV ns a x b y).setIfInBounds i (.int .i64 n) = HV (ns.set i n) a x b y := by
  unfold HV
  apply Array.ext'
  rw [Array.toList_setIfInBounds]
  simp only []
  rw [List.set_append_left _ _ (by simpa using hi), List.map_set]
theorem HV_set1 (ns : List Int) (a : Int) (x : List UInt8) (b : Int) (y : List UInt8) (i : Nat) (n : Int) (hi : decide (i < ns.length) = true) : (HV ns a x b y).setIfInBounds i (.int .i64 n) = HV (ns.set i n) a x b y := HV_set ns a x b y i n (of_decide_eq_true hi)
theorem HV_setSrc (ns : List Int) (a : Int) (x : List UInt8) (b : Int) (y : List UInt8) (a' : Int) (x' : List UInt8) (i : Nat) (hi : i = ns.length) (hx : x.length = 16) (hx' : x'.length = 16) :
    HV ns a' x' b y = ((HV ns a x b y).toList.take i ++ (AV [a'] x').toList ++ (HV ns a x b y).toList.drop (i + (AV [a'] x').size)).toArray := by
  subst hi
  rw [HV_list, AV_size, hx']
  unfold HV
  congr 1
  rw [List.take_append_of_le_length (by simp), List.take_of_length_le (by simp), List.append_assoc, List.drop_append, List.drop_of_length_le (by simp), List.nil_append, List.length_map]
  have e3 : (AV [a] x).toList.length = 17 := by rw [Array.length_toList, AV_size, hx]; rfl
  rw [List.drop_append, List.drop_of_length_le (by rw [e3]; simp), List.nil_append, e3]
  simp
theorem HV_setDst (ns : List Int) (a : Int) (x : List UInt8) (b : Int) (y : List UInt8) (b' : Int) (y' : List UInt8) (i : Nat) (hi : i = ns.length + 17) (hx : x.length = 16) (hy : y.length = 16) (hy' : y'.length = 16) :
    HV ns a x b' y' = ((HV ns a x b y).toList.take i ++ (AV [b'] y').toList ++ (HV ns a x b y).toList.drop (i + (AV [b'] y').size)).toArray := by
  subst hi
  have e : (AV [a] x).toList.length = 17 := by rw [Array.length_toList, AV_size, hx]; rfl
  have e2 : (AV [b] y).toList.length = 17 := by rw [Array.length_toList, AV_size, hy]; rfl
  rw [HV_list, AV_size, hy']
  unfold HV
  congr 1
  rw [← List.append_assoc, ← List.append_assoc]
  have hlen : (ns.map (fun n : Int => Value.int .i64 n) ++ (AV [a] x).toList).length = ns.length + 17 := by rw [List.length_append, List.length_map, e]
  rw [List.take_append_of_le_length (by rw [hlen]; exact Nat.le_refl _), List.take_of_length_le (by rw [hlen]; exact Nat.le_refl _)]
  rw [List.drop_of_length_le (by rw [List.length_append, hlen, e2]; simp), List.append_nil]
theorem HV_at9 (ns : List Int) (a : Int) (x : List UInt8) (b : Int) (y : List UInt8) (hn : ns.length = 9) : (HV ns a x b y)[9]? = some (.int .i64 a) := by
  unfold HV
  rw [List.getElem?_toArray, List.getElem?_append_right (by simp [hn]), List.length_map, hn, AV_list]
  rfl
theorem HV_at26 (ns : List Int) (a : Int) (x : List UInt8) (b : Int) (y : List UInt8) (hn : ns.length = 9) (hx : x.length = 16) : (HV ns a x b y)[26]? = some (.int .i64 b) := by
  have h := HV_dst ns a x b y 26 (by rw [hn]) hx 0 (.int .i64 b) (by rw [AV_list]; rfl)
  exact h
/-- The zero head. -/
def ZH : Array Value := HV [0, 0, 0, 0, 0, 0, 0, 0, 0] 0 (List.replicate 16 0) 0 (List.replicate 16 0)
theorem ZH_eq : ZH = HV [0, 0, 0, 0, 0, 0, 0, 0, 0] 0 (List.replicate 16 0) 0 (List.replicate 16 0) := rfl
theorem zeroH (W : World) : (zeroValue 31).run Try.prog W = .ok (.agg ZH) W := zero_of (by kernel_rfl) W
theorem ZH_size : ZH.size = 43 := by rw [ZH_eq, HV_size _ _ _ _ _ (by simp) (by simp)]; rfl
theorem infoH : (Try.prog.info? 31).map (·.size) = some 43 := by kernel_rfl
theorem info_HV (ns : List Int) (a : Int) (x : List UInt8) (b : Int) (y : List UInt8) (hn : ns.length = 9) (hx : x.length = 16) (hy : y.length = 16) : (Try.prog.info? 31).map (·.size) = some (HV ns a x b y).size := by
  rw [HV_size _ _ _ _ _ hx hy, hn]; exact infoH

theorem lits_head (d : Nat) (n0 n1 n2 n3 n4 n5 n6 n7 n8 a b : Int) (x y : List UInt8) (hx : x.length = 16) (hy : y.length = 16)
    (hb : ∀ n ∈ [n0, n1, n2, n3, n4, n5, n6, n7, n8, a, b], -9223372036854775808 ≤ n ∧ n ≤ 9223372036854775807) :
    Try.prog.keyLits (d + 4) 31 (HV [n0, n1, n2, n3, n4, n5, n6, n7, n8] a x b y).toList = some ([.int .i64 n0, .int .i64 n1, .int .i64 n2, .int .i64 n3, .int .i64 n4, .int .i64 n5, .int .i64 n6, .int .i64 n7, .int .i64 n8] ++ ((.int .i64 a :: x.map LB) ++ (.int .i64 b :: y.map LB))) := by
  have k0 : Try.prog.cellsOf 31 = 43 := by kernel_rfl
  have k1 : Try.prog.cellsOf 3 = 1 := by kernel_rfl
  have k2 : Try.prog.cellsOf 25 = 17 := by kernel_rfl
  have hs : (HV [n0, n1, n2, n3, n4, n5, n6, n7, n8] a x b y).toList.length = 43 := by rw [Array.length_toList, HV_size _ _ _ _ _ hx hy]; rfl
  have la : (AV [a] x).toList.length = 17 := by rw [Array.length_toList, AV_size, hx]; rfl
  have lb : (AV [b] y).toList.length = 17 := by rw [Array.length_toList, AV_size, hy]; rfl
  have e9 : ((HV [n0, n1, n2, n3, n4, n5, n6, n7, n8] a x b y).toList.drop 9).take 17 = (AV [a] x).toList := by
    rw [HV_list]
    show ((AV [a] x).toList ++ (AV [b] y).toList).take 17 = _
    rw [List.take_append_of_le_length (by rw [la]; exact Nat.le_refl _), List.take_of_length_le (by rw [la]; exact Nat.le_refl _)]
  have e26 : ((HV [n0, n1, n2, n3, n4, n5, n6, n7, n8] a x b y).toList.drop 26).take 17 = (AV [b] y).toList := by
    rw [HV_list]
    show (((AV [a] x).toList ++ (AV [b] y).toList).drop 17).take 17 = _
    rw [List.drop_append, List.drop_of_length_le (by rw [la]; exact Nat.le_refl _), List.nil_append, la, Nat.sub_self, List.drop_zero, List.take_of_length_le (by rw [lb]; exact Nat.le_refl _)]
  have r0 := lits_int (d + 2) n0 (hb n0 (by simp)).1 (hb n0 (by simp)).2
  have r1 := lits_int (d + 2) n1 (hb n1 (by simp)).1 (hb n1 (by simp)).2
  have r2 := lits_int (d + 2) n2 (hb n2 (by simp)).1 (hb n2 (by simp)).2
  have r3 := lits_int (d + 2) n3 (hb n3 (by simp)).1 (hb n3 (by simp)).2
  have r4 := lits_int (d + 2) n4 (hb n4 (by simp)).1 (hb n4 (by simp)).2
  have r5 := lits_int (d + 2) n5 (hb n5 (by simp)).1 (hb n5 (by simp)).2
  have r6 := lits_int (d + 2) n6 (hb n6 (by simp)).1 (hb n6 (by simp)).2
  have r7 := lits_int (d + 2) n7 (hb n7 (by simp)).1 (hb n7 (by simp)).2
  have r8 := lits_int (d + 2) n8 (hb n8 (by simp)).1 (hb n8 (by simp)).2
  have r9 := lits_addr d a x (hb a (by simp)).1 (hb a (by simp)).2 hx
  have r26 := lits_addr d b y (hb b (by simp)).1 (hb b (by simp)).2 hy
  have g : ∀ (i : Nat) (n : Int), [n0, n1, n2, n3, n4, n5, n6, n7, n8][i]? = some n → ((HV [n0, n1, n2, n3, n4, n5, n6, n7, n8] a x b y).toList.drop i).take 1 = [.int .i64 n] := fun i n h => by
    obtain ⟨hi, h2⟩ := List.getElem?_eq_some_iff.1 h
    have h3 := HV_num [n0, n1, n2, n3, n4, n5, n6, n7, n8] a x b y i n h
    have hi2 : i < (HV [n0, n1, n2, n3, n4, n5, n6, n7, n8] a x b y).toList.length := by rw [hs]; simp at hi; omega
    rw [List.drop_eq_getElem_cons hi2]
    have h4 : (HV [n0, n1, n2, n3, n4, n5, n6, n7, n8] a x b y).toList[i]? = some (.int .i64 n) := by simpa using h3
    rw [List.getElem?_eq_getElem hi2] at h4
    injection h4 with h4
    rw [h4]; rfl
  unfold Program.keyLits
  rw [Try.underlying31]
  simp only []
  rw [if_pos ⟨by rw [hs, k0], by kernel_rfl⟩]
  simp only [List.mapM_cons, List.mapM_nil, k1, k2, g 0 n0 rfl, g 1 n1 rfl, g 2 n2 rfl, g 3 n3 rfl, g 4 n4 rfl, g 5 n5 rfl, g 6 n6 rfl, g 7 n7 rfl, g 8 n8 rfl, e9, e26, r0, r1, r2, r3, r4, r5, r6, r7, r8, r9, r26]
  simp

/-- A head's numbers that a machine holds. -/
def Fits (ns : List Int) : Prop := ∀ n ∈ ns, -9223372036854775808 ≤ n ∧ n ≤ 9223372036854775807
theorem formed_head (ns : List Int) (a b : Int) (x y : List UInt8) (hn : ns.length = 9) (hx : x.length = 16) (hy : y.length = 16) : (Value.agg (HV ns a x b y)).formed Try.prog 31 = true := by
  unfold Value.formed
  rw [Try.underlying31]
  have k0 : Try.prog.cellsOf 31 = 43 := by kernel_rfl
  simp [k0, HV_size _ _ _ _ _ hx hy, hn]
theorem list9 {ns : List Int} (h : ns.length = 9) : ∃ a b c d e f g i j : Int, ns = [a, b, c, d, e, f, g, i, j] := by
  match ns, h with
  | [a, b, c, d, e, f, g, i, j], _ => exact ⟨a, b, c, d, e, f, g, i, j, rfl⟩
theorem eq_head (ns ms : List Int) (a b a' b' : Int) (x y x' y' : List UInt8) (hn : ns.length = 9) (hm : ms.length = 9) (hx : x.length = 16) (hy : y.length = 16) (hx' : x'.length = 16) (hy' : y'.length = 16)
    (h1 : Fits (ns ++ [a, b])) (h2 : Fits (ms ++ [a', b'])) (w : World) :
    (binOp .eql 31 (.agg (HV ns a x b y)) (.agg (HV ms a' x' b' y'))).run Try.prog w = .ok (.bool (ns == ms && a == a' && x == x' && b == b' && y == y')) w := by
  obtain ⟨n0, n1, n2, n3, n4, n5, n6, n7, n8, rfl⟩ := list9 hn
  obtain ⟨m0, m1, m2, m3, m4, m5, m6, m7, m8, rfl⟩ := list9 hm
  obtain ⟨r, hr, hi⟩ := run_equalIn_deep (P := Try.prog) 9996 4 31 (by kernel_rfl) w 4 4 (.agg (HV [n0, n1, n2, n3, n4, n5, n6, n7, n8] a x b y)) (.agg (HV [m0, m1, m2, m3, m4, m5, m6, m7, m8] a' x' b' y')) _ _ (formed_head _ _ _ _ _ rfl hx hy) (formed_head _ _ _ _ _ rfl hx' hy')
    (lits_head 0 n0 n1 n2 n3 n4 n5 n6 n7 n8 a b x y hx hy h1) (lits_head 0 m0 m1 m2 m3 m4 m5 m6 m7 m8 a' b' x' y' hx' hy' h2)
  rw [run_eql_struct, hr]
  show Result.ok (Value.bool r) w = _
  congr 2
  refine Bool.eq_iff_iff.2 (hi.trans ?_)
  have hl : (x.map LB).length = (x'.map LB).length := by simp [hx, hx']
  constructor
  · intro h
    injection h with e0 h; injection h with e1 h; injection h with e2 h; injection h with e3 h; injection h with e4 h; injection h with e5 h; injection h with e6 h; injection h with e7 h; injection h with e8 h
    injection e0 with _ e0; injection e1 with _ e1; injection e2 with _ e2; injection e3 with _ e3; injection e4 with _ e4; injection e5 with _ e5; injection e6 with _ e6; injection e7 with _ e7; injection e8 with _ e8
    have h' : (Lit.int .i64 a :: x.map LB) ++ (Lit.int .i64 b :: y.map LB) = (Lit.int .i64 a' :: x'.map LB) ++ (Lit.int .i64 b' :: y'.map LB) := h
    have hs := List.append_inj h' (by simp [hx, hx'])
    obtain ⟨g1, g2⟩ := hs
    injection g1 with ga gx
    injection g2 with gb gy
    injection ga with _ ga
    injection gb with _ gb
    simp [e0, e1, e2, e3, e4, e5, e6, e7, e8, ga, gb, LB_inj _ _ gx, LB_inj _ _ gy]
  · intro h
    simp only [Bool.and_eq_true, beq_iff_eq] at h
    obtain ⟨⟨⟨⟨h1, h2⟩, h3⟩, h4⟩, h5⟩ := h
    injection h1 with e0 h; injection h with e1 h; injection h with e2 h; injection h with e3 h; injection h with e4 h; injection h with e5 h; injection h with e6 h; injection h with e7 h; injection h with e8 h
    rw [e0, e1, e2, e3, e4, e5, e6, e7, e8, h2, h3, h4, h5]
end Go.Proofs.Ytahnibhcfdamdaa.Hd
