/- Two messages compared: '==' on arrays and structs of whole numbers. -/
import Derived.Test.YtnehbhhjdjiieaaMv
import Derived.DeepKeys
import Derived.Laws.StructEq
set_option linter.unusedSimpArgs false
set_option linter.unusedVariables false
set_option maxRecDepth 100000
namespace Go.Proofs.Ytnehbhhjdjiieaa.Mv
open Go.RowKit Go.Proofs.YtnehbhhjdjiieaaW.PrintWords Go.Proofs.Ytnehbhhjdjiieaa.Bs

theorem mapM_some {α β : Type} (f : α → Option β) : ∀ xs : List α, (∀ x ∈ xs, ∃ y, f x = some y) → ∃ ys, xs.mapM f = some ys
  | [], _ => ⟨[], rfl⟩
  | x :: r, h => by
    obtain ⟨y, hy⟩ := h x (List.mem_cons_self ..)
    obtain ⟨ys, hys⟩ := mapM_some f r (fun z hz => h z (List.mem_cons_of_mem _ hz))
    exact ⟨y :: ys, by rw [List.mapM_cons, hy, hys]; rfl⟩

theorem mapM_flat {α β : Type} (f : α → Option (List β)) (xs : List α) (h : ∀ x ∈ xs, ∃ y, f x = some y) : ∃ L, (xs.mapM f).map List.flatten = some L := by
  obtain ⟨ys, hy⟩ := mapM_some f xs h
  exact ⟨ys.flatten, by rw [hy]; rfl⟩

theorem lits_byte (d : Nat) (x : UInt8) : Try.prog.keyLits (d + 1) 5 [B x] = some [.int .u8 (x.toNat : Int)] := by
  unfold Program.keyLits
  rw [Try.underlying5]
  have h : (Lit.int .u8 (x.toNat : Int)).wf = true := by
    have := x.toNat_lt
    simp only [Lit.wf, decide_eq_true_eq, Bool.and_eq_true]
    exact ⟨by show (0 : Int) ≤ _; omega, by show _ ≤ (255 : Int); omega⟩
  exact if_pos ⟨rfl, h⟩
theorem lits_num (d : Nat) (n : Nat) (hn : n < 4294967296) : Try.prog.keyLits (d + 1) 22 [.int .u32 (n : Int)] = some [.int .u32 (n : Int)] := by
  unfold Program.keyLits
  rw [Try.underlying22]
  have h : (Lit.int .u32 (n : Int)).wf = true := by
    simp only [Lit.wf, decide_eq_true_eq, Bool.and_eq_true]
    exact ⟨by show (0 : Int) ≤ _; omega, by show _ ≤ (4294967295 : Int); omega⟩
  exact if_pos ⟨rfl, h⟩
theorem lits_arr (d : Nat) {t : TypeId} {n : Nat} (ht : Try.prog.underlying t = some (.array n 5)) (hc : Try.prog.cellsOf t = n) (l : List UInt8) (hl : l.length = n) : ∃ L, Try.prog.keyLits (d + 2) t (encs B l) = some L := by
  have h1 : Try.prog.cellsOf 5 = 1 := by kernel_rfl
  obtain ⟨ys, hy⟩ := mapM_some (fun i => Try.prog.keyLits (d + 1) 5 (((encs B l).drop (i * Try.prog.cellsOf 5)).take (Try.prog.cellsOf 5))) (List.range n) (fun i hi => by
    have hin : i < l.length := by rw [hl]; exact List.mem_range.1 hi
    refine ⟨[.int .u8 ((l.getD i 0).toNat : Int)], ?_⟩
    rw [h1, Nat.mul_one]
    have e : ((encs B l).drop i).take 1 = [B (l.getD i 0)] := by
      rw [List.drop_eq_getElem_cons (by rw [encs_length]; exact hin)]
      simp [encs, List.getD_eq_getElem?_getD, List.getElem?_eq_getElem hin]
    rw [e]
    exact lits_byte d _)
  refine ⟨ys.flatten, ?_⟩
  unfold Program.keyLits
  rw [ht]
  simp only []
  rw [if_pos (by rw [encs_length, hc, hl]), hy]
  rfl

theorem cut_enc (l : List UInt8) (a b : Nat) : ((encs B l).drop a).take b = encs B ((l.drop a).take b) := by simp [encs, List.map_drop, List.map_take]
theorem cut_num1 (n : Nat) (l : List UInt8) (a b : Nat) : ((MV [n] l).toList.drop (a + 1)).take b = encs B ((l.drop a).take b) := by
  rw [MV_list, ← cut_enc]; rfl
theorem cut_num2 (n m : Nat) (l : List UInt8) (a b : Nat) : ((MV [n, m] l).toList.drop (a + 2)).take b = encs B ((l.drop a).take b) := by
  rw [MV_list, ← cut_enc]; rfl

theorem mem3 {α : Type} {a b c x : α} (h : x ∈ [a, b, c]) : x = a ∨ x = b ∨ x = c := by simpa using h
theorem mem6 {α : Type} {a b c d e f x : α} (h : x ∈ [a, b, c, d, e, f]) : x = a ∨ x = b ∨ x = c ∨ x = d ∨ x = e ∨ x = f := by simpa using h

theorem lits_cookie (d n : Nat) (l : List UInt8) (hn : n < 4294967296) (hl : l.length = 56) : ∃ L, Try.prog.keyLits (d + 3) 26 (MV [n] l).toList = some L := by
  have k0 : Try.prog.cellsOf 26 = 57 := by kernel_rfl
  have k1 : Try.prog.cellsOf 22 = 1 := by kernel_rfl
  have k2 : Try.prog.cellsOf 23 = 24 := by kernel_rfl
  have k3 : Try.prog.cellsOf 24 = 32 := by kernel_rfl
  have hs : (MV [n] l).toList.length = 57 := by rw [Array.length_toList, MV_size]; simp; omega
  unfold Program.keyLits
  rw [Try.underlying26]
  simp only []
  rw [if_pos ⟨by rw [hs, k0], by kernel_rfl⟩]
  refine mapM_flat _ _ (fun f hf => ?_)
  rcases mem3 hf with rfl | rfl | rfl
  · (try dsimp only); rw [k1]; exact ⟨_, lits_num (d + 1) n hn⟩
  · (try dsimp only); rw [k2, show (1 : Nat) = 0 + 1 from rfl, cut_num1]; exact lits_arr d Try.underlying23 k2 _ (by simp; omega)
  · (try dsimp only); rw [k3, show (25 : Nat) = 24 + 1 from rfl, cut_num1]; exact lits_arr d Try.underlying24 k3 _ (by simp; omega)
theorem lits_answer (d n m : Nat) (l : List UInt8) (hn : n < 4294967296) (hm : m < 4294967296) (hl : l.length = 80) : ∃ L, Try.prog.keyLits (d + 3) 40 (MV [n, m] l).toList = some L := by
  have k0 : Try.prog.cellsOf 40 = 82 := by kernel_rfl
  have k1 : Try.prog.cellsOf 22 = 1 := by kernel_rfl
  have k2 : Try.prog.cellsOf 24 = 32 := by kernel_rfl
  have k3 : Try.prog.cellsOf 38 = 16 := by kernel_rfl
  have hs : (MV [n, m] l).toList.length = 82 := by rw [Array.length_toList, MV_size]; simp; omega
  unfold Program.keyLits
  rw [Try.underlying40]
  simp only []
  rw [if_pos ⟨by rw [hs, k0], by kernel_rfl⟩]
  refine mapM_flat _ _ (fun f hf => ?_)
  rcases mem6 hf with rfl | rfl | rfl | rfl | rfl | rfl
  · (try dsimp only); rw [k1]; exact ⟨_, lits_num (d + 1) n hn⟩
  · (try dsimp only); rw [k1]; exact ⟨_, lits_num (d + 1) m hm⟩
  · (try dsimp only); rw [k2, show (2 : Nat) = 0 + 2 from rfl, cut_num2]; exact lits_arr d Try.underlying24 k2 _ (by simp; omega)
  · (try dsimp only); rw [k3, show (34 : Nat) = 32 + 2 from rfl, cut_num2]; exact lits_arr d Try.underlying38 k3 _ (by simp; omega)
  · (try dsimp only); rw [k3, show (50 : Nat) = 48 + 2 from rfl, cut_num2]; exact lits_arr d Try.underlying38 k3 _ (by simp; omega)
  · (try dsimp only); rw [k3, show (66 : Nat) = 64 + 2 from rfl, cut_num2]; exact lits_arr d Try.underlying38 k3 _ (by simp; omega)
theorem lits_initial (d n : Nat) (l : List UInt8) (hn : n < 4294967296) (hl : l.length = 140) : ∃ L, Try.prog.keyLits (d + 3) 50 (MV [n] l).toList = some L := by
  have k0 : Try.prog.cellsOf 50 = 141 := by kernel_rfl
  have k1 : Try.prog.cellsOf 22 = 1 := by kernel_rfl
  have k2 : Try.prog.cellsOf 24 = 32 := by kernel_rfl
  have k3 : Try.prog.cellsOf 47 = 48 := by kernel_rfl
  have k4 : Try.prog.cellsOf 48 = 28 := by kernel_rfl
  have k5 : Try.prog.cellsOf 38 = 16 := by kernel_rfl
  have hs : (MV [n] l).toList.length = 141 := by rw [Array.length_toList, MV_size]; simp; omega
  unfold Program.keyLits
  rw [Try.underlying50]
  simp only []
  rw [if_pos ⟨by rw [hs, k0], by kernel_rfl⟩]
  refine mapM_flat _ _ (fun f hf => ?_)
  rcases mem6 hf with rfl | rfl | rfl | rfl | rfl | rfl
  · (try dsimp only); rw [k1]; exact ⟨_, lits_num (d + 1) n hn⟩
  · (try dsimp only); rw [k2, show (1 : Nat) = 0 + 1 from rfl, cut_num1]; exact lits_arr d Try.underlying24 k2 _ (by simp; omega)
  · (try dsimp only); rw [k3, show (33 : Nat) = 32 + 1 from rfl, cut_num1]; exact lits_arr d Try.underlying47 k3 _ (by simp; omega)
  · (try dsimp only); rw [k4, show (81 : Nat) = 80 + 1 from rfl, cut_num1]; exact lits_arr d Try.underlying48 k4 _ (by simp; omega)
  · (try dsimp only); rw [k5, show (109 : Nat) = 108 + 1 from rfl, cut_num1]; exact lits_arr d Try.underlying38 k5 _ (by simp; omega)
  · (try dsimp only); rw [k5, show (125 : Nat) = 124 + 1 from rfl, cut_num1]; exact lits_arr d Try.underlying38 k5 _ (by simp; omega)

/-- Two values of a type of keys, compared: the same answer in every world; true of a value and itself. -/
theorem eq_any {t : TypeId} (ht : Try.prog.keyTypeAt 3 t = true) (x y : Array Value) (hs : (match Try.prog.underlying t with | some (.struct _) | some (.array _ _) => true | _ => false) = true) (hx : x.size = Try.prog.cellsOf t) (hy : y.size = Try.prog.cellsOf t) {Lx Ly : List Lit} (h1 : Try.prog.keyLits 3 t x.toList = some Lx) (h2 : Try.prog.keyLits 3 t y.toList = some Ly) :
    ∃ r : Bool, (∀ w : World, (Op.equalIn 10000 t (.agg x) (.agg y)).run Try.prog w = .ok r w) ∧ (r = true ↔ Lx = Ly) := by
  have hf : ∀ z : Array Value, z.size = Try.prog.cellsOf t → (Value.agg z).formed Try.prog t = true := by
    intro z hz
    unfold Value.formed
    split at hs
    · rename_i h; rw [h]; simpa using hz
    · rename_i h; rw [h]; simpa using hz
    · cases hs
  have hd := fun w => run_equalIn_deep (P := Try.prog) 9997 3 t ht w 3 3 (.agg x) (.agg y) Lx Ly (hf x hx) (hf y hy) h1 h2
  by_cases e : Lx = Ly
  · refine ⟨true, fun w => ?_, by simp [e]⟩
    obtain ⟨r, hr, hi⟩ := hd w
    rw [hr, hi.2 e]
  · refine ⟨false, fun w => ?_, by simp [e]⟩
    obtain ⟨r, hr, hi⟩ := hd w
    have : r = false := by cases r with | false => rfl | true => exact absurd (hi.1 rfl) e
    rw [hr, this]
theorem eq_self {t : TypeId} (ht : Try.prog.keyTypeAt 3 t = true) (x : Array Value) (hs : (match Try.prog.underlying t with | some (.struct _) | some (.array _ _) => true | _ => false) = true) (hx : x.size = Try.prog.cellsOf t) (h1 : ∃ L, Try.prog.keyLits 3 t x.toList = some L) (w : World) :
    (Op.equalIn 10000 t (.agg x) (.agg x)).run Try.prog w = .ok true w := by
  obtain ⟨L, h1⟩ := h1
  obtain ⟨r, hr, hi⟩ := eq_any ht x x hs hx hx h1 h1
  rw [hr w, hi.2 rfl]
theorem eq_cookie (n : Nat) (l : List UInt8) (hn : n < 4294967296) (hl : l.length = 56) (w : World) : (Op.equalIn 10000 26 (.agg (MV [n] l)) (.agg (MV [n] l))).run Try.prog w = .ok true w :=
  eq_self (by kernel_rfl) _ (by rw [Try.underlying26]) (by rw [MV_size, show Try.prog.cellsOf 26 = 57 by kernel_rfl]; simp; omega) (lits_cookie 0 n l hn hl) w
theorem eq_answer (n m : Nat) (l : List UInt8) (hn : n < 4294967296) (hm : m < 4294967296) (hl : l.length = 80) (w : World) : (Op.equalIn 10000 40 (.agg (MV [n, m] l)) (.agg (MV [n, m] l))).run Try.prog w = .ok true w :=
  eq_self (by kernel_rfl) _ (by rw [Try.underlying40]) (by rw [MV_size, show Try.prog.cellsOf 40 = 82 by kernel_rfl]; simp; omega) (lits_answer 0 n m l hn hm hl) w
theorem eq_initial (n : Nat) (l : List UInt8) (hn : n < 4294967296) (hl : l.length = 140) (w : World) : (Op.equalIn 10000 50 (.agg (MV [n] l)) (.agg (MV [n] l))).run Try.prog w = .ok true w :=
  eq_self (by kernel_rfl) _ (by rw [Try.underlying50]) (by rw [MV_size, show Try.prog.cellsOf 50 = 141 by kernel_rfl]; simp; omega) (lits_initial 0 n l hn hl) w
end Go.Proofs.Ytnehbhhjdjiieaa.Mv
