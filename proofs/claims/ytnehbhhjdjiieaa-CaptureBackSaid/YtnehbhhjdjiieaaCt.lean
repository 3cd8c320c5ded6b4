/- Package capture: a taker in what a call knows; the front of a file, a record, all records. -/
import Derived.Test.YtnehbhhjdjiieaaCs
set_option linter.unusedSimpArgs false
set_option linter.unusedVariables false
set_option maxRecDepth 100000
namespace Go.Proofs.Ytnehbhhjdjiieaa.Cp
open Go.RowKit Go.Proofs.YtnehbhhjdjiieaaW.PrintWords Go.Proofs.Ytnehbhhjdjiieaa.Bs Go.Proofs.Ytnehbhhjdjiieaa.Gm Go.Proofs.Ytnehbhhjdjiieaa.Le Go.Proofs.Ytnehbhhjdjiieaa.Tk

/-- A taker's block. -/
abbrev tkB (g : Nat) (P : Option Addr) (q : Nat) (l : List UInt8) (k : Nat) : Ent := .blk g #[.slice P l.length q, .int .i64 (k : Int), .int .i64 0] 127
theorem tk_of {w0 w : World} {es : List Ent} {g : Nat} {P : Option Addr} {q : Nat} {l : List UInt8} {k : Nat} (h : Mem w0 w (tkB g P q l k :: rowE R8 (.slice P l.length q) l :: es)) (hk : k ≤ l.length) (hl : l.length ≤ 1099511627776) : Tk w g P q l k 0 := by
  obtain ⟨A, c, e, hc, hr⟩ := h.rb (List.Mem.tail _ (List.Mem.head _))
  injection e with e1 _ e3
  subst e1 e3
  have hap := (List.pairwise_cons.1 h.apart).1 _ (List.Mem.head _) g rfl
  exact ⟨h.get (List.Mem.head _), hc, hr, .inr hap, hk, hl⟩
theorem tk_turn {w0 w w1 : World} {es : List Ent} {g : Nat} {P : Option Addr} {q : Nat} {l : List UInt8} {k k' : Nat} (h : Mem w0 w (tkB g P q l k :: rowE R8 (.slice P l.length q) l :: es)) (ht : Tk w1 g P q l k' 0) (hg : w.grownBy w1 (some g)) : Mem w0 w1 (tkB g P q l k' :: rowE R8 (.slice P l.length q) l :: es) :=
  h.turn (Upd.head _) hg ⟨⟨(h.all _ (List.Mem.head _)).1.1, ht.1⟩, by kernel_rfl⟩ (fun k hk => .inl hk)
theorem mlittle {w0 w : World} {es : List Ent} {g : Nat} {P : Option Addr} {q : Nat} {l : List UInt8} {k : Nat} (m : Nat) (n : Int) (h : HMem w0 w (tkB g P q l k :: rowE R8 (.slice P l.length q) l :: es)) (hn : n = m) (h1 : 1 ≤ m) (h8 : m ≤ 8) (hk : k + m ≤ l.length) (hl : l.length ≤ 1099511627776) :
    Calls Try.prog 62 #[.pointer (some ⟨g, 0, none⟩), .int .i64 n] w fun e w' => e = .returned (.int .u64 ((val false ((l.drop k).take m) : Nat) : Int)) ∧ HMem w0 w' (tkB g P q l (k + m) :: rowE R8 (.slice P l.length q) l :: es) :=
  (little_ok g P q l k m n w (tk_of h.out (by omega) hl) hn h1 h8 hk).mono fun e w' hh => ⟨hh.1, Lib.hid (tk_turn h.out hh.2.1 hh.2.2)⟩
theorem mbig {w0 w : World} {es : List Ent} {g : Nat} {P : Option Addr} {q : Nat} {l : List UInt8} {k : Nat} (m : Nat) (n : Int) (h : HMem w0 w (tkB g P q l k :: rowE R8 (.slice P l.length q) l :: es)) (hn : n = m) (h1 : 1 ≤ m) (h8 : m ≤ 8) (hk : k + m ≤ l.length) (hl : l.length ≤ 1099511627776) :
    Calls Try.prog 83 #[.pointer (some ⟨g, 0, none⟩), .int .i64 n] w fun e w' => e = .returned (.int .u64 ((val true ((l.drop k).take m) : Nat) : Int)) ∧ HMem w0 w' (tkB g P q l (k + m) :: rowE R8 (.slice P l.length q) l :: es) :=
  (big_ok g P q l k m n w (tk_of h.out (by omega) hl) hn h1 h8 hk).mono fun e w' hh => ⟨hh.1, Lib.hid (tk_turn h.out hh.2.1 hh.2.2)⟩
theorem mbytes {w0 w : World} {es : List Ent} {g : Nat} {P : Option Addr} {q : Nat} {l : List UInt8} {k : Nat} (m : Nat) (n : Int) (h : HMem w0 w (tkB g P q l k :: rowE R8 (.slice P l.length q) l :: es)) (hn : n = m) (hk : k + m ≤ l.length) (hl : l.length ≤ 1099511627776) :
    Calls Try.prog 63 #[.pointer (some ⟨g, 0, none⟩), .int .i64 n] w fun e w' => ∃ v, e = .returned v ∧ HMem w0 w' (rowE R8 v ((l.drop k).take m) :: tkB g P q l (k + m) :: rowE R8 (.slice P l.length q) l :: es) :=
  (bytes_ok g P q l k m n w (tk_of h.out (by omega) hl) hn hk (by omega)).mono fun e w' hh => by
    obtain ⟨v, rfl, ho, ht, hg⟩ := hh
    have hm := tk_turn h.out ht hg
    have hs := h.out.below.size
    have ho1 : OW R8 w.heap.size w' v ((l.drop k).take m) := ow8.1 ho
    refine ⟨v, rfl, Lib.hid (hm.push _ ⟨⟨own_weaken ho1 hs, fun j hj => ⟨Nat.le_trans hs (own_base ho1 j hj), own_lt ho1 j hj⟩⟩, localR R8 v _⟩ (fun x hx j hj hj2 => ?_))⟩
    have hb := own_base ho1 j hj
    have hx2 : ∃ y ∈ (tkB g P q l k :: rowE R8 (.slice P l.length q) l :: es), y.own = some j := by
      rcases List.mem_cons.1 hx with rfl | hx
      · exact ⟨_, List.Mem.head _, hj2⟩
      · exact ⟨x, List.Mem.tail _ hx, hj2⟩
    obtain ⟨y, hy, hyo⟩ := hx2
    have := (h.out.all y hy).lt j hyo
    omega
theorem mleft {w0 w : World} {es : List Ent} {g : Nat} {P : Option Addr} {q : Nat} {l : List UInt8} {k : Nat} (n : Nat) (hn : (l.drop k).length = n) (h : HMem w0 w (tkB g P q l k :: rowE R8 (.slice P l.length q) l :: es)) (hk : k ≤ l.length) (hl : l.length ≤ 1099511627776) :
    Calls Try.prog 67 #[.pointer (some ⟨g, 0, none⟩)] w fun e w' => e = .returned (.int .i64 (n : Int)) ∧ HMem w0 w' (tkB g P q l k :: rowE R8 (.slice P l.length q) l :: es) :=
  (left_any g P q l k 0 w (tk_of h.out hk hl)).mono fun e w' hh => ⟨by rw [hh.1, ← hn, List.length_drop]; congr 2; omega, Lib.hid (h.out.call hh.2)⟩
set_option maxHeartbeats 1000000 in
theorem mnew {w0 w : World} {es : List Ent} {v : Value} {l : List UInt8} (h : HMem w0 w es) (hr : RB w v l) (hl : l.length ≤ 1099511627776) :
    Calls Try.prog 59 #[v] w fun e w' => ∃ g P q, e = .returned (.pointer (some ⟨g, 0, none⟩)) ∧ HMem w0 w' (tkB g P q l 0 :: rowE R8 (.slice P l.length q) l :: es) := by
  have HR := Lib.hid hr
  obtain ⟨A, c, rfl, hc, hr⟩ := hr
  clear hr
  have hmk := make_bytes l.length (by omega)
  have HE : Hid (over (List.replicate l.length 0) l = l) := Lib.hid (over_all _ _ (by rw [List.length_replicate]))
  go_enter Try.func59, Try.ntmps59
  go_wp2_with (first | ((with_reducible refine is_builtin (b := .copy) (xs := #[.tmp 7, .tmp 8]) rfl ?_); refine copy_bytes (w0 := w) w.heap.size rfl (.tmp 7) (.tmp 8) rfl (.slice (some ⟨w.heap.size, 0, none⟩) l.length l.length) (.slice A l.length c) (List.replicate l.length 0) l rfl rfl ?aO ?aR ?aB ?_; (case aO => exact OB.made w w.heap.size l.length (Nat.le_refl _) (by omega)); (case aR => exact HR.out.alloc _); (case aB => exact below_alloc (Below.refl _ _) _); intro w1 ho hb1; have HO1 := Lib.hid ho; have HB1 := Lib.hid hb1; clear ho hb1))
  go_ret
  have ho := HO1.out
  rw [HE.out] at ho
  exact ⟨w1.heap.size, some ⟨w.heap.size, 0, none⟩, l.length, rfl, Lib.hid ((h.out.row8 HB1.out ho).alloc _ _ (by kernel_rfl))⟩
end Go.Proofs.Ytnehbhhjdjiieaa.Cp
