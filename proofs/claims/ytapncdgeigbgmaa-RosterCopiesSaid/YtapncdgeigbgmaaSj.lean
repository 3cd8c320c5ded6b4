/- Layer 30: the example, and whatever is sent, and comes. -/
import Derived.Test.YtapncdgeigbgmaaSi
import Derived.Test.YtapncdgeigbgmaaOp
set_option linter.unusedSimpArgs false
set_option linter.unusedVariables false
set_option maxRecDepth 100000
namespace Go.Proofs.Ytapncdgeigbgmaa.Sf
open Go.RowKit Go.Proofs.YtapncdgeigbgmaaW.PrintWords Go.Proofs.Ytapncdgeigbgmaa.Bs Go.Proofs.Ytapncdgeigbgmaa.Rp Go.Proofs.Ytapncdgeigbgmaa.Gm

theorem _root_.Go.Proofs.Ytapncdgeigbgmaa.Gm.Mem.newSes {w0 w w1 : World} {es : List Ent} {b : Nat} {K : Array Value} {lo re n : Int} {m : List Nat} (h : Mem w0 w es) (hb : Below w.heap.size w w1) (hf : w.heap.size ≤ b) (hp : SesP b K lo re n m w1) : Mem w0 w1 (sesE b K lo re n m :: es) :=
  h.any hb hp (SesP.local_ b K lo re n m) (fun k hk => by injection hk with hk; subst hk; exact ⟨hf, hp.lt⟩)
def K1 : Array Value := #[.int .u8 1] ++ Array.replicate 31 (.int .u8 0)
def K3 : Array Value := #[.int .u8 3] ++ Array.replicate 31 (.int .u8 0)
theorem built1 : Built 29 #[(0, .int .u8 1)] (.agg K1) := fun W => by kernel_rfl
theorem built3 : Built 29 #[(0, .int .u8 3)] (.agg K3) := fun W => by kernel_rfl
theorem eql3 : EqlOf 29 K3 K3 true := fun W => by kernel_rfl
theorem key_range {b : Nat} {K : Array Value} {lo re n : Int} {m : List Nat} {w : World} (h : SesP b K lo re n m w) (hK : K.size = 32) : w.rangeAt b 0 K.toList := fun j v hj => by
  have hlt : j < 32 := by
    have := (List.getElem?_eq_some_iff.1 hj).1
    simpa [hK] using this
  rw [Nat.zero_add, h.key j hlt]
  simpa using hj
theorem alive_any (w0 : World) : Calls Try.prog 12 #[] w0 fun e w' => e = .returned (.bool true) ∧ Below w0.heap.size w0 w' := by
  have BH1 := Lib.hid built1
  have HM := Lib.hid (Mem.start w0)
  have HB := HM.out.below
  go_enter Try.func12, Try.ntmps12
  go_wp2_with (first | refine m_rd ?_ | (refine m_wr ?_; clear HM HB; intro w b HM HB; try clear b) | fail)
  refine (new_any K1 1 2 7 _ rfl (by kernel_rfl)).mono ?_
  rintro e w' ⟨b, rfl, hf, hp, hb⟩
  replace HM := Lib.hid (HM.out.newSes hb hf hp)
  replace HB := HM.out.below
  clear hf hp hb
  go_wp2_with (first | refine m_rd ?_ | (refine m_wr ?_; clear HM HB; intro w b HM HB; try clear b) | fail)
  refine (send_any (HM.out.sesAt (by (first | ((repeat (first | with_reducible exact List.Mem.head _ | with_reducible apply List.Mem.tail)); done) | ((repeat (first | exact List.Mem.head _ | apply List.Mem.tail)); done)))) (by decide)).mono ?_
  rintro e w' ⟨rfl, hp, hg⟩
  replace HM := Lib.hid (Mem.ses HM.out (by (first | ((repeat (first | with_reducible exact Upd.head _ | with_reducible apply Upd.tail)); done) | ((repeat (first | exact Upd.head _ | apply Upd.tail)); done))) hp hg)
  replace HB := HM.out.below
  clear hp hg
  rw [show nextN 7 = 8 from by decide] at HM
  rw [show outN 7 = 7 from by decide, show errN 7 = 0 from by decide]
  go_wp2_with (first | refine m_rd ?_ | (refine m_wr ?_; clear HM HB; intro w b HM HB; try clear b) | fail)
  refine (send_any (HM.out.sesAt (by (first | ((repeat (first | with_reducible exact List.Mem.head _ | with_reducible apply List.Mem.tail)); done) | ((repeat (first | exact List.Mem.head _ | apply List.Mem.tail)); done)))) (by decide)).mono ?_
  rintro e w' ⟨rfl, hp, hg⟩
  replace HM := Lib.hid (Mem.ses HM.out (by (first | ((repeat (first | with_reducible exact Upd.head _ | with_reducible apply Upd.tail)); done) | ((repeat (first | exact Upd.head _ | apply Upd.tail)); done))) hp hg)
  replace HB := HM.out.below
  clear hp hg
  rw [show nextN 8 = 9 from by decide] at HM
  rw [show outN 8 = 8 from by decide, show errN 8 = 0 from by decide]
  go_wp2_with (first | refine m_rd ?_ | (refine m_wr ?_; clear HM HB; intro w b HM HB; try clear b) | fail)
  refine (take_any (HM.out.sesAt (by (first | ((repeat (first | with_reducible exact List.Mem.head _ | with_reducible apply List.Mem.tail)); done) | ((repeat (first | exact List.Mem.head _ | apply List.Mem.tail)); done)))) 5 (by decide)).mono ?_
  rintro e w' ⟨rfl, hp, hg⟩
  replace HM := Lib.hid (Mem.ses HM.out (by (first | ((repeat (first | with_reducible exact Upd.head _ | with_reducible apply Upd.tail)); done) | ((repeat (first | exact Upd.head _ | apply Upd.tail)); done))) hp hg)
  replace HB := HM.out.below
  clear hp hg
  rw [show canL [] 5 = true from by decide +kernel, if_pos rfl]
  rw [show takeL [] 5 = [5] from by decide +kernel] at HM
  go_wp2_with (first | refine m_rd ?_ | (refine m_wr ?_; clear HM HB; intro w b HM HB; try clear b) | fail)
  refine (take_any (HM.out.sesAt (by (first | ((repeat (first | with_reducible exact List.Mem.head _ | with_reducible apply List.Mem.tail)); done) | ((repeat (first | exact List.Mem.head _ | apply List.Mem.tail)); done)))) 5 (by decide)).mono ?_
  rintro e w' ⟨rfl, hp, hg⟩
  replace HM := Lib.hid (Mem.ses HM.out (by (first | ((repeat (first | with_reducible exact Upd.head _ | with_reducible apply Upd.tail)); done) | ((repeat (first | exact Upd.head _ | apply Upd.tail)); done))) hp hg)
  replace HB := HM.out.below
  clear hp hg
  rw [show canL [5] 5 = false from by decide +kernel, if_neg (by decide)]
  go_wp2_with (first | (refine m_rd ?_ HM (Rd.fact rfl (by kernel_rfl) rfl (fun w hm => (hm.sesAt (by (first | ((repeat (first | with_reducible exact List.Mem.head _ | with_reducible apply List.Mem.tail)); done) | ((repeat (first | exact List.Mem.head _ | apply List.Mem.tail)); done)))).plo))) | (refine m_rd ?_ HM (Rd.fact rfl (by kernel_rfl) rfl (fun w hm => (hm.sesAt (by (first | ((repeat (first | with_reducible exact List.Mem.head _ | with_reducible apply List.Mem.tail)); done) | ((repeat (first | exact List.Mem.head _ | apply List.Mem.tail)); done)))).pre))) | refine m_rd ?_ | (refine m_wr ?_; clear HM HB; intro w b HM HB; try clear b) | fail)
  go_ret
  exact ⟨rfl, HB⟩
theorem built_doc (n : Int) : Built 43 #[(3, .int .u64 n)] (.agg (SV ZK 0 0 n none 0 0)) := fun W => by kernel_rfl
theorem OkS.mono {q : Int × List Nat} {k k' : Nat} (h : OkS q k) (hk : k ≤ k') : OkS q k' := ⟨h.1, h.2.1, h.2.2.1, Nat.le_trans h.2.2.2 hk⟩
theorem OkS.nil (n : Int) (h0 : 0 ≤ n) (h1 : n < 18446744073709551616) : OkS (n, []) 0 := ⟨h0, h1, fun y hy => absurd hy List.not_mem_nil, Nat.zero_le _⟩
theorem _root_.Go.Proofs.Ytapncdgeigbgmaa.Gm.Mem.nilU {w0 w : World} {es : List Ent} (h : Mem w0 w es) : Mem w0 w (rowU (.slice none 0 0) [] :: es) := h.rowU (Below.refl _ _) (OU.nil _ _)
theorem sessionPlays_walk (n lo : Int) (C : Option Addr) (cc : Nat) (D : List (Bool × Nat)) (w0 : World) (h0 : 0 ≤ n) (h1 : n < 18446744073709551616) (hD : DR w0 C D) (hDb : ∀ j, (D.getD j (false, 0)).2 < 18446744073709551616) :
    Calls Try.prog 3 #[.int .u64 n, .int .u32 lo, .slice C D.length cc] w0 fun e w' => e = .returned (.bool true) ∧ Below w0.heap.size w0 w' := by
  have HN := Lib.hid (And.intro h0 h1)
  have HD := Lib.hid hD
  have HDB := Lib.hid hDb
  have BH1 := Lib.hid built3
  have BH2 := Lib.hid (built_doc n)
  have EQ1 := Lib.hid eql3
  have AL1 := Lib.hid zeroR
  have HCR := Lib.hid (fun n A len c => cellsR ZK 0 0 n A len c rfl (by kernel_rfl))
  have hDL := hD.1
  clear h0 h1 hD hDb
  have HM := Lib.hid (Mem.start w0)
  have HB := HM.out.below
  go_enter Try.func3, Try.ntmps3
  by_cases hl : D.length ≤ 60
  case neg =>
    go_wp2_with (first | refine m_rd ?_ | (refine m_wr ?_; clear HM HB; intro w b HM HB; try clear b) | fail)
    refine (alive_any _).mono ?_
    rintro e w ⟨rfl, hb⟩
    replace HM := Lib.hid (HM.out.call hb)
    replace HB := HM.out.below
    clear hb
    go_wp2_with (first | refine m_rd ?_ | (refine m_wr ?_; clear HM HB; intro w b HM HB; try clear b) | fail)
    go_ret
    exact ⟨rfl, HB⟩
  case pos =>
    go_wp2_with (first | refine m_rd ?_ | (refine m_wr ?_; clear HM HB; intro w b HM HB; try clear b) | fail)
    refine (new_any K3 lo 9 n _ rfl (by kernel_rfl)).mono ?_
    rintro e w' ⟨b, rfl, hf, hp, hb⟩
    replace HM := Lib.hid (HM.out.newSes hb hf hp)
    replace HB := HM.out.below
    clear hf hp hb
    go_wp2_with (first | (refine m_rd ?_ HM (Rd.fact rfl (by kernel_rfl) rfl (fun w hm => (hm.sesAt (by (first | ((repeat (first | with_reducible exact List.Mem.head _ | with_reducible apply List.Mem.tail)); done) | ((repeat (first | exact List.Mem.head _ | apply List.Mem.tail)); done)))).plo))) | (refine m_rd ?_ HM (Rd.fact rfl (by kernel_rfl) rfl (fun w hm => (hm.sesAt (by (first | ((repeat (first | with_reducible exact List.Mem.head _ | with_reducible apply List.Mem.tail)); done) | ((repeat (first | exact List.Mem.head _ | apply List.Mem.tail)); done)))).pre))) | (refine m_rd ?_ HM (Rd.range (vs := K3) rfl rfl (fun w hm => key_range (hm.sesAt (by (first | ((repeat (first | with_reducible exact List.Mem.head _ | with_reducible apply List.Mem.tail)); done) | ((repeat (first | exact List.Mem.head _ | apply List.Mem.tail)); done)))) rfl) (by kernel_rfl) (by kernel_rfl))) | refine m_rd ?_ | (refine m_wr ?_; clear HM HB; intro w b HM HB; try clear b) | fail)
    refine (plays_any w0 _ b K3 ZK lo 9 0 0 n [] none 0 _ C cc D (Lib.hid (HM.out.nilU.front (show Del (sesE _ _ _ _ _ _) _ _ by (first | ((repeat (first | with_reducible exact Del.head _ | with_reducible apply Del.tail)); done) | ((repeat (first | exact Del.head _ | apply Del.tail)); done))))) rfl (by kernel_rfl) ((OkS.nil n HN.out.1 HN.out.2).mono (by omega)) HD.out HDB.out hl).mono ?_
    rintro e w' ⟨A1, c1, es2, rfl, hm, -⟩
    replace HM := hm
    replace HB := HM.out.below
    clear hm
    have HC := Lib.hid (HCR.out (endS D n []).1 A1 (endS D n []).2.length c1)
    generalize endS D n [] = q at HM HC
    go_wp2_with (first | refine m_rd ?_ | (refine m_wr ?_; clear HM HB; intro w b HM HB; try clear b) | fail)
    refine (alive_any _).mono ?_
    rintro e w ⟨rfl, hb⟩
    replace HM := Lib.hid (HM.out.call hb)
    replace HB := HM.out.below
    clear hb
    go_wp2_with (first | refine m_rd ?_ | (refine m_wr ?_; clear HM HB; intro w b HM HB; try clear b) | fail)
    go_ret
    exact ⟨rfl, HB⟩
theorem sessionCopies_walk (n : Int) (C E : Option Addr) (cc ce : Nat) (D M : List (Bool × Nat)) (w0 : World) (h0 : 0 ≤ n) (h1 : n < 18446744073709551616) (hD : DR w0 C D) (hDb : ∀ j, (D.getD j (false, 0)).2 < 18446744073709551616) (hM : DR w0 E M) (hMb : ∀ j, (M.getD j (false, 0)).2 < 18446744073709551616) :
    Calls Try.prog 4 #[.int .u64 n, .slice C D.length cc, .slice E M.length ce] w0 fun e w' => e = .returned (.bool true) ∧ Below w0.heap.size w0 w' := by
  have HO : Hid (D.length ≤ 60 → OkS (endS D n []) 300) := Lib.hid (fun hl => by
    have := OkS.all D n [] 0 (OkS.nil n h0 h1) hDb D.length (Nat.le_refl _)
    rw [List.take_length] at this
    exact this.mono (by omega))
  have HN := Lib.hid (And.intro h0 h1)
  have HD := Lib.hid hD
  have HDB := Lib.hid hDb
  have HE := Lib.hid hM
  have HEB := Lib.hid hMb
  have BH1 := Lib.hid built3
  have BH2 := Lib.hid (built_doc n)
  have EQ1 := Lib.hid eql3
  have AL1 := Lib.hid zeroR
  have HCR := Lib.hid (fun n A len c => cellsR ZK 0 0 n A len c rfl (by kernel_rfl))
  have hDL := hD.1
  have hML := hM.1
  clear h0 h1 hD hDb hM hMb
  have HM := Lib.hid (Mem.start w0)
  have HB := HM.out.below
  go_enter Try.func4, Try.ntmps4
  by_cases hl : D.length ≤ 60
  case neg =>
    go_wp2_with (first | refine m_rd ?_ | (refine m_wr ?_; clear HM HB; intro w b HM HB; try clear b) | fail)
    refine (alive_any _).mono ?_
    rintro e w ⟨rfl, hb⟩
    replace HM := Lib.hid (HM.out.call hb)
    replace HB := HM.out.below
    clear hb
    go_wp2_with (first | refine m_rd ?_ | (refine m_wr ?_; clear HM HB; intro w b HM HB; try clear b) | fail)
    go_ret
    exact ⟨rfl, HB⟩
  case pos =>
  by_cases hm : M.length ≤ 60
  case neg =>
    go_wp2_with (first | refine m_rd ?_ | (refine m_wr ?_; clear HM HB; intro w b HM HB; try clear b) | fail)
    refine (alive_any _).mono ?_
    rintro e w ⟨rfl, hb⟩
    replace HM := Lib.hid (HM.out.call hb)
    replace HB := HM.out.below
    clear hb
    go_wp2_with (first | refine m_rd ?_ | (refine m_wr ?_; clear HM HB; intro w b HM HB; try clear b) | fail)
    go_ret
    exact ⟨rfl, HB⟩
  case pos =>
    go_wp2_with (first | refine m_rd ?_ | (refine m_wr ?_; clear HM HB; intro w b HM HB; try clear b) | fail)
    refine (new_any K3 1 9 n _ rfl (by kernel_rfl)).mono ?_
    rintro e w' ⟨bs, rfl, hf, hp, hb⟩
    replace HM := Lib.hid (HM.out.newSes hb hf hp)
    replace HB := HM.out.below
    clear hf hp hb
    go_wp2_with (first | refine m_rd ?_ | (refine m_wr ?_; clear HM HB; intro w b HM HB; try clear b) | fail)
    refine (plays_any w0 _ bs K3 ZK 1 9 0 0 n [] none 0 _ C cc D (Lib.hid (HM.out.nilU.front (show Del (sesE _ _ _ _ _ _) _ _ by (first | ((repeat (first | with_reducible exact Del.head _ | with_reducible apply Del.tail)); done) | ((repeat (first | exact Del.head _ | apply Del.tail)); done))))) rfl (by kernel_rfl) ((OkS.nil n HN.out.1 HN.out.2).mono (by omega)) HD.out HDB.out hl).mono ?_
    rintro e w' ⟨A1, c1, es2, rfl, hq, -⟩
    replace HM := Lib.hid hq.out.two
    replace HB := HM.out.below
    clear hq es2
    have HQ := Lib.hid (HO.out hl)
    have HC := Lib.hid (HCR.out (endS D n []).1 A1 (endS D n []).2.length c1)
    clear HO
    generalize endS D n [] = q at HM HC HQ
    obtain ⟨nn, ll⟩ := q
    simp only [] at HM HC HQ
    go_wp2_with (first | refine m_rd ?_ | (refine m_wr ?_; clear HM HB; intro w b HM HB; try clear b) | fail)
    refine (copy_any (HM.out.sesAt (by (first | ((repeat (first | with_reducible exact List.Mem.head _ | with_reducible apply List.Mem.tail)); done) | ((repeat (first | exact List.Mem.head _ | apply List.Mem.tail)); done)))) rfl (by kernel_rfl)).mono ?_
    rintro e w' ⟨b2, rfl, hf, hp, hb⟩
    replace HM := Lib.hid (HM.out.newSes hb hf hp)
    replace HB := HM.out.below
    clear hf hp hb
    go_wp2_with (first | (refine m_rd ?_ HM (Rd.fact rfl (by kernel_rfl) rfl (fun w hm => (hm.sesAt (by (first | ((repeat (first | with_reducible exact List.Mem.head _ | with_reducible apply List.Mem.tail)); done) | ((repeat (first | exact List.Mem.head _ | apply List.Mem.tail)); done)))).plo))) | (refine m_rd ?_ HM (Rd.fact rfl (by kernel_rfl) rfl (fun w hm => (hm.sesAt (by (first | ((repeat (first | with_reducible exact List.Mem.head _ | with_reducible apply List.Mem.tail)); done) | ((repeat (first | exact List.Mem.head _ | apply List.Mem.tail)); done)))).pre))) | (refine m_rd ?_ HM (Rd.range (vs := K3) rfl rfl (fun w hm => key_range (hm.sesAt (by (first | ((repeat (first | with_reducible exact List.Mem.head _ | with_reducible apply List.Mem.tail)); done) | ((repeat (first | exact List.Mem.head _ | apply List.Mem.tail)); done)))) rfl) (by kernel_rfl) (by kernel_rfl))) | refine m_rd ?_ | (refine m_wr ?_; clear HM HB; intro w b HM HB; try clear b) | fail)
    refine (plays_any w0 _ b2 K3 ZK 1 9 0 0 nn ll A1 c1 _ E ce M (Lib.hid ((HM.out.front (show Del (rowU _ _) _ _ by (first | ((repeat (first | with_reducible exact Del.head _ | with_reducible apply Del.tail)); done) | ((repeat (first | exact Del.head _ | apply Del.tail)); done)))).front (show Del (sesE b2 _ _ _ _ _) _ _ by (first | ((repeat (first | with_reducible exact Del.head _ | with_reducible apply Del.tail)); done) | ((repeat (first | exact Del.head _ | apply Del.tail)); done))))) rfl (by kernel_rfl) HQ.out HE.out HEB.out hm).mono ?_
    rintro e w' ⟨A2, c2, es2, rfl, hq, hs⟩
    replace HM := Lib.hid (hq.out.tail.sub hs)
    replace HB := HM.out.below
    clear hq hs es2
    have HC := Lib.hid (HCR.out (endS M nn ll).1 A2 (endS M nn ll).2.length c2)
    generalize endS M nn ll = q at HC
    go_wp2_with (first | refine m_rd ?_ | (refine m_wr ?_; clear HM HB; intro w b HM HB; try clear b) | fail)
    refine (plays_any w0 _ bs K3 ZK 1 9 0 0 nn ll A1 c1 _ E ce M (Lib.hid ((HM.out.front (show Del (rowU _ _) _ _ by (first | ((repeat (first | with_reducible exact Del.head _ | with_reducible apply Del.tail)); done) | ((repeat (first | exact Del.head _ | apply Del.tail)); done)))).front (show Del (sesE bs _ _ _ _ _) _ _ by (first | ((repeat (first | with_reducible exact Del.head _ | with_reducible apply Del.tail)); done) | ((repeat (first | exact Del.head _ | apply Del.tail)); done))))) rfl (by kernel_rfl) HQ.out HE.out HEB.out hm).mono ?_
    rintro e w' ⟨A3, c3, es2, rfl, hq, -⟩
    replace HM := Lib.hid hq.out.two
    replace HB := HM.out.below
    clear hq es2 HC
    have HC := Lib.hid (HCR.out (endS M nn ll).1 A3 (endS M nn ll).2.length c3)
    generalize endS M nn ll = q at HM HC
    go_wp2_with (first | refine m_rd ?_ | (refine m_wr ?_; clear HM HB; intro w b HM HB; try clear b) | fail)
    refine (alive_any _).mono ?_
    rintro e w ⟨rfl, hb⟩
    replace HM := Lib.hid (HM.out.call hb)
    replace HB := HM.out.below
    clear hb
    go_wp2_with (first | refine m_rd ?_ | (refine m_wr ?_; clear HM HB; intro w b HM HB; try clear b) | fail)
    go_ret
    exact ⟨rfl, HB⟩
theorem sesZero {w0 w : World} {es : List Ent} {b : Nat} (h : Mem w0 w (Ent.blk b ZS 40 :: es)) : Mem w0 w (sesE b ZK 0 0 0 [] :: es) := by
  have hp : SesP b ZK 0 0 0 [] w := SesP.of_block (h.get (List.Mem.head _)) rfl (by decide) (fun i _ => by decide) Inv.nil
  exact h.turn (Upd.head _) (World.grownBy.refl _ _) ⟨⟨hp, fun k hk => by injection hk with hk; subst hk; exact ⟨(h.all _ (List.Mem.head _)).1.1, hp.lt⟩⟩, SesP.local_ b ZK 0 0 0 []⟩ (fun k hk => .inl hk)
theorem built_doc0 : Built 43 #[] (.agg (SV ZK 0 0 0 none 0 0)) := fun W => by kernel_rfl
theorem sessionNobody_walk (n : Int) (C : Option Addr) (cc : Nat) (D : List (Bool × Nat)) (w0 : World) (hD : DR w0 C D) (hDb : ∀ j, (D.getD j (false, 0)).2 < 18446744073709551616) :
    Calls Try.prog 5 #[.slice C D.length cc, .int .u64 n] w0 fun e w' => e = .returned (.bool true) ∧ Below w0.heap.size w0 w' := by
  have HD := Lib.hid hD
  have HDB := Lib.hid hDb
  have BH2 := Lib.hid built_doc0
  have AL1 := Lib.hid zeroR
  have AL2 := Lib.hid zeroS
  have HCR := Lib.hid (fun n A len c => cellsR ZK 0 0 n A len c rfl (by kernel_rfl))
  have hDL := hD.1
  clear hD hDb
  have HM := Lib.hid (Mem.start w0)
  have HB := HM.out.below
  go_enter Try.func5, Try.ntmps5
  by_cases hl : D.length ≤ 60
  case neg =>
    go_wp2_with (first | refine m_rd ?_ | (refine m_wr ?_; clear HM HB; intro w b HM HB; try clear b) | fail)
    refine (alive_any _).mono ?_
    rintro e w ⟨rfl, hb⟩
    replace HM := Lib.hid (HM.out.call hb)
    replace HB := HM.out.below
    clear hb
    go_wp2_with (first | refine m_rd ?_ | (refine m_wr ?_; clear HM HB; intro w b HM HB; try clear b) | fail)
    go_ret
    exact ⟨rfl, HB⟩
  case pos =>
    go_wp2_with (first | refine m_rd ?_ | (refine m_wr ?_; clear HM HB; intro w b HM HB) | fail)
    refine (plays_any w0 _ b ZK ZK 0 0 0 0 0 [] none 0 _ C cc D (Lib.hid ((sesZero HM.out).nilU.front (show Del (sesE _ _ _ _ _ _) _ _ by (first | ((repeat (first | with_reducible exact Del.head _ | with_reducible apply Del.tail)); done) | ((repeat (first | exact Del.head _ | apply Del.tail)); done))))) rfl (by kernel_rfl) ((OkS.nil 0 (by decide) (by decide)).mono (by omega)) HD.out HDB.out hl).mono ?_
    rintro e w' ⟨A1, c1, es2, rfl, hm, -⟩
    replace HM := hm
    replace HB := HM.out.below
    clear hm
    have HC := Lib.hid (HCR.out (endS D 0 []).1 A1 (endS D 0 []).2.length c1)
    generalize endS D 0 [] = q at HM HC
    go_wp2_with (first | refine m_rd ?_ | (refine m_wr ?_; clear HM HB; intro w b HM HB; try clear b) | fail)
    refine (send_nil _).mono ?_
    rintro e w' ⟨rfl, rfl⟩
    go_wp2_with (first | refine m_rd ?_ | (refine m_wr ?_; clear HM HB; intro w b HM HB; try clear b) | fail)
    refine (can_nil _ _).mono ?_
    rintro e w' ⟨rfl, rfl⟩
    go_wp2_with (first | refine m_rd ?_ | (refine m_wr ?_; clear HM HB; intro w b HM HB; try clear b) | fail)
    refine (take_nil _ _).mono ?_
    rintro e w' ⟨rfl, rfl⟩
    go_wp2_with (first | refine m_rd ?_ | (refine m_wr ?_; clear HM HB; intro w b HM HB; try clear b) | fail)
    refine (spent_nil _).mono ?_
    rintro e w' ⟨rfl, rfl⟩
    go_wp2_with (first | refine m_rd ?_ | (refine m_wr ?_; clear HM HB; intro w b HM HB; try clear b) | fail)
    refine (copy_nil _).mono ?_
    rintro e w' ⟨rfl, rfl⟩
    go_wp2_with (first | refine m_rd ?_ | (refine m_wr ?_; clear HM HB; intro w b HM HB; try clear b) | fail)
    refine (alive_any _).mono ?_
    rintro e w ⟨rfl, hb⟩
    replace HM := Lib.hid (HM.out.call hb)
    replace HB := HM.out.below
    clear hb
    go_wp2_with (first | refine m_rd ?_ | (refine m_wr ?_; clear HM HB; intro w b HM HB; try clear b) | fail)
    go_ret
    exact ⟨rfl, HB⟩
open Go.ChangeShapes Go.WideShapes in
theorem op_deeds {H : Type} {enc : TypeId × Value → H} {W : World} {base : Nat} {spare : Nat → Bool} {held : Bool} {v : Value} {d : DataW H} {ps : List MemPlace} {r : Reach} {b2 : Nat} (hv : Value.okWide Try.prog W r b2 24 v) (h : DataW.Trod enc Try.prog W base spare held 24 v d ps) :
    ∃ A c D, v = .slice A D.length c ∧ DR W A D ∧ ∀ j, (D.getD j (false, 0)).2 < 18446744073709551616 := by
  obtain ⟨a, len, cap, rfl⟩ := okWide_slice Try.underlying24 hv
  obtain ⟨fuel, hf⟩ := h
  have hf' : DataW.trod enc Try.prog W base spare held fuel 24 [.slice a len cap] = some (d, ps) := by simpa [Value.cells] using hf
  rcases Go.Deep.open_slice_pairs Try.underlying24 Try.underlying116 (by kernel_rfl) (by kernel_rfl) (by kernel_rfl) (by kernel_rfl) (by kernel_rfl) hf' with ⟨hcs, _⟩ | ⟨a', l, c, m, n, V0, V1, D0, D1, P0, P1, hcs, _, hl, hm, hmm, _, hx⟩
  · injection hcs with hcs
    injection hcs with e1 e2 e3
    subst e1 e2 e3
    exact ⟨none, 0, [], rfl, ⟨by simp, fun j hj => absurd hj (Nat.not_lt_zero j)⟩, fun j => by simp⟩
  · injection hcs with hcs
    injection hcs with e1 e2 e3
    subst e1 e2 e3
    have hlm : len ≤ m := by rw [hmm]; split <;> omega
    obtain ⟨f, hfn⟩ := Go.Deep.choose_lt (α := Bool × Int) (n := len) (p := fun i y => V0 i = .bool y.1 ∧ V1 i = .int .u64 y.2 ∧ (Lit.int .u64 y.2).wf = true) (fun i hi => by
      obtain ⟨_, _, h0, h1⟩ := hx i (by omega)
      obtain ⟨x, hx0, _⟩ := DataW.trod_bool Try.underlying4 h0
      obtain ⟨y, hy0, _, wy⟩ := DataW.trod_int Try.underlying22 h1
      injection hx0 with hx0
      injection hy0 with hy0
      exact ⟨(x, y), hx0, hy0, wy⟩)
    have hget : ∀ j, j < len → ((List.range len).map fun j => ((f j).1, (f j).2.toNat)).getD j (false, 0) = ((f j).1, (f j).2.toNat) := fun j hj => by simp [List.getD_eq_getElem?_getD, hj]
    have hb : ∀ j, j < len → 0 ≤ (f j).2 ∧ (f j).2 < 18446744073709551616 := fun j hj => by
      have b1 := bounds_u64 (hfn j hj).2.2
      omega
    refine ⟨some a', cap, (List.range len).map fun j => ((f j).1, (f j).2.toNat), by simp, ⟨by simp; unfold maxLen at hm; omega, fun j hj => ?_⟩, fun j => ?_⟩
    · have hj' : j < len := by simpa using hj
      obtain ⟨h0, h1, _, _⟩ := hx j (by omega)
      obtain ⟨f0, f1, _⟩ := hfn j hj'
      have hbj := hb j hj'
      rw [hget j hj']
      exact ⟨a', rfl, by rw [h0, f0], by rw [h1, f1]; simp only []; rw [Int.toNat_of_nonneg hbj.1]⟩
    · by_cases hj : j < len
      · have hbj := hb j hj
        rw [hget j hj]
        simp only []
        omega
      · rw [List.getD_eq_getElem?_getD, List.getElem?_eq_none (by simp; omega)]
        simp
end Go.Proofs.Ytapncdgeigbgmaa.Sf
