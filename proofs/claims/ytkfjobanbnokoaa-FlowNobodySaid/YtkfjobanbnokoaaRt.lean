/- A region that draws its order and where several operations may come up at once: what lies behind it is shown once. -/
import Derived.Test.YtkfjobanbnokoaaRg
set_option linter.unusedSimpArgs false
set_option linter.unusedVariables false
set_option maxRecDepth 100000
namespace Go.Proofs.Ytkfjobanbnokoaa.Gm
open Go.RowKit Go.Proofs.YtkfjobanbnokoaaW.PrintWords Go.Proofs.Ytkfjobanbnokoaa.Bs

/-- What holds behind a region, with four things that its orders may choose anew. -/
def Leaf {α β γ δ : Type} (w0 : World) (F : α → β → γ → δ → Act) (E : α → β → γ → δ → List Ent) : Exit → Act → World → Prop
  | .normal, a, w => ∃ x y z u, a = F x y z u ∧ Mem w0 w (E x y z u)
  | _, _, _ => False
theorem leaf {α β γ δ : Type} {w0 w : World} {F : α → β → γ → δ → Act} {E : α → β → γ → δ → List Ent} {es : List Ent} (HM : HMem w0 w es) (x : α) (y : β) (z : γ) (u : δ) (hp : es.Perm (E x y z u)) {a : Act} (ha : a = F x y z u) : Leaf w0 F E .normal a w := ⟨x, y, z, u, ha, HM.out.perm hp⟩
theorem region_cut {α β γ δ : Type} {id : Nat} {ops : Array Oper} {d : Bool} {a : Act} {w w0 : World} {Q : Exit → Act → World → Prop} {F : α → β → γ → δ → Act} (E : α → β → γ → δ → List Ent) (h : (Code.region id ops d).wp Try.prog (Leaf w0 F E) a w)
    (k : ∀ x y z u w, HMem w0 w (E x y z u) → Q .normal (F x y z u) w) : (Code.region id ops d).wp Try.prog Q a w := by
  refine Code.wp_mono (fun e a w q => ?_) h
  cases e <;> first | exact q.elim | skip
  obtain ⟨x, y, z, u, rfl, hm⟩ := q
  exact k x y z u w (Lib.hid hm)
theorem m_wxh {τ : Type} {ops : Array Oper} {rest : List Oper} {op : Oper} {a : Act} {Q : Exit → Act → World → Prop} {w0 w : World} {es : List Ent} {v : τ → Value} {e : τ → List Ent} (HM : HMem w0 w es) (hw : Region.wanted op (yielded ops a.tmps) = true) (h : Wx w0 es op a v e)
    (k : ∀ w1 b, HMem w0 w1 (e b) → Below w0.heap.size w0 w1 → wpList Try.prog ops Q rest (a.put op.dst (v b)) w1) : wpList Try.prog ops Q (op :: rest) a w := m_wx k HM h hw
/-- One of several that may come up. -/
theorem rmore {md : Region.Mode} {ops : Array Oper} {Q : Exit → Act → World → Prop} {S : World → Prop} {fuel : Nat} {listed : Array Bool} {a : Act} {w : World} {rs : List Nat} (i : Nat) {oi : Oper} (hi : ops.toList[i]? = some oi)
    (k : ∀ K' : Act → World → Prop, Shut (∀ a w, S w → (S w → wpAnyH Try.prog md ops Q S fuel (listed.setIfInBounds i true) a w) → K' a w) → if Region.wanted oi (yielded ops a.tmps) = true then Oper.wp Try.prog oi a w K' Q else K' (a.put oi.dst undef) w)
    (hs : AllReadyH Try.prog md ops Q S fuel listed a w rs) : AllReadyH Try.prog md ops Q S fuel listed a w (i :: rs) :=
  AllReadyH.cons (by rw [← hi]; simp) k hs
end Go.Proofs.Ytkfjobanbnokoaa.Gm
