/- The walk of the law OnesumCheck: what is checked is good, and with one bit turned it is not. -/
import Derived.Test.YtahnibhcfdamdaaOs2
set_option linter.unusedSimpArgs false
set_option linter.unusedVariables false
set_option maxRecDepth 100000
namespace Go.Proofs.Ytahnibhcfdamdaa.Os
open Go.RowKit Go.Proofs.YtahnibhcfdamdaaW.PrintWords Go.Proofs.Ytahnibhcfdamdaa.Bs

theorem turned_rb (v : Value) (l : List UInt8) (bit : Nat) (w : World) (h : RB w v l) (hs : l.length ≤ 1099511627776) (hb : bit < 8 * l.length) :
    Calls Try.prog 34 #[v, .int .i64 bit] w (Row w (turned l bit)) := by
  obtain ⟨A, c, rfl, hc, hr⟩ := h
  exact turned_any A c l bit w hr hc hs hb

end Go.Proofs.Ytahnibhcfdamdaa.Os
