/- SameWaves on alike ones. -/
import Derived.Test.YtcbkgammlfjjoaaDoorSt2
namespace Go.Proofs.YtcbkgammlfjjoaaDoor
set_option linter.unusedVariables false
set_option linter.unusedSimpArgs false
open Go.RowKit Go.Proofs.YtcbkgammlfjjoaaDoorW.PrintWords Go.Proofs.YtcbkgammlfjjoaaDoorW.PrintLast Go.Proofs.YtcbkgammlfjjoaaDoorW.PrintMore

theorem same_any (y : WV) (A0 : Option Addr) (c0 : Nat) (A1 : Option Addr) (c1 : Nat) (A2 : Option Addr) (c2 : Nat) (A3 : Option Addr) (c3 : Nat) (B0 : Option Addr) (d0 : Nat) (B1 : Option Addr) (d1 : Nat) (B2 : Option Addr) (d2 : Nat) (B3 : Option Addr) (d3 : Nat) (w : World) (hI : WIn w y A0 c0 A1 c1 A2 c2 A3 c3) (hJ : WIn w y B0 d0 B1 d1 B2 d2 B3 d3) (hM : May y) :
    Calls Tryd.prog 22 #[wvV y A0 c0 A1 c1 A2 c2 A3 c3, wvV y B0 d0 B1 d1 B2 d2 B3 d3, .bool true] w fun e w' => e = .returned (.bool true) ∧ Below w.heap.size w w' := by
  obtain ⟨k, hk⟩ := same_refl y.nm y.wd y.fi y.li (by have := hM.n; omega) (by have := hM.n; have := hM.wd; omega) (by have := hM.n; have := hM.fi; omega) (by have := hI.b3; omega) true
  exact silkwormref09_SameWaves.calls k A0 c0 y.nm A1 c1 y.wd A2 c2 y.fi A3 c3 y.li B0 d0 y.nm B1 d1 y.wd B2 d2 y.fi B3 d3 y.li true true w hI.h0 hI.l0 hI.h1 hI.l1 hI.h2 hI.l2 hI.h3 hI.l3 hJ.h0 hJ.l0 hJ.h1 hJ.l1 hJ.h2 hJ.l2 hJ.h3 hJ.l3 hk
end Go.Proofs.YtcbkgammlfjjoaaDoor
