/- What Loop comes to, where there is a loop, and where there is none. -/
import Derived.Test.YtonnmkhmhndalaaDoorMgE
namespace Go.Proofs.YtonnmkhmhndalaaDoor
set_option linter.unusedVariables false
set_option linter.unusedSimpArgs false
open Go.RowKit Go.Proofs.YtonnmkhmhndalaaDoorW.PrintWords Go.Proofs.YtonnmkhmhndalaaDoorW.PrintLast Go.Proofs.YtonnmkhmhndalaaDoorW.PrintMore

theorem LRes.det {n : Nat} {hs : Nat → List Nat} {out out' : Nat → Nat} {done done' : Nat → Bool} {cnt cnt' : Nat} (h : LRes n hs out done cnt) (h' : LRes n hs out' done' cnt') (hl : ∀ k, k < n → ∀ h ∈ hs k, h < n) : (cnt < n ↔ cnt' < n) := by
  constructor
  · intro h1
    rcases Nat.lt_or_ge cnt' n with h2 | h2
    · exact h2
    · have := h'.le
      obtain rfl : cnt' = n := by omega
      exact (h.nofix hl h1 out' h'.lev.up).elim
  · intro h1
    rcases Nat.lt_or_ge cnt n with h2 | h2
    · exact h2
    · have := h.le
      obtain rfl : cnt = n := by omega
      exact (h'.nofix hl h1 out h.lev.up).elim
theorem LoopP.path {w w' : World} {x : NL} {e : Ending} (h : LoopP w x e w') (hm : mayL x = true) (hn : ∀ out done cnt, LRes x.nd.length (hs x.nd) out done cnt → cnt < x.nd.length) :
    ∃ p A c, e = .returned (.slice A p.length c) ∧ Looped x.nd.length (hs x.nd) p ∧ Kd.C (Kd.int .i64) w' A p.length (ints p) ∧ Below w.heap.size w w' := by
  obtain ⟨hb, hc⟩ := h
  rcases hc with ⟨h1, -⟩ | ⟨-, out, done, cnt, hres, hc⟩
  · rw [hm] at h1; cases h1
  · have := hn out done cnt hres
    rcases hc with ⟨h1, -⟩ | ⟨-, p, A, c, rfl, -, hlo, hC⟩
    · omega
    · exact ⟨p, A, c, rfl, hlo, hC, hb⟩
theorem LoopP.none {w w' : World} {x : NL} {e : Ending} (h : LoopP w x e w') (hn : mayL x = true → ∀ out done cnt, LRes x.nd.length (hs x.nd) out done cnt → cnt = x.nd.length) :
    e = .returned (.slice none 0 0) ∧ Below w.heap.size w w' := by
  obtain ⟨hb, hc⟩ := h
  rcases hc with ⟨-, rfl⟩ | ⟨hm, out, done, cnt, hres, hc⟩
  · exact ⟨rfl, hb⟩
  · have := hn hm out done cnt hres
    rcases hc with ⟨-, rfl⟩ | ⟨h1, -⟩
    · exact ⟨rfl, hb⟩
    · omega
end Go.Proofs.YtonnmkhmhndalaaDoor
