/- WaveCuts, plainly: the document's At. -/
import Derived.Test.YtcbkgammlfjjoaaDoorUn
import Derived.Test.YtcbkgammlfjjoaaDoorWv6
namespace Go.Proofs.YtcbkgammlfjjoaaDoor
set_option linter.unusedVariables false
set_option linter.unusedSimpArgs false
open Go.RowKit Go.Proofs.YtcbkgammlfjjoaaDoorW.PrintWords Go.Proofs.YtcbkgammlfjjoaaDoorW.PrintLast Go.Proofs.YtcbkgammlfjjoaaDoorW.PrintMore

theorem atR_l0 (x : WV) (t : Int) (hM : May x) (hb : x.li.length ≤ 4611686018427387904) :
    ∀ d k i : Nat, i + d = x.li.length → d < k → silkwormwaves_At.l0 k t (atK x t i) (i : Int) x.nm x.wd x.fi x.li = some (atF x t) := by
  intro d
  induction d with
  | zero =>
    intro k i hi hk
    obtain ⟨k, rfl⟩ : ∃ k', k = k' + 1 := ⟨k - 1, by omega⟩
    rw [silkwormwaves_At.l0, if_neg (by omega)]
    rw [show i = x.li.length from by omega]
    rfl
  | succ d ih =>
    intro k i hi hk
    obtain ⟨k, rfl⟩ : ∃ k', k = k' + 1 := ⟨k - 1, by omega⟩
    have hlt : i < x.li.length := by omega
    have hp := hM.place hlt
    have hs := atK_succ x t hlt
    have hl := atK_length x t i
    have hf := hM.fi
    have e : rd_T59 x.li (i : Int) = cAt x i := by unfold rd_T59 cAt; rw [Int.toNat_natCast]
    have next := ih k (i + 1) (by omega) (by omega)
    rw [silkwormwaves_At.l0, if_pos (by omega), if_pos (by omega), e, wrap_next i x.li.length hlt hb]
    by_cases h : (cAt x i).f0 ≤ t
    · rw [if_pos h] at hs
      rw [if_pos h, if_pos hp.1, if_pos (by omega), ← hs]
      exact next
    · rw [if_neg h] at hs
      rw [if_neg h, ← hs]
      exact next
theorem atR_f (x : WV) (t : Int) (hM : May x) (hb : x.li.length ≤ 4611686018427387904) : ∃ k, silkwormwaves_At.f k x.nm x.wd x.fi x.li t = some (atF x t) := by
  refine ⟨x.li.length + 1, ?_⟩
  unfold silkwormwaves_At.f
  rw [if_pos (by have := hM.fi; have := hM.n; simp only [List.length_nil]; omega)]
  exact atR_l0 x t hM hb x.li.length (x.li.length + 1) 0 (by omega) (by omega)
/-- the document's all values, the answer laid -/
theorem atR_laid (x : WV) (A0 : Option Addr) (c0 : Nat) (A1 : Option Addr) (c1 : Nat) (A2 : Option Addr) (c2 : Nat) (A3 : Option Addr) (c3 : Nat) (t : Int) (w : World) (hI : WIn w x A0 c0 A1 c1 A2 c2 A3 c3) (hm : May x) :
    Calls Tryd.prog 21 #[wvV x A0 c0 A1 c1 A2 c2 A3 c3, .int .i64 t] w fun e w' => ∃ B d, e = .returned (.slice B (atF x t).length d) ∧ Below w.heap.size w w' ∧ Kd.C Kd.string w' B (atF x t).length (atF x t) ∧ AF B ∧ (atF x t).length ≤ d := by
  obtain ⟨k, hk⟩ := atR_f x t hm (by have := hI.b3; omega)
  refine (silkwormwaves_At.calls k A0 c0 x.nm A1 c1 x.wd A2 c2 x.fi A3 c3 x.li t (atF x t) w hI.h0 hI.l0 hI.h1 hI.l1 hI.h2 hI.l2 hI.h3 hI.l3 hk).mono ?_
  rintro e w' ⟨v, rfl, hv, hb⟩
  obtain ⟨B, d, rfl, hl, hC, hA⟩ := R_in hv
  exact ⟨B, d, rfl, hb, hC, hA, hl⟩
/-- the document's Until, the answer laid -/
theorem untilR_laid (x : WV) (A0 : Option Addr) (c0 : Nat) (A1 : Option Addr) (c1 : Nat) (A2 : Option Addr) (c2 : Nat) (A3 : Option Addr) (c3 : Nat) (t : Int) (w : World) (hI : WIn w x A0 c0 A1 c1 A2 c2 A3 c3) (hm : May x) :
    Calls Tryd.prog 23 #[wvV x A0 c0 A1 c1 A2 c2 A3 c3, .int .i64 t] w fun e w' => ∃ B3 d3, e = .returned (wvV (cutX x (untilN x.li t)) A0 c0 A1 c1 A2 c2 B3 d3) ∧ Below w.heap.size w w' ∧ WIn w' (cutX x (untilN x.li t)) A0 c0 A1 c1 A2 c2 B3 d3 := by
  refine (untilR_any x A0 c0 A1 c1 A2 c2 A3 c3 t w hI).mono ?_
  rintro e w' ⟨v, rfl, hb, hv⟩
  rw [fl_all x.li t hm.sorted] at hv
  obtain ⟨B, d, rfl, hl, hC, hA⟩ := R_in hv
  have hJ := hI.below hb
  refine ⟨B, d, rfl, hb, ⟨hJ.h0, hJ.h1, hJ.h2, hC, hJ.l0, hJ.l1, hJ.l2, hl, hJ.a0, hJ.a1, hJ.a2, hA, hJ.z0, hJ.z2, fun c hc => hJ.z3 c (List.mem_of_mem_take hc), ?_⟩⟩
  have h2 : (x.li.take (untilN x.li t)).length ≤ x.li.length := by rw [List.length_take]; omega
  have := hI.b3
  show (x.li.take (untilN x.li t)).length * 32 ≤ 140737488355328
  omega
end Go.Proofs.YtcbkgammlfjjoaaDoor
