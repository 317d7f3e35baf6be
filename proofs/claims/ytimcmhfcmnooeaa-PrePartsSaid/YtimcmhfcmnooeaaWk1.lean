/- The walks of awake and PrePlain. -/
import Derived.Test.YtimcmhfcmnooeaaPl5
import Derived.Test.YtimcmhfcmnooeaaLx9
namespace Go.Proofs.Ytimcmhfcmnooeaa
set_option linter.unusedVariables false
set_option linter.unusedSimpArgs false
open Go.RowKit Go.Proofs.YtimcmhfcmnooeaaW.PrintWords Go.Proofs.YtimcmhfcmnooeaaW.PrintLast Go.Proofs.YtimcmhfcmnooeaaW.PrintMore

theorem R_src {w : World} {base : Nat} {ok : Nat → Prop} {v : Value} {L : List S35} (h : Kd.R k35 35 w base ok v L) (hne : L ≠ []) :
    ∃ b c, v = .slice (some ⟨b, 0, none⟩) L.length c ∧ L.length ≤ c ∧ c ≤ maxLen ∧ b < w.heap.size ∧ SrcAt w b L := by
  obtain ⟨A, c, hv, hc, hC⟩ := Kd.R_reads h
  obtain ⟨h0, inner, ho, hr⟩ := h
  have hpos : 0 < L.length := List.length_pos_iff.2 hne
  obtain ⟨h1, h2⟩ := ho
  rcases h2 with ⟨_, h2⟩ | ⟨g, cap, cur, he, hg, hh, r1, r2, r3, r4⟩
  · omega
  · rw [he] at hv
    injection hv with e1 e2 e3
    subst e1
    subst e3
    refine ⟨g, cap, he, r1, r2, (Array.getElem?_eq_some_iff.1 hh).1, fun i x hx => ?_⟩
    have hi : i < L.length := (List.getElem?_eq_some_iff.1 hx).1
    obtain ⟨ad, e, c0, c1, c2⟩ := at_T35 hC i (by omega) (by omega)
    injection e with e
    subst e
    have hrd : rd_T35 L (i : Int) = x := by simp [rd_T35, List.getD_eq_getElem?_getD, hx]
    rw [hrd, Int.toNat_natCast, add_plain] at c0 c1 c2
    exact ⟨c0, c1, c2⟩
theorem R_one {w : World} {base : Nat} {ok : Nat → Prop} {v : Value} {x : S31} (h : Kd.R k31 31 w base ok v [x]) :
    ∃ b c, v = .slice (some ⟨b, 0, none⟩) 1 c ∧ 1 ≤ c ∧ w.cell? ⟨b, 0, none⟩ = some (.int .i64 x.f0) ∧ w.cell? ⟨b, 1, none⟩ = some (.int .i64 x.f1) := by
  obtain ⟨A, c, hv, hc, hC⟩ := Kd.R_reads h
  obtain ⟨h0, inner, ho, hr⟩ := h
  obtain ⟨h1, h2⟩ := ho
  rcases h2 with ⟨_, h2⟩ | ⟨g, cap, cur, he, hg, hh, r1, r2, r3, r4⟩
  · simp at h2
  · rw [he] at hv
    injection hv with e1 e2 e3
    subst e1
    subst e3
    obtain ⟨ad, e, c0, c1⟩ := at_T31 hC 0 (by omega) (by simp)
    injection e with e
    subst e
    simp only [Int.toNat_zero, Nat.zero_mul, add_plain] at c0 c1
    exact ⟨g, cap, he, r1, c0, c1⟩

theorem good_aw1 : Good aw1L := ⟨by decide, by
  intro i x hx h6
  rcases Nat.lt_or_ge i 8 with h | h
  · exact Nat.lt_of_lt_of_le (Nat.succ_lt_succ h) (by decide)
  · have : i = 8 := by
      have := (List.getElem?_eq_some_iff.1 hx).1
      have : i < 9 := this
      omega
    subst this
    injection hx with hx
    subst hx
    exact absurd rfl h6, by
  intro i x hx
  have := List.mem_of_getElem? hx
  simp only [aw1L, List.mem_cons, List.not_mem_nil, or_false] at this
  rcases this with rfl | rfl | rfl | rfl | rfl | rfl | rfl | rfl | rfl <;> decide⟩
theorem good_aw2 : Good aw2L := ⟨by decide, by
  intro i x hx h6
  rcases Nat.lt_or_ge i 5 with h | h
  · exact Nat.lt_of_lt_of_le (Nat.succ_lt_succ h) (by decide)
  · have : i = 5 := by
      have := (List.getElem?_eq_some_iff.1 hx).1
      have : i < 6 := this
      omega
    subst this
    injection hx with hx
    subst hx
    exact absurd rfl h6, by
  intro i x hx
  have := List.mem_of_getElem? hx
  simp only [aw2L, List.mem_cons, List.not_mem_nil, or_false] at this
  rcases this with rfl | rfl | rfl | rfl | rfl | rfl <;> decide⟩

/-- Run on what is a row of one's own. -/
theorem run_own {L : List S35} (hG : Good L) (hne : L ≠ []) {w : World} {base : Nat} {ok : Nat → Prop} {v : Value} (h : Kd.R k35 35 w base ok v L) :
    Calls Try.prog 8 #[v] w fun e w' => RunPost w w' (runF L) e := by
  obtain ⟨b, c, rfl, hc, hm, hb, hs⟩ := R_src h hne
  exact run_any L b c w hG (List.length_pos_iff.2 hne) hs hb hc hm

set_option maxRecDepth 100000 in
set_option maxHeartbeats 1000000 in
theorem awake_any (w : World) : Calls Try.prog 7 #[] w fun e w' => e = .returned (.bool true) ∧ Below w.heap.size w w' := by
  have hl1 := fun w => silkwormlaw03_lexed.calls 2000 aw1 aw1L w aw1_lex
  have hl2 := fun w => silkwormlaw03_lexed.calls 2000 aw2 aw2L w aw2_lex
  have HL1 := Lib.hid hl1
  have HL2 := Lib.hid hl2
  clear hl1 hl2
  go_enter Try.func7, Try.ntmps7
  go_wp2_with fail
  have h := HL1.out w
  unfold aw1 at h
  refine h.mono ?_
  clear h
  rintro e w1 ⟨v, rfl, hr, hb1⟩
  have HR := Lib.hid hr
  have HB1 := Lib.hid hb1
  clear hr hb1
  go_wp2_with fail
  have h := run_own good_aw1 (by simp [aw1L]) HR.out
  refine h.mono ?_
  clear h
  rintro e w2 ⟨v1, v2, rfl, hr1, hr2, hb2⟩
  rw [aw1_run] at hr1 hr2
  have HR1 := Lib.hid hr1
  have HR2 := Lib.hid hr2
  have HB2 := Lib.hid hb2
  clear hr1 hr2 hb2
  go_wp2_with fail
  have h := HL2.out w2
  unfold aw2 at h
  refine h.mono ?_
  clear h
  rintro e w3 ⟨v3, rfl, hr3, hb3⟩
  have HR3 := Lib.hid hr3
  have HB3 := Lib.hid hb3
  clear hr3 hb3
  go_wp2_with fail
  have h := run_own good_aw2 (by simp [aw2L]) HR3.out
  refine h.mono ?_
  clear h
  rintro e w4 ⟨v4, v5, rfl, hr4, hr5, hb4⟩
  rw [aw2_run] at hr4 hr5
  obtain ⟨b5, c5, rfl, _, d0, d1⟩ := R_one hr5
  have hb34 : Below w2.heap.size w2 w4 := HB3.out.trans (hb4.mono HB3.out.size)
  obtain ⟨b1, c1, rfl, _, _, hbl, hs⟩ := R_src (Kd.R_below HR1.out hb34) (by simp)
  obtain ⟨s0, s1, s2⟩ := hs 1 _ rfl
  obtain ⟨A2, c2, rfl⟩ := Kd.R_slice HR2.out
  have hfin : Below w.heap.size w w4 := HB1.out.trans ((HB2.out.trans (hb34.mono HB2.out.size)).mono HB1.out.size)
  have Hfin := Lib.hid hfin
  clear hr4 hr5 hb4 hb34 hs hfin
  simp only [Nat.one_mul] at s0 s1 s2
  go_wp2
  go_ret
  exact ⟨rfl, Hfin.out⟩
end Go.Proofs.Ytimcmhfcmnooeaa
