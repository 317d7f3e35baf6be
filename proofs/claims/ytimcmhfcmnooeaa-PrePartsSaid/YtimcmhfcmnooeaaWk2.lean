/- The walk of PrePlain: it returns true for every text. -/
import Derived.Test.YtimcmhfcmnooeaaWk1
namespace Go.Proofs.Ytimcmhfcmnooeaa
set_option linter.unusedVariables false
set_option linter.unusedSimpArgs false
open Go.RowKit Go.Proofs.YtimcmhfcmnooeaaW.PrintWords Go.Proofs.YtimcmhfcmnooeaaW.PrintLast Go.Proofs.YtimcmhfcmnooeaaW.PrintMore

def tk (x : S35) : Bool := x.f0 == 4 || x.f0 == 5
theorem rd_at (l : List S35) (i : Nat) (h : i < l.length) : rd_T35 l (i : Int) = l[i] := by simp [rd_T35, List.getD_eq_getElem?_getD, h]
theorem ticked_l0 (l : List S35) (hl : l.length ≤ 100000) : ∀ (d k i : Nat), i + d = l.length → d < k → silkwormlaw03_ticked.l0 k l i = some ((l.drop i).any tk) := by
  intro d
  induction d with
  | zero =>
    intro k i hi hk
    obtain ⟨k, rfl⟩ : ∃ m, k = m + 1 := ⟨k - 1, by omega⟩
    rw [silkwormlaw03_ticked.l0, if_neg (by omega), List.drop_eq_nil_of_le (by omega)]
    rfl
  | succ d ih =>
    intro k i hi hk
    obtain ⟨k, rfl⟩ : ∃ m, k = m + 1 := ⟨k - 1, by omega⟩
    have hlt : i < l.length := by omega
    rw [silkwormlaw03_ticked.l0, if_pos (by omega), if_pos (by omega), rd_at l i hlt, List.drop_eq_getElem_cons hlt, List.any_cons]
    by_cases h4 : l[i].f0 = 4
    · rw [if_pos h4]; simp [tk, h4]
    · rw [if_neg h4]
      by_cases h5 : l[i].f0 = 5
      · rw [if_pos h5]; simp [tk, h5]
      · rw [if_neg h5, w64 (by omega) (by omega), show ((i : Int) + 1) = ((i + 1 : Nat) : Int) from by omega, ih k (i + 1) (by omega) (by omega)]
        simp [tk, h4, h5]
theorem ticked_some (l : List S35) (hl : l.length ≤ 100000) : silkwormlaw03_ticked.f (l.length + 1) l = some (l.any tk) := by
  unfold silkwormlaw03_ticked.f
  have := ticked_l0 l hl l.length (l.length + 1) 0 (by omega) (by omega)
  simpa using this
theorem same_l0 (l : List S35) (hl : l.length ≤ 100000) : ∀ (d k i : Nat), i + d = l.length → d < k → silkwormref02_Same.l0 k l l i = some true := by
  intro d
  induction d with
  | zero =>
    intro k i hi hk
    obtain ⟨k, rfl⟩ : ∃ m, k = m + 1 := ⟨k - 1, by omega⟩
    rw [silkwormref02_Same.l0, if_neg (by omega)]
  | succ d ih =>
    intro k i hi hk
    obtain ⟨k, rfl⟩ : ∃ m, k = m + 1 := ⟨k - 1, by omega⟩
    rw [silkwormref02_Same.l0, if_pos (by omega), if_pos (by omega), if_pos (by omega), if_neg (by simp), w64 (by omega) (by omega), show ((i : Int) + 1) = ((i + 1 : Nat) : Int) from by omega]
    exact ih k (i + 1) (by omega) (by omega)
theorem same_some (l : List S35) (hl : l.length ≤ 100000) : silkwormref02_Same.f (l.length + 1) l l = some true := by
  unfold silkwormref02_Same.f
  rw [if_pos rfl]
  exact same_l0 l hl l.length (l.length + 1) 0 (by omega) (by omega)

theorem Drawn0.bel {w w' : World} (h : Drawn0 w w') : Below w.heap.size w w' := h.below

/-- ticked on what is a row of one's own. -/
theorem ticked_own {L : List S35} (hl : L.length ≤ 100000) {w : World} {base : Nat} {ok : Nat → Prop} {A : Option Addr} {c : Nat} (h : Kd.R k35 35 w base ok (.slice A L.length c) L) :
    Calls Try.prog 9 #[.slice A L.length c] w fun e w' => e = .returned (.bool (L.any tk)) ∧ ∃ m, w' = w.drewN m := by
  obtain ⟨A', c', hv, hc, hC⟩ := Kd.R_reads h
  injection hv with e1 e2 e3
  subst e1
  subst e3
  exact (silkwormlaw03_ticked.calls _ A c L _ w hC hc (ticked_some L hl)).mono fun e w' ⟨h1, ⟨h2⟩⟩ => ⟨h1, h2⟩
theorem same_own {L : List S35} (hl : L.length ≤ 100000) {w : World} {base base' : Nat} {ok ok' : Nat → Prop} {A A' : Option Addr} {c c' : Nat} (h : Kd.R k35 35 w base ok (.slice A L.length c) L) (h' : Kd.R k35 35 w base' ok' (.slice A' L.length c') L) :
    Calls Try.prog 10 #[.slice A L.length c, .slice A' L.length c'] w fun e w' => e = .returned (.bool true) ∧ ∃ m, w' = w.drewN m := by
  obtain ⟨A1, c1, hv, hc, hC⟩ := Kd.R_reads h
  injection hv with e1 e2 e3
  subst e1
  subst e3
  obtain ⟨A2, c2, hv', hc', hC'⟩ := Kd.R_reads h'
  injection hv' with e1 e2 e3
  subst e1
  subst e3
  exact (silkwormref02_Same.calls _ A c L A' c' L _ w hC hc hC' hc' (same_some L hl)).mono fun e w' ⟨h1, ⟨h2⟩⟩ => ⟨h1, h2⟩

theorem same_own2 {L L' : List S35} (e : L = L') (hl : L.length ≤ 100000) {w : World} {base base' : Nat} {ok ok' : Nat → Prop} {A A' : Option Addr} {c c' : Nat} (h : Kd.R k35 35 w base ok (.slice A L.length c) L) (h' : Kd.R k35 35 w base' ok' (.slice A' L'.length c') L') :
    Calls Try.prog 10 #[.slice A L.length c, .slice A' L'.length c'] w fun e w' => e = .returned (.bool true) ∧ ∃ m, w' = w.drewN m := by
  subst e
  exact same_own hl h h'

theorem plain_ticks {N : Nat} {l' : List S35} (h : (l' ++ [endT N]).any tk = false) (hin : ∀ x ∈ l', TokIn N x) : ∀ x ∈ l', x.f0 ≠ 4 ∧ x.f0 ≠ 5 ∧ x.f0 ≠ 6 := by
  intro x hx
  have h1 := List.any_eq_false.1 h x (by simp [hx])
  simp [tk] at h1
  have := (hin x hx).2.1
  exact ⟨h1.1, h1.2, by omega⟩

set_option maxRecDepth 100000 in
set_option maxHeartbeats 2000000 in
theorem plain_any (s : ByteArray) (w : World) (hs : s.size ≤ 9223372036854775807) : Calls Try.prog 3 #[.string s] w fun e w' => e = .returned (.bool true) ∧ Below w.heap.size w w' := by
  obtain ⟨k, l, hlex, hl⟩ := lexed_some s
  have hL := fun w => silkwormlaw03_lexed.calls k s l w hlex
  have HL := Lib.hid hL
  clear hL hlex
  rcases hl with rfl | ⟨l', hle, hll, hin⟩
  · go_enter Try.func3, Try.ntmps3
    go_wp2_with fail
    have h := HL.out w
    refine h.mono ?_
    clear h
    rintro e w1 ⟨v, rfl, hr, hb1⟩
    obtain ⟨A, c, rfl⟩ := Kd.R_slice hr
    clear hr
    have HB1 := Lib.hid hb1
    clear hb1
    go_wp2_with fail
    have h := awake_any w1
    with_reducible refine h.mono ?_
    clear h
    rintro e w2 ⟨rfl, hb2⟩
    have HB2 := Lib.hid hb2
    clear hb2
    go_wp2
    go_ret
    exact ⟨rfl, HB1.out.trans (HB2.out.mono HB1.out.size)⟩
  · have hle' : l = l' ++ [endT s.size] := hle
    have hll2 : l.length ≤ 100000 := by rw [hle']; simp; omega
    have hpos : ((l.length : Int) == 0) = false := by rw [beq_eq_false_iff_ne, hle']; simp; omega
    have hG : Good l := by rw [hle']; exact good_of l' hin hll
    have hne : l ≠ [] := by rw [hle']; simp
    have HG := Lib.hid hG
    have HNe := Lib.hid hne
    have HLe := Lib.hid hle'
    have HIn := Lib.hid hin
    clear hG hne hle hle'
    rcases runF_any (N := s.size) l' hin with ⟨a, c, hrun, ha⟩ | ⟨o, hrun, holen, hob⟩
    · rw [← HLe.out] at hrun
      have htk : l.any tk = true := by
        cases h : l.any tk with
        | true => rfl
        | false =>
          rw [HLe.out] at h hrun
          have := runF_plain (N := s.size) l' (plain_ticks h hin) hll
          rw [hrun] at this
          simp at this
      obtain ⟨ha0, ha1⟩ := ha
      have HRun := Lib.hid hrun
      have HTk := Lib.hid htk
      have hd1 : decide (0 ≤ a) = true := decide_eq_true ha0
      have hd2 : decide (a < (s.size : Int)) = true := decide_eq_true ha1
      clear hrun htk hin
      go_enter Try.func3, Try.ntmps3
      go_wp2_with fail
      have h := HL.out w
      refine h.mono ?_
      clear h
      rintro e w1 ⟨v, rfl, hr, hb1⟩
      obtain ⟨A, cc, rfl⟩ := Kd.R_slice hr
      have HR := Lib.hid hr
      have HB1 := Lib.hid hb1
      clear hr hb1
      go_wp2_with fail
      have h := run_own HG.out HNe.out HR.out
      refine h.mono ?_
      clear h
      rintro e w2 ⟨v1, v2, rfl, hr1, hr2, hb2⟩
      rw [HRun.out] at hr1 hr2
      obtain ⟨A1, c1, rfl⟩ := Kd.R_slice hr1
      obtain ⟨b2, c2, rfl, hc2, d0, d1⟩ := R_one hr2
      have hR2 := Kd.R_below HR.out hb2
      have HR2 := Lib.hid hR2
      have HB2 := Lib.hid hb2
      clear hr1 hr2 hb2 hR2
      go_wp2_with fail
      have h := ticked_own hll2 HR2.out
      rw [HTk.out] at h
      with_reducible refine h.mono ?_
      clear h
      rintro e w3 ⟨rfl, m, rfl⟩
      go_wp2_with fail
      have h := awake_any (w2.drewN m)
      with_reducible refine h.mono ?_
      clear h
      rintro e w4 ⟨rfl, hb4⟩
      have HB4 := Lib.hid hb4
      clear hb4
      go_wp2
      go_ret
      exact ⟨rfl, HB1.out.trans ((pw_below_drewN HB2.out m |>.trans (HB4.out.mono HB2.out.size)).mono HB1.out.size)⟩
    · rw [← HLe.out] at hrun
      have hob6 : ∀ x ∈ o, x.f0 ≠ 4 ∧ x.f0 ≠ 5 ∧ x.f0 ≠ 6 := fun x hx => ⟨(hob x hx).2.1, (hob x hx).2.2, by have := (hob x hx).1.2.1; omega⟩
      have hrunA := runF_plain (N := s.size) o hob6 holen
      have hgA := good_of (N := s.size) o (fun x hx => (hob x hx).1) holen
      have htkA : (o ++ [endT s.size]).any tk = false := by
        rw [List.any_eq_false]
        intro x hx
        rcases List.mem_append.1 hx with h | h
        · simp [tk, (hob6 x h).1, (hob6 x h).2.1]
        · rw [List.mem_singleton.1 h]; simp [tk, endT]
      have hsameA : l.any tk = false → o ++ [endT s.size] = l := by
        intro h
        rw [HLe.out] at h hrun
        have := runF_plain (N := s.size) l' (plain_ticks h HIn.out) hll
        rw [hrun] at this
        injection this with h1 _
        rw [h1, HLe.out]
      generalize hae : o ++ [endT s.size] = a at *
      have hal2 : a.length ≤ 100000 := by rw [← hae]; simp; omega
      have hpA : ((a.length : Int) == 0) = false := by rw [beq_eq_false_iff_ne, ← hae]; simp; omega
      have hneA : a ≠ [] := by rw [← hae]; simp
      have HRun := Lib.hid hrun
      have HRunA := Lib.hid hrunA
      have HGa := Lib.hid hgA
      have HTkA := Lib.hid htkA
      have HNea := Lib.hid hneA
      have HSame := Lib.hid hsameA
      clear hrun hrunA hgA htkA hneA hob hob6 hin hae hsameA
      cases hb : l.any tk with
      | true =>
        have HTk := Lib.hid hb
        clear hb
        go_enter Try.func3, Try.ntmps3
        go_wp2_with fail
        have h := HL.out w
        refine h.mono ?_
        clear h
        rintro e w1 ⟨v, rfl, hr, hb1⟩
        obtain ⟨A, cc, rfl⟩ := Kd.R_slice hr
        have HR := Lib.hid hr
        have HB1 := Lib.hid hb1
        clear hr hb1
        go_wp2_with fail
        have h := run_own HG.out HNe.out HR.out
        refine h.mono ?_
        clear h
        rintro e w2 ⟨v1, v2, rfl, hr1, hr2, hb2⟩
        rw [HRun.out] at hr1 hr2
        obtain ⟨A1, c1, rfl⟩ := Kd.R_slice hr1
        obtain ⟨A2, c2, rfl⟩ := Kd.R_slice hr2
        have HRl := Lib.hid (Kd.R_below HR.out hb2)
        have HB2 := Lib.hid hb2
        have HR1 := Lib.hid hr1
        clear hr1 hr2 hb2
        go_wp2_with fail
        have h := ticked_own hll2 HRl.out
        rw [HTk.out] at h
        with_reducible refine h.mono ?_
        clear h
        rintro e w3 ⟨rfl, m, rfl⟩
        have HR2 := Lib.hid (Kd.R_below HR1.out (pw_below_drewN (Below.refl _ _) m))
        go_wp2_with fail
        have h := ticked_own hal2 HR2.out
        rw [HTkA.out] at h
        with_reducible refine h.mono ?_
        clear h
        rintro e w4 ⟨rfl, m2, rfl⟩
        have HBX := Lib.hid (pw_below_drewN (Below.refl w2.heap.size w2) (m + m2))
        go_wp2_with fail
        have h := run_own HGa.out HNea.out (Kd.R_below HR1.out HBX.out)
        refine h.mono ?_
        clear h
        rintro e w5 ⟨v3, v4, rfl, hr3, hr4, hb5⟩
        rw [HRunA.out] at hr3 hr4
        obtain ⟨A3, c3, rfl⟩ := Kd.R_slice hr3
        obtain ⟨A4, c4, rfl⟩ := Kd.R_slice hr4
        have HR3 := Lib.hid hr3
        have HR5 := Lib.hid (Kd.R_below (Kd.R_below HR1.out HBX.out) hb5)
        have HB5 := Lib.hid hb5
        clear hr3 hr4 hb5
        go_wp2_with fail
        have h := same_own hal2 HR5.out HR3.out
        with_reducible refine h.mono ?_
        clear h
        rintro e w6 ⟨rfl, m3, rfl⟩
        go_wp2_with fail
        have h := awake_any (w5.drewN m3)
        with_reducible refine h.mono ?_
        clear h
        rintro e w7 ⟨rfl, hb7⟩
        have HB7 := Lib.hid hb7
        clear hb7
        go_wp2
        go_ret
        exact ⟨rfl, HB1.out.trans ((HB2.out.trans ((HBX.out.trans ((pw_below_drewN HB5.out m3 |>.trans (HB7.out.mono HB5.out.size)).mono HBX.out.size)).mono HB2.out.size)).mono HB1.out.size)⟩
      | false =>
        have hal := HSame.out hb
        have HTk := Lib.hid hb
        have HAl := Lib.hid hal
        clear hb hal
        go_enter Try.func3, Try.ntmps3
        go_wp2_with fail
        have h := HL.out w
        refine h.mono ?_
        clear h
        rintro e w1 ⟨v, rfl, hr, hb1⟩
        obtain ⟨A, cc, rfl⟩ := Kd.R_slice hr
        have HR := Lib.hid hr
        have HB1 := Lib.hid hb1
        clear hr hb1
        go_wp2_with fail
        have h := run_own HG.out HNe.out HR.out
        refine h.mono ?_
        clear h
        rintro e w2 ⟨v1, v2, rfl, hr1, hr2, hb2⟩
        rw [HRun.out] at hr1 hr2
        obtain ⟨A1, c1, rfl⟩ := Kd.R_slice hr1
        obtain ⟨A2, c2, rfl⟩ := Kd.R_slice hr2
        have HRl := Lib.hid (Kd.R_below HR.out hb2)
        have HB2 := Lib.hid hb2
        have HR1 := Lib.hid hr1
        clear hr1 hr2 hb2
        go_wp2_with fail
        have h := ticked_own hll2 HRl.out
        rw [HTk.out] at h
        with_reducible refine h.mono ?_
        clear h
        rintro e w3 ⟨rfl, m, rfl⟩
        go_wp2_with fail
        have hs1 := Kd.R_below HR1.out (pw_below_drewN (Below.refl w2.heap.size w2) m)
        have hs2 := Kd.R_below HRl.out (pw_below_drewN (Below.refl w2.heap.size w2) m)
        have h := same_own2 HAl.out hal2 hs1 hs2
        with_reducible refine h.mono ?_
        clear h hs1 hs2
        rintro e w3 ⟨rfl, m1, rfl⟩
        have HR2 := Lib.hid (Kd.R_below HR1.out (pw_below_drewN (Below.refl w2.heap.size w2) (m + m1)))
        go_wp2_with fail
        have h := ticked_own hal2 HR2.out
        rw [HTkA.out] at h
        with_reducible refine h.mono ?_
        clear h
        rintro e w4 ⟨rfl, m2, rfl⟩
        have HBX := Lib.hid (pw_below_drewN (Below.refl w2.heap.size w2) (m + m1 + m2))
        go_wp2_with fail
        have h := run_own HGa.out HNea.out (Kd.R_below HR1.out HBX.out)
        refine h.mono ?_
        clear h
        rintro e w5 ⟨v3, v4, rfl, hr3, hr4, hb5⟩
        rw [HRunA.out] at hr3 hr4
        obtain ⟨A3, c3, rfl⟩ := Kd.R_slice hr3
        obtain ⟨A4, c4, rfl⟩ := Kd.R_slice hr4
        have HR3 := Lib.hid hr3
        have HR5 := Lib.hid (Kd.R_below (Kd.R_below HR1.out HBX.out) hb5)
        have HB5 := Lib.hid hb5
        clear hr3 hr4 hb5
        go_wp2_with fail
        have h := same_own hal2 HR5.out HR3.out
        with_reducible refine h.mono ?_
        clear h
        rintro e w6 ⟨rfl, m3, rfl⟩
        go_wp2_with fail
        have h := awake_any (w5.drewN m3)
        with_reducible refine h.mono ?_
        clear h
        rintro e w7 ⟨rfl, hb7⟩
        have HB7 := Lib.hid hb7
        clear hb7
        go_wp2
        go_ret
        exact ⟨rfl, HB1.out.trans ((HB2.out.trans ((HBX.out.trans ((pw_below_drewN HB5.out m3 |>.trans (HB7.out.mono HB5.out.size)).mono HBX.out.size)).mono HB2.out.size)).mono HB1.out.size)⟩
end Go.Proofs.Ytimcmhfcmnooeaa
