/- The walk of PreParts. -/
import Derived.Test.YtimcmhfcmnooeaaPp1
import Derived.Test.YtimcmhfcmnooeaaWk2
namespace Go.Proofs.Ytimcmhfcmnooeaa
set_option linter.unusedVariables false
set_option linter.unusedSimpArgs false
open Go.RowKit Go.Proofs.YtimcmhfcmnooeaaW.PrintWords Go.Proofs.YtimcmhfcmnooeaaW.PrintLast Go.Proofs.YtimcmhfcmnooeaaW.PrintMore
/-- a text's tokens: none, or so many and the end -/
theorem lexed_toks (s : ByteArray) : ∃ k l, silkwormlaw03_lexed.f k s = some l ∧ (l = [] ∨ s.size ≤ 65536 ∧ ∃ l', l = l' ++ [endT s.size] ∧ l'.length ≤ 16384 ∧ ∀ x ∈ l', TokIn s.size x) := by
  obtain ⟨k, l, hl, hor⟩ := lexed_some s
  refine ⟨k, l, hl, ?_⟩
  rcases hor with h | h
  · exact .inl h
  · by_cases hs : s.size ≤ 65536
    · exact .inr ⟨hs, h⟩
    · left
      unfold silkwormlaw03_lexed.f silkwormref02_Lex.f at hl
      rw [if_pos (by omega)] at hl
      injection hl with hl
      exact hl.symm
/-- the kept tokens are those, but for their places -/
theorem kept_same (th : Bool) (a : ByteArray) (X Y : List S35) (n : Int) : ∀ i (o z : S35), i + 1 < (if th then X else Y).length + 1 → (kept th a X Y ++ [⟨6, ⟨#[]⟩, n⟩])[i]? = some o → (if th then X else Y)[i]? = some z → o.f0 = z.f0 ∧ o.f1 = z.f1 := by
  have key : ∀ (Z : List S35) (q : Nat) i (o z : S35), i + 1 < Z.length + 1 → (Z.map (mv q) ++ [⟨6, ⟨#[]⟩, n⟩])[i]? = some o → Z[i]? = some z → o.f0 = z.f0 ∧ o.f1 = z.f1 := by
    intro Z q i o z hi h1 h2
    rw [List.getElem?_append_left (by simp; omega), List.getElem?_map, h2] at h1
    injection h1 with h1
    subst h1
    exact ⟨rfl, rfl⟩
  cases th with
  | true => exact key X _
  | false => exact key Y _
theorem SrcAt.drew {w : World} {b : Nat} {L : List S35} (h : SrcAt w b L) (m : Nat) : SrcAt (w.drewN m) b L := by
  intro i x hx
  have := h i x hx
  simpa [go_sem] using this
set_option maxRecDepth 100000 in
set_option maxHeartbeats 2000000 in
theorem parts_any (a b : ByteArray) (th : Bool) (w : World) (hsa : a.size ≤ 9223372036854775807) (hsb : b.size ≤ 9223372036854775807) : Calls Try.prog 4 #[.string a, .string b, .bool th] w fun e w' => e = .returned (.bool true) ∧ Below w.heap.size w w' := by
  obtain ⟨ka, x, hla, hxo⟩ := lexed_toks a
  obtain ⟨kb, y, hlb, hyo⟩ := lexed_toks b
  have HLA := Lib.hid fun w => silkwormlaw03_lexed.calls ka a x w hla
  have HLB := Lib.hid fun w => silkwormlaw03_lexed.calls kb b y w hlb
  have HTA := Lib.hid (show Toks a x from ⟨ka, hla⟩)
  have HTB := Lib.hid (show Toks b y from ⟨kb, hlb⟩)
  clear hla hlb
  go_enter Try.func4, Try.ntmps4
  go_wp2_with fail
  have h := HLA.out w
  refine h.mono ?_
  clear h
  rintro e w1 ⟨v, rfl, hr, hb1⟩
  obtain ⟨A1, c1, rfl⟩ := Kd.R_slice hr
  have HR1 := Lib.hid hr
  have HB1 := Lib.hid hb1
  clear hr hb1
  go_wp2_with fail
  have h := HLB.out w1
  refine h.mono ?_
  clear h
  rintro e w2 ⟨v, rfl, hr, hb2⟩
  obtain ⟨A2, c2, rfl⟩ := Kd.R_slice hr
  have HR2 := Lib.hid hr
  have HR1 := Lib.hid (Kd.R_below HR1.out hb2)
  have HB2 := Lib.hid (HB1.out.trans (hb2.mono HB1.out.size))
  clear hr hb2 HB1
  rcases hxo with rfl | ⟨hsa2, X, hxe, hxl, hxin⟩
  · go_wp2_with fail
    have h := awake_any (w2)
    with_reducible refine h.mono ?_
    clear h
    rintro e w9 ⟨rfl, hb9⟩
    have HB9 := Lib.hid hb9
    clear hb9
    go_wp2
    go_ret
    exact ⟨rfl, HB2.out.trans (HB9.out.mono HB2.out.size)⟩
  have hpx : ((x.length : Int) == 0) = false := by rw [beq_eq_false_iff_ne, hxe]; simp; omega
  rcases hyo with rfl | ⟨hsb2, Y, hye, hyl, hyin⟩
  · go_wp2_with fail
    have h := awake_any (w2)
    with_reducible refine h.mono ?_
    clear h
    rintro e w9 ⟨rfl, hb9⟩
    have HB9 := Lib.hid hb9
    clear hb9
    go_wp2
    go_ret
    exact ⟨rfl, HB2.out.trans (HB9.out.mono HB2.out.size)⟩
  have hpy : ((y.length : Int) == 0) = false := by rw [beq_eq_false_iff_ne, hye]; simp; omega
  have hlx : x.length ≤ 100000 := by rw [hxe]; simp; omega
  have hly : y.length ≤ 100000 := by rw [hye]; simp; omega
  have HXE := Lib.hid hxe
  have HYE := Lib.hid hye
  have HXI := Lib.hid hxin
  have HYI := Lib.hid hyin
  clear hxe hye hxin hyin
  cases htx : x.any tk with
  | true =>
    go_wp2_with fail
    have h := ticked_own hlx HR1.out
    rw [htx] at h
    with_reducible refine h.mono ?_
    clear h
    rintro e w3 ⟨rfl, m, rfl⟩
    go_wp2_with fail
    have h := awake_any (w2.drewN m)
    with_reducible refine h.mono ?_
    clear h
    rintro e w9 ⟨rfl, hb9⟩
    have HB9 := Lib.hid hb9
    clear hb9
    go_wp2
    go_ret
    exact ⟨rfl, (pw_below_drewN HB2.out m).trans (HB9.out.mono HB2.out.size)⟩
  | false =>
  go_wp2_with fail
  have h := ticked_own hlx HR1.out
  rw [htx] at h
  with_reducible refine h.mono ?_
  clear h
  rintro e w3 ⟨rfl, m, rfl⟩
  have HR2 := Lib.hid (Kd.R_below HR2.out (pw_below_drewN (Below.refl w2.heap.size w2) m))
  have HR1 := Lib.hid (Kd.R_below HR1.out (pw_below_drewN (Below.refl w2.heap.size w2) m))
  cases hty : y.any tk with
  | true =>
    go_wp2_with fail
    have h := ticked_own hly HR2.out
    rw [hty] at h
    with_reducible refine h.mono ?_
    clear h
    rintro e w3 ⟨rfl, m2, rfl⟩
    have HB3 := Lib.hid (pw_below_drewN (pw_below_drewN HB2.out m) m2)
    generalize (w2.drewN m).drewN m2 = w3 at HB3 ⊢
    go_wp2_with fail
    have h := awake_any (w3)
    with_reducible refine h.mono ?_
    clear h
    rintro e w9 ⟨rfl, hb9⟩
    have HB9 := Lib.hid hb9
    clear hb9
    go_wp2
    go_ret
    exact ⟨rfl, HB3.out.trans (HB9.out.mono HB3.out.size)⟩
  | false =>
  go_wp2_with fail
  have h := ticked_own hly HR2.out
  rw [hty] at h
  with_reducible refine h.mono ?_
  clear h
  rintro e w3 ⟨rfl, m2, rfl⟩
  have HR2 := Lib.hid (Kd.R_below HR2.out (pw_below_drewN (Below.refl w2.heap.size (w2.drewN m)) m2))
  have HR1 := Lib.hid (Kd.R_below HR1.out (pw_below_drewN (Below.refl w2.heap.size (w2.drewN m)) m2))
  have HB3 := Lib.hid (pw_below_drewN (pw_below_drewN HB2.out m) m2)
  generalize (w2.drewN m).drewN m2 = w3 at HR1 HR2 HB3 ⊢
  by_cases hsum : (x.length : Int) + y.length > 8192
  · go_wp2_with fail
    have h := awake_any (w3)
    with_reducible refine h.mono ?_
    clear h
    rintro e w9 ⟨rfl, hb9⟩
    have HB9 := Lib.hid hb9
    clear hb9
    go_wp2
    go_ret
    exact ⟨rfl, HB3.out.trans (HB9.out.mono HB3.out.size)⟩
  have hqx : Quiet X := by
    rw [HXE.out] at htx
    exact plain_ticks htx HXI.out
  have hqy : Quiet Y := by
    rw [HYE.out] at hty
    exact plain_ticks hty HYI.out
  have HQX := Lib.hid hqx
  have HQY := Lib.hid hqy
  clear hqx hqy htx hty
  obtain ⟨kl, l, hll, hlo⟩ := lexed_toks (cT th a b)
  have HLL := Lib.hid fun w => silkwormlaw03_lexed.calls kl (cT th a b) l w hll
  have HTL := Lib.hid (show Toks (cT th a b) l from ⟨kl, hll⟩)
  clear hll
  cases th with
  | true =>
    go_wp2_with fail
    have h := HLL.out w3
    refine h.mono ?_
    clear h
    rintro e w4 ⟨v, rfl, hr, hb4⟩
    obtain ⟨A3, c3, rfl⟩ := Kd.R_slice hr
    have HR3 := Lib.hid hr
    have HRW := Lib.hid (Kd.R_below HR1.out hb4)
    have HB4 := Lib.hid (HB3.out.trans (hb4.mono HB3.out.size))
    clear hr hb4
    rcases hlo with rfl | ⟨hsl2, l', hle, hll, hlin⟩
    · go_wp2_with fail
      have h := awake_any (w4)
      with_reducible refine h.mono ?_
      clear h
      rintro e w9 ⟨rfl, hb9⟩
      have HB9 := Lib.hid hb9
      clear hb9
      go_wp2
      go_ret
      exact ⟨rfl, HB4.out.trans (HB9.out.mono HB4.out.size)⟩
    have hne : l ≠ [] := by rw [hle]; simp
    have hpl : ((l.length : Int) == 0) = false := by rw [beq_eq_false_iff_ne, hle]; simp; omega
    have hG : Good l := by rw [hle]; exact good_of l' hlin hll
    have hTA := HTA.out
    have hTB := HTB.out
    rw [HXE.out] at hTA
    rw [HYE.out] at hTB
    have hct := parts_toks true a b X Y l hTA hTB HQX.out HQY.out hsl2 HTL.out hne
    have hrun : runF l = (kept true a X Y ++ [(⟨6, ⟨#[]⟩, (cT true a b).size⟩ : S35)], []) := by
      rw [hct]
      exact parts_run true a b X Y HQX.out HQY.out hxl hyl
    have HG := Lib.hid hG
    have HNe := Lib.hid hne
    have HRun := Lib.hid hrun
    clear hTA hTB hct hG hrun hle hlin hne
    go_wp2_with fail
    have h := run_own HG.out HNe.out HR3.out
    refine h.mono ?_
    clear h
    rintro e w5 ⟨v1, v2, rfl, hr1, hr2, hb5⟩
    rw [HRun.out] at hr1 hr2
    obtain ⟨A5, c5, rfl⟩ := Kd.R_slice hr2
    have hO := kept_same true a X Y (cT true a b).size
    have hOl : (kept true a X Y ++ [(⟨6, ⟨#[]⟩, (cT true a b).size⟩ : S35)]).length = x.length := by rw [HXE.out]; simp [kept]
    generalize kept true a X Y ++ [(⟨6, ⟨#[]⟩, (cT true a b).size⟩ : S35)] = O at hr1 hO hOl
    replace hr1 : Kd.R k35 35 w5 w4.heap.size (fun _ => True) v1 O := hr1
    obtain ⟨bo, co, rfl, hco, hcm, hbo, hso⟩ := R_src hr1 (by intro h; replace h : O = [] := h; rw [h] at hOl; rw [HXE.out] at hOl; simp at hOl)
    obtain ⟨bw, cw, hew, hcw, hwm, hbw, hsw⟩ := R_src (Kd.R_below HRW.out hb5) (by rw [HXE.out]; simp)
    injection hew with hew1 hew2 hew3
    subst hew1
    rw [hOl]
    rw [hOl] at hco
    have HB5 := Lib.hid (HB4.out.trans (hb5.mono HB4.out.size))
    have HSO := Lib.hid hso
    have HSW := Lib.hid hsw
    have HOK := Lib.hid hO
    have HOL := Lib.hid hOl
    clear hr1 hr2 hb5 hso hsw hO hOl
    go_wp2_with fail
    go_loopw [15] (fun v15 wr => ∃ i : Nat, v15 = .int .i64 i ∧ i + 1 ≤ x.length ∧ ∃ m, wr = w5.drewN m) (fun v15 _ => x.length - (intOf v15).toNat)
    case atStart => exact ⟨0, rfl, by rw [HXE.out]; simp, 0, rfl⟩
    case round =>
      obtain ⟨i, rfl, hi, m3, rfl⟩ := hrel
      by_cases hlt : i + 1 < x.length
      · obtain ⟨z, hz⟩ : ∃ z, x[i]? = some z := ⟨_, List.getElem?_eq_getElem (by omega)⟩
        obtain ⟨oz, ho⟩ : ∃ oz, O[i]? = some oz := ⟨_, List.getElem?_eq_getElem (by rw [HOL.out]; omega)⟩
        obtain ⟨s0, s1, s2⟩ := HSO.out i _ ho
        obtain ⟨z0, z1, z2⟩ := HSW.out i _ hz
        have h2 := congrArg List.length HXE.out
        simp only [List.length_append, List.length_cons, List.length_nil] at h2
        have hzX : X[i]? = some z := by
          have h1 := hz
          rw [HXE.out, List.getElem?_append_left (by omega)] at h1
          exact h1
        obtain ⟨q0, q1⟩ := HOK.out i oz z (by show i + 1 < X.length + 1; omega) ho hzX
        rw [q0] at s0
        rw [q1] at s1
        clear q0 q1 hzX hz ho h2 s2 z2
        have hi2 : i < x.length := by omega
        go_wp2_with fail
        go_region
        all_goals
          go_wp2
          exact ⟨⟨i + 1, rfl, by omega, by first | exact ⟨_, rfl⟩ | exact ⟨m3 + 1, by simp [go_sem]⟩⟩, by simp [intOf]; omega⟩
      · go_wp2_with fail
        have h := awake_any (w5.drewN m3)
        with_reducible refine h.mono ?_
        clear h
        rintro e w9 ⟨rfl, hb9⟩
        have HB9 := Lib.hid hb9
        clear hb9
        go_wp2
        go_ret
        exact ⟨rfl, (pw_below_drewN HB5.out m3).trans (HB9.out.mono HB5.out.size)⟩
  | false =>
    go_wp2_with fail
    have h := HLL.out w3
    refine h.mono ?_
    clear h
    rintro e w4 ⟨v, rfl, hr, hb4⟩
    obtain ⟨A3, c3, rfl⟩ := Kd.R_slice hr
    have HR3 := Lib.hid hr
    have HRW := Lib.hid (Kd.R_below HR2.out hb4)
    have HB4 := Lib.hid (HB3.out.trans (hb4.mono HB3.out.size))
    clear hr hb4
    rcases hlo with rfl | ⟨hsl2, l', hle, hll, hlin⟩
    · go_wp2_with fail
      have h := awake_any (w4)
      with_reducible refine h.mono ?_
      clear h
      rintro e w9 ⟨rfl, hb9⟩
      have HB9 := Lib.hid hb9
      clear hb9
      go_wp2
      go_ret
      exact ⟨rfl, HB4.out.trans (HB9.out.mono HB4.out.size)⟩
    have hne : l ≠ [] := by rw [hle]; simp
    have hpl : ((l.length : Int) == 0) = false := by rw [beq_eq_false_iff_ne, hle]; simp; omega
    have hG : Good l := by rw [hle]; exact good_of l' hlin hll
    have hTA := HTA.out
    have hTB := HTB.out
    rw [HXE.out] at hTA
    rw [HYE.out] at hTB
    have hct := parts_toks false a b X Y l hTA hTB HQX.out HQY.out hsl2 HTL.out hne
    have hrun : runF l = (kept false a X Y ++ [(⟨6, ⟨#[]⟩, (cT false a b).size⟩ : S35)], []) := by
      rw [hct]
      exact parts_run false a b X Y HQX.out HQY.out hxl hyl
    have HG := Lib.hid hG
    have HNe := Lib.hid hne
    have HRun := Lib.hid hrun
    clear hTA hTB hct hG hrun hle hlin hne
    go_wp2_with fail
    have h := run_own HG.out HNe.out HR3.out
    refine h.mono ?_
    clear h
    rintro e w5 ⟨v1, v2, rfl, hr1, hr2, hb5⟩
    rw [HRun.out] at hr1 hr2
    obtain ⟨A5, c5, rfl⟩ := Kd.R_slice hr2
    have hO := kept_same false a X Y (cT false a b).size
    have hOl : (kept false a X Y ++ [(⟨6, ⟨#[]⟩, (cT false a b).size⟩ : S35)]).length = y.length := by rw [HYE.out]; simp [kept]
    generalize kept false a X Y ++ [(⟨6, ⟨#[]⟩, (cT false a b).size⟩ : S35)] = O at hr1 hO hOl
    replace hr1 : Kd.R k35 35 w5 w4.heap.size (fun _ => True) v1 O := hr1
    obtain ⟨bo, co, rfl, hco, hcm, hbo, hso⟩ := R_src hr1 (by intro h; replace h : O = [] := h; rw [h] at hOl; rw [HYE.out] at hOl; simp at hOl)
    obtain ⟨bw, cw, hew, hcw, hwm, hbw, hsw⟩ := R_src (Kd.R_below HRW.out hb5) (by rw [HYE.out]; simp)
    injection hew with hew1 hew2 hew3
    subst hew1
    rw [hOl]
    rw [hOl] at hco
    have HB5 := Lib.hid (HB4.out.trans (hb5.mono HB4.out.size))
    have HSO := Lib.hid hso
    have HSW := Lib.hid hsw
    have HOK := Lib.hid hO
    have HOL := Lib.hid hOl
    clear hr1 hr2 hb5 hso hsw hO hOl
    go_wp2_with fail
    go_loopw [15] (fun v15 wr => ∃ i : Nat, v15 = .int .i64 i ∧ i + 1 ≤ y.length ∧ ∃ m, wr = w5.drewN m) (fun v15 _ => y.length - (intOf v15).toNat)
    case atStart => exact ⟨0, rfl, by rw [HYE.out]; simp, 0, rfl⟩
    case round =>
      obtain ⟨i, rfl, hi, m3, rfl⟩ := hrel
      by_cases hlt : i + 1 < y.length
      · obtain ⟨z, hz⟩ : ∃ z, y[i]? = some z := ⟨_, List.getElem?_eq_getElem (by omega)⟩
        obtain ⟨oz, ho⟩ : ∃ oz, O[i]? = some oz := ⟨_, List.getElem?_eq_getElem (by rw [HOL.out]; omega)⟩
        obtain ⟨s0, s1, s2⟩ := HSO.out i _ ho
        obtain ⟨z0, z1, z2⟩ := HSW.out i _ hz
        have h2 := congrArg List.length HYE.out
        simp only [List.length_append, List.length_cons, List.length_nil] at h2
        have hzX : Y[i]? = some z := by
          have h1 := hz
          rw [HYE.out, List.getElem?_append_left (by omega)] at h1
          exact h1
        obtain ⟨q0, q1⟩ := HOK.out i oz z (by show i + 1 < Y.length + 1; omega) ho hzX
        rw [q0] at s0
        rw [q1] at s1
        clear q0 q1 hzX hz ho h2 s2 z2
        have hi2 : i < y.length := by omega
        go_wp2_with fail
        go_region
        all_goals
          go_wp2
          exact ⟨⟨i + 1, rfl, by omega, by first | exact ⟨_, rfl⟩ | exact ⟨m3 + 1, by simp [go_sem]⟩⟩, by simp [intOf]; omega⟩
      · go_wp2_with fail
        have h := awake_any (w5.drewN m3)
        with_reducible refine h.mono ?_
        clear h
        rintro e w9 ⟨rfl, hb9⟩
        have HB9 := Lib.hid hb9
        clear hb9
        go_wp2
        go_ret
        exact ⟨rfl, (pw_below_drewN HB5.out m3).trans (HB9.out.mono HB5.out.size)⟩
end Go.Proofs.Ytimcmhfcmnooeaa
