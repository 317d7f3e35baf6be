/- PartRuns: the statement's own function, walked. -/
import Derived.Test.YtonnmkhmhndalaaDoorZj
import Derived.Test.YtonnmkhmhndalaaDoorZq
section
namespace Go.Proofs.YtonnmkhmhndalaaDoor
set_option linter.unusedVariables false
set_option linter.unusedSimpArgs false
open Go.RowKit Go.Proofs.YtonnmkhmhndalaaDoorW.PrintWords Go.Proofs.YtonnmkhmhndalaaDoorW.PrintLast Go.Proofs.YtonnmkhmhndalaaDoorW.PrintMore
set_option maxRecDepth 100000 in
set_option maxHeartbeats 8000000 in
theorem partRuns_any (gs : List S71) (Ag : Option Addr) (cg : Nat) (k : Int) (w : World) (hg : Kd.C k71 w Ag gs.length gs) (hcg : gs.length ≤ cg) (hwf : (Lit.int .i64 k).wf = true) :
    Calls Tryd.prog 7 #[.slice Ag gs.length cg, .int .i64 k] w fun e w' => e = .returned (.bool true) ∧ Below w.heap.size w w' := by
  have hmd := made_any gs Ag cg w hg hcg
  have HMd := Lib.hid hmd
  have haw := awake13_any
  have HAw := Lib.hid haw
  clear hmd hg hcg haw
  go_enter Tryd.func7, Tryd.ntmps7
  go_upto_region 1 with fail
  go_upto_region 2 with (first
    | fail
    | (go_at_call 18; refine HMd.out.mono ?_; rintro e w1 ⟨x, A, c, B, d, rfl, hI, hG, hm, hn, hb⟩; have HI := Lib.hid hI; have HG := Lib.hid hG; have HM := Lib.hid hm; have HN := Lib.hid hn; have HB := Lib.hid hb; clear hI hG hm hn hb))
  obtain ⟨n, hn⟩ : ∃ n, x.nd.length = n := ⟨_, rfl⟩
  have HNn := Lib.hid hn
  rw [hn]
  obtain ⟨W2, hW2⟩ : ∃ W, w1.alloc (Obj.cells #[.slice A n c, .slice B x.nt.length d, .int .i64 x.pt] 25) = W := ⟨_, rfl⟩
  rw [hW2]
  obtain ⟨L, hL⟩ : ∃ P, w1.heap.size = P := ⟨_, rfl⟩
  obtain ⟨hx2, hb2, hz2⟩ := box_list hW2
  rw [hL] at hx2 ⊢
  have HB2 := Lib.hid (HB.out.trans (hb2.mono HB.out.size))
  have HI2 := Lib.hid (HI.out.below hb2)
  have HX2 := Lib.hid hx2
  have hrun : Calls Tryd.prog 21 #[.agg #[.slice A n c, .slice B x.nt.length d, .int .i64 x.pt], .int .i64 k] W2 (PRunP W2 x k) := by
    have h := prun_any x A c B d k W2 HI2.out
    dsimp only [nlV] at h
    rw [hn] at h
    exact h
  have HRun := Lib.hid hrun
  obtain ⟨x0, x1, x2⟩ := HX2.out
  clear hW2 hL hx2 hb2 hz2 hrun
  by_cases hk : 1 ≤ k ∧ k ≤ 64
  · go_wp2_with fail
    refine HRun.out.mono ?_
    rintro e w3 hP
    have h2 := HG.out.two
    obtain ⟨hb3, p, Bo, D, N, rfl, hM⟩ := hP.ok hk HM.out (fun _ _ _ h => HG.out.free h) (by omega)
    rw [hn]
    have hmay := (may_iff x).1 HM.out
    have HX3 := Lib.hid (HX2.out.below hb3)
    have HI3 := Lib.hid (HI2.out.below hb3)
    have HB3 := Lib.hid (HB2.out.trans (hb3.mono HB2.out.size))
    have HPi3 := Lib.hid (hM.inn (by have := HN.out; omega))
    have HPv := Lib.hid hM.val
    have HPm := Lib.hid hM.may
    have HMy := Lib.hid hmay
    have hNk := hM.k
    obtain ⟨W4, hW4⟩ : ∃ W, w3.alloc (Obj.cells #[Value.slice (some ⟨Bo, 0, none⟩) n n, Value.int .i64 N, Value.slice (some ⟨D, 0, none⟩) N N] 46) = W := ⟨_, rfl⟩
    obtain ⟨hp4, hb4, hz4⟩ := box_parts hW4
    obtain ⟨T, hT⟩ : ∃ T, w3.heap.size = T := ⟨_, rfl⟩
    rw [hT] at hp4
    have HP4 := Lib.hid hp4
    have HX4 := Lib.hid (HX3.out.below hb4)
    have HI4 := Lib.hid (HI3.out.below hb4)
    have HB4 := Lib.hid (HB3.out.trans (hb4.mono HB3.out.size))
    have HPi4 := Lib.hid (HPi3.out.below hb4)
    have hmy : Calls Tryd.prog 23 #[.agg #[.slice A n c, .slice B x.nt.length d, .int .i64 x.pt], .agg #[.slice (some ⟨Bo, 0, none⟩) n n, .int .i64 N, .slice (some ⟨D, 0, none⟩) N N]] W4 fun e w' => e = .returned (.bool true) ∧ Below W4.heap.size W4 w' := by
      have h := mayP_any x A c B d p _ _ _ _ W4 HI4.out HPi4.out HMy.out
      rw [← HPv.out] at h
      dsimp only [nlV] at h
      rw [hn] at h
      exact h.mono fun e w' hh => by
        obtain ⟨b, rfl, h1, h2⟩ := hh
        rw [h1.2 HPm.out]
        exact ⟨rfl, h2⟩
    have hck : ∀ W, Below W4.heap.size W4 W → Calls Tryd.prog 24 #[.agg #[.slice A n c, .slice B x.nt.length d, .int .i64 x.pt], .agg #[.slice (some ⟨Bo, 0, none⟩) n n, .int .i64 N, .slice (some ⟨D, 0, none⟩) N N]] W fun e w' => e = .returned (.int .i64 0) ∧ Below W.heap.size W w' := fun W hW => by
      have h := pcheck_any x A c B d p _ _ _ _ W (HI4.out.below hW) (HPi4.out.below hW) HMy.out
      rw [← HPv.out] at h
      dsimp only [nlV] at h
      rw [hn] at h
      exact h.mono fun e w' hh => by
        obtain ⟨r, rfl, h0, h1, h2⟩ := hh
        rw [h1.2 HPm.out]
        exact ⟨rfl, h2⟩
    have HMyc := Lib.hid hmy
    have HCk := Lib.hid hck
    have gk1 : decide (k < 1) = false := decide_eq_false (by omega)
    have gk2 : decide (k > 64) = false := decide_eq_false (by omega)
    have gk3 : decide (64 < k) = false := decide_eq_false (by omega)
    have gk4 : decide ((N : Int) ≤ k) = true := decide_eq_true hNk
    clear hP hb3 hM hmay hb4 hz4 hp4 hmy hck x0 x1 x2 hk hn HI2 HX2 HX3 HI3 HB2 HPi3
    go_upto_region 3 with fail
    try rw [hW4]
    try rw [hT]
    clear hW4 hT
    obtain ⟨p0, p1, p2⟩ := HP4.out
    obtain ⟨x0, x1, x2⟩ := HX4.out
    go_wp2_with (first
      | fail
      | (go_at_call 22; refine (HAw.out _).mono ?_; rintro e w7 ⟨rfl, hb7⟩)
      | (go_at_call 24; refine (HCk.out w5 hb5).mono ?_; rintro e w6 ⟨rfl, hb6⟩)
      | (go_at_call 23; refine HMyc.out.mono ?_; rintro e w5 ⟨rfl, hb5⟩; obtain ⟨p0, p1, p2⟩ := HP4.out.below hb5; obtain ⟨x0, x1, x2⟩ := HX4.out.below hb5))
    go_ret
    have h5 := HB4.out.trans (hb5.mono HB4.out.size)
    have h6 := h5.trans (hb6.mono h5.size)
    exact ⟨by try rfl, h6.trans (hb7.mono h6.size)⟩
  · have HK := Lib.hid hk
    go_wp2_with fail
    refine HRun.out.mono ?_
    rintro e w3 hP
    obtain ⟨rfl, hb3⟩ := hP.arg HK.out
    have HB3 := Lib.hid (HB2.out.trans (hb3.mono HB2.out.size))
    clear hP hb3 hn
    go_upto_region 3 with fail
    obtain ⟨W4, hW4⟩ : ∃ W, w3.alloc (Obj.cells #[Value.slice none 0 0, Value.int .i64 0, Value.slice none 0 0] 46) = W := ⟨_, rfl⟩
    rw [hW4]
    obtain ⟨hp4, hb4, hz4⟩ := box_parts hW4
    obtain ⟨T, hT⟩ : ∃ T, w3.heap.size = T := ⟨_, rfl⟩
    rw [hT] at hp4 ⊢
    have HP4 := Lib.hid hp4
    have HB4 := Lib.hid (HB3.out.trans (hb4.mono HB3.out.size))
    clear hb4 hz4 hp4 x0 x1 x2 hW4 hT
    obtain ⟨p0, p1, p2⟩ := HP4.out
    rcases (show k < 1 ∨ (¬ k < 1 ∧ k > 64) by omega) with h1 | ⟨h1, h2⟩
    · have gk1 : decide (k < 1) = true := decide_eq_true h1
      clear hk h1
      go_wp2_with (first
        | fail
        | (go_at_call 22; refine (HAw.out _).mono ?_; rintro e w7 ⟨rfl, hb7⟩))
      go_ret
      exact ⟨by try rfl, HB4.out.trans (hb7.mono HB4.out.size)⟩
    · have gk1 : decide (k < 1) = false := decide_eq_false h1
      have gk2 : decide (k > 64) = true := decide_eq_true h2
      have gk3 : decide (64 < k) = true := decide_eq_true h2
      clear hk h1 h2
      go_wp2_with (first
        | fail
        | (go_at_call 22; refine (HAw.out _).mono ?_; rintro e w7 ⟨rfl, hb7⟩))
      go_ret
      exact ⟨by try rfl, HB4.out.trans (hb7.mono HB4.out.size)⟩
end Go.Proofs.YtonnmkhmhndalaaDoor
end
