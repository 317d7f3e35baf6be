/- PartChecks: the statement's own function, walked. -/
import Derived.Test.YtonnmkhmhndalaaDoorZj
import Derived.Test.YtonnmkhmhndalaaDoorZq
section
namespace Go.Proofs.YtonnmkhmhndalaaDoor
set_option linter.unusedVariables false
set_option linter.unusedSimpArgs false
open Go.RowKit Go.Proofs.YtonnmkhmhndalaaDoorW.PrintWords Go.Proofs.YtonnmkhmhndalaaDoorW.PrintLast Go.Proofs.YtonnmkhmhndalaaDoorW.PrintMore
set_option maxRecDepth 100000 in
set_option maxHeartbeats 8000000 in
theorem partChecks_any (gs : List S71) (Ag : Option Addr) (cg : Nat) (p : PV) (A2 : Option Addr) (c2 : Nat) (B2 : Option Addr) (d2 : Nat) (w : World) (hg : Kd.C k71 w Ag gs.length gs) (hcg : gs.length ≤ cg) (hP : PIn w p A2 c2 B2 d2) :
    Calls Tryd.prog 8 #[.slice Ag gs.length cg, pV p A2 c2 B2 d2] w fun e w' => e = .returned (.bool true) ∧ Below w.heap.size w w' := by
  have hmd := fun W (hW : Below w.heap.size w W) => made_any gs Ag cg W (Kd.C_below hg hW) hcg
  have HMd := Lib.hid hmd
  have haw := awake13_any
  have HAw := Lib.hid haw
  have HP := Lib.hid hP
  clear hmd hg hcg haw hP
  obtain ⟨no, hno⟩ : ∃ k, p.of.length = k := ⟨_, rfl⟩
  obtain ⟨na, hna⟩ : ∃ k, p.ah.length = k := ⟨_, rfl⟩
  have HNo := Lib.hid hno
  have HNa := Lib.hid hna
  go_enter Tryd.func8, Tryd.ntmps8
  go_upto_region 1 with fail
  obtain ⟨W0, hW0⟩ : ∃ W, w.alloc (Obj.cells #[.slice A2 no c2, .int .i64 p.n, .slice B2 na d2] 46) = W := ⟨_, rfl⟩
  try rw [hW0]
  obtain ⟨hq0, hb0, hz0⟩ := box_parts hW0
  obtain ⟨T, hT⟩ : ∃ T, w.heap.size = T := ⟨_, rfl⟩
  rw [hT] at hq0 ⊢
  have HQ0 := Lib.hid hq0
  have HB0 := Lib.hid hb0
  clear hW0 hq0 hb0 hz0 hT hno hna
  go_upto_region 2 with (first
    | fail
    | (go_at_call 18; refine (HMd.out W0 HB0.out).mono ?_; rintro e w1 ⟨x, A, c, B, d, rfl, hI, hG, hm, hn, hb⟩; have HI := Lib.hid hI; have HG := Lib.hid hG; have HM := Lib.hid hm; have HN := Lib.hid hn; have HB := Lib.hid hb; clear hI hG hm hn hb))
  obtain ⟨n, hn⟩ : ∃ n, x.nd.length = n := ⟨_, rfl⟩
  have HNn := Lib.hid hn
  rw [hn]
  obtain ⟨W2, hW2⟩ : ∃ W, w1.alloc (Obj.cells #[.slice A n c, .slice B x.nt.length d, .int .i64 x.pt] 25) = W := ⟨_, rfl⟩
  rw [hW2]
  obtain ⟨L, hL⟩ : ∃ P, w1.heap.size = P := ⟨_, rfl⟩
  obtain ⟨hx2, hb2, hz2⟩ := box_list hW2
  rw [hL] at hx2 ⊢
  have HB2 := Lib.hid ((HB0.out.trans (HB.out.mono HB0.out.size)).trans (hb2.mono (Nat.le_trans HB0.out.size HB.out.size)))
  have HI2 := Lib.hid (HI.out.below hb2)
  have HX2 := Lib.hid hx2
  have HQ2 := Lib.hid ((HQ0.out.below HB.out).below hb2)
  have HP2 := Lib.hid (HP.out.below HB2.out)
  have hmay := (may_iff x).1 HM.out
  have hck : Calls Tryd.prog 24 #[.agg #[.slice A n c, .slice B x.nt.length d, .int .i64 x.pt], .agg #[.slice A2 no c2, .int .i64 p.n, .slice B2 na d2]] W2 (CkE W2 x p) := by
    have h := pcheck_any x A c B d p A2 c2 B2 d2 W2 HI2.out HP2.out hmay
    dsimp only [nlV, pV] at h
    rw [hn, HNo.out, HNa.out] at h
    exact h
  have hmy : ∀ W, Below W2.heap.size W2 W → Calls Tryd.prog 23 #[.agg #[.slice A n c, .slice B x.nt.length d, .int .i64 x.pt], .agg #[.slice A2 no c2, .int .i64 p.n, .slice B2 na d2]] W (MayE W x p) := fun W hW => by
    have h := mayP_any x A c B d p A2 c2 B2 d2 W (HI2.out.below hW) (HP2.out.below hW) hmay
    dsimp only [nlV, pV] at h
    rw [hn, HNo.out, HNa.out] at h
    exact h
  have HCk := Lib.hid hck
  have HMy := Lib.hid hmy
  obtain ⟨x0, x1, x2⟩ := HX2.out
  obtain ⟨q0, q1, q2⟩ := HQ2.out
  clear hW2 hL hx2 hb2 hz2 hn hmay hck hmy
  go_wp2_with fail
  refine HCk.out.mono ?_
  rintro e w3 ⟨r, rfl, hr1, hr2, hb3⟩
  obtain ⟨x0, x1, x2⟩ := HX2.out.below hb3
  obtain ⟨q0, q1, q2⟩ := HQ2.out.below hb3
  have HB3 := Lib.hid (HB2.out.trans (hb3.mono HB2.out.size))
  have HMy3 := Lib.hid (HMy.out w3 hb3)
  by_cases hM : PMay x.nd p
  · have hr : r = 0 := hr2.2 hM
    subst hr
    have HMM := Lib.hid hM
    clear hr1 hr2 hb3 hM
    go_wp2_with (first
      | fail
      | (go_at_call 22; refine (HAw.out _).mono ?_; rintro e w5 ⟨rfl, hb5⟩)
      | (go_at_call 23; refine HMy3.out.mono ?_; rintro e w4 ⟨bb, rfl, hbb, hb4⟩; (have hbt : bb = true := hbb.2 HMM.out); subst hbt; clear hbb))
    go_ret
    have h4 := HB3.out.trans (hb4.mono HB3.out.size)
    exact ⟨by try rfl, h4.trans (hb5.mono h4.size)⟩
  · have hr : r = 1 := by
      rcases hr1 with h | h
      · exact absurd (hr2.1 h) hM
      · exact h
    subst hr
    have HMM := Lib.hid hM
    clear hr1 hr2 hb3 hM
    go_wp2_with (first
      | fail
      | (go_at_call 22; refine (HAw.out _).mono ?_; rintro e w5 ⟨rfl, hb5⟩)
      | (go_at_call 23; refine HMy3.out.mono ?_; rintro e w4 ⟨bb, rfl, hbb, hb4⟩; (have hbt : bb = false := (by cases bb; rfl; exact absurd (hbb.1 rfl) HMM.out)); subst hbt; clear hbb))
    go_ret
    have h4 := HB3.out.trans (hb4.mono HB3.out.size)
    exact ⟨by try rfl, h4.trans (hb5.mono h4.size)⟩
end Go.Proofs.YtonnmkhmhndalaaDoor
end
