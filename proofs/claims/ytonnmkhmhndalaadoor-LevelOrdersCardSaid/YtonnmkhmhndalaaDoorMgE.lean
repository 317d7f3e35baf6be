/- level.Run, walked. level.Loop, walked. -/
import Derived.Test.YtonnmkhmhndalaaDoorCk2
import Derived.Test.YtonnmkhmhndalaaDoorLw2
import Derived.Test.YtonnmkhmhndalaaDoorMgA
namespace Go.Proofs.YtonnmkhmhndalaaDoor
set_option linter.unusedVariables false
set_option linter.unusedSimpArgs false
open Go.RowKit Go.Proofs.YtonnmkhmhndalaaDoorW.PrintWords Go.Proofs.YtonnmkhmhndalaaDoorW.PrintLast Go.Proofs.YtonnmkhmhndalaaDoorW.PrintMore

/-- what Run comes to -/
def RunP (w : World) (x : NL) (e : Ending) (w' : World) : Prop :=
  Below w.heap.size w w' ∧ ((mayL x = false ∧ e = .returned (.tuple #[.slice none 0 0, .int .i64 1])) ∨
    (mayL x = true ∧ ∃ (out : Nat → Nat) (done : Nat → Bool) (cnt : Nat), LRes x.nd.length (hs x.nd) out done cnt ∧
      ((cnt < x.nd.length ∧ e = .returned (.tuple #[.slice none 0 0, .int .i64 110])) ∨
       (cnt = x.nd.length ∧ ∃ D, w.heap.size ≤ D ∧ e = .returned (.tuple #[.slice (some ⟨D, 0, none⟩) x.nd.length x.nd.length, .int .i64 0]) ∧ Cl eI w' D x.nd.length out))))
set_option maxRecDepth 100000 in
set_option maxHeartbeats 4000000 in
theorem run_any (x : NL) (A : Option Addr) (c : Nat) (B : Option Addr) (d : Nat) (w : World) (hI : NIn w x A c B d) :
    Calls Tryd.prog 13 #[nlV x A c B d] w (RunP w x) := by
  have hck := fun W hW => check_any x A c B d W (hI.below hW)
  have HCk := Lib.hid hck
  have HI := Lib.hid hI
  clear hI hck
  go_enter Tryd.func13, Tryd.ntmps13
  go_upto_region 1 with fail
  obtain ⟨W0, hW0⟩ : ∃ W, w.alloc (Obj.cells #[.slice A x.nd.length c, .slice B x.nt.length d, .int .i64 x.pt] 25) = W := ⟨_, rfl⟩
  rw [hW0]
  obtain ⟨hx0, hb0, hz0⟩ := box_list hW0
  have HX0 := Lib.hid hx0
  have HB0 := Lib.hid hb0
  obtain ⟨q0, q1, q2⟩ := HX0.out
  clear hx0 hb0 hz0 hW0
  go_wp2_with fail
  refine (HCk.out W0 HB0.out).mono ?_
  rintro e w1 ⟨rfl, hb1⟩
  have HX1 := Lib.hid (HX0.out.below hb1)
  have HB1 := Lib.hid (HB0.out.trans (hb1.mono HB0.out.size))
  clear hb1 q0 q1 q2
  obtain ⟨q0, q1, q2⟩ := HX1.out
  cases hm : mayL x
  · have hc : chkI x = 1 := by unfold chkI; rw [hm]; rfl
    rw [hc]
    have HMx := Lib.hid hm
    clear hm hc
    go_wp2_with fail
    refine bodyPost_ret (v := .tuple #[.slice none 0 0, .int .i64 1]) (by simp [results, Tryd.results13, go_sem]) rfl ⟨HB1.out, Or.inl ⟨HMx.out, rfl⟩⟩
  · have hc : chkI x = 0 := by unfold chkI; rw [hm]; rfl
    rw [hc]
    have HMx := Lib.hid hm
    have hlv := levels_any x A c B d w1 (HI.out.below HB1.out) ((may_iff x).1 hm).lok
    have HLv := Lib.hid hlv
    clear hm hc hlv
    go_wp2_with fail
    refine HLv.out.mono ?_
    rintro e w2 ⟨D, cnt, out, done, rfl, hD, hO, hDn, hres, hb2⟩
    have HB2 := Lib.hid (HB1.out.trans (hb2.mono HB1.out.size))
    have HX2 := Lib.hid (HX1.out.below hb2)
    have HO := Lib.hid hO
    have HR := Lib.hid hres
    have HD := Lib.hid (Nat.le_trans HB1.out.size hD)
    have hle := hres.le
    clear hD hO hDn hres hb2 q0 q1 q2
    obtain ⟨q0, q1, q2⟩ := HX2.out
    by_cases hlt : cnt < x.nd.length
    · have HLt := Lib.hid hlt
      go_wp2_with fail
      refine bodyPost_ret (v := .tuple #[.slice none 0 0, .int .i64 110]) (by simp [results, Tryd.results13, go_sem]) rfl ⟨HB2.out, Or.inr ⟨HMx.out, out, done, cnt, HR.out, Or.inl ⟨HLt.out, rfl⟩⟩⟩
    · have HLt := Lib.hid (show cnt = x.nd.length by omega)
      go_wp2_with fail
      refine bodyPost_ret (v := .tuple #[.slice (some ⟨D, 0, none⟩) x.nd.length x.nd.length, .int .i64 0]) (by simp [results, Tryd.results13, go_sem]) rfl ⟨HB2.out, Or.inr ⟨HMx.out, out, done, cnt, HR.out, Or.inr ⟨HLt.out, D, HD.out, rfl, HO.out⟩⟩⟩
end Go.Proofs.YtonnmkhmhndalaaDoor
namespace Go.Proofs.YtonnmkhmhndalaaDoor
set_option linter.unusedVariables false
set_option linter.unusedSimpArgs false
open Go.RowKit Go.Proofs.YtonnmkhmhndalaaDoorW.PrintWords Go.Proofs.YtonnmkhmhndalaaDoorW.PrintLast Go.Proofs.YtonnmkhmhndalaaDoorW.PrintMore

/-- what Loop comes to -/
def LoopP (w : World) (x : NL) (e : Ending) (w' : World) : Prop :=
  Below w.heap.size w w' ∧ ((mayL x = false ∧ e = .returned (.slice none 0 0)) ∨
    (mayL x = true ∧ ∃ (out : Nat → Nat) (done : Nat → Bool) (cnt : Nat), LRes x.nd.length (hs x.nd) out done cnt ∧
      ((cnt = x.nd.length ∧ e = .returned (.slice none 0 0)) ∨
       (cnt < x.nd.length ∧ ∃ (p : List Nat) (A : Option Addr) (c : Nat), e = .returned (.slice A p.length c) ∧ p.length ≤ c ∧ Looped x.nd.length (hs x.nd) p ∧ Kd.C (Kd.int .i64) w' A p.length (ints p)))))
def lenOf : Value → Nat
  | .slice _ n _ => n
  | _ => 0
set_option maxRecDepth 100000 in
set_option maxHeartbeats 8000000 in
theorem loop_any (x : NL) (A : Option Addr) (c : Nat) (B : Option Addr) (d : Nat) (w : World) (hI : NIn w x A c B d) :
    Calls Tryd.prog 15 #[nlV x A c B d] w (LoopP w x) := by
  have hck := fun W hW => check_any x A c B d W (hI.below hW)
  have HCk := Lib.hid hck
  have HI := Lib.hid hI
  have hmm := @run_makeMap Tryd.prog
  clear hI hck
  go_enter Tryd.func15, Tryd.ntmps15
  go_upto_region 1 with fail
  refine wp_scope_straight ?_
  go_upto_region 1 with fail
  obtain ⟨W0, hW0⟩ : ∃ W, w.alloc (Obj.cells #[.slice A x.nd.length c, .slice B x.nt.length d, .int .i64 x.pt] 25) = W := ⟨_, rfl⟩
  rw [hW0]
  obtain ⟨hx0, hb0, hz0⟩ := box_list hW0
  have HX0 := Lib.hid hx0
  have HB0 := Lib.hid hb0
  obtain ⟨q0, q1, q2⟩ := HX0.out
  clear hx0 hb0 hz0 hW0
  go_wp2_with fail
  refine (HCk.out W0 HB0.out).mono ?_
  rintro e w1 ⟨rfl, hb1⟩
  have HX1 := Lib.hid (HX0.out.below hb1)
  have HB1 := Lib.hid (HB0.out.trans (hb1.mono HB0.out.size))
  clear hb1 q0 q1 q2
  obtain ⟨q0, q1, q2⟩ := HX1.out
  cases hm : mayL x
  · have hc : chkI x = 1 := by unfold chkI; rw [hm]; rfl
    rw [hc]
    have HMx := Lib.hid hm
    clear hm hc
    go_wp2_with fail
    go_ret
    exact ⟨HB1.out, Or.inl ⟨HMx.out, rfl⟩⟩
  · have hc : chkI x = 0 := by unfold chkI; rw [hm]; rfl
    rw [hc]
    have HMx := Lib.hid hm
    have HLk := Lib.hid ((may_iff x).1 hm).lok
    have HMay := Lib.hid hm
    have hlv := levels_any x A c B d w1 (HI.out.below HB1.out) HLk.out
    have HLv := Lib.hid hlv
    have hn4 := HLk.out.n
    clear hm hc hlv
    go_wp2_with fail
    refine HLv.out.mono ?_
    rintro e w2 ⟨D, cnt, out, done, rfl, hD, hO, hDn, hres, hb2⟩
    have HB2 := Lib.hid (HB1.out.trans (hb2.mono HB1.out.size))
    have HX2 := Lib.hid (HX1.out.below hb2)
    have HDn := Lib.hid hDn
    have HR := Lib.hid hres
    have hle := hres.le
    clear hD hO hDn hres hb2 q0 q1 q2
    obtain ⟨q0, q1, q2⟩ := HX2.out
    by_cases heq : cnt = x.nd.length
    · have HEq := Lib.hid heq
      have g1 : ((cnt : Int) == (x.nd.length : Int)) = true := beq_iff_eq.mpr (by omega)
      clear heq
      go_wp2_with fail
      go_ret
      exact ⟨HB2.out, Or.inr ⟨HMx.out, out, done, cnt, HR.out, Or.inl ⟨HEq.out, rfl⟩⟩⟩
    · have HLt := Lib.hid (show cnt < x.nd.length by omega)
      have g1 : ((cnt : Int) == (x.nd.length : Int)) = false := beq_eq_false_iff_ne.mpr (by omega)
      obtain ⟨u, hu, hud⟩ := HR.out.some HLt.out
      have HUd := Lib.hid hud
      have HU := Lib.hid hu
      clear heq hud
      obtain ⟨n, hn⟩ : ∃ n, x.nd.length = n := ⟨_, rfl⟩
      rw [hn] at g1 q0 hn4 hu
      have HN := Lib.hid hn
      rw [hn]
      clear hn
      go_wp2_with fail
      clear q0 q1 q2
      go_loop [6] (fun v6 => ∃ k : Nat, v6 = .int .i64 k ∧ k ≤ u ∧ Hid (∀ j, j < k → done j = true)) (fun v6 => u - (intOf v6).toNat)
      case atStart => exact ⟨0, rfl, Nat.zero_le _, Lib.hid (fun j hj => absurd hj (Nat.not_lt_zero _))⟩
      case round =>
        obtain ⟨k, rfl, hk, HK⟩ := hrel
        have c1 := HDn.out.c k (by rw [HN.out]; omega)
        cases hdk : done k
        · rw [hdk] at c1
          have HDk := Lib.hid hdk
          clear hdk
          go_upto_region 10 with fail
          obtain ⟨WM, hWM⟩ : ∃ W, w2.alloc (.map #[] 0) = W := ⟨_, rfl⟩
          rw [hWM]
          have hbm : Below w2.heap.size w2 WM := by rw [← hWM]; exact below_alloc (Below.refl _ _) _
          have hzm : WM.heap.size = w2.heap.size + 1 := by rw [← hWM]; simp
          have HMi : Hid (MI WM w2.heap.size 0 (atN [])) := Lib.hid (by rw [atN_nil, ← hWM]; exact MI.made w2)
          have HBm := Lib.hid hbm
          have HZm := Lib.hid hzm
          have HPa : Hid (LPath n (hs x.nd) done [] k) := Lib.hid (LPath.start ⟨by omega, HDk.out⟩)
          have HHs : Hid (∀ k, k < n → ∀ h ∈ hs x.nd k, h < n) := Lib.hid (by rw [← HN.out]; exact HLk.out.hsl)
          have hkn0 : k < n := by omega
          clear c1 hbm hzm hWM hk
          go_wp2_with fail
          go_simp
          go_wp2_with fail
          go_step3
          go_simp
          go_wp2_with fail
          go_loopw [6, 8] (fun v6 v8 wx => ∃ (k : Nat) (p : List Nat), v6 = .int .i64 k ∧ k < n ∧ p.length ≤ n ∧ Hid (LPath n (hs x.nd) done p k) ∧ lenOf v8 = p.length ∧ Hid (MI wx w2.heap.size p.length (atN p)) ∧ Hid (Kd.R (Kd.int .i64) 3 wx WM.heap.size (fun _ => True) v8 (ints p)) ∧ Hid (Below w2.heap.size w2 wx) ∧ Hid (WM.heap.size ≤ wx.heap.size)) (fun _ v8 _ => n - lenOf v8)
          case atStart => exact ⟨k, [], rfl, hkn0, Nat.zero_le _, HPa, rfl, HMi, Lib.hid (Kd.R_nil _ _ _ _ _), HBm, Lib.hid (Nat.le_refl _)⟩
          case round =>
            obtain ⟨k, p, rfl, hkn, hpn, HP, hlen8, HMx, HRx, HBx, HZx⟩ := hrel
            have hR := HRx.out
            obtain ⟨Av, cv, hvk⟩ := Kd.R_slice hR
            rw [ints_len] at hvk
            subst hvk
            have HR8 := Lib.hid hR
            have hlk := HMx.out.look_ok k (by omega)
            have HXx := Lib.hid (HX2.out.below HBx.out)
            have HBw := Lib.hid (HB2.out.trans (HBx.out.mono HB2.out.size))
            clear hR hlen8
            by_cases hmem : k ∈ p
            · have e1 : atN p k = some (p.idxOf k : Int) := if_pos hmem
              rw [e1] at hlk
              have hlk2 : (Instr.lookup 64 (.map (some w2.heap.size)) (.int .i64 (k : Int)) true).run Tryd.prog wr = .ok (.tuple #[.int .i64 (p.idxOf k : Int), .bool true]) wr := hlk
              obtain ⟨hi1, hi2⟩ := idx_at p k hmem
              generalize p.idxOf k = a at *
              obtain ⟨g, cap, hA, -, -, -⟩ := Kd.R_form HR8.out (by rw [ints_len]; omega)
              injection hA with hA1 hA2 hA3
              subst hA1
              have hcv : p.length ≤ cv := (Kd.R_reads' HR8.out).2.1
              have hne : ¬ cv = a := by omega
              have hle1 : a ≤ p.length := by omega
              have HLo := Lib.hid (HP.out.loop hi1 hi2)
              have HI1 := Lib.hid hi1
              have HCv := Lib.hid hcv
              clear hmem e1 hi2 hA2 hA3 hlk
              go_wp2_with fail
              try rw [Exit.noGoto_ret]
              go_ret
              refine ⟨HBw.out, Or.inr ⟨HMay.out, out, done, cnt, HR.out, Or.inr ⟨HLt.out, p.drop a, some ⟨g, a, none⟩, cv - a, ?_, ?_, ?_, ?_⟩⟩⟩
              · rw [List.length_drop]; try rfl
              · rw [List.length_drop]; have := HCv.out; omega
              · rw [HN.out]; exact HLo.out
              · have hC := (Kd.R_reads' HR8.out).2.2
                have h1 := Kd.C_drop (c := cv) hC (m := a) (by rw [ints_len]; exact Nat.le_of_lt HI1.out) (by rw [ints_len]; exact HCv.out)
                rw [if_neg (by have := HI1.out; have := HCv.out; omega)] at h1
                have e : ints (p.drop a) = (ints p).drop a := by unfold ints; rw [List.map_drop]
                rw [e, ← ints_len, e]
                have e2 : (some (⟨g, 0, none⟩ : Addr)).map (·.add (a * (Kd.int .i64).sz)) = some ⟨g, a, none⟩ := by
                  show some ((⟨g, 0, none⟩ : Addr).add (a * 1)) = _
                  rw [Nat.mul_one, add_plain, Nat.zero_add]
                rw [e2] at h1
                exact h1
            · have e1 : atN p k = none := if_neg hmem
              rw [e1] at hlk
              have hlk2 : (Instr.lookup 64 (.map (some w2.heap.size)) (.int .i64 (k : Int)) true).run Tryd.prog wr = .ok (.tuple #[.int .i64 0, .bool false]) wr := hlk
              obtain ⟨WS, hst, hms, hgs⟩ := HMx.out.store k (by omega) (p.length : Int) (WalkArith.wf_i64 (by omega)) (by omega)
              rw [atN_snoc p k hmem] at hms
              have hbs := HBx.out.grown hgs HBx.out.size (fun b hb => by injection hb with hb; rw [← hb]; exact Nat.le_refl _)
              have hrs : Kd.R (Kd.int .i64) 3 WS WM.heap.size (fun _ => True) (.slice Av p.length cv) (ints p) := by
                have h1 := Kd.R_bound HR8.out
                exact Kd.R_mono (Kd.R_grown h1 hgs (fun b hb e => by injection e with e; have := hb.2.1; have := HZm.out; omega)) (fun _ _ => trivial)
              have HMs := Lib.hid hms
              have HBs := Lib.hid hbs
              have HRs := Lib.hid hrs
              have HZs := Lib.hid (Nat.le_trans HZx.out hgs.size)
              have HMem := Lib.hid hmem
              have HKn := Lib.hid hkn
              have hxs := HX2.out.below hbs
              obtain ⟨i0, i1, i2⟩ := hxs
              have HBws := Lib.hid (HB2.out.trans (hbs.mono HB2.out.size))
              clear hlk e1 hms hgs hbs hrs hmem i1 i2
              clear i0
              go_upto_region 16 with (first | fail | ((with_reducible refine gate_builtin (b := .append) (xs := #[.tmp 48, .tmp 50]) rfl ?_); at_builtin; refine Kd.R_append (Kd.int .i64) (w0 := WS) WM.heap.size rfl (.tmp 48) (.tmp 50) 23 3 (.int .i64 0) 8 rfl Tryd.underlying23 info3 rfl (by decide) (by decide) (.slice Av p.length cv) (ints p) (k : Int) [.int .i64 (k : Int)] (fun _ => True) (fun _ => False) rfl rfl ?aP (fun _ hk => hk.elim) (fun _ _ => trivial) ?aO ?aB ?aS ?aL ?_; (case aP => exact kI_mkM _ _ _ _); (case aO => exact HRs.out); (case aB => exact Below.refl _ _); (case aS => exact HZs.out); (case aL => rw [ints_len]; omega); intro v1 w9 ho hb hg hat; have HO := Lib.hid ho; have HBo := Lib.hid hb; have HG := Lib.hid hg; clear ho hb hg hat))
              have HM9 := Lib.hid (HMs.out.kept HG.out (fun e => by have h1 := Kd.R_base HRs.out _ e.symm; have := HZm.out; omega))
              have HB9 := Lib.hid (HBs.out.trans (HBo.out.mono (by have := HZm.out; omega)))
              have HBw9 := Lib.hid (HB2.out.trans (HB9.out.mono HB2.out.size))
              have HZ9 := Lib.hid (Nat.le_trans HZs.out HBo.out.size)
              obtain ⟨A9, c9, hv9⟩ := Kd.R_slice HO.out
              rw [List.length_append, List.length_singleton, ints_len] at hv9
              subst hv9
              obtain ⟨i0, i1, i2⟩ := HX2.out.below HB9.out
              have hk' : k < x.nd.length := by rw [HN.out]; exact HKn.out
              obtain ⟨b, o, A3, c3, hA, hl3, hbs, hND⟩ := nodes_in HI.out.h0 k hk'
              subst hA
              have hq7 := HLk.out.f k hk'
              have HC := Lib.hid (HLk.out.cast k hk')
              have HLe := Lib.hid (HLk.out.le k hk')
              have HLn := Lib.hid (hs_len x.nd k)
              have hno := HR.out.no k hk' HP.out.kn.2
              generalize x.nd.getD k z39 = y at *
              have hh := fun W hW => hangs_any y A3 c3 W hW hl3 hq7
              have HH := Lib.hid hh
              have HND := Lib.hid hND
              have HNo := Lib.hid hno
              obtain ⟨h0, h1, h2, h3, h4, h5, h6, h7, hC3⟩ := hND _ HBw9.out
              have HC3 := Lib.hid hC3
              rw [HN.out] at i0
              clear hk' hl3 hC3 hbs hq7 hh hND hno i1 i2
              go_wp2_with fail
              refine (HH.out _ HC3.out).mono ?_
              rintro e wh ⟨A6, c6, rfl, hl6, hC6, hbh⟩
              obtain ⟨m, hm⟩ : ∃ m, (hg y).length = m := ⟨_, rfl⟩
              have HBh := Lib.hid (HB9.out.trans (hbh.mono HB9.out.size))
              have HMh := Lib.hid (HM9.out.below hbh)
              have HOh := Lib.hid (Kd.R_below HO.out hbh)
              have HZh := Lib.hid (Nat.le_trans HZ9.out hbh.size)
              have HC6 := Lib.hid hC6
              have hmm := HLn.out.trans hm
              have hm256 : m ≤ 256 := by rw [← hm]; exact HLe.out
              have HMm := Lib.hid hmm
              have HMM := Lib.hid hm
              clear hC6 hl6 hbh hmm h0 h1 h2 h3 h4 h5 h6 h7 i0
              go_wp2_with fail
              clear hm
              go_loop [59] (fun v59 => ∃ j : Nat, v59 = .int .i64 j ∧ j ≤ m ∧ Hid (∀ q, q < j → done ((hs x.nd k).getD q 0) = true)) (fun v59 => m - (intOf v59).toNat)
              case atStart => exact ⟨0, rfl, Nat.zero_le _, Lib.hid (fun q hq => absurd hq (Nat.not_lt_zero _))⟩
              case round =>
                obtain ⟨j, rfl, hj, HJ⟩ := hrel
                by_cases hjl : j < m
                · have hjg : j < (hg y).length := by rw [HMM.out]; exact hjl
                  have hjs : j < (hs x.nd k).length := by rw [HMm.out]; exact hjl
                  have hCy := HC6.out _ (HND.out _ (HB2.out.trans (HBh.out.mono HB2.out.size))).hC
                  obtain ⟨b6, o6, hA6, g6, -⟩ := ints_at hCy j hjg
                  subst hA6
                  obtain ⟨a, ha⟩ : ∃ a, (hs x.nd k).getD j 0 = a := ⟨_, rfl⟩
                  have hg0 : (hg y).getD j 0 = (a : Int) := by rw [← HC.out, ints_getD _ _ hjs, ha]
                  have ham : a ∈ hs x.nd k := by rw [← ha, List.getD_eq_getElem?_getD, List.getElem?_eq_getElem hjs]; exact List.getElem_mem _
                  have han : a < n := HHs.out k HKn.out a ham
                  rw [hg0] at g6
                  have d1 := (HDn.out.below HBh.out (by have := HDn.out.s; omega)).c a (by rw [HN.out]; exact han)
                  have HA := Lib.hid ha
                  have HAm := Lib.hid ham
                  have HAn := Lib.hid han
                  have HJl := Lib.hid hjl
                  clear ha ham hg0 hCy hjg hjs
                  cases hda : done a
                  · rw [hda] at d1
                    have HDa := Lib.hid hda
                    clear hda
                    have hst2 := HP.out.step HMem.out HAm.out ⟨HAn.out, HDa.out⟩
                    have hpl := nodup_len _ n hst2.nd (fun x hx => (hst2.lt x hx).1)
                    rw [List.length_append, List.length_singleton] at hpl
                    have HSt2 := Lib.hid hst2
                    clear hst2
                    go_wp2_with fail
                    refine ⟨⟨a, p ++ [k], rfl, HAn.out, by rw [List.length_append, List.length_singleton]; exact hpl, HSt2, by rw [List.length_append, List.length_singleton]; rfl, by rw [List.length_append, List.length_singleton]; exact HMh, by rw [ints_snoc]; exact HOh, HBh, HZh⟩, ?_⟩
                    show n - (p.length + 1) < n - p.length
                    omega
                  · rw [hda] at d1
                    have HDa := Lib.hid hda
                    clear hda
                    go_wp2_with fail
                    refine ⟨⟨j + 1, by simp, HJl.out, Lib.hid (fun q hq => ?_)⟩, by have := HJl.out; simp [intOf]; omega⟩
                    by_cases e : q = j
                    · subst e; rw [HA.out]; exact HDa.out
                    · exact HJ.out q (by omega)
                · exfalso
                  obtain rfl : j = m := by omega
                  obtain ⟨u', hu', hud'⟩ := HNo.out
                  obtain ⟨q, hq, rfl⟩ := List.getElem_of_mem hu'
                  have := HJ.out q (by rw [← HMm.out]; exact hq)
                  rw [List.getD_eq_getElem?_getD, List.getElem?_eq_getElem hq] at this
                  have h2 : done (hs x.nd k)[q] = true := this
                  rw [hud'] at h2
                  cases h2
        · rw [hdk] at c1
          have hku : k < u := by
            rcases Nat.lt_or_ge k u with h1 | h1
            · exact h1
            · exfalso
              have : k = u := by omega
              subst this
              rw [HUd.out] at hdk
              cases hdk
          have HKu := Lib.hid hku
          have HDk := Lib.hid hdk
          clear hdk
          go_wp2_with fail
          refine ⟨⟨k + 1, by simp, HKu.out, Lib.hid (fun j hj => ?_)⟩, by have := HKu.out; simp [intOf]; omega⟩
          by_cases e : j = k
          · subst e; exact HDk.out
          · exact HK.out j (by omega)
end Go.Proofs.YtonnmkhmhndalaaDoor
