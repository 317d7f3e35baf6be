/- wave.Begins, walked. -/
import Derived.Test.YtcbkgammlfjjoaaDoorCheck
import Derived.Test.YtcbkgammlfjjoaaDoorWc
namespace Go.Proofs.YtcbkgammlfjjoaaDoor
set_option linter.unusedVariables false
set_option linter.unusedSimpArgs false
open Go.RowKit Go.Proofs.YtcbkgammlfjjoaaDoorW.PrintWords Go.Proofs.YtcbkgammlfjjoaaDoorW.PrintLast Go.Proofs.YtcbkgammlfjjoaaDoorW.PrintMore

theorem eqS_any (k : Nat) (A0 : Option Addr) (c0 : Nat) (l0 : List ByteArray) (A1 : Option Addr) (c1 : Nat) (l1 : List ByteArray) (r : Bool) (w : World) (hr0 : Kd.C Kd.string w A0 l0.length l0) (hc0 : l0.length ≤ c0) (hr1 : Kd.C Kd.string w A1 l1.length l1) (hc1 : l1.length ≤ c1) (h : slices_Equal_string_string.f k l0 l1 = some r) :
    Calls Tryd.prog 50 #[.slice A0 l0.length c0, .slice A1 l1.length c1] w fun e w' => e = .returned (.bool r) ∧ Below w.heap.size w w' :=
  (slices_Equal_string_string.calls k A0 c0 l0 A1 c1 l1 r w hr0 hc0 hr1 hc1 h).mono fun e w' ⟨h1, ⟨m, h2⟩⟩ => ⟨h1, h2 ▸ pw_below_drewN (Below.refl _ _) m⟩
theorem eqI_any (k : Nat) (A0 : Option Addr) (c0 : Nat) (l0 : List Int) (A1 : Option Addr) (c1 : Nat) (l1 : List Int) (r : Bool) (w : World) (hr0 : Kd.C (Kd.int .i64) w A0 l0.length l0) (hc0 : l0.length ≤ c0) (hr1 : Kd.C (Kd.int .i64) w A1 l1.length l1) (hc1 : l1.length ≤ c1) (h : slices_Equal_int_int.f k l0 l1 = some r) :
    Calls Tryd.prog 51 #[.slice A0 l0.length c0, .slice A1 l1.length c1] w fun e w' => e = .returned (.bool r) ∧ Below w.heap.size w w' :=
  (slices_Equal_int_int.calls k A0 c0 l0 A1 c1 l1 r w hr0 hc0 hr1 hc1 h).mono fun e w' ⟨h1, ⟨m, h2⟩⟩ => ⟨h1, h2 ▸ pw_below_drewN (Below.refl _ _) m⟩
theorem eqC_any (k n : Nat) (A0 : Option Addr) (c0 : Nat) (l0 : List S59) (A1 : Option Addr) (c1 : Nat) (l1 : List S59) (r : Bool) (w : World) (hn : l1.length = n) (hr0 : Kd.C k59 w A0 l0.length l0) (hc0 : l0.length ≤ c0) (hr1 : Kd.C k59 w A1 l1.length l1) (hc1 : l1.length ≤ c1) (h : api_Change_52.f k l0 l1 = some r) :
    Calls Tryd.prog 52 #[.slice A0 l0.length c0, .slice A1 n c1] w fun e w' => e = .returned (.bool r) ∧ Below w.heap.size w w' := by
  subst hn
  exact (api_Change_52.calls k A0 c0 l0 A1 c1 l1 r w hr0 hc0 hr1 hc1 h).mono fun e w' ⟨h1, ⟨m, h2⟩⟩ => ⟨h1, h2 ▸ pw_below_drewN (Below.refl _ _) m⟩
theorem bcell2 {W w1 : World} (hb : Below W.heap.size W w1) : (∀ b o, b < W.heap.size → w1.cell? ⟨b, o, none⟩ = W.cell? ⟨b, o, none⟩) ∧ (∀ b o, b < W.heap.size → w1.frozen? ⟨b, o, none⟩ = W.frozen? ⟨b, o, none⟩) :=
  ⟨fun b o h => hb.cell (p := ⟨b, o, none⟩) h, fun b o h => hb.frozen (p := ⟨b, o, none⟩) h⟩
def begB (x y : WV) (r0 r1 r2 r3 : Bool) : Bool := mayB x && (mayB y && (decide (x.li.length ≤ y.li.length) && (r0 && (r1 && (r2 && r3)))))
attribute [local irreducible] wpQuiet
set_option maxRecDepth 100000 in
set_option maxHeartbeats 8000000 in
theorem begins_any (x : WV) (A0 : Option Addr) (c0 : Nat) (A1 : Option Addr) (c1 : Nat) (A2 : Option Addr) (c2 : Nat) (A3 : Option Addr) (c3 : Nat) (y : WV) (B0 : Option Addr) (d0 : Nat) (B1 : Option Addr) (d1 : Nat) (B2 : Option Addr) (d2 : Nat) (B3 : Option Addr) (d3 : Nat)
    (r0 r1 r2 r3 : Bool) (k : Nat) (w : World) (hI : WIn w x A0 c0 A1 c1 A2 c2 A3 c3) (hJ : WIn w y B0 d0 B1 d1 B2 d2 B3 d3)
    (h0 : slices_Equal_string_string.f k x.nm y.nm = some r0) (h1 : slices_Equal_int_int.f k x.wd y.wd = some r1) (h2 : slices_Equal_string_string.f k x.fi y.fi = some r2) (h3 : x.li.length ≤ y.li.length → api_Change_52.f k x.li (y.li.take x.li.length) = some r3) :
    Calls Tryd.prog 24 #[wvV x A0 c0 A1 c1 A2 c2 A3 c3, wvV y B0 d0 B1 d1 B2 d2 B3 d3] w fun e w' => e = .returned (.bool (begB x y r0 r1 r2 r3)) ∧ Below w.heap.size w w' := by
  have HI := Lib.hid hI
  have HJ := Lib.hid hJ
  have hcx := fun W => fun h => check_any x A0 c0 A1 c1 A2 c2 A3 c3 W h
  have hcy := fun W => fun h => check_any y B0 d0 B1 d1 B2 d2 B3 d3 W h
  have q0 := fun W (hb : Below w.heap.size w W) => eqS_any k A0 c0 x.nm B0 d0 y.nm r0 W (hI.below hb).h0 hI.l0 (hJ.below hb).h0 hJ.l0 h0
  have q1 := fun W (hb : Below w.heap.size w W) => eqI_any k A1 c1 x.wd B1 d1 y.wd r1 W (hI.below hb).h1 hI.l1 (hJ.below hb).h1 hJ.l1 h1
  have q2 := fun W (hb : Below w.heap.size w W) => eqS_any k A2 c2 x.fi B2 d2 y.fi r2 W (hI.below hb).h2 hI.l2 (hJ.below hb).h2 hJ.l2 h2
  have q3 := fun (hle : x.li.length ≤ y.li.length) W (hb : Below w.heap.size w W) => eqC_any k x.li.length A3 c3 x.li B3 d3 (y.li.take x.li.length) r3 W (by rw [List.length_take]; omega) (hI.below hb).h3 hI.l3 (Kd.C_take (hJ.below hb).h3 hle) (by rw [List.length_take]; have := hJ.l3; omega) (h3 hle)
  have hd3 := hJ.l3
  have HQ0 := Lib.hid q0
  have HQ1 := Lib.hid q1
  have HQ2 := Lib.hid q2
  have HQ3 := Lib.hid q3
  clear hI hJ h0 h1 h2 h3 q0 q1 q2 q3
  obtain ⟨ans, hans⟩ : ∃ ans, begB x y r0 r1 r2 r3 = ans := ⟨_, rfl⟩
  rw [hans]
  unfold begB at hans
  generalize mayB x = mx at *
  generalize mayB y = my at *
  have HCx := Lib.hid hcx
  have HCy := Lib.hid hcy
  clear hcx hcy
  obtain ⟨W, hW⟩ : ∃ W, ((w.alloc (Obj.cells #[Value.slice A0 x.nm.length c0, Value.slice A1 x.wd.length c1, Value.slice A2 x.fi.length c2, Value.slice A3 x.li.length c3] 26)).alloc (Obj.cells #[Value.slice B0 y.nm.length d0, Value.slice B1 y.wd.length d1, Value.slice B2 y.fi.length d2, Value.slice B3 y.li.length d3] 26)) = W := ⟨_, rfl⟩
  have hb1 : Below w.heap.size w W := by rw [← hW]; exact below_alloc (below_alloc (Below.refl _ _) _) _
  have hs1 : W.heap.size = w.heap.size + 2 := by rw [← hW]; simp
  have c_0 : W.cell? ⟨w.heap.size, 0, none⟩ = some (.slice A0 x.nm.length c0) := by rw [← hW]; simp [go_sem]
  have e_0 : W.cell? ⟨w.heap.size + 1, 0, none⟩ = some (.slice B0 y.nm.length d0) := by rw [← hW]; simp [go_sem]
  have c_1 : W.cell? ⟨w.heap.size, 1, none⟩ = some (.slice A1 x.wd.length c1) := by rw [← hW]; simp [go_sem]
  have e_1 : W.cell? ⟨w.heap.size + 1, 1, none⟩ = some (.slice B1 y.wd.length d1) := by rw [← hW]; simp [go_sem]
  have c_2 : W.cell? ⟨w.heap.size, 2, none⟩ = some (.slice A2 x.fi.length c2) := by rw [← hW]; simp [go_sem]
  have e_2 : W.cell? ⟨w.heap.size + 1, 2, none⟩ = some (.slice B2 y.fi.length d2) := by rw [← hW]; simp [go_sem]
  have c_3 : W.cell? ⟨w.heap.size, 3, none⟩ = some (.slice A3 x.li.length c3) := by rw [← hW]; simp [go_sem]
  have e_3 : W.cell? ⟨w.heap.size + 1, 3, none⟩ = some (.slice B3 y.li.length d3) := by rw [← hW]; simp [go_sem]
  have HW := Lib.hid hW
  have HB := Lib.hid hb1
  clear hW hb1
  cases mx with
  | false =>
    obtain rfl : ans = false := by rw [← hans]; rfl
    clear hans
    go_enter Tryd.func24, Tryd.ntmps24
    go_wp2_with fail
    rw [HW.out]
    refine (HCx.out W (HI.out.below HB.out)).mono ?_
    rintro e w1 ⟨rfl, hb⟩
    have HB2 := Lib.hid (HB.out.trans (hb.mono HB.out.size))
    clear hb
    go_wp2_with fail
    go_ret
    exact ⟨rfl, HB2.out⟩
  | true =>
    cases my with
    | false =>
      obtain rfl : ans = false := by rw [← hans]; rfl
      clear hans
      go_enter Tryd.func24, Tryd.ntmps24
      go_wp2_with fail
      rw [HW.out]
      refine (HCx.out W (HI.out.below HB.out)).mono ?_
      rintro e w1 ⟨rfl, hb⟩
      obtain ⟨ya, yb⟩ := bcell2 hb
      have z1 : w.heap.size < W.heap.size := by omega
      have z2 : w.heap.size + 1 < W.heap.size := by omega
      have HB2 := Lib.hid (HB.out.trans (hb.mono HB.out.size))
      clear hb
      go_wp2_with fail
      refine (HCy.out w1 (HJ.out.below HB2.out)).mono ?_
      rintro e w2 ⟨rfl, hb⟩
      have HB3 := Lib.hid (HB2.out.trans (hb.mono HB2.out.size))
      clear hb
      go_wp2_with fail
      go_ret
      exact ⟨rfl, HB3.out⟩
    | true =>
      by_cases hle : x.li.length ≤ y.li.length
      · have hq3 := HQ3.out hle
        have HQ3' := Lib.hid hq3
        rw [decide_eq_true hle] at hans
        clear HQ3 hq3
        go_enter Tryd.func24, Tryd.ntmps24
        go_wp2_with fail
        rw [HW.out]
        refine (HCx.out W (HI.out.below HB.out)).mono ?_
        rintro e w1 ⟨rfl, hb⟩
        obtain ⟨ya, yb⟩ := bcell2 hb
        have z1 : w.heap.size < W.heap.size := by omega
        have z2 : w.heap.size + 1 < W.heap.size := by omega
        have HB2 := Lib.hid (HB.out.trans (hb.mono HB.out.size))
        have HC2 := Lib.hid hb
        clear hb
        have hans' := Lib.hid hans
        clear hans
        go_wp2_with fail
        refine (HCy.out w1 (HJ.out.below HB2.out)).mono ?_
        rintro e w2 ⟨rfl, hb⟩
        have HB3 := Lib.hid (HB2.out.trans (hb.mono HB2.out.size))
        have HC3 := Lib.hid (HC2.out.trans (hb.mono HC2.out.size))
        obtain ⟨yc, yd⟩ := bcell2 HC3.out
        clear hb ya yb
        go_upto_region 3 with fail
        clear yc yd
        have f0 : ∀ p : BelowBy w2, p.W.cell? ⟨w.heap.size, 0, none⟩ = some (.slice A0 x.nm.length c0) := fun p => p.cell ((HC3.out.cell (p := ⟨w.heap.size, 0, none⟩) z1).trans c_0)
        have g0 : ∀ p : BelowBy w2, p.W.cell? ⟨w.heap.size + 1, 0, none⟩ = some (.slice B0 y.nm.length d0) := fun p => p.cell ((HC3.out.cell (p := ⟨w.heap.size + 1, 0, none⟩) z2).trans e_0)
        have f1 : ∀ p : BelowBy w2, p.W.cell? ⟨w.heap.size, 1, none⟩ = some (.slice A1 x.wd.length c1) := fun p => p.cell ((HC3.out.cell (p := ⟨w.heap.size, 1, none⟩) z1).trans c_1)
        have g1 : ∀ p : BelowBy w2, p.W.cell? ⟨w.heap.size + 1, 1, none⟩ = some (.slice B1 y.wd.length d1) := fun p => p.cell ((HC3.out.cell (p := ⟨w.heap.size + 1, 1, none⟩) z2).trans e_1)
        have f2 : ∀ p : BelowBy w2, p.W.cell? ⟨w.heap.size, 2, none⟩ = some (.slice A2 x.fi.length c2) := fun p => p.cell ((HC3.out.cell (p := ⟨w.heap.size, 2, none⟩) z1).trans c_2)
        have g2 : ∀ p : BelowBy w2, p.W.cell? ⟨w.heap.size + 1, 2, none⟩ = some (.slice B2 y.fi.length d2) := fun p => p.cell ((HC3.out.cell (p := ⟨w.heap.size + 1, 2, none⟩) z2).trans e_2)
        have f3 : ∀ p : BelowBy w2, p.W.cell? ⟨w.heap.size, 3, none⟩ = some (.slice A3 x.li.length c3) := fun p => p.cell ((HC3.out.cell (p := ⟨w.heap.size, 3, none⟩) z1).trans c_3)
        have g3 : ∀ p : BelowBy w2, p.W.cell? ⟨w.heap.size + 1, 3, none⟩ = some (.slice B3 y.li.length d3) := fun p => p.cell ((HC3.out.cell (p := ⟨w.heap.size + 1, 3, none⟩) z2).trans e_3)
        clear z1 z2 c_0 c_1 c_2 c_3 e_0 e_1 e_2 e_3 hs1
        have hsl1 : x.li.length ≤ d3 := by omega
        have hsl2 : ¬ d3 < x.li.length := by omega
        have hsl3 : (x.li.length : Int) ≤ (d3 : Int) := by omega
        have hsl4 : ¬ (d3 : Int) < (x.li.length : Int) := by omega
        have G0 : ∀ p : BelowBy w2, Below w.heap.size w p.W := fun p => HB3.out.trans (p.h.mono HB3.out.size)
        have HG := Lib.hid G0
        clear G0
        have hans := hans'.out
        clear hans'
        cases r0
        all_goals try cases r1
        all_goals try cases r2
        all_goals try cases r3
        all_goals
          have hans2 := hans
          simp only [Bool.true_and, Bool.false_and] at hans2
          clear hans
          subst hans2
          refine region_below (by kernel_rfl) (by kernel_rfl) ?_
          repeat (quiet_step (with_reducible first | exact call_below _ (HQ0.out _ (HG.out _)) | exact call_below _ (HQ1.out _ (HG.out _)) | exact call_below _ (HQ2.out _ (HG.out _)) | exact call_below _ (HQ3'.out _ (HG.out _))))
          refine wpQuiet_nil ?_
          rintro _ ⟨p, rfl⟩
          go_wp2_with fail
          go_ret
          exact ⟨rfl, HG.out p⟩
      · have hlt : decide (y.li.length < x.li.length) = true := by rw [decide_eq_true_eq]; omega
        have hlt2 : y.li.length < x.li.length := by omega
        rw [decide_eq_false hle] at hans
        obtain rfl : ans = false := by rw [← hans]; rfl
        clear hans hle
        go_enter Tryd.func24, Tryd.ntmps24
        go_wp2_with fail
        rw [HW.out]
        refine (HCx.out W (HI.out.below HB.out)).mono ?_
        rintro e w1 ⟨rfl, hb⟩
        obtain ⟨ya, yb⟩ := bcell2 hb
        have z1 : w.heap.size < W.heap.size := by omega
        have z2 : w.heap.size + 1 < W.heap.size := by omega
        have HB2 := Lib.hid (HB.out.trans (hb.mono HB.out.size))
        have HC2 := Lib.hid hb
        clear hb
        go_wp2_with fail
        refine (HCy.out w1 (HJ.out.below HB2.out)).mono ?_
        rintro e w2 ⟨rfl, hb⟩
        have HB3 := Lib.hid (HB2.out.trans (hb.mono HB2.out.size))
        obtain ⟨yc, yd⟩ := bcell2 (HC2.out.trans (hb.mono HC2.out.size))
        clear hb ya yb
        go_wp2_with fail
        go_ret
        exact ⟨rfl, HB3.out⟩
end Go.Proofs.YtcbkgammlfjjoaaDoor
