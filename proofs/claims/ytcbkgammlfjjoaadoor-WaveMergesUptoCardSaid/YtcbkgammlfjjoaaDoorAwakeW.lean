/- The wave seat's awake, walked. -/
import Derived.Test.YtcbkgammlfjjoaaDoorCut
import Derived.Test.YtcbkgammlfjjoaaDoorAt
import Derived.Test.YtcbkgammlfjjoaaDoorBegins
namespace Go.Proofs.YtcbkgammlfjjoaaDoor
set_option linter.unusedVariables false
set_option linter.unusedSimpArgs false
open Go.RowKit Go.Proofs.YtcbkgammlfjjoaaDoorW.PrintWords Go.Proofs.YtcbkgammlfjjoaaDoorW.PrintLast Go.Proofs.YtcbkgammlfjjoaaDoorW.PrintMore

abbrev bA : ByteArray := ⟨#[97]⟩
abbrev bX : ByteArray := ⟨#[120]⟩
abbrev b0 : ByteArray := ⟨#[48]⟩
abbrev b1 : ByteArray := ⟨#[49]⟩
/-- awake's waveform, and it cut -/
abbrev xw : WV := ⟨[bA], [1], [bX], [⟨1, 0, b0⟩, ⟨3, 0, b1⟩]⟩
abbrev xc : WV := ⟨[bA], [1], [bX], [⟨1, 0, b0⟩]⟩
theorem xw_may : mayB xw = true := by kernel_rfl
theorem xc_may : mayB xc = true := by kernel_rfl
theorem xw_cut : xw.li.take (untilN xw.li 3) = xc.li := by kernel_rfl
theorem xw_at : atF xw 2 = [b0] := by kernel_rfl
theorem C_str1 {W : World} {b : Nat} {s : ByteArray} (h : W.cell? ⟨b, 0, none⟩ = some (.string s)) : Kd.C Kd.string W (some ⟨b, 0, none⟩) 1 [s] := by
  refine ⟨rfl, by decide, fun _ => ⟨_, rfl, fun j p hj => ?_⟩⟩
  cases j with
  | zero =>
    injection hj with hj
    subst hj
    exact ⟨[.string s], rfl, rfl, fun i u hu => by
      cases i with
      | zero => injection hu with hu; subst hu; exact h
      | succ i => cases hu⟩
  | succ j => cases hj
theorem C_int1 {W : World} {b : Nat} {n : Int} (h : W.cell? ⟨b, 0, none⟩ = some (.int .i64 n)) : Kd.C (Kd.int .i64) W (some ⟨b, 0, none⟩) 1 [n] := by
  refine ⟨rfl, by decide, fun _ => ⟨_, rfl, fun j p hj => ?_⟩⟩
  cases j with
  | zero =>
    injection hj with hj
    subst hj
    exact ⟨[.int .i64 n], rfl, rfl, fun i u hu => by
      cases i with
      | zero => injection hu with hu; subst hu; exact h
      | succ i => cases hu⟩
  | succ j => cases hj
theorem C_chg2 {W : World} {b : Nat} {c d : S59} (h0 : W.cell? ⟨b, 0, none⟩ = some (.int .i64 c.f0)) (h1 : W.cell? ⟨b, 1, none⟩ = some (.int .i64 c.f1)) (h2 : W.cell? ⟨b, 2, none⟩ = some (.string c.f2))
    (h3 : W.cell? ⟨b, 3, none⟩ = some (.int .i64 d.f0)) (h4 : W.cell? ⟨b, 4, none⟩ = some (.int .i64 d.f1)) (h5 : W.cell? ⟨b, 5, none⟩ = some (.string d.f2)) : Kd.C k59 W (some ⟨b, 0, none⟩) 2 [c, d] := by
  refine ⟨rfl, by decide, fun _ => ⟨_, rfl, fun j p hj => ?_⟩⟩
  cases j with
  | zero =>
    injection hj with hj
    subst hj
    exact ⟨_, rfl, k59_mk W c, fun i u hu => by
      match i, hu with
      | 0, hu => injection hu with hu; subst hu; exact h0
      | 1, hu => injection hu with hu; subst hu; exact h1
      | 2, hu => injection hu with hu; subst hu; exact h2⟩
  | succ j =>
    cases j with
    | zero =>
      injection hj with hj
      subst hj
      exact ⟨_, rfl, k59_mk W d, fun i u hu => by
        match i, hu with
        | 0, hu => injection hu with hu; subst hu; exact h3
        | 1, hu => injection hu with hu; subst hu; exact h4
        | 2, hu => injection hu with hu; subst hu; exact h5⟩
    | succ j => cases hj
/-- a waveform of one's own, as an argument -/
theorem OwnIn.win {w0 w : World} {x y : WV} {l : List S59} {v0 v1 v2 v3 : Value} (h : OwnIn w0 w x l v0 v1 v2 v3) (e : y = { x with li := l }) (z0 : ∀ s ∈ x.nm, s.size ≤ 9223372036854775807) (z2 : ∀ s ∈ x.fi, s.size ≤ 9223372036854775807) (z3 : ∀ c ∈ l, c.f2.size ≤ 9223372036854775807) (b3 : l.length * 32 ≤ 140737488355328) :
    ∃ A0 c0 A1 c1 A2 c2 A3 c3, v0 = .slice A0 y.nm.length c0 ∧ v1 = .slice A1 y.wd.length c1 ∧ v2 = .slice A2 y.fi.length c2 ∧ v3 = .slice A3 y.li.length c3 ∧ WIn w y A0 c0 A1 c1 A2 c2 A3 c3 := by
  subst e
  obtain ⟨A0, c0, e0, l0, h0, a0⟩ := R_in h.r0
  obtain ⟨A1, c1, e1, l1, h1, a1⟩ := R_in h.r1
  obtain ⟨A2, c2, e2, l2, h2, a2⟩ := R_in h.r2
  obtain ⟨A3, c3, e3, l3, h3, a3⟩ := R_in h.r3
  exact ⟨A0, c0, A1, c1, A2, c2, A3, c3, e0, e1, e2, e3, ⟨h0, h1, h2, h3, l0, l1, l2, l3, a0, a1, a2, a3, z0, z2, z3, b3⟩⟩
set_option maxRecDepth 100000 in
set_option maxHeartbeats 4000000 in
theorem awakeW_any (w : World) : Calls Tryd.prog 18 #[] w fun e w' => e = .returned (.bool true) ∧ Below w.heap.size w w' := by
  go_enter Tryd.func18, Tryd.ntmps18
  go_wp2_with fail
  obtain ⟨W, hW⟩ : ∃ W, (((((w.alloc (.cells #[.string bA] 9)).alloc (.cells #[.int .i64 1] 3)).alloc (.cells #[.string bX] 9)).alloc (.cells #[.int .i64 1, .int .i64 0, .string b0, .int .i64 3, .int .i64 0, .string b1] 59)).alloc (.cells #[.slice (some ⟨w.heap.size, 0, none⟩) 1 1, .slice (some ⟨w.heap.size + 1, 0, none⟩) 1 1, .slice (some ⟨w.heap.size + 1 + 1, 0, none⟩) 1 1, .slice (some ⟨w.heap.size + 1 + 1 + 1, 0, none⟩) 2 2] 26)) = W := ⟨_, rfl⟩
  have hb : Below w.heap.size w W := by rw [← hW]; exact below_alloc (below_alloc (below_alloc (below_alloc (below_alloc (Below.refl _ _) _) _) _) _) _
  have hs : W.heap.size = w.heap.size + 5 := by rw [← hW]; simp
  have k0 : W.cell? ⟨w.heap.size, 0, none⟩ = some (.string bA) := by rw [← hW]; simp [go_sem]
  have k1 : W.cell? ⟨w.heap.size + 1, 0, none⟩ = some (.int .i64 1) := by rw [← hW]; simp [go_sem]
  have k2 : W.cell? ⟨w.heap.size + 1 + 1, 0, none⟩ = some (.string bX) := by rw [← hW]; simp [go_sem]
  have k30 : W.cell? ⟨w.heap.size + 1 + 1 + 1, 0, none⟩ = some (.int .i64 1) := by rw [← hW]; simp [go_sem]
  have k31 : W.cell? ⟨w.heap.size + 1 + 1 + 1, 1, none⟩ = some (.int .i64 0) := by rw [← hW]; simp [go_sem]
  have k32 : W.cell? ⟨w.heap.size + 1 + 1 + 1, 2, none⟩ = some (.string b0) := by rw [← hW]; simp [go_sem]
  have k33 : W.cell? ⟨w.heap.size + 1 + 1 + 1, 3, none⟩ = some (.int .i64 3) := by rw [← hW]; simp [go_sem]
  have k34 : W.cell? ⟨w.heap.size + 1 + 1 + 1, 4, none⟩ = some (.int .i64 0) := by rw [← hW]; simp [go_sem]
  have k35 : W.cell? ⟨w.heap.size + 1 + 1 + 1, 5, none⟩ = some (.string b1) := by rw [← hW]; simp [go_sem]
  have a0 : W.cell? ⟨w.heap.size + 1 + 1 + 1 + 1, 0, none⟩ = some (.slice (some ⟨w.heap.size, 0, none⟩) 1 1) := by rw [← hW]; simp [go_sem]
  have a1 : W.cell? ⟨w.heap.size + 1 + 1 + 1 + 1, 1, none⟩ = some (.slice (some ⟨w.heap.size + 1, 0, none⟩) 1 1) := by rw [← hW]; simp [go_sem]
  have a2 : W.cell? ⟨w.heap.size + 1 + 1 + 1 + 1, 2, none⟩ = some (.slice (some ⟨w.heap.size + 1 + 1, 0, none⟩) 1 1) := by rw [← hW]; simp [go_sem]
  have a3 : W.cell? ⟨w.heap.size + 1 + 1 + 1 + 1, 3, none⟩ = some (.slice (some ⟨w.heap.size + 1 + 1 + 1, 0, none⟩) 2 2) := by rw [← hW]; simp [go_sem]
  have hI : WIn W xw (some ⟨w.heap.size, 0, none⟩) 1 (some ⟨w.heap.size + 1, 0, none⟩) 1 (some ⟨w.heap.size + 1 + 1, 0, none⟩) 1 (some ⟨w.heap.size + 1 + 1 + 1, 0, none⟩) 2 :=
    ⟨C_str1 k0, C_int1 k1, C_str1 k2, C_chg2 (c := ⟨1, 0, b0⟩) (d := ⟨3, 0, b1⟩) k30 k31 k32 k33 k34 k35, by decide, by decide, by decide, by decide, Or.inr ⟨_, _, rfl⟩, Or.inr ⟨_, _, rfl⟩, Or.inr ⟨_, _, rfl⟩, Or.inr ⟨_, _, rfl⟩, by decide, by decide, by decide, by decide⟩
  have HI := Lib.hid hI
  have HB := Lib.hid hb
  have hz : w.heap.size + 1 + 1 + 1 + 1 < W.heap.size := by omega
  have hcut := cut_ok xw (some ⟨w.heap.size, 0, none⟩) 1 (some ⟨w.heap.size + 1, 0, none⟩) 1 (some ⟨w.heap.size + 1 + 1, 0, none⟩) 1 (some ⟨w.heap.size + 1 + 1 + 1, 0, none⟩) 2 3 W hI xw_may (by decide)
  clear hI hb k0 k1 k2 k30 k31 k32 k33 k34 k35
  rw [hW]
  clear hW
  refine hcut.mono ?_
  clear hcut
  rintro e w1 ⟨v0, v1, v2, v3, rfl, hb1, ho⟩
  rw [xw_cut] at ho
  obtain ⟨A0, c0, A1, c1, A2, c2, A3, c3, rfl, rfl, rfl, rfl, hJ⟩ := ho.win (y := xc) rfl (by decide) (by decide) (by decide) (by decide)
  have HJ := Lib.hid hJ
  have HN := Lib.hid hb1
  have HZ := Lib.hid hz
  have e0 := (hb1.cell (p := ⟨w.heap.size + 1 + 1 + 1 + 1, 0, none⟩) HZ.out).trans a0
  have e1 := (hb1.cell (p := ⟨w.heap.size + 1 + 1 + 1 + 1, 1, none⟩) HZ.out).trans a1
  have e2 := (hb1.cell (p := ⟨w.heap.size + 1 + 1 + 1 + 1, 2, none⟩) HZ.out).trans a2
  have e3 := (hb1.cell (p := ⟨w.heap.size + 1 + 1 + 1 + 1, 3, none⟩) HZ.out).trans a3
  have z1 : w.heap.size + 1 + 1 + 1 + 1 < w1.heap.size := Nat.lt_of_lt_of_le hz hb1.size
  clear ho hJ hb1 a0 a1 a2 a3 hz hs
  go_wp2_with fail
  obtain ⟨W2, hW2⟩ : ∃ W2, w1.alloc (Obj.cells #[Value.slice A0 1 c0, Value.slice A1 1 c1, Value.slice A2 1 c2, Value.slice A3 1 c3] 26) = W2 := ⟨_, rfl⟩
  have hb2 : Below w1.heap.size w1 W2 := by rw [← hW2]; exact below_alloc (Below.refl _ _) _
  have hz2 : w1.heap.size < W2.heap.size := by rw [← hW2]; simp
  have f0 : W2.cell? ⟨w1.heap.size, 0, none⟩ = some (.slice A0 1 c0) := by rw [← hW2]; simp [go_sem]
  have f1 : W2.cell? ⟨w1.heap.size, 1, none⟩ = some (.slice A1 1 c1) := by rw [← hW2]; simp [go_sem]
  have f2 : W2.cell? ⟨w1.heap.size, 2, none⟩ = some (.slice A2 1 c2) := by rw [← hW2]; simp [go_sem]
  have f3 : W2.cell? ⟨w1.heap.size, 3, none⟩ = some (.slice A3 1 c3) := by rw [← hW2]; simp [go_sem]
  have g0 := (hb2.cell (p := ⟨w.heap.size + 1 + 1 + 1 + 1, 0, none⟩) z1).trans e0
  have g1 := (hb2.cell (p := ⟨w.heap.size + 1 + 1 + 1 + 1, 1, none⟩) z1).trans e1
  have g2 := (hb2.cell (p := ⟨w.heap.size + 1 + 1 + 1 + 1, 2, none⟩) z1).trans e2
  have g3 := (hb2.cell (p := ⟨w.heap.size + 1 + 1 + 1 + 1, 3, none⟩) z1).trans e3
  have HN2 := Lib.hid (HN.out.trans (hb2.mono HN.out.size))
  have HJ2 := Lib.hid (HJ.out.below hb2)
  have hat := at_ok xw (some ⟨w.heap.size, 0, none⟩) 1 (some ⟨w.heap.size + 1, 0, none⟩) 1 (some ⟨w.heap.size + 1 + 1, 0, none⟩) 1 (some ⟨w.heap.size + 1 + 1 + 1, 0, none⟩) 2 2 W2 (HI.out.below HN2.out) xw_may (by decide)
  rw [hW2]
  clear hW2 hb2 e0 e1 e2 e3
  refine hat.mono ?_
  clear hat
  rintro e w3 ⟨v, rfl, hb3, hv⟩
  rw [xw_at] at hv
  obtain ⟨gv, cv, rfl, _, hgv, -⟩ := Kd.R_form hv (by decide)
  have hcv := (Kd.R_cell (enc := Value.string) (h1 := fun _ => rfl) ByteArray.empty hv (0 : Int) (by decide) (by decide)).1
  have hcv' : w3.cell? ⟨gv, 0, none⟩ = some (.string b0) := hcv
  have z3 : w1.heap.size < w3.heap.size := Nat.lt_of_lt_of_le hz2 hb3.size
  have z4 : w.heap.size + 1 + 1 + 1 + 1 < w3.heap.size := by omega
  have p0 := (hb3.cell (p := ⟨w1.heap.size, 0, none⟩) hz2).trans f0
  have p1 := (hb3.cell (p := ⟨w1.heap.size, 1, none⟩) hz2).trans f1
  have p2 := (hb3.cell (p := ⟨w1.heap.size, 2, none⟩) hz2).trans f2
  have p3 := (hb3.cell (p := ⟨w1.heap.size, 3, none⟩) hz2).trans f3
  have q0 := (hb3.cell (p := ⟨w.heap.size + 1 + 1 + 1 + 1, 0, none⟩) (Nat.lt_trans z1 hz2)).trans g0
  have q1 := (hb3.cell (p := ⟨w.heap.size + 1 + 1 + 1 + 1, 1, none⟩) (Nat.lt_trans z1 hz2)).trans g1
  have q2 := (hb3.cell (p := ⟨w.heap.size + 1 + 1 + 1 + 1, 2, none⟩) (Nat.lt_trans z1 hz2)).trans g2
  have q3 := (hb3.cell (p := ⟨w.heap.size + 1 + 1 + 1 + 1, 3, none⟩) (Nat.lt_trans z1 hz2)).trans g3
  have HN3 := Lib.hid (HN2.out.trans (hb3.mono HN2.out.size))
  have HJ3 := Lib.hid (HJ2.out.below hb3)
  have HZ3 := Lib.hid z3
  have HZ4 := Lib.hid z4
  clear hv hcv hb3 f0 f1 f2 f3 g0 g1 g2 g3 hz2 z1 z3 z4
  go_wp2_with fail
  have hck := check_any xw (some ⟨w.heap.size, 0, none⟩) 1 (some ⟨w.heap.size + 1, 0, none⟩) 1 (some ⟨w.heap.size + 1 + 1, 0, none⟩) 1 (some ⟨w.heap.size + 1 + 1 + 1, 0, none⟩) 2 w3 (HI.out.below HN3.out)
  rw [xw_may] at hck
  refine hck.mono ?_
  clear hck
  rintro e w4 ⟨rfl, hb4⟩
  have hv4 := (hb4.cell (p := ⟨gv, 0, none⟩) hgv).trans hcv'
  have r0 := (hb4.cell (p := ⟨w1.heap.size, 0, none⟩) HZ3.out).trans p0
  have s0 := (hb4.cell (p := ⟨w.heap.size + 1 + 1 + 1 + 1, 0, none⟩) HZ4.out).trans q0
  have r1 := (hb4.cell (p := ⟨w1.heap.size, 1, none⟩) HZ3.out).trans p1
  have s1 := (hb4.cell (p := ⟨w.heap.size + 1 + 1 + 1 + 1, 1, none⟩) HZ4.out).trans q1
  have r2 := (hb4.cell (p := ⟨w1.heap.size, 2, none⟩) HZ3.out).trans p2
  have s2 := (hb4.cell (p := ⟨w.heap.size + 1 + 1 + 1 + 1, 2, none⟩) HZ4.out).trans q2
  have r3 := (hb4.cell (p := ⟨w1.heap.size, 3, none⟩) HZ3.out).trans p3
  have s3 := (hb4.cell (p := ⟨w.heap.size + 1 + 1 + 1 + 1, 3, none⟩) HZ4.out).trans q3
  have HN4 := Lib.hid (HN3.out.trans (hb4.mono HN3.out.size))
  have HJ4 := Lib.hid (HJ3.out.below hb4)
  have HZ5 := Lib.hid (Nat.lt_of_lt_of_le HZ3.out hb4.size)
  have HZ6 := Lib.hid (Nat.lt_of_lt_of_le HZ4.out hb4.size)
  clear hb4 hcv' p0 p1 p2 p3 q0 q1 q2 q3 hgv
  go_wp2_with fail
  have hbg := begins_any xc A0 c0 A1 c1 A2 c2 A3 c3 xw (some ⟨w.heap.size, 0, none⟩) 1 (some ⟨w.heap.size + 1, 0, none⟩) 1 (some ⟨w.heap.size + 1 + 1, 0, none⟩) 1 (some ⟨w.heap.size + 1 + 1 + 1, 0, none⟩) 2 true true true true 10 w4 HJ4.out (HI.out.below HN4.out) (by kernel_rfl) (by kernel_rfl) (by kernel_rfl) (fun _ => by kernel_rfl)
  rw [show begB xc xw true true true true = true from by kernel_rfl] at hbg
  refine hbg.mono ?_
  clear hbg
  rintro e w5 ⟨rfl, hb5⟩
  have t0 := (hb5.cell (p := ⟨w1.heap.size, 0, none⟩) HZ5.out).trans r0
  have u0 := (hb5.cell (p := ⟨w.heap.size + 1 + 1 + 1 + 1, 0, none⟩) HZ6.out).trans s0
  have t1 := (hb5.cell (p := ⟨w1.heap.size, 1, none⟩) HZ5.out).trans r1
  have u1 := (hb5.cell (p := ⟨w.heap.size + 1 + 1 + 1 + 1, 1, none⟩) HZ6.out).trans s1
  have t2 := (hb5.cell (p := ⟨w1.heap.size, 2, none⟩) HZ5.out).trans r2
  have u2 := (hb5.cell (p := ⟨w.heap.size + 1 + 1 + 1 + 1, 2, none⟩) HZ6.out).trans s2
  have t3 := (hb5.cell (p := ⟨w1.heap.size, 3, none⟩) HZ5.out).trans r3
  have u3 := (hb5.cell (p := ⟨w.heap.size + 1 + 1 + 1 + 1, 3, none⟩) HZ6.out).trans s3
  have HN5 := Lib.hid (HN4.out.trans (hb5.mono HN4.out.size))
  have HJ5 := Lib.hid (HJ4.out.below hb5)
  clear hb5 r0 r1 r2 r3 s0 s1 s2 s3
  go_wp2_with fail
  have hbg := begins_any xw (some ⟨w.heap.size, 0, none⟩) 1 (some ⟨w.heap.size + 1, 0, none⟩) 1 (some ⟨w.heap.size + 1 + 1, 0, none⟩) 1 (some ⟨w.heap.size + 1 + 1 + 1, 0, none⟩) 2 xc A0 c0 A1 c1 A2 c2 A3 c3 true true true true 10 w5 (HI.out.below HN5.out) HJ5.out (by kernel_rfl) (by kernel_rfl) (by kernel_rfl) (fun h => absurd h (by decide))
  rw [show begB xw xc true true true true = false from by kernel_rfl] at hbg
  refine hbg.mono ?_
  clear hbg
  rintro e w6 ⟨rfl, hb6⟩
  have HN6 := Lib.hid (HB.out.trans ((HN5.out.trans (hb6.mono HN5.out.size)).mono HB.out.size))
  clear hb6
  go_wp2_with fail
  go_ret
  exact ⟨rfl, HN6.out⟩
end Go.Proofs.YtcbkgammlfjjoaaDoor
