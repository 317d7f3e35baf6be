/- PartTurns: the statement's own function, walked. -/
import Derived.Test.YtonnmkhmhndalaaDoorZj
import Derived.Test.YtonnmkhmhndalaaDoorZq
import Derived.Test.YtonnmkhmhndalaaDoorZr
section
namespace Go.Proofs.YtonnmkhmhndalaaDoor
set_option linter.unusedVariables false
set_option linter.unusedSimpArgs false
open Go.RowKit Go.Proofs.YtonnmkhmhndalaaDoorW.PrintWords Go.Proofs.YtonnmkhmhndalaaDoorW.PrintLast Go.Proofs.YtonnmkhmhndalaaDoorW.PrintMore
attribute [local irreducible] wpQuiet
theorem set_getD (l : List Int) (i j : Nat) (v : Int) (hj : j < l.length) : (l.set i v).getD j 0 = upd (fun j => l.getD j 0) i v j := by
  by_cases e : j = i
  · subst e; rw [upd_same, List.getD_eq_getElem?_getD, List.getElem?_set_self hj]; rfl
  · rw [upd_ne _ _ e, List.getD_eq_getElem?_getD, List.getElem?_set_ne (Ne.symm e), ← List.getD_eq_getElem?_getD]
theorem set_rows (l : List (List Int)) (i j : Nat) (v : Int) (a b : Nat) (ha : a < l.length) (hb : b < (l.getD a []).length) : ((l.set i ((l.getD i []).set j v)).getD a []).getD b 0 = upd2 (fun i j => (l.getD i []).getD j 0) i j v a b := by
  unfold upd2
  by_cases e : a = i
  · subst e
    rw [List.getD_eq_getElem?_getD (l := l.set a _), List.getElem?_set_self ha]
    show ((l.getD a []).set j v).getD b 0 = _
    rw [set_getD _ _ _ _ hb]
    by_cases e2 : b = j
    · subst e2; rw [upd_same, if_pos ⟨rfl, rfl⟩]
    · rw [upd_ne _ _ e2, if_neg (fun h => e2 h.2)]
  · rw [List.getD_eq_getElem?_getD (l := l.set i _), List.getElem?_set_ne (Ne.symm e), ← List.getD_eq_getElem?_getD, if_neg (fun h => e h.1)]
structure Both (W : World) (vl vp : Value) (r : Int) (ok : Bool) : Prop where
  ck : ∀ q : BelowBy W, Calls Tryd.prog 24 #[vl, vp] q.W fun e w' => e = .returned (.int .i64 r) ∧ ∃ q' : BelowBy W, w' = q'.W
  my : ∀ q : BelowBy W, Calls Tryd.prog 23 #[vl, vp] q.W fun e w' => e = .returned (.bool ok) ∧ ∃ q' : BelowBy W, w' = q'.W
theorem both {x : NL} {A : Option Addr} {c : Nat} {B : Option Addr} {d : Nat} {p : PV} {A2 : Option Addr} {c2 : Nat} {B2 : Option Addr} {d2 : Nat} {W : World} (hI : NIn W x A c B d) (hP : PIn W p A2 c2 B2 d2) (hm : MayP x) :
    Both W (nlV x A c B d) (pV p A2 c2 B2 d2) 0 true ∨ Both W (nlV x A c B d) (pV p A2 c2 B2 d2) 1 false := by
  by_cases hM : PMay x.nd p
  · refine Or.inl ⟨fun q => call_below q ?_, fun q => call_below q ?_⟩
    · refine (pcheck_any x A c B d p A2 c2 B2 d2 q.W (hI.below q.h) (hP.below q.h) hm).mono fun e w' h => ?_
      obtain ⟨r, rfl, h0, h1, h2⟩ := h
      rw [h1.2 hM]; exact ⟨rfl, h2⟩
    · refine (mayP_any x A c B d p A2 c2 B2 d2 q.W (hI.below q.h) (hP.below q.h) hm).mono fun e w' h => ?_
      obtain ⟨b, rfl, h1, h2⟩ := h
      rw [h1.2 hM]; exact ⟨rfl, h2⟩
  · refine Or.inr ⟨fun q => call_below q ?_, fun q => call_below q ?_⟩
    · refine (pcheck_any x A c B d p A2 c2 B2 d2 q.W (hI.below q.h) (hP.below q.h) hm).mono fun e w' h => ?_
      obtain ⟨r, rfl, h0, h1, h2⟩ := h
      have hr : r = 1 := by
        rcases h0 with h | h
        · exact absurd (h1.1 h) hM
        · exact h
      rw [hr]; exact ⟨rfl, h2⟩
    · refine (mayP_any x A c B d p A2 c2 B2 d2 q.W (hI.below q.h) (hP.below q.h) hm).mono fun e w' h => ?_
      obtain ⟨b, rfl, h1, h2⟩ := h
      have hb : b = false := by
        cases b
        · rfl
        · exact absurd (h1.1 rfl) hM
      rw [hb]; exact ⟨rfl, h2⟩
set_option maxRecDepth 100000 in
set_option maxHeartbeats 8000000 in
theorem partTurns_any (gs : List S71) (Ag : Option Addr) (cg : Nat) (a0 a1 a2 by_ : Int) (w : World) (hg : Kd.C k71 w Ag gs.length gs) (hcg : gs.length ≤ cg) (hwf : (Lit.int .i64 by_).wf = true) :
    Calls Tryd.prog 9 #[.slice Ag gs.length cg, .agg #[.int .i64 a0, .int .i64 a1, .int .i64 a2], .int .i64 by_] w fun e w' => e = .returned (.bool true) ∧ Below w.heap.size w w' := by
  have hmd := fun W (hW : Below w.heap.size w W) => made_any gs Ag cg W (Kd.C_below hg hW) hcg
  have HMd := Lib.hid hmd
  have haw := awake13_any
  have HAw := Lib.hid haw
  obtain ⟨q0, hq0, hq02⟩ := mask_lt a0 63 6 (by decide) (by decide)
  obtain ⟨q1, hq1, hq12⟩ := mask_lt a1 255 8 (by decide) (by decide)
  obtain ⟨q2, hq2, hq22⟩ := mask_lt a2 65535 16 (by decide) (by decide)
  obtain ⟨q3, hq3, hq32⟩ := mask_lt (a2 / 65536) 65535 16 (by decide) (by decide)
  have iq0 : bits .and .i64 a0 63 = (q0 : Int) := hq0
  have iq1 : bits .and .i64 a1 255 = (q1 : Int) := hq1
  have iq2 : bits .and .i64 a2 65535 = (q2 : Int) := hq2
  have iq3 : bits .and .i64 (a2 / 65536) 65535 = (q3 : Int) := hq3
  have HI2 := Lib.hid iq2
  have HI3 := Lib.hid iq3
  obtain ⟨m, hm3⟩ : ∃ m, q1 % 3 = m := ⟨_, rfl⟩
  have hm33 : m < 3 := by omega
  have em1 : Int.tmod (q1 : Int) 3 = (m : Int) := by rw [← hm3]; rfl
  have em2 : (q1 : Int) % 3 = (m : Int) := by rw [← hm3]; rfl
  have HQ2 := Lib.hid hq22
  have HQ3 := Lib.hid hq32
  have hk64 : (1 : Int) ≤ 1 + (q0 : Int) ∧ 1 + (q0 : Int) ≤ 64 := by omega
  have HK := Lib.hid hk64
  clear hmd hg hcg haw hq0 hq1 hq2 hq3 hq22 hq32 iq2 iq3 hm3 hk64 hq12
  go_enter Tryd.func9, Tryd.ntmps9
  go_upto_region 1 with fail
  obtain ⟨W0, hW0⟩ : ∃ W, w.alloc (Obj.cells #[.int .i64 a0, .int .i64 a1, .int .i64 a2] 53) = W := ⟨_, rfl⟩
  try rw [hW0]
  have hb0 : Below w.heap.size w W0 := by rw [← hW0]; exact below_alloc (Below.refl _ _) _
  obtain ⟨Ar, hAr⟩ : ∃ T, w.heap.size = T := ⟨_, rfl⟩
  have hz0 : W0.heap[Ar]? = some (.cells #[.int .i64 a0, .int .i64 a1, .int .i64 a2] 53) := by rw [← hW0, ← hAr]; exact blk_new _ _
  rw [hAr]
  have HB0 := Lib.hid hb0
  have HZ0 := Lib.hid hz0
  clear hW0 hb0 hz0 hAr
  go_upto_region 2 with (first
    | fail
    | (go_at_call 18; refine (HMd.out W0 HB0.out).mono ?_; rintro e w1 ⟨x, A, c, B, d, rfl, hI, hG, hm, hn, hb⟩; have HI := Lib.hid hI; have HG := Lib.hid hG; have HM := Lib.hid hm; have HN := Lib.hid hn; have HB := Lib.hid hb; clear hI hG hm hn hb))
  obtain ⟨n, hn⟩ : ∃ n, x.nd.length = n := ⟨_, rfl⟩
  have HNn := Lib.hid hn
  rw [hn]
  obtain ⟨W2, hW2⟩ : ∃ W, w1.alloc (Obj.cells #[.slice A n c, .slice B x.nt.length d, .int .i64 x.pt] 25) = W := ⟨_, rfl⟩
  rw [hW2]
  obtain ⟨L, hL⟩ : ∃ P, w1.heap.size = P := ⟨_, rfl⟩
  obtain ⟨hx2, hb2, hz2⟩ := box_list hW2
  rw [hL] at hx2 ⊢
  have HB2 := Lib.hid ((HB0.out.trans (HB.out.mono HB0.out.size)).trans (hb2.mono (Nat.le_trans HB0.out.size HB.out.size)))
  have HI2' := Lib.hid (HI.out.below hb2)
  have HX2 := Lib.hid hx2
  have HZ2 := Lib.hid ((hb2.block Ar (Nat.lt_of_lt_of_le (blk_lt HZ0.out) HB.out.size)).trans ((HB.out.block Ar (blk_lt HZ0.out)).trans HZ0.out))
  have hrun : Calls Tryd.prog 21 #[.agg #[.slice A n c, .slice B x.nt.length d, .int .i64 x.pt], .int .i64 (1 + (q0 : Int))] W2 (PRunP W2 x (1 + (q0 : Int))) := by
    have h := prun_any x A c B d (1 + (q0 : Int)) W2 HI2'.out
    dsimp only [nlV] at h
    rw [hn] at h
    exact h
  have HRun := Lib.hid hrun
  obtain ⟨x0, x1, x2⟩ := HX2.out
  have z0 := blk_cell HZ2.out 0
  clear hW2 hL hx2 hb2 hz2 hrun
  go_wp2_with fail
  refine HRun.out.mono ?_
  rintro e w3 hP
  have h2 := HG.out.two
  obtain ⟨hb3, p, Bo, D, N, rfl, hM⟩ := hP.ok HK.out HM.out (fun _ _ _ h => HG.out.free h) (by omega)
  rw [hn]
  have hmay := (may_iff x).1 HM.out
  have HC3 := Lib.hid hb3
  have HX3 := Lib.hid (HX2.out.below hb3)
  have HI3' := Lib.hid (HI2'.out.below hb3)
  have HB3 := Lib.hid (HB2.out.trans (hb3.mono HB2.out.size))
  have HZ3 := Lib.hid ((hb3.block Ar (blk_lt HZ2.out)).trans HZ2.out)
  have HPi3 := Lib.hid (hM.inn (by have := HN.out; omega))
  have HPv := Lib.hid hM.val
  have HPm := Lib.hid hM.may
  have HMy := Lib.hid hmay
  have hOf := hM.of
  rw [hn] at hOf
  have HOf := Lib.hid hOf
  have HAh := Lib.hid hM.ah
  have hs1 := hM.s1
  have HS := Lib.hid (show w.heap.size ≤ Bo ∧ Bo < D ∧ W2.heap.size ≤ Bo from ⟨Nat.le_trans HB2.out.size hs1, hM.s2, hs1⟩)
  have HNN := Lib.hid hM.n
  have hN1 : 1 ≤ N ∧ N ≤ 64 := by have h1 := hM.may.n1; have h2 := hM.may.n2; have h3 := hM.n; omega
  have HN1 := Lib.hid hN1
  have hn2 : 2 ≤ n ∧ n ≤ 130 := by have := HN.out; omega
  have HN2 := Lib.hid hn2
  clear hP hb3 hM hmay x0 x1 x2 z0 hn HB2 HZ2 hOf hs1 hn2 h2
  go_upto_region 3 with fail
  obtain ⟨W4, hW4⟩ : ∃ W, w3.alloc (Obj.cells #[Value.slice (some ⟨Bo, 0, none⟩) n n, Value.int .i64 N, Value.slice (some ⟨D, 0, none⟩) N N] 46) = W := ⟨_, rfl⟩
  try rw [hW4]
  have hb4 : Below w3.heap.size w3 W4 := by rw [← hW4]; exact below_alloc (Below.refl _ _) _
  obtain ⟨T, hT⟩ : ∃ T, w3.heap.size = T := ⟨_, rfl⟩
  have hp4 : W4.heap[T]? = some (.cells #[Value.slice (some ⟨Bo, 0, none⟩) n n, Value.int .i64 N, Value.slice (some ⟨D, 0, none⟩) N N] 46) := by rw [← hW4, ← hT]; exact blk_new _ _
  rw [hT]
  have HP4 := Lib.hid hp4
  have HC4 := Lib.hid (HC3.out.trans (hb4.mono HC3.out.size))
  have HX4 := Lib.hid (HX3.out.below hb4)
  have HI4 := Lib.hid (HI3'.out.below hb4)
  have HB4 := Lib.hid (HB3.out.trans (hb4.mono HB3.out.size))
  have HZ4 := Lib.hid ((hb4.block Ar (blk_lt HZ3.out)).trans HZ3.out)
  have HPi4 := Lib.hid (HPi3.out.below hb4)
  have HOf4 := Lib.hid (HOf.out.below hb4 HOf.out.s)
  have HAh4 := Lib.hid (HAh.out.below hb4)
  have HTb := Lib.hid (show Bo < T ∧ D + N < T ∧ w.heap.size ≤ T from ⟨by rw [← hT]; exact HOf.out.s, by rw [← hT]; have h := (HAh.out.r (N - 1) (by have := HN1.out; omega)).s; have := HN1.out; omega, by rw [← hT]; exact HB3.out.size⟩)
  have hmy : Calls Tryd.prog 23 #[.agg #[.slice A n c, .slice B x.nt.length d, .int .i64 x.pt], .agg #[.slice (some ⟨Bo, 0, none⟩) n n, .int .i64 N, .slice (some ⟨D, 0, none⟩) N N]] W4 fun e w' => e = .returned (.bool true) ∧ Below W4.heap.size W4 w' := by
    have h := mayP_any x A c B d p _ _ _ _ W4 HI4.out HPi4.out HMy.out
    rw [← HPv.out] at h
    dsimp only [nlV] at h
    rw [HNn.out] at h
    exact h.mono fun e w' hh => by
      obtain ⟨b, rfl, h1, h2⟩ := hh
      rw [h1.2 HPm.out]
      exact ⟨rfl, h2⟩
  have HMyc := Lib.hid hmy
  have p0 := blk_cell HP4.out 0
  have p1 := blk_cell HP4.out 1
  have p2 := blk_cell HP4.out 2
  obtain ⟨x0, x1, x2⟩ := HX4.out
  clear hb4 hp4 hmy hW4 hT HX3 HI3' HB3 HZ3 HPi3 HOf HAh hN1
  go_upto_region 5 with (first
    | fail
    | (go_at_call 23; refine HMyc.out.mono ?_; rintro e w5 ⟨rfl, hb5⟩; have HP5 := Lib.hid ((hb5.block T (blk_lt HP4.out)).trans HP4.out); have HC5 := Lib.hid (HC4.out.trans (hb5.mono HC4.out.size)); have HB5 := Lib.hid (HB4.out.trans (hb5.mono HB4.out.size)); have HZ5 := Lib.hid ((hb5.block Ar (blk_lt HZ4.out)).trans HZ4.out); have HOf5 := Lib.hid (HOf4.out.below hb5 HOf4.out.s); have HAh5 := Lib.hid (HAh4.out.below hb5); clear hb5))
  have z1 := blk_cell HZ5.out 1
  clear p0 p1 p2 x0 x1 x2 HP4 HX4 HI4 HB4 HZ4 HPi4 HOf4 HAh4 HMyc
  rcases (show m = 0 ∨ m = 1 ∨ m = 2 by omega) with rfl | rfl | rfl
  · obtain ⟨i, hi⟩ : ∃ i, q2 % n = i := ⟨_, rfl⟩
    have hin : i < n := by rw [← hi]; exact Nat.mod_lt _ (by have := HN2.out; omega)
    have ei1 : Int.tmod (q2 : Int) (n : Int) = (i : Int) := by rw [← hi]; rfl
    have ei2 : (q2 : Int) % (n : Int) = (i : Int) := by rw [← hi]; rfl
    have ne0 : ¬ (n : Int) = 0 := by have := HN2.out; omega
    have nn0 : ¬ n = 0 := by have := HN2.out; omega
    have z2 := blk_cell HZ5.out 2
    have p0 := blk_cell HP5.out 0
    have c1 := HOf5.out.c i hin
    have c2 := HOf5.out.f i hin
    have iq2 := HI2.out
    have dT : ¬ Bo = T := by have := HTb.out; omega
    have dT2 : ¬ T = Bo := by have := HTb.out; omega
    go_upto_region 8 with fail
    clear z1
    go_region
    obtain ⟨W6, hW6⟩ : ∃ W, (w5.setCell ⟨Bo, i, none⟩ (.int .i64 by_)).drew = W := ⟨_, rfl⟩
    try rw [hW6]
    have HOf6 : Hid (Cl (Value.int .i64) W6 Bo n (upd (fun j => p.of.getD j 0) i by_)) := Lib.hid (by rw [← hW6]; exact (HOf5.out.set i by_).below (Below.refl _ _).drew (by simpa using HOf5.out.s))
    have HAh6 : Hid (AMem W6 D N (fun i j => (p.ah.getD i []).getD j 0)) := Lib.hid (by rw [← hW6]; exact (HAh5.out.far (by have := HS.out; omega)).below (Below.refl _ _).drew)
    have HP6 : Hid (W6.heap[T]? = some (.cells #[Value.slice (some ⟨Bo, 0, none⟩) n n, Value.int .i64 N, Value.slice (some ⟨D, 0, none⟩) N N] 46)) := Lib.hid (by rw [← hW6]; exact (Below.heap_setCell w5 ⟨Bo, i, none⟩ _ T dT2).trans HP5.out)
    have HB6 : Hid (Below w.heap.size w W6) := Lib.hid (by rw [← hW6]; exact (below_set2 (by have := HS.out; have := HTb.out; omega) HB5.out).drew)
    have HC6 : Hid (Below W2.heap.size W2 W6) := Lib.hid (by rw [← hW6]; exact (below_set2 (by have := HS.out; have := HTb.out; omega) HC5.out).drew)
    have HX6 := Lib.hid (HX2.out.below HC6.out)
    have HI6 := Lib.hid (HI2'.out.below HC6.out)
    obtain ⟨han, har⟩ := HPm.out.an HNN.out
    have hlo := HPm.out.lo
    rw [HNn.out] at hlo
    have HPi6 : Hid (PIn W6 ⟨p.of.set i by_, (N : Int), p.ah⟩ (some ⟨Bo, 0, none⟩) n (some ⟨D, 0, none⟩) N) := Lib.hid (cl_in (HOf6.out.size fun j hj => (set_getD p.of i j by_ (by rw [hlo]; exact hj)).symm) HAh6.out (by show (p.of.set i by_).length = n; rw [List.length_set, hlo]) han har (by have := HN2.out; omega) HN1.out.2)
    clear hW6 z2 p0 c1 c2 iq2 dT dT2 ei1 ei2 ne0 nn0
    go_upto_region 11 with fail
    have hBo : Both W6 (.agg #[.slice A n c, .slice B x.nt.length d, .int .i64 x.pt]) (.agg #[.slice (some ⟨Bo, 0, none⟩) n n, .int .i64 (N : Int), .slice (some ⟨D, 0, none⟩) N N]) 0 true ∨ Both W6 (.agg #[.slice A n c, .slice B x.nt.length d, .int .i64 x.pt]) (.agg #[.slice (some ⟨Bo, 0, none⟩) n n, .int .i64 (N : Int), .slice (some ⟨D, 0, none⟩) N N]) 1 false := by
      have h := both HI6.out HPi6.out HMy.out
      dsimp only [nlV, pV] at h
      rw [HNn.out] at h
      rw [List.length_set, hlo, han] at h
      exact h
    have x0 := HX6.out.k0
    have x1 := HX6.out.k1
    have x2 := HX6.out.k2
    have t0 := blk_cell HP6.out 0
    have t1 := blk_cell HP6.out 1
    have t2 := blk_cell HP6.out 2
    have g0 : ∀ q : BelowBy W6, q.W.cell? ⟨L, 0, none⟩ = some (.slice A n c) := fun q => q.cell x0
    have g1 : ∀ q : BelowBy W6, q.W.cell? ⟨L, 1, none⟩ = some (.slice B x.nt.length d) := fun q => q.cell x1
    have g2 : ∀ q : BelowBy W6, q.W.cell? ⟨L, 2, none⟩ = some (.int .i64 x.pt) := fun q => q.cell x2
    have g3 : ∀ q : BelowBy W6, q.W.cell? ⟨T, 0, none⟩ = some (.slice (some ⟨Bo, 0, none⟩) n n) := fun q => q.cell t0
    have g4 : ∀ q : BelowBy W6, q.W.cell? ⟨T, 1, none⟩ = some (.int .i64 (N : Int)) := fun q => q.cell t1
    have g5 : ∀ q : BelowBy W6, q.W.cell? ⟨T, 2, none⟩ = some (.slice (some ⟨D, 0, none⟩) N N) := fun q => q.cell t2
    clear x0 x1 x2 t0 t1 t2
    rcases hBo with hBo | hBo
    all_goals
      have HBo := Lib.hid hBo
      clear hBo
      refine region_below (by kernel_rfl) (by kernel_rfl) ?_
      repeat (quiet_step (with_reducible first | exact HBo.out.ck _ | exact HBo.out.my _ | exact call_below _ (HAw.out _) | fail))
      refine wpQuiet_nil ?_
      rintro _ ⟨r, rfl⟩
      clear g0 g1 g2 g3 g4 g5
      go_wp2_with fail
      go_ret
      exact ⟨by try rfl, HB6.out.trans (r.h.mono HB6.out.size)⟩
  · obtain ⟨i, hi⟩ : ∃ i, q2 % N = i := ⟨_, rfl⟩
    obtain ⟨j, hj⟩ : ∃ j, q3 % N = j := ⟨_, rfl⟩
    have hin : i < N := by rw [← hi]; exact Nat.mod_lt _ (by have := HN1.out; omega)
    have hjn : j < N := by rw [← hj]; exact Nat.mod_lt _ (by have := HN1.out; omega)
    have ei1 : Int.tmod (q2 : Int) (N : Int) = (i : Int) := by rw [← hi]; rfl
    have ei2 : (q2 : Int) % (N : Int) = (i : Int) := by rw [← hi]; rfl
    have ej1 : Int.tmod (q3 : Int) (N : Int) = (j : Int) := by rw [← hj]; rfl
    have ej2 : (q3 : Int) % (N : Int) = (j : Int) := by rw [← hj]; rfl
    have ne0 : ¬ (N : Int) = 0 := by have := HN1.out; omega
    have nn0 : ¬ N = 0 := by have := HN1.out; omega
    have z2 := blk_cell HZ5.out 2
    have p1 := blk_cell HP5.out 1
    have p2 := blk_cell HP5.out 2
    have c0 := HAh5.out.c.c i hin
    have c1 := (HAh5.out.r i hin).c j hjn
    have c2 := (HAh5.out.r i hin).f j hjn
    have iq2 := HI2.out
    have iq3 := HI3.out
    have dT : ¬ D + 1 + i = T := by have := HTb.out; omega
    have dT2 : ¬ T = D + 1 + i := by have := HTb.out; omega
    have dD : ¬ D + 1 + i = D := by omega
    have dD2 : ¬ D = D + 1 + i := by omega
    go_upto_region 10 with fail
    clear z1
    go_region
    obtain ⟨W6, hW6⟩ : ∃ W, (w5.setCell ⟨D + 1 + i, j, none⟩ (.int .i64 by_)).drew = W := ⟨_, rfl⟩
    try rw [hW6]
    have HOf6 : Hid (Cl (Value.int .i64) W6 Bo n (fun j => p.of.getD j 0)) := Lib.hid (by rw [← hW6]; exact (HOf5.out.far (by have := HS.out; omega) _).below (Below.refl _ _).drew (by simpa using HOf5.out.s))
    have HAh6 : Hid (AMem W6 D N (upd2 (fun i j => (p.ah.getD i []).getD j 0) i j by_)) := Lib.hid (by rw [← hW6]; exact (HAh5.out.set hin j by_).below (Below.refl _ _).drew)
    have HP6 : Hid (W6.heap[T]? = some (.cells #[Value.slice (some ⟨Bo, 0, none⟩) n n, Value.int .i64 N, Value.slice (some ⟨D, 0, none⟩) N N] 46)) := Lib.hid (by rw [← hW6]; exact (Below.heap_setCell w5 ⟨D + 1 + i, j, none⟩ _ T dT2).trans HP5.out)
    have HB6 : Hid (Below w.heap.size w W6) := Lib.hid (by rw [← hW6]; exact (below_set2 (by have := HS.out; have := HTb.out; omega) HB5.out).drew)
    have HC6 : Hid (Below W2.heap.size W2 W6) := Lib.hid (by rw [← hW6]; exact (below_set2 (by have := HS.out; have := HTb.out; omega) HC5.out).drew)
    have HX6 := Lib.hid (HX2.out.below HC6.out)
    have HI6 := Lib.hid (HI2'.out.below HC6.out)
    obtain ⟨han, har⟩ := HPm.out.an HNN.out
    have hlo := HPm.out.lo
    rw [HNn.out] at hlo
    have HPi6 : Hid (PIn W6 ⟨p.of, (N : Int), p.ah.set i ((p.ah.getD i []).set j by_)⟩ (some ⟨Bo, 0, none⟩) n (some ⟨D, 0, none⟩) N) := Lib.hid (cl_in HOf6.out (HAh6.out.size fun a b ha hb => (set_rows p.ah i j by_ a b (by rw [han]; exact ha) (by rw [har a ha]; exact hb)).symm) hlo (by show (p.ah.set i ((p.ah.getD i []).set j by_)).length = N; rw [List.length_set, han]) (fun a ha => by
        show ((p.ah.set i ((p.ah.getD i []).set j by_)).getD a []).length = N
        by_cases e : a = i
        · subst e
          rw [List.getD_eq_getElem?_getD, List.getElem?_set_self (by rw [han]; exact ha)]
          show ((p.ah.getD a []).set j by_).length = N
          rw [List.length_set, har a ha]
        · rw [List.getD_eq_getElem?_getD, List.getElem?_set_ne (Ne.symm e), ← List.getD_eq_getElem?_getD, har a ha]) (by have := HN2.out; omega) HN1.out.2)
    clear hW6 z2 p1 p2 c0 c1 c2 iq2 iq3 dT dT2 dD dD2 ei1 ei2 ej1 ej2 ne0 nn0
    go_upto_region 11 with fail
    have hBo : Both W6 (.agg #[.slice A n c, .slice B x.nt.length d, .int .i64 x.pt]) (.agg #[.slice (some ⟨Bo, 0, none⟩) n n, .int .i64 (N : Int), .slice (some ⟨D, 0, none⟩) N N]) 0 true ∨ Both W6 (.agg #[.slice A n c, .slice B x.nt.length d, .int .i64 x.pt]) (.agg #[.slice (some ⟨Bo, 0, none⟩) n n, .int .i64 (N : Int), .slice (some ⟨D, 0, none⟩) N N]) 1 false := by
      have h := both HI6.out HPi6.out HMy.out
      dsimp only [nlV, pV] at h
      rw [HNn.out] at h
      rw [List.length_set, hlo, han] at h
      exact h
    have x0 := HX6.out.k0
    have x1 := HX6.out.k1
    have x2 := HX6.out.k2
    have t0 := blk_cell HP6.out 0
    have t1 := blk_cell HP6.out 1
    have t2 := blk_cell HP6.out 2
    have g0 : ∀ q : BelowBy W6, q.W.cell? ⟨L, 0, none⟩ = some (.slice A n c) := fun q => q.cell x0
    have g1 : ∀ q : BelowBy W6, q.W.cell? ⟨L, 1, none⟩ = some (.slice B x.nt.length d) := fun q => q.cell x1
    have g2 : ∀ q : BelowBy W6, q.W.cell? ⟨L, 2, none⟩ = some (.int .i64 x.pt) := fun q => q.cell x2
    have g3 : ∀ q : BelowBy W6, q.W.cell? ⟨T, 0, none⟩ = some (.slice (some ⟨Bo, 0, none⟩) n n) := fun q => q.cell t0
    have g4 : ∀ q : BelowBy W6, q.W.cell? ⟨T, 1, none⟩ = some (.int .i64 (N : Int)) := fun q => q.cell t1
    have g5 : ∀ q : BelowBy W6, q.W.cell? ⟨T, 2, none⟩ = some (.slice (some ⟨D, 0, none⟩) N N) := fun q => q.cell t2
    clear x0 x1 x2 t0 t1 t2
    rcases hBo with hBo | hBo
    all_goals
      have HBo := Lib.hid hBo
      clear hBo
      refine region_below (by kernel_rfl) (by kernel_rfl) ?_
      repeat (quiet_step (with_reducible first | exact HBo.out.ck _ | exact HBo.out.my _ | exact call_below _ (HAw.out _) | fail))
      refine wpQuiet_nil ?_
      rintro _ ⟨r, rfl⟩
      clear g0 g1 g2 g3 g4 g5
      go_wp2_with fail
      go_ret
      exact ⟨by try rfl, HB6.out.trans (r.h.mono HB6.out.size)⟩
  · have p1 := blk_cell HP5.out 1
    have f1 := blk_frozen HP5.out 1
    go_upto_region 11 with fail
    obtain ⟨W6, hW6⟩ : ∃ W, w5.setCell ⟨T, 1, none⟩ (.int .i64 by_) = W := ⟨_, rfl⟩
    try rw [hW6]
    have HOf6 : Hid (Cl (Value.int .i64) W6 Bo n (fun j => p.of.getD j 0)) := Lib.hid (by rw [← hW6]; exact HOf5.out.far (by have := HTb.out; omega) _)
    have HAh6 : Hid (AMem W6 D N (fun i j => (p.ah.getD i []).getD j 0)) := Lib.hid (by rw [← hW6]; exact ⟨HAh5.out.c.far (by have := HTb.out; omega) _, fun i hi => (HAh5.out.r i hi).far (by have := HTb.out; omega) _⟩)
    have HP6 : Hid (W6.heap[T]? = some (.cells #[Value.slice (some ⟨Bo, 0, none⟩) n n, Value.int .i64 by_, Value.slice (some ⟨D, 0, none⟩) N N] 46)) := Lib.hid (by rw [← hW6]; exact blk_put HP5.out 1 _ rfl)
    have HB6 : Hid (Below w.heap.size w W6) := Lib.hid (by rw [← hW6]; exact (below_set2 (by have := HS.out; have := HTb.out; omega) HB5.out))
    have HC6 : Hid (Below W2.heap.size W2 W6) := Lib.hid (by rw [← hW6]; exact (below_set2 (by have := HS.out; have := HTb.out; omega) HC5.out))
    have HX6 := Lib.hid (HX2.out.below HC6.out)
    have HI6 := Lib.hid (HI2'.out.below HC6.out)
    obtain ⟨han, har⟩ := HPm.out.an HNN.out
    have hlo := HPm.out.lo
    rw [HNn.out] at hlo
    have HPi6 : Hid (PIn W6 ⟨p.of, by_, p.ah⟩ (some ⟨Bo, 0, none⟩) n (some ⟨D, 0, none⟩) N) := Lib.hid (cl_in HOf6.out HAh6.out hlo han har (by have := HN2.out; omega) HN1.out.2)
    clear hW6 p1 f1 z1
    have hBo : Both W6 (.agg #[.slice A n c, .slice B x.nt.length d, .int .i64 x.pt]) (.agg #[.slice (some ⟨Bo, 0, none⟩) n n, .int .i64 by_, .slice (some ⟨D, 0, none⟩) N N]) 0 true ∨ Both W6 (.agg #[.slice A n c, .slice B x.nt.length d, .int .i64 x.pt]) (.agg #[.slice (some ⟨Bo, 0, none⟩) n n, .int .i64 by_, .slice (some ⟨D, 0, none⟩) N N]) 1 false := by
      have h := both HI6.out HPi6.out HMy.out
      dsimp only [nlV, pV] at h
      rw [HNn.out] at h
      rw [hlo, han] at h
      exact h
    have x0 := HX6.out.k0
    have x1 := HX6.out.k1
    have x2 := HX6.out.k2
    have t0 := blk_cell HP6.out 0
    have t1 := blk_cell HP6.out 1
    have t2 := blk_cell HP6.out 2
    have g0 : ∀ q : BelowBy W6, q.W.cell? ⟨L, 0, none⟩ = some (.slice A n c) := fun q => q.cell x0
    have g1 : ∀ q : BelowBy W6, q.W.cell? ⟨L, 1, none⟩ = some (.slice B x.nt.length d) := fun q => q.cell x1
    have g2 : ∀ q : BelowBy W6, q.W.cell? ⟨L, 2, none⟩ = some (.int .i64 x.pt) := fun q => q.cell x2
    have g3 : ∀ q : BelowBy W6, q.W.cell? ⟨T, 0, none⟩ = some (.slice (some ⟨Bo, 0, none⟩) n n) := fun q => q.cell t0
    have g4 : ∀ q : BelowBy W6, q.W.cell? ⟨T, 1, none⟩ = some (.int .i64 by_) := fun q => q.cell t1
    have g5 : ∀ q : BelowBy W6, q.W.cell? ⟨T, 2, none⟩ = some (.slice (some ⟨D, 0, none⟩) N N) := fun q => q.cell t2
    clear x0 x1 x2 t0 t1 t2
    rcases hBo with hBo | hBo
    all_goals
      have HBo := Lib.hid hBo
      clear hBo
      refine region_below (by kernel_rfl) (by kernel_rfl) ?_
      repeat (quiet_step (with_reducible first | exact HBo.out.ck _ | exact HBo.out.my _ | exact call_below _ (HAw.out _) | fail))
      refine wpQuiet_nil ?_
      rintro _ ⟨r, rfl⟩
      clear g0 g1 g2 g3 g4 g5
      go_wp2_with fail
      go_ret
      exact ⟨by try rfl, HB6.out.trans (r.h.mono HB6.out.size)⟩
end Go.Proofs.YtonnmkhmhndalaaDoor
end
