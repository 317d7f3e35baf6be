/- wave.Cut, walked. -/
import Derived.Test.YtcbkgammlfjjoaaDoorCheck
import Derived.Test.YtcbkgammlfjjoaaDoorWc
import Derived.Test.YtcbkgammlfjjoaaDoorOwn
import Derived.Deep.RegionWith
namespace Go.Proofs.YtcbkgammlfjjoaaDoor
set_option linter.unusedVariables false
set_option linter.unusedSimpArgs false
open Go.RowKit Go.Proofs.YtcbkgammlfjjoaaDoorW.PrintWords Go.Proofs.YtcbkgammlfjjoaaDoorW.PrintLast Go.Proofs.YtcbkgammlfjjoaaDoorW.PrintMore

def CutP (x : WV) (t : Int) (w : World) (e : Ending) (w' : World) : Prop := ∃ v0 v1 v2 v3, e = .returned (.tuple #[.agg #[v0, v1, v2, v3], .int .i64 0]) ∧ Below w.heap.size w w' ∧ OwnIn w w' x (x.li.take (untilN x.li t)) v0 v1 v2 v3
theorem untilN_le (l : List S59) (t : Int) : untilN l t ≤ l.length := by
  unfold untilN
  exact (List.takeWhile_prefix _).length_le
theorem OwnIn.off {w0 w : World} {x : WV} {l : List S59} {v0 v1 v2 v3 : Value} (h : OwnIn w0 w x l v0 v1 v2 v3) {b o : Nat} {u : Value} (hb : b < w0.heap.size) : OwnIn w0 (w.setCell ⟨b, o, none⟩ u) x l v0 v1 v2 v3 :=
  ⟨R_off h.r0 hb, R_off h.r1 hb, R_off h.r2 hb, R_off h.r3 hb⟩
theorem OwnIn.lower {w0 w1 w : World} {x : WV} {l : List S59} {v0 v1 v2 v3 : Value} (h : OwnIn w1 w x l v0 v1 v2 v3) (hb : w0.heap.size ≤ w1.heap.size) : OwnIn w0 w x l v0 v1 v2 v3 :=
  ⟨Kd.R_lower h.r0 hb, Kd.R_lower h.r1 hb, Kd.R_lower h.r2 hb, Kd.R_lower h.r3 hb⟩
set_option maxRecDepth 100000 in
set_option maxHeartbeats 4000000 in
theorem cut_ok (x : WV) (A0 : Option Addr) (c0 : Nat) (A1 : Option Addr) (c1 : Nat) (A2 : Option Addr) (c2 : Nat) (A3 : Option Addr) (c3 : Nat) (t : Int) (w : World) (hI : WIn w x A0 c0 A1 c1 A2 c2 A3 c3) (hm : mayB x = true) (ht : 0 ≤ t) :
    Calls Tryd.prog 19 #[wvV x A0 c0 A1 c1 A2 c2 A3 c3, .int .i64 t] w (CutP x t w) := by
  have HI := Lib.hid hI
  have HM := Lib.hid ((may_iff x).1 hm)
  have hck := fun W => fun h => check_any x A0 c0 A1 c1 A2 c2 A3 c3 W h
  rw [hm] at hck
  have HCk := Lib.hid hck
  have ht' : decide (t < 0) = false := by rw [decide_eq_false_iff_not]; omega
  clear hI hm hck ht
  go_enter Tryd.func19, Tryd.ntmps19
  go_wp2_with fail
  obtain ⟨W, hW⟩ : ∃ W, ((w.alloc (Obj.cells #[Value.slice A0 x.nm.length c0, Value.slice A1 x.wd.length c1, Value.slice A2 x.fi.length c2, Value.slice A3 x.li.length c3] 26)).alloc (.cells #[.slice none 0 0, .slice none 0 0, .slice none 0 0, .slice none 0 0] 26)) = W := ⟨_, rfl⟩
  have hb1 : Below w.heap.size w W := by rw [← hW]; exact below_alloc (below_alloc (Below.refl _ _) _) _
  have hs1 : W.heap.size = w.heap.size + 2 := by rw [← hW]; simp
  have c_0 : W.cell? ⟨w.heap.size, 0, none⟩ = some (.slice A0 x.nm.length c0) := by rw [← hW]; simp [go_sem]
  have c_1 : W.cell? ⟨w.heap.size, 1, none⟩ = some (.slice A1 x.wd.length c1) := by rw [← hW]; simp [go_sem]
  have c_2 : W.cell? ⟨w.heap.size, 2, none⟩ = some (.slice A2 x.fi.length c2) := by rw [← hW]; simp [go_sem]
  have c_3 : W.cell? ⟨w.heap.size, 3, none⟩ = some (.slice A3 x.li.length c3) := by rw [← hW]; simp [go_sem]
  have x00 : W.cell? ⟨w.heap.size + 1, 0, none⟩ = some (.slice none 0 0) := by rw [← hW]; simp [go_sem]
  have x01 : W.cell? ⟨w.heap.size + 1, 1, none⟩ = some (.slice none 0 0) := by rw [← hW]; simp [go_sem]
  have x02 : W.cell? ⟨w.heap.size + 1, 2, none⟩ = some (.slice none 0 0) := by rw [← hW]; simp [go_sem]
  have x03 : W.cell? ⟨w.heap.size + 1, 3, none⟩ = some (.slice none 0 0) := by rw [← hW]; simp [go_sem]
  have y00 : W.frozen? ⟨w.heap.size + 1, 0, none⟩ = false := by rw [← hW]; simp [go_sem]
  have y01 : W.frozen? ⟨w.heap.size + 1, 1, none⟩ = false := by rw [← hW]; simp [go_sem]
  have y02 : W.frozen? ⟨w.heap.size + 1, 2, none⟩ = false := by rw [← hW]; simp [go_sem]
  have y03 : W.frozen? ⟨w.heap.size + 1, 3, none⟩ = false := by rw [← hW]; simp [go_sem]
  have h := HCk.out W (HI.out.below hb1)
  rw [← hW] at h
  refine h.mono ?_
  clear h
  rw [hW]
  clear hW
  rintro e w1 ⟨rfl, hb⟩
  have HB1 := Lib.hid (hb1.trans (hb.mono hb1.size))
  have HX := Lib.hid (HI.out.below HB1.out)
  have HN := Lib.hid hb
  have z1 : w.heap.size < W.heap.size := by omega
  have z2 : w.heap.size + 1 < W.heap.size := by omega
  obtain ⟨ya, yb⟩ := bcell hb
  clear hb hb1 hs1
  go_upto_region 3 with fail
  have hc3 : x.li.length ≤ c3 := HX.out.l3
  have hun := untilN_le x.li t
  have HTl := Lib.hid (show (x.li.take (untilN x.li t)).length = untilN x.li t by rw [List.length_take]; omega)
  have HTb := Lib.hid (show (x.li.take (untilN x.li t)).length * 32 ≤ 140737488355328 by rw [HTl.out]; have := HX.out.b3; omega)
  have HM1 := Lib.hid HM.out.n
  have HM2 := Lib.hid (show x.wd.length ≤ 4096 by rw [HM.out.wd]; exact HM.out.n)
  have HM3 := Lib.hid (show x.fi.length ≤ 4096 by rw [HM.out.fi]; exact HM.out.n)
  have HB1' := Lib.hid (below_drew HB1.out)
  have HN' := Lib.hid (below_drew HN.out)
  clear HB1 HN
  have HB1 := HB1'
  have HN := HN'
  clear HB1' HN'
  go_region_with (first
      | (go_at_call 49; refine (until_any x A0 c0 A1 c1 A2 c2 A3 c3 t _ (HI.out.below (by exact HB1.out)) HM.out.sorted).mono ?_; rintro e w8 ⟨rfl, hbb⟩; have hN := Lib.hid (HB1.out.trans (hbb.mono HB1.out.size)); have hN2 := Lib.hid (HN.out.trans (hbb.mono HN.out.size)); clear HB1 HN hbb; have HB1 := hN; have HN := hN2; clear hN hN2; obtain ⟨yc, yf⟩ := bcell HN.out)
      | (go_at_call 48; (with_reducible refine (own_any' x A0 c0 A1 c1 A2 c2 A3 c3 A3 (untilN x.li t) c3 (x.li.take (untilN x.li t)) _ HTl.out (HI.out.below HB1.out) HI.out.a3 (Kd.C_take (Kd.C_below HI.out.h3 HB1.out) hun) HTb.out HM1.out HM2.out HM3.out).mono ?_); rintro e w9 ⟨v0, v1, v2, v3, rfl, hb9, ho9⟩; obtain ⟨G0, g0, rfl⟩ := Kd.R_slice ho9.r0; obtain ⟨G1, g1, rfl⟩ := Kd.R_slice ho9.r1; obtain ⟨G2, g2, rfl⟩ := Kd.R_slice ho9.r2; obtain ⟨G3, g3, rfl⟩ := Kd.R_slice ho9.r3; have HOw := Lib.hid (ho9.lower HN.out.size); have hN := Lib.hid (HB1.out.trans (hb9.mono HB1.out.size)); have hN2 := Lib.hid (HN.out.trans (hb9.mono HN.out.size)); clear HB1 HN hb9 ho9; have HB1 := hN; have HN := hN2; clear hN hN2; obtain ⟨yd, yg⟩ := bcell HN.out))
  all_goals
    have hle : w.heap.size ≤ W.heap.size := by omega
    have ho := HOw.out
    rw [HTl.out] at ho
    have HO : Hid (OwnIn w ((((w9.setCell ⟨w.heap.size + 1, 0, none⟩ (Value.slice G0 x.nm.length g0)).setCell ⟨w.heap.size + 1, 1, none⟩ (Value.slice G1 x.wd.length g1)).setCell ⟨w.heap.size + 1, 2, none⟩ (Value.slice G2 x.fi.length g2)).setCell ⟨w.heap.size + 1, 3, none⟩ (Value.slice G3 (untilN x.li t) g3)) x (x.li.take (untilN x.li t)) (Value.slice G0 x.nm.length g0) (Value.slice G1 x.wd.length g1) (Value.slice G2 x.fi.length g2) (Value.slice G3 (untilN x.li t) g3)) :=
      Lib.hid ((((((ho.off z2).off z2).off z2).off z2)).lower hle)
    have HBl : Hid (Below w.heap.size w ((((w9.setCell ⟨w.heap.size + 1, 0, none⟩ (Value.slice G0 x.nm.length g0)).setCell ⟨w.heap.size + 1, 1, none⟩ (Value.slice G1 x.wd.length g1)).setCell ⟨w.heap.size + 1, 2, none⟩ (Value.slice G2 x.fi.length g2)).setCell ⟨w.heap.size + 1, 3, none⟩ (Value.slice G3 (untilN x.li t) g3))) :=
      Lib.hid (below_set2 (by omega) (below_set2 (by omega) (below_set2 (by omega) (below_set2 (by omega) HB1.out))))
    clear ho
    have m0 : w9.cell? ⟨w.heap.size + 1, 0, none⟩ = some (.slice none 0 0) := (yd _ _ z2).trans x00
    have m1 : w9.cell? ⟨w.heap.size + 1, 1, none⟩ = some (.slice none 0 0) := (yd _ _ z2).trans x01
    have m2 : w9.cell? ⟨w.heap.size + 1, 2, none⟩ = some (.slice none 0 0) := (yd _ _ z2).trans x02
    have m3 : w9.cell? ⟨w.heap.size + 1, 3, none⟩ = some (.slice none 0 0) := (yd _ _ z2).trans x03
    go_wp2_with fail
    refine bodyPost_ret (v := .tuple #[.agg #[Value.slice G0 x.nm.length g0, Value.slice G1 x.wd.length g1, Value.slice G2 x.fi.length g2, Value.slice G3 (untilN x.li t) g3], .int .i64 0]) (by simp [results, Tryd.results19, go_sem, m0, m1, m2, m3]) rfl ⟨_, _, _, _, rfl, HBl.out, HO.out⟩
set_option maxRecDepth 100000 in
set_option maxHeartbeats 4000000 in
theorem cut_bad (x : WV) (A0 : Option Addr) (c0 : Nat) (A1 : Option Addr) (c1 : Nat) (A2 : Option Addr) (c2 : Nat) (A3 : Option Addr) (c3 : Nat) (t : Int) (w : World) (hI : WIn w x A0 c0 A1 c1 A2 c2 A3 c3) (hm : mayB x = false ∨ t < 0) :
    Calls Tryd.prog 19 #[wvV x A0 c0 A1 c1 A2 c2 A3 c3, .int .i64 t] w fun e w' => e = .returned (.tuple #[.agg #[.slice none 0 0, .slice none 0 0, .slice none 0 0, .slice none 0 0], .int .i64 1]) ∧ Below w.heap.size w w' := by
  have HI := Lib.hid hI
  have hck := fun W => fun h => check_any x A0 c0 A1 c1 A2 c2 A3 c3 W h
  clear hI
  have ht' : mayB x = true → decide (t < 0) = true := by
    intro h
    rcases hm with h2 | h2
    · rw [h2] at h; cases h
    · exact decide_eq_true h2
  clear hm
  cases hmx : mayB x
  all_goals
    rw [hmx] at hck ht'
    have HCk := Lib.hid hck
    clear hck
    have ht2 := ht'
    clear ht'
    have HT2 := Lib.hid ht2
    clear ht2 hmx
  · clear HT2
    go_enter Tryd.func19, Tryd.ntmps19
    go_wp2_with fail
    obtain ⟨W, hW⟩ : ∃ W, ((w.alloc (Obj.cells #[Value.slice A0 x.nm.length c0, Value.slice A1 x.wd.length c1, Value.slice A2 x.fi.length c2, Value.slice A3 x.li.length c3] 26)).alloc (.cells #[.slice none 0 0, .slice none 0 0, .slice none 0 0, .slice none 0 0] 26)) = W := ⟨_, rfl⟩
    have hb1 : Below w.heap.size w W := by rw [← hW]; exact below_alloc (below_alloc (Below.refl _ _) _) _
    have hs1 : W.heap.size = w.heap.size + 2 := by rw [← hW]; simp
    have x00 : W.cell? ⟨w.heap.size + 1, 0, none⟩ = some (.slice none 0 0) := by rw [← hW]; simp [go_sem]
    have y00 : W.frozen? ⟨w.heap.size + 1, 0, none⟩ = false := by rw [← hW]; simp [go_sem]
    have x01 : W.cell? ⟨w.heap.size + 1, 1, none⟩ = some (.slice none 0 0) := by rw [← hW]; simp [go_sem]
    have y01 : W.frozen? ⟨w.heap.size + 1, 1, none⟩ = false := by rw [← hW]; simp [go_sem]
    have x02 : W.cell? ⟨w.heap.size + 1, 2, none⟩ = some (.slice none 0 0) := by rw [← hW]; simp [go_sem]
    have y02 : W.frozen? ⟨w.heap.size + 1, 2, none⟩ = false := by rw [← hW]; simp [go_sem]
    have x03 : W.cell? ⟨w.heap.size + 1, 3, none⟩ = some (.slice none 0 0) := by rw [← hW]; simp [go_sem]
    have y03 : W.frozen? ⟨w.heap.size + 1, 3, none⟩ = false := by rw [← hW]; simp [go_sem]
    have h := HCk.out W (HI.out.below hb1)
    rw [← hW] at h
    refine h.mono ?_
    clear h
    rw [hW]
    clear hW
    rintro e w1 ⟨rfl, hb⟩
    have HB1 := Lib.hid (hb1.trans (hb.mono hb1.size))
    have z2 : w.heap.size + 1 < W.heap.size := by omega
    have m0 := (hb.cell (p := ⟨w.heap.size + 1, 0, none⟩) z2).trans x00
    have n0 := (hb.frozen (p := ⟨w.heap.size + 1, 0, none⟩) z2).trans y00
    have m1 := (hb.cell (p := ⟨w.heap.size + 1, 1, none⟩) z2).trans x01
    have n1 := (hb.frozen (p := ⟨w.heap.size + 1, 1, none⟩) z2).trans y01
    have m2 := (hb.cell (p := ⟨w.heap.size + 1, 2, none⟩) z2).trans x02
    have n2 := (hb.frozen (p := ⟨w.heap.size + 1, 2, none⟩) z2).trans y02
    have m3 := (hb.cell (p := ⟨w.heap.size + 1, 3, none⟩) z2).trans x03
    have n3 := (hb.frozen (p := ⟨w.heap.size + 1, 3, none⟩) z2).trans y03
    clear hb hb1 hs1 x00 x01 x02 x03 y00 y01 y02 y03
    go_wp2_with fail
    refine bodyPost_ret (v := .tuple #[.agg #[.slice none 0 0, .slice none 0 0, .slice none 0 0, .slice none 0 0], .int .i64 1]) (by simp [results, Tryd.results19, go_sem, m0, m1, m2, m3]) rfl ⟨rfl, ?_⟩
    first
      | exact HB1.out
      | exact below_set2 (by omega) (below_set2 (by omega) (below_set2 (by omega) (below_set2 (by omega) HB1.out)))
  · have ht' := HT2.out rfl
    clear HT2
    go_enter Tryd.func19, Tryd.ntmps19
    go_wp2_with fail
    obtain ⟨W, hW⟩ : ∃ W, ((w.alloc (Obj.cells #[Value.slice A0 x.nm.length c0, Value.slice A1 x.wd.length c1, Value.slice A2 x.fi.length c2, Value.slice A3 x.li.length c3] 26)).alloc (.cells #[.slice none 0 0, .slice none 0 0, .slice none 0 0, .slice none 0 0] 26)) = W := ⟨_, rfl⟩
    have hb1 : Below w.heap.size w W := by rw [← hW]; exact below_alloc (below_alloc (Below.refl _ _) _) _
    have hs1 : W.heap.size = w.heap.size + 2 := by rw [← hW]; simp
    have x00 : W.cell? ⟨w.heap.size + 1, 0, none⟩ = some (.slice none 0 0) := by rw [← hW]; simp [go_sem]
    have y00 : W.frozen? ⟨w.heap.size + 1, 0, none⟩ = false := by rw [← hW]; simp [go_sem]
    have x01 : W.cell? ⟨w.heap.size + 1, 1, none⟩ = some (.slice none 0 0) := by rw [← hW]; simp [go_sem]
    have y01 : W.frozen? ⟨w.heap.size + 1, 1, none⟩ = false := by rw [← hW]; simp [go_sem]
    have x02 : W.cell? ⟨w.heap.size + 1, 2, none⟩ = some (.slice none 0 0) := by rw [← hW]; simp [go_sem]
    have y02 : W.frozen? ⟨w.heap.size + 1, 2, none⟩ = false := by rw [← hW]; simp [go_sem]
    have x03 : W.cell? ⟨w.heap.size + 1, 3, none⟩ = some (.slice none 0 0) := by rw [← hW]; simp [go_sem]
    have y03 : W.frozen? ⟨w.heap.size + 1, 3, none⟩ = false := by rw [← hW]; simp [go_sem]
    have h := HCk.out W (HI.out.below hb1)
    rw [← hW] at h
    refine h.mono ?_
    clear h
    rw [hW]
    clear hW
    rintro e w1 ⟨rfl, hb⟩
    have HB1 := Lib.hid (hb1.trans (hb.mono hb1.size))
    have z2 : w.heap.size + 1 < W.heap.size := by omega
    have m0 := (hb.cell (p := ⟨w.heap.size + 1, 0, none⟩) z2).trans x00
    have n0 := (hb.frozen (p := ⟨w.heap.size + 1, 0, none⟩) z2).trans y00
    have m1 := (hb.cell (p := ⟨w.heap.size + 1, 1, none⟩) z2).trans x01
    have n1 := (hb.frozen (p := ⟨w.heap.size + 1, 1, none⟩) z2).trans y01
    have m2 := (hb.cell (p := ⟨w.heap.size + 1, 2, none⟩) z2).trans x02
    have n2 := (hb.frozen (p := ⟨w.heap.size + 1, 2, none⟩) z2).trans y02
    have m3 := (hb.cell (p := ⟨w.heap.size + 1, 3, none⟩) z2).trans x03
    have n3 := (hb.frozen (p := ⟨w.heap.size + 1, 3, none⟩) z2).trans y03
    clear hb hb1 hs1 x00 x01 x02 x03 y00 y01 y02 y03
    go_wp2_with fail
    refine bodyPost_ret (v := .tuple #[.agg #[.slice none 0 0, .slice none 0 0, .slice none 0 0, .slice none 0 0], .int .i64 1]) (by simp [results, Tryd.results19, go_sem, m0, m1, m2, m3]) rfl ⟨rfl, ?_⟩
    first
      | exact HB1.out
      | exact below_set2 (by omega) (below_set2 (by omega) (below_set2 (by omega) (below_set2 (by omega) HB1.out)))
end Go.Proofs.YtcbkgammlfjjoaaDoor
