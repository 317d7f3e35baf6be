/- The document's Until, walked. -/
import Derived.Test.YtcbkgammlfjjoaaDoorSt2
namespace Go.Proofs.YtcbkgammlfjjoaaDoor
set_option linter.unusedVariables false
set_option linter.unusedSimpArgs false
open Go.RowKit Go.Proofs.YtcbkgammlfjjoaaDoorW.PrintWords Go.Proofs.YtcbkgammlfjjoaaDoorW.PrintLast Go.Proofs.YtcbkgammlfjjoaaDoorW.PrintMore

def fl (l : List S59) (t : Int) (i : Nat) : List S59 := (l.take i).filter (fun c => decide (c.f0 < t))
theorem fl_succ (x : WV) (t : Int) {i : Nat} (hi : i < x.li.length) : fl x.li t (i + 1) = if (cAt x i).f0 < t then fl x.li t i ++ [cAt x i] else fl x.li t i := by
  unfold fl
  rw [List.take_succ_eq_append_getElem hi, List.filter_append]
  have : x.li[i] = cAt x i := by unfold cAt; rw [List.getD_eq_getElem?_getD, List.getElem?_eq_getElem hi]; rfl
  rw [this]
  by_cases h : (cAt x i).f0 < t
  · rw [if_pos h]; simp [h]
  · rw [if_neg h]; simp [h]
theorem fl_length (l : List S59) (t : Int) (i : Nat) : (fl l t i).length ≤ i := by
  unfold fl
  refine Nat.le_trans (List.length_filter_le _ _) ?_
  rw [List.length_take]
  omega
theorem fl_all (l : List S59) (t : Int) (hs : Sorted0 l) : fl l t l.length = l.take (untilN l t) := by
  unfold fl
  rw [List.take_length, take_until]
  induction l with
  | nil => rfl
  | cons c l ih =>
    by_cases h : c.f0 < t
    · rw [List.filter_cons_of_pos (by simpa using h), List.takeWhile_cons_of_pos (by simpa using h), ih hs.tail]
    · rw [List.filter_cons_of_neg (by simpa using h), List.takeWhile_cons_of_neg (by simpa using h)]
      refine List.filter_eq_nil_iff.2 (fun d hd => ?_)
      have := hs.head d hd
      simp
      omega
def UnP (x : WV) (A0 : Option Addr) (c0 : Nat) (A1 : Option Addr) (c1 : Nat) (A2 : Option Addr) (c2 : Nat) (t : Int) (w : World) (e : Ending) (w' : World) : Prop :=
  ∃ v, e = .returned (.agg #[.slice A0 x.nm.length c0, .slice A1 x.wd.length c1, .slice A2 x.fi.length c2, v]) ∧ Below w.heap.size w w' ∧ Kd.R k59 59 w' w.heap.size (fun _ => True) v (fl x.li t x.li.length)
set_option maxRecDepth 100000 in
set_option maxHeartbeats 4000000 in
theorem untilR_any (x : WV) (A0 : Option Addr) (c0 : Nat) (A1 : Option Addr) (c1 : Nat) (A2 : Option Addr) (c2 : Nat) (A3 : Option Addr) (c3 : Nat) (t : Int) (w : World) (hI : WIn w x A0 c0 A1 c1 A2 c2 A3 c3) :
    Calls Tryd.prog 23 #[wvV x A0 c0 A1 c1 A2 c2 A3 c3, .int .i64 t] w (UnP x A0 c0 A1 c1 A2 c2 t w) := by
  have HI := Lib.hid hI
  clear hI
  go_enter Tryd.func23, Tryd.ntmps23
  go_upto_region 3 with fail
  obtain ⟨W, hW⟩ : ∃ W, ((w.alloc (Obj.cells #[Value.slice A0 x.nm.length c0, Value.slice A1 x.wd.length c1, Value.slice A2 x.fi.length c2, Value.slice A3 x.li.length c3] 26)).alloc (.cells #[.slice none 0 0, .slice none 0 0, .slice none 0 0, .slice none 0 0] 26)) = W := ⟨_, rfl⟩
  rw [hW]
  have hb : Below w.heap.size w W := by rw [← hW]; exact below_alloc (below_alloc (Below.refl _ _) _) _
  have hs : W.heap.size = w.heap.size + 2 := by rw [← hW]; simp
  have k0 : W.cell? ⟨w.heap.size, 0, none⟩ = some (.slice A0 x.nm.length c0) := by rw [← hW]; simp [go_sem]
  have k1 : W.cell? ⟨w.heap.size, 1, none⟩ = some (.slice A1 x.wd.length c1) := by rw [← hW]; simp [go_sem]
  have k2 : W.cell? ⟨w.heap.size, 2, none⟩ = some (.slice A2 x.fi.length c2) := by rw [← hW]; simp [go_sem]
  have k3 : W.cell? ⟨w.heap.size, 3, none⟩ = some (.slice A3 x.li.length c3) := by rw [← hW]; simp [go_sem]
  have f3 : W.frozen? ⟨w.heap.size, 3, none⟩ = false := by rw [← hW]; simp [go_sem]
  have m0 : W.cell? ⟨w.heap.size + 1, 0, none⟩ = some (.slice none 0 0) := by rw [← hW]; simp [go_sem]
  have m1 : W.cell? ⟨w.heap.size + 1, 1, none⟩ = some (.slice none 0 0) := by rw [← hW]; simp [go_sem]
  have m2 : W.cell? ⟨w.heap.size + 1, 2, none⟩ = some (.slice none 0 0) := by rw [← hW]; simp [go_sem]
  have m3 : W.cell? ⟨w.heap.size + 1, 3, none⟩ = some (.slice none 0 0) := by rw [← hW]; simp [go_sem]
  have n0 : W.frozen? ⟨w.heap.size + 1, 0, none⟩ = false := by rw [← hW]; simp [go_sem]
  have n1 : W.frozen? ⟨w.heap.size + 1, 1, none⟩ = false := by rw [← hW]; simp [go_sem]
  have n2 : W.frozen? ⟨w.heap.size + 1, 2, none⟩ = false := by rw [← hW]; simp [go_sem]
  have n3 : W.frozen? ⟨w.heap.size + 1, 3, none⟩ = false := by rw [← hW]; simp [go_sem]
  have HB := Lib.hid hb
  have HS := Lib.hid hs
  have HC := Lib.hid (And.intro k0 (And.intro k1 (And.intro k2 (And.intro k3 f3))))
  have HD := Lib.hid (And.intro m0 (And.intro m1 (And.intro m2 m3)))
  have HE := Lib.hid (And.intro n0 (And.intro n1 (And.intro n2 n3)))
  have hbd := HI.out.b3
  clear hb hW hs k0 k1 k2 k3 f3 m0 m1 m2 m3 n0 n1 n2 n3
  go_loopw [5, 6] (fun v5 v6 wx => ∃ i : Nat, v6 = .int .i64 i ∧ i ≤ x.li.length ∧ Hid (Below W.heap.size W wx) ∧ Hid (Kd.R k59 59 wx W.heap.size (fun _ => True) v5 (fl x.li t i))) (fun _ v6 _ => x.li.length - (intOf v6).toNat)
  case atStart => exact ⟨0, rfl, Nat.zero_le _, Lib.hid (Below.refl _ _), Lib.hid (Kd.R_nil _ _ _ _ _)⟩
  case round =>
    obtain ⟨i, rfl, hi, HBx, HRx⟩ := hrel
    have hz0 : w.heap.size < W.heap.size := by have := HS.out; omega
    have hz1 : w.heap.size + 1 < W.heap.size := by have := HS.out; omega
    have q3 := (HBx.out.cell (p := ⟨w.heap.size, 3, none⟩) hz0).trans HC.out.2.2.2.1
    by_cases hlt : i < x.li.length
    · have hI2 := HI.out.below (HB.out.trans (HBx.out.mono HB.out.size))
      obtain ⟨b3, o3, hA3, hs30, hs31, hs32, hb3⟩ := chg_cell hI2.h3 hI2.a3 i hlt
      subst hA3
      have hsu := fl_succ x t hlt
      have hln := fl_length x.li t i
      rw [show x.li.getD i z59 = cAt x i from rfl] at hs30 hs31 hs32
      generalize cAt x i = c at hs30 hs31 hs32 hsu
      obtain ⟨tm, nt, vl⟩ := c
      simp only at hs30 hs31 hs32 hsu
      generalize hnx : fl x.li t (i + 1) = nx at *
      generalize fl x.li t i = nw at *
      have HNx := Lib.hid hnx
      have HLn := Lib.hid hln
      clear hI2 hb3 hnx hln hz0 hz1
      by_cases hle : tm < t
      · rw [if_pos hle] at hsu
        have HSu := Lib.hid hsu
        have hle' : decide (tm < t) = true := decide_eq_true hle
        have HLt := Lib.hid hlt
        clear hsu hle
        obtain ⟨Av, cv, rfl⟩ := Kd.R_slice HRx.out
        go_wp2_with (first | ((with_reducible refine gate_builtin (b := .append) (xs := #[.tmp 22, .tmp 28]) rfl ?_); at_builtin; refine Kd.R_append k59 (w0 := W) W.heap.size rfl (.tmp 22) (.tmp 28) 24 59 (.agg #[(.int .i64 0), (.int .i64 0), (.string ⟨#[]⟩)]) 32 rfl Tryd.underlying24 info59 rfl (by decide) (by decide) (.slice Av nw.length cv) nw (⟨tm, nt, vl⟩ : S59) [.int .i64 tm, .int .i64 nt, .string vl] (fun _ => True) (fun _ => False) rfl rfl ?aP (fun _ hk => hk.elim) (fun _ _ => trivial) ?aO ?aB ?aS ?aL ?_; (case aP => exact k59_mkM _ _ _ ⟨tm, nt, vl⟩); (case aO => exact HRx.out); (case aB => exact HBx.out); (case aS => exact HBx.out.size); (case aL => have := HLn.out; have := HLt.out; omega); intro v1 w1 ho hb hg hat; have HO := Lib.hid ho; have HBo := Lib.hid hb; clear ho hb hg hat))
        refine ⟨⟨i + 1, by simp, HLt.out, Lib.hid HBo.out, Lib.hid (by rw [HNx.out, HSu.out]; exact HO.out)⟩, by have := HLt.out; simp [intOf]; omega⟩
      · rw [if_neg hle] at hsu
        have HSu := Lib.hid hsu
        have hle' : decide (tm < t) = false := decide_eq_false hle
        clear hsu hle
        go_wp2_with fail
        refine ⟨⟨i + 1, by simp, hlt, Lib.hid HBx.out, Lib.hid (by rw [HNx.out, HSu.out]; exact HRx.out)⟩, by simp [intOf]; omega⟩
    · obtain rfl : i = x.li.length := by omega
      obtain ⟨Av, cv, rfl⟩ := Kd.R_slice HRx.out
      have q0 := (HBx.out.cell (p := ⟨w.heap.size, 0, none⟩) hz0).trans HC.out.1
      have q1 := (HBx.out.cell (p := ⟨w.heap.size, 1, none⟩) hz0).trans HC.out.2.1
      have q2 := (HBx.out.cell (p := ⟨w.heap.size, 2, none⟩) hz0).trans HC.out.2.2.1
      have g3 := (HBx.out.frozen (p := ⟨w.heap.size, 3, none⟩) hz0).trans HC.out.2.2.2.2
      have d0 := (HBx.out.cell (p := ⟨w.heap.size + 1, 0, none⟩) hz1).trans HD.out.1
      have d1 := (HBx.out.cell (p := ⟨w.heap.size + 1, 1, none⟩) hz1).trans HD.out.2.1
      have d2 := (HBx.out.cell (p := ⟨w.heap.size + 1, 2, none⟩) hz1).trans HD.out.2.2.1
      have d3 := (HBx.out.cell (p := ⟨w.heap.size + 1, 3, none⟩) hz1).trans HD.out.2.2.2
      have e0 := (HBx.out.frozen (p := ⟨w.heap.size + 1, 0, none⟩) hz1).trans HE.out.1
      have e1 := (HBx.out.frozen (p := ⟨w.heap.size + 1, 1, none⟩) hz1).trans HE.out.2.1
      have e2 := (HBx.out.frozen (p := ⟨w.heap.size + 1, 2, none⟩) hz1).trans HE.out.2.2.1
      have e3 := (HBx.out.frozen (p := ⟨w.heap.size + 1, 3, none⟩) hz1).trans HE.out.2.2.2
      have HZ0 := Lib.hid hz0
      have HZ1 := Lib.hid hz1
      clear hz0 hz1
      go_wp2_with fail
      have HL := Lib.hid (HB.out.trans (HBx.out.mono HB.out.size))
      have sz := HBx.out.size
      have hz0 := HZ0.out
      have hz1 := HZ1.out
      generalize hL : fl x.li t x.li.length = L at *
      refine bodyPost_ret (v := .agg #[Value.slice A0 x.nm.length c0, Value.slice A1 x.wd.length c1, Value.slice A2 x.fi.length c2, Value.slice Av L.length cv]) (by simp [results, Tryd.results23, go_sem, d0, d1, d2, d3, q0, q1, q2]) rfl ⟨.slice Av L.length cv, rfl, below_set2 (by omega) (below_set2 (by omega) (below_set2 (by omega) (below_set2 (by omega) (below_set2 (by omega) HL.out)))), ?_⟩
      rw [hL]
      exact Kd.R_lower (R_off (R_off (R_off (R_off (R_off HRx.out hz0) hz1) hz1) hz1) hz1) (by omega)
end Go.Proofs.YtcbkgammlfjjoaaDoor
