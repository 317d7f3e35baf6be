/- wave.At, walked. -/
import Derived.Test.YtcbkgammlfjjoaaDoorCheck
import Derived.Test.YtcbkgammlfjjoaaDoorWc
namespace Go.Proofs.YtcbkgammlfjjoaaDoor
set_option linter.unusedVariables false
set_option linter.unusedSimpArgs false
open Go.RowKit Go.Proofs.YtcbkgammlfjjoaaDoorW.PrintWords Go.Proofs.YtcbkgammlfjjoaaDoorW.PrintLast Go.Proofs.YtcbkgammlfjjoaaDoorW.PrintMore

def AtP (x : WV) (t : Int) (w : World) (e : Ending) (w' : World) : Prop := ∃ v, e = .returned (.tuple #[v, .int .i64 0]) ∧ Below w.heap.size w w' ∧ Kd.R Kd.string 9 w' w.heap.size (fun _ => True) v (atF x t)
set_option maxRecDepth 100000 in
set_option maxHeartbeats 4000000 in
theorem at_ok (x : WV) (A0 : Option Addr) (c0 : Nat) (A1 : Option Addr) (c1 : Nat) (A2 : Option Addr) (c2 : Nat) (A3 : Option Addr) (c3 : Nat) (t : Int) (w : World) (hI : WIn w x A0 c0 A1 c1 A2 c2 A3 c3) (hm : mayB x = true) (ht : 0 ≤ t) :
    Calls Tryd.prog 20 #[wvV x A0 c0 A1 c1 A2 c2 A3 c3, .int .i64 t] w (AtP x t w) := by
  have HI := Lib.hid hI
  have HM := Lib.hid ((may_iff x).1 hm)
  have hck := fun W => fun h => check_any x A0 c0 A1 c1 A2 c2 A3 c3 W h
  rw [hm] at hck
  have HCk := Lib.hid hck
  have ht' : decide (t < 0) = false := by rw [decide_eq_false_iff_not]; omega
  clear hI hm hck ht
  go_enter Tryd.func20, Tryd.ntmps20
  go_wp2_with fail
  obtain ⟨W, hW⟩ : ∃ W, (w.alloc (Obj.cells #[Value.slice A0 x.nm.length c0, Value.slice A1 x.wd.length c1, Value.slice A2 x.fi.length c2, Value.slice A3 x.li.length c3] 26)) = W := ⟨_, rfl⟩
  have hb1 : Below w.heap.size w W := by rw [← hW]; exact below_alloc (Below.refl _ _) _
  have c_2 : W.cell? ⟨w.heap.size, 2, none⟩ = some (.slice A2 x.fi.length c2) := by rw [← hW]; simp [go_sem]
  have c_3 : W.cell? ⟨w.heap.size, 3, none⟩ = some (.slice A3 x.li.length c3) := by rw [← hW]; simp [go_sem]
  have hs1 : w.heap.size < W.heap.size := by rw [← hW]; simp
  have h := HCk.out W (HI.out.below hb1)
  rw [← hW] at h
  refine h.mono ?_
  clear h
  rw [hW]
  clear hW
  rintro e w1 ⟨rfl, hb⟩
  have d_2 := (hb.cell (p := ⟨w.heap.size, 2, none⟩) hs1).trans c_2
  have d_3 := (hb.cell (p := ⟨w.heap.size, 3, none⟩) hs1).trans c_3
  have HB1 := Lib.hid (hb1.trans (hb.mono hb1.size))
  have HS1 := Lib.hid (Nat.lt_of_lt_of_le hs1 hb.size)
  have HX := Lib.hid (HI.out.below HB1.out)
  clear hb hb1 c_2 c_3 hs1
  go_wp2_with fail
  have hcl := clone_str A2 c2 x.fi w1 HX.out.a2 HX.out.h2 (by have := HM.out.fi; have := HM.out.n; omega)
  refine hcl.mono ?_
  clear hcl
  rintro e w2 ⟨v, rfl, hr, hb2⟩
  have e_3 := (hb2.cell (p := ⟨w.heap.size, 3, none⟩) HS1.out).trans d_3
  have HR := Lib.hid (Kd.R_lower hr HB1.out.size)
  have HB2 := Lib.hid (HB1.out.trans (hb2.mono HB1.out.size))
  have hbd : x.li.length * 32 ≤ 140737488355328 := HX.out.b3
  clear hr hb2 d_2 d_3
  go_wp2_with fail
  clear e_3
  go_loopw [22] (fun v22 wx => ∃ i : Nat, v22 = .int .i64 i ∧ i ≤ x.li.length ∧ Hid (Below w.heap.size w wx) ∧ Hid (Kd.R Kd.string 9 wx w.heap.size (fun _ => True) v (atK x t i))) (fun v22 _ => x.li.length - (intOf v22).toNat)
  case atStart => exact ⟨0, rfl, Nat.zero_le _, HB2, HR⟩
  case round =>
    obtain ⟨i, rfl, hi, HBx, HRx⟩ := hrel
    by_cases hlt : i < x.li.length
    · have hI2 := HI.out.below HBx.out
      obtain ⟨b3, o3, hA3, hs30, hs31, hs32, hb3⟩ := chg_cell hI2.h3 hI2.a3 i hlt
      subst hA3
      have hsu := atK_succ x t hlt
      have hp := HM.out.place hlt
      have hal := atK_length x t i
      have hfi := HM.out.fi
      rw [show x.li.getD i z59 = cAt x i from rfl] at hs30 hs31 hs32
      generalize cAt x i = c at hs30 hs31 hs32 hsu hp
      obtain ⟨tm, nt, vl⟩ := c
      simp only at hs30 hs31 hs32 hsu hp
      obtain ⟨k, rfl⟩ : ∃ k : Nat, nt = k := ⟨nt.toNat, by omega⟩
      rw [Int.toNat_natCast] at hsu
      have hk : k < x.nm.length := by have := hp.2.1; omega
      generalize hnx : atK x t (i + 1) = nx at *
      generalize atK x t i = nw at *
      obtain ⟨g, cap, rfl, hg0, hg1, -⟩ := Kd.R_form HRx.out (by omega)
      have hrc := Kd.R_cell (enc := Value.string) (h1 := fun _ => rfl) ByteArray.empty HRx.out (k : Int) (by omega) (by omega)
      rw [Int.toNat_natCast] at hrc
      have hpt := Kd.R_put (enc := Value.string) (h1 := fun _ => rfl) HRx.out (k : Int) vl
      rw [Int.toNat_natCast] at hpt
      have HPt := Lib.hid hpt.1
      have HG0 := Lib.hid hg0
      have HNx := Lib.hid hnx
      have hg1' : g < wr.heap.size := hg1
      have hkl : k < nw.length := by omega
      obtain ⟨hrc1, hrc2⟩ := hrc
      clear hpt hp hal hfi hI2 hb3 hnx hk hg0 hg1
      by_cases hle : tm ≤ t
      · rw [if_pos hle] at hsu
        have HSu := Lib.hid hsu
        have hle' : decide (tm ≤ t) = true := decide_eq_true hle
        clear hsu hle
        go_wp2_with fail
        refine ⟨⟨i + 1, by simp, hlt, Lib.hid (below_alloc (HBx.out.setCell (p := ⟨g, k, none⟩) HG0.out _) _), Lib.hid (by rw [HNx.out, HSu.out]; exact Kd.R_alloc HPt.out _)⟩, by simp [intOf]; omega⟩
      · rw [if_neg hle] at hsu
        have HSu := Lib.hid hsu
        have hle' : decide (tm ≤ t) = false := decide_eq_false hle
        clear hsu hle
        go_wp2_with fail
        refine ⟨⟨i + 1, by simp, hlt, Lib.hid (below_alloc HBx.out _), Lib.hid (by rw [HNx.out, HSu.out]; exact Kd.R_alloc HRx.out _)⟩, by simp [intOf]; omega⟩
    · obtain rfl : i = x.li.length := by omega
      go_wp2_with fail
      go_ret2
      exact ⟨v, rfl, HBx.out, HRx.out⟩
set_option maxRecDepth 100000 in
set_option maxHeartbeats 4000000 in
theorem at_bad (x : WV) (A0 : Option Addr) (c0 : Nat) (A1 : Option Addr) (c1 : Nat) (A2 : Option Addr) (c2 : Nat) (A3 : Option Addr) (c3 : Nat) (t : Int) (w : World) (hI : WIn w x A0 c0 A1 c1 A2 c2 A3 c3) (hm : mayB x = false ∨ t < 0) :
    Calls Tryd.prog 20 #[wvV x A0 c0 A1 c1 A2 c2 A3 c3, .int .i64 t] w fun e w' => e = .returned (.tuple #[.slice none 0 0, .int .i64 1]) ∧ Below w.heap.size w w' := by
  have HI := Lib.hid hI
  have hck := fun W => fun h => check_any x A0 c0 A1 c1 A2 c2 A3 c3 W h
  clear hI
  cases hmx : mayB x
  all_goals
    rw [hmx] at hck
    have HCk := Lib.hid hck
    clear hck
  · clear hm hmx
    go_enter Tryd.func20, Tryd.ntmps20
    go_wp2_with fail
    have h := HCk.out _ (HI.out.below (below_alloc (Below.refl _ _) (Obj.cells #[Value.slice A0 x.nm.length c0, Value.slice A1 x.wd.length c1, Value.slice A2 x.fi.length c2, Value.slice A3 x.li.length c3] 26)))
    refine h.mono ?_
    clear h
    rintro e w1 ⟨rfl, hb⟩
    have HB := Lib.hid ((below_alloc (Below.refl _ _) _).trans (hb.mono (by simp)))
    clear hb
    go_wp2_with fail
    go_ret2
    exact ⟨rfl, HB.out⟩
  · have ht : t < 0 := by rcases hm with h | h; · rw [hmx] at h; cases h
                          · exact h
    have ht' : decide (t < 0) = true := decide_eq_true ht
    clear hm hmx ht
    go_enter Tryd.func20, Tryd.ntmps20
    go_wp2_with fail
    have h := HCk.out _ (HI.out.below (below_alloc (Below.refl _ _) (Obj.cells #[Value.slice A0 x.nm.length c0, Value.slice A1 x.wd.length c1, Value.slice A2 x.fi.length c2, Value.slice A3 x.li.length c3] 26)))
    refine h.mono ?_
    clear h
    rintro e w1 ⟨rfl, hb⟩
    have HB := Lib.hid ((below_alloc (Below.refl _ _) _).trans (hb.mono (by simp)))
    clear hb
    go_wp2_with fail
    go_ret2
    exact ⟨rfl, HB.out⟩
end Go.Proofs.YtcbkgammlfjjoaaDoor
