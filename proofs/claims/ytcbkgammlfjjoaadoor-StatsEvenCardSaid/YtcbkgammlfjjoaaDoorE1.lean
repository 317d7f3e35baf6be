/- The stats seat's awake, walked. -/
import Derived.Test.YtcbkgammlfjjoaaDoorMgW
import Derived.Test.YtcbkgammlfjjoaaDoorWb
namespace Go.Proofs.YtcbkgammlfjjoaaDoor
set_option linter.unusedVariables false
set_option linter.unusedSimpArgs false
open Go.RowKit Go.Proofs.YtcbkgammlfjjoaaDoorW.PrintWords Go.Proofs.YtcbkgammlfjjoaaDoorW.PrintLast Go.Proofs.YtcbkgammlfjjoaaDoorW.PrintMore

abbrev wv0 : Value := .agg #[.slice none 0 0, .slice none 0 0, .slice none 0 0, .slice none 0 0]
set_option maxRecDepth 100000 in
set_option maxHeartbeats 1000000 in
theorem check_empty (w : World) : Calls Tryd.prog 16 #[wv0] w fun e w' => e = .returned (.int .i64 0) ∧ Below w.heap.size w w' := by
  go_enter Tryd.func16, Tryd.ntmps16
  go_wp2
  go_loop [29] (fun v29 => v29 = .int .i64 0) (fun _ => 0)
  case atStart => rfl
  case round =>
    obtain rfl := hrel
    go_wp2_with fail
    have h := AnyE.slices_Clone_nil Tryd.lc43 0 0 (w.alloc (.cells #[.slice none 0 0, .slice none 0 0, .slice none 0 0, .slice none 0 0] 26))
    refine h.mono ?_
    clear h
    rintro e w' ⟨rfl, rfl⟩
    go_wp2_with fail
    go_loop [78] (fun v78 => v78 = .int .i64 0) (fun _ => 0)
    case atStart => rfl
    case round =>
      obtain rfl := hrel
      go_wp2
      go_ret
      exact ⟨rfl, below_alloc (Below.refl _ _) _⟩
theorem infM_1 (w : World) : Calls Tryd.prog 53 #[.int .i64 1] w fun e w' => e = .returned (.float .f64 9218868437227405312) ∧ w = w' := infM_any 1 w
theorem infM_2 (w : World) : Calls Tryd.prog 53 #[.int .i64 (-1)] w fun e w' => e = .returned (.float .f64 18442240474082181120) ∧ w = w' := infM_any (-1) w
abbrev statsV (n : Int) (r m s a b : Nat) : Value := .agg #[.int .i64 n, .float .f64 r, .float .f64 m, .float .f64 s, .float .f64 a, .float .f64 b]
def OfEmptyP (w : World) (e : Ending) (w' : World) : Prop := ∃ r m s, e = .returned (.tuple #[statsV 0 r m s 9218868437227405312 18442240474082181120, .int .i64 0]) ∧ Below w.heap.size w w' ∧ (nanB r = true ∧ r < 18446744073709551616) ∧ (nanB m = true ∧ m < 18446744073709551616) ∧ (nanB s = true ∧ s < 18446744073709551616)
theorem fr_00 {r : Nat} (h : FR .quo 0 0 r) : nanB r = true ∧ r < 18446744073709551616 := by
  refine ⟨?_, h.1⟩
  rcases h.2 with h | h
  · exfalso
    have : floatBits .quo .f64 0 0 = none := by kernel_rfl
    rw [this] at h; cases h
  · exact h.2
theorem below_set {B : Nat} {w W : World} {b o : Nat} {v : Value} (hb : B ≤ b) (h : Below B w W) : Below B w (W.setCell ⟨b, o, none⟩ v) := h.setCell hb v
theorem store_float (a : Addr) (b : Nat) (w : World) (m : Mode) : (store a (.float .f64 b) m).run Tryd.prog w = stored Tryd.prog w a (.float .f64 b) m := run_store Tryd.prog w a _ m rfl
theorem foi_0 : floatOfInt .f64 0 = 0 := by kernel_rfl
set_option maxRecDepth 100000 in
set_option maxHeartbeats 1000000 in
theorem of_empty (w : World) : Calls Tryd.prog 26 #[wv0, .int .i64 (-1), .int .i64 0] w (OfEmptyP w) := by
  have h0 := foi_0
  have hsf := store_float
  go_enter Tryd.func26, Tryd.ntmps26
  go_wp2_with fail
  obtain ⟨W, hW⟩ : ∃ W, ((w.alloc (.cells #[.slice none 0 0, .slice none 0 0, .slice none 0 0, .slice none 0 0] 26)).alloc (.cells #[.int .i64 0, .float .f64 0, .float .f64 0, .float .f64 0, .float .f64 0, .float .f64 0] 44)) = W := ⟨_, rfl⟩
  have hbW : Below w.heap.size w W := by rw [← hW]; exact below_alloc (below_alloc (Below.refl _ _) _) _
  have hsW : W.heap.size = w.heap.size + 2 := by rw [← hW]; simp
  have c0 : W.cell? ⟨w.heap.size, 0, none⟩ = some (.slice none 0 0) := by rw [← hW]; simp [go_sem]
  have c3 : W.cell? ⟨w.heap.size, 3, none⟩ = some (.slice none 0 0) := by rw [← hW]; simp [go_sem]
  have q0 : W.cell? ⟨w.heap.size + 1, 0, none⟩ = some (.int .i64 0) := by rw [← hW]; simp [go_sem]
  have f0 : W.frozen? ⟨w.heap.size + 1, 0, none⟩ = false := by rw [← hW]; simp [go_sem]
  have q1 : W.cell? ⟨w.heap.size + 1, 1, none⟩ = some (.float .f64 0) := by rw [← hW]; simp [go_sem]
  have f1 : W.frozen? ⟨w.heap.size + 1, 1, none⟩ = false := by rw [← hW]; simp [go_sem]
  have q2 : W.cell? ⟨w.heap.size + 1, 2, none⟩ = some (.float .f64 0) := by rw [← hW]; simp [go_sem]
  have f2 : W.frozen? ⟨w.heap.size + 1, 2, none⟩ = false := by rw [← hW]; simp [go_sem]
  have q3 : W.cell? ⟨w.heap.size + 1, 3, none⟩ = some (.float .f64 0) := by rw [← hW]; simp [go_sem]
  have f3 : W.frozen? ⟨w.heap.size + 1, 3, none⟩ = false := by rw [← hW]; simp [go_sem]
  have q4 : W.cell? ⟨w.heap.size + 1, 4, none⟩ = some (.float .f64 0) := by rw [← hW]; simp [go_sem]
  have f4 : W.frozen? ⟨w.heap.size + 1, 4, none⟩ = false := by rw [← hW]; simp [go_sem]
  have q5 : W.cell? ⟨w.heap.size + 1, 5, none⟩ = some (.float .f64 0) := by rw [← hW]; simp [go_sem]
  have f5 : W.frozen? ⟨w.heap.size + 1, 5, none⟩ = false := by rw [← hW]; simp [go_sem]
  have h := check_empty W
  rw [← hW] at h
  refine h.mono ?_
  clear h
  rw [hW]
  clear hW
  rintro e w1 ⟨rfl, hb⟩
  have d0 := (hb.cell (p := ⟨w.heap.size, 0, none⟩) (by show w.heap.size < _; omega)).trans c0
  have d3 := (hb.cell (p := ⟨w.heap.size, 3, none⟩) (by show w.heap.size < _; omega)).trans c3
  replace q0 := (hb.cell (p := ⟨w.heap.size + 1, 0, none⟩) (by show w.heap.size + 1 < _; omega)).trans q0
  replace f0 := (hb.frozen (p := ⟨w.heap.size + 1, 0, none⟩) (by show w.heap.size + 1 < _; omega)).trans f0
  replace q1 := (hb.cell (p := ⟨w.heap.size + 1, 1, none⟩) (by show w.heap.size + 1 < _; omega)).trans q1
  replace f1 := (hb.frozen (p := ⟨w.heap.size + 1, 1, none⟩) (by show w.heap.size + 1 < _; omega)).trans f1
  replace q2 := (hb.cell (p := ⟨w.heap.size + 1, 2, none⟩) (by show w.heap.size + 1 < _; omega)).trans q2
  replace f2 := (hb.frozen (p := ⟨w.heap.size + 1, 2, none⟩) (by show w.heap.size + 1 < _; omega)).trans f2
  replace q3 := (hb.cell (p := ⟨w.heap.size + 1, 3, none⟩) (by show w.heap.size + 1 < _; omega)).trans q3
  replace f3 := (hb.frozen (p := ⟨w.heap.size + 1, 3, none⟩) (by show w.heap.size + 1 < _; omega)).trans f3
  replace q4 := (hb.cell (p := ⟨w.heap.size + 1, 4, none⟩) (by show w.heap.size + 1 < _; omega)).trans q4
  replace f4 := (hb.frozen (p := ⟨w.heap.size + 1, 4, none⟩) (by show w.heap.size + 1 < _; omega)).trans f4
  replace q5 := (hb.cell (p := ⟨w.heap.size + 1, 5, none⟩) (by show w.heap.size + 1 < _; omega)).trans q5
  replace f5 := (hb.frozen (p := ⟨w.heap.size + 1, 5, none⟩) (by show w.heap.size + 1 < _; omega)).trans f5
  have hb1 : Below w.heap.size w w1 := hbW.trans (hb.mono (by omega))
  have hs1 : w.heap.size + 2 ≤ w1.heap.size := by have := hb.size; omega
  have HB := Lib.hid hb1
  have HS := Lib.hid hs1
  have z1 : w.heap.size < w1.heap.size := by omega
  have z2 : w.heap.size + 1 < w1.heap.size := by omega
  clear c0 c3 hb hb1 hs1 hsW hbW
  go_wp2_with (first | (go_at_call 53; (with_reducible first | refine (infM_1 _).mono ?_ | refine (infM_2 _).mono ?_); rintro e w' ⟨rfl, rfl⟩))
  go_loop [9, 49] (fun g v => g = .slice none 0 0 ∧ v = .int .i64 0) (fun _ _ => 0)
  case atStart => exact ⟨rfl, rfl⟩
  case round =>
    obtain ⟨rfl, rfl⟩ := hrel
    go_wp2_with fail
    go_loop [13, 87] (fun s v => s = .float .f64 0 ∧ v = .int .i64 0) (fun _ _ => 0)
    case atStart => exact ⟨rfl, rfl⟩
    case round =>
      obtain ⟨rfl, rfl⟩ := hrel
      go_wp2_with fail
      refine (ratio_any 0 0 _).mono ?_
      rintro e w' ⟨r1, m1, rfl, rfl, hr1⟩
      have R1 := Lib.hid hr1
      clear hr1
      go_wp2_with fail
      refine (ratio_any 0 0 _).mono ?_
      rintro e w' ⟨r2, m2, rfl, rfl, hr2⟩
      have R2 := Lib.hid hr2
      clear hr2
      go_wp2_with fail
      go_loop [14, 120] (fun s v => s = .float .f64 0 ∧ v = .int .i64 0) (fun _ _ => 0)
      case atStart => exact ⟨rfl, rfl⟩
      case round =>
        obtain ⟨rfl, rfl⟩ := hrel
        go_wp2_with fail
        refine (ratio_any 0 0 _).mono ?_
        rintro e w' ⟨r3, m3, rfl, rfl, hr3⟩
        have R3 := Lib.hid hr3
        clear hr3
        go_wp2_with fail
        refine bodyPost_ret (v := .tuple #[statsV 0 r1 r2 r3 9218868437227405312 18442240474082181120, .int .i64 0]) (by simp [results, Tryd.results26, go_sem, q0, q1, q2, q3, q4, q5, z1, z2]) rfl ⟨r1, r2, r3, rfl, ?_, fr_00 R1.out, fr_00 R2.out, fr_00 R3.out⟩
        repeat (with_reducible first | exact HB.out | (refine below_set ?_ ?_; (· omega)) | refine pw_below_drewN ?_ _ | refine below_alloc ?_ _)
end Go.Proofs.YtcbkgammlfjjoaaDoor
