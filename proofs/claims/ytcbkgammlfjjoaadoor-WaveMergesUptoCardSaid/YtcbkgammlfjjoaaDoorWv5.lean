-- PRINTED BY print.sh 35421559b90ae4d0a3588c463048766b98c2df88dd9212a6774a882060cdf62d: turned by wip/wave/gen_wv.py
import Derived.Test.YtcbkgammlfjjoaaDoorWv0
import Derived.Test.YtcbkgammlfjjoaaDoorWv2
namespace Go.Proofs.YtcbkgammlfjjoaaDoor
open Go.RowKit Go.Proofs.YtcbkgammlfjjoaaDoorW.PrintWords Go.Proofs.YtcbkgammlfjjoaaDoorW.PrintLast Go.Proofs.YtcbkgammlfjjoaaDoorW.PrintMore
attribute [local go_sem] max2_int min2_int max_two min_two max_three min_three max_four min_four   -- for this text's walks alone
set_option linter.unusedVariables false
set_option linter.unusedSimpArgs false

-- NOT PRINTED: function 77 (api_Change_77)

-- NOT PRINTED: function 64 (api_Change_64)

-- NOT PRINTED: function 87 (api_Change_87)

-- NOT PRINTED: function 97 (api_Change_97)

-- NOT PRINTED: function 93 (api_Change_93)

-- NOT PRINTED: function 88 (api_Change_88)

-- NOT PRINTED: function 78 (api_Change_78)

-- NOT PRINTED: function 65 (api_Change_65)

-- NOT PRINTED: function 38 (wave_Merge)

/-! ### silkwormwaves_Merged: function 39 -/
mutual
def silkwormwaves_Merged.l0 : Nat → List (List (S59)) → List (S59) → Int → Option ((List (S59)))
  | 0, _, _, _ => none
  | k + 1, x0, x3, x4 => if x4 < (x0.length : Int) then (silkwormwaves_Merged.l1 k x0 x3 x4 0) else (some x3)
def silkwormwaves_Merged.l1 : Nat → List (List (S59)) → List (S59) → Int → Int → Option ((List (S59)))
  | 0, _, _, _, _ => none
  | k + 1, x0, x3, x4, x5 => if 0 ≤ x4 then (if x4 < (x0.length : Int) then (if x5 < ((rd_L3 x0 x4).length : Int) then (if 0 ≤ x5 then (silkwormwaves_Merged.l2 k x0 x3 x4 x5 ([] : List (S59)) false 0 ((rd_T59 (rd_L3 x0 x4) x5).f0) ((rd_T59 (rd_L3 x0 x4) x5).f1) ((rd_T59 (rd_L3 x0 x4) x5).f2)) else (none)) else (silkwormwaves_Merged.l0 k x0 x3 (wrap64 (x4 + 1)))) else (none)) else (none)
def silkwormwaves_Merged.l2 : Nat → List (List (S59)) → List (S59) → Int → Int → List (S59) → Bool → Int → Int → Int → ByteArray → Option ((List (S59)))
  | 0, _, _, _, _, _, _, _, _, _, _ => none
  | k + 1, x0, x3, x4, x5, x7, x8, x9, x180000, x180001, x180002 => if x9 < (x3.length : Int) then (if x8 = true then (if 0 ≤ x9 then (if x7.length < 4398046511104 then (silkwormwaves_Merged.l2 k x0 x3 x4 x5 (x7 ++ [(⟨(rd_T59 x3 x9).f0, (rd_T59 x3 x9).f1, (rd_T59 x3 x9).f2⟩ : S59)]) x8 (wrap64 (x9 + 1)) x180000 x180001 x180002) else (none)) else (none)) else (if 0 ≤ x9 then ((silkwormwaves_Ahead.f x180000 x180001 x180002 ((rd_T59 x3 x9).f0) ((rd_T59 x3 x9).f1) ((rd_T59 x3 x9).f2)).bind fun t185 => (if t185 = true then (if x7.length < 4398046511104 then ((some (x7 ++ [(⟨x180000, x180001, x180002⟩ : S59)] : List (S59))).bind fun y186 => (if y186.length < 4398046511104 then (silkwormwaves_Merged.l2 k x0 x3 x4 x5 (y186 ++ [(⟨(rd_T59 x3 x9).f0, (rd_T59 x3 x9).f1, (rd_T59 x3 x9).f2⟩ : S59)]) true (wrap64 (x9 + 1)) x180000 x180001 x180002) else (none))) else (none)) else (if x7.length < 4398046511104 then (silkwormwaves_Merged.l2 k x0 x3 x4 x5 (x7 ++ [(⟨(rd_T59 x3 x9).f0, (rd_T59 x3 x9).f1, (rd_T59 x3 x9).f2⟩ : S59)]) x8 (wrap64 (x9 + 1)) x180000 x180001 x180002) else (none)))) else (none))) else (if x8 = true then (silkwormwaves_Merged.l1 k x0 x7 x4 (wrap64 (x5 + 1))) else (if x7.length < 4398046511104 then (silkwormwaves_Merged.l1 k x0 (x7 ++ [(⟨x180000, x180001, x180002⟩ : S59)]) x4 (wrap64 (x5 + 1))) else (none)))
end
def silkwormwaves_Merged.f (k : Nat) (l0 : List (List (S59))) : Option ((List (S59))) := silkwormwaves_Merged.l0 k l0 ([] : List (S59)) 0
theorem silkwormwaves_Merged.mono_l : ∀ k, (∀ y0 y1 y2, LeO (silkwormwaves_Merged.l0 k y0 y1 y2) (silkwormwaves_Merged.l0 (k + 1) y0 y1 y2)) ∧ (∀ y0 y1 y2 y3, LeO (silkwormwaves_Merged.l1 k y0 y1 y2 y3) (silkwormwaves_Merged.l1 (k + 1) y0 y1 y2 y3)) ∧ (∀ y0 y1 y2 y3 y4 y5 y6 y7 y8 y9, LeO (silkwormwaves_Merged.l2 k y0 y1 y2 y3 y4 y5 y6 y7 y8 y9) (silkwormwaves_Merged.l2 (k + 1) y0 y1 y2 y3 y4 y5 y6 y7 y8 y9))
  | 0 => ⟨fun _ _ _ r h => by simp [silkwormwaves_Merged.l0] at h, fun _ _ _ _ r h => by simp [silkwormwaves_Merged.l1] at h, fun _ _ _ _ _ _ _ _ _ _ r h => by simp [silkwormwaves_Merged.l2] at h⟩
  | k + 1 => by
    obtain ⟨ih0, ih1, ih2⟩ := silkwormwaves_Merged.mono_l k
    refine ⟨?_, ?_, ?_⟩
    · intro y0 y1 y2
      unfold silkwormwaves_Merged.l0
      repeat' first
      | (with_reducible exact ih0 _ _ _)
      | (with_reducible exact ih1 _ _ _ _)
      | (with_reducible exact ih2 _ _ _ _ _ _ _ _ _ _)
      | (with_reducible exact LeO.refl _)
      | (with_reducible exact LeO.none _)
      | (with_reducible refine LeO.ite ?_ ?_)
      | (with_reducible refine LeO.bind ?_ (fun _ => ?_))
      | exact ih0 _ _ _
      | exact ih1 _ _ _ _
      | exact ih2 _ _ _ _ _ _ _ _ _ _
      | exact LeO.none _
      | refine LeO.ite ?_ ?_
      | refine LeO.bind ?_ (fun _ => ?_)
    · intro y0 y1 y2 y3
      unfold silkwormwaves_Merged.l1
      repeat' first
      | (with_reducible exact ih0 _ _ _)
      | (with_reducible exact ih1 _ _ _ _)
      | (with_reducible exact ih2 _ _ _ _ _ _ _ _ _ _)
      | (with_reducible exact LeO.refl _)
      | (with_reducible exact LeO.none _)
      | (with_reducible refine LeO.ite ?_ ?_)
      | (with_reducible refine LeO.bind ?_ (fun _ => ?_))
      | exact ih0 _ _ _
      | exact ih1 _ _ _ _
      | exact ih2 _ _ _ _ _ _ _ _ _ _
      | exact LeO.none _
      | refine LeO.ite ?_ ?_
      | refine LeO.bind ?_ (fun _ => ?_)
    · intro y0 y1 y2 y3 y4 y5 y6 y7 y8 y9
      unfold silkwormwaves_Merged.l2
      repeat' first
      | (with_reducible exact ih0 _ _ _)
      | (with_reducible exact ih1 _ _ _ _)
      | (with_reducible exact ih2 _ _ _ _ _ _ _ _ _ _)
      | (with_reducible exact LeO.refl _)
      | (with_reducible exact LeO.none _)
      | (with_reducible refine LeO.ite ?_ ?_)
      | (with_reducible refine LeO.bind ?_ (fun _ => ?_))
      | exact ih0 _ _ _
      | exact ih1 _ _ _ _
      | exact ih2 _ _ _ _ _ _ _ _ _ _
      | exact LeO.none _
      | refine LeO.ite ?_ ?_
      | refine LeO.bind ?_ (fun _ => ?_)
theorem silkwormwaves_Merged.mono : ∀ a0 k, LeO (silkwormwaves_Merged.f k a0) (silkwormwaves_Merged.f (k + 1) a0) := by
  intro a0 k
  obtain ⟨ih0, ih1, ih2⟩ := silkwormwaves_Merged.mono_l k
  unfold silkwormwaves_Merged.f
  repeat' first
      | (with_reducible exact ih0 _ _ _)
      | (with_reducible exact ih1 _ _ _ _)
      | (with_reducible exact ih2 _ _ _ _ _ _ _ _ _ _)
      | (with_reducible exact LeO.refl _)
      | (with_reducible exact LeO.none _)
      | (with_reducible refine LeO.ite ?_ ?_)
      | (with_reducible refine LeO.bind ?_ (fun _ => ?_))
      | exact ih0 _ _ _
      | exact ih1 _ _ _ _
      | exact ih2 _ _ _ _ _ _ _ _ _ _
      | exact LeO.none _
      | refine LeO.ite ?_ ?_
      | refine LeO.bind ?_ (fun _ => ?_)
def silkwormwaves_Merged.T14 : Bool × List (List Nat × List Nat) := (true, [([], []), ([0], [0]), ([1], [1]), ([2], [2]), ([2], [2]), ([2], [2]), ([4, 5, 2], [2, 4, 5]), ([6, 2], [2, 6]), ([3, 7, 2, 2], [2, 3, 7]), ([2, 8], [2, 8])])
def silkwormwaves_Merged.B14 : List Nat := [0, 1, 3, 7, 7, 7, 55, 119, 255, 511]
theorem silkwormwaves_Merged.tab14 : rtab .any (opsOf Tryd.f39 14) = silkwormwaves_Merged.T14 := by kernel_rfl
theorem silkwormwaves_Merged.bits14 : waitsOk silkwormwaves_Merged.T14.2 silkwormwaves_Merged.B14 = true := by kernel_rfl
set_option maxHeartbeats 8000000 in
set_option maxRecDepth 100000 in
theorem silkwormwaves_Merged.calls (k : Nat) (A0 : Option Addr) (c0 : Nat) (l0 : List (List (S59))) (r : List (S59)) (w : World) (hr0 : Kd.C (Kd.slice 59 k59) w A0 l0.length l0) (hc0 : l0.length ≤ c0) (h : silkwormwaves_Merged.f k l0 = some r) :
    Calls Tryd.prog 39 #[.slice A0 l0.length c0] w fun e w' => ∃ v0_ : Value, e = .returned (v0_) ∧ Kd.R k59 59 w' w.heap.size (fun _ => True) v0_ r ∧ Below w.heap.size w w' := by
  have hu59 := Tryd.underlying59
  have HR0 := Aside0.mk hr0
  have HC0 := Aside0.mk hc0
  clear hr0 hc0
  have HB := Aside0.mk (Below.refl w.heap.size w)
  have H : (silkwormwaves_Merged.l0 k l0 ([] : List (S59)) 0) = some r := h
  clear h
  have H' := Aside0.mk H
  clear H
  go_enter Tryd.func39, Tryd.ntmps39
  go_wp2
  go_loopg [3, 4] k (fun kq v3 v4 w' => ∃ (x3_1 : List (S59)) (x4_1 : Int), v4 = .int .i64 x4_1 ∧ Aside0 (silkwormwaves_Merged.l0 kq l0 x3_1 x4_1 = some r) ∧ Aside0 (kq ≤ k) ∧ Aside0 (Kd.R k59 59 w' w.heap.size (fun _ => True) v3 x3_1) ∧ Aside0 (Below w.heap.size w w'))
  case atStart => exact ⟨(([] : List (S59))), (0), (by first | rfl | (simp; done) | (simp [*]; done)), H', ⟨Nat.le_refl _⟩, ⟨by first | exact Kd.R_nil _ _ _ _ _ | exact Kd.N_nil _ _ _ _ _ | exact Kd.V_nil _ _ _ _ _ | exact Kd.Q_nil _ _ _ _ _ | exact Kd.S_nil _ _ _ _ _⟩, ⟨by repeat (first | (with_reducible first | exact HB.out | apply below_alloc | apply pw_below_drewN | apply below_drew1) | exact HB.out)⟩⟩
  case round =>
    clear H'
    obtain ⟨x3_1, x4_1, rfl, HA, HK1, HO_3, HB⟩ := hrel
    cases gk with
    | zero => exact absurd HA.out (by simp [silkwormwaves_Merged.l0])
    | succ k1 =>
      have H := HA.out
      clear HA
      simp only [silkwormwaves_Merged.l0] at H
      by_cases c2 : x4_1 < (l0.length : Int)
      · rw [if_pos c2] at H
        have c2b0 : decide (x4_1 < (l0.length : Int)) = true := decide_eq_true c2
        clear c2
        have H' := Aside0.mk H
        clear H
        go_wp2
        go_loopg [3, 5] k1 (fun kq v3 v5 w' => ∃ (x3_2 : List (S59)) (x5_2 : Int), v5 = .int .i64 x5_2 ∧ Aside0 (silkwormwaves_Merged.l1 kq l0 x3_2 x4_1 x5_2 = some r) ∧ Aside0 (kq ≤ k1) ∧ Aside0 (Kd.R k59 59 w' w.heap.size (fun _ => True) v3 x3_2) ∧ Aside0 (Below w.heap.size w w'))
        case atStart => exact ⟨(x3_1), (0), (by first | rfl | (simp; done) | (simp [*]; done)), H', ⟨Nat.le_refl _⟩, ⟨by (with_reducible repeat (first | apply Kd.R_alloc | apply Kd.R_drewN | apply Kd.R_drew)); exact HO_3.out⟩, ⟨by repeat (first | (with_reducible first | exact HB.out | apply below_alloc | apply pw_below_drewN | apply below_drew1) | exact HB.out)⟩⟩
        case round =>
          clear H'
          try clear c2
          try clear c2b0
          try clear p2
          obtain ⟨x3_2, x5_2, rfl, HA, HK2, HO_3, HB⟩ := hrel
          cases gk with
          | zero => exact absurd HA.out (by simp [silkwormwaves_Merged.l1])
          | succ k2 =>
            have H := HA.out
            clear HA
            simp only [silkwormwaves_Merged.l1] at H
            by_cases c3 : 0 ≤ x4_1
            · rw [if_pos c3] at H
              have c3b0 : decide (0 ≤ x4_1) = true := decide_eq_true c3
              clear c3
              by_cases c4 : x4_1 < (l0.length : Int)
              · rw [if_pos c4] at H
                have c4b0 : decide (x4_1 < (l0.length : Int)) = true := decide_eq_true c4
                clear c4
                by_cases c5 : x5_2 < ((rd_L3 l0 x4_1).length : Int)
                · rw [if_pos c5] at H
                  have c5b0 : decide (x5_2 < ((rd_L3 l0 x4_1).length : Int)) = true := decide_eq_true c5
                  clear c5
                  by_cases c6 : 0 ≤ x5_2
                  · rw [if_pos c6] at H
                    have c6b0 : decide (0 ≤ x5_2) = true := decide_eq_true c6
                    clear c6
                    have H' := Aside0.mk H
                    clear H
                    have p176 : 0 ≤ (x4_1 : Int) := of_decide_eq_true (by first | (with_reducible assumption) | assumption)
                    have q176 : x4_1 < (l0.length : Int) := of_decide_eq_true (by first | (with_reducible assumption) | assumption)
                    obtain ⟨ad176, A176_0, c176_0, e176, hx176_0, hl176_0, hi176_0⟩ := at_L3 HR0.out x4_1 p176 q176
                    cases e176
                    replace hx176_0 := (HB.out.cell (World.block_lt_of_cell? w _ hx176_0)).trans hx176_0
                    have HR176_0 := Aside0.mk hi176_0
                    have HC176_0 := Aside0.mk hl176_0
                    clear hi176_0 hl176_0
                    replace p176 := eq_true p176
                    replace q176 := eq_true q176
                    have p177 : 0 ≤ (x4_1 : Int) := of_decide_eq_true (by first | (with_reducible assumption) | assumption)
                    have q177 : x4_1 < (l0.length : Int) := of_decide_eq_true (by first | (with_reducible assumption) | assumption)
                    obtain ⟨ad177, A177_0, c177_0, e177, hx177_0, hl177_0, hi177_0⟩ := at_L3 HR0.out x4_1 p177 q177
                    obtain rfl : ad176 = ad177 := (by injection e177)
                    replace hx177_0 := (HB.out.cell (World.block_lt_of_cell? w _ hx177_0)).trans hx177_0
                    have HR177_0 := Aside0.mk hi177_0
                    have HC177_0 := Aside0.mk hl177_0
                    clear hi177_0 hl177_0
                    replace p177 := eq_true p177
                    replace q177 := eq_true q177
                    have ea_ := Option.some.inj (hx176_0.symm.trans hx177_0)
                    injection ea_ with ea_ en_ ec_
                    subst ea_
                    subst ec_
                    clear en_
                    have p178 : 0 ≤ (x5_2 : Int) := of_decide_eq_true (by first | (with_reducible assumption) | assumption)
                    have q178 : x5_2 < ((rd_L3 l0 x4_1).length : Int) := of_decide_eq_true (by first | (with_reducible assumption) | assumption)
                    obtain ⟨ad178, e178, hx178_0, hx178_1, hx178_2⟩ := at_T59 HR177_0.out x5_2 p178 q178
                    cases e178
                    replace hx178_0 := (HB.out.cell (World.block_lt_of_cell? w _ hx178_0)).trans hx178_0
                    replace hx178_1 := (HB.out.cell (World.block_lt_of_cell? w _ hx178_1)).trans hx178_1
                    replace hx178_2 := (HB.out.cell (World.block_lt_of_cell? w _ hx178_2)).trans hx178_2
                    replace p178 := eq_true p178
                    replace q178 := eq_true q178
                    go_wp2_with (first | ((with_reducible refine gate_dst (N := 6) rfl ?_); refine box_event ?hg (N := 6) ?hd (cs := #[.int .i64 0, .int .i64 0, .string (⟨#[]⟩ : ByteArray)]) (t := 59) ?hr ?_; (case hd => rfl); (case hg => rfl); (case hr => first | (go_simp; done) | (go_simp; rfl)); intro gb179 hg w7 hbox hb; have n0_ := Aside0.mk (Kd.R_below (Kd.R_elderB (by (with_reducible repeat (first | apply Kd.R_alloc | apply Kd.R_drewN | apply Kd.R_drew)); exact HO_3.out) gb179 (Nat.le_of_eq hg.symm)) hb); have n1_ := Aside0.mk (below_step (by repeat (first | (with_reducible first | exact HB.out | apply below_alloc | apply pw_below_drewN | apply below_drew1) | exact HB.out)) hb); have n2_ := Aside0.mk (hbox); have n3_ := Aside0.mk ((by rw [hg]; exact (below_size (by repeat (first | (with_reducible first | exact HB.out | apply below_alloc | apply pw_below_drewN | apply below_drew1) | exact HB.out))) : w.heap.size ≤ gb179)); have n4_ := Aside0.mk ((by rw [hg]; exact (below_size (by repeat (first | (with_reducible first | exact HB.out | apply below_alloc | apply pw_below_drewN | apply below_drew1) | exact HB.out))) : w.heap.size ≤ gb179)); clear HO_3; clear HB; have HO_3 := n0_; have HB := n1_; have BK179 := n2_; have GW179 := n3_; have GE179 := n4_; clear n0_ n1_ n2_ n3_ n4_; clear hb hbox hg; have hcz8_0 : w7.cell? ⟨gb179, 0, none⟩ = some (.int .i64 0) := (blk_cell BK179.out 0).trans rfl; have hcz8_1 : w7.cell? ⟨gb179, 1, none⟩ = some (.int .i64 0) := (blk_cell BK179.out 1).trans rfl; have hcz8_2 : w7.cell? ⟨gb179, 2, none⟩ = some (.string (⟨#[]⟩ : ByteArray)) := (blk_cell BK179.out 2).trans rfl; have hfz8_0 := blk_frozen BK179.out 0; have hfz8_1 := blk_frozen BK179.out 1; have hfz8_2 := blk_frozen BK179.out 2))
                    go_loopg [7, 8, 9] k2 (fun kq v7 v8 v9 w' => ∃ (x7_3 : List (S59)) (x8_3 : Bool) (x9_3 : Int), v8 = .bool x8_3 ∧ v9 = .int .i64 x9_3 ∧ Aside0 (silkwormwaves_Merged.l2 kq l0 x3_2 x4_1 x5_2 x7_3 x8_3 x9_3 ((rd_T59 (rd_L3 l0 x4_1) x5_2).f0) ((rd_T59 (rd_L3 l0 x4_1) x5_2).f1) ((rd_T59 (rd_L3 l0 x4_1) x5_2).f2) = some r) ∧ Aside0 (kq ≤ k2) ∧ Aside0 (Kd.R k59 59 w' w.heap.size (fun k_ => some k_ ≠ (v7 : Value).ownBlock ∧ k_ ≠ gb179) u3 x3_2) ∧ Aside0 (Kd.R k59 59 w' w.heap.size (fun k_ => some k_ ≠ (u3 : Value).ownBlock ∧ k_ ≠ gb179) v7 x7_3) ∧ Aside0 (w'.heap[gb179]? = some (.cells #[.int .i64 ((rd_T59 (rd_L3 l0 x4_1) x5_2).f0), .int .i64 ((rd_T59 (rd_L3 l0 x4_1) x5_2).f1), .string ((rd_T59 (rd_L3 l0 x4_1) x5_2).f2)] 59 (0, 0))) ∧ Aside0 (Below w.heap.size w w'))
                    case atStart => exact ⟨(([] : List (S59))), (false), (0), (by first | rfl | (simp; done) | (simp [*]; done)), (by first | rfl | (simp; done) | (simp [*]; done)), H', ⟨Nat.le_refl _⟩, ⟨by (with_reducible repeat (first | apply Kd.R_alloc | apply Kd.R_drewN | apply Kd.R_drew)); exact Kd.R_mono (Kd.R_far (p := ⟨gb179, 2, none⟩) (Kd.R_far (p := ⟨gb179, 1, none⟩) (Kd.R_far (p := ⟨gb179, 0, none⟩) (Kd.R_mono HO_3.out (fun k_ hk => (⟨hk, hk.2⟩ : _ ∧ k_ ≠ gb179))) (fun _ hk => hk.2) (.int .i64 ((rd_T59 (rd_L3 l0 x4_1) x5_2).f0))) (fun _ hk => hk.2) (.int .i64 ((rd_T59 (rd_L3 l0 x4_1) x5_2).f1))) (fun _ hk => hk.2) (.string ((rd_T59 (rd_L3 l0 x4_1) x5_2).f2))) (fun _ hk => ⟨(by simp [Value.ownBlock]), hk.1.2⟩)⟩, ⟨by first | exact Kd.R_nil _ _ _ _ _ | exact Kd.N_nil _ _ _ _ _ | exact Kd.V_nil _ _ _ _ _ | exact Kd.Q_nil _ _ _ _ _ | exact Kd.S_nil _ _ _ _ _⟩, ⟨by (with_reducible repeat (first | refine blk_drewN ?_ _ | refine blk_drew ?_ | refine blk_alloc ?_ _)); refine blk_put (cs := #[.int .i64 ((rd_T59 (rd_L3 l0 x4_1) x5_2).f0), .int .i64 ((rd_T59 (rd_L3 l0 x4_1) x5_2).f1), .string (⟨#[]⟩ : ByteArray)]) ?_ 2 _ rfl; (with_reducible repeat (first | refine blk_drewN ?_ _ | refine blk_drew ?_ | refine blk_alloc ?_ _)); refine blk_put (cs := #[.int .i64 ((rd_T59 (rd_L3 l0 x4_1) x5_2).f0), .int .i64 0, .string (⟨#[]⟩ : ByteArray)]) ?_ 1 _ rfl; (with_reducible repeat (first | refine blk_drewN ?_ _ | refine blk_drew ?_ | refine blk_alloc ?_ _)); refine blk_put (cs := #[.int .i64 0, .int .i64 0, .string (⟨#[]⟩ : ByteArray)]) ?_ 0 _ rfl; (with_reducible repeat (first | refine blk_drewN ?_ _ | refine blk_drew ?_ | refine blk_alloc ?_ _)); exact BK179.out⟩, ⟨by repeat (first | (with_reducible first | exact HB.out | apply below_alloc | apply pw_below_drewN | apply below_drew1 | refine below_set ?_ GE179.out) | exact HB.out)⟩⟩
                    case round =>
                      clear H'
                      try clear c1
                      try clear p1
                      try clear q1
                      try clear hx1
                      try clear c2
                      try clear c2b0
                      try clear p2
                      try clear c3
                      try clear c3b0
                      try clear c4
                      try clear c4b0
                      try clear c5
                      try clear c5b0
                      try clear c6
                      try clear c6b0
                      try clear hcz8_0
                      try clear hcz8_1
                      try clear hcz8_2
                      try clear hfz8_0
                      try clear hfz8_1
                      try clear hfz8_2
                      try clear hx176_0
                      try clear hx177_0
                      try clear hx178_0
                      try clear hx178_1
                      try clear hx178_2
                      try clear p176
                      try clear p177
                      try clear p178
                      try clear p2
                      try clear q176
                      try clear q177
                      try clear q178
                      obtain ⟨x7_3, x8_3, x9_3, rfl, rfl, HA, HK3, HO_3, HO_7, BK179, HB⟩ := hrel
                      cases gk with
                      | zero => exact absurd HA.out (by simp [silkwormwaves_Merged.l2])
                      | succ k3 =>
                        have H := HA.out
                        clear HA
                        simp only [silkwormwaves_Merged.l2] at H
                        by_cases c9 : x9_3 < (x3_2.length : Int)
                        · rw [if_pos c9] at H
                          have c9b0 : decide (x9_3 < (x3_2.length : Int)) = true := decide_eq_true c9
                          clear c9
                          by_cases c10 : x8_3 = true
                          · subst c10
                            have H1 : (if 0 ≤ x9_3 then (if x7_3.length < 4398046511104 then (silkwormwaves_Merged.l2 k3 l0 x3_2 x4_1 x5_2 (x7_3 ++ [(⟨(rd_T59 x3_2 x9_3).f0, (rd_T59 x3_2 x9_3).f1, (rd_T59 x3_2 x9_3).f2⟩ : S59)]) true (wrap64 (x9_3 + 1)) ((rd_T59 (rd_L3 l0 x4_1) x5_2).f0) ((rd_T59 (rd_L3 l0 x4_1) x5_2).f1) ((rd_T59 (rd_L3 l0 x4_1) x5_2).f2)) else (none)) else (none)) = some r := by rw [if_pos rfl] at H; exact H
                            clear H
                            have H := H1
                            clear H1
                            by_cases c11 : 0 ≤ x9_3
                            · rw [if_pos c11] at H
                              have c11b0 : decide (0 ≤ x9_3) = true := decide_eq_true c11
                              clear c11
                              by_cases c12 : x7_3.length < 4398046511104
                              · rw [if_pos c12] at H
                                have LMc12 := Aside0.mk c12
                                clear c12
                                obtain ⟨y181, hy181⟩ : ∃ y_ : List (S59), y_ = (x7_3 ++ [(⟨(rd_T59 x3_2 x9_3).f0, (rd_T59 x3_2 x9_3).f1, (rd_T59 x3_2 x9_3).f2⟩ : S59)]) := ⟨_, rfl⟩
                                replace H : (silkwormwaves_Merged.l2 k3 l0 x3_2 x4_1 x5_2 y181 true (wrap64 (x9_3 + 1)) ((rd_T59 (rd_L3 l0 x4_1) x5_2).f0) ((rd_T59 (rd_L3 l0 x4_1) x5_2).f1) ((rd_T59 (rd_L3 l0 x4_1) x5_2).f2)) = some r := by first | (rw [hy181]; with_reducible exact H) | (have H2_ := (Option.bind_some _ _).symm.trans H; rw [hy181]; with_reducible exact H2_) | (have H2_ := (Option.bind_some _ _).symm.trans H; with_reducible exact H2_) | with_reducible exact H | (rw [hy181]; exact H) | exact H
                                have Ny181 := Aside0.mk hy181
                                clear hy181
                                have H' := Aside0.mk H
                                clear H
                                obtain ⟨Ao13, co13, eo13⟩ := Kd.R_slice HO_3.out
                                subst eo13
                                try go_wp2
                                have n0_ := Aside0.mk (Kd.R_drew HO_3.out)
                                have n1_ := Aside0.mk (Kd.R_drew HO_7.out)
                                have n2_ := Aside0.mk (blk_drew BK179.out)
                                have n3_ := Aside0.mk (below_drew1 HB.out)
                                clear HO_3
                                clear HO_7
                                clear BK179
                                clear HB
                                have HO_3 := n0_
                                have HO_7 := n1_
                                have BK179 := n2_
                                have HB := n3_
                                clear n0_ n1_ n2_ n3_
                                refine start_ (n := 10) (S := fun w' => True) (ds := []) #[false, false, false, false, false, false, false, false, false, false] (by kernel_rfl) rfl rfl trivial (fun hHeld => ?_); refine with_tabW silkwormwaves_Merged.tab14 silkwormwaves_Merged.bits14 (fun HT_ HW_ => ?_)
                                generalize wr.drew = w14 at HO_3 HO_7 BK179 HB hHeld ⊢
                                refine pure_ (i := 0) (N := some 38) (v := ?_) (a' := ?_) #[true, false, false, false, false, false, false, false, false, false] rfl rfl (any_of HT_.out (by kernel_rfl)) (fun _ _ _ h => h) (Or.inl ⟨by rfl, ?_⟩) ?_ ?_
                                rotate_left
                                · intro w'
                                  go_simp
                                  with_reducible rfl
                                rotate_left
                                · simp only [Act.put, List.setIfInBounds_toArray, List.set_cons_zero, List.set_cons_succ, i64_w, i32_w]
                                  rfl
                                refine pure_ (i := 1) (N := some 39) (v := ?_) (a' := ?_) #[true, true, false, false, false, false, false, false, false, false] rfl rfl (any_of HT_.out (by kernel_rfl)) (fun _ _ _ h => h) (Or.inl ⟨by rfl, ?_⟩) ?_ ?_
                                rotate_left
                                · intro w'
                                  go_simp
                                  with_reducible rfl
                                rotate_left
                                · simp only [Act.put, List.setIfInBounds_toArray, List.set_cons_zero, List.set_cons_succ, i64_w, i32_w]
                                  rfl
                                refine pure_ (i := 2) (N := some 40) (v := ?_) (a' := ?_) #[true, true, true, false, false, false, false, false, false, false] rfl rfl (any_of HT_.out (by kernel_rfl)) (fun _ _ _ h => h) (Or.inl ⟨by rfl, ?_⟩) ?_ ?_
                                rotate_left
                                · intro w'
                                  go_simp
                                  with_reducible rfl
                                rotate_left
                                · simp only [Act.put, List.setIfInBounds_toArray, List.set_cons_zero, List.set_cons_succ, i64_w, i32_w]
                                  rfl
                                refine pure_ (i := 3) (N := some 41) (v := undef) (a' := ?_) #[true, true, true, true, false, false, false, false, false, false] rfl rfl (any_of HT_.out (by kernel_rfl)) (fun _ _ _ h => h) (Or.inr ⟨by rfl, rfl⟩) ?_ ?_
                                rotate_left
                                · simp only [Act.put, List.setIfInBounds_toArray, List.set_cons_zero, List.set_cons_succ, i64_w, i32_w]
                                  rfl
                                refine pure_ (i := 4) (N := some 42) (v := undef) (a' := ?_) #[true, true, true, true, true, false, false, false, false, false] rfl rfl (any_of HT_.out (by kernel_rfl)) (fun _ _ _ h => h) (Or.inr ⟨by rfl, rfl⟩) ?_ ?_
                                rotate_left
                                · simp only [Act.put, List.setIfInBounds_toArray, List.set_cons_zero, List.set_cons_succ, i64_w, i32_w]
                                  rfl
                                refine pure_ (i := 5) (N := some 43) (v := undef) (a' := ?_) #[true, true, true, true, true, true, false, false, false, false] rfl rfl (any_of HT_.out (by kernel_rfl)) (fun _ _ _ h => h) (Or.inr ⟨by rfl, rfl⟩) ?_ ?_
                                rotate_left
                                · simp only [Act.put, List.setIfInBounds_toArray, List.set_cons_zero, List.set_cons_succ, i64_w, i32_w]
                                  rfl
                                refine pure_ (i := 6) (N := some 44) (v := undef) (a' := ?_) #[true, true, true, true, true, true, true, false, false, false] rfl rfl (any_of HT_.out (by kernel_rfl)) (fun _ _ _ h => h) (Or.inr ⟨by rfl, rfl⟩) ?_ ?_
                                rotate_left
                                · simp only [Act.put, List.setIfInBounds_toArray, List.set_cons_zero, List.set_cons_succ, i64_w, i32_w]
                                  rfl
                                refine pure_ (i := 7) (N := some 45) (v := undef) (a' := ?_) #[true, true, true, true, true, true, true, true, false, false] rfl rfl (any_of HT_.out (by kernel_rfl)) (fun _ _ _ h => h) (Or.inr ⟨by rfl, rfl⟩) ?_ ?_
                                rotate_left
                                · simp only [Act.put, List.setIfInBounds_toArray, List.set_cons_zero, List.set_cons_succ, i64_w, i32_w]
                                  rfl
                                refine pure_ (i := 8) (N := some 46) (v := undef) (a' := ?_) #[true, true, true, true, true, true, true, true, true, false] rfl rfl (any_of HT_.out (by kernel_rfl)) (fun _ _ _ h => h) (Or.inr ⟨by rfl, rfl⟩) ?_ ?_
                                rotate_left
                                · simp only [Act.put, List.setIfInBounds_toArray, List.set_cons_zero, List.set_cons_succ, i64_w, i32_w]
                                  rfl
                                refine pure_ (i := 9) (N := some 47) (v := ?_) (a' := ?_) #[true, true, true, true, true, true, true, true, true, true] rfl rfl (any_of HT_.out (by kernel_rfl)) (fun _ _ _ h => h) (Or.inl ⟨by rfl, ?_⟩) ?_ ?_
                                rotate_left
                                · intro w'
                                  go_simp
                                  with_reducible rfl
                                rotate_left
                                · simp only [Act.put, List.setIfInBounds_toArray, List.set_cons_zero, List.set_cons_succ, i64_w, i32_w]
                                  rfl
                                refine done_ (done_of HT_.out (by kernel_rfl)) ?_
                                have p180 : 0 ≤ (x9_3 : Int) := of_decide_eq_true (by first | (with_reducible assumption) | assumption)
                                have q180 : x9_3 < (x3_2.length : Int) := of_decide_eq_true (by first | (with_reducible assumption) | assumption)
                                obtain ⟨ad180, e180, hx180_0, hx180_1, hx180_2⟩ := at_T59 (Kd.R_reads' HO_3.out).2.2 x9_3 p180 q180
                                cases e180
                                replace p180 := eq_true p180
                                replace q180 := eq_true q180
                                try go_wp2_with (first | ((with_reducible refine gate_builtin (b := .append) (xs := #[.tmp 52, .tmp 57]) rfl ?_); at_builtin; refine Kd.R_append k59 (w0 := w) w.heap.size rfl (.tmp 52) (.tmp 57) 24 59 (.agg #[(.int .i64 0), (.int .i64 0), (.string ⟨#[]⟩)]) 32 rfl Tryd.underlying24 info59 rfl (by decide) (by omega) u7 x7_3 (⟨(rd_T59 x3_2 x9_3).f0, (rd_T59 x3_2 x9_3).f1, (rd_T59 x3_2 x9_3).f2⟩ : S59) [.int .i64 ((rd_T59 x3_2 x9_3).f0), .int .i64 ((rd_T59 x3_2 x9_3).f1), .string ((rd_T59 x3_2 x9_3).f2)] (fun k_ => some k_ ≠ (.slice (some ad180) x3_2.length co13 : Value).ownBlock ∧ k_ ≠ gb179) (fun _ => False) rfl rfl ?aP (fun _ hk => hk.elim) ?aF ?aO ?aB ?aS ?aL ?_; (case aP => exact k59_mkM _ _ _ (⟨(rd_T59 x3_2 x9_3).f0, (rd_T59 x3_2 x9_3).f1, (rd_T59 x3_2 x9_3).f2⟩ : S59)); (case aB => exact (by repeat (first | (with_reducible first | exact HB.out | apply below_alloc | apply pw_below_drewN | apply below_drew1 | refine below_set ?_ GE179.out) | exact HB.out))); (case aF => exact (fun k_ hk => ⟨Kd.fresh' (Kd.R_lt (by (with_reducible repeat (first | apply Kd.R_alloc | apply Kd.R_drewN | apply Kd.R_drew)); exact HO_3.out)) k_ hk, Kd.freshB (g := gb179) (o := .cells #[.int .i64 ((rd_T59 (rd_L3 l0 x4_1) x5_2).f0), .int .i64 ((rd_T59 (rd_L3 l0 x4_1) x5_2).f1), .string ((rd_T59 (rd_L3 l0 x4_1) x5_2).f2)] 59 (0, 0)) (by (with_reducible repeat (first | refine blk_drewN ?_ _ | refine blk_drew ?_ | refine blk_alloc ?_ _)); exact BK179.out) k_ hk⟩)); (case aO => exact (by (with_reducible repeat (first | apply Kd.R_alloc | apply Kd.R_drewN | apply Kd.R_drew)); exact HO_7.out)); (case aS => exact (below_size (by repeat (first | (with_reducible first | exact HB.out | apply below_alloc | apply pw_below_drewN | apply below_drew1 | refine below_set ?_ GE179.out) | exact HB.out)))); (case aL => have := LMc12.out; omega); intro v182 w15 ho hb hg hat; rw [← Ny181.out] at ho; have n0_ := Aside0.mk (Kd.R_after (ok := (fun k_ => k_ ≠ gb179)) (by (with_reducible repeat (first | apply Kd.R_alloc | apply Kd.R_drewN | apply Kd.R_drew)); exact Kd.R_mono HO_3.out (fun _ hk => ⟨hk.2, hk.1⟩)) hg hat); have n1_ := Aside0.mk (blk_grown (g := gb179) (o := .cells #[.int .i64 ((rd_T59 (rd_L3 l0 x4_1) x5_2).f0), .int .i64 ((rd_T59 (rd_L3 l0 x4_1) x5_2).f1), .string ((rd_T59 (rd_L3 l0 x4_1) x5_2).f2)] 59 (0, 0)) (by (with_reducible repeat (first | refine blk_drewN ?_ _ | refine blk_drew ?_ | refine blk_alloc ?_ _)); exact BK179.out) hg (Kd.R_away HO_7.out (fun _ hk => hk.2))); have n2_ := Aside0.mk (hb); have n3_ := Aside0.mk (ho); clear HO_3; clear BK179; clear HB; clear HO_7; have HO_3 := n0_; have BK179 := n1_; have HB := n2_; have HO183 := n3_; clear n0_ n1_ n2_ n3_; clear ho hb hg hat))
                                go_roundg k3
                                case measure => have := HK1.out; have := HK2.out; have := HK3.out; omega
                                case rel => exact ⟨(y181), (true), (wrap64 (x9_3 + 1)), (by first | rfl | (simp; done) | (simp [*]; done)), (by first | rfl | (simp; done) | (simp [*]; done)), H', ⟨by have := HK1.out; have := HK2.out; have := HK3.out; omega⟩, ⟨by (with_reducible repeat (first | apply Kd.R_alloc | apply Kd.R_drewN | apply Kd.R_drew)); exact Kd.R_mono HO_3.out (fun _ hk => ⟨hk.2, hk.1⟩)⟩, ⟨by (with_reducible repeat (first | apply Kd.R_alloc | apply Kd.R_drewN | apply Kd.R_drew)); exact HO183.out⟩, ⟨by (with_reducible repeat (first | refine blk_drewN ?_ _ | refine blk_drew ?_ | refine blk_alloc ?_ _)); exact BK179.out⟩, ⟨by repeat (first | (with_reducible first | exact HB.out | apply below_alloc | apply pw_below_drewN | apply below_drew1 | refine below_set ?_ GE179.out) | exact HB.out)⟩⟩
                              · rw [if_neg c12] at H
                                exact absurd H (by simp)
                            · rw [if_neg c11] at H
                              exact absurd H (by simp)
                          · replace c10 := Bool.eq_false_iff.mpr c10
                            subst c10
                            have H1 : (if 0 ≤ x9_3 then ((silkwormwaves_Ahead.f ((rd_T59 (rd_L3 l0 x4_1) x5_2).f0) ((rd_T59 (rd_L3 l0 x4_1) x5_2).f1) ((rd_T59 (rd_L3 l0 x4_1) x5_2).f2) ((rd_T59 x3_2 x9_3).f0) ((rd_T59 x3_2 x9_3).f1) ((rd_T59 x3_2 x9_3).f2)).bind fun t185 => (if t185 = true then (if x7_3.length < 4398046511104 then ((some (x7_3 ++ [(⟨((rd_T59 (rd_L3 l0 x4_1) x5_2).f0), ((rd_T59 (rd_L3 l0 x4_1) x5_2).f1), ((rd_T59 (rd_L3 l0 x4_1) x5_2).f2)⟩ : S59)] : List (S59))).bind fun y186 => (if y186.length < 4398046511104 then (silkwormwaves_Merged.l2 k3 l0 x3_2 x4_1 x5_2 (y186 ++ [(⟨(rd_T59 x3_2 x9_3).f0, (rd_T59 x3_2 x9_3).f1, (rd_T59 x3_2 x9_3).f2⟩ : S59)]) true (wrap64 (x9_3 + 1)) ((rd_T59 (rd_L3 l0 x4_1) x5_2).f0) ((rd_T59 (rd_L3 l0 x4_1) x5_2).f1) ((rd_T59 (rd_L3 l0 x4_1) x5_2).f2)) else (none))) else (none)) else (if x7_3.length < 4398046511104 then (silkwormwaves_Merged.l2 k3 l0 x3_2 x4_1 x5_2 (x7_3 ++ [(⟨(rd_T59 x3_2 x9_3).f0, (rd_T59 x3_2 x9_3).f1, (rd_T59 x3_2 x9_3).f2⟩ : S59)]) false (wrap64 (x9_3 + 1)) ((rd_T59 (rd_L3 l0 x4_1) x5_2).f0) ((rd_T59 (rd_L3 l0 x4_1) x5_2).f1) ((rd_T59 (rd_L3 l0 x4_1) x5_2).f2)) else (none)))) else (none)) = some r := by rw [if_neg (show ¬ (false = true) by decide)] at H; exact H
                            clear H
                            have H := H1
                            clear H1
                            by_cases c16 : 0 ≤ x9_3
                            · rw [if_pos c16] at H
                              have c16b0 : decide (0 ≤ x9_3) = true := decide_eq_true c16
                              clear c16
                              replace H := Option.bind_eq_some_iff.mp H
                              obtain ⟨t185, A170, H⟩ := H
                              replace H : (if t185 = true then (if x7_3.length < 4398046511104 then ((some (x7_3 ++ [(⟨((rd_T59 (rd_L3 l0 x4_1) x5_2).f0), ((rd_T59 (rd_L3 l0 x4_1) x5_2).f1), ((rd_T59 (rd_L3 l0 x4_1) x5_2).f2)⟩ : S59)] : List (S59))).bind fun y186 => (if y186.length < 4398046511104 then (silkwormwaves_Merged.l2 k3 l0 x3_2 x4_1 x5_2 (y186 ++ [(⟨(rd_T59 x3_2 x9_3).f0, (rd_T59 x3_2 x9_3).f1, (rd_T59 x3_2 x9_3).f2⟩ : S59)]) true (wrap64 (x9_3 + 1)) ((rd_T59 (rd_L3 l0 x4_1) x5_2).f0) ((rd_T59 (rd_L3 l0 x4_1) x5_2).f1) ((rd_T59 (rd_L3 l0 x4_1) x5_2).f2)) else (none))) else (none)) else (if x7_3.length < 4398046511104 then (silkwormwaves_Merged.l2 k3 l0 x3_2 x4_1 x5_2 (x7_3 ++ [(⟨(rd_T59 x3_2 x9_3).f0, (rd_T59 x3_2 x9_3).f1, (rd_T59 x3_2 x9_3).f2⟩ : S59)]) false (wrap64 (x9_3 + 1)) ((rd_T59 (rd_L3 l0 x4_1) x5_2).f0) ((rd_T59 (rd_L3 l0 x4_1) x5_2).f1) ((rd_T59 (rd_L3 l0 x4_1) x5_2).f2)) else (none))) = some r := H
                              have A17 := Aside0.mk A170
                              clear A170
                              by_cases c18 : t185 = true
                              · subst c18
                                have H1 : (if x7_3.length < 4398046511104 then ((some (x7_3 ++ [(⟨((rd_T59 (rd_L3 l0 x4_1) x5_2).f0), ((rd_T59 (rd_L3 l0 x4_1) x5_2).f1), ((rd_T59 (rd_L3 l0 x4_1) x5_2).f2)⟩ : S59)] : List (S59))).bind fun y186 => (if y186.length < 4398046511104 then (silkwormwaves_Merged.l2 k3 l0 x3_2 x4_1 x5_2 (y186 ++ [(⟨(rd_T59 x3_2 x9_3).f0, (rd_T59 x3_2 x9_3).f1, (rd_T59 x3_2 x9_3).f2⟩ : S59)]) true (wrap64 (x9_3 + 1)) ((rd_T59 (rd_L3 l0 x4_1) x5_2).f0) ((rd_T59 (rd_L3 l0 x4_1) x5_2).f1) ((rd_T59 (rd_L3 l0 x4_1) x5_2).f2)) else (none))) else (none)) = some r := by rw [if_pos rfl] at H; exact H
                                clear H
                                have H := H1
                                clear H1
                                by_cases c19 : x7_3.length < 4398046511104
                                · rw [if_pos c19] at H
                                  have LMc19 := Aside0.mk c19
                                  clear c19
                                  obtain ⟨y186, hy186⟩ : ∃ y_ : List (S59), y_ = (x7_3 ++ [(⟨((rd_T59 (rd_L3 l0 x4_1) x5_2).f0), ((rd_T59 (rd_L3 l0 x4_1) x5_2).f1), ((rd_T59 (rd_L3 l0 x4_1) x5_2).f2)⟩ : S59)]) := ⟨_, rfl⟩
                                  replace H : (if y186.length < 4398046511104 then (silkwormwaves_Merged.l2 k3 l0 x3_2 x4_1 x5_2 (y186 ++ [(⟨(rd_T59 x3_2 x9_3).f0, (rd_T59 x3_2 x9_3).f1, (rd_T59 x3_2 x9_3).f2⟩ : S59)]) true (wrap64 (x9_3 + 1)) ((rd_T59 (rd_L3 l0 x4_1) x5_2).f0) ((rd_T59 (rd_L3 l0 x4_1) x5_2).f1) ((rd_T59 (rd_L3 l0 x4_1) x5_2).f2)) else (none)) = some r := by first | (rw [hy186]; with_reducible exact H) | (have H2_ := (Option.bind_some _ _).symm.trans H; rw [hy186]; with_reducible exact H2_) | (have H2_ := (Option.bind_some _ _).symm.trans H; with_reducible exact H2_) | with_reducible exact H | (rw [hy186]; exact H) | exact H
                                  have Ny186 := Aside0.mk hy186
                                  clear hy186
                                  by_cases c20 : y186.length < 4398046511104
                                  · rw [if_pos c20] at H
                                    have LMc20 := Aside0.mk c20
                                    clear c20
                                    obtain ⟨y190, hy190⟩ : ∃ y_ : List (S59), y_ = (y186 ++ [(⟨(rd_T59 x3_2 x9_3).f0, (rd_T59 x3_2 x9_3).f1, (rd_T59 x3_2 x9_3).f2⟩ : S59)]) := ⟨_, rfl⟩
                                    replace H : (silkwormwaves_Merged.l2 k3 l0 x3_2 x4_1 x5_2 y190 true (wrap64 (x9_3 + 1)) ((rd_T59 (rd_L3 l0 x4_1) x5_2).f0) ((rd_T59 (rd_L3 l0 x4_1) x5_2).f1) ((rd_T59 (rd_L3 l0 x4_1) x5_2).f2)) = some r := by first | (rw [hy190]; with_reducible exact H) | (have H2_ := (Option.bind_some _ _).symm.trans H; rw [hy190]; with_reducible exact H2_) | (have H2_ := (Option.bind_some _ _).symm.trans H; with_reducible exact H2_) | with_reducible exact H | (rw [hy190]; exact H) | exact H
                                    have Ny190 := Aside0.mk hy190
                                    clear hy190
                                    have H' := Aside0.mk H
                                    clear H
                                    obtain ⟨Ao21, co21, eo21⟩ := Kd.R_slice HO_3.out
                                    subst eo21
                                    try go_wp2
                                    have n0_ := Aside0.mk (Kd.R_drew HO_3.out)
                                    have n1_ := Aside0.mk (Kd.R_drew HO_7.out)
                                    have n2_ := Aside0.mk (blk_drew BK179.out)
                                    have n3_ := Aside0.mk (below_drew1 HB.out)
                                    clear HO_3
                                    clear HO_7
                                    clear BK179
                                    clear HB
                                    have HO_3 := n0_
                                    have HO_7 := n1_
                                    have BK179 := n2_
                                    have HB := n3_
                                    clear n0_ n1_ n2_ n3_
                                    have p184 : 0 ≤ (x9_3 : Int) := of_decide_eq_true (by first | (with_reducible assumption) | assumption)
                                    have q184 : x9_3 < (x3_2.length : Int) := of_decide_eq_true (by first | (with_reducible assumption) | assumption)
                                    obtain ⟨ad184, e184, hx184_0, hx184_1, hx184_2⟩ := at_T59 (Kd.R_reads' HO_3.out).2.2 x9_3 p184 q184
                                    cases e184
                                    replace p184 := eq_true p184
                                    replace q184 := eq_true q184
                                    refine start_ (n := 10) (S := fun w' => w'.cell? ⟨gb179, 0, none⟩ = some (.int .i64 ((rd_T59 (rd_L3 l0 x4_1) x5_2).f0)) ∧ w'.cell? ⟨gb179, 1, none⟩ = some (.int .i64 ((rd_T59 (rd_L3 l0 x4_1) x5_2).f1)) ∧ w'.cell? ⟨gb179, 2, none⟩ = some (.string ((rd_T59 (rd_L3 l0 x4_1) x5_2).f2)) ∧ w'.cell? (ad184.add ((x9_3).toNat * 3)) = some (.int .i64 ((rd_T59 x3_2 x9_3).f0)) ∧ w'.cell? ⟨(ad184.add ((x9_3).toNat * 3)).block, (ad184.add ((x9_3).toNat * 3)).off + 1, none⟩ = some (.int .i64 ((rd_T59 x3_2 x9_3).f1)) ∧ w'.cell? ⟨(ad184.add ((x9_3).toNat * 3)).block, (ad184.add ((x9_3).toNat * 3)).off + 2, none⟩ = some (.string ((rd_T59 x3_2 x9_3).f2))) (ds := []) #[false, false, false, false, false, false, false, false, false, false] (by kernel_rfl) rfl rfl ⟨(blk_cell BK179.out 0).trans rfl, (blk_cell BK179.out 1).trans rfl, (blk_cell BK179.out 2).trans rfl, hx184_0, hx184_1, hx184_2⟩ (fun hHeld => ?_); refine with_tabW silkwormwaves_Merged.tab14 silkwormwaves_Merged.bits14 (fun HT_ HW_ => ?_)
                                    generalize wr.drew = w22 at HO_3 HO_7 BK179 HB hx184_0 hx184_1 hx184_2 hHeld ⊢
                                    refine pure_ (i := 0) (N := some 38) (v := ?_) (a' := ?_) #[true, false, false, false, false, false, false, false, false, false] rfl rfl (any_of HT_.out (by kernel_rfl)) (fun _ _ _ h => h) (Or.inl ⟨by rfl, ?_⟩) ?_ ?_
                                    rotate_left
                                    · intro w'
                                      go_simp
                                      with_reducible rfl
                                    rotate_left
                                    · simp only [Act.put, List.setIfInBounds_toArray, List.set_cons_zero, List.set_cons_succ, i64_w, i32_w]
                                      rfl
                                    refine pure_ (i := 1) (N := some 39) (v := ?_) (a' := ?_) #[true, true, false, false, false, false, false, false, false, false] rfl rfl (any_of HT_.out (by kernel_rfl)) (fun _ _ _ h => h) (Or.inl ⟨by rfl, ?_⟩) ?_ ?_
                                    rotate_left
                                    · intro w'
                                      go_simp
                                      with_reducible rfl
                                    rotate_left
                                    · simp only [Act.put, List.setIfInBounds_toArray, List.set_cons_zero, List.set_cons_succ, i64_w, i32_w]
                                      rfl
                                    refine pure_ (i := 2) (N := some 40) (v := ?_) (a' := ?_) #[true, true, true, false, false, false, false, false, false, false] rfl rfl (any_of HT_.out (by kernel_rfl)) (fun _ _ _ h => h) (Or.inl ⟨by rfl, ?_⟩) ?_ ?_
                                    rotate_left
                                    · intro w'
                                      go_simp
                                      with_reducible rfl
                                    rotate_left
                                    · simp only [Act.put, List.setIfInBounds_toArray, List.set_cons_zero, List.set_cons_succ, i64_w, i32_w]
                                      rfl
                                    refine pure_ (i := 4) (N := some 42) (v := ?_) (a' := ?_) #[true, true, true, false, true, false, false, false, false, false] rfl rfl (any_of HT_.out (by kernel_rfl)) (fun _ _ _ h => h) (Or.inl ⟨by rfl, ?_⟩) ?_ ?_
                                    rotate_left
                                    · intro w'
                                      go_simp
                                      with_reducible rfl
                                    rotate_left
                                    · simp only [Act.put, List.setIfInBounds_toArray, List.set_cons_zero, List.set_cons_succ, i64_w, i32_w]
                                      rfl
                                    refine pure_ (i := 5) (N := some 43) (v := ?_) (a' := ?_) #[true, true, true, false, true, true, false, false, false, false] rfl rfl (any_of HT_.out (by kernel_rfl)) (fun _ _ _ h => h) (Or.inl ⟨by rfl, ?_⟩) ?_ ?_
                                    rotate_left
                                    · intro w'
                                      go_simp
                                      with_reducible rfl
                                    rotate_left
                                    · simp only [Act.put, List.setIfInBounds_toArray, List.set_cons_zero, List.set_cons_succ, i64_w, i32_w]
                                      rfl
                                    refine pure_ (i := 6) (N := some 44) (v := ?_) (a' := ?_) #[true, true, true, false, true, true, true, false, false, false] rfl rfl (any_of HT_.out (by kernel_rfl)) (fun _ _ _ h => h) (Or.inl ⟨by rfl, ?_⟩) ?_ ?_
                                    rotate_left
                                    · intro w'
                                      go_simp
                                      with_reducible rfl
                                    rotate_left
                                    · simp only [Act.put, List.setIfInBounds_toArray, List.set_cons_zero, List.set_cons_succ, i64_w, i32_w]
                                      rfl
                                    refine take_ (i := 3) (N := some 41) (v := ?_) (a' := ?_) #[true, true, true, true, true, true, true, false, false, false] rfl rfl (take_ofW HT_.out HW_.out (by kernel_rfl)) (fun _ _ _ h => h) (Or.inl ⟨by rfl, ?_⟩) hHeld ?_ ?_
                                    rotate_left
                                    · rintro w' ⟨s0, s1, s2, s3, s4, s5⟩
                                      go_simp
                                      with_reducible rfl
                                    rotate_left
                                    · simp only [Act.put, List.setIfInBounds_toArray, List.set_cons_zero, List.set_cons_succ, i64_w, i32_w]
                                      rfl
                                    refine take_ (i := 7) (N := some 45) (v := ?_) (a' := ?_) #[true, true, true, true, true, true, true, true, false, false] rfl rfl (take_ofW HT_.out HW_.out (by kernel_rfl)) (fun _ _ _ h => h) (Or.inl ⟨by rfl, ?_⟩) hHeld ?_ ?_
                                    rotate_left
                                    · rintro w' ⟨s0, s1, s2, s3, s4, s5⟩
                                      go_simp
                                      with_reducible rfl
                                    rotate_left
                                    · simp only [Act.put, List.setIfInBounds_toArray, List.set_cons_zero, List.set_cons_succ, i64_w, i32_w]
                                      rfl
                                    refine one_ (i := 8) (N := some 46) #[true, true, true, true, true, true, true, true, true, false] rfl rfl (one_of HT_.out (by kernel_rfl)) (by decide) (fun K hK => ?_)
                                    refine goes_ Tryd.func47 (by kernel_rfl) rfl #[.agg #[.int .i64 ((rd_T59 (rd_L3 l0 x4_1) x5_2).f0), .int .i64 ((rd_T59 (rd_L3 l0 x4_1) x5_2).f1), .string ((rd_T59 (rd_L3 l0 x4_1) x5_2).f2)], .agg #[.int .i64 ((rd_T59 x3_2 x9_3).f0), .int .i64 ((rd_T59 x3_2 x9_3).f1), .string ((rd_T59 x3_2 x9_3).f2)]] (by rfl) rfl rfl (by (try simp only [List.map_toArray, List.map_cons, List.map_nil]); first | done | rfl | (simp only [List.length_drop, List.length_take]; rfl)) ?_
                                    with_reducible refine (silkwormwaves_Ahead.calls ((rd_T59 (rd_L3 l0 x4_1) x5_2).f0) ((rd_T59 (rd_L3 l0 x4_1) x5_2).f1) ((rd_T59 (rd_L3 l0 x4_1) x5_2).f2) ((rd_T59 x3_2 x9_3).f0) ((rd_T59 x3_2 x9_3).f1) ((rd_T59 x3_2 x9_3).f2) true _ A17.out).mono ?_
                                    rintro e w23 ⟨rfl, hb⟩
                                    have HS3_ := (hb.cell (World.block_lt_of_cell? _ _ (hHeld.2.2.2.1))).trans (hHeld.2.2.2.1)
                                    have HS4_ := (hb.cell (World.block_lt_of_cell? _ _ (hHeld.2.2.2.2.1))).trans (hHeld.2.2.2.2.1)
                                    have HS5_ := (hb.cell (World.block_lt_of_cell? _ _ (hHeld.2.2.2.2.2))).trans (hHeld.2.2.2.2.2)
                                    refine ⟨_, rfl, ?_⟩
                                    have n0_ := Aside0.mk (Kd.R_below (by (with_reducible repeat (first | apply Kd.R_alloc | apply Kd.R_drewN | apply Kd.R_drew)); exact HO_3.out) hb)
                                    have n1_ := Aside0.mk (Kd.R_below (by (with_reducible repeat (first | apply Kd.R_alloc | apply Kd.R_drewN | apply Kd.R_drew)); exact HO_7.out) hb)
                                    have n2_ := Aside0.mk (blk_below (g := gb179) (o := .cells #[.int .i64 ((rd_T59 (rd_L3 l0 x4_1) x5_2).f0), .int .i64 ((rd_T59 (rd_L3 l0 x4_1) x5_2).f1), .string ((rd_T59 (rd_L3 l0 x4_1) x5_2).f2)] 59 (0, 0)) (by (with_reducible repeat (first | refine blk_drewN ?_ _ | refine blk_drew ?_ | refine blk_alloc ?_ _)); exact BK179.out) hb)
                                    have n3_ := Aside0.mk (below_step (by repeat (first | (with_reducible first | exact HB.out | apply below_alloc | apply pw_below_drewN | apply below_drew1 | refine below_set ?_ GE179.out) | exact HB.out)) hb)
                                    clear HO_3
                                    clear HO_7
                                    clear BK179
                                    clear HB
                                    have HO_3 := n0_
                                    have HO_7 := n1_
                                    have BK179 := n2_
                                    have HB := n3_
                                    clear n0_ n1_ n2_ n3_
                                    (try clear hb)
                                    (try clear hb2)
                                    (try clear hk)
                                    (try clear hi)
                                    refine hK.out _ _ ⟨(blk_cell BK179.out 0).trans rfl, (blk_cell BK179.out 1).trans rfl, (blk_cell BK179.out 2).trans rfl, HS3_, HS4_, HS5_⟩ (fun hHeld => ?_)
                                    clear hK K
                                    refine norm_ (a' := ?_) ?_ ?_
                                    rotate_left
                                    · show Act.put _ (some 46) _ = _
                                      simp only [Act.put, List.setIfInBounds_toArray, List.set_cons_zero, List.set_cons_succ, i64_w, i32_w]
                                      rfl
                                    refine pure_ (i := 9) (N := some 47) (v := ?_) (a' := ?_) #[true, true, true, true, true, true, true, true, true, true] rfl rfl (any_of HT_.out (by kernel_rfl)) (fun _ _ _ h => h) (Or.inl ⟨by rfl, ?_⟩) ?_ ?_
                                    rotate_left
                                    · intro w'
                                      go_simp
                                      with_reducible rfl
                                    rotate_left
                                    · simp only [Act.put, List.setIfInBounds_toArray, List.set_cons_zero, List.set_cons_succ, i64_w, i32_w]
                                      rfl
                                    refine done_ (done_of HT_.out (by kernel_rfl)) ?_
                                    have hcz24_0 : w23.cell? ⟨gb179, 0, none⟩ = some (.int .i64 ((rd_T59 (rd_L3 l0 x4_1) x5_2).f0)) := (blk_cell BK179.out 0).trans rfl
                                    have hcz24_1 : w23.cell? ⟨gb179, 1, none⟩ = some (.int .i64 ((rd_T59 (rd_L3 l0 x4_1) x5_2).f1)) := (blk_cell BK179.out 1).trans rfl
                                    have hcz24_2 : w23.cell? ⟨gb179, 2, none⟩ = some (.string ((rd_T59 (rd_L3 l0 x4_1) x5_2).f2)) := (blk_cell BK179.out 2).trans rfl
                                    have hfz24_0 := blk_frozen BK179.out 0
                                    have hfz24_1 := blk_frozen BK179.out 1
                                    have hfz24_2 := blk_frozen BK179.out 2
                                    try go_wp2_with (first | ((with_reducible refine gate_builtin (b := .append) (xs := #[.tmp 48, .tmp 50]) rfl ?_); at_builtin; refine Kd.R_append k59 (w0 := w) w.heap.size rfl (.tmp 48) (.tmp 50) 24 59 (.agg #[(.int .i64 0), (.int .i64 0), (.string ⟨#[]⟩)]) 32 rfl Tryd.underlying24 info59 rfl (by decide) (by omega) u7 x7_3 (⟨((rd_T59 (rd_L3 l0 x4_1) x5_2).f0), ((rd_T59 (rd_L3 l0 x4_1) x5_2).f1), ((rd_T59 (rd_L3 l0 x4_1) x5_2).f2)⟩ : S59) [.int .i64 ((rd_T59 (rd_L3 l0 x4_1) x5_2).f0), .int .i64 ((rd_T59 (rd_L3 l0 x4_1) x5_2).f1), .string ((rd_T59 (rd_L3 l0 x4_1) x5_2).f2)] (fun k_ => some k_ ≠ (.slice (some ad184) x3_2.length co21 : Value).ownBlock ∧ k_ ≠ gb179) (fun _ => False) rfl rfl ?aP (fun _ hk => hk.elim) ?aF ?aO ?aB ?aS ?aL ?_; (case aP => exact k59_mkM _ _ _ (⟨((rd_T59 (rd_L3 l0 x4_1) x5_2).f0), ((rd_T59 (rd_L3 l0 x4_1) x5_2).f1), ((rd_T59 (rd_L3 l0 x4_1) x5_2).f2)⟩ : S59)); (case aB => exact (by repeat (first | (with_reducible first | exact HB.out | apply below_alloc | apply pw_below_drewN | apply below_drew1 | refine below_set ?_ GE179.out) | exact HB.out))); (case aF => exact (fun k_ hk => ⟨Kd.fresh' (Kd.R_lt (by (with_reducible repeat (first | apply Kd.R_alloc | apply Kd.R_drewN | apply Kd.R_drew)); exact HO_3.out)) k_ hk, Kd.freshB (g := gb179) (o := .cells #[.int .i64 ((rd_T59 (rd_L3 l0 x4_1) x5_2).f0), .int .i64 ((rd_T59 (rd_L3 l0 x4_1) x5_2).f1), .string ((rd_T59 (rd_L3 l0 x4_1) x5_2).f2)] 59 (0, 0)) (by (with_reducible repeat (first | refine blk_drewN ?_ _ | refine blk_drew ?_ | refine blk_alloc ?_ _)); exact BK179.out) k_ hk⟩)); (case aO => exact (by (with_reducible repeat (first | apply Kd.R_alloc | apply Kd.R_drewN | apply Kd.R_drew)); exact HO_7.out)); (case aS => exact (below_size (by repeat (first | (with_reducible first | exact HB.out | apply below_alloc | apply pw_below_drewN | apply below_drew1 | refine below_set ?_ GE179.out) | exact HB.out)))); (case aL => have := LMc19.out; omega); intro v187 w25 ho hb hg hat; rw [← Ny186.out] at ho; have n0_ := Aside0.mk (Kd.R_after (ok := (fun k_ => k_ ≠ gb179)) (by (with_reducible repeat (first | apply Kd.R_alloc | apply Kd.R_drewN | apply Kd.R_drew)); exact Kd.R_mono HO_3.out (fun _ hk => ⟨hk.2, hk.1⟩)) hg hat); have n1_ := Aside0.mk (blk_grown (g := gb179) (o := .cells #[.int .i64 ((rd_T59 (rd_L3 l0 x4_1) x5_2).f0), .int .i64 ((rd_T59 (rd_L3 l0 x4_1) x5_2).f1), .string ((rd_T59 (rd_L3 l0 x4_1) x5_2).f2)] 59 (0, 0)) (by (with_reducible repeat (first | refine blk_drewN ?_ _ | refine blk_drew ?_ | refine blk_alloc ?_ _)); exact BK179.out) hg (Kd.R_away HO_7.out (fun _ hk => hk.2))); have n2_ := Aside0.mk (hb); have n3_ := Aside0.mk (ho); clear HO_3; clear BK179; clear HB; clear HO_7; have HO_3 := n0_; have BK179 := n1_; have HB := n2_; have HO188 := n3_; clear n0_ n1_ n2_ n3_; clear ho hb hg hat; have p189 : 0 ≤ (x9_3 : Int) := of_decide_eq_true (by first | (with_reducible assumption) | assumption); have q189 : x9_3 < (x3_2.length : Int) := of_decide_eq_true (by first | (with_reducible assumption) | assumption); obtain ⟨ad189, e189, hx189_0, hx189_1, hx189_2⟩ := at_T59 (Kd.R_reads' HO_3.out).2.2 x9_3 p189 q189; obtain rfl : ad184 = ad189 := (by injection e189); replace p189 := eq_true p189; replace q189 := eq_true q189) | ((with_reducible refine gate_builtin (b := .append) (xs := #[.tmp 52, .tmp 57]) rfl ?_); at_builtin; refine Kd.R_append k59 (w0 := w) w.heap.size rfl (.tmp 52) (.tmp 57) 24 59 (.agg #[(.int .i64 0), (.int .i64 0), (.string ⟨#[]⟩)]) 32 rfl Tryd.underlying24 info59 rfl (by decide) (by omega) v187 y186 (⟨(rd_T59 x3_2 x9_3).f0, (rd_T59 x3_2 x9_3).f1, (rd_T59 x3_2 x9_3).f2⟩ : S59) [.int .i64 ((rd_T59 x3_2 x9_3).f0), .int .i64 ((rd_T59 x3_2 x9_3).f1), .string ((rd_T59 x3_2 x9_3).f2)] (fun k_ => some k_ ≠ (.slice (some ad184) x3_2.length co21 : Value).ownBlock ∧ k_ ≠ gb179) (fun _ => False) rfl rfl ?aP (fun _ hk => hk.elim) ?aF ?aO ?aB ?aS ?aL ?_; (case aP => exact k59_mkM _ _ _ (⟨(rd_T59 x3_2 x9_3).f0, (rd_T59 x3_2 x9_3).f1, (rd_T59 x3_2 x9_3).f2⟩ : S59)); (case aB => exact (by repeat (first | (with_reducible first | exact HB.out | apply below_alloc | apply pw_below_drewN | apply below_drew1 | refine below_set ?_ GE179.out) | exact HB.out))); (case aF => exact (fun k_ hk => ⟨Kd.fresh' (Kd.R_lt (by (with_reducible repeat (first | apply Kd.R_alloc | apply Kd.R_drewN | apply Kd.R_drew)); exact HO_3.out)) k_ hk, Kd.freshB (g := gb179) (o := .cells #[.int .i64 ((rd_T59 (rd_L3 l0 x4_1) x5_2).f0), .int .i64 ((rd_T59 (rd_L3 l0 x4_1) x5_2).f1), .string ((rd_T59 (rd_L3 l0 x4_1) x5_2).f2)] 59 (0, 0)) (by (with_reducible repeat (first | refine blk_drewN ?_ _ | refine blk_drew ?_ | refine blk_alloc ?_ _)); exact BK179.out) k_ hk⟩)); (case aO => exact (by (with_reducible repeat (first | apply Kd.R_alloc | apply Kd.R_drewN | apply Kd.R_drew)); exact HO188.out)); (case aS => exact (below_size (by repeat (first | (with_reducible first | exact HB.out | apply below_alloc | apply pw_below_drewN | apply below_drew1 | refine below_set ?_ GE179.out) | exact HB.out)))); (case aL => have := LMc20.out; omega); intro v191 w26 ho hb hg hat; rw [← Ny190.out] at ho; have n0_ := Aside0.mk (Kd.R_after (ok := (fun k_ => k_ ≠ gb179)) (by (with_reducible repeat (first | apply Kd.R_alloc | apply Kd.R_drewN | apply Kd.R_drew)); exact HO_3.out) hg hat); have n1_ := Aside0.mk (blk_grown (g := gb179) (o := .cells #[.int .i64 ((rd_T59 (rd_L3 l0 x4_1) x5_2).f0), .int .i64 ((rd_T59 (rd_L3 l0 x4_1) x5_2).f1), .string ((rd_T59 (rd_L3 l0 x4_1) x5_2).f2)] 59 (0, 0)) (by (with_reducible repeat (first | refine blk_drewN ?_ _ | refine blk_drew ?_ | refine blk_alloc ?_ _)); exact BK179.out) hg (Kd.R_away HO188.out (fun _ hk => hk.2))); have n2_ := Aside0.mk (hb); have n3_ := Aside0.mk (ho); clear HO_3; clear BK179; clear HB; clear HO188; have HO_3 := n0_; have BK179 := n1_; have HB := n2_; have HO192 := n3_; clear n0_ n1_ n2_ n3_; clear ho hb hg hat))
                                    go_roundg k3
                                    case measure => have := HK1.out; have := HK2.out; have := HK3.out; omega
                                    case rel => exact ⟨(y190), (true), (wrap64 (x9_3 + 1)), (by first | rfl | (simp; done) | (simp [*]; done)), (by first | rfl | (simp; done) | (simp [*]; done)), H', ⟨by have := HK1.out; have := HK2.out; have := HK3.out; omega⟩, ⟨by (with_reducible repeat (first | apply Kd.R_alloc | apply Kd.R_drewN | apply Kd.R_drew)); exact Kd.R_mono HO_3.out (fun _ hk => ⟨hk.2, hk.1⟩)⟩, ⟨by (with_reducible repeat (first | apply Kd.R_alloc | apply Kd.R_drewN | apply Kd.R_drew)); exact HO192.out⟩, ⟨by (with_reducible repeat (first | refine blk_drewN ?_ _ | refine blk_drew ?_ | refine blk_alloc ?_ _)); exact BK179.out⟩, ⟨by repeat (first | (with_reducible first | exact HB.out | apply below_alloc | apply pw_below_drewN | apply below_drew1 | refine below_set ?_ GE179.out) | exact HB.out)⟩⟩
                                  · rw [if_neg c20] at H
                                    exact absurd H (by simp)
                                · rw [if_neg c19] at H
                                  exact absurd H (by simp)
                              · replace c18 := Bool.eq_false_iff.mpr c18
                                subst c18
                                have H1 : (if x7_3.length < 4398046511104 then (silkwormwaves_Merged.l2 k3 l0 x3_2 x4_1 x5_2 (x7_3 ++ [(⟨(rd_T59 x3_2 x9_3).f0, (rd_T59 x3_2 x9_3).f1, (rd_T59 x3_2 x9_3).f2⟩ : S59)]) false (wrap64 (x9_3 + 1)) ((rd_T59 (rd_L3 l0 x4_1) x5_2).f0) ((rd_T59 (rd_L3 l0 x4_1) x5_2).f1) ((rd_T59 (rd_L3 l0 x4_1) x5_2).f2)) else (none)) = some r := by rw [if_neg (show ¬ (false = true) by decide)] at H; exact H
                                clear H
                                have H := H1
                                clear H1
                                by_cases c27 : x7_3.length < 4398046511104
                                · rw [if_pos c27] at H
                                  have LMc27 := Aside0.mk c27
                                  clear c27
                                  obtain ⟨y194, hy194⟩ : ∃ y_ : List (S59), y_ = (x7_3 ++ [(⟨(rd_T59 x3_2 x9_3).f0, (rd_T59 x3_2 x9_3).f1, (rd_T59 x3_2 x9_3).f2⟩ : S59)]) := ⟨_, rfl⟩
                                  replace H : (silkwormwaves_Merged.l2 k3 l0 x3_2 x4_1 x5_2 y194 false (wrap64 (x9_3 + 1)) ((rd_T59 (rd_L3 l0 x4_1) x5_2).f0) ((rd_T59 (rd_L3 l0 x4_1) x5_2).f1) ((rd_T59 (rd_L3 l0 x4_1) x5_2).f2)) = some r := by first | (rw [hy194]; with_reducible exact H) | (have H2_ := (Option.bind_some _ _).symm.trans H; rw [hy194]; with_reducible exact H2_) | (have H2_ := (Option.bind_some _ _).symm.trans H; with_reducible exact H2_) | with_reducible exact H | (rw [hy194]; exact H) | exact H
                                  have Ny194 := Aside0.mk hy194
                                  clear hy194
                                  have H' := Aside0.mk H
                                  clear H
                                  obtain ⟨Ao28, co28, eo28⟩ := Kd.R_slice HO_3.out
                                  subst eo28
                                  try go_wp2
                                  have n0_ := Aside0.mk (Kd.R_drew HO_3.out)
                                  have n1_ := Aside0.mk (Kd.R_drew HO_7.out)
                                  have n2_ := Aside0.mk (blk_drew BK179.out)
                                  have n3_ := Aside0.mk (below_drew1 HB.out)
                                  clear HO_3
                                  clear HO_7
                                  clear BK179
                                  clear HB
                                  have HO_3 := n0_
                                  have HO_7 := n1_
                                  have BK179 := n2_
                                  have HB := n3_
                                  clear n0_ n1_ n2_ n3_
                                  have p184 : 0 ≤ (x9_3 : Int) := of_decide_eq_true (by first | (with_reducible assumption) | assumption)
                                  have q184 : x9_3 < (x3_2.length : Int) := of_decide_eq_true (by first | (with_reducible assumption) | assumption)
                                  obtain ⟨ad184, e184, hx184_0, hx184_1, hx184_2⟩ := at_T59 (Kd.R_reads' HO_3.out).2.2 x9_3 p184 q184
                                  cases e184
                                  replace p184 := eq_true p184
                                  replace q184 := eq_true q184
                                  refine start_ (n := 10) (S := fun w' => w'.cell? ⟨gb179, 0, none⟩ = some (.int .i64 ((rd_T59 (rd_L3 l0 x4_1) x5_2).f0)) ∧ w'.cell? ⟨gb179, 1, none⟩ = some (.int .i64 ((rd_T59 (rd_L3 l0 x4_1) x5_2).f1)) ∧ w'.cell? ⟨gb179, 2, none⟩ = some (.string ((rd_T59 (rd_L3 l0 x4_1) x5_2).f2)) ∧ w'.cell? (ad184.add ((x9_3).toNat * 3)) = some (.int .i64 ((rd_T59 x3_2 x9_3).f0)) ∧ w'.cell? ⟨(ad184.add ((x9_3).toNat * 3)).block, (ad184.add ((x9_3).toNat * 3)).off + 1, none⟩ = some (.int .i64 ((rd_T59 x3_2 x9_3).f1)) ∧ w'.cell? ⟨(ad184.add ((x9_3).toNat * 3)).block, (ad184.add ((x9_3).toNat * 3)).off + 2, none⟩ = some (.string ((rd_T59 x3_2 x9_3).f2))) (ds := []) #[false, false, false, false, false, false, false, false, false, false] (by kernel_rfl) rfl rfl ⟨(blk_cell BK179.out 0).trans rfl, (blk_cell BK179.out 1).trans rfl, (blk_cell BK179.out 2).trans rfl, hx184_0, hx184_1, hx184_2⟩ (fun hHeld => ?_); refine with_tabW silkwormwaves_Merged.tab14 silkwormwaves_Merged.bits14 (fun HT_ HW_ => ?_)
                                  generalize wr.drew = w29 at HO_3 HO_7 BK179 HB hx184_0 hx184_1 hx184_2 hHeld ⊢
                                  refine pure_ (i := 0) (N := some 38) (v := ?_) (a' := ?_) #[true, false, false, false, false, false, false, false, false, false] rfl rfl (any_of HT_.out (by kernel_rfl)) (fun _ _ _ h => h) (Or.inl ⟨by rfl, ?_⟩) ?_ ?_
                                  rotate_left
                                  · intro w'
                                    go_simp
                                    with_reducible rfl
                                  rotate_left
                                  · simp only [Act.put, List.setIfInBounds_toArray, List.set_cons_zero, List.set_cons_succ, i64_w, i32_w]
                                    rfl
                                  refine pure_ (i := 1) (N := some 39) (v := ?_) (a' := ?_) #[true, true, false, false, false, false, false, false, false, false] rfl rfl (any_of HT_.out (by kernel_rfl)) (fun _ _ _ h => h) (Or.inl ⟨by rfl, ?_⟩) ?_ ?_
                                  rotate_left
                                  · intro w'
                                    go_simp
                                    with_reducible rfl
                                  rotate_left
                                  · simp only [Act.put, List.setIfInBounds_toArray, List.set_cons_zero, List.set_cons_succ, i64_w, i32_w]
                                    rfl
                                  refine pure_ (i := 2) (N := some 40) (v := ?_) (a' := ?_) #[true, true, true, false, false, false, false, false, false, false] rfl rfl (any_of HT_.out (by kernel_rfl)) (fun _ _ _ h => h) (Or.inl ⟨by rfl, ?_⟩) ?_ ?_
                                  rotate_left
                                  · intro w'
                                    go_simp
                                    with_reducible rfl
                                  rotate_left
                                  · simp only [Act.put, List.setIfInBounds_toArray, List.set_cons_zero, List.set_cons_succ, i64_w, i32_w]
                                    rfl
                                  refine pure_ (i := 4) (N := some 42) (v := ?_) (a' := ?_) #[true, true, true, false, true, false, false, false, false, false] rfl rfl (any_of HT_.out (by kernel_rfl)) (fun _ _ _ h => h) (Or.inl ⟨by rfl, ?_⟩) ?_ ?_
                                  rotate_left
                                  · intro w'
                                    go_simp
                                    with_reducible rfl
                                  rotate_left
                                  · simp only [Act.put, List.setIfInBounds_toArray, List.set_cons_zero, List.set_cons_succ, i64_w, i32_w]
                                    rfl
                                  refine pure_ (i := 5) (N := some 43) (v := ?_) (a' := ?_) #[true, true, true, false, true, true, false, false, false, false] rfl rfl (any_of HT_.out (by kernel_rfl)) (fun _ _ _ h => h) (Or.inl ⟨by rfl, ?_⟩) ?_ ?_
                                  rotate_left
                                  · intro w'
                                    go_simp
                                    with_reducible rfl
                                  rotate_left
                                  · simp only [Act.put, List.setIfInBounds_toArray, List.set_cons_zero, List.set_cons_succ, i64_w, i32_w]
                                    rfl
                                  refine pure_ (i := 6) (N := some 44) (v := ?_) (a' := ?_) #[true, true, true, false, true, true, true, false, false, false] rfl rfl (any_of HT_.out (by kernel_rfl)) (fun _ _ _ h => h) (Or.inl ⟨by rfl, ?_⟩) ?_ ?_
                                  rotate_left
                                  · intro w'
                                    go_simp
                                    with_reducible rfl
                                  rotate_left
                                  · simp only [Act.put, List.setIfInBounds_toArray, List.set_cons_zero, List.set_cons_succ, i64_w, i32_w]
                                    rfl
                                  refine take_ (i := 3) (N := some 41) (v := ?_) (a' := ?_) #[true, true, true, true, true, true, true, false, false, false] rfl rfl (take_ofW HT_.out HW_.out (by kernel_rfl)) (fun _ _ _ h => h) (Or.inl ⟨by rfl, ?_⟩) hHeld ?_ ?_
                                  rotate_left
                                  · rintro w' ⟨s0, s1, s2, s3, s4, s5⟩
                                    go_simp
                                    with_reducible rfl
                                  rotate_left
                                  · simp only [Act.put, List.setIfInBounds_toArray, List.set_cons_zero, List.set_cons_succ, i64_w, i32_w]
                                    rfl
                                  refine take_ (i := 7) (N := some 45) (v := ?_) (a' := ?_) #[true, true, true, true, true, true, true, true, false, false] rfl rfl (take_ofW HT_.out HW_.out (by kernel_rfl)) (fun _ _ _ h => h) (Or.inl ⟨by rfl, ?_⟩) hHeld ?_ ?_
                                  rotate_left
                                  · rintro w' ⟨s0, s1, s2, s3, s4, s5⟩
                                    go_simp
                                    with_reducible rfl
                                  rotate_left
                                  · simp only [Act.put, List.setIfInBounds_toArray, List.set_cons_zero, List.set_cons_succ, i64_w, i32_w]
                                    rfl
                                  refine one_ (i := 8) (N := some 46) #[true, true, true, true, true, true, true, true, true, false] rfl rfl (one_of HT_.out (by kernel_rfl)) (by decide) (fun K hK => ?_)
                                  refine goes_ Tryd.func47 (by kernel_rfl) rfl #[.agg #[.int .i64 ((rd_T59 (rd_L3 l0 x4_1) x5_2).f0), .int .i64 ((rd_T59 (rd_L3 l0 x4_1) x5_2).f1), .string ((rd_T59 (rd_L3 l0 x4_1) x5_2).f2)], .agg #[.int .i64 ((rd_T59 x3_2 x9_3).f0), .int .i64 ((rd_T59 x3_2 x9_3).f1), .string ((rd_T59 x3_2 x9_3).f2)]] (by rfl) rfl rfl (by (try simp only [List.map_toArray, List.map_cons, List.map_nil]); first | done | rfl | (simp only [List.length_drop, List.length_take]; rfl)) ?_
                                  with_reducible refine (silkwormwaves_Ahead.calls ((rd_T59 (rd_L3 l0 x4_1) x5_2).f0) ((rd_T59 (rd_L3 l0 x4_1) x5_2).f1) ((rd_T59 (rd_L3 l0 x4_1) x5_2).f2) ((rd_T59 x3_2 x9_3).f0) ((rd_T59 x3_2 x9_3).f1) ((rd_T59 x3_2 x9_3).f2) false _ A17.out).mono ?_
                                  rintro e w30 ⟨rfl, hb⟩
                                  have HS3_ := (hb.cell (World.block_lt_of_cell? _ _ (hHeld.2.2.2.1))).trans (hHeld.2.2.2.1)
                                  have HS4_ := (hb.cell (World.block_lt_of_cell? _ _ (hHeld.2.2.2.2.1))).trans (hHeld.2.2.2.2.1)
                                  have HS5_ := (hb.cell (World.block_lt_of_cell? _ _ (hHeld.2.2.2.2.2))).trans (hHeld.2.2.2.2.2)
                                  refine ⟨_, rfl, ?_⟩
                                  have n0_ := Aside0.mk (Kd.R_below (by (with_reducible repeat (first | apply Kd.R_alloc | apply Kd.R_drewN | apply Kd.R_drew)); exact HO_3.out) hb)
                                  have n1_ := Aside0.mk (Kd.R_below (by (with_reducible repeat (first | apply Kd.R_alloc | apply Kd.R_drewN | apply Kd.R_drew)); exact HO_7.out) hb)
                                  have n2_ := Aside0.mk (blk_below (g := gb179) (o := .cells #[.int .i64 ((rd_T59 (rd_L3 l0 x4_1) x5_2).f0), .int .i64 ((rd_T59 (rd_L3 l0 x4_1) x5_2).f1), .string ((rd_T59 (rd_L3 l0 x4_1) x5_2).f2)] 59 (0, 0)) (by (with_reducible repeat (first | refine blk_drewN ?_ _ | refine blk_drew ?_ | refine blk_alloc ?_ _)); exact BK179.out) hb)
                                  have n3_ := Aside0.mk (below_step (by repeat (first | (with_reducible first | exact HB.out | apply below_alloc | apply pw_below_drewN | apply below_drew1 | refine below_set ?_ GE179.out) | exact HB.out)) hb)
                                  clear HO_3
                                  clear HO_7
                                  clear BK179
                                  clear HB
                                  have HO_3 := n0_
                                  have HO_7 := n1_
                                  have BK179 := n2_
                                  have HB := n3_
                                  clear n0_ n1_ n2_ n3_
                                  (try clear hb)
                                  (try clear hb2)
                                  (try clear hk)
                                  (try clear hi)
                                  refine hK.out _ _ ⟨(blk_cell BK179.out 0).trans rfl, (blk_cell BK179.out 1).trans rfl, (blk_cell BK179.out 2).trans rfl, HS3_, HS4_, HS5_⟩ (fun hHeld => ?_)
                                  clear hK K
                                  refine norm_ (a' := ?_) ?_ ?_
                                  rotate_left
                                  · show Act.put _ (some 46) _ = _
                                    simp only [Act.put, List.setIfInBounds_toArray, List.set_cons_zero, List.set_cons_succ, i64_w, i32_w]
                                    rfl
                                  refine pure_ (i := 9) (N := some 47) (v := ?_) (a' := ?_) #[true, true, true, true, true, true, true, true, true, true] rfl rfl (any_of HT_.out (by kernel_rfl)) (fun _ _ _ h => h) (Or.inl ⟨by rfl, ?_⟩) ?_ ?_
                                  rotate_left
                                  · intro w'
                                    go_simp
                                    with_reducible rfl
                                  rotate_left
                                  · simp only [Act.put, List.setIfInBounds_toArray, List.set_cons_zero, List.set_cons_succ, i64_w, i32_w]
                                    rfl
                                  refine done_ (done_of HT_.out (by kernel_rfl)) ?_
                                  have p193 : 0 ≤ (x9_3 : Int) := of_decide_eq_true (by first | (with_reducible assumption) | assumption)
                                  have q193 : x9_3 < (x3_2.length : Int) := of_decide_eq_true (by first | (with_reducible assumption) | assumption)
                                  obtain ⟨ad193, e193, hx193_0, hx193_1, hx193_2⟩ := at_T59 (Kd.R_reads' HO_3.out).2.2 x9_3 p193 q193
                                  obtain rfl : ad184 = ad193 := (by injection e193)
                                  replace p193 := eq_true p193
                                  replace q193 := eq_true q193
                                  try go_wp2_with (first | ((with_reducible refine gate_builtin (b := .append) (xs := #[.tmp 52, .tmp 57]) rfl ?_); at_builtin; refine Kd.R_append k59 (w0 := w) w.heap.size rfl (.tmp 52) (.tmp 57) 24 59 (.agg #[(.int .i64 0), (.int .i64 0), (.string ⟨#[]⟩)]) 32 rfl Tryd.underlying24 info59 rfl (by decide) (by omega) u7 x7_3 (⟨(rd_T59 x3_2 x9_3).f0, (rd_T59 x3_2 x9_3).f1, (rd_T59 x3_2 x9_3).f2⟩ : S59) [.int .i64 ((rd_T59 x3_2 x9_3).f0), .int .i64 ((rd_T59 x3_2 x9_3).f1), .string ((rd_T59 x3_2 x9_3).f2)] (fun k_ => some k_ ≠ (.slice (some ad184) x3_2.length co28 : Value).ownBlock ∧ k_ ≠ gb179) (fun _ => False) rfl rfl ?aP (fun _ hk => hk.elim) ?aF ?aO ?aB ?aS ?aL ?_; (case aP => exact k59_mkM _ _ _ (⟨(rd_T59 x3_2 x9_3).f0, (rd_T59 x3_2 x9_3).f1, (rd_T59 x3_2 x9_3).f2⟩ : S59)); (case aB => exact (by repeat (first | (with_reducible first | exact HB.out | apply below_alloc | apply pw_below_drewN | apply below_drew1 | refine below_set ?_ GE179.out) | exact HB.out))); (case aF => exact (fun k_ hk => ⟨Kd.fresh' (Kd.R_lt (by (with_reducible repeat (first | apply Kd.R_alloc | apply Kd.R_drewN | apply Kd.R_drew)); exact HO_3.out)) k_ hk, Kd.freshB (g := gb179) (o := .cells #[.int .i64 ((rd_T59 (rd_L3 l0 x4_1) x5_2).f0), .int .i64 ((rd_T59 (rd_L3 l0 x4_1) x5_2).f1), .string ((rd_T59 (rd_L3 l0 x4_1) x5_2).f2)] 59 (0, 0)) (by (with_reducible repeat (first | refine blk_drewN ?_ _ | refine blk_drew ?_ | refine blk_alloc ?_ _)); exact BK179.out) k_ hk⟩)); (case aO => exact (by (with_reducible repeat (first | apply Kd.R_alloc | apply Kd.R_drewN | apply Kd.R_drew)); exact HO_7.out)); (case aS => exact (below_size (by repeat (first | (with_reducible first | exact HB.out | apply below_alloc | apply pw_below_drewN | apply below_drew1 | refine below_set ?_ GE179.out) | exact HB.out)))); (case aL => have := LMc27.out; omega); intro v195 w31 ho hb hg hat; rw [← Ny194.out] at ho; have n0_ := Aside0.mk (Kd.R_after (ok := (fun k_ => k_ ≠ gb179)) (by (with_reducible repeat (first | apply Kd.R_alloc | apply Kd.R_drewN | apply Kd.R_drew)); exact Kd.R_mono HO_3.out (fun _ hk => ⟨hk.2, hk.1⟩)) hg hat); have n1_ := Aside0.mk (blk_grown (g := gb179) (o := .cells #[.int .i64 ((rd_T59 (rd_L3 l0 x4_1) x5_2).f0), .int .i64 ((rd_T59 (rd_L3 l0 x4_1) x5_2).f1), .string ((rd_T59 (rd_L3 l0 x4_1) x5_2).f2)] 59 (0, 0)) (by (with_reducible repeat (first | refine blk_drewN ?_ _ | refine blk_drew ?_ | refine blk_alloc ?_ _)); exact BK179.out) hg (Kd.R_away HO_7.out (fun _ hk => hk.2))); have n2_ := Aside0.mk (hb); have n3_ := Aside0.mk (ho); clear HO_3; clear BK179; clear HB; clear HO_7; have HO_3 := n0_; have BK179 := n1_; have HB := n2_; have HO196 := n3_; clear n0_ n1_ n2_ n3_; clear ho hb hg hat))
                                  go_roundg k3
                                  case measure => have := HK1.out; have := HK2.out; have := HK3.out; omega
                                  case rel => exact ⟨(y194), (false), (wrap64 (x9_3 + 1)), (by first | rfl | (simp; done) | (simp [*]; done)), (by first | rfl | (simp; done) | (simp [*]; done)), H', ⟨by have := HK1.out; have := HK2.out; have := HK3.out; omega⟩, ⟨by (with_reducible repeat (first | apply Kd.R_alloc | apply Kd.R_drewN | apply Kd.R_drew)); exact Kd.R_mono HO_3.out (fun _ hk => ⟨hk.2, hk.1⟩)⟩, ⟨by (with_reducible repeat (first | apply Kd.R_alloc | apply Kd.R_drewN | apply Kd.R_drew)); exact HO196.out⟩, ⟨by (with_reducible repeat (first | refine blk_drewN ?_ _ | refine blk_drew ?_ | refine blk_alloc ?_ _)); exact BK179.out⟩, ⟨by repeat (first | (with_reducible first | exact HB.out | apply below_alloc | apply pw_below_drewN | apply below_drew1 | refine below_set ?_ GE179.out) | exact HB.out)⟩⟩
                                · rw [if_neg c27] at H
                                  exact absurd H (by simp)
                            · rw [if_neg c16] at H
                              exact absurd H (by simp)
                        · rw [if_neg c9] at H
                          have c9b0 : decide (x9_3 < (x3_2.length : Int)) = false := decide_eq_false c9
                          clear c9
                          by_cases c32 : x8_3 = true
                          · subst c32
                            have H1 : (silkwormwaves_Merged.l1 k3 l0 x7_3 x4_1 (wrap64 (x5_2 + 1))) = some r := by rw [if_pos rfl] at H; exact H
                            clear H
                            have H := H1
                            clear H1
                            have H' := Aside0.mk H
                            clear H
                            obtain ⟨Ao33, co33, eo33⟩ := Kd.R_slice HO_3.out
                            subst eo33
                            go_wp2
                            go_roundg k3
                            case measure => have := HK1.out; have := HK2.out; have := HK3.out; omega
                            case rel => exact ⟨(x7_3), (wrap64 (x5_2 + 1)), (by first | rfl | (simp; done) | (simp [*]; done)), H', ⟨by have := HK1.out; have := HK2.out; have := HK3.out; omega⟩, ⟨by (with_reducible repeat (first | apply Kd.R_alloc | apply Kd.R_drewN | apply Kd.R_drew)); exact Kd.R_mono HO_7.out (fun _ hk => trivial)⟩, ⟨by repeat (first | (with_reducible first | exact HB.out | apply below_alloc | apply pw_below_drewN | apply below_drew1 | refine below_set ?_ GE179.out) | exact HB.out)⟩⟩
                          · replace c32 := Bool.eq_false_iff.mpr c32
                            subst c32
                            have H1 : (if x7_3.length < 4398046511104 then (silkwormwaves_Merged.l1 k3 l0 (x7_3 ++ [(⟨((rd_T59 (rd_L3 l0 x4_1) x5_2).f0), ((rd_T59 (rd_L3 l0 x4_1) x5_2).f1), ((rd_T59 (rd_L3 l0 x4_1) x5_2).f2)⟩ : S59)]) x4_1 (wrap64 (x5_2 + 1))) else (none)) = some r := by rw [if_neg (show ¬ (false = true) by decide)] at H; exact H
                            clear H
                            have H := H1
                            clear H1
                            by_cases c34 : x7_3.length < 4398046511104
                            · rw [if_pos c34] at H
                              have LMc34 := Aside0.mk c34
                              clear c34
                              obtain ⟨y197, hy197⟩ : ∃ y_ : List (S59), y_ = (x7_3 ++ [(⟨((rd_T59 (rd_L3 l0 x4_1) x5_2).f0), ((rd_T59 (rd_L3 l0 x4_1) x5_2).f1), ((rd_T59 (rd_L3 l0 x4_1) x5_2).f2)⟩ : S59)]) := ⟨_, rfl⟩
                              replace H : (silkwormwaves_Merged.l1 k3 l0 y197 x4_1 (wrap64 (x5_2 + 1))) = some r := by first | (rw [hy197]; with_reducible exact H) | (have H2_ := (Option.bind_some _ _).symm.trans H; rw [hy197]; with_reducible exact H2_) | (have H2_ := (Option.bind_some _ _).symm.trans H; with_reducible exact H2_) | with_reducible exact H | (rw [hy197]; exact H) | exact H
                              have Ny197 := Aside0.mk hy197
                              clear hy197
                              have H' := Aside0.mk H
                              clear H
                              obtain ⟨Ao35, co35, eo35⟩ := Kd.R_slice HO_3.out
                              subst eo35
                              have hcz36_0 : wr.cell? ⟨gb179, 0, none⟩ = some (.int .i64 ((rd_T59 (rd_L3 l0 x4_1) x5_2).f0)) := (blk_cell BK179.out 0).trans rfl
                              have hcz36_1 : wr.cell? ⟨gb179, 1, none⟩ = some (.int .i64 ((rd_T59 (rd_L3 l0 x4_1) x5_2).f1)) := (blk_cell BK179.out 1).trans rfl
                              have hcz36_2 : wr.cell? ⟨gb179, 2, none⟩ = some (.string ((rd_T59 (rd_L3 l0 x4_1) x5_2).f2)) := (blk_cell BK179.out 2).trans rfl
                              have hfz36_0 := blk_frozen BK179.out 0
                              have hfz36_1 := blk_frozen BK179.out 1
                              have hfz36_2 := blk_frozen BK179.out 2
                              go_wp2_with (first | ((with_reducible refine gate_builtin (b := .append) (xs := #[.tmp 61, .tmp 63]) rfl ?_); at_builtin; refine Kd.R_append k59 (w0 := w) w.heap.size rfl (.tmp 61) (.tmp 63) 24 59 (.agg #[(.int .i64 0), (.int .i64 0), (.string ⟨#[]⟩)]) 32 rfl Tryd.underlying24 info59 rfl (by decide) (by omega) u7 x7_3 (⟨((rd_T59 (rd_L3 l0 x4_1) x5_2).f0), ((rd_T59 (rd_L3 l0 x4_1) x5_2).f1), ((rd_T59 (rd_L3 l0 x4_1) x5_2).f2)⟩ : S59) [.int .i64 ((rd_T59 (rd_L3 l0 x4_1) x5_2).f0), .int .i64 ((rd_T59 (rd_L3 l0 x4_1) x5_2).f1), .string ((rd_T59 (rd_L3 l0 x4_1) x5_2).f2)] (fun k_ => some k_ ≠ (.slice Ao35 x3_2.length co35 : Value).ownBlock ∧ k_ ≠ gb179) (fun _ => False) rfl rfl ?aP (fun _ hk => hk.elim) ?aF ?aO ?aB ?aS ?aL ?_; (case aP => exact k59_mkM _ _ _ (⟨((rd_T59 (rd_L3 l0 x4_1) x5_2).f0), ((rd_T59 (rd_L3 l0 x4_1) x5_2).f1), ((rd_T59 (rd_L3 l0 x4_1) x5_2).f2)⟩ : S59)); (case aB => exact (by repeat (first | (with_reducible first | exact HB.out | apply below_alloc | apply pw_below_drewN | apply below_drew1 | refine below_set ?_ GE179.out) | exact HB.out))); (case aF => exact (fun k_ hk => ⟨Kd.fresh' (Kd.R_lt (by (with_reducible repeat (first | apply Kd.R_alloc | apply Kd.R_drewN | apply Kd.R_drew)); exact HO_3.out)) k_ hk, Kd.freshB (g := gb179) (o := .cells #[.int .i64 ((rd_T59 (rd_L3 l0 x4_1) x5_2).f0), .int .i64 ((rd_T59 (rd_L3 l0 x4_1) x5_2).f1), .string ((rd_T59 (rd_L3 l0 x4_1) x5_2).f2)] 59 (0, 0)) (by (with_reducible repeat (first | refine blk_drewN ?_ _ | refine blk_drew ?_ | refine blk_alloc ?_ _)); exact BK179.out) k_ hk⟩)); (case aO => exact (by (with_reducible repeat (first | apply Kd.R_alloc | apply Kd.R_drewN | apply Kd.R_drew)); exact HO_7.out)); (case aS => exact (below_size (by repeat (first | (with_reducible first | exact HB.out | apply below_alloc | apply pw_below_drewN | apply below_drew1 | refine below_set ?_ GE179.out) | exact HB.out)))); (case aL => have := LMc34.out; omega); intro v198 w37 ho hb hg hat; rw [← Ny197.out] at ho; have n0_ := Aside0.mk (Kd.R_after (ok := (fun k_ => k_ ≠ gb179)) (by (with_reducible repeat (first | apply Kd.R_alloc | apply Kd.R_drewN | apply Kd.R_drew)); exact Kd.R_mono HO_3.out (fun _ hk => ⟨hk.2, hk.1⟩)) hg hat); have n1_ := Aside0.mk (blk_grown (g := gb179) (o := .cells #[.int .i64 ((rd_T59 (rd_L3 l0 x4_1) x5_2).f0), .int .i64 ((rd_T59 (rd_L3 l0 x4_1) x5_2).f1), .string ((rd_T59 (rd_L3 l0 x4_1) x5_2).f2)] 59 (0, 0)) (by (with_reducible repeat (first | refine blk_drewN ?_ _ | refine blk_drew ?_ | refine blk_alloc ?_ _)); exact BK179.out) hg (Kd.R_away HO_7.out (fun _ hk => hk.2))); have n2_ := Aside0.mk (hb); have n3_ := Aside0.mk (ho); clear HO_3; clear BK179; clear HB; clear HO_7; have HO_3 := n0_; have BK179 := n1_; have HB := n2_; have HO199 := n3_; clear n0_ n1_ n2_ n3_; clear ho hb hg hat))
                              go_roundg k3
                              case measure => have := HK1.out; have := HK2.out; have := HK3.out; omega
                              case rel => exact ⟨(y197), (wrap64 (x5_2 + 1)), (by first | rfl | (simp; done) | (simp [*]; done)), H', ⟨by have := HK1.out; have := HK2.out; have := HK3.out; omega⟩, ⟨by (with_reducible repeat (first | apply Kd.R_alloc | apply Kd.R_drewN | apply Kd.R_drew)); exact Kd.R_mono HO199.out (fun _ hk => trivial)⟩, ⟨by repeat (first | (with_reducible first | exact HB.out | apply below_alloc | apply pw_below_drewN | apply below_drew1 | refine below_set ?_ GE179.out) | exact HB.out)⟩⟩
                            · rw [if_neg c34] at H
                              exact absurd H (by simp)
                  · rw [if_neg c6] at H
                    exact absurd H (by simp)
                · rw [if_neg c5] at H
                  have c5b0 : decide (x5_2 < ((rd_L3 l0 x4_1).length : Int)) = false := decide_eq_false c5
                  clear c5
                  have H' := Aside0.mk H
                  clear H
                  have p176 : 0 ≤ (x4_1 : Int) := of_decide_eq_true (by first | (with_reducible assumption) | assumption)
                  have q176 : x4_1 < (l0.length : Int) := of_decide_eq_true (by first | (with_reducible assumption) | assumption)
                  obtain ⟨ad176, A176_0, c176_0, e176, hx176_0, hl176_0, hi176_0⟩ := at_L3 HR0.out x4_1 p176 q176
                  cases e176
                  replace hx176_0 := (HB.out.cell (World.block_lt_of_cell? w _ hx176_0)).trans hx176_0
                  have HR176_0 := Aside0.mk hi176_0
                  have HC176_0 := Aside0.mk hl176_0
                  clear hi176_0 hl176_0
                  replace p176 := eq_true p176
                  replace q176 := eq_true q176
                  go_wp2
                  go_roundg k2
                  case measure => have := HK1.out; have := HK2.out; omega
                  case rel => exact ⟨(x3_2), (wrap64 (x4_1 + 1)), (by first | rfl | (simp; done) | (simp [*]; done)), H', ⟨by have := HK1.out; have := HK2.out; omega⟩, ⟨by (with_reducible repeat (first | apply Kd.R_alloc | apply Kd.R_drewN | apply Kd.R_drew)); exact HO_3.out⟩, ⟨by repeat (first | (with_reducible first | exact HB.out | apply below_alloc | apply pw_below_drewN | apply below_drew1) | exact HB.out)⟩⟩
              · rw [if_neg c4] at H
                exact absurd H (by simp)
            · rw [if_neg c3] at H
              exact absurd H (by simp)
      · rw [if_neg c2] at H
        have c2b0 : decide (x4_1 < (l0.length : Int)) = false := decide_eq_false c2
        clear c2
        obtain rfl := Option.some.inj H
        go_wp2
        go_ret
        exact ⟨_, by first | rfl | (simp [errW_none, errW_some] <;> rfl) | (simp [*, errW_none, errW_some] <;> rfl), by (with_reducible repeat (first | apply Kd.R_alloc | apply Kd.R_drewN | apply Kd.R_drew)); exact HO_3.out, by repeat (first | (with_reducible first | exact HB.out | apply below_alloc | apply pw_below_drewN | apply below_drew1) | exact HB.out)⟩

-- NOT PRINTED: function 14 (silkwormlaw18_WaveMerges)

end Go.Proofs.YtcbkgammlfjjoaaDoor
