/- Turned by wip/level/gen_lv.py out of a printed text. Zero fields. How wide an operator's answer is, as the document has it, walked. -/
import Derived.Test.YtonnmkhmhndalaaDoorZa
import Derived.Test.YtonnmkhmhndalaaDoorZb
import Derived.Test.YtonnmkhmhndalaaDoorZc
section
namespace Go.Proofs.YtonnmkhmhndalaaDoor
open Go.RowKit Go.Proofs.YtonnmkhmhndalaaDoorW.PrintWords Go.Proofs.YtonnmkhmhndalaaDoorW.PrintLast Go.Proofs.YtonnmkhmhndalaaDoorW.PrintMore
attribute [local go_sem] max2_int min2_int max_two min_two max_three min_three max_four min_four   -- for this text's walks alone
set_option linter.unusedVariables false
set_option linter.unusedSimpArgs false
def silkwormref09_zero.f (a0_0 : Int) (a0_1 : Int) (a0_2 : Int) (l0_3 : List Int) (a0_4 : ByteArray) (a0_5 : Int) (a0_6 : Int) (a0_7 : Int) : Option (Bool) := if a0_0 = 3 then (if a0_0 = 1 then (if a0_1 = 4 then (if a0_0 = 8 then (some true) else (some (a0_7 == 0))) else (if a0_5 = 0 then (if a0_6 = 0 then (if a0_0 = 8 then (some true) else (some (a0_7 == 0))) else (some false)) else (some false))) else (if a0_4.toList = ([] : List UInt8) then (if a0_1 = 4 then (if a0_0 = 8 then (some true) else (some (a0_7 == 0))) else (if a0_5 = 0 then (if a0_6 = 0 then (if a0_0 = 8 then (some true) else (some (a0_7 == 0))) else (some false)) else (some false))) else (some false))) else (if a0_1 = 0 then (if a0_0 = 1 then (if a0_5 = 0 then (if a0_6 = 0 then (if a0_0 = 8 then (some true) else (some (a0_7 == 0))) else (some false)) else (some false)) else (if a0_4.toList = ([] : List UInt8) then (if a0_5 = 0 then (if a0_6 = 0 then (if a0_0 = 8 then (some true) else (some (a0_7 == 0))) else (some false)) else (some false)) else (some false))) else (some false))
set_option maxHeartbeats 8000000 in
set_option maxRecDepth 100000 in
theorem silkwormref09_zero.calls (a0_0 : Int) (a0_1 : Int) (a0_2 : Int) (A0_3 : Option Addr) (c0_3 : Nat) (l0_3 : List Int) (a0_4 : ByteArray) (a0_5 : Int) (a0_6 : Int) (a0_7 : Int) (r : Bool) (w : World) (hr0_3 : Kd.C (Kd.int .i64) w A0_3 l0_3.length l0_3) (hc0_3 : l0_3.length ≤ c0_3) (h : silkwormref09_zero.f a0_0 a0_1 a0_2 l0_3 a0_4 a0_5 a0_6 a0_7 = some r) :
    Calls Tryd.prog 27 #[.agg #[.int .i64 a0_0, .int .i64 a0_1, .int .i64 a0_2, .slice A0_3 l0_3.length c0_3, .string a0_4, .int .i64 a0_5, .int .i64 a0_6, .int .i64 a0_7]] w fun e w' => e = .returned (.bool r) ∧ Below w.heap.size w w' := by
  have hu39 := Tryd.underlying39
  have HR0_3 := Aside0.mk hr0_3
  have HC0_3 := Aside0.mk hc0_3
  clear hr0_3 hc0_3
  have HB := Aside0.mk (Below.refl w.heap.size w)
  have H : (if a0_0 = 3 then (if a0_0 = 1 then (if a0_1 = 4 then (if a0_0 = 8 then (some true) else (some (a0_7 == 0))) else (if a0_5 = 0 then (if a0_6 = 0 then (if a0_0 = 8 then (some true) else (some (a0_7 == 0))) else (some false)) else (some false))) else (if a0_4.toList = ([] : List UInt8) then (if a0_1 = 4 then (if a0_0 = 8 then (some true) else (some (a0_7 == 0))) else (if a0_5 = 0 then (if a0_6 = 0 then (if a0_0 = 8 then (some true) else (some (a0_7 == 0))) else (some false)) else (some false))) else (some false))) else (if a0_1 = 0 then (if a0_0 = 1 then (if a0_5 = 0 then (if a0_6 = 0 then (if a0_0 = 8 then (some true) else (some (a0_7 == 0))) else (some false)) else (some false)) else (if a0_4.toList = ([] : List UInt8) then (if a0_5 = 0 then (if a0_6 = 0 then (if a0_0 = 8 then (some true) else (some (a0_7 == 0))) else (some false)) else (some false)) else (some false))) else (some false))) = some r := h
  clear h
  by_cases c2 : a0_0 = 3
  · rw [if_pos c2] at H
    have c2b0 : (a0_0 == 3) = true := beq_iff_eq.mpr c2
    have c2b1 : (a0_0 != 3) = false := bne_eq_false_iff_eq.mpr c2
    clear c2
    by_cases c3 : a0_0 = 1
    · rw [if_pos c3] at H
      have c3b0 : (a0_0 == 1) = true := beq_iff_eq.mpr c3
      have c3b1 : (a0_0 != 1) = false := bne_eq_false_iff_eq.mpr c3
      clear c3
      by_cases c4 : a0_1 = 4
      · rw [if_pos c4] at H
        have c4b0 : (a0_1 == 4) = true := beq_iff_eq.mpr c4
        have c4b1 : (a0_1 != 4) = false := bne_eq_false_iff_eq.mpr c4
        clear c4
        by_cases c5 : a0_0 = 8
        · rw [if_pos c5] at H
          have c5b0 : (a0_0 == 8) = true := beq_iff_eq.mpr c5
          have c5b1 : (a0_0 != 8) = false := bne_eq_false_iff_eq.mpr c5
          clear c5
          obtain rfl := Option.some.inj H
          go_enter Tryd.func27, Tryd.ntmps27
          go_wp2_with (first | ((with_reducible refine gate_dst (N := 1) rfl ?_); refine box_event ?hg (N := 1) ?hd (cs := #[.int .i64 a0_0, .int .i64 a0_1, .int .i64 a0_2, .slice A0_3 l0_3.length c0_3, .string a0_4, .int .i64 a0_5, .int .i64 a0_6, .int .i64 a0_7]) (t := 39) ?hr ?_; (case hd => rfl); (case hg => rfl); (case hr => first | (go_simp; done) | (go_simp; rfl)); intro gb182 hg w6 hbox hb; have n0_ := Aside0.mk (below_step (by repeat (first | (with_reducible first | exact HB.out | apply below_alloc | apply pw_below_drewN | apply below_drew1) | exact HB.out)) hb); have n1_ := Aside0.mk (hbox); have n2_ := Aside0.mk ((by rw [hg]; exact (below_size (by repeat (first | (with_reducible first | exact HB.out | apply below_alloc | apply pw_below_drewN | apply below_drew1) | exact HB.out))) : w.heap.size ≤ gb182)); have n3_ := Aside0.mk ((by rw [hg]; exact (below_size (by repeat (first | (with_reducible first | exact HB.out | apply below_alloc | apply pw_below_drewN | apply below_drew1) | exact HB.out))) : w.heap.size ≤ gb182)); clear HB; have HB := n0_; have BK182 := n1_; have GW182 := n2_; have GE182 := n3_; clear n0_ n1_ n2_ n3_; clear hb hbox hg; have hcz7_0 : w6.cell? ⟨gb182, 0, none⟩ = some (.int .i64 a0_0) := (blk_cell BK182.out 0).trans rfl; have hcz7_1 : w6.cell? ⟨gb182, 1, none⟩ = some (.int .i64 a0_1) := (blk_cell BK182.out 1).trans rfl; have hcz7_2 : w6.cell? ⟨gb182, 2, none⟩ = some (.int .i64 a0_2) := (blk_cell BK182.out 2).trans rfl; have hcz7_3 : w6.cell? ⟨gb182, 3, none⟩ = some (.slice A0_3 l0_3.length c0_3) := (blk_cell BK182.out 3).trans rfl; have hcz7_4 : w6.cell? ⟨gb182, 4, none⟩ = some (.string a0_4) := (blk_cell BK182.out 4).trans rfl; have hcz7_5 : w6.cell? ⟨gb182, 5, none⟩ = some (.int .i64 a0_5) := (blk_cell BK182.out 5).trans rfl; have hcz7_6 : w6.cell? ⟨gb182, 6, none⟩ = some (.int .i64 a0_6) := (blk_cell BK182.out 6).trans rfl; have hcz7_7 : w6.cell? ⟨gb182, 7, none⟩ = some (.int .i64 a0_7) := (blk_cell BK182.out 7).trans rfl; have hfz7_0 := blk_frozen BK182.out 0; have hfz7_1 := blk_frozen BK182.out 1; have hfz7_2 := blk_frozen BK182.out 2; have hfz7_3 := blk_frozen BK182.out 3; have hfz7_4 := blk_frozen BK182.out 4; have hfz7_5 := blk_frozen BK182.out 5; have hfz7_6 := blk_frozen BK182.out 6; have hfz7_7 := blk_frozen BK182.out 7))
          go_ret
          exact ⟨by first | rfl | (simp [errW_none, errW_some] <;> rfl) | (simp [*, errW_none, errW_some] <;> rfl), by repeat (first | (with_reducible first | exact HB.out | apply below_alloc | apply pw_below_drewN | apply below_drew1 | refine below_set ?_ GE182.out) | exact HB.out)⟩
        · rw [if_neg c5] at H
          have c5b0 : (a0_0 == 8) = false := beq_eq_false_iff_ne.mpr c5
          have c5b1 : (a0_0 != 8) = true := bne_iff_ne.mpr c5
          obtain rfl := Option.some.inj H
          go_enter Tryd.func27, Tryd.ntmps27
          go_wp2_with (first | ((with_reducible refine gate_dst (N := 1) rfl ?_); refine box_event ?hg (N := 1) ?hd (cs := #[.int .i64 a0_0, .int .i64 a0_1, .int .i64 a0_2, .slice A0_3 l0_3.length c0_3, .string a0_4, .int .i64 a0_5, .int .i64 a0_6, .int .i64 a0_7]) (t := 39) ?hr ?_; (case hd => rfl); (case hg => rfl); (case hr => first | (go_simp; done) | (go_simp; rfl)); intro gb182 hg w8 hbox hb; have n0_ := Aside0.mk (below_step (by repeat (first | (with_reducible first | exact HB.out | apply below_alloc | apply pw_below_drewN | apply below_drew1) | exact HB.out)) hb); have n1_ := Aside0.mk (hbox); have n2_ := Aside0.mk ((by rw [hg]; exact (below_size (by repeat (first | (with_reducible first | exact HB.out | apply below_alloc | apply pw_below_drewN | apply below_drew1) | exact HB.out))) : w.heap.size ≤ gb182)); have n3_ := Aside0.mk ((by rw [hg]; exact (below_size (by repeat (first | (with_reducible first | exact HB.out | apply below_alloc | apply pw_below_drewN | apply below_drew1) | exact HB.out))) : w.heap.size ≤ gb182)); clear HB; have HB := n0_; have BK182 := n1_; have GW182 := n2_; have GE182 := n3_; clear n0_ n1_ n2_ n3_; clear hb hbox hg; have hcz9_0 : w8.cell? ⟨gb182, 0, none⟩ = some (.int .i64 a0_0) := (blk_cell BK182.out 0).trans rfl; have hcz9_1 : w8.cell? ⟨gb182, 1, none⟩ = some (.int .i64 a0_1) := (blk_cell BK182.out 1).trans rfl; have hcz9_2 : w8.cell? ⟨gb182, 2, none⟩ = some (.int .i64 a0_2) := (blk_cell BK182.out 2).trans rfl; have hcz9_3 : w8.cell? ⟨gb182, 3, none⟩ = some (.slice A0_3 l0_3.length c0_3) := (blk_cell BK182.out 3).trans rfl; have hcz9_4 : w8.cell? ⟨gb182, 4, none⟩ = some (.string a0_4) := (blk_cell BK182.out 4).trans rfl; have hcz9_5 : w8.cell? ⟨gb182, 5, none⟩ = some (.int .i64 a0_5) := (blk_cell BK182.out 5).trans rfl; have hcz9_6 : w8.cell? ⟨gb182, 6, none⟩ = some (.int .i64 a0_6) := (blk_cell BK182.out 6).trans rfl; have hcz9_7 : w8.cell? ⟨gb182, 7, none⟩ = some (.int .i64 a0_7) := (blk_cell BK182.out 7).trans rfl; have hfz9_0 := blk_frozen BK182.out 0; have hfz9_1 := blk_frozen BK182.out 1; have hfz9_2 := blk_frozen BK182.out 2; have hfz9_3 := blk_frozen BK182.out 3; have hfz9_4 := blk_frozen BK182.out 4; have hfz9_5 := blk_frozen BK182.out 5; have hfz9_6 := blk_frozen BK182.out 6; have hfz9_7 := blk_frozen BK182.out 7))
          go_ret
          exact ⟨by first | rfl | (simp [errW_none, errW_some] <;> rfl) | (simp [*, errW_none, errW_some] <;> rfl), by repeat (first | (with_reducible first | exact HB.out | apply below_alloc | apply pw_below_drewN | apply below_drew1 | refine below_set ?_ GE182.out) | exact HB.out)⟩
      · rw [if_neg c4] at H
        have c4b0 : (a0_1 == 4) = false := beq_eq_false_iff_ne.mpr c4
        have c4b1 : (a0_1 != 4) = true := bne_iff_ne.mpr c4
        by_cases c10 : a0_5 = 0
        · rw [if_pos c10] at H
          have c10b0 : (a0_5 == 0) = true := beq_iff_eq.mpr c10
          have c10b1 : (a0_5 != 0) = false := bne_eq_false_iff_eq.mpr c10
          clear c10
          by_cases c11 : a0_6 = 0
          · rw [if_pos c11] at H
            have c11b0 : (a0_6 == 0) = true := beq_iff_eq.mpr c11
            have c11b1 : (a0_6 != 0) = false := bne_eq_false_iff_eq.mpr c11
            clear c11
            by_cases c12 : a0_0 = 8
            · rw [if_pos c12] at H
              have c12b0 : (a0_0 == 8) = true := beq_iff_eq.mpr c12
              have c12b1 : (a0_0 != 8) = false := bne_eq_false_iff_eq.mpr c12
              clear c12
              obtain rfl := Option.some.inj H
              go_enter Tryd.func27, Tryd.ntmps27
              go_wp2_with (first | ((with_reducible refine gate_dst (N := 1) rfl ?_); refine box_event ?hg (N := 1) ?hd (cs := #[.int .i64 a0_0, .int .i64 a0_1, .int .i64 a0_2, .slice A0_3 l0_3.length c0_3, .string a0_4, .int .i64 a0_5, .int .i64 a0_6, .int .i64 a0_7]) (t := 39) ?hr ?_; (case hd => rfl); (case hg => rfl); (case hr => first | (go_simp; done) | (go_simp; rfl)); intro gb182 hg w13 hbox hb; have n0_ := Aside0.mk (below_step (by repeat (first | (with_reducible first | exact HB.out | apply below_alloc | apply pw_below_drewN | apply below_drew1) | exact HB.out)) hb); have n1_ := Aside0.mk (hbox); have n2_ := Aside0.mk ((by rw [hg]; exact (below_size (by repeat (first | (with_reducible first | exact HB.out | apply below_alloc | apply pw_below_drewN | apply below_drew1) | exact HB.out))) : w.heap.size ≤ gb182)); have n3_ := Aside0.mk ((by rw [hg]; exact (below_size (by repeat (first | (with_reducible first | exact HB.out | apply below_alloc | apply pw_below_drewN | apply below_drew1) | exact HB.out))) : w.heap.size ≤ gb182)); clear HB; have HB := n0_; have BK182 := n1_; have GW182 := n2_; have GE182 := n3_; clear n0_ n1_ n2_ n3_; clear hb hbox hg; have hcz14_0 : w13.cell? ⟨gb182, 0, none⟩ = some (.int .i64 a0_0) := (blk_cell BK182.out 0).trans rfl; have hcz14_1 : w13.cell? ⟨gb182, 1, none⟩ = some (.int .i64 a0_1) := (blk_cell BK182.out 1).trans rfl; have hcz14_2 : w13.cell? ⟨gb182, 2, none⟩ = some (.int .i64 a0_2) := (blk_cell BK182.out 2).trans rfl; have hcz14_3 : w13.cell? ⟨gb182, 3, none⟩ = some (.slice A0_3 l0_3.length c0_3) := (blk_cell BK182.out 3).trans rfl; have hcz14_4 : w13.cell? ⟨gb182, 4, none⟩ = some (.string a0_4) := (blk_cell BK182.out 4).trans rfl; have hcz14_5 : w13.cell? ⟨gb182, 5, none⟩ = some (.int .i64 a0_5) := (blk_cell BK182.out 5).trans rfl; have hcz14_6 : w13.cell? ⟨gb182, 6, none⟩ = some (.int .i64 a0_6) := (blk_cell BK182.out 6).trans rfl; have hcz14_7 : w13.cell? ⟨gb182, 7, none⟩ = some (.int .i64 a0_7) := (blk_cell BK182.out 7).trans rfl; have hfz14_0 := blk_frozen BK182.out 0; have hfz14_1 := blk_frozen BK182.out 1; have hfz14_2 := blk_frozen BK182.out 2; have hfz14_3 := blk_frozen BK182.out 3; have hfz14_4 := blk_frozen BK182.out 4; have hfz14_5 := blk_frozen BK182.out 5; have hfz14_6 := blk_frozen BK182.out 6; have hfz14_7 := blk_frozen BK182.out 7))
              go_ret
              exact ⟨by first | rfl | (simp [errW_none, errW_some] <;> rfl) | (simp [*, errW_none, errW_some] <;> rfl), by repeat (first | (with_reducible first | exact HB.out | apply below_alloc | apply pw_below_drewN | apply below_drew1 | refine below_set ?_ GE182.out) | exact HB.out)⟩
            · rw [if_neg c12] at H
              have c12b0 : (a0_0 == 8) = false := beq_eq_false_iff_ne.mpr c12
              have c12b1 : (a0_0 != 8) = true := bne_iff_ne.mpr c12
              obtain rfl := Option.some.inj H
              go_enter Tryd.func27, Tryd.ntmps27
              go_wp2_with (first | ((with_reducible refine gate_dst (N := 1) rfl ?_); refine box_event ?hg (N := 1) ?hd (cs := #[.int .i64 a0_0, .int .i64 a0_1, .int .i64 a0_2, .slice A0_3 l0_3.length c0_3, .string a0_4, .int .i64 a0_5, .int .i64 a0_6, .int .i64 a0_7]) (t := 39) ?hr ?_; (case hd => rfl); (case hg => rfl); (case hr => first | (go_simp; done) | (go_simp; rfl)); intro gb182 hg w15 hbox hb; have n0_ := Aside0.mk (below_step (by repeat (first | (with_reducible first | exact HB.out | apply below_alloc | apply pw_below_drewN | apply below_drew1) | exact HB.out)) hb); have n1_ := Aside0.mk (hbox); have n2_ := Aside0.mk ((by rw [hg]; exact (below_size (by repeat (first | (with_reducible first | exact HB.out | apply below_alloc | apply pw_below_drewN | apply below_drew1) | exact HB.out))) : w.heap.size ≤ gb182)); have n3_ := Aside0.mk ((by rw [hg]; exact (below_size (by repeat (first | (with_reducible first | exact HB.out | apply below_alloc | apply pw_below_drewN | apply below_drew1) | exact HB.out))) : w.heap.size ≤ gb182)); clear HB; have HB := n0_; have BK182 := n1_; have GW182 := n2_; have GE182 := n3_; clear n0_ n1_ n2_ n3_; clear hb hbox hg; have hcz16_0 : w15.cell? ⟨gb182, 0, none⟩ = some (.int .i64 a0_0) := (blk_cell BK182.out 0).trans rfl; have hcz16_1 : w15.cell? ⟨gb182, 1, none⟩ = some (.int .i64 a0_1) := (blk_cell BK182.out 1).trans rfl; have hcz16_2 : w15.cell? ⟨gb182, 2, none⟩ = some (.int .i64 a0_2) := (blk_cell BK182.out 2).trans rfl; have hcz16_3 : w15.cell? ⟨gb182, 3, none⟩ = some (.slice A0_3 l0_3.length c0_3) := (blk_cell BK182.out 3).trans rfl; have hcz16_4 : w15.cell? ⟨gb182, 4, none⟩ = some (.string a0_4) := (blk_cell BK182.out 4).trans rfl; have hcz16_5 : w15.cell? ⟨gb182, 5, none⟩ = some (.int .i64 a0_5) := (blk_cell BK182.out 5).trans rfl; have hcz16_6 : w15.cell? ⟨gb182, 6, none⟩ = some (.int .i64 a0_6) := (blk_cell BK182.out 6).trans rfl; have hcz16_7 : w15.cell? ⟨gb182, 7, none⟩ = some (.int .i64 a0_7) := (blk_cell BK182.out 7).trans rfl; have hfz16_0 := blk_frozen BK182.out 0; have hfz16_1 := blk_frozen BK182.out 1; have hfz16_2 := blk_frozen BK182.out 2; have hfz16_3 := blk_frozen BK182.out 3; have hfz16_4 := blk_frozen BK182.out 4; have hfz16_5 := blk_frozen BK182.out 5; have hfz16_6 := blk_frozen BK182.out 6; have hfz16_7 := blk_frozen BK182.out 7))
              go_ret
              exact ⟨by first | rfl | (simp [errW_none, errW_some] <;> rfl) | (simp [*, errW_none, errW_some] <;> rfl), by repeat (first | (with_reducible first | exact HB.out | apply below_alloc | apply pw_below_drewN | apply below_drew1 | refine below_set ?_ GE182.out) | exact HB.out)⟩
          · rw [if_neg c11] at H
            have c11b0 : (a0_6 == 0) = false := beq_eq_false_iff_ne.mpr c11
            have c11b1 : (a0_6 != 0) = true := bne_iff_ne.mpr c11
            obtain rfl := Option.some.inj H
            go_enter Tryd.func27, Tryd.ntmps27
            go_wp2_with (first | ((with_reducible refine gate_dst (N := 1) rfl ?_); refine box_event ?hg (N := 1) ?hd (cs := #[.int .i64 a0_0, .int .i64 a0_1, .int .i64 a0_2, .slice A0_3 l0_3.length c0_3, .string a0_4, .int .i64 a0_5, .int .i64 a0_6, .int .i64 a0_7]) (t := 39) ?hr ?_; (case hd => rfl); (case hg => rfl); (case hr => first | (go_simp; done) | (go_simp; rfl)); intro gb182 hg w17 hbox hb; have n0_ := Aside0.mk (below_step (by repeat (first | (with_reducible first | exact HB.out | apply below_alloc | apply pw_below_drewN | apply below_drew1) | exact HB.out)) hb); have n1_ := Aside0.mk (hbox); have n2_ := Aside0.mk ((by rw [hg]; exact (below_size (by repeat (first | (with_reducible first | exact HB.out | apply below_alloc | apply pw_below_drewN | apply below_drew1) | exact HB.out))) : w.heap.size ≤ gb182)); have n3_ := Aside0.mk ((by rw [hg]; exact (below_size (by repeat (first | (with_reducible first | exact HB.out | apply below_alloc | apply pw_below_drewN | apply below_drew1) | exact HB.out))) : w.heap.size ≤ gb182)); clear HB; have HB := n0_; have BK182 := n1_; have GW182 := n2_; have GE182 := n3_; clear n0_ n1_ n2_ n3_; clear hb hbox hg; have hcz18_0 : w17.cell? ⟨gb182, 0, none⟩ = some (.int .i64 a0_0) := (blk_cell BK182.out 0).trans rfl; have hcz18_1 : w17.cell? ⟨gb182, 1, none⟩ = some (.int .i64 a0_1) := (blk_cell BK182.out 1).trans rfl; have hcz18_2 : w17.cell? ⟨gb182, 2, none⟩ = some (.int .i64 a0_2) := (blk_cell BK182.out 2).trans rfl; have hcz18_3 : w17.cell? ⟨gb182, 3, none⟩ = some (.slice A0_3 l0_3.length c0_3) := (blk_cell BK182.out 3).trans rfl; have hcz18_4 : w17.cell? ⟨gb182, 4, none⟩ = some (.string a0_4) := (blk_cell BK182.out 4).trans rfl; have hcz18_5 : w17.cell? ⟨gb182, 5, none⟩ = some (.int .i64 a0_5) := (blk_cell BK182.out 5).trans rfl; have hcz18_6 : w17.cell? ⟨gb182, 6, none⟩ = some (.int .i64 a0_6) := (blk_cell BK182.out 6).trans rfl; have hcz18_7 : w17.cell? ⟨gb182, 7, none⟩ = some (.int .i64 a0_7) := (blk_cell BK182.out 7).trans rfl; have hfz18_0 := blk_frozen BK182.out 0; have hfz18_1 := blk_frozen BK182.out 1; have hfz18_2 := blk_frozen BK182.out 2; have hfz18_3 := blk_frozen BK182.out 3; have hfz18_4 := blk_frozen BK182.out 4; have hfz18_5 := blk_frozen BK182.out 5; have hfz18_6 := blk_frozen BK182.out 6; have hfz18_7 := blk_frozen BK182.out 7))
            go_ret
            exact ⟨by first | rfl | (simp [errW_none, errW_some] <;> rfl) | (simp [*, errW_none, errW_some] <;> rfl), by repeat (first | (with_reducible first | exact HB.out | apply below_alloc | apply pw_below_drewN | apply below_drew1 | refine below_set ?_ GE182.out) | exact HB.out)⟩
        · rw [if_neg c10] at H
          have c10b0 : (a0_5 == 0) = false := beq_eq_false_iff_ne.mpr c10
          have c10b1 : (a0_5 != 0) = true := bne_iff_ne.mpr c10
          obtain rfl := Option.some.inj H
          go_enter Tryd.func27, Tryd.ntmps27
          go_wp2_with (first | ((with_reducible refine gate_dst (N := 1) rfl ?_); refine box_event ?hg (N := 1) ?hd (cs := #[.int .i64 a0_0, .int .i64 a0_1, .int .i64 a0_2, .slice A0_3 l0_3.length c0_3, .string a0_4, .int .i64 a0_5, .int .i64 a0_6, .int .i64 a0_7]) (t := 39) ?hr ?_; (case hd => rfl); (case hg => rfl); (case hr => first | (go_simp; done) | (go_simp; rfl)); intro gb182 hg w19 hbox hb; have n0_ := Aside0.mk (below_step (by repeat (first | (with_reducible first | exact HB.out | apply below_alloc | apply pw_below_drewN | apply below_drew1) | exact HB.out)) hb); have n1_ := Aside0.mk (hbox); have n2_ := Aside0.mk ((by rw [hg]; exact (below_size (by repeat (first | (with_reducible first | exact HB.out | apply below_alloc | apply pw_below_drewN | apply below_drew1) | exact HB.out))) : w.heap.size ≤ gb182)); have n3_ := Aside0.mk ((by rw [hg]; exact (below_size (by repeat (first | (with_reducible first | exact HB.out | apply below_alloc | apply pw_below_drewN | apply below_drew1) | exact HB.out))) : w.heap.size ≤ gb182)); clear HB; have HB := n0_; have BK182 := n1_; have GW182 := n2_; have GE182 := n3_; clear n0_ n1_ n2_ n3_; clear hb hbox hg; have hcz20_0 : w19.cell? ⟨gb182, 0, none⟩ = some (.int .i64 a0_0) := (blk_cell BK182.out 0).trans rfl; have hcz20_1 : w19.cell? ⟨gb182, 1, none⟩ = some (.int .i64 a0_1) := (blk_cell BK182.out 1).trans rfl; have hcz20_2 : w19.cell? ⟨gb182, 2, none⟩ = some (.int .i64 a0_2) := (blk_cell BK182.out 2).trans rfl; have hcz20_3 : w19.cell? ⟨gb182, 3, none⟩ = some (.slice A0_3 l0_3.length c0_3) := (blk_cell BK182.out 3).trans rfl; have hcz20_4 : w19.cell? ⟨gb182, 4, none⟩ = some (.string a0_4) := (blk_cell BK182.out 4).trans rfl; have hcz20_5 : w19.cell? ⟨gb182, 5, none⟩ = some (.int .i64 a0_5) := (blk_cell BK182.out 5).trans rfl; have hcz20_6 : w19.cell? ⟨gb182, 6, none⟩ = some (.int .i64 a0_6) := (blk_cell BK182.out 6).trans rfl; have hcz20_7 : w19.cell? ⟨gb182, 7, none⟩ = some (.int .i64 a0_7) := (blk_cell BK182.out 7).trans rfl; have hfz20_0 := blk_frozen BK182.out 0; have hfz20_1 := blk_frozen BK182.out 1; have hfz20_2 := blk_frozen BK182.out 2; have hfz20_3 := blk_frozen BK182.out 3; have hfz20_4 := blk_frozen BK182.out 4; have hfz20_5 := blk_frozen BK182.out 5; have hfz20_6 := blk_frozen BK182.out 6; have hfz20_7 := blk_frozen BK182.out 7))
          go_ret
          exact ⟨by first | rfl | (simp [errW_none, errW_some] <;> rfl) | (simp [*, errW_none, errW_some] <;> rfl), by repeat (first | (with_reducible first | exact HB.out | apply below_alloc | apply pw_below_drewN | apply below_drew1 | refine below_set ?_ GE182.out) | exact HB.out)⟩
    · rw [if_neg c3] at H
      have c3b0 : (a0_0 == 1) = false := beq_eq_false_iff_ne.mpr c3
      have c3b1 : (a0_0 != 1) = true := bne_iff_ne.mpr c3
      by_cases c21 : a0_4.toList = ([] : List UInt8)
      · rw [if_pos c21] at H
        have c21b0 : (a0_4.toList == ([] : List UInt8)) = true := beq_iff_eq.mpr c21
        have c21b1 : (a0_4.toList != ([] : List UInt8)) = false := bne_eq_false_iff_eq.mpr c21
        clear c21
        by_cases c22 : a0_1 = 4
        · rw [if_pos c22] at H
          have c22b0 : (a0_1 == 4) = true := beq_iff_eq.mpr c22
          have c22b1 : (a0_1 != 4) = false := bne_eq_false_iff_eq.mpr c22
          clear c22
          by_cases c23 : a0_0 = 8
          · rw [if_pos c23] at H
            have c23b0 : (a0_0 == 8) = true := beq_iff_eq.mpr c23
            have c23b1 : (a0_0 != 8) = false := bne_eq_false_iff_eq.mpr c23
            clear c23
            obtain rfl := Option.some.inj H
            go_enter Tryd.func27, Tryd.ntmps27
            go_wp2_with (first | ((with_reducible refine gate_dst (N := 1) rfl ?_); refine box_event ?hg (N := 1) ?hd (cs := #[.int .i64 a0_0, .int .i64 a0_1, .int .i64 a0_2, .slice A0_3 l0_3.length c0_3, .string a0_4, .int .i64 a0_5, .int .i64 a0_6, .int .i64 a0_7]) (t := 39) ?hr ?_; (case hd => rfl); (case hg => rfl); (case hr => first | (go_simp; done) | (go_simp; rfl)); intro gb182 hg w24 hbox hb; have n0_ := Aside0.mk (below_step (by repeat (first | (with_reducible first | exact HB.out | apply below_alloc | apply pw_below_drewN | apply below_drew1) | exact HB.out)) hb); have n1_ := Aside0.mk (hbox); have n2_ := Aside0.mk ((by rw [hg]; exact (below_size (by repeat (first | (with_reducible first | exact HB.out | apply below_alloc | apply pw_below_drewN | apply below_drew1) | exact HB.out))) : w.heap.size ≤ gb182)); have n3_ := Aside0.mk ((by rw [hg]; exact (below_size (by repeat (first | (with_reducible first | exact HB.out | apply below_alloc | apply pw_below_drewN | apply below_drew1) | exact HB.out))) : w.heap.size ≤ gb182)); clear HB; have HB := n0_; have BK182 := n1_; have GW182 := n2_; have GE182 := n3_; clear n0_ n1_ n2_ n3_; clear hb hbox hg; have hcz25_0 : w24.cell? ⟨gb182, 0, none⟩ = some (.int .i64 a0_0) := (blk_cell BK182.out 0).trans rfl; have hcz25_1 : w24.cell? ⟨gb182, 1, none⟩ = some (.int .i64 a0_1) := (blk_cell BK182.out 1).trans rfl; have hcz25_2 : w24.cell? ⟨gb182, 2, none⟩ = some (.int .i64 a0_2) := (blk_cell BK182.out 2).trans rfl; have hcz25_3 : w24.cell? ⟨gb182, 3, none⟩ = some (.slice A0_3 l0_3.length c0_3) := (blk_cell BK182.out 3).trans rfl; have hcz25_4 : w24.cell? ⟨gb182, 4, none⟩ = some (.string a0_4) := (blk_cell BK182.out 4).trans rfl; have hcz25_5 : w24.cell? ⟨gb182, 5, none⟩ = some (.int .i64 a0_5) := (blk_cell BK182.out 5).trans rfl; have hcz25_6 : w24.cell? ⟨gb182, 6, none⟩ = some (.int .i64 a0_6) := (blk_cell BK182.out 6).trans rfl; have hcz25_7 : w24.cell? ⟨gb182, 7, none⟩ = some (.int .i64 a0_7) := (blk_cell BK182.out 7).trans rfl; have hfz25_0 := blk_frozen BK182.out 0; have hfz25_1 := blk_frozen BK182.out 1; have hfz25_2 := blk_frozen BK182.out 2; have hfz25_3 := blk_frozen BK182.out 3; have hfz25_4 := blk_frozen BK182.out 4; have hfz25_5 := blk_frozen BK182.out 5; have hfz25_6 := blk_frozen BK182.out 6; have hfz25_7 := blk_frozen BK182.out 7))
            go_ret
            exact ⟨by first | rfl | (simp [errW_none, errW_some] <;> rfl) | (simp [*, errW_none, errW_some] <;> rfl), by repeat (first | (with_reducible first | exact HB.out | apply below_alloc | apply pw_below_drewN | apply below_drew1 | refine below_set ?_ GE182.out) | exact HB.out)⟩
          · rw [if_neg c23] at H
            have c23b0 : (a0_0 == 8) = false := beq_eq_false_iff_ne.mpr c23
            have c23b1 : (a0_0 != 8) = true := bne_iff_ne.mpr c23
            obtain rfl := Option.some.inj H
            go_enter Tryd.func27, Tryd.ntmps27
            go_wp2_with (first | ((with_reducible refine gate_dst (N := 1) rfl ?_); refine box_event ?hg (N := 1) ?hd (cs := #[.int .i64 a0_0, .int .i64 a0_1, .int .i64 a0_2, .slice A0_3 l0_3.length c0_3, .string a0_4, .int .i64 a0_5, .int .i64 a0_6, .int .i64 a0_7]) (t := 39) ?hr ?_; (case hd => rfl); (case hg => rfl); (case hr => first | (go_simp; done) | (go_simp; rfl)); intro gb182 hg w26 hbox hb; have n0_ := Aside0.mk (below_step (by repeat (first | (with_reducible first | exact HB.out | apply below_alloc | apply pw_below_drewN | apply below_drew1) | exact HB.out)) hb); have n1_ := Aside0.mk (hbox); have n2_ := Aside0.mk ((by rw [hg]; exact (below_size (by repeat (first | (with_reducible first | exact HB.out | apply below_alloc | apply pw_below_drewN | apply below_drew1) | exact HB.out))) : w.heap.size ≤ gb182)); have n3_ := Aside0.mk ((by rw [hg]; exact (below_size (by repeat (first | (with_reducible first | exact HB.out | apply below_alloc | apply pw_below_drewN | apply below_drew1) | exact HB.out))) : w.heap.size ≤ gb182)); clear HB; have HB := n0_; have BK182 := n1_; have GW182 := n2_; have GE182 := n3_; clear n0_ n1_ n2_ n3_; clear hb hbox hg; have hcz27_0 : w26.cell? ⟨gb182, 0, none⟩ = some (.int .i64 a0_0) := (blk_cell BK182.out 0).trans rfl; have hcz27_1 : w26.cell? ⟨gb182, 1, none⟩ = some (.int .i64 a0_1) := (blk_cell BK182.out 1).trans rfl; have hcz27_2 : w26.cell? ⟨gb182, 2, none⟩ = some (.int .i64 a0_2) := (blk_cell BK182.out 2).trans rfl; have hcz27_3 : w26.cell? ⟨gb182, 3, none⟩ = some (.slice A0_3 l0_3.length c0_3) := (blk_cell BK182.out 3).trans rfl; have hcz27_4 : w26.cell? ⟨gb182, 4, none⟩ = some (.string a0_4) := (blk_cell BK182.out 4).trans rfl; have hcz27_5 : w26.cell? ⟨gb182, 5, none⟩ = some (.int .i64 a0_5) := (blk_cell BK182.out 5).trans rfl; have hcz27_6 : w26.cell? ⟨gb182, 6, none⟩ = some (.int .i64 a0_6) := (blk_cell BK182.out 6).trans rfl; have hcz27_7 : w26.cell? ⟨gb182, 7, none⟩ = some (.int .i64 a0_7) := (blk_cell BK182.out 7).trans rfl; have hfz27_0 := blk_frozen BK182.out 0; have hfz27_1 := blk_frozen BK182.out 1; have hfz27_2 := blk_frozen BK182.out 2; have hfz27_3 := blk_frozen BK182.out 3; have hfz27_4 := blk_frozen BK182.out 4; have hfz27_5 := blk_frozen BK182.out 5; have hfz27_6 := blk_frozen BK182.out 6; have hfz27_7 := blk_frozen BK182.out 7))
            go_ret
            exact ⟨by first | rfl | (simp [errW_none, errW_some] <;> rfl) | (simp [*, errW_none, errW_some] <;> rfl), by repeat (first | (with_reducible first | exact HB.out | apply below_alloc | apply pw_below_drewN | apply below_drew1 | refine below_set ?_ GE182.out) | exact HB.out)⟩
        · rw [if_neg c22] at H
          have c22b0 : (a0_1 == 4) = false := beq_eq_false_iff_ne.mpr c22
          have c22b1 : (a0_1 != 4) = true := bne_iff_ne.mpr c22
          by_cases c28 : a0_5 = 0
          · rw [if_pos c28] at H
            have c28b0 : (a0_5 == 0) = true := beq_iff_eq.mpr c28
            have c28b1 : (a0_5 != 0) = false := bne_eq_false_iff_eq.mpr c28
            clear c28
            by_cases c29 : a0_6 = 0
            · rw [if_pos c29] at H
              have c29b0 : (a0_6 == 0) = true := beq_iff_eq.mpr c29
              have c29b1 : (a0_6 != 0) = false := bne_eq_false_iff_eq.mpr c29
              clear c29
              by_cases c30 : a0_0 = 8
              · rw [if_pos c30] at H
                have c30b0 : (a0_0 == 8) = true := beq_iff_eq.mpr c30
                have c30b1 : (a0_0 != 8) = false := bne_eq_false_iff_eq.mpr c30
                clear c30
                obtain rfl := Option.some.inj H
                go_enter Tryd.func27, Tryd.ntmps27
                go_wp2_with (first | ((with_reducible refine gate_dst (N := 1) rfl ?_); refine box_event ?hg (N := 1) ?hd (cs := #[.int .i64 a0_0, .int .i64 a0_1, .int .i64 a0_2, .slice A0_3 l0_3.length c0_3, .string a0_4, .int .i64 a0_5, .int .i64 a0_6, .int .i64 a0_7]) (t := 39) ?hr ?_; (case hd => rfl); (case hg => rfl); (case hr => first | (go_simp; done) | (go_simp; rfl)); intro gb182 hg w31 hbox hb; have n0_ := Aside0.mk (below_step (by repeat (first | (with_reducible first | exact HB.out | apply below_alloc | apply pw_below_drewN | apply below_drew1) | exact HB.out)) hb); have n1_ := Aside0.mk (hbox); have n2_ := Aside0.mk ((by rw [hg]; exact (below_size (by repeat (first | (with_reducible first | exact HB.out | apply below_alloc | apply pw_below_drewN | apply below_drew1) | exact HB.out))) : w.heap.size ≤ gb182)); have n3_ := Aside0.mk ((by rw [hg]; exact (below_size (by repeat (first | (with_reducible first | exact HB.out | apply below_alloc | apply pw_below_drewN | apply below_drew1) | exact HB.out))) : w.heap.size ≤ gb182)); clear HB; have HB := n0_; have BK182 := n1_; have GW182 := n2_; have GE182 := n3_; clear n0_ n1_ n2_ n3_; clear hb hbox hg; have hcz32_0 : w31.cell? ⟨gb182, 0, none⟩ = some (.int .i64 a0_0) := (blk_cell BK182.out 0).trans rfl; have hcz32_1 : w31.cell? ⟨gb182, 1, none⟩ = some (.int .i64 a0_1) := (blk_cell BK182.out 1).trans rfl; have hcz32_2 : w31.cell? ⟨gb182, 2, none⟩ = some (.int .i64 a0_2) := (blk_cell BK182.out 2).trans rfl; have hcz32_3 : w31.cell? ⟨gb182, 3, none⟩ = some (.slice A0_3 l0_3.length c0_3) := (blk_cell BK182.out 3).trans rfl; have hcz32_4 : w31.cell? ⟨gb182, 4, none⟩ = some (.string a0_4) := (blk_cell BK182.out 4).trans rfl; have hcz32_5 : w31.cell? ⟨gb182, 5, none⟩ = some (.int .i64 a0_5) := (blk_cell BK182.out 5).trans rfl; have hcz32_6 : w31.cell? ⟨gb182, 6, none⟩ = some (.int .i64 a0_6) := (blk_cell BK182.out 6).trans rfl; have hcz32_7 : w31.cell? ⟨gb182, 7, none⟩ = some (.int .i64 a0_7) := (blk_cell BK182.out 7).trans rfl; have hfz32_0 := blk_frozen BK182.out 0; have hfz32_1 := blk_frozen BK182.out 1; have hfz32_2 := blk_frozen BK182.out 2; have hfz32_3 := blk_frozen BK182.out 3; have hfz32_4 := blk_frozen BK182.out 4; have hfz32_5 := blk_frozen BK182.out 5; have hfz32_6 := blk_frozen BK182.out 6; have hfz32_7 := blk_frozen BK182.out 7))
                go_ret
                exact ⟨by first | rfl | (simp [errW_none, errW_some] <;> rfl) | (simp [*, errW_none, errW_some] <;> rfl), by repeat (first | (with_reducible first | exact HB.out | apply below_alloc | apply pw_below_drewN | apply below_drew1 | refine below_set ?_ GE182.out) | exact HB.out)⟩
              · rw [if_neg c30] at H
                have c30b0 : (a0_0 == 8) = false := beq_eq_false_iff_ne.mpr c30
                have c30b1 : (a0_0 != 8) = true := bne_iff_ne.mpr c30
                obtain rfl := Option.some.inj H
                go_enter Tryd.func27, Tryd.ntmps27
                go_wp2_with (first | ((with_reducible refine gate_dst (N := 1) rfl ?_); refine box_event ?hg (N := 1) ?hd (cs := #[.int .i64 a0_0, .int .i64 a0_1, .int .i64 a0_2, .slice A0_3 l0_3.length c0_3, .string a0_4, .int .i64 a0_5, .int .i64 a0_6, .int .i64 a0_7]) (t := 39) ?hr ?_; (case hd => rfl); (case hg => rfl); (case hr => first | (go_simp; done) | (go_simp; rfl)); intro gb182 hg w33 hbox hb; have n0_ := Aside0.mk (below_step (by repeat (first | (with_reducible first | exact HB.out | apply below_alloc | apply pw_below_drewN | apply below_drew1) | exact HB.out)) hb); have n1_ := Aside0.mk (hbox); have n2_ := Aside0.mk ((by rw [hg]; exact (below_size (by repeat (first | (with_reducible first | exact HB.out | apply below_alloc | apply pw_below_drewN | apply below_drew1) | exact HB.out))) : w.heap.size ≤ gb182)); have n3_ := Aside0.mk ((by rw [hg]; exact (below_size (by repeat (first | (with_reducible first | exact HB.out | apply below_alloc | apply pw_below_drewN | apply below_drew1) | exact HB.out))) : w.heap.size ≤ gb182)); clear HB; have HB := n0_; have BK182 := n1_; have GW182 := n2_; have GE182 := n3_; clear n0_ n1_ n2_ n3_; clear hb hbox hg; have hcz34_0 : w33.cell? ⟨gb182, 0, none⟩ = some (.int .i64 a0_0) := (blk_cell BK182.out 0).trans rfl; have hcz34_1 : w33.cell? ⟨gb182, 1, none⟩ = some (.int .i64 a0_1) := (blk_cell BK182.out 1).trans rfl; have hcz34_2 : w33.cell? ⟨gb182, 2, none⟩ = some (.int .i64 a0_2) := (blk_cell BK182.out 2).trans rfl; have hcz34_3 : w33.cell? ⟨gb182, 3, none⟩ = some (.slice A0_3 l0_3.length c0_3) := (blk_cell BK182.out 3).trans rfl; have hcz34_4 : w33.cell? ⟨gb182, 4, none⟩ = some (.string a0_4) := (blk_cell BK182.out 4).trans rfl; have hcz34_5 : w33.cell? ⟨gb182, 5, none⟩ = some (.int .i64 a0_5) := (blk_cell BK182.out 5).trans rfl; have hcz34_6 : w33.cell? ⟨gb182, 6, none⟩ = some (.int .i64 a0_6) := (blk_cell BK182.out 6).trans rfl; have hcz34_7 : w33.cell? ⟨gb182, 7, none⟩ = some (.int .i64 a0_7) := (blk_cell BK182.out 7).trans rfl; have hfz34_0 := blk_frozen BK182.out 0; have hfz34_1 := blk_frozen BK182.out 1; have hfz34_2 := blk_frozen BK182.out 2; have hfz34_3 := blk_frozen BK182.out 3; have hfz34_4 := blk_frozen BK182.out 4; have hfz34_5 := blk_frozen BK182.out 5; have hfz34_6 := blk_frozen BK182.out 6; have hfz34_7 := blk_frozen BK182.out 7))
                go_ret
                exact ⟨by first | rfl | (simp [errW_none, errW_some] <;> rfl) | (simp [*, errW_none, errW_some] <;> rfl), by repeat (first | (with_reducible first | exact HB.out | apply below_alloc | apply pw_below_drewN | apply below_drew1 | refine below_set ?_ GE182.out) | exact HB.out)⟩
            · rw [if_neg c29] at H
              have c29b0 : (a0_6 == 0) = false := beq_eq_false_iff_ne.mpr c29
              have c29b1 : (a0_6 != 0) = true := bne_iff_ne.mpr c29
              obtain rfl := Option.some.inj H
              go_enter Tryd.func27, Tryd.ntmps27
              go_wp2_with (first | ((with_reducible refine gate_dst (N := 1) rfl ?_); refine box_event ?hg (N := 1) ?hd (cs := #[.int .i64 a0_0, .int .i64 a0_1, .int .i64 a0_2, .slice A0_3 l0_3.length c0_3, .string a0_4, .int .i64 a0_5, .int .i64 a0_6, .int .i64 a0_7]) (t := 39) ?hr ?_; (case hd => rfl); (case hg => rfl); (case hr => first | (go_simp; done) | (go_simp; rfl)); intro gb182 hg w35 hbox hb; have n0_ := Aside0.mk (below_step (by repeat (first | (with_reducible first | exact HB.out | apply below_alloc | apply pw_below_drewN | apply below_drew1) | exact HB.out)) hb); have n1_ := Aside0.mk (hbox); have n2_ := Aside0.mk ((by rw [hg]; exact (below_size (by repeat (first | (with_reducible first | exact HB.out | apply below_alloc | apply pw_below_drewN | apply below_drew1) | exact HB.out))) : w.heap.size ≤ gb182)); have n3_ := Aside0.mk ((by rw [hg]; exact (below_size (by repeat (first | (with_reducible first | exact HB.out | apply below_alloc | apply pw_below_drewN | apply below_drew1) | exact HB.out))) : w.heap.size ≤ gb182)); clear HB; have HB := n0_; have BK182 := n1_; have GW182 := n2_; have GE182 := n3_; clear n0_ n1_ n2_ n3_; clear hb hbox hg; have hcz36_0 : w35.cell? ⟨gb182, 0, none⟩ = some (.int .i64 a0_0) := (blk_cell BK182.out 0).trans rfl; have hcz36_1 : w35.cell? ⟨gb182, 1, none⟩ = some (.int .i64 a0_1) := (blk_cell BK182.out 1).trans rfl; have hcz36_2 : w35.cell? ⟨gb182, 2, none⟩ = some (.int .i64 a0_2) := (blk_cell BK182.out 2).trans rfl; have hcz36_3 : w35.cell? ⟨gb182, 3, none⟩ = some (.slice A0_3 l0_3.length c0_3) := (blk_cell BK182.out 3).trans rfl; have hcz36_4 : w35.cell? ⟨gb182, 4, none⟩ = some (.string a0_4) := (blk_cell BK182.out 4).trans rfl; have hcz36_5 : w35.cell? ⟨gb182, 5, none⟩ = some (.int .i64 a0_5) := (blk_cell BK182.out 5).trans rfl; have hcz36_6 : w35.cell? ⟨gb182, 6, none⟩ = some (.int .i64 a0_6) := (blk_cell BK182.out 6).trans rfl; have hcz36_7 : w35.cell? ⟨gb182, 7, none⟩ = some (.int .i64 a0_7) := (blk_cell BK182.out 7).trans rfl; have hfz36_0 := blk_frozen BK182.out 0; have hfz36_1 := blk_frozen BK182.out 1; have hfz36_2 := blk_frozen BK182.out 2; have hfz36_3 := blk_frozen BK182.out 3; have hfz36_4 := blk_frozen BK182.out 4; have hfz36_5 := blk_frozen BK182.out 5; have hfz36_6 := blk_frozen BK182.out 6; have hfz36_7 := blk_frozen BK182.out 7))
              go_ret
              exact ⟨by first | rfl | (simp [errW_none, errW_some] <;> rfl) | (simp [*, errW_none, errW_some] <;> rfl), by repeat (first | (with_reducible first | exact HB.out | apply below_alloc | apply pw_below_drewN | apply below_drew1 | refine below_set ?_ GE182.out) | exact HB.out)⟩
          · rw [if_neg c28] at H
            have c28b0 : (a0_5 == 0) = false := beq_eq_false_iff_ne.mpr c28
            have c28b1 : (a0_5 != 0) = true := bne_iff_ne.mpr c28
            obtain rfl := Option.some.inj H
            go_enter Tryd.func27, Tryd.ntmps27
            go_wp2_with (first | ((with_reducible refine gate_dst (N := 1) rfl ?_); refine box_event ?hg (N := 1) ?hd (cs := #[.int .i64 a0_0, .int .i64 a0_1, .int .i64 a0_2, .slice A0_3 l0_3.length c0_3, .string a0_4, .int .i64 a0_5, .int .i64 a0_6, .int .i64 a0_7]) (t := 39) ?hr ?_; (case hd => rfl); (case hg => rfl); (case hr => first | (go_simp; done) | (go_simp; rfl)); intro gb182 hg w37 hbox hb; have n0_ := Aside0.mk (below_step (by repeat (first | (with_reducible first | exact HB.out | apply below_alloc | apply pw_below_drewN | apply below_drew1) | exact HB.out)) hb); have n1_ := Aside0.mk (hbox); have n2_ := Aside0.mk ((by rw [hg]; exact (below_size (by repeat (first | (with_reducible first | exact HB.out | apply below_alloc | apply pw_below_drewN | apply below_drew1) | exact HB.out))) : w.heap.size ≤ gb182)); have n3_ := Aside0.mk ((by rw [hg]; exact (below_size (by repeat (first | (with_reducible first | exact HB.out | apply below_alloc | apply pw_below_drewN | apply below_drew1) | exact HB.out))) : w.heap.size ≤ gb182)); clear HB; have HB := n0_; have BK182 := n1_; have GW182 := n2_; have GE182 := n3_; clear n0_ n1_ n2_ n3_; clear hb hbox hg; have hcz38_0 : w37.cell? ⟨gb182, 0, none⟩ = some (.int .i64 a0_0) := (blk_cell BK182.out 0).trans rfl; have hcz38_1 : w37.cell? ⟨gb182, 1, none⟩ = some (.int .i64 a0_1) := (blk_cell BK182.out 1).trans rfl; have hcz38_2 : w37.cell? ⟨gb182, 2, none⟩ = some (.int .i64 a0_2) := (blk_cell BK182.out 2).trans rfl; have hcz38_3 : w37.cell? ⟨gb182, 3, none⟩ = some (.slice A0_3 l0_3.length c0_3) := (blk_cell BK182.out 3).trans rfl; have hcz38_4 : w37.cell? ⟨gb182, 4, none⟩ = some (.string a0_4) := (blk_cell BK182.out 4).trans rfl; have hcz38_5 : w37.cell? ⟨gb182, 5, none⟩ = some (.int .i64 a0_5) := (blk_cell BK182.out 5).trans rfl; have hcz38_6 : w37.cell? ⟨gb182, 6, none⟩ = some (.int .i64 a0_6) := (blk_cell BK182.out 6).trans rfl; have hcz38_7 : w37.cell? ⟨gb182, 7, none⟩ = some (.int .i64 a0_7) := (blk_cell BK182.out 7).trans rfl; have hfz38_0 := blk_frozen BK182.out 0; have hfz38_1 := blk_frozen BK182.out 1; have hfz38_2 := blk_frozen BK182.out 2; have hfz38_3 := blk_frozen BK182.out 3; have hfz38_4 := blk_frozen BK182.out 4; have hfz38_5 := blk_frozen BK182.out 5; have hfz38_6 := blk_frozen BK182.out 6; have hfz38_7 := blk_frozen BK182.out 7))
            go_ret
            exact ⟨by first | rfl | (simp [errW_none, errW_some] <;> rfl) | (simp [*, errW_none, errW_some] <;> rfl), by repeat (first | (with_reducible first | exact HB.out | apply below_alloc | apply pw_below_drewN | apply below_drew1 | refine below_set ?_ GE182.out) | exact HB.out)⟩
      · rw [if_neg c21] at H
        have c21b0 : (a0_4.toList == ([] : List UInt8)) = false := beq_eq_false_iff_ne.mpr c21
        have c21b1 : (a0_4.toList != ([] : List UInt8)) = true := bne_iff_ne.mpr c21
        obtain rfl := Option.some.inj H
        go_enter Tryd.func27, Tryd.ntmps27
        go_wp2_with (first | ((with_reducible refine gate_dst (N := 1) rfl ?_); refine box_event ?hg (N := 1) ?hd (cs := #[.int .i64 a0_0, .int .i64 a0_1, .int .i64 a0_2, .slice A0_3 l0_3.length c0_3, .string a0_4, .int .i64 a0_5, .int .i64 a0_6, .int .i64 a0_7]) (t := 39) ?hr ?_; (case hd => rfl); (case hg => rfl); (case hr => first | (go_simp; done) | (go_simp; rfl)); intro gb182 hg w39 hbox hb; have n0_ := Aside0.mk (below_step (by repeat (first | (with_reducible first | exact HB.out | apply below_alloc | apply pw_below_drewN | apply below_drew1) | exact HB.out)) hb); have n1_ := Aside0.mk (hbox); have n2_ := Aside0.mk ((by rw [hg]; exact (below_size (by repeat (first | (with_reducible first | exact HB.out | apply below_alloc | apply pw_below_drewN | apply below_drew1) | exact HB.out))) : w.heap.size ≤ gb182)); have n3_ := Aside0.mk ((by rw [hg]; exact (below_size (by repeat (first | (with_reducible first | exact HB.out | apply below_alloc | apply pw_below_drewN | apply below_drew1) | exact HB.out))) : w.heap.size ≤ gb182)); clear HB; have HB := n0_; have BK182 := n1_; have GW182 := n2_; have GE182 := n3_; clear n0_ n1_ n2_ n3_; clear hb hbox hg; have hcz40_0 : w39.cell? ⟨gb182, 0, none⟩ = some (.int .i64 a0_0) := (blk_cell BK182.out 0).trans rfl; have hcz40_1 : w39.cell? ⟨gb182, 1, none⟩ = some (.int .i64 a0_1) := (blk_cell BK182.out 1).trans rfl; have hcz40_2 : w39.cell? ⟨gb182, 2, none⟩ = some (.int .i64 a0_2) := (blk_cell BK182.out 2).trans rfl; have hcz40_3 : w39.cell? ⟨gb182, 3, none⟩ = some (.slice A0_3 l0_3.length c0_3) := (blk_cell BK182.out 3).trans rfl; have hcz40_4 : w39.cell? ⟨gb182, 4, none⟩ = some (.string a0_4) := (blk_cell BK182.out 4).trans rfl; have hcz40_5 : w39.cell? ⟨gb182, 5, none⟩ = some (.int .i64 a0_5) := (blk_cell BK182.out 5).trans rfl; have hcz40_6 : w39.cell? ⟨gb182, 6, none⟩ = some (.int .i64 a0_6) := (blk_cell BK182.out 6).trans rfl; have hcz40_7 : w39.cell? ⟨gb182, 7, none⟩ = some (.int .i64 a0_7) := (blk_cell BK182.out 7).trans rfl; have hfz40_0 := blk_frozen BK182.out 0; have hfz40_1 := blk_frozen BK182.out 1; have hfz40_2 := blk_frozen BK182.out 2; have hfz40_3 := blk_frozen BK182.out 3; have hfz40_4 := blk_frozen BK182.out 4; have hfz40_5 := blk_frozen BK182.out 5; have hfz40_6 := blk_frozen BK182.out 6; have hfz40_7 := blk_frozen BK182.out 7))
        go_ret
        exact ⟨by first | rfl | (simp [errW_none, errW_some] <;> rfl) | (simp [*, errW_none, errW_some] <;> rfl), by repeat (first | (with_reducible first | exact HB.out | apply below_alloc | apply pw_below_drewN | apply below_drew1 | refine below_set ?_ GE182.out) | exact HB.out)⟩
  · rw [if_neg c2] at H
    have c2b0 : (a0_0 == 3) = false := beq_eq_false_iff_ne.mpr c2
    have c2b1 : (a0_0 != 3) = true := bne_iff_ne.mpr c2
    by_cases c41 : a0_1 = 0
    · rw [if_pos c41] at H
      have c41b0 : (a0_1 == 0) = true := beq_iff_eq.mpr c41
      have c41b1 : (a0_1 != 0) = false := bne_eq_false_iff_eq.mpr c41
      clear c41
      by_cases c42 : a0_0 = 1
      · rw [if_pos c42] at H
        have c42b0 : (a0_0 == 1) = true := beq_iff_eq.mpr c42
        have c42b1 : (a0_0 != 1) = false := bne_eq_false_iff_eq.mpr c42
        clear c42
        by_cases c43 : a0_5 = 0
        · rw [if_pos c43] at H
          have c43b0 : (a0_5 == 0) = true := beq_iff_eq.mpr c43
          have c43b1 : (a0_5 != 0) = false := bne_eq_false_iff_eq.mpr c43
          clear c43
          by_cases c44 : a0_6 = 0
          · rw [if_pos c44] at H
            have c44b0 : (a0_6 == 0) = true := beq_iff_eq.mpr c44
            have c44b1 : (a0_6 != 0) = false := bne_eq_false_iff_eq.mpr c44
            clear c44
            by_cases c45 : a0_0 = 8
            · rw [if_pos c45] at H
              have c45b0 : (a0_0 == 8) = true := beq_iff_eq.mpr c45
              have c45b1 : (a0_0 != 8) = false := bne_eq_false_iff_eq.mpr c45
              clear c45
              obtain rfl := Option.some.inj H
              go_enter Tryd.func27, Tryd.ntmps27
              go_wp2_with (first | ((with_reducible refine gate_dst (N := 1) rfl ?_); refine box_event ?hg (N := 1) ?hd (cs := #[.int .i64 a0_0, .int .i64 a0_1, .int .i64 a0_2, .slice A0_3 l0_3.length c0_3, .string a0_4, .int .i64 a0_5, .int .i64 a0_6, .int .i64 a0_7]) (t := 39) ?hr ?_; (case hd => rfl); (case hg => rfl); (case hr => first | (go_simp; done) | (go_simp; rfl)); intro gb182 hg w46 hbox hb; have n0_ := Aside0.mk (below_step (by repeat (first | (with_reducible first | exact HB.out | apply below_alloc | apply pw_below_drewN | apply below_drew1) | exact HB.out)) hb); have n1_ := Aside0.mk (hbox); have n2_ := Aside0.mk ((by rw [hg]; exact (below_size (by repeat (first | (with_reducible first | exact HB.out | apply below_alloc | apply pw_below_drewN | apply below_drew1) | exact HB.out))) : w.heap.size ≤ gb182)); have n3_ := Aside0.mk ((by rw [hg]; exact (below_size (by repeat (first | (with_reducible first | exact HB.out | apply below_alloc | apply pw_below_drewN | apply below_drew1) | exact HB.out))) : w.heap.size ≤ gb182)); clear HB; have HB := n0_; have BK182 := n1_; have GW182 := n2_; have GE182 := n3_; clear n0_ n1_ n2_ n3_; clear hb hbox hg; have hcz47_0 : w46.cell? ⟨gb182, 0, none⟩ = some (.int .i64 a0_0) := (blk_cell BK182.out 0).trans rfl; have hcz47_1 : w46.cell? ⟨gb182, 1, none⟩ = some (.int .i64 a0_1) := (blk_cell BK182.out 1).trans rfl; have hcz47_2 : w46.cell? ⟨gb182, 2, none⟩ = some (.int .i64 a0_2) := (blk_cell BK182.out 2).trans rfl; have hcz47_3 : w46.cell? ⟨gb182, 3, none⟩ = some (.slice A0_3 l0_3.length c0_3) := (blk_cell BK182.out 3).trans rfl; have hcz47_4 : w46.cell? ⟨gb182, 4, none⟩ = some (.string a0_4) := (blk_cell BK182.out 4).trans rfl; have hcz47_5 : w46.cell? ⟨gb182, 5, none⟩ = some (.int .i64 a0_5) := (blk_cell BK182.out 5).trans rfl; have hcz47_6 : w46.cell? ⟨gb182, 6, none⟩ = some (.int .i64 a0_6) := (blk_cell BK182.out 6).trans rfl; have hcz47_7 : w46.cell? ⟨gb182, 7, none⟩ = some (.int .i64 a0_7) := (blk_cell BK182.out 7).trans rfl; have hfz47_0 := blk_frozen BK182.out 0; have hfz47_1 := blk_frozen BK182.out 1; have hfz47_2 := blk_frozen BK182.out 2; have hfz47_3 := blk_frozen BK182.out 3; have hfz47_4 := blk_frozen BK182.out 4; have hfz47_5 := blk_frozen BK182.out 5; have hfz47_6 := blk_frozen BK182.out 6; have hfz47_7 := blk_frozen BK182.out 7))
              go_ret
              exact ⟨by first | rfl | (simp [errW_none, errW_some] <;> rfl) | (simp [*, errW_none, errW_some] <;> rfl), by repeat (first | (with_reducible first | exact HB.out | apply below_alloc | apply pw_below_drewN | apply below_drew1 | refine below_set ?_ GE182.out) | exact HB.out)⟩
            · rw [if_neg c45] at H
              have c45b0 : (a0_0 == 8) = false := beq_eq_false_iff_ne.mpr c45
              have c45b1 : (a0_0 != 8) = true := bne_iff_ne.mpr c45
              obtain rfl := Option.some.inj H
              go_enter Tryd.func27, Tryd.ntmps27
              go_wp2_with (first | ((with_reducible refine gate_dst (N := 1) rfl ?_); refine box_event ?hg (N := 1) ?hd (cs := #[.int .i64 a0_0, .int .i64 a0_1, .int .i64 a0_2, .slice A0_3 l0_3.length c0_3, .string a0_4, .int .i64 a0_5, .int .i64 a0_6, .int .i64 a0_7]) (t := 39) ?hr ?_; (case hd => rfl); (case hg => rfl); (case hr => first | (go_simp; done) | (go_simp; rfl)); intro gb182 hg w48 hbox hb; have n0_ := Aside0.mk (below_step (by repeat (first | (with_reducible first | exact HB.out | apply below_alloc | apply pw_below_drewN | apply below_drew1) | exact HB.out)) hb); have n1_ := Aside0.mk (hbox); have n2_ := Aside0.mk ((by rw [hg]; exact (below_size (by repeat (first | (with_reducible first | exact HB.out | apply below_alloc | apply pw_below_drewN | apply below_drew1) | exact HB.out))) : w.heap.size ≤ gb182)); have n3_ := Aside0.mk ((by rw [hg]; exact (below_size (by repeat (first | (with_reducible first | exact HB.out | apply below_alloc | apply pw_below_drewN | apply below_drew1) | exact HB.out))) : w.heap.size ≤ gb182)); clear HB; have HB := n0_; have BK182 := n1_; have GW182 := n2_; have GE182 := n3_; clear n0_ n1_ n2_ n3_; clear hb hbox hg; have hcz49_0 : w48.cell? ⟨gb182, 0, none⟩ = some (.int .i64 a0_0) := (blk_cell BK182.out 0).trans rfl; have hcz49_1 : w48.cell? ⟨gb182, 1, none⟩ = some (.int .i64 a0_1) := (blk_cell BK182.out 1).trans rfl; have hcz49_2 : w48.cell? ⟨gb182, 2, none⟩ = some (.int .i64 a0_2) := (blk_cell BK182.out 2).trans rfl; have hcz49_3 : w48.cell? ⟨gb182, 3, none⟩ = some (.slice A0_3 l0_3.length c0_3) := (blk_cell BK182.out 3).trans rfl; have hcz49_4 : w48.cell? ⟨gb182, 4, none⟩ = some (.string a0_4) := (blk_cell BK182.out 4).trans rfl; have hcz49_5 : w48.cell? ⟨gb182, 5, none⟩ = some (.int .i64 a0_5) := (blk_cell BK182.out 5).trans rfl; have hcz49_6 : w48.cell? ⟨gb182, 6, none⟩ = some (.int .i64 a0_6) := (blk_cell BK182.out 6).trans rfl; have hcz49_7 : w48.cell? ⟨gb182, 7, none⟩ = some (.int .i64 a0_7) := (blk_cell BK182.out 7).trans rfl; have hfz49_0 := blk_frozen BK182.out 0; have hfz49_1 := blk_frozen BK182.out 1; have hfz49_2 := blk_frozen BK182.out 2; have hfz49_3 := blk_frozen BK182.out 3; have hfz49_4 := blk_frozen BK182.out 4; have hfz49_5 := blk_frozen BK182.out 5; have hfz49_6 := blk_frozen BK182.out 6; have hfz49_7 := blk_frozen BK182.out 7))
              go_ret
              exact ⟨by first | rfl | (simp [errW_none, errW_some] <;> rfl) | (simp [*, errW_none, errW_some] <;> rfl), by repeat (first | (with_reducible first | exact HB.out | apply below_alloc | apply pw_below_drewN | apply below_drew1 | refine below_set ?_ GE182.out) | exact HB.out)⟩
          · rw [if_neg c44] at H
            have c44b0 : (a0_6 == 0) = false := beq_eq_false_iff_ne.mpr c44
            have c44b1 : (a0_6 != 0) = true := bne_iff_ne.mpr c44
            obtain rfl := Option.some.inj H
            go_enter Tryd.func27, Tryd.ntmps27
            go_wp2_with (first | ((with_reducible refine gate_dst (N := 1) rfl ?_); refine box_event ?hg (N := 1) ?hd (cs := #[.int .i64 a0_0, .int .i64 a0_1, .int .i64 a0_2, .slice A0_3 l0_3.length c0_3, .string a0_4, .int .i64 a0_5, .int .i64 a0_6, .int .i64 a0_7]) (t := 39) ?hr ?_; (case hd => rfl); (case hg => rfl); (case hr => first | (go_simp; done) | (go_simp; rfl)); intro gb182 hg w50 hbox hb; have n0_ := Aside0.mk (below_step (by repeat (first | (with_reducible first | exact HB.out | apply below_alloc | apply pw_below_drewN | apply below_drew1) | exact HB.out)) hb); have n1_ := Aside0.mk (hbox); have n2_ := Aside0.mk ((by rw [hg]; exact (below_size (by repeat (first | (with_reducible first | exact HB.out | apply below_alloc | apply pw_below_drewN | apply below_drew1) | exact HB.out))) : w.heap.size ≤ gb182)); have n3_ := Aside0.mk ((by rw [hg]; exact (below_size (by repeat (first | (with_reducible first | exact HB.out | apply below_alloc | apply pw_below_drewN | apply below_drew1) | exact HB.out))) : w.heap.size ≤ gb182)); clear HB; have HB := n0_; have BK182 := n1_; have GW182 := n2_; have GE182 := n3_; clear n0_ n1_ n2_ n3_; clear hb hbox hg; have hcz51_0 : w50.cell? ⟨gb182, 0, none⟩ = some (.int .i64 a0_0) := (blk_cell BK182.out 0).trans rfl; have hcz51_1 : w50.cell? ⟨gb182, 1, none⟩ = some (.int .i64 a0_1) := (blk_cell BK182.out 1).trans rfl; have hcz51_2 : w50.cell? ⟨gb182, 2, none⟩ = some (.int .i64 a0_2) := (blk_cell BK182.out 2).trans rfl; have hcz51_3 : w50.cell? ⟨gb182, 3, none⟩ = some (.slice A0_3 l0_3.length c0_3) := (blk_cell BK182.out 3).trans rfl; have hcz51_4 : w50.cell? ⟨gb182, 4, none⟩ = some (.string a0_4) := (blk_cell BK182.out 4).trans rfl; have hcz51_5 : w50.cell? ⟨gb182, 5, none⟩ = some (.int .i64 a0_5) := (blk_cell BK182.out 5).trans rfl; have hcz51_6 : w50.cell? ⟨gb182, 6, none⟩ = some (.int .i64 a0_6) := (blk_cell BK182.out 6).trans rfl; have hcz51_7 : w50.cell? ⟨gb182, 7, none⟩ = some (.int .i64 a0_7) := (blk_cell BK182.out 7).trans rfl; have hfz51_0 := blk_frozen BK182.out 0; have hfz51_1 := blk_frozen BK182.out 1; have hfz51_2 := blk_frozen BK182.out 2; have hfz51_3 := blk_frozen BK182.out 3; have hfz51_4 := blk_frozen BK182.out 4; have hfz51_5 := blk_frozen BK182.out 5; have hfz51_6 := blk_frozen BK182.out 6; have hfz51_7 := blk_frozen BK182.out 7))
            go_ret
            exact ⟨by first | rfl | (simp [errW_none, errW_some] <;> rfl) | (simp [*, errW_none, errW_some] <;> rfl), by repeat (first | (with_reducible first | exact HB.out | apply below_alloc | apply pw_below_drewN | apply below_drew1 | refine below_set ?_ GE182.out) | exact HB.out)⟩
        · rw [if_neg c43] at H
          have c43b0 : (a0_5 == 0) = false := beq_eq_false_iff_ne.mpr c43
          have c43b1 : (a0_5 != 0) = true := bne_iff_ne.mpr c43
          obtain rfl := Option.some.inj H
          go_enter Tryd.func27, Tryd.ntmps27
          go_wp2_with (first | ((with_reducible refine gate_dst (N := 1) rfl ?_); refine box_event ?hg (N := 1) ?hd (cs := #[.int .i64 a0_0, .int .i64 a0_1, .int .i64 a0_2, .slice A0_3 l0_3.length c0_3, .string a0_4, .int .i64 a0_5, .int .i64 a0_6, .int .i64 a0_7]) (t := 39) ?hr ?_; (case hd => rfl); (case hg => rfl); (case hr => first | (go_simp; done) | (go_simp; rfl)); intro gb182 hg w52 hbox hb; have n0_ := Aside0.mk (below_step (by repeat (first | (with_reducible first | exact HB.out | apply below_alloc | apply pw_below_drewN | apply below_drew1) | exact HB.out)) hb); have n1_ := Aside0.mk (hbox); have n2_ := Aside0.mk ((by rw [hg]; exact (below_size (by repeat (first | (with_reducible first | exact HB.out | apply below_alloc | apply pw_below_drewN | apply below_drew1) | exact HB.out))) : w.heap.size ≤ gb182)); have n3_ := Aside0.mk ((by rw [hg]; exact (below_size (by repeat (first | (with_reducible first | exact HB.out | apply below_alloc | apply pw_below_drewN | apply below_drew1) | exact HB.out))) : w.heap.size ≤ gb182)); clear HB; have HB := n0_; have BK182 := n1_; have GW182 := n2_; have GE182 := n3_; clear n0_ n1_ n2_ n3_; clear hb hbox hg; have hcz53_0 : w52.cell? ⟨gb182, 0, none⟩ = some (.int .i64 a0_0) := (blk_cell BK182.out 0).trans rfl; have hcz53_1 : w52.cell? ⟨gb182, 1, none⟩ = some (.int .i64 a0_1) := (blk_cell BK182.out 1).trans rfl; have hcz53_2 : w52.cell? ⟨gb182, 2, none⟩ = some (.int .i64 a0_2) := (blk_cell BK182.out 2).trans rfl; have hcz53_3 : w52.cell? ⟨gb182, 3, none⟩ = some (.slice A0_3 l0_3.length c0_3) := (blk_cell BK182.out 3).trans rfl; have hcz53_4 : w52.cell? ⟨gb182, 4, none⟩ = some (.string a0_4) := (blk_cell BK182.out 4).trans rfl; have hcz53_5 : w52.cell? ⟨gb182, 5, none⟩ = some (.int .i64 a0_5) := (blk_cell BK182.out 5).trans rfl; have hcz53_6 : w52.cell? ⟨gb182, 6, none⟩ = some (.int .i64 a0_6) := (blk_cell BK182.out 6).trans rfl; have hcz53_7 : w52.cell? ⟨gb182, 7, none⟩ = some (.int .i64 a0_7) := (blk_cell BK182.out 7).trans rfl; have hfz53_0 := blk_frozen BK182.out 0; have hfz53_1 := blk_frozen BK182.out 1; have hfz53_2 := blk_frozen BK182.out 2; have hfz53_3 := blk_frozen BK182.out 3; have hfz53_4 := blk_frozen BK182.out 4; have hfz53_5 := blk_frozen BK182.out 5; have hfz53_6 := blk_frozen BK182.out 6; have hfz53_7 := blk_frozen BK182.out 7))
          go_ret
          exact ⟨by first | rfl | (simp [errW_none, errW_some] <;> rfl) | (simp [*, errW_none, errW_some] <;> rfl), by repeat (first | (with_reducible first | exact HB.out | apply below_alloc | apply pw_below_drewN | apply below_drew1 | refine below_set ?_ GE182.out) | exact HB.out)⟩
      · rw [if_neg c42] at H
        have c42b0 : (a0_0 == 1) = false := beq_eq_false_iff_ne.mpr c42
        have c42b1 : (a0_0 != 1) = true := bne_iff_ne.mpr c42
        by_cases c54 : a0_4.toList = ([] : List UInt8)
        · rw [if_pos c54] at H
          have c54b0 : (a0_4.toList == ([] : List UInt8)) = true := beq_iff_eq.mpr c54
          have c54b1 : (a0_4.toList != ([] : List UInt8)) = false := bne_eq_false_iff_eq.mpr c54
          clear c54
          by_cases c55 : a0_5 = 0
          · rw [if_pos c55] at H
            have c55b0 : (a0_5 == 0) = true := beq_iff_eq.mpr c55
            have c55b1 : (a0_5 != 0) = false := bne_eq_false_iff_eq.mpr c55
            clear c55
            by_cases c56 : a0_6 = 0
            · rw [if_pos c56] at H
              have c56b0 : (a0_6 == 0) = true := beq_iff_eq.mpr c56
              have c56b1 : (a0_6 != 0) = false := bne_eq_false_iff_eq.mpr c56
              clear c56
              by_cases c57 : a0_0 = 8
              · rw [if_pos c57] at H
                have c57b0 : (a0_0 == 8) = true := beq_iff_eq.mpr c57
                have c57b1 : (a0_0 != 8) = false := bne_eq_false_iff_eq.mpr c57
                clear c57
                obtain rfl := Option.some.inj H
                go_enter Tryd.func27, Tryd.ntmps27
                go_wp2_with (first | ((with_reducible refine gate_dst (N := 1) rfl ?_); refine box_event ?hg (N := 1) ?hd (cs := #[.int .i64 a0_0, .int .i64 a0_1, .int .i64 a0_2, .slice A0_3 l0_3.length c0_3, .string a0_4, .int .i64 a0_5, .int .i64 a0_6, .int .i64 a0_7]) (t := 39) ?hr ?_; (case hd => rfl); (case hg => rfl); (case hr => first | (go_simp; done) | (go_simp; rfl)); intro gb182 hg w58 hbox hb; have n0_ := Aside0.mk (below_step (by repeat (first | (with_reducible first | exact HB.out | apply below_alloc | apply pw_below_drewN | apply below_drew1) | exact HB.out)) hb); have n1_ := Aside0.mk (hbox); have n2_ := Aside0.mk ((by rw [hg]; exact (below_size (by repeat (first | (with_reducible first | exact HB.out | apply below_alloc | apply pw_below_drewN | apply below_drew1) | exact HB.out))) : w.heap.size ≤ gb182)); have n3_ := Aside0.mk ((by rw [hg]; exact (below_size (by repeat (first | (with_reducible first | exact HB.out | apply below_alloc | apply pw_below_drewN | apply below_drew1) | exact HB.out))) : w.heap.size ≤ gb182)); clear HB; have HB := n0_; have BK182 := n1_; have GW182 := n2_; have GE182 := n3_; clear n0_ n1_ n2_ n3_; clear hb hbox hg; have hcz59_0 : w58.cell? ⟨gb182, 0, none⟩ = some (.int .i64 a0_0) := (blk_cell BK182.out 0).trans rfl; have hcz59_1 : w58.cell? ⟨gb182, 1, none⟩ = some (.int .i64 a0_1) := (blk_cell BK182.out 1).trans rfl; have hcz59_2 : w58.cell? ⟨gb182, 2, none⟩ = some (.int .i64 a0_2) := (blk_cell BK182.out 2).trans rfl; have hcz59_3 : w58.cell? ⟨gb182, 3, none⟩ = some (.slice A0_3 l0_3.length c0_3) := (blk_cell BK182.out 3).trans rfl; have hcz59_4 : w58.cell? ⟨gb182, 4, none⟩ = some (.string a0_4) := (blk_cell BK182.out 4).trans rfl; have hcz59_5 : w58.cell? ⟨gb182, 5, none⟩ = some (.int .i64 a0_5) := (blk_cell BK182.out 5).trans rfl; have hcz59_6 : w58.cell? ⟨gb182, 6, none⟩ = some (.int .i64 a0_6) := (blk_cell BK182.out 6).trans rfl; have hcz59_7 : w58.cell? ⟨gb182, 7, none⟩ = some (.int .i64 a0_7) := (blk_cell BK182.out 7).trans rfl; have hfz59_0 := blk_frozen BK182.out 0; have hfz59_1 := blk_frozen BK182.out 1; have hfz59_2 := blk_frozen BK182.out 2; have hfz59_3 := blk_frozen BK182.out 3; have hfz59_4 := blk_frozen BK182.out 4; have hfz59_5 := blk_frozen BK182.out 5; have hfz59_6 := blk_frozen BK182.out 6; have hfz59_7 := blk_frozen BK182.out 7))
                go_ret
                exact ⟨by first | rfl | (simp [errW_none, errW_some] <;> rfl) | (simp [*, errW_none, errW_some] <;> rfl), by repeat (first | (with_reducible first | exact HB.out | apply below_alloc | apply pw_below_drewN | apply below_drew1 | refine below_set ?_ GE182.out) | exact HB.out)⟩
              · rw [if_neg c57] at H
                have c57b0 : (a0_0 == 8) = false := beq_eq_false_iff_ne.mpr c57
                have c57b1 : (a0_0 != 8) = true := bne_iff_ne.mpr c57
                obtain rfl := Option.some.inj H
                go_enter Tryd.func27, Tryd.ntmps27
                go_wp2_with (first | ((with_reducible refine gate_dst (N := 1) rfl ?_); refine box_event ?hg (N := 1) ?hd (cs := #[.int .i64 a0_0, .int .i64 a0_1, .int .i64 a0_2, .slice A0_3 l0_3.length c0_3, .string a0_4, .int .i64 a0_5, .int .i64 a0_6, .int .i64 a0_7]) (t := 39) ?hr ?_; (case hd => rfl); (case hg => rfl); (case hr => first | (go_simp; done) | (go_simp; rfl)); intro gb182 hg w60 hbox hb; have n0_ := Aside0.mk (below_step (by repeat (first | (with_reducible first | exact HB.out | apply below_alloc | apply pw_below_drewN | apply below_drew1) | exact HB.out)) hb); have n1_ := Aside0.mk (hbox); have n2_ := Aside0.mk ((by rw [hg]; exact (below_size (by repeat (first | (with_reducible first | exact HB.out | apply below_alloc | apply pw_below_drewN | apply below_drew1) | exact HB.out))) : w.heap.size ≤ gb182)); have n3_ := Aside0.mk ((by rw [hg]; exact (below_size (by repeat (first | (with_reducible first | exact HB.out | apply below_alloc | apply pw_below_drewN | apply below_drew1) | exact HB.out))) : w.heap.size ≤ gb182)); clear HB; have HB := n0_; have BK182 := n1_; have GW182 := n2_; have GE182 := n3_; clear n0_ n1_ n2_ n3_; clear hb hbox hg; have hcz61_0 : w60.cell? ⟨gb182, 0, none⟩ = some (.int .i64 a0_0) := (blk_cell BK182.out 0).trans rfl; have hcz61_1 : w60.cell? ⟨gb182, 1, none⟩ = some (.int .i64 a0_1) := (blk_cell BK182.out 1).trans rfl; have hcz61_2 : w60.cell? ⟨gb182, 2, none⟩ = some (.int .i64 a0_2) := (blk_cell BK182.out 2).trans rfl; have hcz61_3 : w60.cell? ⟨gb182, 3, none⟩ = some (.slice A0_3 l0_3.length c0_3) := (blk_cell BK182.out 3).trans rfl; have hcz61_4 : w60.cell? ⟨gb182, 4, none⟩ = some (.string a0_4) := (blk_cell BK182.out 4).trans rfl; have hcz61_5 : w60.cell? ⟨gb182, 5, none⟩ = some (.int .i64 a0_5) := (blk_cell BK182.out 5).trans rfl; have hcz61_6 : w60.cell? ⟨gb182, 6, none⟩ = some (.int .i64 a0_6) := (blk_cell BK182.out 6).trans rfl; have hcz61_7 : w60.cell? ⟨gb182, 7, none⟩ = some (.int .i64 a0_7) := (blk_cell BK182.out 7).trans rfl; have hfz61_0 := blk_frozen BK182.out 0; have hfz61_1 := blk_frozen BK182.out 1; have hfz61_2 := blk_frozen BK182.out 2; have hfz61_3 := blk_frozen BK182.out 3; have hfz61_4 := blk_frozen BK182.out 4; have hfz61_5 := blk_frozen BK182.out 5; have hfz61_6 := blk_frozen BK182.out 6; have hfz61_7 := blk_frozen BK182.out 7))
                go_ret
                exact ⟨by first | rfl | (simp [errW_none, errW_some] <;> rfl) | (simp [*, errW_none, errW_some] <;> rfl), by repeat (first | (with_reducible first | exact HB.out | apply below_alloc | apply pw_below_drewN | apply below_drew1 | refine below_set ?_ GE182.out) | exact HB.out)⟩
            · rw [if_neg c56] at H
              have c56b0 : (a0_6 == 0) = false := beq_eq_false_iff_ne.mpr c56
              have c56b1 : (a0_6 != 0) = true := bne_iff_ne.mpr c56
              obtain rfl := Option.some.inj H
              go_enter Tryd.func27, Tryd.ntmps27
              go_wp2_with (first | ((with_reducible refine gate_dst (N := 1) rfl ?_); refine box_event ?hg (N := 1) ?hd (cs := #[.int .i64 a0_0, .int .i64 a0_1, .int .i64 a0_2, .slice A0_3 l0_3.length c0_3, .string a0_4, .int .i64 a0_5, .int .i64 a0_6, .int .i64 a0_7]) (t := 39) ?hr ?_; (case hd => rfl); (case hg => rfl); (case hr => first | (go_simp; done) | (go_simp; rfl)); intro gb182 hg w62 hbox hb; have n0_ := Aside0.mk (below_step (by repeat (first | (with_reducible first | exact HB.out | apply below_alloc | apply pw_below_drewN | apply below_drew1) | exact HB.out)) hb); have n1_ := Aside0.mk (hbox); have n2_ := Aside0.mk ((by rw [hg]; exact (below_size (by repeat (first | (with_reducible first | exact HB.out | apply below_alloc | apply pw_below_drewN | apply below_drew1) | exact HB.out))) : w.heap.size ≤ gb182)); have n3_ := Aside0.mk ((by rw [hg]; exact (below_size (by repeat (first | (with_reducible first | exact HB.out | apply below_alloc | apply pw_below_drewN | apply below_drew1) | exact HB.out))) : w.heap.size ≤ gb182)); clear HB; have HB := n0_; have BK182 := n1_; have GW182 := n2_; have GE182 := n3_; clear n0_ n1_ n2_ n3_; clear hb hbox hg; have hcz63_0 : w62.cell? ⟨gb182, 0, none⟩ = some (.int .i64 a0_0) := (blk_cell BK182.out 0).trans rfl; have hcz63_1 : w62.cell? ⟨gb182, 1, none⟩ = some (.int .i64 a0_1) := (blk_cell BK182.out 1).trans rfl; have hcz63_2 : w62.cell? ⟨gb182, 2, none⟩ = some (.int .i64 a0_2) := (blk_cell BK182.out 2).trans rfl; have hcz63_3 : w62.cell? ⟨gb182, 3, none⟩ = some (.slice A0_3 l0_3.length c0_3) := (blk_cell BK182.out 3).trans rfl; have hcz63_4 : w62.cell? ⟨gb182, 4, none⟩ = some (.string a0_4) := (blk_cell BK182.out 4).trans rfl; have hcz63_5 : w62.cell? ⟨gb182, 5, none⟩ = some (.int .i64 a0_5) := (blk_cell BK182.out 5).trans rfl; have hcz63_6 : w62.cell? ⟨gb182, 6, none⟩ = some (.int .i64 a0_6) := (blk_cell BK182.out 6).trans rfl; have hcz63_7 : w62.cell? ⟨gb182, 7, none⟩ = some (.int .i64 a0_7) := (blk_cell BK182.out 7).trans rfl; have hfz63_0 := blk_frozen BK182.out 0; have hfz63_1 := blk_frozen BK182.out 1; have hfz63_2 := blk_frozen BK182.out 2; have hfz63_3 := blk_frozen BK182.out 3; have hfz63_4 := blk_frozen BK182.out 4; have hfz63_5 := blk_frozen BK182.out 5; have hfz63_6 := blk_frozen BK182.out 6; have hfz63_7 := blk_frozen BK182.out 7))
              go_ret
              exact ⟨by first | rfl | (simp [errW_none, errW_some] <;> rfl) | (simp [*, errW_none, errW_some] <;> rfl), by repeat (first | (with_reducible first | exact HB.out | apply below_alloc | apply pw_below_drewN | apply below_drew1 | refine below_set ?_ GE182.out) | exact HB.out)⟩
          · rw [if_neg c55] at H
            have c55b0 : (a0_5 == 0) = false := beq_eq_false_iff_ne.mpr c55
            have c55b1 : (a0_5 != 0) = true := bne_iff_ne.mpr c55
            obtain rfl := Option.some.inj H
            go_enter Tryd.func27, Tryd.ntmps27
            go_wp2_with (first | ((with_reducible refine gate_dst (N := 1) rfl ?_); refine box_event ?hg (N := 1) ?hd (cs := #[.int .i64 a0_0, .int .i64 a0_1, .int .i64 a0_2, .slice A0_3 l0_3.length c0_3, .string a0_4, .int .i64 a0_5, .int .i64 a0_6, .int .i64 a0_7]) (t := 39) ?hr ?_; (case hd => rfl); (case hg => rfl); (case hr => first | (go_simp; done) | (go_simp; rfl)); intro gb182 hg w64 hbox hb; have n0_ := Aside0.mk (below_step (by repeat (first | (with_reducible first | exact HB.out | apply below_alloc | apply pw_below_drewN | apply below_drew1) | exact HB.out)) hb); have n1_ := Aside0.mk (hbox); have n2_ := Aside0.mk ((by rw [hg]; exact (below_size (by repeat (first | (with_reducible first | exact HB.out | apply below_alloc | apply pw_below_drewN | apply below_drew1) | exact HB.out))) : w.heap.size ≤ gb182)); have n3_ := Aside0.mk ((by rw [hg]; exact (below_size (by repeat (first | (with_reducible first | exact HB.out | apply below_alloc | apply pw_below_drewN | apply below_drew1) | exact HB.out))) : w.heap.size ≤ gb182)); clear HB; have HB := n0_; have BK182 := n1_; have GW182 := n2_; have GE182 := n3_; clear n0_ n1_ n2_ n3_; clear hb hbox hg; have hcz65_0 : w64.cell? ⟨gb182, 0, none⟩ = some (.int .i64 a0_0) := (blk_cell BK182.out 0).trans rfl; have hcz65_1 : w64.cell? ⟨gb182, 1, none⟩ = some (.int .i64 a0_1) := (blk_cell BK182.out 1).trans rfl; have hcz65_2 : w64.cell? ⟨gb182, 2, none⟩ = some (.int .i64 a0_2) := (blk_cell BK182.out 2).trans rfl; have hcz65_3 : w64.cell? ⟨gb182, 3, none⟩ = some (.slice A0_3 l0_3.length c0_3) := (blk_cell BK182.out 3).trans rfl; have hcz65_4 : w64.cell? ⟨gb182, 4, none⟩ = some (.string a0_4) := (blk_cell BK182.out 4).trans rfl; have hcz65_5 : w64.cell? ⟨gb182, 5, none⟩ = some (.int .i64 a0_5) := (blk_cell BK182.out 5).trans rfl; have hcz65_6 : w64.cell? ⟨gb182, 6, none⟩ = some (.int .i64 a0_6) := (blk_cell BK182.out 6).trans rfl; have hcz65_7 : w64.cell? ⟨gb182, 7, none⟩ = some (.int .i64 a0_7) := (blk_cell BK182.out 7).trans rfl; have hfz65_0 := blk_frozen BK182.out 0; have hfz65_1 := blk_frozen BK182.out 1; have hfz65_2 := blk_frozen BK182.out 2; have hfz65_3 := blk_frozen BK182.out 3; have hfz65_4 := blk_frozen BK182.out 4; have hfz65_5 := blk_frozen BK182.out 5; have hfz65_6 := blk_frozen BK182.out 6; have hfz65_7 := blk_frozen BK182.out 7))
            go_ret
            exact ⟨by first | rfl | (simp [errW_none, errW_some] <;> rfl) | (simp [*, errW_none, errW_some] <;> rfl), by repeat (first | (with_reducible first | exact HB.out | apply below_alloc | apply pw_below_drewN | apply below_drew1 | refine below_set ?_ GE182.out) | exact HB.out)⟩
        · rw [if_neg c54] at H
          have c54b0 : (a0_4.toList == ([] : List UInt8)) = false := beq_eq_false_iff_ne.mpr c54
          have c54b1 : (a0_4.toList != ([] : List UInt8)) = true := bne_iff_ne.mpr c54
          obtain rfl := Option.some.inj H
          go_enter Tryd.func27, Tryd.ntmps27
          go_wp2_with (first | ((with_reducible refine gate_dst (N := 1) rfl ?_); refine box_event ?hg (N := 1) ?hd (cs := #[.int .i64 a0_0, .int .i64 a0_1, .int .i64 a0_2, .slice A0_3 l0_3.length c0_3, .string a0_4, .int .i64 a0_5, .int .i64 a0_6, .int .i64 a0_7]) (t := 39) ?hr ?_; (case hd => rfl); (case hg => rfl); (case hr => first | (go_simp; done) | (go_simp; rfl)); intro gb182 hg w66 hbox hb; have n0_ := Aside0.mk (below_step (by repeat (first | (with_reducible first | exact HB.out | apply below_alloc | apply pw_below_drewN | apply below_drew1) | exact HB.out)) hb); have n1_ := Aside0.mk (hbox); have n2_ := Aside0.mk ((by rw [hg]; exact (below_size (by repeat (first | (with_reducible first | exact HB.out | apply below_alloc | apply pw_below_drewN | apply below_drew1) | exact HB.out))) : w.heap.size ≤ gb182)); have n3_ := Aside0.mk ((by rw [hg]; exact (below_size (by repeat (first | (with_reducible first | exact HB.out | apply below_alloc | apply pw_below_drewN | apply below_drew1) | exact HB.out))) : w.heap.size ≤ gb182)); clear HB; have HB := n0_; have BK182 := n1_; have GW182 := n2_; have GE182 := n3_; clear n0_ n1_ n2_ n3_; clear hb hbox hg; have hcz67_0 : w66.cell? ⟨gb182, 0, none⟩ = some (.int .i64 a0_0) := (blk_cell BK182.out 0).trans rfl; have hcz67_1 : w66.cell? ⟨gb182, 1, none⟩ = some (.int .i64 a0_1) := (blk_cell BK182.out 1).trans rfl; have hcz67_2 : w66.cell? ⟨gb182, 2, none⟩ = some (.int .i64 a0_2) := (blk_cell BK182.out 2).trans rfl; have hcz67_3 : w66.cell? ⟨gb182, 3, none⟩ = some (.slice A0_3 l0_3.length c0_3) := (blk_cell BK182.out 3).trans rfl; have hcz67_4 : w66.cell? ⟨gb182, 4, none⟩ = some (.string a0_4) := (blk_cell BK182.out 4).trans rfl; have hcz67_5 : w66.cell? ⟨gb182, 5, none⟩ = some (.int .i64 a0_5) := (blk_cell BK182.out 5).trans rfl; have hcz67_6 : w66.cell? ⟨gb182, 6, none⟩ = some (.int .i64 a0_6) := (blk_cell BK182.out 6).trans rfl; have hcz67_7 : w66.cell? ⟨gb182, 7, none⟩ = some (.int .i64 a0_7) := (blk_cell BK182.out 7).trans rfl; have hfz67_0 := blk_frozen BK182.out 0; have hfz67_1 := blk_frozen BK182.out 1; have hfz67_2 := blk_frozen BK182.out 2; have hfz67_3 := blk_frozen BK182.out 3; have hfz67_4 := blk_frozen BK182.out 4; have hfz67_5 := blk_frozen BK182.out 5; have hfz67_6 := blk_frozen BK182.out 6; have hfz67_7 := blk_frozen BK182.out 7))
          go_ret
          exact ⟨by first | rfl | (simp [errW_none, errW_some] <;> rfl) | (simp [*, errW_none, errW_some] <;> rfl), by repeat (first | (with_reducible first | exact HB.out | apply below_alloc | apply pw_below_drewN | apply below_drew1 | refine below_set ?_ GE182.out) | exact HB.out)⟩
    · rw [if_neg c41] at H
      have c41b0 : (a0_1 == 0) = false := beq_eq_false_iff_ne.mpr c41
      have c41b1 : (a0_1 != 0) = true := bne_iff_ne.mpr c41
      obtain rfl := Option.some.inj H
      go_enter Tryd.func27, Tryd.ntmps27
      go_wp2_with (first | ((with_reducible refine gate_dst (N := 1) rfl ?_); refine box_event ?hg (N := 1) ?hd (cs := #[.int .i64 a0_0, .int .i64 a0_1, .int .i64 a0_2, .slice A0_3 l0_3.length c0_3, .string a0_4, .int .i64 a0_5, .int .i64 a0_6, .int .i64 a0_7]) (t := 39) ?hr ?_; (case hd => rfl); (case hg => rfl); (case hr => first | (go_simp; done) | (go_simp; rfl)); intro gb182 hg w68 hbox hb; have n0_ := Aside0.mk (below_step (by repeat (first | (with_reducible first | exact HB.out | apply below_alloc | apply pw_below_drewN | apply below_drew1) | exact HB.out)) hb); have n1_ := Aside0.mk (hbox); have n2_ := Aside0.mk ((by rw [hg]; exact (below_size (by repeat (first | (with_reducible first | exact HB.out | apply below_alloc | apply pw_below_drewN | apply below_drew1) | exact HB.out))) : w.heap.size ≤ gb182)); have n3_ := Aside0.mk ((by rw [hg]; exact (below_size (by repeat (first | (with_reducible first | exact HB.out | apply below_alloc | apply pw_below_drewN | apply below_drew1) | exact HB.out))) : w.heap.size ≤ gb182)); clear HB; have HB := n0_; have BK182 := n1_; have GW182 := n2_; have GE182 := n3_; clear n0_ n1_ n2_ n3_; clear hb hbox hg; have hcz69_0 : w68.cell? ⟨gb182, 0, none⟩ = some (.int .i64 a0_0) := (blk_cell BK182.out 0).trans rfl; have hcz69_1 : w68.cell? ⟨gb182, 1, none⟩ = some (.int .i64 a0_1) := (blk_cell BK182.out 1).trans rfl; have hcz69_2 : w68.cell? ⟨gb182, 2, none⟩ = some (.int .i64 a0_2) := (blk_cell BK182.out 2).trans rfl; have hcz69_3 : w68.cell? ⟨gb182, 3, none⟩ = some (.slice A0_3 l0_3.length c0_3) := (blk_cell BK182.out 3).trans rfl; have hcz69_4 : w68.cell? ⟨gb182, 4, none⟩ = some (.string a0_4) := (blk_cell BK182.out 4).trans rfl; have hcz69_5 : w68.cell? ⟨gb182, 5, none⟩ = some (.int .i64 a0_5) := (blk_cell BK182.out 5).trans rfl; have hcz69_6 : w68.cell? ⟨gb182, 6, none⟩ = some (.int .i64 a0_6) := (blk_cell BK182.out 6).trans rfl; have hcz69_7 : w68.cell? ⟨gb182, 7, none⟩ = some (.int .i64 a0_7) := (blk_cell BK182.out 7).trans rfl; have hfz69_0 := blk_frozen BK182.out 0; have hfz69_1 := blk_frozen BK182.out 1; have hfz69_2 := blk_frozen BK182.out 2; have hfz69_3 := blk_frozen BK182.out 3; have hfz69_4 := blk_frozen BK182.out 4; have hfz69_5 := blk_frozen BK182.out 5; have hfz69_6 := blk_frozen BK182.out 6; have hfz69_7 := blk_frozen BK182.out 7))
      go_ret
      exact ⟨by first | rfl | (simp [errW_none, errW_some] <;> rfl) | (simp [*, errW_none, errW_some] <;> rfl), by repeat (first | (with_reducible first | exact HB.out | apply below_alloc | apply pw_below_drewN | apply below_drew1 | refine below_set ?_ GE182.out) | exact HB.out)⟩
end Go.Proofs.YtonnmkhmhndalaaDoor
end
section
namespace Go.Proofs.YtonnmkhmhndalaaDoor
set_option linter.unusedVariables false
set_option linter.unusedSimpArgs false
open Go.RowKit Go.Proofs.YtonnmkhmhndalaaDoorW.PrintWords Go.Proofs.YtonnmkhmhndalaaDoorW.PrintLast Go.Proofs.YtonnmkhmhndalaaDoorW.PrintMore
theorem zero_f (x : S39) : silkwormref09_zero.f x.f0 x.f1 x.f2 x.f3 x.f4 x.f5 x.f6 x.f7 = some (zeroB x) := by
  unfold silkwormref09_zero.f zeroB
  by_cases h3 : x.f0 = 3 <;> by_cases h1 : x.f0 = 1 <;> by_cases h8 : x.f0 = 8 <;> by_cases h4 : x.f1 = 4 <;> by_cases h0 : x.f1 = 0 <;> by_cases h5 : x.f5 = 0 <;> by_cases h6 : x.f6 = 0 <;> by_cases hv : x.f4.toList = [] <;> simp [*] <;> first | omega | rfl | skip
end Go.Proofs.YtonnmkhmhndalaaDoor
end
section
namespace Go.Proofs.YtonnmkhmhndalaaDoor
set_option linter.unusedVariables false
set_option linter.unusedSimpArgs false
open Go.RowKit Go.Proofs.YtonnmkhmhndalaaDoorW.PrintWords Go.Proofs.YtonnmkhmhndalaaDoorW.PrintLast Go.Proofs.YtonnmkhmhndalaaDoorW.PrintMore
def opR (op hi lo : Int) (ws : List Int) : Int :=
  if op = 7 ∨ op = 9 then (if ws.length = 1 then ws.getD 0 0 else -1)
  else if op = 8 ∨ op = 10 ∨ op = 11 ∨ op = 12 then (if ws.length = 1 then 1 else -1)
  else if op = 13 ∨ op = 14 ∨ op = 23 ∨ op = 25 ∨ op = 24 then (if ws.length = 2 ∧ ws.getD 0 0 = ws.getD 1 0 then ws.getD 0 0 else -1)
  else if op = 15 ∨ op = 16 then (if ws.length = 2 then ws.getD 0 0 else -1)
  else if op = 17 ∨ op = 18 ∨ op = 19 ∨ op = 20 ∨ op = 21 ∨ op = 22 then (if ws.length = 2 ∧ ws.getD 0 0 = ws.getD 1 0 then 1 else -1)
  else if op = 26 ∨ op = 27 ∨ op = 3 then (if ws.length = 2 then 1 else -1)
  else if op = 6 then (if ws.length = 3 ∧ ws.getD 1 0 = ws.getD 2 0 then ws.getD 1 0 else -1)
  else if op = 4 then (if ws.length = 1 ∧ 0 ≤ lo ∧ lo ≤ hi ∧ hi < ws.getD 0 0 then hi - lo + 1 else -1)
  else if op = 5 then (if 1 ≤ ws.length ∧ ws.length ≤ 256 then ws.sum else -1)
  else -1
theorem opR_opW (op hi lo wd : Int) (ws : List Int) (hw : ∀ a ∈ ws, 1 ≤ a ∧ a ≤ 256) (h1 : 1 ≤ wd) (h2 : wd ≤ 256) : decide (opR op hi lo ws = wd) = decide (opW op hi lo ws = wd) := by
  have hs := sum_bd ws hw
  have key : opR op hi lo ws = opW op hi lo ws ∨ (opR op hi lo ws = -1 ∧ (opW op hi lo ws ≤ 0 ∨ 256 < opW op hi lo ws)) := by
    unfold opR opW isI
    have hop : op < 3 ∨ op = 3 ∨ op = 4 ∨ op = 5 ∨ op = 6 ∨ op = 7 ∨ op = 8 ∨ op = 9 ∨ op = 10 ∨ op = 11 ∨ op = 12 ∨ op = 13 ∨ op = 14 ∨ op = 15 ∨ op = 16 ∨ op = 17 ∨ op = 18 ∨ op = 19 ∨ op = 20 ∨ op = 21 ∨ op = 22 ∨ op = 23 ∨ op = 24 ∨ op = 25 ∨ op = 26 ∨ op = 27 ∨ 27 < op := by omega
    generalize ws.getD 0 0 = a0 at *
    generalize ws.getD 1 0 = a1 at *
    generalize ws.getD 2 0 = a2 at *
    generalize ws.sum = S at *
    generalize ws.length = N at *
    rcases hop with h | rfl | rfl | rfl | rfl | rfl | rfl | rfl | rfl | rfl | rfl | rfl | rfl | rfl | rfl | rfl | rfl | rfl | rfl | rfl | rfl | rfl | rfl | rfl | rfl | rfl | h
    case inl => right; simp [show ¬ op = 7 by omega, show ¬ op = 8 by omega, show ¬ op = 10 by omega, show ¬ op = 11 by omega, show ¬ op = 12 by omega, show ¬ op = 9 by omega, show ¬ 7 ≤ op by omega, show ¬ op = 15 by omega, show ¬ op = 16 by omega, show ¬ op = 13 by omega, show ¬ op = 14 by omega, show ¬ op = 23 by omega, show ¬ op = 24 by omega, show ¬ op = 25 by omega, show ¬ 17 ≤ op by omega, show ¬ op = 17 by omega, show ¬ op = 18 by omega, show ¬ op = 19 by omega, show ¬ op = 20 by omega, show ¬ op = 21 by omega, show ¬ op = 22 by omega, show ¬ op = 26 by omega, show ¬ op = 27 by omega, show ¬ op = 3 by omega, show ¬ op = 4 by omega, show ¬ op = 5 by omega, show ¬ op = 6 by omega]
    case inr.inr.inr.inr.inr.inr.inr.inr.inr.inr.inr.inr.inr.inr.inr.inr.inr.inr.inr.inr.inr.inr.inr.inr.inr.inr => right; simp [show ¬ op = 7 by omega, show ¬ op = 8 by omega, show ¬ op = 10 by omega, show ¬ op = 11 by omega, show ¬ op = 12 by omega, show ¬ op = 9 by omega, show ¬ op ≤ 12 by omega, show ¬ op = 15 by omega, show ¬ op = 16 by omega, show ¬ op = 13 by omega, show ¬ op = 14 by omega, show ¬ op = 23 by omega, show ¬ op = 24 by omega, show ¬ op = 25 by omega, show ¬ op ≤ 22 by omega, show ¬ op = 17 by omega, show ¬ op = 18 by omega, show ¬ op = 19 by omega, show ¬ op = 20 by omega, show ¬ op = 21 by omega, show ¬ op = 22 by omega, show ¬ op = 26 by omega, show ¬ op = 27 by omega, show ¬ op = 3 by omega, show ¬ op = 4 by omega, show ¬ op = 5 by omega, show ¬ op = 6 by omega]
    all_goals
      simp
      try first | omega | (split <;> first | omega | simp_all) | skip
  by_cases e : opR op hi lo ws = wd
  · rw [decide_eq_true e, decide_eq_true (by omega)]
  · rw [decide_eq_false e, decide_eq_false (by omega)]
theorem C_int1 {W : World} {b : Nat} {a : Int} (h : W.cell? ⟨b, 0, none⟩ = some (.int .i64 a)) : Kd.C (Kd.int .i64) W (some ⟨b, 0, none⟩) 1 [a] := by
  refine ⟨rfl, by decide, fun _ => ⟨_, rfl, fun j p hj => ?_⟩⟩
  cases j with
  | zero =>
    injection hj with hj
    subst hj
    refine ⟨_, rfl, rfl, fun i u hu => ?_⟩
    match i, hu with
    | 0, hu => injection hu with hu; subst hu; exact h
  | succ j => cases hj
set_option maxRecDepth 100000 in
set_option maxHeartbeats 4000000 in
theorem oper_any (x : NL) (A : Option Addr) (c : Nat) (B : Option Addr) (d : Nat) (y : S39) (A3 : Option Addr) (c3 : Nat) (w : World) (hI : NIn w x A c B d) (hC : Kd.C (Kd.int .i64) w A3 y.f3.length y.f3) (hc : y.f3.length ≤ c3) (hY : YOk x y) :
    Calls Tryd.prog 49 #[nlV x A c B d, ndV y A3 c3] w fun e w' => e = .returned (.int .i64 (opR y.f1 y.f5 y.f6 (wsOf x.nd y))) ∧ Below w.heap.size w w' := by
  have HI := Lib.hid hI
  have HC := Lib.hid hC
  have HY := Lib.hid hY
  obtain ⟨ws, hws⟩ : ∃ ws, wsOf x.nd y = ws := ⟨_, rfl⟩
  have hwb : ∀ a ∈ ws, 1 ≤ a ∧ a ≤ 256 := by rw [← hws]; exact hY.ws
  have hwl : ws.length = y.f3.length := by rw [← hws]; exact wsOf_len x y
  have HWs := Lib.hid hws
  have HWb := Lib.hid hwb
  have HWl := Lib.hid hwl
  rw [hws]
  clear hI hC hY hws hwb hwl
  go_enter Tryd.func49, Tryd.ntmps49
  go_upto_region 1 with fail
  obtain ⟨W0, hW0⟩ : ∃ W, w.alloc (Obj.cells #[.slice A x.nd.length c, .slice B x.nt.length d, .int .i64 x.pt] 25) = W := ⟨_, rfl⟩
  rw [hW0]
  obtain ⟨hx0, hb0, hz0⟩ := box_list hW0
  obtain ⟨W1, hW1⟩ : ∃ W, W0.alloc (Obj.cells #[Value.int IntKind.i64 y.f0, Value.int IntKind.i64 y.f1, Value.int IntKind.i64 y.f2, Value.slice A3 y.f3.length c3, Value.string y.f4, Value.int IntKind.i64 y.f5, Value.int IntKind.i64 y.f6, Value.int IntKind.i64 y.f7] 39) = W := ⟨_, rfl⟩
  rw [hW1]
  obtain ⟨hn1, hb1⟩ := box_node (Kd.C_below HC.out hb0) hW1
  have hx1 := hx0.below hb1
  rw [hz0] at hn1
  have k3 := hn1.k3
  have hz1 : W1.heap.size = w.heap.size + 2 := by rw [← hW1]; simp; omega
  have HX1 := Lib.hid hx1
  have HN1 := Lib.hid hn1
  have HB1 := Lib.hid (hb0.trans (hb1.mono (by omega)))
  have HZ0 := Lib.hid hz0
  have HZ1 := Lib.hid hz1
  clear hx0 hb0 hz0 hb1 hn1 hx1 hz1 hW0 hW1
  obtain ⟨m, hm⟩ : ∃ m, y.f3.length = m := ⟨_, rfl⟩
  have HM := Lib.hid hm
  clear hm
  go_wp2_with fail
  clear k3
  have hml : m * 8 ≤ 140737488355328 := by rw [← HM.out]; exact HY.out.l
  go_loopw [5, 6, 7] (fun v5 v6 v7 wx => ∃ i : Nat, v7 = .int .i64 i ∧ i ≤ m ∧ v6 = .int .i64 (ws.take i).sum ∧ Hid (Kd.R (Kd.int .i64) 3 wx W1.heap.size (fun _ => True) v5 (ws.take i)) ∧ Hid (Below W1.heap.size W1 wx)) (fun _ _ v7 _ => m - (intOf v7).toNat)
  case atStart => exact ⟨0, rfl, Nat.zero_le _, by rw [List.take_zero]; rfl, Lib.hid (by rw [List.take_zero]; exact Kd.R_nil _ _ _ _ _), Lib.hid (Below.refl _ _)⟩
  case round =>
    obtain ⟨i, rfl, hi, rfl, HRx, HBx⟩ := hrel
    by_cases hlt : i < m
    · have hi3 : i < y.f3.length := by rw [HM.out]; exact hlt
      have hBw : Below w.heap.size w wr := HB1.out.trans (HBx.out.mono (by have := HZ1.out; omega))
      obtain ⟨b6, o6, hA6, g6, -⟩ := ints_at (Kd.C_below HC.out hBw) i hi3
      have hmem : y.f3.getD i 0 ∈ y.f3 := by rw [List.getD_eq_getElem?_getD, List.getElem?_eq_getElem hi3]; exact List.getElem_mem _
      have hin := HY.out.i _ hmem
      obtain ⟨a, ha⟩ : ∃ a : Nat, y.f3.getD i 0 = (a : Int) := ⟨(y.f3.getD i 0).toNat, by omega⟩
      have han : a < x.nd.length := by rw [ha] at hin; omega
      rw [ha] at g6
      subst hA6
      obtain ⟨b, o, A4, c4, hA, hl4, hbs, hND⟩ := nodes_in HI.out.h0 a han
      subst hA
      have k2 := (hND _ hBw).k2
      have k3b := (HN1.out.below HBx.out).k3
      rw [HM.out] at k3b
      have q0 := (HX1.out.belowB HBx.out (by have := HZ1.out; omega)).k0
      have hii : i < ws.length := by rw [HWl.out]; exact hi3
      have htk : ws.take (i + 1) = ws.take i ++ [(x.nd.getD a z39).f2] := by
        rw [List.take_succ_eq_append_getElem hii]
        congr 2
        have e1 : ws[i] = wAt x.nd (y.f3.getD i 0) := by
          have : ws[i]? = some (wAt x.nd y.f3[i]) := by
            rw [← HWs.out]
            unfold wsOf
            rw [List.getElem?_map, List.getElem?_eq_getElem hi3]
            rfl
          rw [List.getElem?_eq_getElem hii] at this
          rw [Option.some.inj this, List.getD_eq_getElem?_getD, List.getElem?_eq_getElem hi3]
          rfl
        rw [e1, ha]
        unfold wAt
        rw [Int.toNat_natCast]
      obtain ⟨Av, cv, rfl⟩ := Kd.R_slice HRx.out
      have htl : (ws.take i).length ≤ i := List.length_take_le _ _
      have hsb := sum_bd (ws.take (i + 1)) (fun a ha => HWb.out a (List.mem_of_mem_take ha))
      have hsb0 := sum_bd (ws.take i) (fun a ha => HWb.out a (List.mem_of_mem_take ha))
      have hwsum := sum_append1 (ws.take i) (x.nd.getD a z39).f2
      rw [← htk] at hwsum
      have htl1 : (ws.take (i + 1)).length ≤ i + 1 := List.length_take_le _ _
      generalize (x.nd.getD a z39).f2 = wa at *
      have hlen1 : (ws.take i).length = i := by rw [List.length_take]; omega
      obtain ⟨wi, hwi⟩ : ∃ wi, ws.take i = wi := ⟨_, rfl⟩
      rw [hwi] at hsb0 hwsum htl htk hlen1 HRx
      rw [hwi]
      obtain ⟨S, hS⟩ : ∃ S, wi.sum = S := ⟨_, rfl⟩
      rw [hS]
      rw [hS] at hsb0 hwsum
      have hsumb : 0 ≤ S ∧ S ≤ 4503599627370496 ∧ 0 ≤ S + wa ∧ S + wa ≤ 4503599627370496 := by omega
      obtain ⟨hs1, hs2, hs3, hs4⟩ := hsumb
      have HLen := Lib.hid hlen1
      have HSum := Lib.hid hwsum
      clear hlen1 hwsum hsb hsb0 htl1 hwi hS
      have HTk := Lib.hid htk
      have HTl := Lib.hid htl
      have HMl := Lib.hid hml
      have HBw := Lib.hid hBw
      have HLt := Lib.hid hlt
      clear hmem hin ha hND hbs hl4 hii htk htl hBw hi3
      have HK3 := Lib.hid k3b
      have nz1 : ¬ w.heap.size + 1 = wr.heap.size := by have := (HBx.out.size); have := HZ1.out; omega
      have nz2 : ¬ w.heap.size = wr.heap.size := by have := (HBx.out.size); have := HZ1.out; omega
      have nb6 : ¬ b6 = wr.heap.size := Nat.ne_of_lt (World.block_lt_of_cell? wr _ g6)
      have nb7 : ¬ b = wr.heap.size := Nat.ne_of_lt (World.block_lt_of_cell? wr _ k2)
      go_upto_region 6 with fail
      go_region_law (refine Kd.R_append_rows_step (Kd.int .i64) (w0 := (wr.alloc (Obj.cells #[Value.int IntKind.i64 wa] 3)).drew) W1.heap.size rfl (.tmp 16) (.tmp 27) 23 3 (.int .i64 0) 8 rfl Tryd.underlying23 info3 rfl (by decide) (by decide) (.slice Av wi.length cv) wi [wa] (some ⟨wr.heap.size, 0, none⟩) 1 1 (fun _ => True) (fun _ => False) rfl rfl ?aO ?aR (fun _ _ h => h) (fun _ hk => hk.elim) (fun _ _ => trivial) ?aB ?aS ?aL ?_; (case aR => exact C_int1 (by simp [go_sem])); (case aO => exact Kd.R_below HRx.out (by first | exact (below_alloc (Below.refl _ _) _).drew | exact below_alloc (Below.refl _ _).drew _)); (case aB => exact Below.refl _ _); (case aS => exact Nat.le_trans HBx.out.size (by simp)); (case aL => have := HTl.out; have := HLt.out; omega); intro v1 w9 ho hb hg hat; obtain ⟨A9, c9, he9⟩ := Kd.R_slice ho; subst he9; rw [show (wi ++ [wa]).length = wi.length + 1 from by simp] at ho hat; have HO := Lib.hid ho; have HBo := Lib.hid hb; clear ho hb hg hat)
      all_goals
        obtain ⟨g9, hA9, hcs9⟩ := row_at HO.out (by simp)
        subst hA9
        have r9 := hcs9 i (by rw [List.length_append, HLen.out]; exact Nat.lt_succ_self _)
        have eg : (wi ++ [wa]).getD i 0 = wa := by
          have hl := HLen.out
          rw [List.getD_eq_getElem?_getD, ← hl, List.getElem?_append_right (Nat.le_refl _), Nat.sub_self]
          rfl
        rw [eg] at r9
        have hiw : (i : Int) < (wi.length : Int) + 1 := by have := HLen.out; omega
        clear hcs9 eg nz1 nz2 nb6 nb7 g6 k2 q0 k3b
        go_wp2_with fail
        refine ⟨⟨i + 1, by simp, HLt.out, by rw [HSum.out], by rw [HTk.out]; exact HO, Lib.hid ?_⟩, by have := HLt.out; simp [intOf]; omega⟩
        exact (HBx.out.trans (((below_alloc (Below.refl _ _) _).drew).mono HBx.out.size)).trans HBo.out
    · obtain rfl : i = m := by omega
      have hNx := HN1.out.below HBx.out
      have HNx := Lib.hid hNx
      obtain ⟨k0, k1, k2, k3, k4, k5, k6, k7, -⟩ := HNx.out
      rw [HM.out] at k3
      have hR := HRx.out
      have hti : ws.take i = ws := by rw [List.take_of_length_le (by rw [HWl.out, HM.out]; exact Nat.le_refl _)]
      rw [hti] at hR
      rw [hti]
      obtain ⟨Av, cv, rfl⟩ := Kd.R_slice hR
      have HR := Lib.hid hR
      have HBe := Lib.hid (HB1.out.trans (HBx.out.mono (show w.heap.size ≤ W1.heap.size by have := HZ1.out; omega)))
      have hsw := sum_bd ws HWb.out
      have hwl : ws.length = i := by rw [HWl.out, HM.out]
      have HWs2 := Lib.hid hsw
      clear hR hti hNx hlt hi hwl hsw k0 k2 k4 k7
      have hkk : y.f1 = 7 ∨ y.f1 = 9 ∨ y.f1 = 8 ∨ y.f1 = 10 ∨ y.f1 = 11 ∨ y.f1 = 12 ∨ y.f1 = 13 ∨ y.f1 = 14 ∨ y.f1 = 23 ∨ y.f1 = 25 ∨ y.f1 = 24 ∨ y.f1 = 15 ∨ y.f1 = 16 ∨ y.f1 = 17 ∨ y.f1 = 18 ∨ y.f1 = 19 ∨ y.f1 = 20 ∨ y.f1 = 21 ∨ y.f1 = 22 ∨ y.f1 = 26 ∨ y.f1 = 27 ∨ y.f1 = 3 ∨ y.f1 = 6 ∨ y.f1 = 4 ∨ y.f1 = 5 ∨ (y.f1 ≠ 7 ∧ y.f1 ≠ 9 ∧ y.f1 ≠ 8 ∧ y.f1 ≠ 10 ∧ y.f1 ≠ 11 ∧ y.f1 ≠ 12 ∧ y.f1 ≠ 13 ∧ y.f1 ≠ 14 ∧ y.f1 ≠ 23 ∧ y.f1 ≠ 25 ∧ y.f1 ≠ 24 ∧ y.f1 ≠ 15 ∧ y.f1 ≠ 16 ∧ y.f1 ≠ 17 ∧ y.f1 ≠ 18 ∧ y.f1 ≠ 19 ∧ y.f1 ≠ 20 ∧ y.f1 ≠ 21 ∧ y.f1 ≠ 22 ∧ y.f1 ≠ 26 ∧ y.f1 ≠ 27 ∧ y.f1 ≠ 3 ∧ y.f1 ≠ 6 ∧ y.f1 ≠ 4 ∧ y.f1 ≠ 5) := by omega
      rcases hkk with hk | hk | hk | hk | hk | hk | hk | hk | hk | hk | hk | hk | hk | hk | hk | hk | hk | hk | hk | hk | hk | hk | hk | hk | hk | hk
      · have hnr : opR y.f1 y.f5 y.f6 ws = (if ws.length = 1 then ws.getD 0 0 else -1) := by unfold opR; rw [if_pos (by omega)]
        have HNr := Lib.hid hnr
        have e7 : (y.f1 == 7) = true := by rw [hk]; rfl
        clear hk hnr
        by_cases hl : ws.length = 1
        · have l0 : ((ws.length : Int) == 1) = true := by rw [hl]; rfl
          obtain ⟨g, hA, hcs⟩ := row_at HR.out (by omega)
          subst hA
          have w0 := hcs 0 (by omega)
          clear hcs
          have HL := Lib.hid hl
          have hlI : (ws.length : Int) = 1 := by omega
          clear hl
          generalize ws.getD 0 0 = x0 at *
          go_wp2_with fail
          go_ret
          exact ⟨by rw [HNr.out, if_pos HL.out]; try rfl, HBe.out⟩
        · have l0 : ((ws.length : Int) == 1) = false := beq_eq_false_iff_ne.mpr (by omega)
          have HL := Lib.hid hl
          clear hl
          go_wp2_with fail
          go_ret
          exact ⟨by rw [HNr.out, if_neg HL.out]; try rfl, HBe.out⟩
      · have hnr : opR y.f1 y.f5 y.f6 ws = (if ws.length = 1 then ws.getD 0 0 else -1) := by unfold opR; rw [if_pos (by omega)]
        have HNr := Lib.hid hnr
        have e7 : (y.f1 == 7) = false := by rw [hk]; rfl
        have e9 : (y.f1 == 9) = true := by rw [hk]; rfl
        clear hk hnr
        by_cases hl : ws.length = 1
        · have l0 : ((ws.length : Int) == 1) = true := by rw [hl]; rfl
          obtain ⟨g, hA, hcs⟩ := row_at HR.out (by omega)
          subst hA
          have w0 := hcs 0 (by omega)
          clear hcs
          have HL := Lib.hid hl
          have hlI : (ws.length : Int) = 1 := by omega
          clear hl
          generalize ws.getD 0 0 = x0 at *
          go_wp2_with fail
          go_ret
          exact ⟨by rw [HNr.out, if_pos HL.out]; try rfl, HBe.out⟩
        · have l0 : ((ws.length : Int) == 1) = false := beq_eq_false_iff_ne.mpr (by omega)
          have HL := Lib.hid hl
          clear hl
          go_wp2_with fail
          go_ret
          exact ⟨by rw [HNr.out, if_neg HL.out]; try rfl, HBe.out⟩
      · have hnr : opR y.f1 y.f5 y.f6 ws = (if ws.length = 1 then 1 else -1) := by unfold opR; rw [if_neg (by omega), if_pos (by omega)]
        have HNr := Lib.hid hnr
        have e7 : (y.f1 == 7) = false := by rw [hk]; rfl
        have e9 : (y.f1 == 9) = false := by rw [hk]; rfl
        have e8 : (y.f1 == 8) = true := by rw [hk]; rfl
        clear hk hnr
        by_cases hl : ws.length = 1
        · have l0 : ((ws.length : Int) == 1) = true := by rw [hl]; rfl
          have HL := Lib.hid hl
          have hlI : (ws.length : Int) = 1 := by omega
          clear hl
          go_wp2_with fail
          go_ret
          exact ⟨by rw [HNr.out, if_pos HL.out]; try rfl, HBe.out⟩
        · have l0 : ((ws.length : Int) == 1) = false := beq_eq_false_iff_ne.mpr (by omega)
          have HL := Lib.hid hl
          clear hl
          go_wp2_with fail
          go_ret
          exact ⟨by rw [HNr.out, if_neg HL.out]; try rfl, HBe.out⟩
      · have hnr : opR y.f1 y.f5 y.f6 ws = (if ws.length = 1 then 1 else -1) := by unfold opR; rw [if_neg (by omega), if_pos (by omega)]
        have HNr := Lib.hid hnr
        have e7 : (y.f1 == 7) = false := by rw [hk]; rfl
        have e9 : (y.f1 == 9) = false := by rw [hk]; rfl
        have e8 : (y.f1 == 8) = false := by rw [hk]; rfl
        have e10 : (y.f1 == 10) = true := by rw [hk]; rfl
        clear hk hnr
        by_cases hl : ws.length = 1
        · have l0 : ((ws.length : Int) == 1) = true := by rw [hl]; rfl
          have HL := Lib.hid hl
          have hlI : (ws.length : Int) = 1 := by omega
          clear hl
          go_wp2_with fail
          go_ret
          exact ⟨by rw [HNr.out, if_pos HL.out]; try rfl, HBe.out⟩
        · have l0 : ((ws.length : Int) == 1) = false := beq_eq_false_iff_ne.mpr (by omega)
          have HL := Lib.hid hl
          clear hl
          go_wp2_with fail
          go_ret
          exact ⟨by rw [HNr.out, if_neg HL.out]; try rfl, HBe.out⟩
      · have hnr : opR y.f1 y.f5 y.f6 ws = (if ws.length = 1 then 1 else -1) := by unfold opR; rw [if_neg (by omega), if_pos (by omega)]
        have HNr := Lib.hid hnr
        have e7 : (y.f1 == 7) = false := by rw [hk]; rfl
        have e9 : (y.f1 == 9) = false := by rw [hk]; rfl
        have e8 : (y.f1 == 8) = false := by rw [hk]; rfl
        have e10 : (y.f1 == 10) = false := by rw [hk]; rfl
        have e11 : (y.f1 == 11) = true := by rw [hk]; rfl
        clear hk hnr
        by_cases hl : ws.length = 1
        · have l0 : ((ws.length : Int) == 1) = true := by rw [hl]; rfl
          have HL := Lib.hid hl
          have hlI : (ws.length : Int) = 1 := by omega
          clear hl
          go_wp2_with fail
          go_ret
          exact ⟨by rw [HNr.out, if_pos HL.out]; try rfl, HBe.out⟩
        · have l0 : ((ws.length : Int) == 1) = false := beq_eq_false_iff_ne.mpr (by omega)
          have HL := Lib.hid hl
          clear hl
          go_wp2_with fail
          go_ret
          exact ⟨by rw [HNr.out, if_neg HL.out]; try rfl, HBe.out⟩
      · have hnr : opR y.f1 y.f5 y.f6 ws = (if ws.length = 1 then 1 else -1) := by unfold opR; rw [if_neg (by omega), if_pos (by omega)]
        have HNr := Lib.hid hnr
        have e7 : (y.f1 == 7) = false := by rw [hk]; rfl
        have e9 : (y.f1 == 9) = false := by rw [hk]; rfl
        have e8 : (y.f1 == 8) = false := by rw [hk]; rfl
        have e10 : (y.f1 == 10) = false := by rw [hk]; rfl
        have e11 : (y.f1 == 11) = false := by rw [hk]; rfl
        have e12 : (y.f1 == 12) = true := by rw [hk]; rfl
        clear hk hnr
        by_cases hl : ws.length = 1
        · have l0 : ((ws.length : Int) == 1) = true := by rw [hl]; rfl
          have HL := Lib.hid hl
          have hlI : (ws.length : Int) = 1 := by omega
          clear hl
          go_wp2_with fail
          go_ret
          exact ⟨by rw [HNr.out, if_pos HL.out]; try rfl, HBe.out⟩
        · have l0 : ((ws.length : Int) == 1) = false := beq_eq_false_iff_ne.mpr (by omega)
          have HL := Lib.hid hl
          clear hl
          go_wp2_with fail
          go_ret
          exact ⟨by rw [HNr.out, if_neg HL.out]; try rfl, HBe.out⟩
      · have hnr : opR y.f1 y.f5 y.f6 ws = (if ws.length = 2 ∧ ws.getD 0 0 = ws.getD 1 0 then ws.getD 0 0 else -1) := by unfold opR; rw [if_neg (by omega), if_neg (by omega), if_pos (by omega)]
        have HNr := Lib.hid hnr
        have e7 : (y.f1 == 7) = false := by rw [hk]; rfl
        have e9 : (y.f1 == 9) = false := by rw [hk]; rfl
        have e8 : (y.f1 == 8) = false := by rw [hk]; rfl
        have e10 : (y.f1 == 10) = false := by rw [hk]; rfl
        have e11 : (y.f1 == 11) = false := by rw [hk]; rfl
        have e12 : (y.f1 == 12) = false := by rw [hk]; rfl
        have e13 : (y.f1 == 13) = true := by rw [hk]; rfl
        clear hk hnr
        by_cases hl : ws.length = 2
        · have l0 : ((ws.length : Int) == 2) = true := by rw [hl]; rfl
          obtain ⟨g, hA, hcs⟩ := row_at HR.out (by omega)
          subst hA
          have w0 := hcs 0 (by omega)
          have w1 := hcs 1 (by omega)
          clear hcs
          have HL := Lib.hid hl
          have hlI : (ws.length : Int) = 2 := by omega
          clear hl
          generalize ws.getD 0 0 = x0 at *
          generalize ws.getD 1 0 = x1 at *
          by_cases ce : x0 = x1
          · have d1 : (x0 == x1) = true := beq_iff_eq.mpr ce
            have CE := Lib.hid ce
            clear ce
            go_upto_region 25 with fail
            go_region
            go_wp2_with fail
            go_ret
            exact ⟨by rw [HNr.out, if_pos ⟨HL.out, CE.out⟩]; try rfl, HBe.out.drew⟩
          · have d1 : (x0 == x1) = false := beq_eq_false_iff_ne.mpr ce
            have CE := Lib.hid ce
            clear ce
            go_upto_region 25 with fail
            go_region
            go_wp2_with fail
            go_ret
            exact ⟨by rw [HNr.out, if_neg (fun h => CE.out h.2)]; try rfl, HBe.out.drew⟩
        · have l0 : ((ws.length : Int) == 2) = false := beq_eq_false_iff_ne.mpr (by omega)
          have HL := Lib.hid hl
          clear hl
          go_upto_region 25 with fail
          go_region
          go_wp2_with fail
          go_ret
          exact ⟨by rw [HNr.out, if_neg (fun h => HL.out h.1)]; try rfl, HBe.out.drew⟩
      · have hnr : opR y.f1 y.f5 y.f6 ws = (if ws.length = 2 ∧ ws.getD 0 0 = ws.getD 1 0 then ws.getD 0 0 else -1) := by unfold opR; rw [if_neg (by omega), if_neg (by omega), if_pos (by omega)]
        have HNr := Lib.hid hnr
        have e7 : (y.f1 == 7) = false := by rw [hk]; rfl
        have e9 : (y.f1 == 9) = false := by rw [hk]; rfl
        have e8 : (y.f1 == 8) = false := by rw [hk]; rfl
        have e10 : (y.f1 == 10) = false := by rw [hk]; rfl
        have e11 : (y.f1 == 11) = false := by rw [hk]; rfl
        have e12 : (y.f1 == 12) = false := by rw [hk]; rfl
        have e13 : (y.f1 == 13) = false := by rw [hk]; rfl
        have e14 : (y.f1 == 14) = true := by rw [hk]; rfl
        clear hk hnr
        by_cases hl : ws.length = 2
        · have l0 : ((ws.length : Int) == 2) = true := by rw [hl]; rfl
          obtain ⟨g, hA, hcs⟩ := row_at HR.out (by omega)
          subst hA
          have w0 := hcs 0 (by omega)
          have w1 := hcs 1 (by omega)
          clear hcs
          have HL := Lib.hid hl
          have hlI : (ws.length : Int) = 2 := by omega
          clear hl
          generalize ws.getD 0 0 = x0 at *
          generalize ws.getD 1 0 = x1 at *
          by_cases ce : x0 = x1
          · have d1 : (x0 == x1) = true := beq_iff_eq.mpr ce
            have CE := Lib.hid ce
            clear ce
            go_upto_region 25 with fail
            go_region
            go_wp2_with fail
            go_ret
            exact ⟨by rw [HNr.out, if_pos ⟨HL.out, CE.out⟩]; try rfl, HBe.out.drew⟩
          · have d1 : (x0 == x1) = false := beq_eq_false_iff_ne.mpr ce
            have CE := Lib.hid ce
            clear ce
            go_upto_region 25 with fail
            go_region
            go_wp2_with fail
            go_ret
            exact ⟨by rw [HNr.out, if_neg (fun h => CE.out h.2)]; try rfl, HBe.out.drew⟩
        · have l0 : ((ws.length : Int) == 2) = false := beq_eq_false_iff_ne.mpr (by omega)
          have HL := Lib.hid hl
          clear hl
          go_upto_region 25 with fail
          go_region
          go_wp2_with fail
          go_ret
          exact ⟨by rw [HNr.out, if_neg (fun h => HL.out h.1)]; try rfl, HBe.out.drew⟩
      · have hnr : opR y.f1 y.f5 y.f6 ws = (if ws.length = 2 ∧ ws.getD 0 0 = ws.getD 1 0 then ws.getD 0 0 else -1) := by unfold opR; rw [if_neg (by omega), if_neg (by omega), if_pos (by omega)]
        have HNr := Lib.hid hnr
        have e7 : (y.f1 == 7) = false := by rw [hk]; rfl
        have e9 : (y.f1 == 9) = false := by rw [hk]; rfl
        have e8 : (y.f1 == 8) = false := by rw [hk]; rfl
        have e10 : (y.f1 == 10) = false := by rw [hk]; rfl
        have e11 : (y.f1 == 11) = false := by rw [hk]; rfl
        have e12 : (y.f1 == 12) = false := by rw [hk]; rfl
        have e13 : (y.f1 == 13) = false := by rw [hk]; rfl
        have e14 : (y.f1 == 14) = false := by rw [hk]; rfl
        have e23 : (y.f1 == 23) = true := by rw [hk]; rfl
        clear hk hnr
        by_cases hl : ws.length = 2
        · have l0 : ((ws.length : Int) == 2) = true := by rw [hl]; rfl
          obtain ⟨g, hA, hcs⟩ := row_at HR.out (by omega)
          subst hA
          have w0 := hcs 0 (by omega)
          have w1 := hcs 1 (by omega)
          clear hcs
          have HL := Lib.hid hl
          have hlI : (ws.length : Int) = 2 := by omega
          clear hl
          generalize ws.getD 0 0 = x0 at *
          generalize ws.getD 1 0 = x1 at *
          by_cases ce : x0 = x1
          · have d1 : (x0 == x1) = true := beq_iff_eq.mpr ce
            have CE := Lib.hid ce
            clear ce
            go_upto_region 25 with fail
            go_region
            go_wp2_with fail
            go_ret
            exact ⟨by rw [HNr.out, if_pos ⟨HL.out, CE.out⟩]; try rfl, HBe.out.drew⟩
          · have d1 : (x0 == x1) = false := beq_eq_false_iff_ne.mpr ce
            have CE := Lib.hid ce
            clear ce
            go_upto_region 25 with fail
            go_region
            go_wp2_with fail
            go_ret
            exact ⟨by rw [HNr.out, if_neg (fun h => CE.out h.2)]; try rfl, HBe.out.drew⟩
        · have l0 : ((ws.length : Int) == 2) = false := beq_eq_false_iff_ne.mpr (by omega)
          have HL := Lib.hid hl
          clear hl
          go_upto_region 25 with fail
          go_region
          go_wp2_with fail
          go_ret
          exact ⟨by rw [HNr.out, if_neg (fun h => HL.out h.1)]; try rfl, HBe.out.drew⟩
      · have hnr : opR y.f1 y.f5 y.f6 ws = (if ws.length = 2 ∧ ws.getD 0 0 = ws.getD 1 0 then ws.getD 0 0 else -1) := by unfold opR; rw [if_neg (by omega), if_neg (by omega), if_pos (by omega)]
        have HNr := Lib.hid hnr
        have e7 : (y.f1 == 7) = false := by rw [hk]; rfl
        have e9 : (y.f1 == 9) = false := by rw [hk]; rfl
        have e8 : (y.f1 == 8) = false := by rw [hk]; rfl
        have e10 : (y.f1 == 10) = false := by rw [hk]; rfl
        have e11 : (y.f1 == 11) = false := by rw [hk]; rfl
        have e12 : (y.f1 == 12) = false := by rw [hk]; rfl
        have e13 : (y.f1 == 13) = false := by rw [hk]; rfl
        have e14 : (y.f1 == 14) = false := by rw [hk]; rfl
        have e23 : (y.f1 == 23) = false := by rw [hk]; rfl
        have e25 : (y.f1 == 25) = true := by rw [hk]; rfl
        clear hk hnr
        by_cases hl : ws.length = 2
        · have l0 : ((ws.length : Int) == 2) = true := by rw [hl]; rfl
          obtain ⟨g, hA, hcs⟩ := row_at HR.out (by omega)
          subst hA
          have w0 := hcs 0 (by omega)
          have w1 := hcs 1 (by omega)
          clear hcs
          have HL := Lib.hid hl
          have hlI : (ws.length : Int) = 2 := by omega
          clear hl
          generalize ws.getD 0 0 = x0 at *
          generalize ws.getD 1 0 = x1 at *
          by_cases ce : x0 = x1
          · have d1 : (x0 == x1) = true := beq_iff_eq.mpr ce
            have CE := Lib.hid ce
            clear ce
            go_upto_region 25 with fail
            go_region
            go_wp2_with fail
            go_ret
            exact ⟨by rw [HNr.out, if_pos ⟨HL.out, CE.out⟩]; try rfl, HBe.out.drew⟩
          · have d1 : (x0 == x1) = false := beq_eq_false_iff_ne.mpr ce
            have CE := Lib.hid ce
            clear ce
            go_upto_region 25 with fail
            go_region
            go_wp2_with fail
            go_ret
            exact ⟨by rw [HNr.out, if_neg (fun h => CE.out h.2)]; try rfl, HBe.out.drew⟩
        · have l0 : ((ws.length : Int) == 2) = false := beq_eq_false_iff_ne.mpr (by omega)
          have HL := Lib.hid hl
          clear hl
          go_upto_region 25 with fail
          go_region
          go_wp2_with fail
          go_ret
          exact ⟨by rw [HNr.out, if_neg (fun h => HL.out h.1)]; try rfl, HBe.out.drew⟩
      · have hnr : opR y.f1 y.f5 y.f6 ws = (if ws.length = 2 ∧ ws.getD 0 0 = ws.getD 1 0 then ws.getD 0 0 else -1) := by unfold opR; rw [if_neg (by omega), if_neg (by omega), if_pos (by omega)]
        have HNr := Lib.hid hnr
        have e7 : (y.f1 == 7) = false := by rw [hk]; rfl
        have e9 : (y.f1 == 9) = false := by rw [hk]; rfl
        have e8 : (y.f1 == 8) = false := by rw [hk]; rfl
        have e10 : (y.f1 == 10) = false := by rw [hk]; rfl
        have e11 : (y.f1 == 11) = false := by rw [hk]; rfl
        have e12 : (y.f1 == 12) = false := by rw [hk]; rfl
        have e13 : (y.f1 == 13) = false := by rw [hk]; rfl
        have e14 : (y.f1 == 14) = false := by rw [hk]; rfl
        have e23 : (y.f1 == 23) = false := by rw [hk]; rfl
        have e25 : (y.f1 == 25) = false := by rw [hk]; rfl
        have e24 : (y.f1 == 24) = true := by rw [hk]; rfl
        clear hk hnr
        by_cases hl : ws.length = 2
        · have l0 : ((ws.length : Int) == 2) = true := by rw [hl]; rfl
          obtain ⟨g, hA, hcs⟩ := row_at HR.out (by omega)
          subst hA
          have w0 := hcs 0 (by omega)
          have w1 := hcs 1 (by omega)
          clear hcs
          have HL := Lib.hid hl
          have hlI : (ws.length : Int) = 2 := by omega
          clear hl
          generalize ws.getD 0 0 = x0 at *
          generalize ws.getD 1 0 = x1 at *
          by_cases ce : x0 = x1
          · have d1 : (x0 == x1) = true := beq_iff_eq.mpr ce
            have CE := Lib.hid ce
            clear ce
            go_upto_region 25 with fail
            go_region
            go_wp2_with fail
            go_ret
            exact ⟨by rw [HNr.out, if_pos ⟨HL.out, CE.out⟩]; try rfl, HBe.out.drew⟩
          · have d1 : (x0 == x1) = false := beq_eq_false_iff_ne.mpr ce
            have CE := Lib.hid ce
            clear ce
            go_upto_region 25 with fail
            go_region
            go_wp2_with fail
            go_ret
            exact ⟨by rw [HNr.out, if_neg (fun h => CE.out h.2)]; try rfl, HBe.out.drew⟩
        · have l0 : ((ws.length : Int) == 2) = false := beq_eq_false_iff_ne.mpr (by omega)
          have HL := Lib.hid hl
          clear hl
          go_upto_region 25 with fail
          go_region
          go_wp2_with fail
          go_ret
          exact ⟨by rw [HNr.out, if_neg (fun h => HL.out h.1)]; try rfl, HBe.out.drew⟩
      · have hnr : opR y.f1 y.f5 y.f6 ws = (if ws.length = 2 then ws.getD 0 0 else -1) := by unfold opR; rw [if_neg (by omega), if_neg (by omega), if_neg (by omega), if_pos (by omega)]
        have HNr := Lib.hid hnr
        have e7 : (y.f1 == 7) = false := by rw [hk]; rfl
        have e9 : (y.f1 == 9) = false := by rw [hk]; rfl
        have e8 : (y.f1 == 8) = false := by rw [hk]; rfl
        have e10 : (y.f1 == 10) = false := by rw [hk]; rfl
        have e11 : (y.f1 == 11) = false := by rw [hk]; rfl
        have e12 : (y.f1 == 12) = false := by rw [hk]; rfl
        have e13 : (y.f1 == 13) = false := by rw [hk]; rfl
        have e14 : (y.f1 == 14) = false := by rw [hk]; rfl
        have e23 : (y.f1 == 23) = false := by rw [hk]; rfl
        have e25 : (y.f1 == 25) = false := by rw [hk]; rfl
        have e24 : (y.f1 == 24) = false := by rw [hk]; rfl
        have e15 : (y.f1 == 15) = true := by rw [hk]; rfl
        clear hk hnr
        by_cases hl : ws.length = 2
        · have l0 : ((ws.length : Int) == 2) = true := by rw [hl]; rfl
          obtain ⟨g, hA, hcs⟩ := row_at HR.out (by omega)
          subst hA
          have w0 := hcs 0 (by omega)
          clear hcs
          have HL := Lib.hid hl
          have hlI : (ws.length : Int) = 2 := by omega
          clear hl
          generalize ws.getD 0 0 = x0 at *
          go_wp2_with fail
          go_ret
          exact ⟨by rw [HNr.out, if_pos HL.out]; try rfl, HBe.out⟩
        · have l0 : ((ws.length : Int) == 2) = false := beq_eq_false_iff_ne.mpr (by omega)
          have HL := Lib.hid hl
          clear hl
          go_wp2_with fail
          go_ret
          exact ⟨by rw [HNr.out, if_neg HL.out]; try rfl, HBe.out⟩
      · have hnr : opR y.f1 y.f5 y.f6 ws = (if ws.length = 2 then ws.getD 0 0 else -1) := by unfold opR; rw [if_neg (by omega), if_neg (by omega), if_neg (by omega), if_pos (by omega)]
        have HNr := Lib.hid hnr
        have e7 : (y.f1 == 7) = false := by rw [hk]; rfl
        have e9 : (y.f1 == 9) = false := by rw [hk]; rfl
        have e8 : (y.f1 == 8) = false := by rw [hk]; rfl
        have e10 : (y.f1 == 10) = false := by rw [hk]; rfl
        have e11 : (y.f1 == 11) = false := by rw [hk]; rfl
        have e12 : (y.f1 == 12) = false := by rw [hk]; rfl
        have e13 : (y.f1 == 13) = false := by rw [hk]; rfl
        have e14 : (y.f1 == 14) = false := by rw [hk]; rfl
        have e23 : (y.f1 == 23) = false := by rw [hk]; rfl
        have e25 : (y.f1 == 25) = false := by rw [hk]; rfl
        have e24 : (y.f1 == 24) = false := by rw [hk]; rfl
        have e15 : (y.f1 == 15) = false := by rw [hk]; rfl
        have e16 : (y.f1 == 16) = true := by rw [hk]; rfl
        clear hk hnr
        by_cases hl : ws.length = 2
        · have l0 : ((ws.length : Int) == 2) = true := by rw [hl]; rfl
          obtain ⟨g, hA, hcs⟩ := row_at HR.out (by omega)
          subst hA
          have w0 := hcs 0 (by omega)
          clear hcs
          have HL := Lib.hid hl
          have hlI : (ws.length : Int) = 2 := by omega
          clear hl
          generalize ws.getD 0 0 = x0 at *
          go_wp2_with fail
          go_ret
          exact ⟨by rw [HNr.out, if_pos HL.out]; try rfl, HBe.out⟩
        · have l0 : ((ws.length : Int) == 2) = false := beq_eq_false_iff_ne.mpr (by omega)
          have HL := Lib.hid hl
          clear hl
          go_wp2_with fail
          go_ret
          exact ⟨by rw [HNr.out, if_neg HL.out]; try rfl, HBe.out⟩
      · have hnr : opR y.f1 y.f5 y.f6 ws = (if ws.length = 2 ∧ ws.getD 0 0 = ws.getD 1 0 then 1 else -1) := by unfold opR; rw [if_neg (by omega), if_neg (by omega), if_neg (by omega), if_neg (by omega), if_pos (by omega)]
        have HNr := Lib.hid hnr
        have e7 : (y.f1 == 7) = false := by rw [hk]; rfl
        have e9 : (y.f1 == 9) = false := by rw [hk]; rfl
        have e8 : (y.f1 == 8) = false := by rw [hk]; rfl
        have e10 : (y.f1 == 10) = false := by rw [hk]; rfl
        have e11 : (y.f1 == 11) = false := by rw [hk]; rfl
        have e12 : (y.f1 == 12) = false := by rw [hk]; rfl
        have e13 : (y.f1 == 13) = false := by rw [hk]; rfl
        have e14 : (y.f1 == 14) = false := by rw [hk]; rfl
        have e23 : (y.f1 == 23) = false := by rw [hk]; rfl
        have e25 : (y.f1 == 25) = false := by rw [hk]; rfl
        have e24 : (y.f1 == 24) = false := by rw [hk]; rfl
        have e15 : (y.f1 == 15) = false := by rw [hk]; rfl
        have e16 : (y.f1 == 16) = false := by rw [hk]; rfl
        have e17 : (y.f1 == 17) = true := by rw [hk]; rfl
        clear hk hnr
        by_cases hl : ws.length = 2
        · have l0 : ((ws.length : Int) == 2) = true := by rw [hl]; rfl
          obtain ⟨g, hA, hcs⟩ := row_at HR.out (by omega)
          subst hA
          have w0 := hcs 0 (by omega)
          have w1 := hcs 1 (by omega)
          clear hcs
          have HL := Lib.hid hl
          have hlI : (ws.length : Int) = 2 := by omega
          clear hl
          generalize ws.getD 0 0 = x0 at *
          generalize ws.getD 1 0 = x1 at *
          by_cases ce : x0 = x1
          · have d1 : (x0 == x1) = true := beq_iff_eq.mpr ce
            have CE := Lib.hid ce
            clear ce
            go_upto_region 37 with fail
            go_region
            go_wp2_with fail
            go_ret
            exact ⟨by rw [HNr.out, if_pos ⟨HL.out, CE.out⟩]; try rfl, HBe.out.drew⟩
          · have d1 : (x0 == x1) = false := beq_eq_false_iff_ne.mpr ce
            have CE := Lib.hid ce
            clear ce
            go_upto_region 37 with fail
            go_region
            go_wp2_with fail
            go_ret
            exact ⟨by rw [HNr.out, if_neg (fun h => CE.out h.2)]; try rfl, HBe.out.drew⟩
        · have l0 : ((ws.length : Int) == 2) = false := beq_eq_false_iff_ne.mpr (by omega)
          have HL := Lib.hid hl
          clear hl
          go_upto_region 37 with fail
          go_region
          go_wp2_with fail
          go_ret
          exact ⟨by rw [HNr.out, if_neg (fun h => HL.out h.1)]; try rfl, HBe.out.drew⟩
      · have hnr : opR y.f1 y.f5 y.f6 ws = (if ws.length = 2 ∧ ws.getD 0 0 = ws.getD 1 0 then 1 else -1) := by unfold opR; rw [if_neg (by omega), if_neg (by omega), if_neg (by omega), if_neg (by omega), if_pos (by omega)]
        have HNr := Lib.hid hnr
        have e7 : (y.f1 == 7) = false := by rw [hk]; rfl
        have e9 : (y.f1 == 9) = false := by rw [hk]; rfl
        have e8 : (y.f1 == 8) = false := by rw [hk]; rfl
        have e10 : (y.f1 == 10) = false := by rw [hk]; rfl
        have e11 : (y.f1 == 11) = false := by rw [hk]; rfl
        have e12 : (y.f1 == 12) = false := by rw [hk]; rfl
        have e13 : (y.f1 == 13) = false := by rw [hk]; rfl
        have e14 : (y.f1 == 14) = false := by rw [hk]; rfl
        have e23 : (y.f1 == 23) = false := by rw [hk]; rfl
        have e25 : (y.f1 == 25) = false := by rw [hk]; rfl
        have e24 : (y.f1 == 24) = false := by rw [hk]; rfl
        have e15 : (y.f1 == 15) = false := by rw [hk]; rfl
        have e16 : (y.f1 == 16) = false := by rw [hk]; rfl
        have e17 : (y.f1 == 17) = false := by rw [hk]; rfl
        have e18 : (y.f1 == 18) = true := by rw [hk]; rfl
        clear hk hnr
        by_cases hl : ws.length = 2
        · have l0 : ((ws.length : Int) == 2) = true := by rw [hl]; rfl
          obtain ⟨g, hA, hcs⟩ := row_at HR.out (by omega)
          subst hA
          have w0 := hcs 0 (by omega)
          have w1 := hcs 1 (by omega)
          clear hcs
          have HL := Lib.hid hl
          have hlI : (ws.length : Int) = 2 := by omega
          clear hl
          generalize ws.getD 0 0 = x0 at *
          generalize ws.getD 1 0 = x1 at *
          by_cases ce : x0 = x1
          · have d1 : (x0 == x1) = true := beq_iff_eq.mpr ce
            have CE := Lib.hid ce
            clear ce
            go_upto_region 37 with fail
            go_region
            go_wp2_with fail
            go_ret
            exact ⟨by rw [HNr.out, if_pos ⟨HL.out, CE.out⟩]; try rfl, HBe.out.drew⟩
          · have d1 : (x0 == x1) = false := beq_eq_false_iff_ne.mpr ce
            have CE := Lib.hid ce
            clear ce
            go_upto_region 37 with fail
            go_region
            go_wp2_with fail
            go_ret
            exact ⟨by rw [HNr.out, if_neg (fun h => CE.out h.2)]; try rfl, HBe.out.drew⟩
        · have l0 : ((ws.length : Int) == 2) = false := beq_eq_false_iff_ne.mpr (by omega)
          have HL := Lib.hid hl
          clear hl
          go_upto_region 37 with fail
          go_region
          go_wp2_with fail
          go_ret
          exact ⟨by rw [HNr.out, if_neg (fun h => HL.out h.1)]; try rfl, HBe.out.drew⟩
      · have hnr : opR y.f1 y.f5 y.f6 ws = (if ws.length = 2 ∧ ws.getD 0 0 = ws.getD 1 0 then 1 else -1) := by unfold opR; rw [if_neg (by omega), if_neg (by omega), if_neg (by omega), if_neg (by omega), if_pos (by omega)]
        have HNr := Lib.hid hnr
        have e7 : (y.f1 == 7) = false := by rw [hk]; rfl
        have e9 : (y.f1 == 9) = false := by rw [hk]; rfl
        have e8 : (y.f1 == 8) = false := by rw [hk]; rfl
        have e10 : (y.f1 == 10) = false := by rw [hk]; rfl
        have e11 : (y.f1 == 11) = false := by rw [hk]; rfl
        have e12 : (y.f1 == 12) = false := by rw [hk]; rfl
        have e13 : (y.f1 == 13) = false := by rw [hk]; rfl
        have e14 : (y.f1 == 14) = false := by rw [hk]; rfl
        have e23 : (y.f1 == 23) = false := by rw [hk]; rfl
        have e25 : (y.f1 == 25) = false := by rw [hk]; rfl
        have e24 : (y.f1 == 24) = false := by rw [hk]; rfl
        have e15 : (y.f1 == 15) = false := by rw [hk]; rfl
        have e16 : (y.f1 == 16) = false := by rw [hk]; rfl
        have e17 : (y.f1 == 17) = false := by rw [hk]; rfl
        have e18 : (y.f1 == 18) = false := by rw [hk]; rfl
        have e19 : (y.f1 == 19) = true := by rw [hk]; rfl
        clear hk hnr
        by_cases hl : ws.length = 2
        · have l0 : ((ws.length : Int) == 2) = true := by rw [hl]; rfl
          obtain ⟨g, hA, hcs⟩ := row_at HR.out (by omega)
          subst hA
          have w0 := hcs 0 (by omega)
          have w1 := hcs 1 (by omega)
          clear hcs
          have HL := Lib.hid hl
          have hlI : (ws.length : Int) = 2 := by omega
          clear hl
          generalize ws.getD 0 0 = x0 at *
          generalize ws.getD 1 0 = x1 at *
          by_cases ce : x0 = x1
          · have d1 : (x0 == x1) = true := beq_iff_eq.mpr ce
            have CE := Lib.hid ce
            clear ce
            go_upto_region 37 with fail
            go_region
            go_wp2_with fail
            go_ret
            exact ⟨by rw [HNr.out, if_pos ⟨HL.out, CE.out⟩]; try rfl, HBe.out.drew⟩
          · have d1 : (x0 == x1) = false := beq_eq_false_iff_ne.mpr ce
            have CE := Lib.hid ce
            clear ce
            go_upto_region 37 with fail
            go_region
            go_wp2_with fail
            go_ret
            exact ⟨by rw [HNr.out, if_neg (fun h => CE.out h.2)]; try rfl, HBe.out.drew⟩
        · have l0 : ((ws.length : Int) == 2) = false := beq_eq_false_iff_ne.mpr (by omega)
          have HL := Lib.hid hl
          clear hl
          go_upto_region 37 with fail
          go_region
          go_wp2_with fail
          go_ret
          exact ⟨by rw [HNr.out, if_neg (fun h => HL.out h.1)]; try rfl, HBe.out.drew⟩
      · have hnr : opR y.f1 y.f5 y.f6 ws = (if ws.length = 2 ∧ ws.getD 0 0 = ws.getD 1 0 then 1 else -1) := by unfold opR; rw [if_neg (by omega), if_neg (by omega), if_neg (by omega), if_neg (by omega), if_pos (by omega)]
        have HNr := Lib.hid hnr
        have e7 : (y.f1 == 7) = false := by rw [hk]; rfl
        have e9 : (y.f1 == 9) = false := by rw [hk]; rfl
        have e8 : (y.f1 == 8) = false := by rw [hk]; rfl
        have e10 : (y.f1 == 10) = false := by rw [hk]; rfl
        have e11 : (y.f1 == 11) = false := by rw [hk]; rfl
        have e12 : (y.f1 == 12) = false := by rw [hk]; rfl
        have e13 : (y.f1 == 13) = false := by rw [hk]; rfl
        have e14 : (y.f1 == 14) = false := by rw [hk]; rfl
        have e23 : (y.f1 == 23) = false := by rw [hk]; rfl
        have e25 : (y.f1 == 25) = false := by rw [hk]; rfl
        have e24 : (y.f1 == 24) = false := by rw [hk]; rfl
        have e15 : (y.f1 == 15) = false := by rw [hk]; rfl
        have e16 : (y.f1 == 16) = false := by rw [hk]; rfl
        have e17 : (y.f1 == 17) = false := by rw [hk]; rfl
        have e18 : (y.f1 == 18) = false := by rw [hk]; rfl
        have e19 : (y.f1 == 19) = false := by rw [hk]; rfl
        have e20 : (y.f1 == 20) = true := by rw [hk]; rfl
        clear hk hnr
        by_cases hl : ws.length = 2
        · have l0 : ((ws.length : Int) == 2) = true := by rw [hl]; rfl
          obtain ⟨g, hA, hcs⟩ := row_at HR.out (by omega)
          subst hA
          have w0 := hcs 0 (by omega)
          have w1 := hcs 1 (by omega)
          clear hcs
          have HL := Lib.hid hl
          have hlI : (ws.length : Int) = 2 := by omega
          clear hl
          generalize ws.getD 0 0 = x0 at *
          generalize ws.getD 1 0 = x1 at *
          by_cases ce : x0 = x1
          · have d1 : (x0 == x1) = true := beq_iff_eq.mpr ce
            have CE := Lib.hid ce
            clear ce
            go_upto_region 37 with fail
            go_region
            go_wp2_with fail
            go_ret
            exact ⟨by rw [HNr.out, if_pos ⟨HL.out, CE.out⟩]; try rfl, HBe.out.drew⟩
          · have d1 : (x0 == x1) = false := beq_eq_false_iff_ne.mpr ce
            have CE := Lib.hid ce
            clear ce
            go_upto_region 37 with fail
            go_region
            go_wp2_with fail
            go_ret
            exact ⟨by rw [HNr.out, if_neg (fun h => CE.out h.2)]; try rfl, HBe.out.drew⟩
        · have l0 : ((ws.length : Int) == 2) = false := beq_eq_false_iff_ne.mpr (by omega)
          have HL := Lib.hid hl
          clear hl
          go_upto_region 37 with fail
          go_region
          go_wp2_with fail
          go_ret
          exact ⟨by rw [HNr.out, if_neg (fun h => HL.out h.1)]; try rfl, HBe.out.drew⟩
      · have hnr : opR y.f1 y.f5 y.f6 ws = (if ws.length = 2 ∧ ws.getD 0 0 = ws.getD 1 0 then 1 else -1) := by unfold opR; rw [if_neg (by omega), if_neg (by omega), if_neg (by omega), if_neg (by omega), if_pos (by omega)]
        have HNr := Lib.hid hnr
        have e7 : (y.f1 == 7) = false := by rw [hk]; rfl
        have e9 : (y.f1 == 9) = false := by rw [hk]; rfl
        have e8 : (y.f1 == 8) = false := by rw [hk]; rfl
        have e10 : (y.f1 == 10) = false := by rw [hk]; rfl
        have e11 : (y.f1 == 11) = false := by rw [hk]; rfl
        have e12 : (y.f1 == 12) = false := by rw [hk]; rfl
        have e13 : (y.f1 == 13) = false := by rw [hk]; rfl
        have e14 : (y.f1 == 14) = false := by rw [hk]; rfl
        have e23 : (y.f1 == 23) = false := by rw [hk]; rfl
        have e25 : (y.f1 == 25) = false := by rw [hk]; rfl
        have e24 : (y.f1 == 24) = false := by rw [hk]; rfl
        have e15 : (y.f1 == 15) = false := by rw [hk]; rfl
        have e16 : (y.f1 == 16) = false := by rw [hk]; rfl
        have e17 : (y.f1 == 17) = false := by rw [hk]; rfl
        have e18 : (y.f1 == 18) = false := by rw [hk]; rfl
        have e19 : (y.f1 == 19) = false := by rw [hk]; rfl
        have e20 : (y.f1 == 20) = false := by rw [hk]; rfl
        have e21 : (y.f1 == 21) = true := by rw [hk]; rfl
        clear hk hnr
        by_cases hl : ws.length = 2
        · have l0 : ((ws.length : Int) == 2) = true := by rw [hl]; rfl
          obtain ⟨g, hA, hcs⟩ := row_at HR.out (by omega)
          subst hA
          have w0 := hcs 0 (by omega)
          have w1 := hcs 1 (by omega)
          clear hcs
          have HL := Lib.hid hl
          have hlI : (ws.length : Int) = 2 := by omega
          clear hl
          generalize ws.getD 0 0 = x0 at *
          generalize ws.getD 1 0 = x1 at *
          by_cases ce : x0 = x1
          · have d1 : (x0 == x1) = true := beq_iff_eq.mpr ce
            have CE := Lib.hid ce
            clear ce
            go_upto_region 37 with fail
            go_region
            go_wp2_with fail
            go_ret
            exact ⟨by rw [HNr.out, if_pos ⟨HL.out, CE.out⟩]; try rfl, HBe.out.drew⟩
          · have d1 : (x0 == x1) = false := beq_eq_false_iff_ne.mpr ce
            have CE := Lib.hid ce
            clear ce
            go_upto_region 37 with fail
            go_region
            go_wp2_with fail
            go_ret
            exact ⟨by rw [HNr.out, if_neg (fun h => CE.out h.2)]; try rfl, HBe.out.drew⟩
        · have l0 : ((ws.length : Int) == 2) = false := beq_eq_false_iff_ne.mpr (by omega)
          have HL := Lib.hid hl
          clear hl
          go_upto_region 37 with fail
          go_region
          go_wp2_with fail
          go_ret
          exact ⟨by rw [HNr.out, if_neg (fun h => HL.out h.1)]; try rfl, HBe.out.drew⟩
      · have hnr : opR y.f1 y.f5 y.f6 ws = (if ws.length = 2 ∧ ws.getD 0 0 = ws.getD 1 0 then 1 else -1) := by unfold opR; rw [if_neg (by omega), if_neg (by omega), if_neg (by omega), if_neg (by omega), if_pos (by omega)]
        have HNr := Lib.hid hnr
        have e7 : (y.f1 == 7) = false := by rw [hk]; rfl
        have e9 : (y.f1 == 9) = false := by rw [hk]; rfl
        have e8 : (y.f1 == 8) = false := by rw [hk]; rfl
        have e10 : (y.f1 == 10) = false := by rw [hk]; rfl
        have e11 : (y.f1 == 11) = false := by rw [hk]; rfl
        have e12 : (y.f1 == 12) = false := by rw [hk]; rfl
        have e13 : (y.f1 == 13) = false := by rw [hk]; rfl
        have e14 : (y.f1 == 14) = false := by rw [hk]; rfl
        have e23 : (y.f1 == 23) = false := by rw [hk]; rfl
        have e25 : (y.f1 == 25) = false := by rw [hk]; rfl
        have e24 : (y.f1 == 24) = false := by rw [hk]; rfl
        have e15 : (y.f1 == 15) = false := by rw [hk]; rfl
        have e16 : (y.f1 == 16) = false := by rw [hk]; rfl
        have e17 : (y.f1 == 17) = false := by rw [hk]; rfl
        have e18 : (y.f1 == 18) = false := by rw [hk]; rfl
        have e19 : (y.f1 == 19) = false := by rw [hk]; rfl
        have e20 : (y.f1 == 20) = false := by rw [hk]; rfl
        have e21 : (y.f1 == 21) = false := by rw [hk]; rfl
        have e22 : (y.f1 == 22) = true := by rw [hk]; rfl
        clear hk hnr
        by_cases hl : ws.length = 2
        · have l0 : ((ws.length : Int) == 2) = true := by rw [hl]; rfl
          obtain ⟨g, hA, hcs⟩ := row_at HR.out (by omega)
          subst hA
          have w0 := hcs 0 (by omega)
          have w1 := hcs 1 (by omega)
          clear hcs
          have HL := Lib.hid hl
          have hlI : (ws.length : Int) = 2 := by omega
          clear hl
          generalize ws.getD 0 0 = x0 at *
          generalize ws.getD 1 0 = x1 at *
          by_cases ce : x0 = x1
          · have d1 : (x0 == x1) = true := beq_iff_eq.mpr ce
            have CE := Lib.hid ce
            clear ce
            go_upto_region 37 with fail
            go_region
            go_wp2_with fail
            go_ret
            exact ⟨by rw [HNr.out, if_pos ⟨HL.out, CE.out⟩]; try rfl, HBe.out.drew⟩
          · have d1 : (x0 == x1) = false := beq_eq_false_iff_ne.mpr ce
            have CE := Lib.hid ce
            clear ce
            go_upto_region 37 with fail
            go_region
            go_wp2_with fail
            go_ret
            exact ⟨by rw [HNr.out, if_neg (fun h => CE.out h.2)]; try rfl, HBe.out.drew⟩
        · have l0 : ((ws.length : Int) == 2) = false := beq_eq_false_iff_ne.mpr (by omega)
          have HL := Lib.hid hl
          clear hl
          go_upto_region 37 with fail
          go_region
          go_wp2_with fail
          go_ret
          exact ⟨by rw [HNr.out, if_neg (fun h => HL.out h.1)]; try rfl, HBe.out.drew⟩
      · have hnr : opR y.f1 y.f5 y.f6 ws = (if ws.length = 2 then 1 else -1) := by unfold opR; rw [if_neg (by omega), if_neg (by omega), if_neg (by omega), if_neg (by omega), if_neg (by omega), if_pos (by omega)]
        have HNr := Lib.hid hnr
        have e7 : (y.f1 == 7) = false := by rw [hk]; rfl
        have e9 : (y.f1 == 9) = false := by rw [hk]; rfl
        have e8 : (y.f1 == 8) = false := by rw [hk]; rfl
        have e10 : (y.f1 == 10) = false := by rw [hk]; rfl
        have e11 : (y.f1 == 11) = false := by rw [hk]; rfl
        have e12 : (y.f1 == 12) = false := by rw [hk]; rfl
        have e13 : (y.f1 == 13) = false := by rw [hk]; rfl
        have e14 : (y.f1 == 14) = false := by rw [hk]; rfl
        have e23 : (y.f1 == 23) = false := by rw [hk]; rfl
        have e25 : (y.f1 == 25) = false := by rw [hk]; rfl
        have e24 : (y.f1 == 24) = false := by rw [hk]; rfl
        have e15 : (y.f1 == 15) = false := by rw [hk]; rfl
        have e16 : (y.f1 == 16) = false := by rw [hk]; rfl
        have e17 : (y.f1 == 17) = false := by rw [hk]; rfl
        have e18 : (y.f1 == 18) = false := by rw [hk]; rfl
        have e19 : (y.f1 == 19) = false := by rw [hk]; rfl
        have e20 : (y.f1 == 20) = false := by rw [hk]; rfl
        have e21 : (y.f1 == 21) = false := by rw [hk]; rfl
        have e22 : (y.f1 == 22) = false := by rw [hk]; rfl
        have e26 : (y.f1 == 26) = true := by rw [hk]; rfl
        clear hk hnr
        by_cases hl : ws.length = 2
        · have l0 : ((ws.length : Int) == 2) = true := by rw [hl]; rfl
          have HL := Lib.hid hl
          have hlI : (ws.length : Int) = 2 := by omega
          clear hl
          go_wp2_with fail
          go_ret
          exact ⟨by rw [HNr.out, if_pos HL.out]; try rfl, HBe.out⟩
        · have l0 : ((ws.length : Int) == 2) = false := beq_eq_false_iff_ne.mpr (by omega)
          have HL := Lib.hid hl
          clear hl
          go_wp2_with fail
          go_ret
          exact ⟨by rw [HNr.out, if_neg HL.out]; try rfl, HBe.out⟩
      · have hnr : opR y.f1 y.f5 y.f6 ws = (if ws.length = 2 then 1 else -1) := by unfold opR; rw [if_neg (by omega), if_neg (by omega), if_neg (by omega), if_neg (by omega), if_neg (by omega), if_pos (by omega)]
        have HNr := Lib.hid hnr
        have e7 : (y.f1 == 7) = false := by rw [hk]; rfl
        have e9 : (y.f1 == 9) = false := by rw [hk]; rfl
        have e8 : (y.f1 == 8) = false := by rw [hk]; rfl
        have e10 : (y.f1 == 10) = false := by rw [hk]; rfl
        have e11 : (y.f1 == 11) = false := by rw [hk]; rfl
        have e12 : (y.f1 == 12) = false := by rw [hk]; rfl
        have e13 : (y.f1 == 13) = false := by rw [hk]; rfl
        have e14 : (y.f1 == 14) = false := by rw [hk]; rfl
        have e23 : (y.f1 == 23) = false := by rw [hk]; rfl
        have e25 : (y.f1 == 25) = false := by rw [hk]; rfl
        have e24 : (y.f1 == 24) = false := by rw [hk]; rfl
        have e15 : (y.f1 == 15) = false := by rw [hk]; rfl
        have e16 : (y.f1 == 16) = false := by rw [hk]; rfl
        have e17 : (y.f1 == 17) = false := by rw [hk]; rfl
        have e18 : (y.f1 == 18) = false := by rw [hk]; rfl
        have e19 : (y.f1 == 19) = false := by rw [hk]; rfl
        have e20 : (y.f1 == 20) = false := by rw [hk]; rfl
        have e21 : (y.f1 == 21) = false := by rw [hk]; rfl
        have e22 : (y.f1 == 22) = false := by rw [hk]; rfl
        have e26 : (y.f1 == 26) = false := by rw [hk]; rfl
        have e27 : (y.f1 == 27) = true := by rw [hk]; rfl
        clear hk hnr
        by_cases hl : ws.length = 2
        · have l0 : ((ws.length : Int) == 2) = true := by rw [hl]; rfl
          have HL := Lib.hid hl
          have hlI : (ws.length : Int) = 2 := by omega
          clear hl
          go_wp2_with fail
          go_ret
          exact ⟨by rw [HNr.out, if_pos HL.out]; try rfl, HBe.out⟩
        · have l0 : ((ws.length : Int) == 2) = false := beq_eq_false_iff_ne.mpr (by omega)
          have HL := Lib.hid hl
          clear hl
          go_wp2_with fail
          go_ret
          exact ⟨by rw [HNr.out, if_neg HL.out]; try rfl, HBe.out⟩
      · have hnr : opR y.f1 y.f5 y.f6 ws = (if ws.length = 2 then 1 else -1) := by unfold opR; rw [if_neg (by omega), if_neg (by omega), if_neg (by omega), if_neg (by omega), if_neg (by omega), if_pos (by omega)]
        have HNr := Lib.hid hnr
        have e7 : (y.f1 == 7) = false := by rw [hk]; rfl
        have e9 : (y.f1 == 9) = false := by rw [hk]; rfl
        have e8 : (y.f1 == 8) = false := by rw [hk]; rfl
        have e10 : (y.f1 == 10) = false := by rw [hk]; rfl
        have e11 : (y.f1 == 11) = false := by rw [hk]; rfl
        have e12 : (y.f1 == 12) = false := by rw [hk]; rfl
        have e13 : (y.f1 == 13) = false := by rw [hk]; rfl
        have e14 : (y.f1 == 14) = false := by rw [hk]; rfl
        have e23 : (y.f1 == 23) = false := by rw [hk]; rfl
        have e25 : (y.f1 == 25) = false := by rw [hk]; rfl
        have e24 : (y.f1 == 24) = false := by rw [hk]; rfl
        have e15 : (y.f1 == 15) = false := by rw [hk]; rfl
        have e16 : (y.f1 == 16) = false := by rw [hk]; rfl
        have e17 : (y.f1 == 17) = false := by rw [hk]; rfl
        have e18 : (y.f1 == 18) = false := by rw [hk]; rfl
        have e19 : (y.f1 == 19) = false := by rw [hk]; rfl
        have e20 : (y.f1 == 20) = false := by rw [hk]; rfl
        have e21 : (y.f1 == 21) = false := by rw [hk]; rfl
        have e22 : (y.f1 == 22) = false := by rw [hk]; rfl
        have e26 : (y.f1 == 26) = false := by rw [hk]; rfl
        have e27 : (y.f1 == 27) = false := by rw [hk]; rfl
        have e3 : (y.f1 == 3) = true := by rw [hk]; rfl
        clear hk hnr
        by_cases hl : ws.length = 2
        · have l0 : ((ws.length : Int) == 2) = true := by rw [hl]; rfl
          have HL := Lib.hid hl
          have hlI : (ws.length : Int) = 2 := by omega
          clear hl
          go_wp2_with fail
          go_ret
          exact ⟨by rw [HNr.out, if_pos HL.out]; try rfl, HBe.out⟩
        · have l0 : ((ws.length : Int) == 2) = false := beq_eq_false_iff_ne.mpr (by omega)
          have HL := Lib.hid hl
          clear hl
          go_wp2_with fail
          go_ret
          exact ⟨by rw [HNr.out, if_neg HL.out]; try rfl, HBe.out⟩
      · have hnr : opR y.f1 y.f5 y.f6 ws = (if ws.length = 3 ∧ ws.getD 1 0 = ws.getD 2 0 then ws.getD 1 0 else -1) := by unfold opR; rw [if_neg (by omega), if_neg (by omega), if_neg (by omega), if_neg (by omega), if_neg (by omega), if_neg (by omega), if_pos hk]
        have HNr := Lib.hid hnr
        have e7 : (y.f1 == 7) = false := by rw [hk]; rfl
        have e9 : (y.f1 == 9) = false := by rw [hk]; rfl
        have e8 : (y.f1 == 8) = false := by rw [hk]; rfl
        have e10 : (y.f1 == 10) = false := by rw [hk]; rfl
        have e11 : (y.f1 == 11) = false := by rw [hk]; rfl
        have e12 : (y.f1 == 12) = false := by rw [hk]; rfl
        have e13 : (y.f1 == 13) = false := by rw [hk]; rfl
        have e14 : (y.f1 == 14) = false := by rw [hk]; rfl
        have e23 : (y.f1 == 23) = false := by rw [hk]; rfl
        have e25 : (y.f1 == 25) = false := by rw [hk]; rfl
        have e24 : (y.f1 == 24) = false := by rw [hk]; rfl
        have e15 : (y.f1 == 15) = false := by rw [hk]; rfl
        have e16 : (y.f1 == 16) = false := by rw [hk]; rfl
        have e17 : (y.f1 == 17) = false := by rw [hk]; rfl
        have e18 : (y.f1 == 18) = false := by rw [hk]; rfl
        have e19 : (y.f1 == 19) = false := by rw [hk]; rfl
        have e20 : (y.f1 == 20) = false := by rw [hk]; rfl
        have e21 : (y.f1 == 21) = false := by rw [hk]; rfl
        have e22 : (y.f1 == 22) = false := by rw [hk]; rfl
        have e26 : (y.f1 == 26) = false := by rw [hk]; rfl
        have e27 : (y.f1 == 27) = false := by rw [hk]; rfl
        have e3 : (y.f1 == 3) = false := by rw [hk]; rfl
        have e6 : (y.f1 == 6) = true := by rw [hk]; rfl
        clear hk hnr
        by_cases hl : ws.length = 3
        · have l0 : ((ws.length : Int) == 3) = true := by rw [hl]; rfl
          obtain ⟨g, hA, hcs⟩ := row_at HR.out (by omega)
          subst hA
          have w0 := hcs 0 (by omega)
          have w1 := hcs 1 (by omega)
          have w2 := hcs 2 (by omega)
          clear hcs
          have HL := Lib.hid hl
          have hlI : (ws.length : Int) = 3 := by omega
          clear hl
          generalize ws.getD 0 0 = x0 at *
          generalize ws.getD 1 0 = x1 at *
          generalize ws.getD 2 0 = x2 at *
          by_cases ce : x1 = x2
          · have d1 : (x1 == x2) = true := beq_iff_eq.mpr ce
            have CE := Lib.hid ce
            clear ce
            go_upto_region 45 with fail
            go_region
            go_wp2_with fail
            go_ret
            exact ⟨by rw [HNr.out, if_pos ⟨HL.out, CE.out⟩]; try rfl, HBe.out.drew⟩
          · have d1 : (x1 == x2) = false := beq_eq_false_iff_ne.mpr ce
            have CE := Lib.hid ce
            clear ce
            go_upto_region 45 with fail
            go_region
            go_wp2_with fail
            go_ret
            exact ⟨by rw [HNr.out, if_neg (fun h => CE.out h.2)]; try rfl, HBe.out.drew⟩
        · have l0 : ((ws.length : Int) == 3) = false := beq_eq_false_iff_ne.mpr (by omega)
          have HL := Lib.hid hl
          clear hl
          go_upto_region 45 with fail
          go_region
          go_wp2_with fail
          go_ret
          exact ⟨by rw [HNr.out, if_neg (fun h => HL.out h.1)]; try rfl, HBe.out.drew⟩
      · have hnr : opR y.f1 y.f5 y.f6 ws = (if ws.length = 1 ∧ 0 ≤ y.f6 ∧ y.f6 ≤ y.f5 ∧ y.f5 < ws.getD 0 0 then y.f5 - y.f6 + 1 else -1) := by unfold opR; rw [if_neg (by omega), if_neg (by omega), if_neg (by omega), if_neg (by omega), if_neg (by omega), if_neg (by omega), if_neg (by omega), if_pos hk]
        have HNr := Lib.hid hnr
        have e7 : (y.f1 == 7) = false := by rw [hk]; rfl
        have e9 : (y.f1 == 9) = false := by rw [hk]; rfl
        have e8 : (y.f1 == 8) = false := by rw [hk]; rfl
        have e10 : (y.f1 == 10) = false := by rw [hk]; rfl
        have e11 : (y.f1 == 11) = false := by rw [hk]; rfl
        have e12 : (y.f1 == 12) = false := by rw [hk]; rfl
        have e13 : (y.f1 == 13) = false := by rw [hk]; rfl
        have e14 : (y.f1 == 14) = false := by rw [hk]; rfl
        have e23 : (y.f1 == 23) = false := by rw [hk]; rfl
        have e25 : (y.f1 == 25) = false := by rw [hk]; rfl
        have e24 : (y.f1 == 24) = false := by rw [hk]; rfl
        have e15 : (y.f1 == 15) = false := by rw [hk]; rfl
        have e16 : (y.f1 == 16) = false := by rw [hk]; rfl
        have e17 : (y.f1 == 17) = false := by rw [hk]; rfl
        have e18 : (y.f1 == 18) = false := by rw [hk]; rfl
        have e19 : (y.f1 == 19) = false := by rw [hk]; rfl
        have e20 : (y.f1 == 20) = false := by rw [hk]; rfl
        have e21 : (y.f1 == 21) = false := by rw [hk]; rfl
        have e22 : (y.f1 == 22) = false := by rw [hk]; rfl
        have e26 : (y.f1 == 26) = false := by rw [hk]; rfl
        have e27 : (y.f1 == 27) = false := by rw [hk]; rfl
        have e3 : (y.f1 == 3) = false := by rw [hk]; rfl
        have e6 : (y.f1 == 6) = false := by rw [hk]; rfl
        have e4 : (y.f1 == 4) = true := by rw [hk]; rfl
        clear hk hnr
        by_cases hl : ws.length = 1
        · have l0 : ((ws.length : Int) == 1) = true := by rw [hl]; rfl
          obtain ⟨g, hA, hcs⟩ := row_at HR.out (by omega)
          subst hA
          have w0 := hcs 0 (by omega)
          clear hcs
          have HL := Lib.hid hl
          have hlI : (ws.length : Int) = 1 := by omega
          have hwb : ws.getD 0 0 ≤ 256 := by
            have hg : ws.getD 0 0 ∈ ws := by rw [List.getD_eq_getElem?_getD, List.getElem?_eq_getElem (by omega)]; exact List.getElem_mem _
            exact (HWb.out _ hg).2
          clear hl
          generalize ws.getD 0 0 = x0 at *
          by_cases c0 : 0 ≤ y.f6
          · have d0 : decide (y.f6 ≥ 0) = true := decide_eq_true c0
            have C0 := Lib.hid c0
            by_cases c1 : y.f6 ≤ y.f5
            · have d1 : decide (y.f5 ≥ y.f6) = true := decide_eq_true c1
              have C1 := Lib.hid c1
              by_cases c2 : y.f5 < x0
              · have d2 : decide (y.f5 < x0) = true := decide_eq_true c2
                have C2 := Lib.hid c2
                go_upto_region 48 with fail; go_region; go_wp2_with fail
                go_ret
                exact ⟨by rw [HNr.out, if_pos ⟨HL.out, C0.out, C1.out, C2.out⟩]; try rfl, HBe.out.drew⟩
              · have d2 : decide (y.f5 < x0) = false := decide_eq_false c2
                have C2 := Lib.hid c2
                have c2b : x0 ≤ y.f5 := by omega
                clear c2
                go_upto_region 48 with fail; go_region; go_wp2_with fail
                go_ret
                exact ⟨by rw [HNr.out, if_neg (show ¬ (ws.length = 1 ∧ 0 ≤ y.f6 ∧ y.f6 ≤ y.f5 ∧ y.f5 < x0) by have := C2.out; omega)]; try rfl, HBe.out.drew⟩
            · have d1 : decide (y.f5 ≥ y.f6) = false := decide_eq_false c1
              have C1 := Lib.hid c1
              have c1b : y.f5 < y.f6 := by omega
              clear c1
              go_upto_region 48 with fail; go_region; go_wp2_with fail
              go_ret
              exact ⟨by rw [HNr.out, if_neg (show ¬ (ws.length = 1 ∧ 0 ≤ y.f6 ∧ y.f6 ≤ y.f5 ∧ y.f5 < x0) by have := C1.out; omega)]; try rfl, HBe.out.drew⟩
          · have d0 : decide (y.f6 ≥ 0) = false := decide_eq_false c0
            have C0 := Lib.hid c0
            have c0b : y.f6 < 0 := by omega
            clear c0
            go_upto_region 48 with fail; go_region; go_wp2_with fail
            go_ret
            exact ⟨by rw [HNr.out, if_neg (show ¬ (ws.length = 1 ∧ 0 ≤ y.f6 ∧ y.f6 ≤ y.f5 ∧ y.f5 < x0) by have := C0.out; omega)]; try rfl, HBe.out.drew⟩
        · have l0 : ((ws.length : Int) == 1) = false := beq_eq_false_iff_ne.mpr (by omega)
          have HL := Lib.hid hl
          clear hl
          go_upto_region 48 with fail
          go_region
          go_wp2_with fail
          go_ret
          exact ⟨by rw [HNr.out, if_neg (fun h => HL.out h.1)]; try rfl, HBe.out.drew⟩
      · have hnr : opR y.f1 y.f5 y.f6 ws = (if 1 ≤ ws.length ∧ ws.length ≤ 256 then ws.sum else -1) := by unfold opR; rw [if_neg (by omega), if_neg (by omega), if_neg (by omega), if_neg (by omega), if_neg (by omega), if_neg (by omega), if_neg (by omega), if_neg (by omega), if_pos hk]
        have HNr := Lib.hid hnr
        have e7 : (y.f1 == 7) = false := by rw [hk]; rfl
        have e9 : (y.f1 == 9) = false := by rw [hk]; rfl
        have e8 : (y.f1 == 8) = false := by rw [hk]; rfl
        have e10 : (y.f1 == 10) = false := by rw [hk]; rfl
        have e11 : (y.f1 == 11) = false := by rw [hk]; rfl
        have e12 : (y.f1 == 12) = false := by rw [hk]; rfl
        have e13 : (y.f1 == 13) = false := by rw [hk]; rfl
        have e14 : (y.f1 == 14) = false := by rw [hk]; rfl
        have e23 : (y.f1 == 23) = false := by rw [hk]; rfl
        have e25 : (y.f1 == 25) = false := by rw [hk]; rfl
        have e24 : (y.f1 == 24) = false := by rw [hk]; rfl
        have e15 : (y.f1 == 15) = false := by rw [hk]; rfl
        have e16 : (y.f1 == 16) = false := by rw [hk]; rfl
        have e17 : (y.f1 == 17) = false := by rw [hk]; rfl
        have e18 : (y.f1 == 18) = false := by rw [hk]; rfl
        have e19 : (y.f1 == 19) = false := by rw [hk]; rfl
        have e20 : (y.f1 == 20) = false := by rw [hk]; rfl
        have e21 : (y.f1 == 21) = false := by rw [hk]; rfl
        have e22 : (y.f1 == 22) = false := by rw [hk]; rfl
        have e26 : (y.f1 == 26) = false := by rw [hk]; rfl
        have e27 : (y.f1 == 27) = false := by rw [hk]; rfl
        have e3 : (y.f1 == 3) = false := by rw [hk]; rfl
        have e6 : (y.f1 == 6) = false := by rw [hk]; rfl
        have e4 : (y.f1 == 4) = false := by rw [hk]; rfl
        have e5 : (y.f1 == 5) = true := by rw [hk]; rfl
        clear hk hnr
        by_cases h1 : 1 ≤ ws.length
        · have l1 : decide ((ws.length : Int) ≥ 1) = true := decide_eq_true (by omega)
          have L1 := Lib.hid h1
          have l1b : 1 ≤ (ws.length : Int) := by omega
          clear h1
          by_cases h2 : ws.length ≤ 256
          · have l2 : decide ((ws.length : Int) ≤ 256) = true := decide_eq_true (by omega)
            have L2 := Lib.hid h2
            have l2b : (ws.length : Int) ≤ 256 := by omega
            clear h2
            go_wp2_with fail
            go_ret
            exact ⟨by rw [HNr.out, if_pos ⟨L1.out, L2.out⟩]; try rfl, HBe.out⟩
          · have l2 : decide ((ws.length : Int) ≤ 256) = false := decide_eq_false (by omega)
            have L2 := Lib.hid h2
            have l2b : 256 < (ws.length : Int) := by omega
            clear h2
            go_wp2_with fail
            go_ret
            exact ⟨by rw [HNr.out, if_neg (show ¬ (1 ≤ ws.length ∧ ws.length ≤ 256) by have := L2.out; omega)]; try rfl, HBe.out⟩
        · have l1 : decide ((ws.length : Int) ≥ 1) = false := decide_eq_false (by omega)
          have L1 := Lib.hid h1
          have l1b : (ws.length : Int) < 1 := by omega
          clear h1
          go_wp2_with fail
          go_ret
          exact ⟨by rw [HNr.out, if_neg (show ¬ (1 ≤ ws.length ∧ ws.length ≤ 256) by have := L1.out; omega)]; try rfl, HBe.out⟩
      · have hnr : opR y.f1 y.f5 y.f6 ws = (-1) := by unfold opR; rw [if_neg (by omega), if_neg (by omega), if_neg (by omega), if_neg (by omega), if_neg (by omega), if_neg (by omega), if_neg (by omega), if_neg (by omega), if_neg (by omega)]
        have HNr := Lib.hid hnr
        have e7 : (y.f1 == 7) = false := beq_eq_false_iff_ne.mpr (by omega)
        have e9 : (y.f1 == 9) = false := beq_eq_false_iff_ne.mpr (by omega)
        have e8 : (y.f1 == 8) = false := beq_eq_false_iff_ne.mpr (by omega)
        have e10 : (y.f1 == 10) = false := beq_eq_false_iff_ne.mpr (by omega)
        have e11 : (y.f1 == 11) = false := beq_eq_false_iff_ne.mpr (by omega)
        have e12 : (y.f1 == 12) = false := beq_eq_false_iff_ne.mpr (by omega)
        have e13 : (y.f1 == 13) = false := beq_eq_false_iff_ne.mpr (by omega)
        have e14 : (y.f1 == 14) = false := beq_eq_false_iff_ne.mpr (by omega)
        have e23 : (y.f1 == 23) = false := beq_eq_false_iff_ne.mpr (by omega)
        have e25 : (y.f1 == 25) = false := beq_eq_false_iff_ne.mpr (by omega)
        have e24 : (y.f1 == 24) = false := beq_eq_false_iff_ne.mpr (by omega)
        have e15 : (y.f1 == 15) = false := beq_eq_false_iff_ne.mpr (by omega)
        have e16 : (y.f1 == 16) = false := beq_eq_false_iff_ne.mpr (by omega)
        have e17 : (y.f1 == 17) = false := beq_eq_false_iff_ne.mpr (by omega)
        have e18 : (y.f1 == 18) = false := beq_eq_false_iff_ne.mpr (by omega)
        have e19 : (y.f1 == 19) = false := beq_eq_false_iff_ne.mpr (by omega)
        have e20 : (y.f1 == 20) = false := beq_eq_false_iff_ne.mpr (by omega)
        have e21 : (y.f1 == 21) = false := beq_eq_false_iff_ne.mpr (by omega)
        have e22 : (y.f1 == 22) = false := beq_eq_false_iff_ne.mpr (by omega)
        have e26 : (y.f1 == 26) = false := beq_eq_false_iff_ne.mpr (by omega)
        have e27 : (y.f1 == 27) = false := beq_eq_false_iff_ne.mpr (by omega)
        have e3 : (y.f1 == 3) = false := beq_eq_false_iff_ne.mpr (by omega)
        have e6 : (y.f1 == 6) = false := beq_eq_false_iff_ne.mpr (by omega)
        have e4 : (y.f1 == 4) = false := beq_eq_false_iff_ne.mpr (by omega)
        have e5 : (y.f1 == 5) = false := beq_eq_false_iff_ne.mpr (by omega)
        clear hk hnr
        go_wp2_with fail
        go_ret
        exact ⟨by rw [HNr.out]; try rfl, HBe.out⟩
end Go.Proofs.YtonnmkhmhndalaaDoor
end
