/- Which nodes may be, walked. -/
import Derived.Test.YtonnmkhmhndalaaDoorMgC
import Derived.Test.YtonnmkhmhndalaaDoorMgB
namespace Go.Proofs.YtonnmkhmhndalaaDoor
set_option linter.unusedVariables false
set_option linter.unusedSimpArgs false
open Go.RowKit Go.Proofs.YtonnmkhmhndalaaDoorW.PrintWords Go.Proofs.YtonnmkhmhndalaaDoorW.PrintLast Go.Proofs.YtonnmkhmhndalaaDoorW.PrintMore

/-- all that hold of a node whose parts are there -/
structure YOk (x : NL) (y : S39) : Prop where
  n : x.nd.length ≤ 4096
  w : ∀ s ∈ x.nd, 1 ≤ s.f2 ∧ s.f2 ≤ 256
  i : ∀ i ∈ y.f3, 0 ≤ i ∧ i < x.nd.length
  z : y.f4.size ≤ 9223372036854775807
  l : y.f3.length * 8 ≤ 140737488355328
theorem YOk.ws {x : NL} {y : S39} (h : YOk x y) : ∀ a ∈ wsOf x.nd y, 1 ≤ a ∧ a ≤ 256 := by
  intro a ha
  obtain ⟨i, hi, rfl⟩ := List.mem_map.1 ha
  have := h.i i hi
  have hlt : i.toNat < x.nd.length := by omega
  unfold wAt
  rw [List.getD_eq_getElem?_getD, List.getElem?_eq_getElem hlt]
  exact h.w _ (List.getElem_mem _)
theorem wsOf_len (x : NL) (y : S39) : (wsOf x.nd y).length = y.f3.length := List.length_map _
/-- the bare node -/
def bareOk (W : World) (b : Nat) (f1 : Int) (f4 : ByteArray) (f5 f6 f7 : Int) : Prop :=
  W.cell? ⟨b, 1, none⟩ = some (.int .i64 f1) ∧ W.cell? ⟨b, 4, none⟩ = some (.string f4) ∧ W.cell? ⟨b, 5, none⟩ = some (.int .i64 f5) ∧ W.cell? ⟨b, 6, none⟩ = some (.int .i64 f6) ∧ W.cell? ⟨b, 7, none⟩ = some (.int .i64 f7)

theorem row_at {W : World} {base n cap : Nat} {ok : Nat → Prop} {A : Option Addr} {ws : List Int} (h : Kd.R (Kd.int .i64) 3 W base ok (.slice A n cap) ws) (hp : 0 < ws.length) : ∃ g, A = some ⟨g, 0, none⟩ ∧ ∀ j, j < ws.length → W.cell? ⟨g, j, none⟩ = some (.int .i64 (ws.getD j 0)) := by
  obtain ⟨g, cap', hA, -, -, -⟩ := Kd.R_form h hp
  injection hA with h1 h2 h3
  subst h1
  refine ⟨g, rfl, fun j hj => ?_⟩
  have hc := (Kd.R_celln (0 : Int) h (j : Int) (by omega) (by omega)).1
  rw [Int.toNat_natCast] at hc
  rw [hc]
  unfold rdOf
  rw [Int.toNat_natCast]
theorem bare_drew {W : World} {b : Nat} {f1 : Int} {f4 : ByteArray} {f5 f6 f7 : Int} (h : bareOk W b f1 f4 f5 f6 f7) : bareOk W.drew b f1 f4 f5 f6 f7 := h
theorem op_any (y : S39) (A3 : Option Addr) (c3 : Nat) (Av : Option Addr) (cv : Nat) (ws : List Int) (W : World) (hC : Kd.C (Kd.int .i64) W A3 y.f3.length y.f3) (hc : y.f3.length ≤ c3) (hW : Kd.C (Kd.int .i64) W Av ws.length ws) (hcv : ws.length ≤ cv) (hw : ∀ a ∈ ws, 1 ≤ a ∧ a ≤ 256) (hl : ws.length * 8 ≤ 140737488355328) :
    Calls Tryd.prog 54 #[ndV y A3 c3, .slice Av ws.length cv] W fun e w' => e = .returned (.int .i64 (opW y.f1 y.f5 y.f6 ws)) ∧ Below W.heap.size W w' :=
  lower_operated.calls (ws.length + 10) _ _ _ A3 c3 y.f3 _ _ _ _ Av cv ws _ W hC hc hW hcv (op_f y ws hw hl)
theorem zero_bare (y : S39) : zeroB y = (decide ((if y.f0 = 3 then 0 else y.f1) = 0) && (decide ((if y.f0 = 1 then (⟨#[]⟩ : ByteArray) else y.f4).toList = []) && (decide ((if y.f0 = 3 ∧ y.f1 = 4 then 0 else y.f5) = 0) && (decide ((if y.f0 = 3 ∧ y.f1 = 4 then 0 else y.f6) = 0) && decide ((if y.f0 = 8 then 0 else y.f7) = 0))))) := by
  unfold zeroB
  by_cases a3 : y.f0 = 3 <;> by_cases a1 : y.f0 = 1 <;> by_cases a8 : y.f0 = 8 <;> by_cases a4 : y.f1 = 4 <;> simp [*, Bool.and_assoc] <;> rfl

set_option maxRecDepth 100000 in
set_option maxHeartbeats 4000000 in
theorem lmay_any (x : NL) (A : Option Addr) (c : Nat) (B : Option Addr) (d : Nat) (y : S39) (A3 : Option Addr) (c3 : Nat) (w : World) (hI : NIn w x A c B d) (hC : Kd.C (Kd.int .i64) w A3 y.f3.length y.f3) (hc : y.f3.length ≤ c3) (hY : YOk x y) :
    Calls Tryd.prog 47 #[nlV x A c B d, ndV y A3 c3] w fun e w' => e = .returned (.bool (nodeB (wsOf x.nd y) y && zeroB y)) ∧ Below w.heap.size w w' := by
  have HI := Lib.hid hI
  have HC := Lib.hid hC
  have HY := Lib.hid hY
  obtain ⟨ws, hws⟩ : ∃ ws, wsOf x.nd y = ws := ⟨_, rfl⟩
  have hwb : ∀ a ∈ ws, 1 ≤ a ∧ a ≤ 256 := by rw [← hws]; exact hY.ws
  have hwl : ws.length = y.f3.length := by rw [← hws]; exact wsOf_len x y
  have HWs := Lib.hid hws
  have HWb := Lib.hid hwb
  have HWl := Lib.hid hwl
  rw [hws]
  clear hI hC hY hws hwb hwl
  go_enter Tryd.func47, Tryd.ntmps47
  go_upto_region 1 with fail
  obtain ⟨W0, hW0⟩ : ∃ W, w.alloc (Obj.cells #[.slice A x.nd.length c, .slice B x.nt.length d, .int .i64 x.pt] 25) = W := ⟨_, rfl⟩
  rw [hW0]
  obtain ⟨hx0, hb0, hz0⟩ := box_list hW0
  obtain ⟨W1, hW1⟩ : ∃ W, W0.alloc (Obj.cells #[Value.int IntKind.i64 y.f0, Value.int IntKind.i64 y.f1, Value.int IntKind.i64 y.f2, Value.slice A3 y.f3.length c3, Value.string y.f4, Value.int IntKind.i64 y.f5, Value.int IntKind.i64 y.f6, Value.int IntKind.i64 y.f7] 39) = W := ⟨_, rfl⟩
  rw [hW1]
  obtain ⟨hn1, hb1⟩ := box_node (Kd.C_below HC.out hb0) hW1
  have hx1 := hx0.below hb1
  rw [hz0] at hn1
  have k3 := hn1.k3
  have hz1 : W1.heap.size = w.heap.size + 2 := by rw [← hW1]; simp; omega
  have HX1 := Lib.hid hx1
  have HN1 := Lib.hid hn1
  have HB1 := Lib.hid (hb0.trans (hb1.mono (by omega)))
  have HZ0 := Lib.hid hz0
  have HZ1 := Lib.hid hz1
  clear hx0 hb0 hz0 hb1 hn1 hx1 hz1 hW0 hW1
  obtain ⟨m, hm⟩ : ∃ m, y.f3.length = m := ⟨_, rfl⟩
  rw [hm] at k3
  have HM := Lib.hid hm
  clear hm
  go_upto_region 2 with fail
  go_wp2_with fail
  clear k3
  go_loopw [5, 13] (fun v5 v13 wx => ∃ i : Nat, v13 = .int .i64 i ∧ i ≤ m ∧ Hid (Kd.R (Kd.int .i64) 3 wx W1.heap.size (fun _ => True) v5 (ws.take i)) ∧ Hid (Below W1.heap.size W1 wx)) (fun _ v13 _ => m - (intOf v13).toNat)
  case atStart => exact ⟨0, rfl, Nat.zero_le _, Lib.hid (by rw [List.take_zero]; exact Kd.R_nil _ _ _ _ _), Lib.hid (Below.refl _ _)⟩
  case round =>
    obtain ⟨i, rfl, hi, HRx, HBx⟩ := hrel
    by_cases hlt : i < m
    · have hi3 : i < y.f3.length := by rw [HM.out]; exact hlt
      have hBw : Below w.heap.size w wr := HB1.out.trans (HBx.out.mono (by have := HZ1.out; omega))
      obtain ⟨b6, o6, hA6, g6, -⟩ := ints_at (Kd.C_below HC.out hBw) i hi3
      have hmem : y.f3.getD i 0 ∈ y.f3 := by rw [List.getD_eq_getElem?_getD, List.getElem?_eq_getElem hi3]; exact List.getElem_mem _
      have hin := HY.out.i _ hmem
      obtain ⟨a, ha⟩ : ∃ a : Nat, y.f3.getD i 0 = (a : Int) := ⟨(y.f3.getD i 0).toNat, by omega⟩
      have han : a < x.nd.length := by rw [ha] at hin; omega
      rw [ha] at g6
      subst hA6
      obtain ⟨b, o, A4, c4, hA, hl4, hbs, hND⟩ := nodes_in HI.out.h0 a han
      subst hA
      have k2 := (hND _ hBw).k2
      have q0 := (HX1.out.belowB HBx.out (by have := HZ1.out; omega)).k0
      have hii : i < ws.length := by rw [HWl.out]; exact hi3
      have htk : ws.take (i + 1) = ws.take i ++ [(x.nd.getD a z39).f2] := by
        rw [List.take_succ_eq_append_getElem hii]
        congr 2
        have e1 : ws[i] = wAt x.nd (y.f3.getD i 0) := by
          have : ws[i]? = some (wAt x.nd y.f3[i]) := by
            rw [← HWs.out]
            unfold wsOf
            rw [List.getElem?_map, List.getElem?_eq_getElem hi3]
            rfl
          rw [List.getElem?_eq_getElem hii] at this
          rw [Option.some.inj this, List.getD_eq_getElem?_getD, List.getElem?_eq_getElem hi3]
          rfl
        rw [e1, ha]
        unfold wAt
        rw [Int.toNat_natCast]
      obtain ⟨Av, cv, rfl⟩ := Kd.R_slice HRx.out
      have htl : (ws.take i).length ≤ i := List.length_take_le _ _
      have hml : m * 8 ≤ 140737488355328 := by rw [← HM.out]; exact HY.out.l
      generalize (x.nd.getD a z39).f2 = wa at *
      generalize ws.take i = wi at *
      have HTk := Lib.hid htk
      have HTl := Lib.hid htl
      have HMl := Lib.hid hml
      have HBw := Lib.hid hBw
      have HLt := Lib.hid hlt
      clear hmem hin ha hND hbs hl4 hii htk htl hBw hi3
      go_upto_region 5 with fail
      go_wp2_with (first | fail | ((with_reducible refine gate_builtin (b := .append) (xs := #[.tmp 17, .tmp 24]) rfl ?_); at_builtin; refine Kd.R_append (Kd.int .i64) (w0 := wr) W1.heap.size rfl (.tmp 17) (.tmp 24) 23 3 (.int .i64 0) 8 rfl Tryd.underlying23 info3 rfl (by decide) (by decide) (.slice Av wi.length cv) wi wa [.int .i64 wa] (fun _ => True) (fun _ => False) rfl rfl ?aP (fun _ hk => hk.elim) (fun _ _ => trivial) ?aO ?aB ?aS ?aL ?_; (case aP => exact kI_mkM _ _ _ _); (case aO => exact HRx.out); (case aB => exact Below.refl _ _); (case aS => exact HBx.out.size); (case aL => have := HTl.out; have := HMl.out; have := HLt.out; omega); intro v1 w9 ho hb hg hat; have HO := Lib.hid ho; have HBo := Lib.hid hb; clear ho hb hg hat))
      refine ⟨⟨i + 1, by simp, HLt.out, by rw [HTk.out]; exact HO, Lib.hid (HBx.out.trans HBo.out)⟩, by have := HLt.out; simp [intOf]; omega⟩
    · obtain rfl : i = m := by omega
      have hNx := HN1.out.below HBx.out
      have HNx := Lib.hid hNx
      obtain ⟨k0, k1, k2, k3, k4, k5, k6, k7, -⟩ := HNx.out
      have hR := HRx.out
      have hti : ws.take i = ws := by rw [List.take_of_length_le (by rw [HWl.out, HM.out]; exact Nat.le_refl _)]
      rw [hti] at hR
      obtain ⟨Av, cv, rfl⟩ := Kd.R_slice hR
      have HR := Lib.hid hR
      clear hR hti hNx hlt hi
      go_upto_region 8 with fail
      obtain ⟨W7, hW7⟩ : ∃ W, wr.alloc (Obj.cells #[Value.int IntKind.i64 y.f0, Value.int IntKind.i64 y.f1, Value.int IntKind.i64 y.f2, Value.slice A3 y.f3.length c3, Value.string y.f4, Value.int IntKind.i64 y.f5, Value.int IntKind.i64 y.f6, Value.int IntKind.i64 y.f7] 39) = W := ⟨_, rfl⟩
      rw [hW7]
      have z0 : W7.cell? ⟨wr.heap.size, 0, none⟩ = some (.int .i64 y.f0) := by rw [← hW7]; simp [go_sem]
      have z1 : W7.cell? ⟨wr.heap.size, 1, none⟩ = some (.int .i64 y.f1) := by rw [← hW7]; simp [go_sem]
      have z2 : W7.cell? ⟨wr.heap.size, 2, none⟩ = some (.int .i64 y.f2) := by rw [← hW7]; simp [go_sem]
      have z3 : W7.cell? ⟨wr.heap.size, 3, none⟩ = some (.slice A3 y.f3.length c3) := by rw [← hW7]; simp [go_sem]
      have z4 : W7.cell? ⟨wr.heap.size, 4, none⟩ = some (.string y.f4) := by rw [← hW7]; simp [go_sem]
      have z5 : W7.cell? ⟨wr.heap.size, 5, none⟩ = some (.int .i64 y.f5) := by rw [← hW7]; simp [go_sem]
      have z6 : W7.cell? ⟨wr.heap.size, 6, none⟩ = some (.int .i64 y.f6) := by rw [← hW7]; simp [go_sem]
      have z7 : W7.cell? ⟨wr.heap.size, 7, none⟩ = some (.int .i64 y.f7) := by rw [← hW7]; simp [go_sem]
      have zf : ∀ q, W7.frozen? ⟨wr.heap.size, q, none⟩ = false := by intro q; rw [← hW7]; simp [go_sem]
      have f3 := zf 3
      have f2 := zf 2
      have f0 := zf 0
      have hb7 : Below wr.heap.size wr W7 := by rw [← hW7]; exact below_alloc (Below.refl _ _) _
      have HB7 := Lib.hid hb7
      have HZf := Lib.hid zf
      clear zf hb7 hW7 k0 k1 k2 k3 k4 k5 k6 k7
      go_upto_region 10 with fail
      obtain ⟨W8, hW8⟩ : ∃ W, ((W7.setCell ⟨wr.heap.size, 3, none⟩ (.slice none 0 0)).setCell ⟨wr.heap.size, 2, none⟩ (.int .i64 0)).setCell ⟨wr.heap.size, 0, none⟩ (.int .i64 0) = W := ⟨_, rfl⟩
      rw [hW8]
      have hb8 : Below wr.heap.size wr W8 := by rw [← hW8]; exact below_set2 (Nat.le_refl _) (below_set2 (Nat.le_refl _) (below_set2 (Nat.le_refl _) HB7.out))
      have y1 : W8.cell? ⟨wr.heap.size, 1, none⟩ = some (.int .i64 y.f1) := by rw [← hW8, cell_ne (by decide), cell_ne (by decide), cell_ne (by decide)]; exact z1
      have y4 : W8.cell? ⟨wr.heap.size, 4, none⟩ = some (.string y.f4) := by rw [← hW8, cell_ne (by decide), cell_ne (by decide), cell_ne (by decide)]; exact z4
      have y5 : W8.cell? ⟨wr.heap.size, 5, none⟩ = some (.int .i64 y.f5) := by rw [← hW8, cell_ne (by decide), cell_ne (by decide), cell_ne (by decide)]; exact z5
      have y6 : W8.cell? ⟨wr.heap.size, 6, none⟩ = some (.int .i64 y.f6) := by rw [← hW8, cell_ne (by decide), cell_ne (by decide), cell_ne (by decide)]; exact z6
      have y7 : W8.cell? ⟨wr.heap.size, 7, none⟩ = some (.int .i64 y.f7) := by rw [← hW8, cell_ne (by decide), cell_ne (by decide), cell_ne (by decide)]; exact z7
      have g1 : W8.frozen? ⟨wr.heap.size, 1, none⟩ = false := by rw [← hW8, froz_set, froz_set, froz_set]; exact HZf.out 1
      have g4 : W8.frozen? ⟨wr.heap.size, 4, none⟩ = false := by rw [← hW8, froz_set, froz_set, froz_set]; exact HZf.out 4
      have g5 : W8.frozen? ⟨wr.heap.size, 5, none⟩ = false := by rw [← hW8, froz_set, froz_set, froz_set]; exact HZf.out 5
      have g6 : W8.frozen? ⟨wr.heap.size, 6, none⟩ = false := by rw [← hW8, froz_set, froz_set, froz_set]; exact HZf.out 6
      have g7 : W8.frozen? ⟨wr.heap.size, 7, none⟩ = false := by rw [← hW8, froz_set, froz_set, froz_set]; exact HZf.out 7
      have hN8 := HNx.out.below hb8
      have HN8 := Lib.hid hN8
      obtain ⟨k0, k1, k2, k3, k4, k5, k6, k7, -⟩ := hN8
      have HB8 := Lib.hid hb8
      have HR8 := Lib.hid (Kd.R_below HR.out hb8)
      clear hb8 hW8 z0 z1 z2 z3 z4 z5 z6 z7 f0 f2 f3
      go_upto_block 2 with fail
      clear k1 k3 k5 k6
      go_cut [9] (fun s9 wx => s9 = .bool (nodeB ws y) ∧ Hid (bareOk wx wr.heap.size (if y.f0 = 3 then 0 else y.f1) (if y.f0 = 1 then ⟨#[]⟩ else y.f4) (if y.f0 = 3 ∧ y.f1 = 4 then 0 else y.f5) (if y.f0 = 3 ∧ y.f1 = 4 then 0 else y.f6) (if y.f0 = 8 then 0 else y.f7)) ∧ Hid (Below wr.heap.size wr wx))
      case first =>
        have hkk : y.f0 = 1 ∨ y.f0 = 2 ∨ y.f0 = 3 ∨ y.f0 = 4 ∨ y.f0 = 5 ∨ y.f0 = 6 ∨ y.f0 = 7 ∨ y.f0 = 8 ∨ (y.f0 < 1 ∨ 8 < y.f0) := by omega
        rcases hkk with hk | hk | hk | hk | hk | hk | hk | hk | hk
        · have hnb : nodeB ws y = (decide (ws.length = 0) && (vOk y.f4 && decide ((y.f4.size : Int) = y.f2))) := by unfold nodeB; rw [if_pos hk]
          have HNb := Lib.hid hnb
          have e1 : (y.f0 == 1) = true := by rw [hk]; rfl
          have HK1 := Lib.hid hk
          clear hk hnb g1 g5 g6 g7
          by_cases hl : ws.length = 0
          · have l0 : ((ws.length : Int) == 0) = true := by rw [hl]; rfl
            have HL := Lib.hid hl
            have hlI : (ws.length : Int) = 0 := by omega
            clear hl
            have hv := fun W => vec_any y.f4 W HY.out.z
            obtain ⟨vb, hvb⟩ : ∃ b, vOk y.f4 = b := ⟨_, rfl⟩
            rw [hvb] at hv
            have HV := Lib.hid hv
            have HVb := Lib.hid hvb
            clear hv hvb
            cases vb
            · go_upto_region 12 with fail
              go_wp2_with fail
              refine (HV.out _).mono ?_
              rintro e w9 ⟨rfl, hb9⟩
              have hlt9 := World.block_lt_of_cell? W8 _ y4
              have v1 := (hb9.cell (p := ⟨wr.heap.size, 1, none⟩) hlt9).trans y1
              have v4 := (hb9.cell (p := ⟨wr.heap.size, 4, none⟩) hlt9).trans y4
              have v5 := (hb9.cell (p := ⟨wr.heap.size, 5, none⟩) hlt9).trans y5
              have v6 := (hb9.cell (p := ⟨wr.heap.size, 6, none⟩) hlt9).trans y6
              have v7 := (hb9.cell (p := ⟨wr.heap.size, 7, none⟩) hlt9).trans y7
              have u4 := (hb9.frozen (p := ⟨wr.heap.size, 4, none⟩) hlt9).trans g4
              have hN9 := HN8.out.below hb9
              have p2 := hN9.k2
              have p4 := hN9.k4
              have HB9 := Lib.hid (HB8.out.trans (hb9.mono HB8.out.size))
              have hba : bareOk (w9.setCell ⟨wr.heap.size, 4, none⟩ (.string ⟨#[]⟩)) wr.heap.size (if y.f0 = 3 then 0 else y.f1) (if y.f0 = 1 then ⟨#[]⟩ else y.f4) (if y.f0 = 3 ∧ y.f1 = 4 then 0 else y.f5) (if y.f0 = 3 ∧ y.f1 = 4 then 0 else y.f6) (if y.f0 = 8 then 0 else y.f7) := by rw [if_neg (by have := HK1.out; omega), if_pos HK1.out, if_neg (by have := HK1.out; omega), if_neg (by have := HK1.out; omega), if_neg (by have := HK1.out; omega)]; exact ⟨(cell_ne (by decide)).trans v1, cell_eq v4, (cell_ne (by decide)).trans v5, (cell_ne (by decide)).trans v6, (cell_ne (by decide)).trans v7⟩
              have HBa := Lib.hid hba
              clear hba hN9 hb9 hlt9 v1 v5 v6 v7 y1 y4 y5 y6 y7 g4 k0 k2 k4 k7
              go_wp2_with fail
              go_meet
              exact ⟨by rw [HNb.out, HVb.out]; simp, HBa, Lib.hid (below_set2 (Nat.le_refl _) HB9.out)⟩
            · by_cases cs : (y.f4.size : Int) = y.f2
              · have d1 : ((y.f4.size : Int) == y.f2) = true := beq_iff_eq.mpr cs
                have CS := Lib.hid cs
                clear cs
                go_upto_region 12 with fail
                go_wp2_with fail
                refine (HV.out _).mono ?_
                rintro e w9 ⟨rfl, hb9⟩
                have hlt9 := World.block_lt_of_cell? W8 _ y4
                have v1 := (hb9.cell (p := ⟨wr.heap.size, 1, none⟩) hlt9).trans y1
                have v4 := (hb9.cell (p := ⟨wr.heap.size, 4, none⟩) hlt9).trans y4
                have v5 := (hb9.cell (p := ⟨wr.heap.size, 5, none⟩) hlt9).trans y5
                have v6 := (hb9.cell (p := ⟨wr.heap.size, 6, none⟩) hlt9).trans y6
                have v7 := (hb9.cell (p := ⟨wr.heap.size, 7, none⟩) hlt9).trans y7
                have u4 := (hb9.frozen (p := ⟨wr.heap.size, 4, none⟩) hlt9).trans g4
                have hN9 := HN8.out.below hb9
                have p2 := hN9.k2
                have p4 := hN9.k4
                have HB9 := Lib.hid (HB8.out.trans (hb9.mono HB8.out.size))
                have hba : bareOk (w9.setCell ⟨wr.heap.size, 4, none⟩ (.string ⟨#[]⟩)) wr.heap.size (if y.f0 = 3 then 0 else y.f1) (if y.f0 = 1 then ⟨#[]⟩ else y.f4) (if y.f0 = 3 ∧ y.f1 = 4 then 0 else y.f5) (if y.f0 = 3 ∧ y.f1 = 4 then 0 else y.f6) (if y.f0 = 8 then 0 else y.f7) := by rw [if_neg (by have := HK1.out; omega), if_pos HK1.out, if_neg (by have := HK1.out; omega), if_neg (by have := HK1.out; omega), if_neg (by have := HK1.out; omega)]; exact ⟨(cell_ne (by decide)).trans v1, cell_eq v4, (cell_ne (by decide)).trans v5, (cell_ne (by decide)).trans v6, (cell_ne (by decide)).trans v7⟩
                have HBa := Lib.hid hba
                clear hba hN9 hb9 hlt9 v1 v5 v6 v7 y1 y4 y5 y6 y7 g4 k0 k2 k4 k7
                go_wp2_with fail
                go_meet
                exact ⟨by rw [HNb.out, HVb.out, decide_eq_true CS.out, decide_eq_true HL.out]; rfl, HBa, Lib.hid (below_set2 (Nat.le_refl _) HB9.out)⟩
              · have d1 : ((y.f4.size : Int) == y.f2) = false := beq_eq_false_iff_ne.mpr cs
                have CS := Lib.hid cs
                clear cs
                go_upto_region 12 with fail
                go_wp2_with fail
                refine (HV.out _).mono ?_
                rintro e w9 ⟨rfl, hb9⟩
                have hlt9 := World.block_lt_of_cell? W8 _ y4
                have v1 := (hb9.cell (p := ⟨wr.heap.size, 1, none⟩) hlt9).trans y1
                have v4 := (hb9.cell (p := ⟨wr.heap.size, 4, none⟩) hlt9).trans y4
                have v5 := (hb9.cell (p := ⟨wr.heap.size, 5, none⟩) hlt9).trans y5
                have v6 := (hb9.cell (p := ⟨wr.heap.size, 6, none⟩) hlt9).trans y6
                have v7 := (hb9.cell (p := ⟨wr.heap.size, 7, none⟩) hlt9).trans y7
                have u4 := (hb9.frozen (p := ⟨wr.heap.size, 4, none⟩) hlt9).trans g4
                have hN9 := HN8.out.below hb9
                have p2 := hN9.k2
                have p4 := hN9.k4
                have HB9 := Lib.hid (HB8.out.trans (hb9.mono HB8.out.size))
                have hba : bareOk (w9.setCell ⟨wr.heap.size, 4, none⟩ (.string ⟨#[]⟩)) wr.heap.size (if y.f0 = 3 then 0 else y.f1) (if y.f0 = 1 then ⟨#[]⟩ else y.f4) (if y.f0 = 3 ∧ y.f1 = 4 then 0 else y.f5) (if y.f0 = 3 ∧ y.f1 = 4 then 0 else y.f6) (if y.f0 = 8 then 0 else y.f7) := by rw [if_neg (by have := HK1.out; omega), if_pos HK1.out, if_neg (by have := HK1.out; omega), if_neg (by have := HK1.out; omega), if_neg (by have := HK1.out; omega)]; exact ⟨(cell_ne (by decide)).trans v1, cell_eq v4, (cell_ne (by decide)).trans v5, (cell_ne (by decide)).trans v6, (cell_ne (by decide)).trans v7⟩
                have HBa := Lib.hid hba
                clear hba hN9 hb9 hlt9 v1 v5 v6 v7 y1 y4 y5 y6 y7 g4 k0 k2 k4 k7
                go_wp2_with fail
                go_meet
                exact ⟨by rw [HNb.out, decide_eq_false CS.out]; simp, HBa, Lib.hid (below_set2 (Nat.le_refl _) HB9.out)⟩
          · have l0 : ((ws.length : Int) == 0) = false := beq_eq_false_iff_ne.mpr (by omega)
            have HL := Lib.hid hl
            clear hl
            have hba : bareOk (W8.setCell ⟨wr.heap.size, 4, none⟩ (.string ⟨#[]⟩)) wr.heap.size (if y.f0 = 3 then 0 else y.f1) (if y.f0 = 1 then ⟨#[]⟩ else y.f4) (if y.f0 = 3 ∧ y.f1 = 4 then 0 else y.f5) (if y.f0 = 3 ∧ y.f1 = 4 then 0 else y.f6) (if y.f0 = 8 then 0 else y.f7) := by rw [if_neg (by have := HK1.out; omega), if_pos HK1.out, if_neg (by have := HK1.out; omega), if_neg (by have := HK1.out; omega), if_neg (by have := HK1.out; omega)]; exact ⟨(cell_ne (by decide)).trans y1, cell_eq y4, (cell_ne (by decide)).trans y5, (cell_ne (by decide)).trans y6, (cell_ne (by decide)).trans y7⟩
            have HBa := Lib.hid hba
            clear hba y1 y5 y6 y7
            go_wp2_with fail
            go_meet
            exact ⟨by rw [HNb.out, decide_eq_false HL.out]; simp, HBa, Lib.hid (below_set2 (Nat.le_refl _) HB8.out)⟩
        · have hnb : nodeB ws y = (decide (ws.length = 0)) := by unfold nodeB; rw [if_neg (by omega), if_pos hk]
          have HNb := Lib.hid hnb
          have e1 : (y.f0 == 1) = false := by rw [hk]; rfl
          have e2 : (y.f0 == 2) = true := by rw [hk]; rfl
          have hba : bareOk W8 wr.heap.size (if y.f0 = 3 then 0 else y.f1) (if y.f0 = 1 then ⟨#[]⟩ else y.f4) (if y.f0 = 3 ∧ y.f1 = 4 then 0 else y.f5) (if y.f0 = 3 ∧ y.f1 = 4 then 0 else y.f6) (if y.f0 = 8 then 0 else y.f7) := by
            rw [if_neg (by omega), if_neg (by omega), if_neg (by omega), if_neg (by omega), if_neg (by omega)]
            exact ⟨y1, y4, y5, y6, y7⟩
          have HBa := Lib.hid hba
          clear y1 y4 y5 y6 y7 g1 g4 g5 g6 g7 hba
          clear hk hnb
          by_cases hl : ws.length = 0
          · have l0 : ((ws.length : Int) == 0) = true := by rw [hl]; rfl
            have HL := Lib.hid hl
            clear hl
            go_wp2_with fail
            go_meet
            exact ⟨by rw [HNb.out, decide_eq_true HL.out], HBa, HB8⟩
          · have l0 : ((ws.length : Int) == 0) = false := beq_eq_false_iff_ne.mpr (by omega)
            have HL := Lib.hid hl
            clear hl
            go_wp2_with fail
            go_meet
            exact ⟨by rw [HNb.out, decide_eq_false HL.out], HBa, HB8⟩
        · have hnb : nodeB ws y = (decide (opW y.f1 y.f5 y.f6 ws = y.f2)) := by unfold nodeB; rw [if_neg (by omega), if_neg (by omega), if_pos hk]
          have HNb := Lib.hid hnb
          have e1 : (y.f0 == 1) = false := by rw [hk]; rfl
          have e2 : (y.f0 == 2) = false := by rw [hk]; rfl
          have e3 : (y.f0 == 3) = true := by rw [hk]; rfl
          have HK3 := Lib.hid hk
          obtain ⟨j0, j1, j2, j3, j4, j5, j6, j7, jC⟩ := HN8.out
          have hop : ∀ p : BelowBy W8, Calls Tryd.prog 54 #[ndV y A3 c3, .slice Av ws.length cv] p.W fun e w' => e = .returned (.int .i64 (opW y.f1 y.f5 y.f6 ws)) ∧ Below p.W.heap.size p.W w' := by
            intro p
            obtain ⟨hn, hcv, hCw⟩ := Kd.R_reads' HR8.out
            exact op_any y A3 c3 Av cv ws p.W (Kd.C_below jC p.h) hc (Kd.C_below hCw p.h) hcv HWb.out (by rw [HWl.out]; exact HY.out.l)
          obtain ⟨ow, how⟩ : ∃ o, opW y.f1 y.f5 y.f6 ws = o := ⟨_, rfl⟩
          rw [how] at hop
          have HOp := Lib.hid hop
          have HOw := Lib.hid how
          have p0 : ∀ p : BelowBy W8, p.W.cell? ⟨w.heap.size + 1, 0, none⟩ = some (.int .i64 y.f0) := fun p => p.cell j0
          have p1 : ∀ p : BelowBy W8, p.W.cell? ⟨w.heap.size + 1, 1, none⟩ = some (.int .i64 y.f1) := fun p => p.cell j1
          have p2 : ∀ p : BelowBy W8, p.W.cell? ⟨w.heap.size + 1, 2, none⟩ = some (.int .i64 y.f2) := fun p => p.cell j2
          have p3 : ∀ p : BelowBy W8, p.W.cell? ⟨w.heap.size + 1, 3, none⟩ = some (.slice A3 y.f3.length c3) := fun p => p.cell j3
          have p4 : ∀ p : BelowBy W8, p.W.cell? ⟨w.heap.size + 1, 4, none⟩ = some (.string y.f4) := fun p => p.cell j4
          have p5 : ∀ p : BelowBy W8, p.W.cell? ⟨w.heap.size + 1, 5, none⟩ = some (.int .i64 y.f5) := fun p => p.cell j5
          have p6 : ∀ p : BelowBy W8, p.W.cell? ⟨w.heap.size + 1, 6, none⟩ = some (.int .i64 y.f6) := fun p => p.cell j6
          have p7 : ∀ p : BelowBy W8, p.W.cell? ⟨w.heap.size + 1, 7, none⟩ = some (.int .i64 y.f7) := fun p => p.cell j7
          clear hk hnb hop how j0 j1 j2 j3 j4 j5 j6 j7 jC k0 k2 k4 k7 g4 g7
          obtain ⟨bq, hbq⟩ : ∃ bq, (ow == y.f2) = bq := ⟨_, rfl⟩
          go_upto_region 17 with fail
          refine region_below (by kernel_rfl) (by kernel_rfl) ?_
          repeat (quiet_step (with_reducible first | exact call_below _ (HOp.out _) | fail))
          refine wpQuiet_nil ?_
          rintro _ ⟨p, rfl⟩
          have hlt9 := World.block_lt_of_cell? W8 _ y4
          have v1 := p.cell y1
          have v4 := p.cell y4
          have v5 := p.cell y5
          have v6 := p.cell y6
          have v7 := p.cell y7
          have u1 := (p.h.frozen (p := ⟨wr.heap.size, 1, none⟩) hlt9).trans g1
          have u5 := (p.h.frozen (p := ⟨wr.heap.size, 5, none⟩) hlt9).trans g5
          have u6 := (p.h.frozen (p := ⟨wr.heap.size, 6, none⟩) hlt9).trans g6
          have hN9 := HN8.out.below p.h
          have p1' := hN9.k1
          have HB9 := Lib.hid (HB8.out.trans (p.h.mono HB8.out.size))
          generalize p.W = W9 at *
          clear p0 p1 p2 p3 p4 p5 p6 p7 hN9 hlt9 y1 y4 y5 y6 y7 g1 g5 g6
          have hnq : nodeB ws y = bq := by
            rw [HNb.out, HOw.out, ← hbq]
            by_cases q : ow = y.f2
            · rw [decide_eq_true q, beq_iff_eq.mpr q]
            · rw [decide_eq_false q, beq_eq_false_iff_ne.mpr q]
          have HNq := Lib.hid hnq
          clear hnq
          go_upto_region 19 with fail
          obtain ⟨W10, hW10⟩ : ∃ W, W9.setCell ⟨wr.heap.size, 1, none⟩ (.int .i64 0) = W := ⟨_, rfl⟩
          rw [hW10]
          have t1 : W10.cell? ⟨wr.heap.size, 1, none⟩ = some (.int .i64 0) := by rw [← hW10]; exact cell_eq v1
          have t4 : W10.cell? ⟨wr.heap.size, 4, none⟩ = some (.string y.f4) := by rw [← hW10]; exact (cell_ne (by decide)).trans v4
          have t5 : W10.cell? ⟨wr.heap.size, 5, none⟩ = some (.int .i64 y.f5) := by rw [← hW10]; exact (cell_ne (by decide)).trans v5
          have t6 : W10.cell? ⟨wr.heap.size, 6, none⟩ = some (.int .i64 y.f6) := by rw [← hW10]; exact (cell_ne (by decide)).trans v6
          have t7 : W10.cell? ⟨wr.heap.size, 7, none⟩ = some (.int .i64 y.f7) := by rw [← hW10]; exact (cell_ne (by decide)).trans v7
          have s5 : W10.frozen? ⟨wr.heap.size, 5, none⟩ = false := by rw [← hW10, froz_set]; exact u5
          have s6 : W10.frozen? ⟨wr.heap.size, 6, none⟩ = false := by rw [← hW10, froz_set]; exact u6
          have hb10 : Below wr.heap.size wr W10 := by rw [← hW10]; exact below_set2 (Nat.le_refl _) HB9.out
          have l1 := (HNx.out.below hb10).k1
          have HB10 := Lib.hid hb10
          clear hW10 hb10 v1 v4 v5 v6 v7 u1 u5 u6 p1'
          by_cases h4 : y.f1 = 4
          · have d4 : (y.f1 == 4) = true := beq_iff_eq.mpr h4
            have H4 := Lib.hid h4
            clear h4
            have hba : bareOk ((W10.setCell ⟨wr.heap.size, 5, none⟩ (.int .i64 0)).setCell ⟨wr.heap.size, 6, none⟩ (.int .i64 0)) wr.heap.size (if y.f0 = 3 then 0 else y.f1) (if y.f0 = 1 then ⟨#[]⟩ else y.f4) (if y.f0 = 3 ∧ y.f1 = 4 then 0 else y.f5) (if y.f0 = 3 ∧ y.f1 = 4 then 0 else y.f6) (if y.f0 = 8 then 0 else y.f7) := by
              rw [if_pos HK3.out, if_neg (by have := HK3.out; omega), if_pos ⟨HK3.out, H4.out⟩, if_pos ⟨HK3.out, H4.out⟩, if_neg (by have := HK3.out; omega)]
              exact ⟨((cell_ne (by decide)).trans (cell_ne (by decide))).trans t1, ((cell_ne (by decide)).trans (cell_ne (by decide))).trans t4, (cell_ne (by decide)).trans (cell_eq t5), cell_eq ((cell_ne (by decide)).trans t6), ((cell_ne (by decide)).trans (cell_ne (by decide))).trans t7⟩
            have HBa := Lib.hid hba
            clear hba
            go_wp2_with fail
            go_meet
            exact ⟨by rw [HNq.out], HBa, Lib.hid (below_set2 (Nat.le_refl _) (below_set2 (Nat.le_refl _) HB10.out))⟩
          · have d4 : (y.f1 == 4) = false := beq_eq_false_iff_ne.mpr h4
            have H4 := Lib.hid h4
            clear h4
            have hba : bareOk W10 wr.heap.size (if y.f0 = 3 then 0 else y.f1) (if y.f0 = 1 then ⟨#[]⟩ else y.f4) (if y.f0 = 3 ∧ y.f1 = 4 then 0 else y.f5) (if y.f0 = 3 ∧ y.f1 = 4 then 0 else y.f6) (if y.f0 = 8 then 0 else y.f7) := by
              rw [if_pos HK3.out, if_neg (by have := HK3.out; omega), if_neg (fun h => H4.out h.2), if_neg (fun h => H4.out h.2), if_neg (by have := HK3.out; omega)]
              exact ⟨t1, t4, t5, t6, t7⟩
            have HBa := Lib.hid hba
            clear hba t1 t4 t5 t6 t7 s5 s6
            go_wp2_with fail
            go_meet
            exact ⟨by rw [HNq.out], HBa, HB10⟩
        · have hnb : nodeB ws y = (decide (ws.length = 3) && (decide (ws.getD 1 0 = y.f2) && decide (ws.getD 2 0 = y.f2))) := by unfold nodeB; rw [if_neg (by omega), if_neg (by omega), if_neg (by omega), if_pos hk]
          have HNb := Lib.hid hnb
          have e1 : (y.f0 == 1) = false := by rw [hk]; rfl
          have e2 : (y.f0 == 2) = false := by rw [hk]; rfl
          have e3 : (y.f0 == 3) = false := by rw [hk]; rfl
          have e4 : (y.f0 == 4) = true := by rw [hk]; rfl
          have hba : bareOk W8 wr.heap.size (if y.f0 = 3 then 0 else y.f1) (if y.f0 = 1 then ⟨#[]⟩ else y.f4) (if y.f0 = 3 ∧ y.f1 = 4 then 0 else y.f5) (if y.f0 = 3 ∧ y.f1 = 4 then 0 else y.f6) (if y.f0 = 8 then 0 else y.f7) := by
            rw [if_neg (by omega), if_neg (by omega), if_neg (by omega), if_neg (by omega), if_neg (by omega)]
            exact ⟨y1, y4, y5, y6, y7⟩
          have HBa := Lib.hid hba
          clear y1 y4 y5 y6 y7 g1 g4 g5 g6 g7 hba
          clear hk hnb
          by_cases hl : ws.length = 3
          · have l0 : ((ws.length : Int) == 3) = true := by rw [hl]; rfl
            obtain ⟨g, hA, hcs⟩ := row_at HR8.out (by omega)
            subst hA
            have w0 := hcs 0 (by omega)
            have w1 := hcs 1 (by omega)
            have w2 := hcs 2 (by omega)
            clear hcs
            have HL := Lib.hid hl
            have hlI : (ws.length : Int) = 3 := by omega
            clear hl
            generalize ws.getD 0 0 = x0 at *
            generalize ws.getD 1 0 = x1 at *
            generalize ws.getD 2 0 = x2 at *
            by_cases c0 : x1 = y.f2
            · have d0 : (x1 == y.f2) = true := by first | exact beq_iff_eq.mpr c0 | exact decide_eq_true c0
              have C0 := Lib.hid c0
              clear c0
              by_cases c1 : x2 = y.f2
              · have d1 : (x2 == y.f2) = true := by first | exact beq_iff_eq.mpr c1 | exact decide_eq_true c1
                have C1 := Lib.hid c1
                clear c1
                go_upto_region 22 with fail; go_region; go_wp2_with fail
                go_meet
                exact ⟨by rw [HNb.out, decide_eq_true HL.out, decide_eq_true C0.out, decide_eq_true C1.out]; rfl, Lib.hid (bare_drew HBa.out), Lib.hid HB8.out.drew⟩
              · have d1 : (x2 == y.f2) = false := by first | exact beq_eq_false_iff_ne.mpr c1 | exact decide_eq_false c1
                have C1 := Lib.hid c1
                clear c1
                go_upto_region 22 with fail; go_region; go_wp2_with fail
                go_meet
                exact ⟨by rw [HNb.out, decide_eq_true HL.out, decide_eq_true C0.out, decide_eq_false C1.out]; simp, Lib.hid (bare_drew HBa.out), Lib.hid HB8.out.drew⟩
            · have d0 : (x1 == y.f2) = false := by first | exact beq_eq_false_iff_ne.mpr c0 | exact decide_eq_false c0
              have C0 := Lib.hid c0
              clear c0
              go_upto_region 22 with fail; go_region; go_wp2_with fail
              go_meet
              exact ⟨by rw [HNb.out, decide_eq_true HL.out, decide_eq_false C0.out]; simp, Lib.hid (bare_drew HBa.out), Lib.hid HB8.out.drew⟩
          · have l0 : ((ws.length : Int) == 3) = false := beq_eq_false_iff_ne.mpr (by omega)
            have HL := Lib.hid hl
            clear hl
            go_upto_region 22 with fail; go_region; go_wp2_with fail
            go_meet
            exact ⟨by rw [HNb.out, decide_eq_false HL.out]; simp, Lib.hid (bare_drew HBa.out), Lib.hid HB8.out.drew⟩
        · have hnb : nodeB ws y = (decide (ws.length = 2) && (decide (ws.getD 0 0 = ws.getD 1 0) && decide (y.f2 = 1))) := by unfold nodeB; rw [if_neg (by omega), if_neg (by omega), if_neg (by omega), if_neg (by omega), if_pos hk]
          have HNb := Lib.hid hnb
          have e1 : (y.f0 == 1) = false := by rw [hk]; rfl
          have e2 : (y.f0 == 2) = false := by rw [hk]; rfl
          have e3 : (y.f0 == 3) = false := by rw [hk]; rfl
          have e4 : (y.f0 == 4) = false := by rw [hk]; rfl
          have e5 : (y.f0 == 5) = true := by rw [hk]; rfl
          have hba : bareOk W8 wr.heap.size (if y.f0 = 3 then 0 else y.f1) (if y.f0 = 1 then ⟨#[]⟩ else y.f4) (if y.f0 = 3 ∧ y.f1 = 4 then 0 else y.f5) (if y.f0 = 3 ∧ y.f1 = 4 then 0 else y.f6) (if y.f0 = 8 then 0 else y.f7) := by
            rw [if_neg (by omega), if_neg (by omega), if_neg (by omega), if_neg (by omega), if_neg (by omega)]
            exact ⟨y1, y4, y5, y6, y7⟩
          have HBa := Lib.hid hba
          clear y1 y4 y5 y6 y7 g1 g4 g5 g6 g7 hba
          clear hk hnb
          by_cases hl : ws.length = 2
          · have l0 : ((ws.length : Int) == 2) = true := by rw [hl]; rfl
            obtain ⟨g, hA, hcs⟩ := row_at HR8.out (by omega)
            subst hA
            have w0 := hcs 0 (by omega)
            have w1 := hcs 1 (by omega)
            clear hcs
            have HL := Lib.hid hl
            have hlI : (ws.length : Int) = 2 := by omega
            clear hl
            generalize ws.getD 0 0 = x0 at *
            generalize ws.getD 1 0 = x1 at *
            by_cases c0 : x0 = x1
            · have d0 : (x0 == x1) = true := by first | exact beq_iff_eq.mpr c0 | exact decide_eq_true c0
              have C0 := Lib.hid c0
              clear c0
              by_cases c1 : y.f2 = 1
              · have d1 : (y.f2 == 1) = true := by first | exact beq_iff_eq.mpr c1 | exact decide_eq_true c1
                have C1 := Lib.hid c1
                clear c1
                go_upto_region 24 with fail; go_region; go_wp2_with fail
                go_meet
                exact ⟨by rw [HNb.out, decide_eq_true HL.out, decide_eq_true C0.out, decide_eq_true C1.out]; rfl, Lib.hid (bare_drew HBa.out), Lib.hid HB8.out.drew⟩
              · have d1 : (y.f2 == 1) = false := by first | exact beq_eq_false_iff_ne.mpr c1 | exact decide_eq_false c1
                have C1 := Lib.hid c1
                clear c1
                go_upto_region 24 with fail; go_region; go_wp2_with fail
                go_meet
                exact ⟨by rw [HNb.out, decide_eq_true HL.out, decide_eq_true C0.out, decide_eq_false C1.out]; simp, Lib.hid (bare_drew HBa.out), Lib.hid HB8.out.drew⟩
            · have d0 : (x0 == x1) = false := by first | exact beq_eq_false_iff_ne.mpr c0 | exact decide_eq_false c0
              have C0 := Lib.hid c0
              clear c0
              go_upto_region 24 with fail; go_region; go_wp2_with fail
              go_meet
              exact ⟨by rw [HNb.out, decide_eq_true HL.out, decide_eq_false C0.out]; simp, Lib.hid (bare_drew HBa.out), Lib.hid HB8.out.drew⟩
          · have l0 : ((ws.length : Int) == 2) = false := beq_eq_false_iff_ne.mpr (by omega)
            have HL := Lib.hid hl
            clear hl
            go_upto_region 24 with fail; go_region; go_wp2_with fail
            go_meet
            exact ⟨by rw [HNb.out, decide_eq_false HL.out]; simp, Lib.hid (bare_drew HBa.out), Lib.hid HB8.out.drew⟩
        · have hnb : nodeB ws y = (decide (ws.length = 1)) := by unfold nodeB; rw [if_neg (by omega), if_neg (by omega), if_neg (by omega), if_neg (by omega), if_neg (by omega), if_pos hk]
          have HNb := Lib.hid hnb
          have e1 : (y.f0 == 1) = false := by rw [hk]; rfl
          have e2 : (y.f0 == 2) = false := by rw [hk]; rfl
          have e3 : (y.f0 == 3) = false := by rw [hk]; rfl
          have e4 : (y.f0 == 4) = false := by rw [hk]; rfl
          have e5 : (y.f0 == 5) = false := by rw [hk]; rfl
          have e6 : (y.f0 == 6) = true := by rw [hk]; rfl
          have hba : bareOk W8 wr.heap.size (if y.f0 = 3 then 0 else y.f1) (if y.f0 = 1 then ⟨#[]⟩ else y.f4) (if y.f0 = 3 ∧ y.f1 = 4 then 0 else y.f5) (if y.f0 = 3 ∧ y.f1 = 4 then 0 else y.f6) (if y.f0 = 8 then 0 else y.f7) := by
            rw [if_neg (by omega), if_neg (by omega), if_neg (by omega), if_neg (by omega), if_neg (by omega)]
            exact ⟨y1, y4, y5, y6, y7⟩
          have HBa := Lib.hid hba
          clear y1 y4 y5 y6 y7 g1 g4 g5 g6 g7 hba
          clear hk hnb
          by_cases hl : ws.length = 1
          · have l0 : ((ws.length : Int) == 1) = true := by rw [hl]; rfl
            have HL := Lib.hid hl
            clear hl
            go_wp2_with fail
            go_meet
            exact ⟨by rw [HNb.out, decide_eq_true HL.out], HBa, HB8⟩
          · have l0 : ((ws.length : Int) == 1) = false := beq_eq_false_iff_ne.mpr (by omega)
            have HL := Lib.hid hl
            clear hl
            go_wp2_with fail
            go_meet
            exact ⟨by rw [HNb.out, decide_eq_false HL.out], HBa, HB8⟩
        · have hnb : nodeB ws y = (decide (ws.length = 2) && decide (ws.getD 1 0 = y.f2)) := by unfold nodeB; rw [if_neg (by omega), if_neg (by omega), if_neg (by omega), if_neg (by omega), if_neg (by omega), if_neg (by omega), if_pos hk]
          have HNb := Lib.hid hnb
          have e1 : (y.f0 == 1) = false := by rw [hk]; rfl
          have e2 : (y.f0 == 2) = false := by rw [hk]; rfl
          have e3 : (y.f0 == 3) = false := by rw [hk]; rfl
          have e4 : (y.f0 == 4) = false := by rw [hk]; rfl
          have e5 : (y.f0 == 5) = false := by rw [hk]; rfl
          have e6 : (y.f0 == 6) = false := by rw [hk]; rfl
          have e7 : (y.f0 == 7) = true := by rw [hk]; rfl
          have hba : bareOk W8 wr.heap.size (if y.f0 = 3 then 0 else y.f1) (if y.f0 = 1 then ⟨#[]⟩ else y.f4) (if y.f0 = 3 ∧ y.f1 = 4 then 0 else y.f5) (if y.f0 = 3 ∧ y.f1 = 4 then 0 else y.f6) (if y.f0 = 8 then 0 else y.f7) := by
            rw [if_neg (by omega), if_neg (by omega), if_neg (by omega), if_neg (by omega), if_neg (by omega)]
            exact ⟨y1, y4, y5, y6, y7⟩
          have HBa := Lib.hid hba
          clear y1 y4 y5 y6 y7 g1 g4 g5 g6 g7 hba
          clear hk hnb
          by_cases hl : ws.length = 2
          · have l0 : ((ws.length : Int) == 2) = true := by rw [hl]; rfl
            obtain ⟨g, hA, hcs⟩ := row_at HR8.out (by omega)
            subst hA
            have w0 := hcs 0 (by omega)
            have w1 := hcs 1 (by omega)
            clear hcs
            have HL := Lib.hid hl
            have hlI : (ws.length : Int) = 2 := by omega
            clear hl
            generalize ws.getD 0 0 = x0 at *
            generalize ws.getD 1 0 = x1 at *
            by_cases c0 : x1 = y.f2
            · have d0 : (x1 == y.f2) = true := by first | exact beq_iff_eq.mpr c0 | exact decide_eq_true c0
              have C0 := Lib.hid c0
              clear c0
              go_upto_region 28 with fail; go_region; go_wp2_with fail
              go_meet
              exact ⟨by rw [HNb.out, decide_eq_true HL.out, decide_eq_true C0.out]; rfl, Lib.hid (bare_drew HBa.out), Lib.hid HB8.out.drew⟩
            · have d0 : (x1 == y.f2) = false := by first | exact beq_eq_false_iff_ne.mpr c0 | exact decide_eq_false c0
              have C0 := Lib.hid c0
              clear c0
              go_upto_region 28 with fail; go_region; go_wp2_with fail
              go_meet
              exact ⟨by rw [HNb.out, decide_eq_true HL.out, decide_eq_false C0.out]; simp, Lib.hid (bare_drew HBa.out), Lib.hid HB8.out.drew⟩
          · have l0 : ((ws.length : Int) == 2) = false := beq_eq_false_iff_ne.mpr (by omega)
            have HL := Lib.hid hl
            clear hl
            go_upto_region 28 with fail; go_region; go_wp2_with fail
            go_meet
            exact ⟨by rw [HNb.out, decide_eq_false HL.out]; simp, Lib.hid (bare_drew HBa.out), Lib.hid HB8.out.drew⟩
        · have hnb : nodeB ws y = (decide (ws.length = 1) && (decide (ws.getD 0 0 = y.f2) && (decide (1 ≤ y.f7) && decide (y.f7 ≤ 1048576)))) := by unfold nodeB; rw [if_neg (by omega), if_neg (by omega), if_neg (by omega), if_neg (by omega), if_neg (by omega), if_neg (by omega), if_neg (by omega), if_pos hk]
          have HNb := Lib.hid hnb
          have e1 : (y.f0 == 1) = false := by rw [hk]; rfl
          have e2 : (y.f0 == 2) = false := by rw [hk]; rfl
          have e3 : (y.f0 == 3) = false := by rw [hk]; rfl
          have e4 : (y.f0 == 4) = false := by rw [hk]; rfl
          have e5 : (y.f0 == 5) = false := by rw [hk]; rfl
          have e6 : (y.f0 == 6) = false := by rw [hk]; rfl
          have e7 : (y.f0 == 7) = false := by rw [hk]; rfl
          have e8 : (y.f0 == 8) = true := by rw [hk]; rfl
          have hba : bareOk (W8.drew.setCell ⟨wr.heap.size, 7, none⟩ (.int .i64 0)) wr.heap.size (if y.f0 = 3 then 0 else y.f1) (if y.f0 = 1 then ⟨#[]⟩ else y.f4) (if y.f0 = 3 ∧ y.f1 = 4 then 0 else y.f5) (if y.f0 = 3 ∧ y.f1 = 4 then 0 else y.f6) (if y.f0 = 8 then 0 else y.f7) := by
            rw [if_neg (by omega), if_neg (by omega), if_neg (by omega), if_neg (by omega), if_pos hk]
            exact ⟨(cell_ne (by decide)).trans y1, (cell_ne (by decide)).trans y4, (cell_ne (by decide)).trans y5, (cell_ne (by decide)).trans y6, cell_eq (W := W8.drew) y7⟩
          have HBa := Lib.hid hba
          clear y1 y4 y5 y6 g1 g4 g5 g6 hba
          clear hk hnb
          by_cases hl : ws.length = 1
          · have l0 : ((ws.length : Int) == 1) = true := by rw [hl]; rfl
            obtain ⟨g, hA, hcs⟩ := row_at HR8.out (by omega)
            subst hA
            have w0 := hcs 0 (by omega)
            clear hcs
            have HL := Lib.hid hl
            have hlI : (ws.length : Int) = 1 := by omega
            clear hl
            generalize ws.getD 0 0 = x0 at *
            by_cases c0 : x0 = y.f2
            · have d0 : (x0 == y.f2) = true := by first | exact beq_iff_eq.mpr c0 | exact decide_eq_true c0
              have C0 := Lib.hid c0
              clear c0
              by_cases c1 : 1 ≤ y.f7
              · have d1 : (decide (y.f7 ≥ 1)) = true := by first | exact beq_iff_eq.mpr c1 | exact decide_eq_true c1
                have C1 := Lib.hid c1
                by_cases c2 : y.f7 ≤ 1048576
                · have d2 : (decide (y.f7 ≤ 1048576)) = true := by first | exact beq_iff_eq.mpr c2 | exact decide_eq_true c2
                  have C2 := Lib.hid c2
                  go_upto_region 30 with fail; go_region; go_wp2_with fail
                  go_meet
                  exact ⟨by rw [HNb.out, decide_eq_true HL.out, decide_eq_true C0.out, decide_eq_true C1.out, decide_eq_true C2.out]; rfl, Lib.hid HBa.out, Lib.hid (below_set2 (Nat.le_refl _) HB8.out.drew)⟩
                · have d2 : (decide (y.f7 ≤ 1048576)) = false := by first | exact beq_eq_false_iff_ne.mpr c2 | exact decide_eq_false c2
                  have C2 := Lib.hid c2
                  have c2b : 1048576 < y.f7 := by omega
                  clear c2
                  go_upto_region 30 with fail; go_region; go_wp2_with fail
                  go_meet
                  exact ⟨by rw [HNb.out, decide_eq_true HL.out, decide_eq_true C0.out, decide_eq_true C1.out, decide_eq_false (show ¬ (y.f7 ≤ 1048576) by first | exact C2.out | (have := C2.out; omega))]; simp, Lib.hid HBa.out, Lib.hid (below_set2 (Nat.le_refl _) HB8.out.drew)⟩
              · have d1 : (decide (y.f7 ≥ 1)) = false := by first | exact beq_eq_false_iff_ne.mpr c1 | exact decide_eq_false c1
                have C1 := Lib.hid c1
                have c1b : y.f7 < 1 := by omega
                clear c1
                go_upto_region 30 with fail; go_region; go_wp2_with fail
                go_meet
                exact ⟨by rw [HNb.out, decide_eq_true HL.out, decide_eq_true C0.out, decide_eq_false (show ¬ (1 ≤ y.f7) by first | exact C1.out | (have := C1.out; omega))]; simp, Lib.hid HBa.out, Lib.hid (below_set2 (Nat.le_refl _) HB8.out.drew)⟩
            · have d0 : (x0 == y.f2) = false := by first | exact beq_eq_false_iff_ne.mpr c0 | exact decide_eq_false c0
              have C0 := Lib.hid c0
              clear c0
              go_upto_region 30 with fail; go_region; go_wp2_with fail
              go_meet
              exact ⟨by rw [HNb.out, decide_eq_true HL.out, decide_eq_false (show ¬ (x0 = y.f2) by first | exact C0.out | (have := C0.out; omega))]; simp, Lib.hid HBa.out, Lib.hid (below_set2 (Nat.le_refl _) HB8.out.drew)⟩
          · have l0 : ((ws.length : Int) == 1) = false := beq_eq_false_iff_ne.mpr (by omega)
            have HL := Lib.hid hl
            clear hl
            go_upto_region 30 with fail; go_region; go_wp2_with fail
            go_meet
            exact ⟨by rw [HNb.out, decide_eq_false HL.out]; simp, Lib.hid HBa.out, Lib.hid (below_set2 (Nat.le_refl _) HB8.out.drew)⟩
        · have hnb : nodeB ws y = (false) := by unfold nodeB; rw [if_neg (by omega), if_neg (by omega), if_neg (by omega), if_neg (by omega), if_neg (by omega), if_neg (by omega), if_neg (by omega), if_neg (by omega)]
          have HNb := Lib.hid hnb
          have e1 : (y.f0 == 1) = false := beq_eq_false_iff_ne.mpr (by omega)
          have e2 : (y.f0 == 2) = false := beq_eq_false_iff_ne.mpr (by omega)
          have e3 : (y.f0 == 3) = false := beq_eq_false_iff_ne.mpr (by omega)
          have e4 : (y.f0 == 4) = false := beq_eq_false_iff_ne.mpr (by omega)
          have e5 : (y.f0 == 5) = false := beq_eq_false_iff_ne.mpr (by omega)
          have e6 : (y.f0 == 6) = false := beq_eq_false_iff_ne.mpr (by omega)
          have e7 : (y.f0 == 7) = false := beq_eq_false_iff_ne.mpr (by omega)
          have e8 : (y.f0 == 8) = false := beq_eq_false_iff_ne.mpr (by omega)
          have hba : bareOk W8 wr.heap.size (if y.f0 = 3 then 0 else y.f1) (if y.f0 = 1 then ⟨#[]⟩ else y.f4) (if y.f0 = 3 ∧ y.f1 = 4 then 0 else y.f5) (if y.f0 = 3 ∧ y.f1 = 4 then 0 else y.f6) (if y.f0 = 8 then 0 else y.f7) := by
            rw [if_neg (by omega), if_neg (by omega), if_neg (by omega), if_neg (by omega), if_neg (by omega)]
            exact ⟨y1, y4, y5, y6, y7⟩
          have HBa := Lib.hid hba
          clear y1 y4 y5 y6 y7 g1 g4 g5 g6 g7 hba
          clear hk hnb
          go_wp2_with fail
          go_meet
          exact ⟨by rw [HNb.out], HBa, HB8⟩
      case rest =>
        obtain ⟨h9, HBr, HBc⟩ := hcut
        obtain ⟨nb, hnb⟩ : ∃ nb, nodeB ws y = nb := ⟨_, rfl⟩
        rw [hnb] at h9
        subst h9
        have HNb := Lib.hid hnb
        have hz := zero_bare y
        obtain ⟨r1, r4, r5, r6, r7⟩ := HBr.out
        have HZ := Lib.hid hz
        generalize (if y.f0 = 3 then 0 else y.f1) = F1 at *
        generalize (if y.f0 = 1 then (⟨#[]⟩ : ByteArray) else y.f4) = F4 at *
        generalize (if y.f0 = 3 ∧ y.f1 = 4 then 0 else y.f5) = F5 at *
        generalize (if y.f0 = 3 ∧ y.f1 = 4 then 0 else y.f6) = F6 at *
        generalize (if y.f0 = 8 then 0 else y.f7) = F7 at *
        clear hz hnb
        have HBe := Lib.hid (HB1.out.trans ((HBx.out.trans (HBc.out.mono HBx.out.size)).mono (show w.heap.size ≤ W1.heap.size by have := HZ1.out; omega)))
        cases nb
        · clear r1 r4 r5 r6 r7
          go_wp2_with fail
          go_ret
          exact ⟨by rw [HNb.out]; rfl, HBe.out⟩
        · by_cases c1 : F1 = 0
          · have d1 : (F1 == 0) = true := beq_iff_eq.mpr c1
            have C1 := Lib.hid c1
            clear c1
            by_cases c4 : F4.toList = []
            · have d4 : (F4.toList == []) = true := beq_iff_eq.mpr c4
              have C4 := Lib.hid c4
              by_cases c5 : F5 = 0
              · have d5 : (F5 == 0) = true := beq_iff_eq.mpr c5
                have C5 := Lib.hid c5
                clear c5
                by_cases c6 : F6 = 0
                · have d6 : (F6 == 0) = true := beq_iff_eq.mpr c6
                  have C6 := Lib.hid c6
                  clear c6
                  by_cases c7 : F7 = 0
                  · have d7 : (F7 == 0) = true := beq_iff_eq.mpr c7
                    have C7 := Lib.hid c7
                    clear c7
                    go_wp2_with fail
                    go_ret
                    exact ⟨by rw [HNb.out, HZ.out, C1.out, C4.out, C5.out, C6.out, C7.out]; rfl, HBe.out⟩
                  · have d7 : (F7 == 0) = false := beq_eq_false_iff_ne.mpr c7
                    have C7 := Lib.hid c7
                    clear c7
                    go_wp2_with fail
                    go_ret
                    exact ⟨by rw [HNb.out, HZ.out, decide_eq_false C7.out]; simp, HBe.out⟩
                · have d6 : (F6 == 0) = false := beq_eq_false_iff_ne.mpr c6
                  have C6 := Lib.hid c6
                  clear c6
                  go_wp2_with fail
                  go_ret
                  exact ⟨by rw [HNb.out, HZ.out, decide_eq_false C6.out]; simp, HBe.out⟩
              · have d5 : (F5 == 0) = false := beq_eq_false_iff_ne.mpr c5
                have C5 := Lib.hid c5
                clear c5
                go_wp2_with fail
                go_ret
                exact ⟨by rw [HNb.out, HZ.out, decide_eq_false C5.out]; simp, HBe.out⟩
            · have d4 : (F4.toList == []) = false := beq_eq_false_iff_ne.mpr c4
              have C4 := Lib.hid c4
              go_wp2_with fail
              go_ret
              exact ⟨by rw [HNb.out, HZ.out, decide_eq_false C4.out]; simp, HBe.out⟩
          · have d1 : (F1 == 0) = false := beq_eq_false_iff_ne.mpr c1
            have C1 := Lib.hid c1
            clear c1
            go_wp2_with fail
            go_ret
            exact ⟨by rw [HNb.out, HZ.out, decide_eq_false C1.out]; simp, HBe.out⟩
end Go.Proofs.YtonnmkhmhndalaaDoor
