/- Parts in memory, read; how soon one part reaches another one, walked. Which parts may be: the statement's own function, walked. -/
import Derived.Test.YtonnmkhmhndalaaDoorZk
import Derived.Test.YtonnmkhmhndalaaDoorZc
import Derived.BigQuiet
import Derived.Deep.QuietTactic
section
namespace Go.Proofs.YtonnmkhmhndalaaDoor
set_option linter.unusedVariables false
set_option linter.unusedSimpArgs false
open Go.RowKit Go.Proofs.YtonnmkhmhndalaaDoorW.PrintWords Go.Proofs.YtonnmkhmhndalaaDoorW.PrintLast Go.Proofs.YtonnmkhmhndalaaDoorW.PrintMore
theorem MayP.ins {x : NL} (h : MayP x) : ∀ k, k < x.nd.length → ∀ v ∈ (x.nd.getD k z39).f3, 0 ≤ v ∧ v < x.nd.length := by
  intro k hk v hv
  have h1 := (wideB_iff _ _).1 (h.w k hk)
  unfold nAt at h1
  obtain ⟨i, hi, rfl⟩ := List.getElem_of_mem hv
  have := h1.2.2 i hi
  rw [List.getD_eq_getElem?_getD, List.getElem?_eq_getElem hi] at this
  exact this
theorem MayP.dly {x : NL} (h : MayP x) : ∀ k, k < x.nd.length → (x.nd.getD k z39).f0 = 8 → (x.nd.getD k z39).f3.length = 1 ∧ (0 ≤ (x.nd.getD k z39).f3.getD 0 0 ∧ (x.nd.getD k z39).f3.getD 0 0 < x.nd.length) ∧ 1 ≤ (x.nd.getD k z39).f7 ∧ (x.nd.getD k z39).f7 ≤ 1048576 := by
  intro k hk h8
  have h1 := h.k k hk
  have hl : (wsOf x.nd (nAt x k)).length = (nAt x k).f3.length := List.length_map _
  have h8' : (nAt x k).f0 = 8 := h8
  unfold nodeB at h1
  rw [if_neg (by omega), if_neg (by omega), if_neg (by omega), if_neg (by omega), if_neg (by omega), if_neg (by omega), if_neg (by omega), if_pos h8'] at h1
  simp only [Bool.and_eq_true, decide_eq_true_eq] at h1
  have h2 : (nAt x k).f3.length = 1 := by omega
  have h3 := ((wideB_iff _ _).1 (h.w k hk)).2.2 0 (by omega)
  exact ⟨h2, h3, h1.2.2⟩
structure PIn (w : World) (p : PV) (A : Option Addr) (c : Nat) (B : Option Addr) (d : Nat) : Prop where
  h0 : Kd.C (Kd.int .i64) w A p.of.length p.of
  h1 : Kd.C (Kd.slice 3 (Kd.int .i64)) w B p.ah.length p.ah
  l0 : p.of.length ≤ c
  l1 : p.ah.length ≤ d
theorem PIn.below {w w' : World} {p : PV} {A : Option Addr} {c : Nat} {B : Option Addr} {d : Nat} (h : PIn w p A c B d) (hb : Below w.heap.size w w') : PIn w' p A c B d :=
  ⟨Kd.C_below h.h0 hb, Kd.C_below h.h1 hb, h.l0, h.l1⟩
abbrev pV (p : PV) (A : Option Addr) (c : Nat) (B : Option Addr) (d : Nat) : Value := .agg #[.slice A p.of.length c, .int .i64 p.n, .slice B p.ah.length d]
structure PBx (W : World) (P : Nat) (n m : Nat) (k : Int) (A : Option Addr) (c : Nat) (B : Option Addr) (d : Nat) : Prop where
  k0 : W.cell? ⟨P, 0, none⟩ = some (.slice A n c)
  k1 : W.cell? ⟨P, 1, none⟩ = some (.int .i64 k)
  k2 : W.cell? ⟨P, 2, none⟩ = some (.slice B m d)
theorem box_parts {W W' : World} {n m : Nat} {k : Int} {A : Option Addr} {c : Nat} {B : Option Addr} {d : Nat} (h : W.alloc (.cells #[.slice A n c, .int .i64 k, .slice B m d] 46) = W') : PBx W' W.heap.size n m k A c B d ∧ Below W.heap.size W W' ∧ W'.heap.size = W.heap.size + 1 := by
  refine ⟨⟨?_, ?_, ?_⟩, by rw [← h]; exact below_alloc (Below.refl _ _) _, by rw [← h]; simp⟩ <;> (rw [← h]; simp [go_sem])
theorem PBx.belowB {W W' : World} {P n m B' : Nat} {k : Int} {A : Option Addr} {c : Nat} {B : Option Addr} {d : Nat} (h : PBx W P n m k A c B d) (hb : Below B' W W') (hP : P < B') : PBx W' P n m k A c B d := by
  have key : ∀ q : Nat, W'.cell? ⟨P, q, none⟩ = W.cell? ⟨P, q, none⟩ := fun q => hb.cell (p := ⟨P, q, none⟩) hP
  exact ⟨(key _).trans h.k0, (key _).trans h.k1, (key _).trans h.k2⟩
theorem PBx.below {W W' : World} {P n m : Nat} {k : Int} {A : Option Addr} {c : Nat} {B : Option Addr} {d : Nat} (h : PBx W P n m k A c B d) (hb : Below W.heap.size W W') : PBx W' P n m k A c B d := h.belowB hb (World.block_lt_of_cell? W _ h.k0)
theorem ahS_hit (nd : List S39) (of : List Int) (i j : Int) (m : Nat) (h : (nd.getD m z39).f0 = 8 ∧ i ≠ j ∧ of.getD (inAt nd m 0) 0 = i ∧ of.getD m 0 = j ∧ (ahS nd of i j m = 0 ∨ (nd.getD m z39).f7 < ahS nd of i j m)) : ahS nd of i j (m + 1) = (nd.getD m z39).f7 := by
  obtain ⟨h1, h2, h3, h4, h5⟩ := h
  unfold ahS
  rw [if_pos]
  refine ⟨?_, h5⟩
  unfold reachB
  rw [decide_eq_true h1, decide_eq_true h2, decide_eq_true h3, decide_eq_true h4]
  rfl
theorem ahS_miss (nd : List S39) (of : List Int) (i j : Int) (m : Nat) (h : ¬ ((nd.getD m z39).f0 = 8 ∧ i ≠ j ∧ of.getD (inAt nd m 0) 0 = i ∧ of.getD m 0 = j ∧ (ahS nd of i j m = 0 ∨ (nd.getD m z39).f7 < ahS nd of i j m))) : ahS nd of i j (m + 1) = ahS nd of i j m := by
  rw [ahS, if_neg]
  rintro ⟨h1, h2⟩
  unfold reachB at h1
  simp only [Bool.and_eq_true, decide_eq_true_eq] at h1
  exact h ⟨h1.1, h1.2.1, h1.2.2.1, h1.2.2.2, h2⟩
theorem ahS_bd {x : NL} (hm : MayP x) (of : List Int) (i j : Int) : ∀ m, m ≤ x.nd.length → 0 ≤ ahS x.nd of i j m ∧ ahS x.nd of i j m ≤ 1048576
  | 0, _ => by unfold ahS; omega
  | m + 1, h => by
    have ih := ahS_bd hm of i j m (by omega)
    unfold ahS
    split
    · next hc =>
      have h8 : (x.nd.getD m z39).f0 = 8 := by
        have := hc.1
        unfold reachB at this
        simp only [Bool.and_eq_true, decide_eq_true_eq] at this
        exact this.1
      have := hm.dly m (by omega) h8
      omega
    · exact ih
set_option maxRecDepth 100000 in
set_option maxHeartbeats 4000000 in
theorem aheadR_any (x : NL) (A : Option Addr) (c : Nat) (B : Option Addr) (d : Nat) (p : PV) (A2 : Option Addr) (c2 : Nat) (B2 : Option Addr) (d2 : Nat) (i j : Int) (w : World) (hI : NIn w x A c B d) (hP : PIn w p A2 c2 B2 d2) (hm : MayP x) (hlo : p.of.length = x.nd.length) :
    Calls Tryd.prog 41 #[nlV x A c B d, pV p A2 c2 B2 d2, .int .i64 i, .int .i64 j] w fun e w' => e = .returned (.int .i64 (ahS x.nd p.of i j x.nd.length)) ∧ Below w.heap.size w w' := by
  obtain ⟨n, hn⟩ : ∃ n, x.nd.length = n := ⟨_, rfl⟩
  have hn4 : n ≤ 4096 := by rw [← hn]; exact hm.n
  have HI := Lib.hid hI
  have HP := Lib.hid hP
  have HM := Lib.hid hm
  have HN := Lib.hid hn
  have HL := Lib.hid hlo
  clear hI hP hm
  go_enter Tryd.func41, Tryd.ntmps41
  go_upto_region 3 with fail
  obtain ⟨W0, hW0⟩ : ∃ W, w.alloc (Obj.cells #[.slice A n c, .slice B x.nt.length d, .int .i64 x.pt] 25) = W := ⟨_, rfl⟩
  rw [hW0]
  obtain ⟨hx0, hb0, hz0⟩ := box_list hW0
  obtain ⟨W1, hW1⟩ : ∃ W, W0.alloc (Obj.cells #[.slice A2 n c2, .int .i64 p.n, .slice B2 p.ah.length d2] 46) = W := ⟨_, rfl⟩
  rw [hW1]
  obtain ⟨hx1, hb1, hz1⟩ := box_parts hW1
  obtain ⟨P, hPs⟩ : ∃ P, w.heap.size = P := ⟨_, rfl⟩
  rw [hz0, hPs] at hx1
  rw [hPs] at hx0 ⊢
  have HX0 := Lib.hid (hx0.below hb1)
  have HX1 := Lib.hid hx1
  have HB1 := Lib.hid (hb0.trans (hb1.mono (by omega)))
  clear hx0 hb0 hz0 hx1 hb1 hz1 hW0 hW1
  go_loopw [9, 10] (fun v9 v10 wx => ∃ k : Nat, v9 = .int .i64 (ahS x.nd p.of i j k) ∧ v10 = .int .i64 k ∧ k ≤ n ∧ Hid (Below W1.heap.size W1 wx)) (fun _ v10 _ => n - (intOf v10).toNat)
  case atStart => exact ⟨0, rfl, rfl, Nat.zero_le _, Lib.hid (Below.refl _ _)⟩
  case round =>
    obtain ⟨k, rfl, rfl, hk, HBx⟩ := hrel
    have q0 := (HX0.out.below HBx.out).k0
    have p0 := (HX1.out.below HBx.out).k0
    by_cases hlt : k < n
    · have hk' : k < x.nd.length := by rw [HN.out]; exact hlt
      have HW := Lib.hid (HB1.out.trans (HBx.out.mono HB1.out.size))
      obtain ⟨b, o, A3, c3, hA, hl3, hbs, hND⟩ := nodes_in HI.out.h0 k hk'
      subst hA
      have hD := HM.out.dly k hk'
      have hhit := ahS_hit x.nd p.of i j k
      have hmiss := ahS_miss x.nd p.of i j k
      have hin : inAt x.nd k 0 = ((x.nd.getD k z39).f3.getD 0 0).toNat := rfl
      generalize hy : x.nd.getD k z39 = y at *
      have HLt := Lib.hid hlt
      have HND := Lib.hid hND
      obtain ⟨h0, h1, h2, h3, h4, h5, h6, h7, hC3⟩ := hND _ HW.out
      have HC3 := Lib.hid hC3
      have HP5 := Lib.hid (HP.out.below HW.out)
      clear hk' hC3 hbs hND
      go_upto_region 6 with fail
      obtain ⟨W5, hW5⟩ : ∃ W, wr.alloc (Obj.cells #[Value.int IntKind.i64 y.f0, Value.int IntKind.i64 y.f1, Value.int IntKind.i64 y.f2, Value.slice A3 y.f3.length c3, Value.string y.f4, Value.int IntKind.i64 y.f5, Value.int IntKind.i64 y.f6, Value.int IntKind.i64 y.f7] 39) = W := ⟨_, rfl⟩
      rw [hW5]
      obtain ⟨hbx, hb5⟩ := box_node HC3.out hW5
      have HB5 := Lib.hid (HBx.out.trans (hb5.mono HBx.out.size))
      obtain ⟨G, hG⟩ : ∃ G, wr.heap.size = G := ⟨_, rfl⟩
      rw [hG] at hbx ⊢
      have HX5 := Lib.hid hbx
      obtain ⟨z0, z1, z2, z3, z4, z5, z6, z7, hC5⟩ := hbx
      have p5 := (HX1.out.below HB5.out).k0
      have hP5 := HP5.out.below hb5
      obtain ⟨bst, hbst⟩ : ∃ v, ahS x.nd p.of i j k = v := ⟨_, rfl⟩
      rw [hbst] at hhit hmiss ⊢
      have hhi := ahS_bd HM.out p.of i j k (by rw [HN.out]; exact hk)
      rw [hbst] at hhi
      clear h0 h1 h2 h3 h4 h5 h6 h7 q0 p0 hW5 hb5 hG hbst
      by_cases h8 : y.f0 = 8
      · obtain ⟨hl1, ⟨hv0, hv1⟩, ht0, ht1⟩ := hD h8
        obtain ⟨a, ha⟩ : ∃ a : Nat, y.f3.getD 0 0 = (a : Int) := ⟨(y.f3.getD 0 0).toNat, by omega⟩
        rw [ha] at hv1 hin
        rw [Int.toNat_natCast] at hin
        have han : a < n := by rw [HN.out] at hv1; omega
        rw [hin] at hhit hmiss
        rw [h8] at hhit hmiss
        obtain ⟨b3, o3, hA3, r3, -⟩ := ints_at hC5 0 (by omega)
        subst hA3
        rw [ha, Nat.add_zero] at r3
        obtain ⟨b2, o2, hA2, r2, -⟩ := ints_at hP5.h0 a (by rw [HL.out, HN.out]; exact han)
        obtain ⟨b2', o2', hA2', r2', -⟩ := ints_at hP5.h0 k (by rw [HL.out, HN.out]; exact hlt)
        rw [hA2] at hA2'
        injection hA2' with hA2'
        injection hA2' with e1 e2
        subst e1 e2 hA2
        rw [hl1] at z3
        have g1 : (y.f0 == 8) = true := by rw [h8]; rfl
        obtain ⟨va, hva⟩ : ∃ v, p.of.getD a 0 = v := ⟨_, rfl⟩
        obtain ⟨vk, hvk⟩ : ∃ v, p.of.getD k 0 = v := ⟨_, rfl⟩
        rw [hva] at r2 hhit hmiss
        rw [hvk] at r2' hhit hmiss
        have hc5 := HX1.out
        clear hva hvk ha hin hD
        by_cases hij : i = j
        · have g2 : (i != j) = false := by rw [hij]; simp
          have HV := Lib.hid (hmiss (fun hc => hc.2.1 hij))
          go_quiet (fail)
          obtain ⟨W6, hW6⟩ : ∃ W, W5.drewN nq = W := ⟨_, rfl⟩
          rw [hW6]
          have hb6 : Below W5.heap.size W5 W6 := by rw [← hW6]; exact pw_below_drewN (Below.refl _ _) _
          have HB6 := Lib.hid (HB5.out.trans (hb6.mono HB5.out.size))
          have y7 := (HX5.out.below hb6).k7
          rw [Nat.zero_add] at y7
          clear hW6 hb6 z0 z1 z2 z3 z4 z5 z6 z7 p5
          go_wp2_with fail
          refine ⟨⟨k + 1, by rw [HV.out], by simp, HLt.out, HB6⟩, by have := HLt.out; simp [intOf]; omega⟩
        · have g2 : (i != j) = true := by simpa using hij
          by_cases h3 : va = i
          · have g3 : (va == i) = true := beq_iff_eq.2 h3
            by_cases h4 : vk = j
            · have g4 : (vk == j) = true := beq_iff_eq.2 h4
              by_cases h5 : bst = 0
              · have g5 : (bst == 0) = true := beq_iff_eq.2 h5
                have HV := Lib.hid (hhit ⟨rfl, hij, h3, h4, Or.inl h5⟩)
                go_quiet (fail)
                obtain ⟨W6, hW6⟩ : ∃ W, W5.drewN nq = W := ⟨_, rfl⟩
                rw [hW6]
                have hb6 : Below W5.heap.size W5 W6 := by rw [← hW6]; exact pw_below_drewN (Below.refl _ _) _
                have HB6 := Lib.hid (HB5.out.trans (hb6.mono HB5.out.size))
                have y7 := (HX5.out.below hb6).k7
                rw [Nat.zero_add] at y7
                clear hW6 hb6 z0 z1 z2 z3 z4 z5 z6 z7 p5
                go_wp2_with fail
                refine ⟨⟨k + 1, by rw [HV.out], by simp, HLt.out, HB6⟩, by have := HLt.out; simp [intOf]; omega⟩
              · have g5 : (bst == 0) = false := beq_eq_false_iff_ne.2 h5
                by_cases h6 : y.f7 < bst
                · have g6 : decide (y.f7 < bst) = true := decide_eq_true h6
                  have HV := Lib.hid (hhit ⟨rfl, hij, h3, h4, Or.inr h6⟩)
                  go_quiet (fail)
                  obtain ⟨W6, hW6⟩ : ∃ W, W5.drewN nq = W := ⟨_, rfl⟩
                  rw [hW6]
                  have hb6 : Below W5.heap.size W5 W6 := by rw [← hW6]; exact pw_below_drewN (Below.refl _ _) _
                  have HB6 := Lib.hid (HB5.out.trans (hb6.mono HB5.out.size))
                  have y7 := (HX5.out.below hb6).k7
                  rw [Nat.zero_add] at y7
                  clear hW6 hb6 z0 z1 z2 z3 z4 z5 z6 z7 p5
                  go_wp2_with fail
                  refine ⟨⟨k + 1, by rw [HV.out], by simp, HLt.out, HB6⟩, by have := HLt.out; simp [intOf]; omega⟩
                · have g6 : decide (y.f7 < bst) = false := decide_eq_false h6
                  have HV := Lib.hid (hmiss (fun hc => hc.2.2.2.2.elim h5 h6))
                  go_quiet (fail)
                  obtain ⟨W6, hW6⟩ : ∃ W, W5.drewN nq = W := ⟨_, rfl⟩
                  rw [hW6]
                  have hb6 : Below W5.heap.size W5 W6 := by rw [← hW6]; exact pw_below_drewN (Below.refl _ _) _
                  have HB6 := Lib.hid (HB5.out.trans (hb6.mono HB5.out.size))
                  have y7 := (HX5.out.below hb6).k7
                  rw [Nat.zero_add] at y7
                  clear hW6 hb6 z0 z1 z2 z3 z4 z5 z6 z7 p5
                  go_wp2_with fail
                  refine ⟨⟨k + 1, by rw [HV.out], by simp, HLt.out, HB6⟩, by have := HLt.out; simp [intOf]; omega⟩
            · have g4 : (vk == j) = false := beq_eq_false_iff_ne.2 h4
              have HV := Lib.hid (hmiss (fun hc => h4 hc.2.2.2.1))
              go_quiet (fail)
              obtain ⟨W6, hW6⟩ : ∃ W, W5.drewN nq = W := ⟨_, rfl⟩
              rw [hW6]
              have hb6 : Below W5.heap.size W5 W6 := by rw [← hW6]; exact pw_below_drewN (Below.refl _ _) _
              have HB6 := Lib.hid (HB5.out.trans (hb6.mono HB5.out.size))
              have y7 := (HX5.out.below hb6).k7
              rw [Nat.zero_add] at y7
              clear hW6 hb6 z0 z1 z2 z3 z4 z5 z6 z7 p5
              go_wp2_with fail
              refine ⟨⟨k + 1, by rw [HV.out], by simp, HLt.out, HB6⟩, by have := HLt.out; simp [intOf]; omega⟩
          · have g3 : (va == i) = false := beq_eq_false_iff_ne.2 h3
            have HV := Lib.hid (hmiss (fun hc => h3 hc.2.2.1))
            go_quiet (fail)
            obtain ⟨W6, hW6⟩ : ∃ W, W5.drewN nq = W := ⟨_, rfl⟩
            rw [hW6]
            have hb6 : Below W5.heap.size W5 W6 := by rw [← hW6]; exact pw_below_drewN (Below.refl _ _) _
            have HB6 := Lib.hid (HB5.out.trans (hb6.mono HB5.out.size))
            have y7 := (HX5.out.below hb6).k7
            rw [Nat.zero_add] at y7
            clear hW6 hb6 z0 z1 z2 z3 z4 z5 z6 z7 p5
            go_wp2_with fail
            refine ⟨⟨k + 1, by rw [HV.out], by simp, HLt.out, HB6⟩, by have := HLt.out; simp [intOf]; omega⟩
      · have g1 : (y.f0 == 8) = false := beq_eq_false_iff_ne.2 h8

        have HV := Lib.hid (hmiss (fun hc => h8 hc.1))
        go_quiet (fail)
        obtain ⟨W6, hW6⟩ : ∃ W, W5.drewN nq = W := ⟨_, rfl⟩
        rw [hW6]
        have hb6 : Below W5.heap.size W5 W6 := by rw [← hW6]; exact pw_below_drewN (Below.refl _ _) _
        have HB6 := Lib.hid (HB5.out.trans (hb6.mono HB5.out.size))
        have y7 := (HX5.out.below hb6).k7
        rw [Nat.zero_add] at y7
        clear hW6 hb6 z0 z1 z2 z3 z4 z5 z6 z7 p5
        go_wp2_with fail
        refine ⟨⟨k + 1, by rw [HV.out], by simp, HLt.out, HB6⟩, by have := HLt.out; simp [intOf]; omega⟩
    · obtain rfl : k = n := by omega
      have HB6 := Lib.hid (HB1.out.trans (HBx.out.mono HB1.out.size))
      go_wp2_with fail
      go_ret
      exact ⟨by rw [HN.out]; try rfl, HB6.out⟩
end Go.Proofs.YtonnmkhmhndalaaDoor
end
section
namespace Go.Proofs.YtonnmkhmhndalaaDoor
set_option linter.unusedVariables false
set_option linter.unusedSimpArgs false
open Go.RowKit Go.Proofs.YtonnmkhmhndalaaDoorW.PrintWords Go.Proofs.YtonnmkhmhndalaaDoorW.PrintLast Go.Proofs.YtonnmkhmhndalaaDoorW.PrintMore
attribute [local irreducible] wpQuiet
theorem ints_row {w : World} {A : Option Addr} {l : List Int} (h : Kd.C (Kd.int .i64) w A l.length l) : ∃ b o, (0 < l.length → A = some ⟨b, o, none⟩ ∧ b < w.heap.size) ∧ ∀ i, i < l.length → ∀ W, Below w.heap.size w W → W.cell? ⟨b, o + i, none⟩ = some (.int .i64 (l.getD i 0)) := by
  rcases Nat.eq_zero_or_pos l.length with h0 | h0
  · exact ⟨0, 0, fun h => absurd h (by omega), fun i hi => absurd hi (by omega)⟩
  · obtain ⟨b, o, hA, -, hb⟩ := ints_at h 0 h0
    refine ⟨b, o, fun _ => ⟨hA, hb⟩, fun i hi W hW => ?_⟩
    obtain ⟨b', o', hA', hc, -⟩ := ints_at h i hi
    rw [hA] at hA'
    injection hA' with e
    injection e with e1 e2
    subst e1 e2
    exact (hW.cell (p := ⟨b, o + i, none⟩) hb).trans hc
theorem rowL_at {w : World} {A : Option Addr} {l : List (List Int)} (h : Kd.C (Kd.slice 3 (Kd.int .i64)) w A l.length l) (i : Nat) (hi : i < l.length) : ∃ b o A0 c0, A = some ⟨b, o, none⟩ ∧ w.cell? ⟨b, o + i, none⟩ = some (.slice A0 (l.getD i []).length c0) ∧ (l.getD i []).length ≤ c0 ∧ Kd.C (Kd.int .i64) w A0 (l.getD i []).length (l.getD i []) ∧ b < w.heap.size := by
  obtain ⟨ad, A0, c0, e, hc, hl, hC⟩ := at_L2 h i (by omega) (by omega)
  obtain ⟨ad2, _, _, e2, hc2, _⟩ := at_L2 h 0 (by omega) (by omega)
  obtain rfl : ad = ad2 := Option.some.inj (e.symm.trans e2)
  obtain ⟨b, o, sp⟩ := ad
  have hs := World.cell?_spot hc2
  have : sp = none := by simpa [Addr.add] using hs
  subst this
  have er : rd_L2 l (i : Int) = l.getD i [] := by unfold rd_L2; rw [Int.toNat_natCast]
  rw [er] at hc hl hC
  rw [Int.toNat_natCast, add_plain] at hc
  exact ⟨b, o, A0, c0, e, hc, hl, hC, World.block_lt_of_cell? w _ hc⟩
theorem rows_row {w : World} {A : Option Addr} {l : List (List Int)} (h : Kd.C (Kd.slice 3 (Kd.int .i64)) w A l.length l) : ∃ b o, (0 < l.length → A = some ⟨b, o, none⟩ ∧ b < w.heap.size) ∧ ∀ i, i < l.length → ∃ A0 c0, (l.getD i []).length ≤ c0 ∧ ∀ W, Below w.heap.size w W → W.cell? ⟨b, o + i, none⟩ = some (.slice A0 (l.getD i []).length c0) ∧ Kd.C (Kd.int .i64) W A0 (l.getD i []).length (l.getD i []) := by
  rcases Nat.eq_zero_or_pos l.length with h0 | h0
  · exact ⟨0, 0, fun h => absurd h (by omega), fun i hi => absurd hi (by omega)⟩
  · obtain ⟨b, o, _, _, hA, _, _, _, hb⟩ := rowL_at h 0 h0
    refine ⟨b, o, fun _ => ⟨hA, hb⟩, fun i hi => ?_⟩
    obtain ⟨b', o', A0, c0, hA', hc, hl, hC, -⟩ := rowL_at h i hi
    rw [hA] at hA'
    injection hA' with e
    injection e with e1 e2
    subst e1 e2
    exact ⟨A0, c0, hl, fun W hW => ⟨(hW.cell (p := ⟨b, o + i, none⟩) hb).trans hc, Kd.C_below hC hW⟩⟩
def usedN (of : List Int) (i : Nat) (b : Nat) : Bool := (List.range i).any fun j => of.getD j 0 == (b : Int)
theorem usedN_zero (of : List Int) (b : Nat) : usedN of 0 b = false := rfl
theorem usedN_succ (of : List Int) (i a : Nat) (h : of.getD i 0 = (a : Int)) (b : Nat) : upd (usedN of i) a true b = usedN of (i + 1) b := by
  unfold usedN
  rw [List.range_succ, List.any_append]
  simp only [List.any_cons, List.any_nil, Bool.or_false, h]
  by_cases e : b = a
  · subst e; rw [upd_same, beq_self_eq_true, Bool.or_true]
  · rw [upd_ne _ _ e, show ((a : Int) == (b : Int)) = false from beq_eq_false_iff_ne.2 (by omega), Bool.or_false]
theorem usedN_iff (of : List Int) (i b : Nat) : usedN of i b = true ↔ ∃ j, j < i ∧ of.getD j 0 = (b : Int) := by
  unfold usedN
  rw [List.any_eq_true]
  constructor
  · rintro ⟨j, hj, h⟩; exact ⟨j, List.mem_range.1 hj, beq_iff_eq.1 h⟩
  · rintro ⟨j, hj, h⟩; exact ⟨j, List.mem_range.2 hj, beq_iff_eq.2 h⟩
def MayE (w : World) (x : NL) (p : PV) (e : Ending) (w' : World) : Prop := ∃ b : Bool, e = .returned (.bool b) ∧ (b = true ↔ PMay x.nd p) ∧ Below w.heap.size w w'
theorem MayE.no {w w' : World} {x : NL} {p : PV} (h : ¬ PMay x.nd p) (hb : Below w.heap.size w w') : MayE w x p (.returned (.bool false)) w' := ⟨false, rfl, ⟨fun e => (by cases e), fun e => absurd e h⟩, hb⟩
theorem MayE.yes {w w' : World} {x : NL} {p : PV} (h : PMay x.nd p) (hb : Below w.heap.size w w') : MayE w x p (.returned (.bool true)) w' := ⟨true, rfl, ⟨fun _ => h, fun _ => rfl⟩, hb⟩
set_option maxRecDepth 100000 in
set_option maxHeartbeats 8000000 in
theorem mayP_any (x : NL) (A : Option Addr) (c : Nat) (B : Option Addr) (d : Nat) (p : PV) (A2 : Option Addr) (c2 : Nat) (B2 : Option Addr) (d2 : Nat) (w : World) (hI : NIn w x A c B d) (hP : PIn w p A2 c2 B2 d2) (hm : MayP x) :
    Calls Tryd.prog 23 #[nlV x A c B d, pV p A2 c2 B2 d2] w (MayE w x p) := by
  obtain ⟨n, hn⟩ : ∃ n, x.nd.length = n := ⟨_, rfl⟩
  have hn4 : n ≤ 4096 := by rw [← hn]; exact hm.n
  obtain ⟨no, hno⟩ : ∃ k, p.of.length = k := ⟨_, rfl⟩
  obtain ⟨na, hna⟩ : ∃ k, p.ah.length = k := ⟨_, rfl⟩
  have HI := Lib.hid hI
  have HP := Lib.hid hP
  have HM := Lib.hid hm
  have HN := Lib.hid hn
  have HNo := Lib.hid hno
  have HNa := Lib.hid hna
  clear hI hP hm
  obtain ⟨W0, hW0⟩ : ∃ W, w.alloc (Obj.cells #[.slice A n c, .slice B x.nt.length d, .int .i64 x.pt] 25) = W := ⟨_, rfl⟩
  obtain ⟨hx0, hb0, hz0⟩ := box_list hW0
  obtain ⟨W1, hW1⟩ : ∃ W, W0.alloc (Obj.cells #[.slice A2 no c2, .int .i64 p.n, .slice B2 na d2] 46) = W := ⟨_, rfl⟩
  obtain ⟨hx1, hb1, hz1⟩ := box_parts hW1
  obtain ⟨P, hPs⟩ : ∃ P, w.heap.size = P := ⟨_, rfl⟩
  rw [hz0, hPs] at hx1
  rw [hPs] at hx0 
  have HX0 := Lib.hid (hx0.below hb1)
  have HX1 := Lib.hid hx1
  have HB1 := Lib.hid (hb0.trans (hb1.mono (by omega)))
  have HZ1 := Lib.hid (show W1.heap.size = P + 2 by omega)
  have HZ0 := Lib.hid (show W0.heap.size = P + 1 by omega)
  clear hx0 hb0 hz0 hx1 hb1 hz1
  by_cases hok : (1 ≤ p.n ∧ p.n ≤ 64) ∧ no = n ∧ (na : Int) = p.n
  · obtain ⟨⟨ho1, ho2⟩, rfl, ho4⟩ := hok
    obtain ⟨N, hN⟩ : ∃ N : Nat, p.n = (N : Int) := ⟨p.n.toNat, by omega⟩
    rw [hN] at ho1 ho2 ho4 HX1 hW1
    obtain rfl : na = N := by omega
    have hN1 : 1 ≤ na := by omega
    have hN2 : na ≤ 64 := by omega
    have HNn := Lib.hid hN
    have HOk := Lib.hid (And.intro hN1 hN2)
    go_enter Tryd.func23, Tryd.ntmps23
    go_upto_region 1 with fail
    rw [HZ0.out]
    obtain ⟨x0, x1, x2⟩ := HX0.out
    obtain ⟨p0, p1, p2⟩ := HX1.out
    clear hN hW0 hW1 ho4
    go_upto_region 3 with fail
    obtain ⟨W2, m2, hb2, hz2, hu2⟩ := make59 na (by omega) W1
    rw [HZ1.out] at m2 hu2
    go_upto_region 5 with fail
    obtain ⟨bo, oo, hAo, hco⟩ := ints_row HP.out.h0
    have HAo := Lib.hid hAo
    have HCo := Lib.hid hco
    have HU2 := Lib.hid (hu2.size fun b _ => (usedN_zero p.of b).symm)
    have HB2 := Lib.hid hb2
    clear m2 hb2 hz2 hu2 hAo hco x0 x1 x2 p0 p1 p2
    go_loopw [6] (fun v6 wx => ∃ i : Nat, v6 = .int .i64 i ∧ i ≤ no ∧ Hid (∀ j, j < i → 0 ≤ p.of.getD j 0 ∧ p.of.getD j 0 < (na : Int)) ∧ Hid (Cl Value.bool wx (P + 2) na (usedN p.of i)) ∧ Hid (Below W1.heap.size W1 wx)) (fun v6 _ => no - (intOf v6).toNat)
    case atStart => exact ⟨0, rfl, Nat.zero_le _, Lib.hid (fun j hj => absurd hj (Nat.not_lt_zero j)), HU2, HB2⟩
    case round =>
      obtain ⟨i, rfl, hi, HF, HU, HBx⟩ := hrel
      obtain ⟨p0, p1, p2⟩ := HX1.out.below HBx.out
      by_cases hlt : i < no
      · obtain ⟨rfl, -⟩ := HAo.out (by rw [HNo.out]; omega)
        have HW := Lib.hid (HB1.out.trans (HBx.out.mono HB1.out.size))
        have r2 := HCo.out i (by rw [HNo.out]; exact hlt) wr HW.out
        obtain ⟨v, hv⟩ : ∃ v, p.of.getD i 0 = v := ⟨_, rfl⟩
        rw [hv] at r2
        have HV := Lib.hid hv
        have HLt := Lib.hid hlt
        clear hv
        go_upto_region 7 with fail
        by_cases hv0 : v < 0
        · have g1 : decide (v < 0) = true := decide_eq_true hv0
          have HNot : Hid (¬ PMay x.nd p) := Lib.hid (fun h => by have := (h.ofl i (by rw [HN.out]; exact HLt.out)).1; rw [HV.out] at this; omega)
          go_quiet (fail)
          obtain ⟨W6, hW6⟩ : ∃ W, wr.drewN nq = W := ⟨_, rfl⟩
          rw [hW6]
          have hb6 : Below wr.heap.size wr W6 := by rw [← hW6]; exact pw_below_drewN (Below.refl _ _) _
          have HB9 := Lib.hid (HW.out.trans (hb6.mono HW.out.size))
          clear hW6 hb6 r2 p0 p1 p2
          go_wp2_with fail
          go_ret
          exact MayE.no HNot.out HB9.out
        · have g1 : decide (v < 0) = false := decide_eq_false hv0
          by_cases hv1 : v ≥ (na : Int)
          · have g2 : decide (v ≥ (na : Int)) = true := decide_eq_true hv1
            have HNot : Hid (¬ PMay x.nd p) := Lib.hid (fun h => by have := (h.ofl i (by rw [HN.out]; exact HLt.out)).2; rw [HV.out, HNn.out] at this; omega)
            go_quiet (fail)
            obtain ⟨W6, hW6⟩ : ∃ W, wr.drewN nq = W := ⟨_, rfl⟩
            rw [hW6]
            have hb6 : Below wr.heap.size wr W6 := by rw [← hW6]; exact pw_below_drewN (Below.refl _ _) _
            have HB9 := Lib.hid (HW.out.trans (hb6.mono HW.out.size))
            clear hW6 hb6 r2 p0 p1 p2
            go_wp2_with fail
            go_ret
            exact MayE.no HNot.out HB9.out
          · have g2 : decide (v ≥ (na : Int)) = false := decide_eq_false hv1
            obtain ⟨a, rfl⟩ : ∃ a : Nat, v = (a : Int) := ⟨v.toNat, by omega⟩
            have hal : a < na := by omega
            go_quiet (fail)
            obtain ⟨W6, hW6⟩ : ∃ W, wr.drewN nq = W := ⟨_, rfl⟩
            rw [hW6]
            have hb6 : Below wr.heap.size wr W6 := by rw [← hW6]; exact pw_below_drewN (Below.refl _ _) _
            have HB6 := Lib.hid (HBx.out.trans (hb6.mono HBx.out.size))
            have HU6 := Lib.hid (HU.out.below hb6 HU.out.s)
            have r6 := (hb6.cell (p := ⟨bo, oo + i, none⟩) (World.block_lt_of_cell? wr _ r2)).trans r2
            clear hW6 hb6 r2 p0 p1 p2 g1 g2 hv0 hv1
            obtain ⟨p0, p1, p2⟩ := HX1.out.below HB6.out
            have u1 := HU6.out.c a hal
            have u2 := HU6.out.f a hal
            have HUn := Lib.hid ((HU6.out.set a true).size fun b _ => usedN_succ p.of i a HV.out b)
            have HBn := Lib.hid (below_set2 (j := a) (v := .bool true) (by have := HZ1.out; omega : W1.heap.size ≤ P + 2) HB6.out)
            have HFn : Hid (∀ j, j < i + 1 → 0 ≤ p.of.getD j 0 ∧ p.of.getD j 0 < (na : Int)) := Lib.hid (fun j hj => by
              by_cases e : j < i
              · exact HF.out j e
              · obtain rfl : j = i := by omega
                rw [HV.out]; omega)
            go_wp2_with fail
            refine ⟨⟨i + 1, by simp, HLt.out, HFn, HUn, HBn⟩, by have := HLt.out; simp [intOf]; omega⟩
      · obtain rfl : no = i := by omega
        clear hlt hi
        go_upto_region 11 with fail
        clear p0 p1 p2
        obtain ⟨br, orr, hBr, hcr⟩ := rows_row HP.out.h1
        have HBr := Lib.hid hBr
        have HCr := Lib.hid hcr
        have HW3 := Lib.hid (HB1.out.trans (HBx.out.mono HB1.out.size))
        have HX3 := Lib.hid (HX1.out.below HBx.out)
        have HY3 := Lib.hid (HX0.out.below HBx.out)
        obtain ⟨W3, hW3⟩ : ∃ W, wr = W := ⟨_, rfl⟩
        rw [hW3] at HU HW3 HX3 HY3 ⊢
        clear hBr hcr hW3 HBx
        go_loopw [7] (fun v7 wx => ∃ b : Nat, v7 = .int .i64 b ∧ b ≤ na ∧ Hid (∀ j, j < b → usedN p.of no j = true ∧ (p.ah.getD j []).length = na) ∧ Hid (Below W3.heap.size W3 wx)) (fun v7 _ => na - (intOf v7).toNat)
        case atStart => exact ⟨0, rfl, Nat.zero_le _, Lib.hid (fun j hj => absurd hj (Nat.not_lt_zero j)), Lib.hid (Below.refl _ _)⟩
        case round =>
          obtain ⟨b, rfl, hb, HG, HBx⟩ := hrel
          obtain ⟨p0, p1, p2⟩ := HX3.out.below HBx.out
          by_cases hlt : b < na
          · obtain ⟨rfl, -⟩ := HBr.out (by rw [HNa.out]; omega)
            have HW := Lib.hid (HW3.out.trans (HBx.out.mono HW3.out.size))
            obtain ⟨A0, c0, hl0, hr0⟩ := HCr.out b (by rw [HNa.out]; exact hlt)
            have r2 := (hr0 wr HW.out).1
            obtain ⟨m, hmL⟩ : ∃ m, (p.ah.getD b []).length = m := ⟨_, rfl⟩
            rw [hmL] at r2
            have HMl := Lib.hid hmL
            have u1 := (HU.out.below HBx.out HU.out.s).c b hlt
            have HLt := Lib.hid hlt
            clear hmL hr0 hl0
            go_upto_region 13 with fail
            cases hub : usedN p.of no b
            · rw [hub] at u1
              have HNot : Hid (¬ PMay x.nd p) := Lib.hid (fun h => by
                obtain ⟨i, hi, h1⟩ := h.us b (by rw [HNn.out]; have := HLt.out; omega)
                rw [(usedN_iff p.of no b).2 ⟨i, by rw [← HN.out]; exact hi, h1⟩] at hub
                cases hub)
              clear hub
              go_quiet (fail)
              obtain ⟨W6, hW6⟩ : ∃ W, wr.drewN nq = W := ⟨_, rfl⟩
              rw [hW6]
              have hb6 : Below wr.heap.size wr W6 := by rw [← hW6]; exact pw_below_drewN (Below.refl _ _) _
              have HB9 := Lib.hid (HW.out.trans (hb6.mono HW.out.size))
              clear hW6 hb6 r2 p0 p1 p2 u1
              go_wp2_with fail
              go_ret
              exact MayE.no HNot.out HB9.out
            · rw [hub] at u1
              have HUb := Lib.hid hub
              clear hub
              by_cases hm2 : (m : Int) = (na : Int)
              · have g2 : ((m : Int) != (na : Int)) = false := by rw [hm2]; simp
                have HGn : Hid (∀ j, j < b + 1 → usedN p.of no j = true ∧ (p.ah.getD j []).length = na) := Lib.hid (fun j hj => by
                  by_cases e : j < b
                  · exact HG.out j e
                  · obtain rfl : j = b := by omega
                    exact ⟨HUb.out, by rw [HMl.out]; omega⟩)
                go_quiet (fail)
                obtain ⟨W6, hW6⟩ : ∃ W, wr.drewN nq = W := ⟨_, rfl⟩
                rw [hW6]
                have hb6 : Below wr.heap.size wr W6 := by rw [← hW6]; exact pw_below_drewN (Below.refl _ _) _
                have HB9 := Lib.hid (HBx.out.trans (hb6.mono HBx.out.size))
                clear hW6 hb6 r2 p0 p1 p2 u1
                go_wp2_with fail
                refine ⟨⟨b + 1, by simp, HLt.out, HGn, HB9⟩, by have := HLt.out; simp [intOf]; omega⟩
              · have g2 : ((m : Int) != (na : Int)) = true := by simpa using hm2
                have HNot : Hid (¬ PMay x.nd p) := Lib.hid (fun h => by
                  have := h.rl b (by rw [HNn.out]; have := HLt.out; omega)
                  rw [HMl.out, HNn.out] at this
                  exact hm2 this)
                go_quiet (fail)
                obtain ⟨W6, hW6⟩ : ∃ W, wr.drewN nq = W := ⟨_, rfl⟩
                rw [hW6]
                have hb6 : Below wr.heap.size wr W6 := by rw [← hW6]; exact pw_below_drewN (Below.refl _ _) _
                have HB9 := Lib.hid (HW.out.trans (hb6.mono HW.out.size))
                clear hW6 hb6 r2 p0 p1 p2 u1
                go_wp2_with fail
                go_ret
                exact MayE.no HNot.out HB9.out
          · obtain rfl : na = b := by omega
            clear hlt hb
            go_upto_region 16 with fail
            clear p0 p1 p2
            have HW4 := Lib.hid (HW3.out.trans (HBx.out.mono HW3.out.size))
            have HX4 := Lib.hid (HX3.out.below HBx.out)
            have HY4 := Lib.hid (HY3.out.below HBx.out)
            obtain ⟨W4, hW4⟩ : ∃ W, wr = W := ⟨_, rfl⟩
            rw [hW4] at HW4 HX4 HY4 ⊢
            clear hW4 HBx HU HX3 HY3 HX1 HX0
            go_loopw [8, 9] (fun v8 _ wx => ∃ i : Nat, v8 = .int .i64 i ∧ i ≤ na ∧ Hid (∀ a b, a < i → b < na → (p.ah.getD a []).getD b 0 = ahS x.nd p.of a b no) ∧ Hid (Below W4.heap.size W4 wx)) (fun v8 _ _ => na - (intOf v8).toNat)
            case atStart => exact ⟨0, rfl, Nat.zero_le _, Lib.hid (fun a b ha _ => absurd ha (Nat.not_lt_zero a)), Lib.hid (Below.refl _ _)⟩
            case round =>
              obtain ⟨i, rfl, hi, HA, HBx⟩ := hrel
              obtain ⟨p0, p1, p2⟩ := HX4.out.below HBx.out
              by_cases hlt : i < na
              · have HLt := Lib.hid hlt
                go_upto_region 19 with fail
                clear p0 p1 p2
                go_loopw [9] (fun v9 wy => ∃ k : Nat, v9 = .int .i64 k ∧ k ≤ na ∧ Hid (∀ b, b < k → (p.ah.getD i []).getD b 0 = ahS x.nd p.of i b no) ∧ Hid (Below W4.heap.size W4 wy)) (fun v9 _ => na - (intOf v9).toNat)
                case atStart => exact ⟨0, rfl, Nat.zero_le _, Lib.hid (fun b hb => absurd hb (Nat.not_lt_zero b)), HBx⟩
                case round =>
                  obtain ⟨k, rfl, hk, HK, HBy⟩ := hrel
                  obtain ⟨p0, p1, p2⟩ := HX4.out.below HBy.out
                  by_cases hlk : k < na
                  · have HLk := Lib.hid hlk
                    have HW := Lib.hid (HW4.out.trans (HBy.out.mono HW4.out.size))
                    obtain ⟨A0, c0, hl0, hr0⟩ := HCr.out i (by rw [HNa.out]; exact hlt)
                    obtain ⟨r2, r3⟩ := hr0 wr HW.out
                    have hrl := (HG.out i hlt).2
                    obtain ⟨b0, o0, rfl, r4, -⟩ := ints_at r3 k (by rw [hrl]; exact hlk)
                    rw [hrl] at r2
                    obtain ⟨v, hv⟩ : ∃ v, (p.ah.getD i []).getD k 0 = v := ⟨_, rfl⟩
                    rw [hv] at r4
                    have HV := Lib.hid hv
                    obtain ⟨x0, x1, x2⟩ := HY4.out.below HBy.out
                    have hah : ∀ q : BelowBy wr, Calls Tryd.prog 41 #[.agg #[.slice A no c, .slice B x.nt.length d, .int .i64 x.pt], .agg #[.slice A2 no c2, .int .i64 (na : Int), .slice B2 na d2], .int .i64 (i : Int), .int .i64 (k : Int)] q.W fun e w' => e = .returned (.int .i64 (ahS x.nd p.of i k no)) ∧ ∃ q' : BelowBy wr, w' = q'.W := fun q => by
                      have hWq := HW.out.trans (q.h.mono HW.out.size)
                      have h := aheadR_any x A c B d p A2 c2 B2 d2 i k q.W (HI.out.below hWq) (HP.out.below hWq) HM.out (HNo.out.trans HN.out.symm)
                      dsimp only [nlV, pV] at h
                      rw [HN.out, HNo.out, HNn.out, HNa.out] at h
                      exact call_below q h
                    have HAh := Lib.hid hah
                    obtain ⟨rfl, -⟩ := HBr.out (by rw [HNa.out]; omega)
                    obtain ⟨z, hz⟩ : ∃ z, ahS x.nd p.of i k no = z := ⟨_, rfl⟩
                    rw [hz] at HAh
                    have HZ := Lib.hid hz
                    have g0 : ∀ q : BelowBy wr, q.W.cell? ⟨P, 0, none⟩ = some (.slice A no c) := fun q => q.cell x0
                    have g1 : ∀ q : BelowBy wr, q.W.cell? ⟨P, 1, none⟩ = some (.slice B x.nt.length d) := fun q => q.cell x1
                    have g2 : ∀ q : BelowBy wr, q.W.cell? ⟨P, 2, none⟩ = some (.int .i64 x.pt) := fun q => q.cell x2
                    have g3 : ∀ q : BelowBy wr, q.W.cell? ⟨P + 1, 0, none⟩ = some (.slice A2 no c2) := fun q => q.cell p0
                    have g4 : ∀ q : BelowBy wr, q.W.cell? ⟨P + 1, 1, none⟩ = some (.int .i64 (na : Int)) := fun q => q.cell p1
                    have g5 : ∀ q : BelowBy wr, q.W.cell? ⟨P + 1, 2, none⟩ = some (.slice (some ⟨br, orr, none⟩) na d2) := fun q => q.cell p2
                    have g6 : ∀ q : BelowBy wr, q.W.cell? ⟨br, orr + i, none⟩ = some (.slice (some ⟨b0, o0, none⟩) na c0) := fun q => q.cell r2
                    have g7 : ∀ q : BelowBy wr, q.W.cell? ⟨b0, o0 + k, none⟩ = some (.int .i64 v) := fun q => q.cell r4
                    clear hr0 hl0 hrl hv hz hah r2 r3 r4 x0 x1 x2
                    go_upto_region 21 with fail
                    clear p0 p1 p2
                    have hcs : v = z ∨ v ≠ z := Decidable.em _
                    refine region_below (by kernel_rfl) (by kernel_rfl) ?_
                    repeat (quiet_step (with_reducible first | exact HAh.out _ | fail))
                    refine wpQuiet_nil ?_
                    rintro _ ⟨r, rfl⟩
                    have HBr2 := Lib.hid (HBy.out.trans (r.h.mono HBy.out.size))
                    have HB9 := Lib.hid (HW.out.trans (r.h.mono HW.out.size))
                    clear g0 g1 g2 g3 g4 g5 g6 g7
                    rcases hcs with hvz | hvz
                    · have e : (v != z) = false := by rw [hvz]; simp
                      have HKn : Hid (∀ b, b < k + 1 → (p.ah.getD i []).getD b 0 = ahS x.nd p.of i b no) := Lib.hid (fun b hb => by
                        by_cases e : b < k
                        · exact HK.out b e
                        · obtain rfl : b = k := by omega
                          rw [HV.out, HZ.out, hvz])
                      clear hvz
                      go_wp2_with fail
                      refine ⟨⟨k + 1, by simp, HLk.out, HKn, HBr2⟩, by have := HLk.out; simp [intOf]; omega⟩
                    · have e : (v != z) = true := by simpa using hvz
                      have HNot : Hid (¬ PMay x.nd p) := Lib.hid (fun h => by
                        have := h.ah i k (by rw [HNn.out]; have := HLt.out; omega) (by rw [HNn.out]; have := HLk.out; omega)
                        rw [HV.out, HN.out, HZ.out] at this
                        exact hvz this)
                      clear hvz
                      go_wp2_with fail
                      go_ret
                      exact MayE.no HNot.out HB9.out
                  · obtain rfl : na = k := by omega
                    have HAn : Hid (∀ a b, a < i + 1 → b < na → (p.ah.getD a []).getD b 0 = ahS x.nd p.of a b no) := Lib.hid (fun a b ha hb => by
                      by_cases e : a < i
                      · exact HA.out a b e hb
                      · obtain rfl : a = i := by omega
                        exact HK.out b hb)
                    clear hlk hk
                    go_wp2_with fail
                    refine ⟨⟨i + 1, by simp, HLt.out, HAn, HBy⟩, by have := HLt.out; simp [intOf]; omega⟩
              · obtain rfl : na = i := by omega
                clear hlt hi
                go_upto_region 24 with fail
                clear p0 p1 p2
                have HW5 := Lib.hid (HW4.out.trans (HBx.out.mono HW4.out.size))
                have HX5 := Lib.hid (HX4.out.below HBx.out)
                have HY5 := Lib.hid (HY4.out.below HBx.out)
                obtain ⟨W5, hW5⟩ : ∃ W, wr = W := ⟨_, rfl⟩
                rw [hW5] at HW5 HX5 HY5 ⊢
                clear hW5 HBx HX4 HY4 HCr HBr
                go_loopw [10, 11, 12] (fun v10 _ _ wx => ∃ i : Nat, v10 = .int .i64 i ∧ i ≤ no ∧ Hid (∀ a, a < i → (x.nd.getD a z39).f0 ≠ 8 → ∀ v ∈ (x.nd.getD a z39).f3, p.of.getD v.toNat 0 = p.of.getD a 0) ∧ Hid (Below W5.heap.size W5 wx)) (fun v10 _ _ _ => no - (intOf v10).toNat)
                case atStart => exact ⟨0, rfl, Nat.zero_le _, Lib.hid (fun a ha => absurd ha (Nat.not_lt_zero a)), Lib.hid (Below.refl _ _)⟩
                case round =>
                  obtain ⟨i, rfl, hi, HO, HBx⟩ := hrel
                  obtain ⟨x0, x1, x2⟩ := HY5.out.below HBx.out
                  by_cases hlt : i < no
                  · have HLt := Lib.hid hlt
                    have hk' : i < x.nd.length := by rw [HN.out]; exact hlt
                    have HW := Lib.hid (HW5.out.trans (HBx.out.mono HW5.out.size))
                    obtain ⟨b, o, A3, c3, hAn, hl3, hbs, hND⟩ := nodes_in HI.out.h0 i hk'
                    subst hAn
                    have hins := HM.out.ins i hk'
                    have hlen := HI.out.b0 (x.nd.getD i z39) (by rw [List.getD_eq_getElem?_getD, List.getElem?_eq_getElem hk']; exact List.getElem_mem hk')
                    have HOi := Lib.hid (fun (hq : (x.nd.getD i z39).f0 ≠ 8 → ∀ v ∈ (x.nd.getD i z39).f3, p.of.getD v.toNat 0 = p.of.getD i 0) (a : Nat) (ha : a < i + 1) => show (x.nd.getD a z39).f0 ≠ 8 → ∀ v ∈ (x.nd.getD a z39).f3, p.of.getD v.toNat 0 = p.of.getD a 0 from (by
                      by_cases e : a < i
                      · exact HO.out a e
                      · obtain rfl : a = i := by omega
                        exact hq))
                    have HOn := Lib.hid (fun (h : PMay x.nd p) => h.one i hk')
                    generalize x.nd.getD i z39 = y at *
                    obtain ⟨h0, h1, h2, h3, h4, h5, h6, h7, hC3⟩ := hND _ HW.out
                    have HC3 := Lib.hid hC3
                    have HIn := Lib.hid hins
                    clear hk' hC3 hbs hND hins
                    obtain ⟨m, hm⟩ : ∃ m, y.f3.length = m := ⟨_, rfl⟩
                    go_upto_region 28 with fail
                    obtain ⟨W6, hW6⟩ : ∃ W, wr.alloc (Obj.cells #[Value.int IntKind.i64 y.f0, Value.int IntKind.i64 y.f1, Value.int IntKind.i64 y.f2, Value.slice A3 m c3, Value.string y.f4, Value.int IntKind.i64 y.f5, Value.int IntKind.i64 y.f6, Value.int IntKind.i64 y.f7] 39) = W := ⟨_, rfl⟩
                    rw [hW6]
                    obtain ⟨hbx, hb6⟩ := box_node (W' := W6) HC3.out (by rw [hm]; exact hW6)
                    have HB6 := Lib.hid (HBx.out.trans (hb6.mono HBx.out.size))
                    obtain ⟨G, hG⟩ : ∃ G, wr.heap.size = G := ⟨_, rfl⟩
                    rw [hG] at hbx ⊢
                    have HXn := Lib.hid hbx
                    have HMm := Lib.hid hm
                    clear h0 h1 h2 h3 h4 h5 h6 h7 x0 x1 x2 hW6 hb6 hG hbx
                    go_loopw [12] (fun v12 wy => ∃ k : Nat, v12 = .int .i64 k ∧ k ≤ m ∧ Hid (y.f0 ≠ 8 → ∀ j, j < k → p.of.getD (y.f3.getD j 0).toNat 0 = p.of.getD i 0) ∧ Hid (Below W6.heap.size W6 wy)) (fun v12 _ => m - (intOf v12).toNat)
                    case atStart => exact ⟨0, rfl, Nat.zero_le _, Lib.hid (fun _ j hj => absurd hj (Nat.not_lt_zero j)), Lib.hid (Below.refl _ _)⟩
                    case round =>
                      obtain ⟨k, rfl, hk, HK, HBy⟩ := hrel
                      obtain ⟨y0, y1, y2, y3, y4, y5, y6, y7, hCy⟩ := HXn.out.below HBy.out
                      rw [HMm.out] at y3
                      have HBz := Lib.hid (HB6.out.trans (HBy.out.mono HB6.out.size))
                      have HWz := Lib.hid (HW5.out.trans (HBz.out.mono HW5.out.size))
                      by_cases hlk : k < m
                      · have HLk := Lib.hid hlk
                        have hkI : decide ((k : Int) < (m : Int)) = true := decide_eq_true (by omega)
                        by_cases h8 : y.f0 = 8
                        · have g8 : (y.f0 != 8) = false := by rw [h8]; rfl
                          have H8 := Lib.hid h8
                          clear h8
                          go_wp2_with fail
                          refine ⟨⟨i + 1, by simp, HLt.out, Lib.hid (HOi.out (fun h => absurd H8.out h)), HBz⟩, by have := HLt.out; simp [intOf]; omega⟩
                        · have g8 : (y.f0 != 8) = true := by simpa using h8
                          have hkl : k < y.f3.length := by rw [HMm.out]; exact hlk
                          have hmem : y.f3.getD k 0 ∈ y.f3 := by rw [List.getD_eq_getElem?_getD, List.getElem?_eq_getElem hkl]; exact List.getElem_mem hkl
                          obtain ⟨hv0, hv1⟩ := HIn.out _ hmem
                          obtain ⟨a, ha⟩ : ∃ a : Nat, y.f3.getD k 0 = (a : Int) := ⟨(y.f3.getD k 0).toNat, by omega⟩
                          obtain ⟨b3, o3, rfl, r3, -⟩ := ints_at hCy k hkl
                          rw [ha] at r3 hv1
                          rw [HN.out] at hv1
                          have han : a < no := by omega
                          obtain ⟨rfl, -⟩ := HAo.out (by rw [HNo.out]; omega)
                          have r1 := HCo.out a (by rw [HNo.out]; exact han) wr HWz.out
                          have r2 := HCo.out i (by rw [HNo.out]; exact hlt) wr HWz.out
                          obtain ⟨p0, p1, p2⟩ := HX5.out.below HBz.out
                          obtain ⟨va, hva⟩ : ∃ v, p.of.getD a 0 = v := ⟨_, rfl⟩
                          obtain ⟨vi, hvi⟩ : ∃ v, p.of.getD i 0 = v := ⟨_, rfl⟩
                          rw [hva] at r1
                          rw [hvi] at r2
                          have HVa := Lib.hid hva
                          have HVi := Lib.hid hvi
                          have HAa := Lib.hid ha
                          have HMe := Lib.hid hmem
                          have H8 := Lib.hid h8
                          clear hva hvi ha hmem h8 hkl hv0
                          go_upto_region 30 with fail
                          by_cases hvv : va = vi
                          · have e : (va != vi) = false := by rw [hvv]; simp
                            have HKn : Hid (y.f0 ≠ 8 → ∀ j, j < k + 1 → p.of.getD (y.f3.getD j 0).toNat 0 = p.of.getD i 0) := Lib.hid (fun hq j hj => by
                              by_cases e : j < k
                              · exact HK.out hq j e
                              · obtain rfl : j = k := by omega
                                rw [HAa.out, Int.toNat_natCast, HVa.out, HVi.out, hvv])
                            clear hvv
                            go_quiet (fail)
                            obtain ⟨W7, hW7⟩ : ∃ W, wr.drewN nq = W := ⟨_, rfl⟩
                            rw [hW7]
                            have hb7 : Below wr.heap.size wr W7 := by rw [← hW7]; exact pw_below_drewN (Below.refl _ _) _
                            have HB7 := Lib.hid (HBy.out.trans (hb7.mono HBy.out.size))
                            clear hW7 hb7 r1 r2 r3 p0 p1 p2 y0 y1 y2 y3 y4 y5 y6 y7
                            go_wp2_with fail
                            refine ⟨⟨k + 1, by simp, HLk.out, HKn, HB7⟩, by have := HLk.out; simp [intOf]; omega⟩
                          · have e : (va != vi) = true := by simpa using hvv
                            have HNot : Hid (¬ PMay x.nd p) := Lib.hid (fun h => by
                              have := HOn.out h H8.out _ HMe.out
                              rw [HAa.out, Int.toNat_natCast, HVa.out, HVi.out] at this
                              exact hvv this)
                            clear hvv
                            go_quiet (fail)
                            obtain ⟨W7, hW7⟩ : ∃ W, wr.drewN nq = W := ⟨_, rfl⟩
                            rw [hW7]
                            have hb7 : Below wr.heap.size wr W7 := by rw [← hW7]; exact pw_below_drewN (Below.refl _ _) _
                            have HB9 := Lib.hid (HWz.out.trans (hb7.mono HWz.out.size))
                            clear hW7 hb7 r1 r2 r3 p0 p1 p2 y0 y1 y2 y3 y4 y5 y6 y7
                            go_wp2_with fail
                            go_ret
                            exact MayE.no HNot.out HB9.out
                      · obtain rfl : m = k := by omega
                        have HOx : Hid (y.f0 ≠ 8 → ∀ v ∈ y.f3, p.of.getD v.toNat 0 = p.of.getD i 0) := Lib.hid (fun hq v hv => by
                          obtain ⟨j, hj, rfl⟩ := List.getElem_of_mem hv
                          have := HK.out hq j (by rw [← HMm.out]; exact hj)
                          rw [List.getD_eq_getElem?_getD (l := y.f3), List.getElem?_eq_getElem hj] at this
                          exact this)
                        clear hlk hk
                        go_wp2_with fail
                        refine ⟨⟨i + 1, by simp, HLt.out, Lib.hid (HOi.out HOx.out), HBz⟩, by have := HLt.out; simp [intOf]; omega⟩
                  · obtain rfl : no = i := by omega
                    have HB9 := Lib.hid (HW5.out.trans (HBx.out.mono HW5.out.size))
                    have HYes : Hid (PMay x.nd p) := Lib.hid ⟨by rw [HNn.out]; have := HOk.out; omega, by rw [HNn.out]; have := HOk.out; omega, HNo.out.trans HN.out.symm, by rw [HNa.out, HNn.out],
                      fun i hi => by rw [HNn.out]; exact HF.out i (by rw [← HN.out]; exact hi),
                      fun b hb => by
                        rw [HNn.out] at hb
                        obtain ⟨i, hi, h1⟩ := (usedN_iff p.of no b).1 (HG.out b (by omega)).1
                        exact ⟨i, by rw [HN.out]; exact hi, h1⟩,
                      fun i hi => by rw [HNn.out] at hi ⊢; rw [(HG.out i (by omega)).2],
                      fun i k hi hk => by rw [HNn.out] at hi hk; rw [HN.out]; exact HA.out i k (by omega) (by omega),
                      fun i hi => HO.out i (by rw [← HN.out]; exact hi)⟩
                    clear hlt hi
                    go_wp2_with fail
                    go_ret
                    exact MayE.yes HYes.out HB9.out
  · obtain ⟨p0, p1, p2⟩ := HX1.out
    obtain ⟨x0, x1, x2⟩ := HX0.out
    have HNot : Hid (¬ PMay x.nd p) := Lib.hid (fun h => hok ⟨⟨h.n1, h.n2⟩, by rw [← HNo.out, ← HN.out]; exact h.lo, by rw [← HNa.out]; exact h.la⟩)
    obtain ⟨N, hN⟩ : ∃ N, p.n = N := ⟨_, rfl⟩
    rw [hN] at hok p1

    rw [hN] at hW1
    by_cases h1 : N < 1
    · have g1 : decide (N < 1) = true := decide_eq_true h1
      clear hok
      go_enter Tryd.func23, Tryd.ntmps23
      go_upto_region 1 with fail
      rw [HZ0.out]
      go_wp2_with fail
      go_ret
      exact MayE.no HNot.out HB1.out
    · have g1 : decide (N < 1) = false := decide_eq_false h1
      by_cases h2 : N > 64
      · have g2 : decide (N > 64) = true := decide_eq_true h2
        have g2' : decide (64 < N) = true := decide_eq_true h2
        clear hok
        go_enter Tryd.func23, Tryd.ntmps23
        go_upto_region 1 with fail
        rw [HZ0.out]
        go_wp2_with fail
        go_ret
        exact MayE.no HNot.out HB1.out
      · have g2 : decide (N > 64) = false := decide_eq_false h2
        have g2' : decide (64 < N) = false := decide_eq_false h2
        by_cases h3 : no = n
        · subst h3
          have h4 : (na : Int) ≠ N := fun e => hok ⟨by omega, rfl, e⟩
          have g4 : ((na : Int) != N) = true := by simpa using h4
          have g5 : ((na : Int) == N) = false := beq_eq_false_iff_ne.2 h4
          clear hok
          go_enter Tryd.func23, Tryd.ntmps23
          go_upto_region 1 with fail
          rw [HZ0.out]
          go_wp2_with fail
          go_ret
          exact MayE.no HNot.out HB1.out
        · have g3 : ((no : Int) != (n : Int)) = true := by rw [bne_iff_ne]; omega
          clear hok
          go_enter Tryd.func23, Tryd.ntmps23
          go_upto_region 1 with fail
          rw [HZ0.out]
          go_wp2_with fail
          go_ret
          exact MayE.no HNot.out HB1.out
end Go.Proofs.YtonnmkhmhndalaaDoor
end
