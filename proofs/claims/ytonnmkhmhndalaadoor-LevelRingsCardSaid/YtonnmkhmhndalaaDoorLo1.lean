/- looped, walked: nodes that are a loop are told to be one. -/
import Derived.Test.YtonnmkhmhndalaaDoorMgE
namespace Go.Proofs.YtonnmkhmhndalaaDoor
set_option linter.unusedVariables false
set_option linter.unusedSimpArgs false
open Go.RowKit Go.Proofs.YtonnmkhmhndalaaDoorW.PrintWords Go.Proofs.YtonnmkhmhndalaaDoorW.PrintLast Go.Proofs.YtonnmkhmhndalaaDoorW.PrintMore

attribute [local irreducible] wpQuiet
def hgA (y : S39) (A : Option Addr) : Option Addr := if y.f0 = 8 then none else A
def hgC (y : S39) (c : Nat) : Nat := if y.f0 = 8 then 0 else c
theorem hgA_C (y : S39) (A3 : Option Addr) (W : World) (h7 : y.f0 = 7 → 1 ≤ y.f3.length) (h : Kd.C (Kd.int .i64) W A3 y.f3.length y.f3) : Kd.C (Kd.int .i64) W (hgA y A3) (hg y).length (hg y) := by
  unfold hgA hg
  by_cases h8 : y.f0 = 8
  · rw [if_pos h8, if_pos h8]; exact Kd.C_nil _ _
  · rw [if_neg h8, if_neg h8]
    by_cases h77 : y.f0 = 7
    · rw [if_pos h77]; exact Kd.C_take h (h7 h77)
    · rw [if_neg h77]; exact h
set_option maxHeartbeats 1000000 in
theorem hangsR_fix (x : S39) (A : Option Addr) (c : Nat) (w : World) (hc : x.f3.length ≤ c) (h7 : x.f0 = 7 → 1 ≤ x.f3.length) :
    Calls Tryd.prog 19 #[ndV x A c] w fun e w' => e = .returned (.slice (hgA x A) (hg x).length (hgC x c)) ∧ Below w.heap.size w w' := by
  have HL := Lib.hid hc
  have hb : Below w.heap.size w (w.alloc (.cells #[.int .i64 x.f0, .int .i64 x.f1, .int .i64 x.f2, .slice A x.f3.length c, .string x.f4, .int .i64 x.f5, .int .i64 x.f6, .int .i64 x.f7] 39)) := below_alloc (Below.refl _ _) _
  have HB := Lib.hid hb
  clear hc hb
  by_cases h8 : x.f0 = 8
  · have e : hg x = [] := by unfold hg; rw [if_pos h8]
    have eA : hgA x A = none := if_pos h8
    have eC : hgC x c = 0 := if_pos h8
    have hk8 : (x.f0 == 8) = true := beq_iff_eq.mpr h8
    have E := Lib.hid e
    have EA := Lib.hid eA
    have EC := Lib.hid eC
    clear h8 h7 e eA eC
    go_enter Tryd.func19, Tryd.ntmps19
    go_wp2_with fail
    go_ret
    rw [E.out, EA.out, EC.out]
    exact ⟨rfl, HB.out⟩
  · have hk8 : (x.f0 == 8) = false := beq_eq_false_iff_ne.mpr h8
    have eA : hgA x A = A := if_neg h8
    have eC : hgC x c = c := if_neg h8
    have EA := Lib.hid eA
    have EC := Lib.hid eC
    by_cases h77 : x.f0 = 7
    · have h1 := h7 h77
      have el : (hg x).length = 1 := by unfold hg; rw [if_neg h8, if_pos h77, List.length_take]; omega
      have hk7 : (x.f0 == 7) = true := beq_iff_eq.mpr h77
      have hlc := HL.out
      have E := Lib.hid el
      clear h8 h7 el h77 eA eC
      go_enter Tryd.func19, Tryd.ntmps19
      go_wp2_with fail
      go_ret
      rw [E.out, EA.out, EC.out]
      exact ⟨rfl, HB.out⟩
    · have e : hg x = x.f3 := by unfold hg; rw [if_neg h8, if_neg h77]
      have hk7 : (x.f0 == 7) = false := beq_eq_false_iff_ne.mpr h77
      have E := Lib.hid e
      clear h8 h7 e h77 eA eC
      go_enter Tryd.func19, Tryd.ntmps19
      go_wp2_with fail
      go_ret
      rw [E.out, EA.out, EC.out]
      exact ⟨rfl, HB.out⟩

set_option maxRecDepth 100000 in
set_option maxHeartbeats 8000000 in
theorem looped_any (x : NL) (A : Option Addr) (c : Nat) (B : Option Addr) (d : Nat) (p : List Nat) (Ap : Option Addr) (cp : Nat) (w : World) (hI : NIn w x A c B d) (hL : LOk x.nd) (hp : Kd.C (Kd.int .i64) w Ap p.length (ints p)) (hlo : Looped x.nd.length (hs x.nd) p) :
    Calls Tryd.prog 17 #[nlV x A c B d, .slice Ap p.length cp] w fun e w' => e = .returned (.bool true) ∧ Below w.heap.size w w' := by
  have HI := Lib.hid hI
  have HL := Lib.hid hL
  have HLo := Lib.hid hlo
  have hpn := nodup_len p x.nd.length hlo.nd hlo.lt
  have hp0 : 0 < p.length := List.length_pos_iff.2 hlo.ne
  obtain ⟨n, hn⟩ : ∃ n, x.nd.length = n := ⟨_, rfl⟩
  obtain ⟨L, hl⟩ : ∃ L, p.length = L := ⟨_, rfl⟩
  have hn4 : n ≤ 4096 := by rw [← hn]; exact hL.n
  rw [hl] at hp hpn hp0
  rw [hl]
  rw [hn] at hpn
  have HP := Lib.hid hp
  have HN := Lib.hid hn
  have HLl := Lib.hid hl
  have HHs : Hid (∀ k, k < n → ∀ h ∈ hs x.nd k, h < n) := Lib.hid (by rw [← hn]; exact hL.hsl)
  have HLt : Hid (∀ i, i < L → p.getD i 0 < n) := Lib.hid (fun i hi => by
    rw [← hn, List.getD_eq_getElem?_getD, List.getElem?_eq_getElem (by omega)]
    exact hlo.lt _ (List.getElem_mem _))
  clear hI hL hlo hp
  go_enter Tryd.func17, Tryd.ntmps17
  go_upto_region 1 with fail
  obtain ⟨W0, hW0⟩ : ∃ W, w.alloc (Obj.cells #[.slice A n c, .slice B x.nt.length d, .int .i64 x.pt] 25) = W := ⟨_, rfl⟩
  rw [hW0]
  obtain ⟨hx0, hb0, hz0⟩ := box_list hW0
  have hzz : w.heap.size < W0.heap.size := by omega
  have HX0 := Lib.hid hx0
  have q0 := HX0.out.k0
  obtain ⟨W1, m1, hb1, hz1, ho1⟩ := make59 n (by omega) W0
  have HB0 := Lib.hid hb0
  have HB1 := Lib.hid hb1
  have HO1 := Lib.hid ho1
  clear hx0 hb0 hz0 hb1 hz1 ho1 hW0 hn hl
  go_upto_region 2 with fail
  clear q0 m1
  go_wp2_with fail
  go_loopw [6] (fun v6 wx => ∃ i : Nat, v6 = .int .i64 i ∧ i ≤ L ∧ Hid (Cl Value.bool wx W0.heap.size n (fun a => decide (a ∈ p.take i))) ∧ Hid (Below W0.heap.size W0 wx)) (fun v6 _ => L - (intOf v6).toNat)
  case atStart => exact ⟨0, rfl, Nat.zero_le _, Lib.hid (HO1.out.size (fun j _ => by rw [List.take_zero]; exact (decide_eq_false (by simp)).symm)), HB1⟩
  case round =>
    obtain ⟨i, rfl, hi, HC, HBx⟩ := hrel
    have q0 := (HX0.out.belowB HBx.out hzz).k0
    by_cases hlt : i < L
    · have hCp := Kd.C_below HP.out (HB0.out.trans (HBx.out.mono (Nat.le_of_lt hzz)))
      rw [← HLl.out, ← ints_len p] at hCp
      obtain ⟨b6, o6, hA6, g6, -⟩ := ints_at hCp i (by rw [ints_len, HLl.out]; exact hlt)
      subst hA6
      rw [ints_getD p i (by rw [HLl.out]; exact hlt)] at g6
      have han := HLt.out i hlt
      have hnm : p.getD i 0 ∉ p.take i := by
        have hnd := HLo.out.nd
        have hil : i < p.length := by rw [HLl.out]; exact hlt
        rw [List.getD_eq_getElem?_getD, List.getElem?_eq_getElem hil]
        show p[i] ∉ p.take i
        have h1 : p.take (i + 1) = p.take i ++ [p[i]] := List.take_succ_eq_append_getElem hil
        have h2 : (p.take (i + 1)).Nodup := hnd.sublist (List.take_sublist _ _)
        rw [h1] at h2
        exact fun hm => (List.nodup_append.1 h2).2.2 _ hm _ (by simp) rfl
      have hsu : upd (fun a => decide (a ∈ p.take i)) (p.getD i 0) true = fun a => decide (a ∈ p.take (i + 1)) := by
        have hil : i < p.length := by rw [HLl.out]; exact hlt
        have h1 : p.take (i + 1) = p.take i ++ [p.getD i 0] := by
          rw [List.take_succ_eq_append_getElem hil, List.getD_eq_getElem?_getD, List.getElem?_eq_getElem hil]; rfl
        funext a
        rw [h1]
        unfold upd
        by_cases e : a = p.getD i 0
        · rw [if_pos e]; exact (decide_eq_true (by rw [e]; simp)).symm
        · rw [if_neg e]
          have hm : a ∈ p.take i ++ [p.getD i 0] ↔ a ∈ p.take i := by
            rw [List.mem_append, List.mem_singleton]
            exact ⟨fun h => h.elim id (fun h => absurd h e), Or.inl⟩
          exact (decide_eq_decide.2 hm).symm
      have HSu := Lib.hid hsu
      clear hsu
      generalize p.getD i 0 = a at *
      have c1 := HC.out.c a han
      have c2 := HC.out.f a han
      rw [decide_eq_false hnm] at c1
      have g1 : decide ((a : Int) < 0) = false := decide_eq_false (by omega)
      have g2 : decide ((a : Int) ≥ (n : Int)) = false := decide_eq_false (by omega)
      have g3 : (a : Int) < (n : Int) := by omega
      have HLt2 := Lib.hid hlt
      have hiL : (i : Int) < (L : Int) := by omega
      clear hnm hCp
      have n0 : ∀ p : BelowBy wr, p.W.cell? ⟨b6, o6 + i, none⟩ = some (.int .i64 (a : Int)) := fun p => p.cell g6
      have n1 : ∀ p : BelowBy wr, p.W.cell? ⟨w.heap.size, 0, none⟩ = some (.slice A n c) := fun p => p.cell q0
      have n2 : ∀ p : BelowBy wr, p.W.cell? ⟨W0.heap.size, a, none⟩ = some (.bool false) := fun p => p.cell c1
      clear g6 q0 c1 c2
      go_upto_region 5 with fail
      refine region_below (by kernel_rfl) (by kernel_rfl) ?_
      repeat (quiet_step (fail))
      refine wpQuiet_nil ?_
      rintro _ ⟨pp, rfl⟩
      have g6 := n0 pp
      have HCp := Lib.hid (HC.out.below pp.h HC.out.s)
      have c1 := HCp.out.c a han
      have c2 := HCp.out.f a han
      go_wp2_with fail
      refine ⟨⟨i + 1, by simp, HLt2.out, by rw [← HSu.out]; exact Lib.hid (HCp.out.set a true), Lib.hid (below_set2 (Nat.le_refl _) (HBx.out.trans (pp.h.mono HBx.out.size)))⟩, by have := HLt2.out; simp [intOf]; omega⟩
    · obtain rfl : i = L := by omega
      clear hlt hi q0
      have HB2 := Lib.hid (HB0.out.trans (HBx.out.mono (Nat.le_of_lt hzz)))
      go_wp2_with fail
      go_loopw [7] (fun v7 wx => ∃ k : Nat, v7 = .int .i64 k ∧ k ≤ i ∧ Hid (Below W0.heap.size W0 wx)) (fun v7 _ => i - (intOf v7).toNat)
      case atStart => exact ⟨0, rfl, Nat.zero_le _, HBx⟩
      case round =>
        obtain ⟨k, rfl, hk, HBy⟩ := hrel
        have HXy := Lib.hid (HX0.out.belowB HBy.out hzz)
        have HBz := Lib.hid (HB0.out.trans (HBy.out.mono (Nat.le_of_lt hzz)))
        by_cases hlt : k < i
        · have hCp := Kd.C_below HP.out HBz.out
          rw [← HLl.out, ← ints_len p] at hCp
          have hCp2 := hCp
          obtain ⟨b6, o6, hA6, g6, -⟩ := ints_at hCp k (by rw [ints_len, HLl.out]; exact hlt)
          subst hA6
          rw [ints_getD p k (by rw [HLl.out]; exact hlt)] at g6
          have han := HLt.out k hlt
          -- the next one
          obtain ⟨t, ht⟩ : ∃ t, (k + 1) % i = t := ⟨_, rfl⟩
          have hti : t < i := by rw [← ht]; exact Nat.mod_lt _ hp0
          obtain ⟨b7, o7, hA7, g7, -⟩ := ints_at hCp2 t (by rw [ints_len, HLl.out]; exact hti)
          injection hA7 with hA7
          injection hA7 with hb7 ho7
          subst hb7 ho7
          rw [ints_getD p t (by rw [HLl.out]; exact hti)] at g7
          have hho := HLo.out.ho k (by rw [HLl.out]; exact hlt)
          rw [HLl.out, ht] at hho
          generalize p.getD t 0 = z at *
          generalize p.getD k 0 = a at *
          have hk' : a < x.nd.length := by rw [HN.out]; exact han
          obtain ⟨b, o, A3, c3, hA, hl3, hbs, hND⟩ := nodes_in HI.out.h0 a hk'
          subst hA
          have hq7 := HL.out.f a hk'
          have HCs := Lib.hid (HL.out.cast a hk')
          have HLe := Lib.hid (HL.out.le a hk')
          have HLn := Lib.hid (hs_len x.nd a)
          generalize x.nd.getD a z39 = y at *
          have hh := fun W => hangsR_fix y A3 c3 W hl3 hq7
          have HH := Lib.hid hh
          have HND := Lib.hid hND
          have HQ7 := Lib.hid hq7
          have HHo := Lib.hid hho
          obtain ⟨h0, h1, h2, h3, h4, h5, h6, h7, hC3⟩ := hND _ HBz.out
          have q0 := HXy.out.k0
          have n0 : ∀ p : BelowBy wr, p.W.cell? ⟨b6, o6 + k, none⟩ = some (.int .i64 (a : Int)) := fun p => p.cell g6
          have n1 : ∀ p : BelowBy wr, p.W.cell? ⟨w.heap.size, 0, none⟩ = some (.slice (some ⟨b, o, none⟩) n c) := fun p => p.cell q0
          have p0 : ∀ p : BelowBy wr, p.W.cell? ⟨b, o + a * 8, none⟩ = some (.int .i64 y.f0) := fun p => p.cell h0
          have p1 : ∀ p : BelowBy wr, p.W.cell? ⟨b, o + a * 8 + 1, none⟩ = some (.int .i64 y.f1) := fun p => p.cell h1
          have p2 : ∀ p : BelowBy wr, p.W.cell? ⟨b, o + a * 8 + 2, none⟩ = some (.int .i64 y.f2) := fun p => p.cell h2
          have p3 : ∀ p : BelowBy wr, p.W.cell? ⟨b, o + a * 8 + 3, none⟩ = some (.slice A3 y.f3.length c3) := fun p => p.cell h3
          have p4 : ∀ p : BelowBy wr, p.W.cell? ⟨b, o + a * 8 + 4, none⟩ = some (.string y.f4) := fun p => p.cell h4
          have p5 : ∀ p : BelowBy wr, p.W.cell? ⟨b, o + a * 8 + 5, none⟩ = some (.int .i64 y.f5) := fun p => p.cell h5
          have p6 : ∀ p : BelowBy wr, p.W.cell? ⟨b, o + a * 8 + 6, none⟩ = some (.int .i64 y.f6) := fun p => p.cell h6
          have p7 : ∀ p : BelowBy wr, p.W.cell? ⟨b, o + a * 8 + 7, none⟩ = some (.int .i64 y.f7) := fun p => p.cell h7
          have hkI : (k : Int) < (i : Int) := by omega
          have haI : (a : Int) < (n : Int) := by omega
          have HG7 := Lib.hid g7
          have HK := Lib.hid hlt
          have HTi := Lib.hid hti
          have HT := Lib.hid ht
          clear hk' hl3 hbs hND hq7 hh hho h0 h1 h2 h3 h4 h5 h6 h7 hC3 q0 g6 g7 hCp hCp2 ht hti hlt
          go_upto_region 11 with fail
          refine region_below (by kernel_rfl) (by kernel_rfl) ?_
          repeat (quiet_step (with_reducible first | exact call_below _ (HH.out _) | fail))
          refine wpQuiet_nil ?_
          rintro _ ⟨pp, rfl⟩
          obtain ⟨m, hm⟩ : ∃ m, (hg y).length = m := ⟨_, rfl⟩
          have HPp := Lib.hid pp.h
          generalize pp.W = W5 at *
          have HMm := Lib.hid (HLn.out.trans hm)
          have HMM := Lib.hid hm
          have hm256 : m ≤ 256 := by rw [← hm]; exact HLe.out
          clear n0 n1 p0 p1 p2 p3 p4 p5 p6 p7
          go_wp2_with fail
          clear hm
          go_loopw [9, 10] (fun v9 v10 wy => ∃ (j : Nat) (sb : Bool), v9 = .bool sb ∧ v10 = .int .i64 j ∧ j ≤ m ∧ Hid (sb = decide (z ∈ (hs x.nd a).take j)) ∧ Hid (Below W5.heap.size W5 wy)) (fun _ v10 _ => m - (intOf v10).toNat)
          case atStart => exact ⟨0, false, rfl, rfl, Nat.zero_le _, Lib.hid (by rw [List.take_zero]; exact (decide_eq_false (by simp)).symm), Lib.hid (Below.refl _ _)⟩
          case round =>
            obtain ⟨j, sb, rfl, rfl, hj, HSb, HBj⟩ := hrel
            have HBq := Lib.hid (HBz.out.trans ((HPp.out.trans (HBj.out.mono HPp.out.size)).mono HBz.out.size))
            by_cases hjl : j < m
            · have hjs : j < (hs x.nd a).length := by rw [HMm.out]; exact hjl
              have htk : decide (z ∈ (hs x.nd a).take (j + 1)) = (decide (z ∈ (hs x.nd a).take j) || decide ((hs x.nd a).getD j 0 = z)) := by
                rw [List.take_succ_eq_append_getElem hjs, List.getD_eq_getElem?_getD, List.getElem?_eq_getElem hjs]
                by_cases e1 : z ∈ (hs x.nd a).take j
                · rw [decide_eq_true e1, decide_eq_true (List.mem_append_left _ e1)]; rfl
                · rw [decide_eq_false e1]
                  by_cases e2 : (hs x.nd a)[j] = z
                  · rw [decide_eq_true (show (some (hs x.nd a)[j]).getD 0 = z from e2), decide_eq_true (List.mem_append_right _ (List.mem_singleton.2 e2.symm))]; rfl
                  · rw [decide_eq_false (show ¬ (some (hs x.nd a)[j]).getD 0 = z from e2), decide_eq_false (fun h => by
                      rcases List.mem_append.1 h with h | h
                      · exact e1 h
                      · exact e2 (List.mem_singleton.1 h).symm)]; rfl
              rw [← HSb.out] at htk
              have HTk := Lib.hid htk
              have HJl := Lib.hid hjl
              cases sb
              · have hCy := hgA_C y A3 wr HQ7.out (HND.out _ HBq.out).hC
                obtain ⟨b8, o8, hA8, g8, -⟩ := ints_at hCy j (by rw [HMM.out]; exact hjl)
                have hv : (hg y).getD j 0 = ((hs x.nd a).getD j 0 : Nat) := by rw [← HCs.out, ints_getD _ _ hjs]
                rw [hv] at g8
                rw [hA8]
                generalize (hs x.nd a).getD j 0 = u at *
                have g7 := ((HPp.out.trans (HBj.out.mono HPp.out.size)).cell (p := ⟨b6, o6 + t, none⟩) (World.block_lt_of_cell? _ _ HG7.out)).trans HG7.out
                have n0 : ∀ p : BelowBy wr, p.W.cell? ⟨b8, o8 + j, none⟩ = some (.int .i64 (u : Int)) := fun p => p.cell g8
                have n1 : ∀ p : BelowBy wr, p.W.cell? ⟨b6, o6 + t, none⟩ = some (.int .i64 (z : Int)) := fun p => p.cell g7
                have w1 : IntKind.i64.wrap ((k : Int) + 1) = (k : Int) + 1 := IntWalk.i64_in _ (by have := HK.out; omega)
                have hrt : ((k + 1 : Nat) : Int) % (i : Int) = (t : Int) := by have := HT.out; omega
                have r2 : ((k : Int) + 1) % (i : Int) = (t : Int) := hrt
                have r1 : Int.tmod ((k : Int) + 1) (i : Int) = (t : Int) := by rw [Int.tmod_eq_emod_of_nonneg (by omega)]; exact r2
                have ti : (t : Int) < (i : Int) := by have := HTi.out; omega
                have jm : (j : Int) < (m : Int) := by omega
                have ip : (0 : Int) < (i : Int) := by omega
                have ip2 : ¬ (i : Int) = 0 := by omega
                have ip3 : ((i : Int) == 0) = false := beq_eq_false_iff_ne.mpr ip2
                have ip4 : ¬ i = 0 := by omega
                have w2 : IntKind.i64.wrap (t : Int) = (t : Int) := IntWalk.i64_in _ (by have := HTi.out; have := HK.out; omega)
                clear hCy hA8 hv g8 g7 hrt htk hjs hjl
                by_cases e : u = z
                · have d1 : ((u : Int) == (z : Int)) = true := beq_iff_eq.mpr (by omega)
                  have E := Lib.hid e
                  clear e
                  go_upto_region 16 with fail
                  refine region_below (by kernel_rfl) (by kernel_rfl) ?_
                  repeat (quiet_step (fail))
                  refine wpQuiet_nil ?_
                  rintro _ ⟨pp, rfl⟩
                  clear w1 r1 r2 w2
                  go_wp2_with fail
                  refine ⟨⟨j + 1, true, rfl, by simp, HJl.out, Lib.hid (by rw [HTk.out, decide_eq_true E.out]; rfl), Lib.hid (HBj.out.trans (pp.h.mono HBj.out.size))⟩, by have := HJl.out; simp [intOf]; omega⟩
                · have d1 : ((u : Int) == (z : Int)) = false := beq_eq_false_iff_ne.mpr (by omega)
                  have E := Lib.hid e
                  clear e
                  go_upto_region 16 with fail
                  refine region_below (by kernel_rfl) (by kernel_rfl) ?_
                  repeat (quiet_step (fail))
                  refine wpQuiet_nil ?_
                  rintro _ ⟨pp, rfl⟩
                  clear w1 r1 r2 w2
                  go_wp2_with fail
                  refine ⟨⟨j + 1, false, rfl, by simp, HJl.out, Lib.hid (by rw [HTk.out, decide_eq_false E.out]; rfl), Lib.hid (HBj.out.trans (pp.h.mono HBj.out.size))⟩, by have := HJl.out; simp [intOf]; omega⟩
              · clear htk hjs hjl
                go_upto_region 16 with fail
                refine region_below (by kernel_rfl) (by kernel_rfl) ?_
                repeat (quiet_step (fail))
                refine wpQuiet_nil ?_
                rintro _ ⟨pp, rfl⟩
                go_wp2_with fail
                refine ⟨⟨j + 1, true, rfl, by simp, HJl.out, Lib.hid (by rw [HTk.out]; rfl), Lib.hid (HBj.out.trans (pp.h.mono HBj.out.size))⟩, by have := HJl.out; simp [intOf]; omega⟩
            · obtain rfl : j = m := by omega
              have hsb : sb = true := by
                rw [HSb.out, List.take_of_length_le (by rw [HMm.out]; exact Nat.le_refl _)]
                exact decide_eq_true HHo.out
              subst hsb
              go_wp2_with fail
              refine ⟨⟨k + 1, by simp, HK.out, Lib.hid (HBy.out.trans ((HPp.out.trans (HBj.out.mono HPp.out.size)).mono HBy.out.size))⟩, by have := HK.out; simp [intOf]; omega⟩
        · obtain rfl : k = i := by omega
          go_wp2_with fail
          go_ret
          exact ⟨by try rfl, HBz.out⟩
end Go.Proofs.YtonnmkhmhndalaaDoor
