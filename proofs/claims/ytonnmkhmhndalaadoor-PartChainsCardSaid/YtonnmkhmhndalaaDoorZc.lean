/- Which netlists may be: what it says of each part. What is asked of all parts of a node: the functions that are handed on, walked. Maps with whole numbers for keys that the call makes: what they hold, plainly. Which nodes may be, walked. Which netlists may be, as the program has it, walked. -/
import Derived.Test.YtonnmkhmhndalaaDoorZb
import Derived.Test.YtonnmkhmhndalaaDoorZa
import Derived.Maps.Own
import Derived.Maps.OwnOps
import Derived.Maps.OwnSet
import Derived.Maps.Views
section
namespace Go.Proofs.YtonnmkhmhndalaaDoor
set_option linter.unusedVariables false
set_option linter.unusedSimpArgs false
open Go.RowKit Go.Proofs.YtonnmkhmhndalaaDoorW.PrintWords Go.Proofs.YtonnmkhmhndalaaDoorW.PrintLast Go.Proofs.YtonnmkhmhndalaaDoorW.PrintMore
structure MayP (x : NL) : Prop where
  n : x.nd.length ≤ 4096
  p : x.pt = x.nt.length
  w : ∀ i, i < x.nd.length → wideB x.nd.length (nAt x i) = true
  t : ∀ i, i < x.nt.length → inB x.nd.length (x.nt.getD i 0) = true
  k : ∀ i, i < x.nd.length → nodeB (wsOf x.nd (nAt x i)) (nAt x i) = true
  z : ∀ i, i < x.nd.length → zeroB (nAt x i) = true
  q : ∀ i, i < x.nd.length → portB x.nt i (nAt x i) = true
theorem all_getD {α : Type} (l : List α) (d : α) (p : α → Bool) : l.all p = true ↔ ∀ i, i < l.length → p (l.getD i d) = true := by
  rw [List.all_eq_true]
  constructor
  · intro h i hi
    rw [List.getD_eq_getElem?_getD, List.getElem?_eq_getElem hi]
    exact h _ (List.getElem_mem hi)
  · intro h a ha
    obtain ⟨i, hi, rfl⟩ := List.getElem_of_mem ha
    have := h i hi
    rw [List.getD_eq_getElem?_getD, List.getElem?_eq_getElem hi] at this
    exact this
theorem may_iff (x : NL) : mayL x = true ↔ MayP x := by
  unfold mayL
  simp only [Bool.and_eq_true, decide_eq_true_eq]
  rw [all_getD _ z39, all_getD _ (0 : Int), List.all_eq_true]
  constructor
  · rintro ⟨⟨h1, h2⟩, h3, h4, h5⟩
    have h6 : ∀ i, i < x.nd.length → okB x i = true := fun i hi => h5 i (List.mem_range.2 hi)
    unfold okB at h6
    simp only [Bool.and_eq_true] at h6
    exact ⟨h1, h2, h3, h4, fun i hi => (h6 i hi).1, fun i hi => (h6 i hi).2.1, fun i hi => (h6 i hi).2.2⟩
  · intro h
    refine ⟨⟨h.n, h.p⟩, h.w, h.t, fun i hi => ?_⟩
    have hi' := List.mem_range.1 hi
    unfold okB
    rw [h.k i hi', h.z i hi', h.q i hi']
    rfl
theorem may_no {x : NL} (h : ¬ MayP x) : mayL x = false := by
  cases e : mayL x
  · rfl
  · exact absurd ((may_iff x).1 e) h
theorem wideB_iff (n : Nat) (y : S39) : wideB n y = true ↔ 1 ≤ y.f2 ∧ y.f2 ≤ 256 ∧ ∀ k, k < y.f3.length → 0 ≤ y.f3.getD k 0 ∧ y.f3.getD k 0 < n := by
  unfold wideB inB
  rw [Bool.and_eq_true, all_getD _ (0 : Int)]
  simp only [Bool.and_eq_true, decide_eq_true_eq]
  constructor
  · rintro ⟨⟨a, b⟩, c⟩; exact ⟨a, b, c⟩
  · rintro ⟨a, b, c⟩; exact ⟨⟨a, b⟩, c⟩
theorem opW_len (op hi lo : Int) (ws : List Int) (hs : (ws.length : Int) ≤ ws.sum) (h1 : 1 ≤ opW op hi lo ws) (h2 : opW op hi lo ws ≤ 256) : ws.length ≤ 256 := by
  unfold opW isI at h1 h2
  generalize ws.sum = S at *
  generalize ws.getD 0 0 = a0 at *
  generalize ws.getD 1 0 = a1 at *
  generalize ws.getD 2 0 = a2 at *
  generalize ws.length = N at *
  by_cases c1 : N = 1
  · omega
  · by_cases c2 : N = 2
    · omega
    · by_cases c3 : N = 3
      · omega
      · have e1 : (N == 1) = false := beq_eq_false_iff_ne.mpr c1
        have e2 : (N == 2) = false := beq_eq_false_iff_ne.mpr c2
        rw [e1, e2] at h1 h2
        simp [c1, c2, c3] at h1 h2
        repeat' split at h1
        all_goals first | omega | (simp_all; done) | (simp_all; omega)
theorem MayP.lok {x : NL} (h : MayP x) : LOk x.nd := by
  have hwd : ∀ i, i < x.nd.length → 1 ≤ (nAt x i).f2 ∧ (nAt x i).f2 ≤ 256 ∧ ∀ k, k < (nAt x i).f3.length → 0 ≤ (nAt x i).f3.getD k 0 ∧ (nAt x i).f3.getD k 0 < x.nd.length := fun i hi => (wideB_iff _ _).1 (h.w i hi)
  have hin : ∀ i, i < x.nd.length → ∀ u ∈ (nAt x i).f3, 0 ≤ u ∧ u < x.nd.length := by
    intro i hi u hu
    obtain ⟨k, hk, rfl⟩ := List.getElem_of_mem hu
    have := (hwd i hi).2.2 k hk
    rw [List.getD_eq_getElem?_getD, List.getElem?_eq_getElem hk] at this
    exact this
  have hlen : ∀ i, i < x.nd.length → (nAt x i).f3.length ≤ 256 ∧ ((nAt x i).f0 = 7 → 1 ≤ (nAt x i).f3.length) := by
    intro i hi
    have hk := h.k i hi
    have hwl : (wsOf x.nd (nAt x i)).length = (nAt x i).f3.length := List.length_map _
    have hws : ∀ a ∈ wsOf x.nd (nAt x i), 1 ≤ a ∧ a ≤ 256 := by
      intro a ha
      obtain ⟨u, hu, rfl⟩ := List.mem_map.1 ha
      have := hin i hi u hu
      have h2 := hwd u.toNat (by omega)
      exact ⟨h2.1, h2.2.1⟩
    have hsm := sum_bd _ hws
    have hw1 := (hwd i hi).1
    have hw2 := (hwd i hi).2.1
    generalize nAt x i = y at *
    generalize wsOf x.nd y = ws at *
    rw [hwl] at hsm
    unfold nodeB at hk
    by_cases k1 : y.f0 = 1
    · rw [if_pos k1] at hk; simp only [Bool.and_eq_true, decide_eq_true_eq] at hk; omega
    · by_cases k2 : y.f0 = 2
      · rw [if_neg k1, if_pos k2] at hk; simp only [Bool.and_eq_true, decide_eq_true_eq] at hk; omega
      · by_cases k3 : y.f0 = 3
        · rw [if_neg k1, if_neg k2, if_pos k3] at hk
          have hk' := of_decide_eq_true hk
          have := opW_len y.f1 y.f5 y.f6 ws (by rw [hwl]; exact hsm.1) (by omega) (by omega)
          omega
        · by_cases k4 : y.f0 = 4
          · rw [if_neg k1, if_neg k2, if_neg k3, if_pos k4] at hk; simp only [Bool.and_eq_true, decide_eq_true_eq] at hk; omega
          · by_cases k5 : y.f0 = 5
            · rw [if_neg k1, if_neg k2, if_neg k3, if_neg k4, if_pos k5] at hk; simp only [Bool.and_eq_true, decide_eq_true_eq] at hk; omega
            · by_cases k6 : y.f0 = 6
              · rw [if_neg k1, if_neg k2, if_neg k3, if_neg k4, if_neg k5, if_pos k6] at hk; simp only [Bool.and_eq_true, decide_eq_true_eq] at hk; omega
              · by_cases k7 : y.f0 = 7
                · rw [if_neg k1, if_neg k2, if_neg k3, if_neg k4, if_neg k5, if_neg k6, if_pos k7] at hk; simp only [Bool.and_eq_true, decide_eq_true_eq] at hk; omega
                · by_cases k8 : y.f0 = 8
                  · rw [if_neg k1, if_neg k2, if_neg k3, if_neg k4, if_neg k5, if_neg k6, if_neg k7, if_pos k8] at hk; simp only [Bool.and_eq_true, decide_eq_true_eq] at hk; omega
                  · rw [if_neg k1, if_neg k2, if_neg k3, if_neg k4, if_neg k5, if_neg k6, if_neg k7, if_neg k8] at hk; cases hk
  refine ⟨h.n, fun k hk h7 => (hlen k hk).2 h7, fun k hk => ?_, fun k hk u hu => ?_⟩
  · have := (hlen k hk).1
    show (hg (nAt x k)).length ≤ 256
    unfold hg
    split
    · exact Nat.zero_le _
    · split
      · rw [List.length_take]; omega
      · exact this
  · refine hin k hk u ?_
    have hu' : u ∈ hg (nAt x k) := hu
    unfold hg at hu'
    split at hu'
    · cases hu'
    · split at hu'
      · exact List.mem_of_mem_take hu'
      · exact hu'
end Go.Proofs.YtonnmkhmhndalaaDoor
end
section
namespace Go.Proofs.YtonnmkhmhndalaaDoor
set_option linter.unusedVariables false
set_option linter.unusedSimpArgs false
open Go.RowKit Go.Proofs.YtonnmkhmhndalaaDoorW.PrintWords Go.Proofs.YtonnmkhmhndalaaDoorW.PrintLast Go.Proofs.YtonnmkhmhndalaaDoorW.PrintMore
theorem in_any (k : Int) (P n c : Nat) (A : Option Addr) (w : World) (h : w.cell? ⟨P, 0, none⟩ = some (.slice A n c)) :
    Calls Tryd.prog 44 #[.int .i64 k, .pointer (some ⟨P, 0, none⟩)] w fun e w' => e = .returned (.bool (inB n k)) ∧ w = w' := by
  by_cases h0 : 0 ≤ k
  · have g0 : decide (k ≥ 0) = true := decide_eq_true h0
    by_cases h1 : k < (n : Int)
    · have g1 : decide (k < (n : Int)) = true := decide_eq_true h1
      have e : inB n k = true := by unfold inB; rw [decide_eq_true h0, decide_eq_true h1]; rfl
      have E := Lib.hid e
      clear e
      go_enter Tryd.func44, Tryd.ntmps44
      go_wp2_with fail
      go_ret
      exact ⟨by rw [E.out]; try rfl, rfl⟩
    · have g1 : decide (k < (n : Int)) = false := decide_eq_false h1
      have e : inB n k = false := by unfold inB; rw [decide_eq_false h1]; simp
      have E := Lib.hid e
      have h1b : (n : Int) ≤ k := by omega
      clear e h1
      go_enter Tryd.func44, Tryd.ntmps44
      go_wp2_with fail
      go_ret
      exact ⟨by rw [E.out]; try rfl, rfl⟩
  · have g0 : decide (k ≥ 0) = false := decide_eq_false h0
    have e : inB n k = false := by unfold inB; rw [decide_eq_false h0]; simp
    have E := Lib.hid e
    have h0b : k < 0 := by omega
    clear e h0
    go_enter Tryd.func44, Tryd.ntmps44
    go_wp2_with fail
    go_ret
    exact ⟨by rw [E.out]; try rfl, rfl⟩
abbrev fIn (P : Nat) : Value := .func (.func 44) #[] #[.pointer (some ⟨P, 0, none⟩)]
abbrev fNin (Q : Nat) : Value := .func (.func 46) #[] #[.pointer (some ⟨Q, 0, none⟩)]
theorem nin_any (k : Int) (P Q n c : Nat) (A : Option Addr) (w : World) (h : w.cell? ⟨P, 0, none⟩ = some (.slice A n c)) (hq : w.cell? ⟨Q, 0, none⟩ = some (fIn P)) :
    Calls Tryd.prog 46 #[.int .i64 k, .pointer (some ⟨Q, 0, none⟩)] w fun e w' => e = .returned (.bool (!inB n k)) ∧ w = w' := by
  have hin := in_any k P n c A w h
  have HI := Lib.hid hin
  clear hin h
  generalize inB n k = b at *
  go_enter Tryd.func46, Tryd.ntmps46
  go_wp2_with fail
  refine HI.out.mono ?_
  rintro e w' ⟨rfl, rfl⟩
  cases b
  all_goals
    go_wp2_with fail
    go_ret
    exact ⟨by try rfl, rfl⟩
theorem idx_any (l : List Int) (A3 : Option Addr) (c3 P Q n c : Nat) (A : Option Addr) (w : World) (hC : Kd.C (Kd.int .i64) w A3 l.length l) (hl : l.length * 8 ≤ 140737488355328) (h : w.cell? ⟨P, 0, none⟩ = some (.slice A n c)) (hq : w.cell? ⟨Q, 0, none⟩ = some (fIn P)) :
    Calls Tryd.prog 52 #[.slice A3 l.length c3, fNin Q] w fun e w' => ∃ r : Int, e = .returned (.int .i64 r) ∧ (decide (r ≥ 0) = !l.all (inB n)) ∧ w = w' := by
  have hn := fun k => nin_any k P Q n c A w h hq
  have HNn := Lib.hid hn
  have HC := Lib.hid hC
  clear hn h hq hC
  obtain ⟨m, hm⟩ : ∃ m, l.length = m := ⟨_, rfl⟩
  have HM := Lib.hid hm
  rw [hm] at hl
  rw [hm]
  clear hm
  go_enter Tryd.func52, Tryd.ntmps52
  go_wp2_with fail
  go_loop [8] (fun v8 => ∃ i : Nat, v8 = .int .i64 i ∧ i ≤ m ∧ Hid (∀ k, k < i → inB n (l.getD k 0) = true)) (fun v8 => m - (intOf v8).toNat)
  case atStart => exact ⟨0, rfl, Nat.zero_le _, Lib.hid (fun k hk => absurd hk (Nat.not_lt_zero _))⟩
  case round =>
    obtain ⟨i, rfl, hi, HI⟩ := hrel
    by_cases hlt : i < m
    · obtain ⟨b6, o6, hA6, g6, -⟩ := ints_at HC.out i (by rw [HM.out]; exact hlt)
      subst hA6
      obtain ⟨a, ha⟩ : ∃ a, l.getD i 0 = a := ⟨_, rfl⟩
      rw [ha] at g6
      have HA := Lib.hid ha
      have HLt := Lib.hid hlt
      have hna := HNn.out a
      obtain ⟨bb, hbb⟩ : ∃ bb, inB n a = bb := ⟨_, rfl⟩
      rw [hbb] at hna
      have HNa := Lib.hid hna
      have HBb := Lib.hid hbb
      clear ha hna hbb
      cases bb
      · go_wp2_with (first | fail | (refine HNa.out.mono ?_; rintro e w' ⟨rfl, rfl⟩))
        go_ret
        refine ⟨(i : Int), by try rfl, ?_, rfl⟩
        rw [decide_eq_true (by omega)]
        have : l.all (inB n) = false := by
          cases e : l.all (inB n)
          · rfl
          · have := (all_getD l (0 : Int) (inB n)).1 e i (by rw [HM.out]; exact HLt.out)
            rw [HA.out, HBb.out] at this
            cases this
        rw [this]
        rfl
      · go_wp2_with (first | fail | (refine HNa.out.mono ?_; rintro e w' ⟨rfl, rfl⟩))
        refine ⟨⟨i + 1, by simp, HLt.out, Lib.hid (fun k hk => ?_)⟩, by have := HLt.out; simp [intOf]; omega⟩
        by_cases e : k = i
        · subst e; rw [HA.out]; exact HBb.out
        · exact HI.out k (by omega)
    · obtain rfl : i = m := by omega
      go_wp2_with fail
      go_ret
      refine ⟨-1, by try rfl, ?_, rfl⟩
      have : l.all (inB n) = true := (all_getD l (0 : Int) (inB n)).2 (fun k hk => HI.out k (by rw [← HM.out]; exact hk))
      rw [this]
      rfl
theorem cf_any (l : List Int) (A3 : Option Addr) (c3 P Q n c : Nat) (A : Option Addr) (w : World) (hC : Kd.C (Kd.int .i64) w A3 l.length l) (hl : l.length * 8 ≤ 140737488355328) (h : w.cell? ⟨P, 0, none⟩ = some (.slice A n c)) (hq : w.cell? ⟨Q, 0, none⟩ = some (fIn P)) :
    Calls Tryd.prog 45 #[.slice A3 l.length c3, fNin Q] w fun e w' => e = .returned (.bool (!l.all (inB n))) ∧ w = w' := by
  have hi := idx_any l A3 c3 P Q n c A w hC hl h hq
  have HI := Lib.hid hi
  clear hi hC h hq
  obtain ⟨bb, hbb⟩ : ∃ bb, l.all (inB n) = bb := ⟨_, rfl⟩
  rw [hbb] at HI
  rw [hbb]
  clear hbb
  go_enter Tryd.func45, Tryd.ntmps45
  go_wp2_with fail
  refine HI.out.mono ?_
  rintro e w' ⟨r, rfl, hr, rfl⟩
  cases bb
  · have hr2 : decide (r ≥ 0) = true := hr
    have hr3 : 0 ≤ r := of_decide_eq_true hr2
    clear hr
    go_wp2_with fail
    go_ret
    exact ⟨by try rfl, rfl⟩
  · have hr2 : decide (r ≥ 0) = false := hr
    have hr3 : r < 0 := by have := of_decide_eq_false hr2; omega
    clear hr
    go_wp2_with fail
    go_ret
    exact ⟨by try rfl, rfl⟩
end Go.Proofs.YtonnmkhmhndalaaDoor
end
section
namespace Go.Proofs.YtonnmkhmhndalaaDoor
set_option linter.unusedVariables false
set_option linter.unusedSimpArgs false
open Go.RowKit Go.Maps
theorem keyed3 : Keyed Tryd.prog 3 := int_keyed Tryd.underlying3
theorem wf_nat (k : Nat) (h : k ≤ 9223372036854775807) : (Lit.int .i64 (k : Int)).wf = true := WalkArith.wf_i64 (by omega)
theorem key_nat (k : Nat) (h : k ≤ 9223372036854775807) : keyOf Tryd.prog 3 (.int .i64 (k : Int)) = some (.int .i64 (k : Int)) := keyOf_int_mk Tryd.underlying3 (wf_nat k h)
theorem zero3 (w : World) : (zeroValue 3).run Tryd.prog w = .ok (.int .i64 0) w := by kernel_rfl
theorem keylit (a : Int) : WideAt.IsKeyLit (.int .i64 a) := trivial
def MI (W : World) (b N : Nat) (f : Nat → Option Int) : Prop :=
  ∃ D : DataW Unit, W.ownsMap Tryd.prog 3 (plainElem Tryd.prog 3) b N D ∧ ∀ k : Nat, k ≤ 9223372036854775807 → Maps.has D (.int .i64 (k : Int)) = (f k).isSome ∧ D.atKey (.int .i64 (k : Int)) (.lit (.int .i64 0)) = .lit (.int .i64 ((f k).getD 0))
theorem MI.made (W : World) : MI (W.alloc (.map #[] 0)) W.heap.size 0 (fun _ => none) :=
  ⟨.map [], World.ownsMap_made _ _ _ _, fun k _ => ⟨rfl, rfl⟩⟩
theorem MI.kept {W W' : World} {b N : Nat} {f : Nat → Option Int} (h : MI W b N f) {row : Option Nat} (hg : W.grownBy W' row) (hne : some b ≠ row) : MI W' b N f := by
  obtain ⟨D, h1, h2⟩ := h
  exact ⟨D, h1.kept hg hne, h2⟩
theorem MI.below {W W' : World} {b N : Nat} {f : Nat → Option Int} (h : MI W b N f) (hb : Below W.heap.size W W') : MI W' b N f := h.kept (row := none) (Go.Proofs.YtonnmkhmhndalaaDoorW.PrintWords.grown_of_below hb none) (by simp)
theorem MI.lt {W : World} {b N : Nat} {f : Nat → Option Int} (h : MI W b N f) : b < W.heap.size := by
  obtain ⟨D, h1, h2⟩ := h
  exact h1.lt
theorem MI.set {W : World} {b N : Nat} {f : Nat → Option Int} (h : MI W b N f) {a : Addr} (ha : b ≠ a.block) (u : Value) : MI (W.setCell a u) b N f := by
  obtain ⟨D, h1, h2⟩ := h
  exact ⟨D, h1.setCell ha u, h2⟩
theorem MI.look {W : World} {b N : Nat} {f : Nat → Option Int} (h : MI W b N f) (k : Nat) (hk : k ≤ 9223372036854775807) : (Instr.lookup 64 (.map (some b)) (.int .i64 (k : Int)) false).run Tryd.prog W = .ok (.int .i64 ((f k).getD 0)) W := by
  obtain ⟨D, h1, h2⟩ := h
  obtain ⟨c, hrun, hat, -⟩ := h1.lookup_int keyed3 Tryd.underlying64 Tryd.underlying3 (zero3 _) (key_nat k hk)
  have := (h2 k hk).2
  rw [hat] at this
  have e := (Lit.int.inj (DataW.lit.inj this)).2
  rw [e] at hrun
  exact hrun
theorem MI.look_ok {W : World} {b N : Nat} {f : Nat → Option Int} (h : MI W b N f) (k : Nat) (hk : k ≤ 9223372036854775807) : (Instr.lookup 64 (.map (some b)) (.int .i64 (k : Int)) true).run Tryd.prog W = .ok (.tuple #[.int .i64 ((f k).getD 0), .bool (f k).isSome]) W := by
  obtain ⟨D, h1, h2⟩ := h
  obtain ⟨v, ps, hrun, hv⟩ := h1.look_ok keyed3 Tryd.underlying64 (zero3 _) (plainElem_int Tryd.underlying3 (by decide)) (key_nat k hk)
  rw [(h2 k hk).2] at hv
  obtain ⟨c, rfl, hc, -⟩ := plainElem_int_inv Tryd.underlying3 hv
  simp only [Prod.mk.injEq] at hc
  have := hc.1
  have e := (Lit.int.inj (DataW.lit.inj this)).2
  rw [← e, (h2 k hk).1] at hrun
  exact hrun
theorem MI.store {W : World} {b N : Nat} {f : Nat → Option Int} (h : MI W b N f) (k : Nat) (hk : k ≤ 9223372036854775807) (v : Int) (hv : (Lit.int .i64 v).wf = true) (hN : N < 9223372036854775807) :
    ∃ W', (Instr.mapUpdate 64 (.map (some b)) (.int .i64 (k : Int)) (.int .i64 v)).run Tryd.prog W = .ok () W' ∧ MI W' b (N + 1) (upd f k (some v)) ∧ W.grownBy W' (some b) := by
  obtain ⟨D, h1, h2⟩ := h
  obtain ⟨W', hrun, r1, r2⟩ := h1.update keyed3 Tryd.underlying64 (by unfold maxLen; omega) (key_nat k hk) (plainElem_int Tryd.underlying3 hv)
  refine ⟨W', hrun, ⟨_, r1, fun j hj => ?_⟩, r2⟩
  by_cases e : j = k
  · subst e
    rw [upd_same]
    exact ⟨has_put_same h1.isMap (keylit _) _, atKey_put_same h1.isMap (keylit _) _ _⟩
  · rw [upd_ne _ _ e]
    have hne : (Lit.int .i64 (j : Int)) ≠ .int .i64 (k : Int) := fun h => by injection h with _ h; omega
    exact ⟨(has_put_other hne _).trans (h2 j hj).1, (atKey_put_other hne _ _).trans (h2 j hj).2⟩
def MB (W : World) (b N : Nat) (f : Nat → Bool) (sz : Nat) : Prop :=
  ∃ D : DataW Unit, W.ownsMap Tryd.prog 3 (plainElem Tryd.prog 4) b N D ∧ Maps.size D = sz ∧ ∀ k : Nat, k ≤ 9223372036854775807 → Maps.has D (.int .i64 (k : Int)) = f k
theorem MB.made (W : World) : MB (W.alloc (.map #[] 0)) W.heap.size 0 (fun _ => false) 0 :=
  ⟨.map [], World.ownsMap_made _ _ _ _, rfl, fun k _ => rfl⟩
theorem MB.kept {W W' : World} {b N sz : Nat} {f : Nat → Bool} (h : MB W b N f sz) {row : Option Nat} (hg : W.grownBy W' row) (hne : some b ≠ row) : MB W' b N f sz := by
  obtain ⟨D, h1, h2, h3⟩ := h
  exact ⟨D, h1.kept hg hne, h2, h3⟩
theorem MB.below {W W' : World} {b N sz : Nat} {f : Nat → Bool} (h : MB W b N f sz) (hb : Below W.heap.size W W') : MB W' b N f sz := h.kept (row := none) (Go.Proofs.YtonnmkhmhndalaaDoorW.PrintWords.grown_of_below hb none) (by simp)
theorem MB.lt {W : World} {b N sz : Nat} {f : Nat → Bool} (h : MB W b N f sz) : b < W.heap.size := by
  obtain ⟨D, h1, h2⟩ := h
  exact h1.lt
theorem MB.len {W : World} {b N sz : Nat} {f : Nat → Bool} (h : MB W b N f sz) (ty : TypeId) : (Builtin.len_ #[81] ty #[.map (some b)]).run Tryd.prog W = .ok (.int .i64 (sz : Int)) W := by
  obtain ⟨D, h1, h2, h3⟩ := h
  rw [h1.len Tryd.underlying81 ty, h2]
theorem MB.store {W : World} {b N sz : Nat} {f : Nat → Bool} (h : MB W b N f sz) (k : Nat) (hk : k ≤ 9223372036854775807) (hN : N < 9223372036854775807) :
    ∃ W', (Instr.mapUpdate 81 (.map (some b)) (.int .i64 (k : Int)) (.bool true)).run Tryd.prog W = .ok () W' ∧ MB W' b (N + 1) (upd f k true) (if f k then sz else sz + 1) ∧ W.grownBy W' (some b) := by
  obtain ⟨D, h1, h2, h3⟩ := h
  obtain ⟨W', hrun, r1, r2⟩ := h1.update keyed3 Tryd.underlying81 (by unfold maxLen; omega) (key_nat k hk) (plainElem_bool Tryd.underlying4 true)
  refine ⟨W', hrun, ⟨_, r1, ?_, fun j hj => ?_⟩, r2⟩
  · rw [size_put (h1.tidy keyed3), h3 k hk, h2]
  · by_cases e : j = k
    · subst e
      rw [upd_same]
      exact has_put_same h1.isMap (keylit _) _
    · rw [upd_ne _ _ e]
      have hne : (Lit.int .i64 (j : Int)) ≠ .int .i64 (k : Int) := fun h => by injection h with _ h; omega
      exact (has_put_other hne _).trans (h3 j hj)
end Go.Proofs.YtonnmkhmhndalaaDoor
end
section
namespace Go.Proofs.YtonnmkhmhndalaaDoor
set_option linter.unusedVariables false
set_option linter.unusedSimpArgs false
open Go.RowKit Go.Proofs.YtonnmkhmhndalaaDoorW.PrintWords Go.Proofs.YtonnmkhmhndalaaDoorW.PrintLast Go.Proofs.YtonnmkhmhndalaaDoorW.PrintMore
structure YOk (x : NL) (y : S39) : Prop where
  n : x.nd.length ≤ 4096
  w : ∀ s ∈ x.nd, 1 ≤ s.f2 ∧ s.f2 ≤ 256
  i : ∀ i ∈ y.f3, 0 ≤ i ∧ i < x.nd.length
  z : y.f4.size ≤ 9223372036854775807
  l : y.f3.length * 8 ≤ 140737488355328
theorem YOk.ws {x : NL} {y : S39} (h : YOk x y) : ∀ a ∈ wsOf x.nd y, 1 ≤ a ∧ a ≤ 256 := by
  intro a ha
  obtain ⟨i, hi, rfl⟩ := List.mem_map.1 ha
  have := h.i i hi
  have hlt : i.toNat < x.nd.length := by omega
  unfold wAt
  rw [List.getD_eq_getElem?_getD, List.getElem?_eq_getElem hlt]
  exact h.w _ (List.getElem_mem _)
theorem wsOf_len (x : NL) (y : S39) : (wsOf x.nd y).length = y.f3.length := List.length_map _
def bareOk (W : World) (b : Nat) (f1 : Int) (f4 : ByteArray) (f5 f6 f7 : Int) : Prop :=
  W.cell? ⟨b, 1, none⟩ = some (.int .i64 f1) ∧ W.cell? ⟨b, 4, none⟩ = some (.string f4) ∧ W.cell? ⟨b, 5, none⟩ = some (.int .i64 f5) ∧ W.cell? ⟨b, 6, none⟩ = some (.int .i64 f6) ∧ W.cell? ⟨b, 7, none⟩ = some (.int .i64 f7)
theorem row_at {W : World} {base n cap : Nat} {ok : Nat → Prop} {A : Option Addr} {ws : List Int} (h : Kd.R (Kd.int .i64) 3 W base ok (.slice A n cap) ws) (hp : 0 < ws.length) : ∃ g, A = some ⟨g, 0, none⟩ ∧ ∀ j, j < ws.length → W.cell? ⟨g, j, none⟩ = some (.int .i64 (ws.getD j 0)) := by
  obtain ⟨g, cap', hA, -, -, -⟩ := Kd.R_form h hp
  injection hA with h1 h2 h3
  subst h1
  refine ⟨g, rfl, fun j hj => ?_⟩
  have hc := (Kd.R_celln (0 : Int) h (j : Int) (by omega) (by omega)).1
  rw [Int.toNat_natCast] at hc
  rw [hc]
  unfold rdOf
  rw [Int.toNat_natCast]
theorem bare_drew {W : World} {b : Nat} {f1 : Int} {f4 : ByteArray} {f5 f6 f7 : Int} (h : bareOk W b f1 f4 f5 f6 f7) : bareOk W.drew b f1 f4 f5 f6 f7 := h
theorem op_any (y : S39) (A3 : Option Addr) (c3 : Nat) (Av : Option Addr) (cv : Nat) (ws : List Int) (W : World) (hC : Kd.C (Kd.int .i64) W A3 y.f3.length y.f3) (hc : y.f3.length ≤ c3) (hW : Kd.C (Kd.int .i64) W Av ws.length ws) (hcv : ws.length ≤ cv) (hw : ∀ a ∈ ws, 1 ≤ a ∧ a ≤ 256) (hl : ws.length * 8 ≤ 140737488355328) :
    Calls Tryd.prog 54 #[ndV y A3 c3, .slice Av ws.length cv] W fun e w' => e = .returned (.int .i64 (opW y.f1 y.f5 y.f6 ws)) ∧ Below W.heap.size W w' :=
  lower_operated.calls (ws.length + 10) _ _ _ A3 c3 y.f3 _ _ _ _ Av cv ws _ W hC hc hW hcv (op_f y ws hw hl)
theorem zero_bare (y : S39) : zeroB y = (decide ((if y.f0 = 3 then 0 else y.f1) = 0) && (decide ((if y.f0 = 1 then (⟨#[]⟩ : ByteArray) else y.f4).toList = []) && (decide ((if y.f0 = 3 ∧ y.f1 = 4 then 0 else y.f5) = 0) && (decide ((if y.f0 = 3 ∧ y.f1 = 4 then 0 else y.f6) = 0) && decide ((if y.f0 = 8 then 0 else y.f7) = 0))))) := by
  unfold zeroB
  by_cases a3 : y.f0 = 3 <;> by_cases a1 : y.f0 = 1 <;> by_cases a8 : y.f0 = 8 <;> by_cases a4 : y.f1 = 4 <;> simp [*, Bool.and_assoc] <;> rfl
set_option maxRecDepth 100000 in
set_option maxHeartbeats 4000000 in
theorem lmay_any (x : NL) (A : Option Addr) (c : Nat) (B : Option Addr) (d : Nat) (y : S39) (A3 : Option Addr) (c3 : Nat) (w : World) (hI : NIn w x A c B d) (hC : Kd.C (Kd.int .i64) w A3 y.f3.length y.f3) (hc : y.f3.length ≤ c3) (hY : YOk x y) :
    Calls Tryd.prog 47 #[nlV x A c B d, ndV y A3 c3] w fun e w' => e = .returned (.bool (nodeB (wsOf x.nd y) y && zeroB y)) ∧ Below w.heap.size w w' := by
  have HI := Lib.hid hI
  have HC := Lib.hid hC
  have HY := Lib.hid hY
  obtain ⟨ws, hws⟩ : ∃ ws, wsOf x.nd y = ws := ⟨_, rfl⟩
  have hwb : ∀ a ∈ ws, 1 ≤ a ∧ a ≤ 256 := by rw [← hws]; exact hY.ws
  have hwl : ws.length = y.f3.length := by rw [← hws]; exact wsOf_len x y
  have HWs := Lib.hid hws
  have HWb := Lib.hid hwb
  have HWl := Lib.hid hwl
  rw [hws]
  clear hI hC hY hws hwb hwl
  go_enter Tryd.func47, Tryd.ntmps47
  go_upto_region 1 with fail
  obtain ⟨W0, hW0⟩ : ∃ W, w.alloc (Obj.cells #[.slice A x.nd.length c, .slice B x.nt.length d, .int .i64 x.pt] 25) = W := ⟨_, rfl⟩
  rw [hW0]
  obtain ⟨hx0, hb0, hz0⟩ := box_list hW0
  obtain ⟨W1, hW1⟩ : ∃ W, W0.alloc (Obj.cells #[Value.int IntKind.i64 y.f0, Value.int IntKind.i64 y.f1, Value.int IntKind.i64 y.f2, Value.slice A3 y.f3.length c3, Value.string y.f4, Value.int IntKind.i64 y.f5, Value.int IntKind.i64 y.f6, Value.int IntKind.i64 y.f7] 39) = W := ⟨_, rfl⟩
  rw [hW1]
  obtain ⟨hn1, hb1⟩ := box_node (Kd.C_below HC.out hb0) hW1
  have hx1 := hx0.below hb1
  rw [hz0] at hn1
  have k3 := hn1.k3
  have hz1 : W1.heap.size = w.heap.size + 2 := by rw [← hW1]; simp; omega
  have HX1 := Lib.hid hx1
  have HN1 := Lib.hid hn1
  have HB1 := Lib.hid (hb0.trans (hb1.mono (by omega)))
  have HZ0 := Lib.hid hz0
  have HZ1 := Lib.hid hz1
  clear hx0 hb0 hz0 hb1 hn1 hx1 hz1 hW0 hW1
  obtain ⟨m, hm⟩ : ∃ m, y.f3.length = m := ⟨_, rfl⟩
  rw [hm] at k3
  have HM := Lib.hid hm
  clear hm
  go_upto_region 2 with fail
  go_wp2_with fail
  clear k3
  go_loopw [5, 13] (fun v5 v13 wx => ∃ i : Nat, v13 = .int .i64 i ∧ i ≤ m ∧ Hid (Kd.R (Kd.int .i64) 3 wx W1.heap.size (fun _ => True) v5 (ws.take i)) ∧ Hid (Below W1.heap.size W1 wx)) (fun _ v13 _ => m - (intOf v13).toNat)
  case atStart => exact ⟨0, rfl, Nat.zero_le _, Lib.hid (by rw [List.take_zero]; exact Kd.R_nil _ _ _ _ _), Lib.hid (Below.refl _ _)⟩
  case round =>
    obtain ⟨i, rfl, hi, HRx, HBx⟩ := hrel
    by_cases hlt : i < m
    · have hi3 : i < y.f3.length := by rw [HM.out]; exact hlt
      have hBw : Below w.heap.size w wr := HB1.out.trans (HBx.out.mono (by have := HZ1.out; omega))
      obtain ⟨b6, o6, hA6, g6, -⟩ := ints_at (Kd.C_below HC.out hBw) i hi3
      have hmem : y.f3.getD i 0 ∈ y.f3 := by rw [List.getD_eq_getElem?_getD, List.getElem?_eq_getElem hi3]; exact List.getElem_mem _
      have hin := HY.out.i _ hmem
      obtain ⟨a, ha⟩ : ∃ a : Nat, y.f3.getD i 0 = (a : Int) := ⟨(y.f3.getD i 0).toNat, by omega⟩
      have han : a < x.nd.length := by rw [ha] at hin; omega
      rw [ha] at g6
      subst hA6
      obtain ⟨b, o, A4, c4, hA, hl4, hbs, hND⟩ := nodes_in HI.out.h0 a han
      subst hA
      have k2 := (hND _ hBw).k2
      have q0 := (HX1.out.belowB HBx.out (by have := HZ1.out; omega)).k0
      have hii : i < ws.length := by rw [HWl.out]; exact hi3
      have htk : ws.take (i + 1) = ws.take i ++ [(x.nd.getD a z39).f2] := by
        rw [List.take_succ_eq_append_getElem hii]
        congr 2
        have e1 : ws[i] = wAt x.nd (y.f3.getD i 0) := by
          have : ws[i]? = some (wAt x.nd y.f3[i]) := by
            rw [← HWs.out]
            unfold wsOf
            rw [List.getElem?_map, List.getElem?_eq_getElem hi3]
            rfl
          rw [List.getElem?_eq_getElem hii] at this
          rw [Option.some.inj this, List.getD_eq_getElem?_getD, List.getElem?_eq_getElem hi3]
          rfl
        rw [e1, ha]
        unfold wAt
        rw [Int.toNat_natCast]
      obtain ⟨Av, cv, rfl⟩ := Kd.R_slice HRx.out
      have htl : (ws.take i).length ≤ i := List.length_take_le _ _
      have hml : m * 8 ≤ 140737488355328 := by rw [← HM.out]; exact HY.out.l
      generalize (x.nd.getD a z39).f2 = wa at *
      generalize ws.take i = wi at *
      have HTk := Lib.hid htk
      have HTl := Lib.hid htl
      have HMl := Lib.hid hml
      have HBw := Lib.hid hBw
      have HLt := Lib.hid hlt
      clear hmem hin ha hND hbs hl4 hii htk htl hBw hi3
      go_upto_region 5 with fail
      go_wp2_with (first | fail | ((with_reducible refine gate_builtin (b := .append) (xs := #[.tmp 17, .tmp 24]) rfl ?_); at_builtin; refine Kd.R_append (Kd.int .i64) (w0 := wr) W1.heap.size rfl (.tmp 17) (.tmp 24) 23 3 (.int .i64 0) 8 rfl Tryd.underlying23 info3 rfl (by decide) (by decide) (.slice Av wi.length cv) wi wa [.int .i64 wa] (fun _ => True) (fun _ => False) rfl rfl ?aP (fun _ hk => hk.elim) (fun _ _ => trivial) ?aO ?aB ?aS ?aL ?_; (case aP => exact kI_mkM _ _ _ _); (case aO => exact HRx.out); (case aB => exact Below.refl _ _); (case aS => exact HBx.out.size); (case aL => have := HTl.out; have := HMl.out; have := HLt.out; omega); intro v1 w9 ho hb hg hat; have HO := Lib.hid ho; have HBo := Lib.hid hb; clear ho hb hg hat))
      refine ⟨⟨i + 1, by simp, HLt.out, by rw [HTk.out]; exact HO, Lib.hid (HBx.out.trans HBo.out)⟩, by have := HLt.out; simp [intOf]; omega⟩
    · obtain rfl : i = m := by omega
      have hNx := HN1.out.below HBx.out
      have HNx := Lib.hid hNx
      obtain ⟨k0, k1, k2, k3, k4, k5, k6, k7, -⟩ := HNx.out
      have hR := HRx.out
      have hti : ws.take i = ws := by rw [List.take_of_length_le (by rw [HWl.out, HM.out]; exact Nat.le_refl _)]
      rw [hti] at hR
      obtain ⟨Av, cv, rfl⟩ := Kd.R_slice hR
      have HR := Lib.hid hR
      clear hR hti hNx hlt hi
      go_upto_region 8 with fail
      obtain ⟨W7, hW7⟩ : ∃ W, wr.alloc (Obj.cells #[Value.int IntKind.i64 y.f0, Value.int IntKind.i64 y.f1, Value.int IntKind.i64 y.f2, Value.slice A3 y.f3.length c3, Value.string y.f4, Value.int IntKind.i64 y.f5, Value.int IntKind.i64 y.f6, Value.int IntKind.i64 y.f7] 39) = W := ⟨_, rfl⟩
      rw [hW7]
      have z0 : W7.cell? ⟨wr.heap.size, 0, none⟩ = some (.int .i64 y.f0) := by rw [← hW7]; simp [go_sem]
      have z1 : W7.cell? ⟨wr.heap.size, 1, none⟩ = some (.int .i64 y.f1) := by rw [← hW7]; simp [go_sem]
      have z2 : W7.cell? ⟨wr.heap.size, 2, none⟩ = some (.int .i64 y.f2) := by rw [← hW7]; simp [go_sem]
      have z3 : W7.cell? ⟨wr.heap.size, 3, none⟩ = some (.slice A3 y.f3.length c3) := by rw [← hW7]; simp [go_sem]
      have z4 : W7.cell? ⟨wr.heap.size, 4, none⟩ = some (.string y.f4) := by rw [← hW7]; simp [go_sem]
      have z5 : W7.cell? ⟨wr.heap.size, 5, none⟩ = some (.int .i64 y.f5) := by rw [← hW7]; simp [go_sem]
      have z6 : W7.cell? ⟨wr.heap.size, 6, none⟩ = some (.int .i64 y.f6) := by rw [← hW7]; simp [go_sem]
      have z7 : W7.cell? ⟨wr.heap.size, 7, none⟩ = some (.int .i64 y.f7) := by rw [← hW7]; simp [go_sem]
      have zf : ∀ q, W7.frozen? ⟨wr.heap.size, q, none⟩ = false := by intro q; rw [← hW7]; simp [go_sem]
      have f3 := zf 3
      have f2 := zf 2
      have f0 := zf 0
      have hb7 : Below wr.heap.size wr W7 := by rw [← hW7]; exact below_alloc (Below.refl _ _) _
      have HB7 := Lib.hid hb7
      have HZf := Lib.hid zf
      clear zf hb7 hW7 k0 k1 k2 k3 k4 k5 k6 k7
      go_upto_region 10 with fail
      obtain ⟨W8, hW8⟩ : ∃ W, ((W7.setCell ⟨wr.heap.size, 3, none⟩ (.slice none 0 0)).setCell ⟨wr.heap.size, 2, none⟩ (.int .i64 0)).setCell ⟨wr.heap.size, 0, none⟩ (.int .i64 0) = W := ⟨_, rfl⟩
      rw [hW8]
      have hb8 : Below wr.heap.size wr W8 := by rw [← hW8]; exact below_set2 (Nat.le_refl _) (below_set2 (Nat.le_refl _) (below_set2 (Nat.le_refl _) HB7.out))
      have y1 : W8.cell? ⟨wr.heap.size, 1, none⟩ = some (.int .i64 y.f1) := by rw [← hW8, cell_ne (by decide), cell_ne (by decide), cell_ne (by decide)]; exact z1
      have y4 : W8.cell? ⟨wr.heap.size, 4, none⟩ = some (.string y.f4) := by rw [← hW8, cell_ne (by decide), cell_ne (by decide), cell_ne (by decide)]; exact z4
      have y5 : W8.cell? ⟨wr.heap.size, 5, none⟩ = some (.int .i64 y.f5) := by rw [← hW8, cell_ne (by decide), cell_ne (by decide), cell_ne (by decide)]; exact z5
      have y6 : W8.cell? ⟨wr.heap.size, 6, none⟩ = some (.int .i64 y.f6) := by rw [← hW8, cell_ne (by decide), cell_ne (by decide), cell_ne (by decide)]; exact z6
      have y7 : W8.cell? ⟨wr.heap.size, 7, none⟩ = some (.int .i64 y.f7) := by rw [← hW8, cell_ne (by decide), cell_ne (by decide), cell_ne (by decide)]; exact z7
      have g1 : W8.frozen? ⟨wr.heap.size, 1, none⟩ = false := by rw [← hW8, froz_set, froz_set, froz_set]; exact HZf.out 1
      have g4 : W8.frozen? ⟨wr.heap.size, 4, none⟩ = false := by rw [← hW8, froz_set, froz_set, froz_set]; exact HZf.out 4
      have g5 : W8.frozen? ⟨wr.heap.size, 5, none⟩ = false := by rw [← hW8, froz_set, froz_set, froz_set]; exact HZf.out 5
      have g6 : W8.frozen? ⟨wr.heap.size, 6, none⟩ = false := by rw [← hW8, froz_set, froz_set, froz_set]; exact HZf.out 6
      have g7 : W8.frozen? ⟨wr.heap.size, 7, none⟩ = false := by rw [← hW8, froz_set, froz_set, froz_set]; exact HZf.out 7
      have hN8 := HNx.out.below hb8
      have HN8 := Lib.hid hN8
      obtain ⟨k0, k1, k2, k3, k4, k5, k6, k7, -⟩ := hN8
      have HB8 := Lib.hid hb8
      have HR8 := Lib.hid (Kd.R_below HR.out hb8)
      clear hb8 hW8 z0 z1 z2 z3 z4 z5 z6 z7 f0 f2 f3
      go_upto_block 2 with fail
      clear k1 k3 k5 k6
      go_cut [9] (fun s9 wx => s9 = .bool (nodeB ws y) ∧ Hid (bareOk wx wr.heap.size (if y.f0 = 3 then 0 else y.f1) (if y.f0 = 1 then ⟨#[]⟩ else y.f4) (if y.f0 = 3 ∧ y.f1 = 4 then 0 else y.f5) (if y.f0 = 3 ∧ y.f1 = 4 then 0 else y.f6) (if y.f0 = 8 then 0 else y.f7)) ∧ Hid (Below wr.heap.size wr wx))
      case first =>
        have hkk : y.f0 = 1 ∨ y.f0 = 2 ∨ y.f0 = 3 ∨ y.f0 = 4 ∨ y.f0 = 5 ∨ y.f0 = 6 ∨ y.f0 = 7 ∨ y.f0 = 8 ∨ (y.f0 < 1 ∨ 8 < y.f0) := by omega
        rcases hkk with hk | hk | hk | hk | hk | hk | hk | hk | hk
        · have hnb : nodeB ws y = (decide (ws.length = 0) && (vOk y.f4 && decide ((y.f4.size : Int) = y.f2))) := by unfold nodeB; rw [if_pos hk]
          have HNb := Lib.hid hnb
          have e1 : (y.f0 == 1) = true := by rw [hk]; rfl
          have HK1 := Lib.hid hk
          clear hk hnb g1 g5 g6 g7
          by_cases hl : ws.length = 0
          · have l0 : ((ws.length : Int) == 0) = true := by rw [hl]; rfl
            have HL := Lib.hid hl
            have hlI : (ws.length : Int) = 0 := by omega
            clear hl
            have hv := fun W => vec_any y.f4 W HY.out.z
            obtain ⟨vb, hvb⟩ : ∃ b, vOk y.f4 = b := ⟨_, rfl⟩
            rw [hvb] at hv
            have HV := Lib.hid hv
            have HVb := Lib.hid hvb
            clear hv hvb
            cases vb
            · go_upto_region 12 with fail
              go_wp2_with fail
              refine (HV.out _).mono ?_
              rintro e w9 ⟨rfl, hb9⟩
              have hlt9 := World.block_lt_of_cell? W8 _ y4
              have v1 := (hb9.cell (p := ⟨wr.heap.size, 1, none⟩) hlt9).trans y1
              have v4 := (hb9.cell (p := ⟨wr.heap.size, 4, none⟩) hlt9).trans y4
              have v5 := (hb9.cell (p := ⟨wr.heap.size, 5, none⟩) hlt9).trans y5
              have v6 := (hb9.cell (p := ⟨wr.heap.size, 6, none⟩) hlt9).trans y6
              have v7 := (hb9.cell (p := ⟨wr.heap.size, 7, none⟩) hlt9).trans y7
              have u4 := (hb9.frozen (p := ⟨wr.heap.size, 4, none⟩) hlt9).trans g4
              have hN9 := HN8.out.below hb9
              have p2 := hN9.k2
              have p4 := hN9.k4
              have HB9 := Lib.hid (HB8.out.trans (hb9.mono HB8.out.size))
              have hba : bareOk (w9.setCell ⟨wr.heap.size, 4, none⟩ (.string ⟨#[]⟩)) wr.heap.size (if y.f0 = 3 then 0 else y.f1) (if y.f0 = 1 then ⟨#[]⟩ else y.f4) (if y.f0 = 3 ∧ y.f1 = 4 then 0 else y.f5) (if y.f0 = 3 ∧ y.f1 = 4 then 0 else y.f6) (if y.f0 = 8 then 0 else y.f7) := by rw [if_neg (by have := HK1.out; omega), if_pos HK1.out, if_neg (by have := HK1.out; omega), if_neg (by have := HK1.out; omega), if_neg (by have := HK1.out; omega)]; exact ⟨(cell_ne (by decide)).trans v1, cell_eq v4, (cell_ne (by decide)).trans v5, (cell_ne (by decide)).trans v6, (cell_ne (by decide)).trans v7⟩
              have HBa := Lib.hid hba
              clear hba hN9 hb9 hlt9 v1 v5 v6 v7 y1 y4 y5 y6 y7 g4 k0 k2 k4 k7
              go_wp2_with fail
              go_meet
              exact ⟨by rw [HNb.out, HVb.out]; simp, HBa, Lib.hid (below_set2 (Nat.le_refl _) HB9.out)⟩
            · by_cases cs : (y.f4.size : Int) = y.f2
              · have d1 : ((y.f4.size : Int) == y.f2) = true := beq_iff_eq.mpr cs
                have CS := Lib.hid cs
                clear cs
                go_upto_region 12 with fail
                go_wp2_with fail
                refine (HV.out _).mono ?_
                rintro e w9 ⟨rfl, hb9⟩
                have hlt9 := World.block_lt_of_cell? W8 _ y4
                have v1 := (hb9.cell (p := ⟨wr.heap.size, 1, none⟩) hlt9).trans y1
                have v4 := (hb9.cell (p := ⟨wr.heap.size, 4, none⟩) hlt9).trans y4
                have v5 := (hb9.cell (p := ⟨wr.heap.size, 5, none⟩) hlt9).trans y5
                have v6 := (hb9.cell (p := ⟨wr.heap.size, 6, none⟩) hlt9).trans y6
                have v7 := (hb9.cell (p := ⟨wr.heap.size, 7, none⟩) hlt9).trans y7
                have u4 := (hb9.frozen (p := ⟨wr.heap.size, 4, none⟩) hlt9).trans g4
                have hN9 := HN8.out.below hb9
                have p2 := hN9.k2
                have p4 := hN9.k4
                have HB9 := Lib.hid (HB8.out.trans (hb9.mono HB8.out.size))
                have hba : bareOk (w9.setCell ⟨wr.heap.size, 4, none⟩ (.string ⟨#[]⟩)) wr.heap.size (if y.f0 = 3 then 0 else y.f1) (if y.f0 = 1 then ⟨#[]⟩ else y.f4) (if y.f0 = 3 ∧ y.f1 = 4 then 0 else y.f5) (if y.f0 = 3 ∧ y.f1 = 4 then 0 else y.f6) (if y.f0 = 8 then 0 else y.f7) := by rw [if_neg (by have := HK1.out; omega), if_pos HK1.out, if_neg (by have := HK1.out; omega), if_neg (by have := HK1.out; omega), if_neg (by have := HK1.out; omega)]; exact ⟨(cell_ne (by decide)).trans v1, cell_eq v4, (cell_ne (by decide)).trans v5, (cell_ne (by decide)).trans v6, (cell_ne (by decide)).trans v7⟩
                have HBa := Lib.hid hba
                clear hba hN9 hb9 hlt9 v1 v5 v6 v7 y1 y4 y5 y6 y7 g4 k0 k2 k4 k7
                go_wp2_with fail
                go_meet
                exact ⟨by rw [HNb.out, HVb.out, decide_eq_true CS.out, decide_eq_true HL.out]; rfl, HBa, Lib.hid (below_set2 (Nat.le_refl _) HB9.out)⟩
              · have d1 : ((y.f4.size : Int) == y.f2) = false := beq_eq_false_iff_ne.mpr cs
                have CS := Lib.hid cs
                clear cs
                go_upto_region 12 with fail
                go_wp2_with fail
                refine (HV.out _).mono ?_
                rintro e w9 ⟨rfl, hb9⟩
                have hlt9 := World.block_lt_of_cell? W8 _ y4
                have v1 := (hb9.cell (p := ⟨wr.heap.size, 1, none⟩) hlt9).trans y1
                have v4 := (hb9.cell (p := ⟨wr.heap.size, 4, none⟩) hlt9).trans y4
                have v5 := (hb9.cell (p := ⟨wr.heap.size, 5, none⟩) hlt9).trans y5
                have v6 := (hb9.cell (p := ⟨wr.heap.size, 6, none⟩) hlt9).trans y6
                have v7 := (hb9.cell (p := ⟨wr.heap.size, 7, none⟩) hlt9).trans y7
                have u4 := (hb9.frozen (p := ⟨wr.heap.size, 4, none⟩) hlt9).trans g4
                have hN9 := HN8.out.below hb9
                have p2 := hN9.k2
                have p4 := hN9.k4
                have HB9 := Lib.hid (HB8.out.trans (hb9.mono HB8.out.size))
                have hba : bareOk (w9.setCell ⟨wr.heap.size, 4, none⟩ (.string ⟨#[]⟩)) wr.heap.size (if y.f0 = 3 then 0 else y.f1) (if y.f0 = 1 then ⟨#[]⟩ else y.f4) (if y.f0 = 3 ∧ y.f1 = 4 then 0 else y.f5) (if y.f0 = 3 ∧ y.f1 = 4 then 0 else y.f6) (if y.f0 = 8 then 0 else y.f7) := by rw [if_neg (by have := HK1.out; omega), if_pos HK1.out, if_neg (by have := HK1.out; omega), if_neg (by have := HK1.out; omega), if_neg (by have := HK1.out; omega)]; exact ⟨(cell_ne (by decide)).trans v1, cell_eq v4, (cell_ne (by decide)).trans v5, (cell_ne (by decide)).trans v6, (cell_ne (by decide)).trans v7⟩
                have HBa := Lib.hid hba
                clear hba hN9 hb9 hlt9 v1 v5 v6 v7 y1 y4 y5 y6 y7 g4 k0 k2 k4 k7
                go_wp2_with fail
                go_meet
                exact ⟨by rw [HNb.out, decide_eq_false CS.out]; simp, HBa, Lib.hid (below_set2 (Nat.le_refl _) HB9.out)⟩
          · have l0 : ((ws.length : Int) == 0) = false := beq_eq_false_iff_ne.mpr (by omega)
            have HL := Lib.hid hl
            clear hl
            have hba : bareOk (W8.setCell ⟨wr.heap.size, 4, none⟩ (.string ⟨#[]⟩)) wr.heap.size (if y.f0 = 3 then 0 else y.f1) (if y.f0 = 1 then ⟨#[]⟩ else y.f4) (if y.f0 = 3 ∧ y.f1 = 4 then 0 else y.f5) (if y.f0 = 3 ∧ y.f1 = 4 then 0 else y.f6) (if y.f0 = 8 then 0 else y.f7) := by rw [if_neg (by have := HK1.out; omega), if_pos HK1.out, if_neg (by have := HK1.out; omega), if_neg (by have := HK1.out; omega), if_neg (by have := HK1.out; omega)]; exact ⟨(cell_ne (by decide)).trans y1, cell_eq y4, (cell_ne (by decide)).trans y5, (cell_ne (by decide)).trans y6, (cell_ne (by decide)).trans y7⟩
            have HBa := Lib.hid hba
            clear hba y1 y5 y6 y7
            go_wp2_with fail
            go_meet
            exact ⟨by rw [HNb.out, decide_eq_false HL.out]; simp, HBa, Lib.hid (below_set2 (Nat.le_refl _) HB8.out)⟩
        · have hnb : nodeB ws y = (decide (ws.length = 0)) := by unfold nodeB; rw [if_neg (by omega), if_pos hk]
          have HNb := Lib.hid hnb
          have e1 : (y.f0 == 1) = false := by rw [hk]; rfl
          have e2 : (y.f0 == 2) = true := by rw [hk]; rfl
          have hba : bareOk W8 wr.heap.size (if y.f0 = 3 then 0 else y.f1) (if y.f0 = 1 then ⟨#[]⟩ else y.f4) (if y.f0 = 3 ∧ y.f1 = 4 then 0 else y.f5) (if y.f0 = 3 ∧ y.f1 = 4 then 0 else y.f6) (if y.f0 = 8 then 0 else y.f7) := by
            rw [if_neg (by omega), if_neg (by omega), if_neg (by omega), if_neg (by omega), if_neg (by omega)]
            exact ⟨y1, y4, y5, y6, y7⟩
          have HBa := Lib.hid hba
          clear y1 y4 y5 y6 y7 g1 g4 g5 g6 g7 hba
          clear hk hnb
          by_cases hl : ws.length = 0
          · have l0 : ((ws.length : Int) == 0) = true := by rw [hl]; rfl
            have HL := Lib.hid hl
            clear hl
            go_wp2_with fail
            go_meet
            exact ⟨by rw [HNb.out, decide_eq_true HL.out], HBa, HB8⟩
          · have l0 : ((ws.length : Int) == 0) = false := beq_eq_false_iff_ne.mpr (by omega)
            have HL := Lib.hid hl
            clear hl
            go_wp2_with fail
            go_meet
            exact ⟨by rw [HNb.out, decide_eq_false HL.out], HBa, HB8⟩
        · have hnb : nodeB ws y = (decide (opW y.f1 y.f5 y.f6 ws = y.f2)) := by unfold nodeB; rw [if_neg (by omega), if_neg (by omega), if_pos hk]
          have HNb := Lib.hid hnb
          have e1 : (y.f0 == 1) = false := by rw [hk]; rfl
          have e2 : (y.f0 == 2) = false := by rw [hk]; rfl
          have e3 : (y.f0 == 3) = true := by rw [hk]; rfl
          have HK3 := Lib.hid hk
          obtain ⟨j0, j1, j2, j3, j4, j5, j6, j7, jC⟩ := HN8.out
          have hop : ∀ p : BelowBy W8, Calls Tryd.prog 54 #[ndV y A3 c3, .slice Av ws.length cv] p.W fun e w' => e = .returned (.int .i64 (opW y.f1 y.f5 y.f6 ws)) ∧ Below p.W.heap.size p.W w' := by
            intro p
            obtain ⟨hn, hcv, hCw⟩ := Kd.R_reads' HR8.out
            exact op_any y A3 c3 Av cv ws p.W (Kd.C_below jC p.h) hc (Kd.C_below hCw p.h) hcv HWb.out (by rw [HWl.out]; exact HY.out.l)
          obtain ⟨ow, how⟩ : ∃ o, opW y.f1 y.f5 y.f6 ws = o := ⟨_, rfl⟩
          rw [how] at hop
          have HOp := Lib.hid hop
          have HOw := Lib.hid how
          have p0 : ∀ p : BelowBy W8, p.W.cell? ⟨w.heap.size + 1, 0, none⟩ = some (.int .i64 y.f0) := fun p => p.cell j0
          have p1 : ∀ p : BelowBy W8, p.W.cell? ⟨w.heap.size + 1, 1, none⟩ = some (.int .i64 y.f1) := fun p => p.cell j1
          have p2 : ∀ p : BelowBy W8, p.W.cell? ⟨w.heap.size + 1, 2, none⟩ = some (.int .i64 y.f2) := fun p => p.cell j2
          have p3 : ∀ p : BelowBy W8, p.W.cell? ⟨w.heap.size + 1, 3, none⟩ = some (.slice A3 y.f3.length c3) := fun p => p.cell j3
          have p4 : ∀ p : BelowBy W8, p.W.cell? ⟨w.heap.size + 1, 4, none⟩ = some (.string y.f4) := fun p => p.cell j4
          have p5 : ∀ p : BelowBy W8, p.W.cell? ⟨w.heap.size + 1, 5, none⟩ = some (.int .i64 y.f5) := fun p => p.cell j5
          have p6 : ∀ p : BelowBy W8, p.W.cell? ⟨w.heap.size + 1, 6, none⟩ = some (.int .i64 y.f6) := fun p => p.cell j6
          have p7 : ∀ p : BelowBy W8, p.W.cell? ⟨w.heap.size + 1, 7, none⟩ = some (.int .i64 y.f7) := fun p => p.cell j7
          clear hk hnb hop how j0 j1 j2 j3 j4 j5 j6 j7 jC k0 k2 k4 k7 g4 g7
          obtain ⟨bq, hbq⟩ : ∃ bq, (ow == y.f2) = bq := ⟨_, rfl⟩
          go_upto_region 17 with fail
          refine region_below (by kernel_rfl) (by kernel_rfl) ?_
          repeat (quiet_step (with_reducible first | exact call_below _ (HOp.out _) | fail))
          refine wpQuiet_nil ?_
          rintro _ ⟨p, rfl⟩
          have hlt9 := World.block_lt_of_cell? W8 _ y4
          have v1 := p.cell y1
          have v4 := p.cell y4
          have v5 := p.cell y5
          have v6 := p.cell y6
          have v7 := p.cell y7
          have u1 := (p.h.frozen (p := ⟨wr.heap.size, 1, none⟩) hlt9).trans g1
          have u5 := (p.h.frozen (p := ⟨wr.heap.size, 5, none⟩) hlt9).trans g5
          have u6 := (p.h.frozen (p := ⟨wr.heap.size, 6, none⟩) hlt9).trans g6
          have hN9 := HN8.out.below p.h
          have p1' := hN9.k1
          have HB9 := Lib.hid (HB8.out.trans (p.h.mono HB8.out.size))
          generalize p.W = W9 at *
          clear p0 p1 p2 p3 p4 p5 p6 p7 hN9 hlt9 y1 y4 y5 y6 y7 g1 g5 g6
          have hnq : nodeB ws y = bq := by
            rw [HNb.out, HOw.out, ← hbq]
            by_cases q : ow = y.f2
            · rw [decide_eq_true q, beq_iff_eq.mpr q]
            · rw [decide_eq_false q, beq_eq_false_iff_ne.mpr q]
          have HNq := Lib.hid hnq
          clear hnq
          go_upto_region 19 with fail
          obtain ⟨W10, hW10⟩ : ∃ W, W9.setCell ⟨wr.heap.size, 1, none⟩ (.int .i64 0) = W := ⟨_, rfl⟩
          rw [hW10]
          have t1 : W10.cell? ⟨wr.heap.size, 1, none⟩ = some (.int .i64 0) := by rw [← hW10]; exact cell_eq v1
          have t4 : W10.cell? ⟨wr.heap.size, 4, none⟩ = some (.string y.f4) := by rw [← hW10]; exact (cell_ne (by decide)).trans v4
          have t5 : W10.cell? ⟨wr.heap.size, 5, none⟩ = some (.int .i64 y.f5) := by rw [← hW10]; exact (cell_ne (by decide)).trans v5
          have t6 : W10.cell? ⟨wr.heap.size, 6, none⟩ = some (.int .i64 y.f6) := by rw [← hW10]; exact (cell_ne (by decide)).trans v6
          have t7 : W10.cell? ⟨wr.heap.size, 7, none⟩ = some (.int .i64 y.f7) := by rw [← hW10]; exact (cell_ne (by decide)).trans v7
          have s5 : W10.frozen? ⟨wr.heap.size, 5, none⟩ = false := by rw [← hW10, froz_set]; exact u5
          have s6 : W10.frozen? ⟨wr.heap.size, 6, none⟩ = false := by rw [← hW10, froz_set]; exact u6
          have hb10 : Below wr.heap.size wr W10 := by rw [← hW10]; exact below_set2 (Nat.le_refl _) HB9.out
          have l1 := (HNx.out.below hb10).k1
          have HB10 := Lib.hid hb10
          clear hW10 hb10 v1 v4 v5 v6 v7 u1 u5 u6 p1'
          by_cases h4 : y.f1 = 4
          · have d4 : (y.f1 == 4) = true := beq_iff_eq.mpr h4
            have H4 := Lib.hid h4
            clear h4
            have hba : bareOk ((W10.setCell ⟨wr.heap.size, 5, none⟩ (.int .i64 0)).setCell ⟨wr.heap.size, 6, none⟩ (.int .i64 0)) wr.heap.size (if y.f0 = 3 then 0 else y.f1) (if y.f0 = 1 then ⟨#[]⟩ else y.f4) (if y.f0 = 3 ∧ y.f1 = 4 then 0 else y.f5) (if y.f0 = 3 ∧ y.f1 = 4 then 0 else y.f6) (if y.f0 = 8 then 0 else y.f7) := by
              rw [if_pos HK3.out, if_neg (by have := HK3.out; omega), if_pos ⟨HK3.out, H4.out⟩, if_pos ⟨HK3.out, H4.out⟩, if_neg (by have := HK3.out; omega)]
              exact ⟨((cell_ne (by decide)).trans (cell_ne (by decide))).trans t1, ((cell_ne (by decide)).trans (cell_ne (by decide))).trans t4, (cell_ne (by decide)).trans (cell_eq t5), cell_eq ((cell_ne (by decide)).trans t6), ((cell_ne (by decide)).trans (cell_ne (by decide))).trans t7⟩
            have HBa := Lib.hid hba
            clear hba
            go_wp2_with fail
            go_meet
            exact ⟨by rw [HNq.out], HBa, Lib.hid (below_set2 (Nat.le_refl _) (below_set2 (Nat.le_refl _) HB10.out))⟩
          · have d4 : (y.f1 == 4) = false := beq_eq_false_iff_ne.mpr h4
            have H4 := Lib.hid h4
            clear h4
            have hba : bareOk W10 wr.heap.size (if y.f0 = 3 then 0 else y.f1) (if y.f0 = 1 then ⟨#[]⟩ else y.f4) (if y.f0 = 3 ∧ y.f1 = 4 then 0 else y.f5) (if y.f0 = 3 ∧ y.f1 = 4 then 0 else y.f6) (if y.f0 = 8 then 0 else y.f7) := by
              rw [if_pos HK3.out, if_neg (by have := HK3.out; omega), if_neg (fun h => H4.out h.2), if_neg (fun h => H4.out h.2), if_neg (by have := HK3.out; omega)]
              exact ⟨t1, t4, t5, t6, t7⟩
            have HBa := Lib.hid hba
            clear hba t1 t4 t5 t6 t7 s5 s6
            go_wp2_with fail
            go_meet
            exact ⟨by rw [HNq.out], HBa, HB10⟩
        · have hnb : nodeB ws y = (decide (ws.length = 3) && (decide (ws.getD 1 0 = y.f2) && decide (ws.getD 2 0 = y.f2))) := by unfold nodeB; rw [if_neg (by omega), if_neg (by omega), if_neg (by omega), if_pos hk]
          have HNb := Lib.hid hnb
          have e1 : (y.f0 == 1) = false := by rw [hk]; rfl
          have e2 : (y.f0 == 2) = false := by rw [hk]; rfl
          have e3 : (y.f0 == 3) = false := by rw [hk]; rfl
          have e4 : (y.f0 == 4) = true := by rw [hk]; rfl
          have hba : bareOk W8 wr.heap.size (if y.f0 = 3 then 0 else y.f1) (if y.f0 = 1 then ⟨#[]⟩ else y.f4) (if y.f0 = 3 ∧ y.f1 = 4 then 0 else y.f5) (if y.f0 = 3 ∧ y.f1 = 4 then 0 else y.f6) (if y.f0 = 8 then 0 else y.f7) := by
            rw [if_neg (by omega), if_neg (by omega), if_neg (by omega), if_neg (by omega), if_neg (by omega)]
            exact ⟨y1, y4, y5, y6, y7⟩
          have HBa := Lib.hid hba
          clear y1 y4 y5 y6 y7 g1 g4 g5 g6 g7 hba
          clear hk hnb
          by_cases hl : ws.length = 3
          · have l0 : ((ws.length : Int) == 3) = true := by rw [hl]; rfl
            obtain ⟨g, hA, hcs⟩ := row_at HR8.out (by omega)
            subst hA
            have w0 := hcs 0 (by omega)
            have w1 := hcs 1 (by omega)
            have w2 := hcs 2 (by omega)
            clear hcs
            have HL := Lib.hid hl
            have hlI : (ws.length : Int) = 3 := by omega
            clear hl
            generalize ws.getD 0 0 = x0 at *
            generalize ws.getD 1 0 = x1 at *
            generalize ws.getD 2 0 = x2 at *
            by_cases c0 : x1 = y.f2
            · have d0 : (x1 == y.f2) = true := by first | exact beq_iff_eq.mpr c0 | exact decide_eq_true c0
              have C0 := Lib.hid c0
              clear c0
              by_cases c1 : x2 = y.f2
              · have d1 : (x2 == y.f2) = true := by first | exact beq_iff_eq.mpr c1 | exact decide_eq_true c1
                have C1 := Lib.hid c1
                clear c1
                go_upto_region 22 with fail; go_region; go_wp2_with fail
                go_meet
                exact ⟨by rw [HNb.out, decide_eq_true HL.out, decide_eq_true C0.out, decide_eq_true C1.out]; rfl, Lib.hid (bare_drew HBa.out), Lib.hid HB8.out.drew⟩
              · have d1 : (x2 == y.f2) = false := by first | exact beq_eq_false_iff_ne.mpr c1 | exact decide_eq_false c1
                have C1 := Lib.hid c1
                clear c1
                go_upto_region 22 with fail; go_region; go_wp2_with fail
                go_meet
                exact ⟨by rw [HNb.out, decide_eq_true HL.out, decide_eq_true C0.out, decide_eq_false C1.out]; simp, Lib.hid (bare_drew HBa.out), Lib.hid HB8.out.drew⟩
            · have d0 : (x1 == y.f2) = false := by first | exact beq_eq_false_iff_ne.mpr c0 | exact decide_eq_false c0
              have C0 := Lib.hid c0
              clear c0
              go_upto_region 22 with fail; go_region; go_wp2_with fail
              go_meet
              exact ⟨by rw [HNb.out, decide_eq_true HL.out, decide_eq_false C0.out]; simp, Lib.hid (bare_drew HBa.out), Lib.hid HB8.out.drew⟩
          · have l0 : ((ws.length : Int) == 3) = false := beq_eq_false_iff_ne.mpr (by omega)
            have HL := Lib.hid hl
            clear hl
            go_upto_region 22 with fail; go_region; go_wp2_with fail
            go_meet
            exact ⟨by rw [HNb.out, decide_eq_false HL.out]; simp, Lib.hid (bare_drew HBa.out), Lib.hid HB8.out.drew⟩
        · have hnb : nodeB ws y = (decide (ws.length = 2) && (decide (ws.getD 0 0 = ws.getD 1 0) && decide (y.f2 = 1))) := by unfold nodeB; rw [if_neg (by omega), if_neg (by omega), if_neg (by omega), if_neg (by omega), if_pos hk]
          have HNb := Lib.hid hnb
          have e1 : (y.f0 == 1) = false := by rw [hk]; rfl
          have e2 : (y.f0 == 2) = false := by rw [hk]; rfl
          have e3 : (y.f0 == 3) = false := by rw [hk]; rfl
          have e4 : (y.f0 == 4) = false := by rw [hk]; rfl
          have e5 : (y.f0 == 5) = true := by rw [hk]; rfl
          have hba : bareOk W8 wr.heap.size (if y.f0 = 3 then 0 else y.f1) (if y.f0 = 1 then ⟨#[]⟩ else y.f4) (if y.f0 = 3 ∧ y.f1 = 4 then 0 else y.f5) (if y.f0 = 3 ∧ y.f1 = 4 then 0 else y.f6) (if y.f0 = 8 then 0 else y.f7) := by
            rw [if_neg (by omega), if_neg (by omega), if_neg (by omega), if_neg (by omega), if_neg (by omega)]
            exact ⟨y1, y4, y5, y6, y7⟩
          have HBa := Lib.hid hba
          clear y1 y4 y5 y6 y7 g1 g4 g5 g6 g7 hba
          clear hk hnb
          by_cases hl : ws.length = 2
          · have l0 : ((ws.length : Int) == 2) = true := by rw [hl]; rfl
            obtain ⟨g, hA, hcs⟩ := row_at HR8.out (by omega)
            subst hA
            have w0 := hcs 0 (by omega)
            have w1 := hcs 1 (by omega)
            clear hcs
            have HL := Lib.hid hl
            have hlI : (ws.length : Int) = 2 := by omega
            clear hl
            generalize ws.getD 0 0 = x0 at *
            generalize ws.getD 1 0 = x1 at *
            by_cases c0 : x0 = x1
            · have d0 : (x0 == x1) = true := by first | exact beq_iff_eq.mpr c0 | exact decide_eq_true c0
              have C0 := Lib.hid c0
              clear c0
              by_cases c1 : y.f2 = 1
              · have d1 : (y.f2 == 1) = true := by first | exact beq_iff_eq.mpr c1 | exact decide_eq_true c1
                have C1 := Lib.hid c1
                clear c1
                go_upto_region 24 with fail; go_region; go_wp2_with fail
                go_meet
                exact ⟨by rw [HNb.out, decide_eq_true HL.out, decide_eq_true C0.out, decide_eq_true C1.out]; rfl, Lib.hid (bare_drew HBa.out), Lib.hid HB8.out.drew⟩
              · have d1 : (y.f2 == 1) = false := by first | exact beq_eq_false_iff_ne.mpr c1 | exact decide_eq_false c1
                have C1 := Lib.hid c1
                clear c1
                go_upto_region 24 with fail; go_region; go_wp2_with fail
                go_meet
                exact ⟨by rw [HNb.out, decide_eq_true HL.out, decide_eq_true C0.out, decide_eq_false C1.out]; simp, Lib.hid (bare_drew HBa.out), Lib.hid HB8.out.drew⟩
            · have d0 : (x0 == x1) = false := by first | exact beq_eq_false_iff_ne.mpr c0 | exact decide_eq_false c0
              have C0 := Lib.hid c0
              clear c0
              go_upto_region 24 with fail; go_region; go_wp2_with fail
              go_meet
              exact ⟨by rw [HNb.out, decide_eq_true HL.out, decide_eq_false C0.out]; simp, Lib.hid (bare_drew HBa.out), Lib.hid HB8.out.drew⟩
          · have l0 : ((ws.length : Int) == 2) = false := beq_eq_false_iff_ne.mpr (by omega)
            have HL := Lib.hid hl
            clear hl
            go_upto_region 24 with fail; go_region; go_wp2_with fail
            go_meet
            exact ⟨by rw [HNb.out, decide_eq_false HL.out]; simp, Lib.hid (bare_drew HBa.out), Lib.hid HB8.out.drew⟩
        · have hnb : nodeB ws y = (decide (ws.length = 1)) := by unfold nodeB; rw [if_neg (by omega), if_neg (by omega), if_neg (by omega), if_neg (by omega), if_neg (by omega), if_pos hk]
          have HNb := Lib.hid hnb
          have e1 : (y.f0 == 1) = false := by rw [hk]; rfl
          have e2 : (y.f0 == 2) = false := by rw [hk]; rfl
          have e3 : (y.f0 == 3) = false := by rw [hk]; rfl
          have e4 : (y.f0 == 4) = false := by rw [hk]; rfl
          have e5 : (y.f0 == 5) = false := by rw [hk]; rfl
          have e6 : (y.f0 == 6) = true := by rw [hk]; rfl
          have hba : bareOk W8 wr.heap.size (if y.f0 = 3 then 0 else y.f1) (if y.f0 = 1 then ⟨#[]⟩ else y.f4) (if y.f0 = 3 ∧ y.f1 = 4 then 0 else y.f5) (if y.f0 = 3 ∧ y.f1 = 4 then 0 else y.f6) (if y.f0 = 8 then 0 else y.f7) := by
            rw [if_neg (by omega), if_neg (by omega), if_neg (by omega), if_neg (by omega), if_neg (by omega)]
            exact ⟨y1, y4, y5, y6, y7⟩
          have HBa := Lib.hid hba
          clear y1 y4 y5 y6 y7 g1 g4 g5 g6 g7 hba
          clear hk hnb
          by_cases hl : ws.length = 1
          · have l0 : ((ws.length : Int) == 1) = true := by rw [hl]; rfl
            have HL := Lib.hid hl
            clear hl
            go_wp2_with fail
            go_meet
            exact ⟨by rw [HNb.out, decide_eq_true HL.out], HBa, HB8⟩
          · have l0 : ((ws.length : Int) == 1) = false := beq_eq_false_iff_ne.mpr (by omega)
            have HL := Lib.hid hl
            clear hl
            go_wp2_with fail
            go_meet
            exact ⟨by rw [HNb.out, decide_eq_false HL.out], HBa, HB8⟩
        · have hnb : nodeB ws y = (decide (ws.length = 2) && decide (ws.getD 1 0 = y.f2)) := by unfold nodeB; rw [if_neg (by omega), if_neg (by omega), if_neg (by omega), if_neg (by omega), if_neg (by omega), if_neg (by omega), if_pos hk]
          have HNb := Lib.hid hnb
          have e1 : (y.f0 == 1) = false := by rw [hk]; rfl
          have e2 : (y.f0 == 2) = false := by rw [hk]; rfl
          have e3 : (y.f0 == 3) = false := by rw [hk]; rfl
          have e4 : (y.f0 == 4) = false := by rw [hk]; rfl
          have e5 : (y.f0 == 5) = false := by rw [hk]; rfl
          have e6 : (y.f0 == 6) = false := by rw [hk]; rfl
          have e7 : (y.f0 == 7) = true := by rw [hk]; rfl
          have hba : bareOk W8 wr.heap.size (if y.f0 = 3 then 0 else y.f1) (if y.f0 = 1 then ⟨#[]⟩ else y.f4) (if y.f0 = 3 ∧ y.f1 = 4 then 0 else y.f5) (if y.f0 = 3 ∧ y.f1 = 4 then 0 else y.f6) (if y.f0 = 8 then 0 else y.f7) := by
            rw [if_neg (by omega), if_neg (by omega), if_neg (by omega), if_neg (by omega), if_neg (by omega)]
            exact ⟨y1, y4, y5, y6, y7⟩
          have HBa := Lib.hid hba
          clear y1 y4 y5 y6 y7 g1 g4 g5 g6 g7 hba
          clear hk hnb
          by_cases hl : ws.length = 2
          · have l0 : ((ws.length : Int) == 2) = true := by rw [hl]; rfl
            obtain ⟨g, hA, hcs⟩ := row_at HR8.out (by omega)
            subst hA
            have w0 := hcs 0 (by omega)
            have w1 := hcs 1 (by omega)
            clear hcs
            have HL := Lib.hid hl
            have hlI : (ws.length : Int) = 2 := by omega
            clear hl
            generalize ws.getD 0 0 = x0 at *
            generalize ws.getD 1 0 = x1 at *
            by_cases c0 : x1 = y.f2
            · have d0 : (x1 == y.f2) = true := by first | exact beq_iff_eq.mpr c0 | exact decide_eq_true c0
              have C0 := Lib.hid c0
              clear c0
              go_upto_region 28 with fail; go_region; go_wp2_with fail
              go_meet
              exact ⟨by rw [HNb.out, decide_eq_true HL.out, decide_eq_true C0.out]; rfl, Lib.hid (bare_drew HBa.out), Lib.hid HB8.out.drew⟩
            · have d0 : (x1 == y.f2) = false := by first | exact beq_eq_false_iff_ne.mpr c0 | exact decide_eq_false c0
              have C0 := Lib.hid c0
              clear c0
              go_upto_region 28 with fail; go_region; go_wp2_with fail
              go_meet
              exact ⟨by rw [HNb.out, decide_eq_true HL.out, decide_eq_false C0.out]; simp, Lib.hid (bare_drew HBa.out), Lib.hid HB8.out.drew⟩
          · have l0 : ((ws.length : Int) == 2) = false := beq_eq_false_iff_ne.mpr (by omega)
            have HL := Lib.hid hl
            clear hl
            go_upto_region 28 with fail; go_region; go_wp2_with fail
            go_meet
            exact ⟨by rw [HNb.out, decide_eq_false HL.out]; simp, Lib.hid (bare_drew HBa.out), Lib.hid HB8.out.drew⟩
        · have hnb : nodeB ws y = (decide (ws.length = 1) && (decide (ws.getD 0 0 = y.f2) && (decide (1 ≤ y.f7) && decide (y.f7 ≤ 1048576)))) := by unfold nodeB; rw [if_neg (by omega), if_neg (by omega), if_neg (by omega), if_neg (by omega), if_neg (by omega), if_neg (by omega), if_neg (by omega), if_pos hk]
          have HNb := Lib.hid hnb
          have e1 : (y.f0 == 1) = false := by rw [hk]; rfl
          have e2 : (y.f0 == 2) = false := by rw [hk]; rfl
          have e3 : (y.f0 == 3) = false := by rw [hk]; rfl
          have e4 : (y.f0 == 4) = false := by rw [hk]; rfl
          have e5 : (y.f0 == 5) = false := by rw [hk]; rfl
          have e6 : (y.f0 == 6) = false := by rw [hk]; rfl
          have e7 : (y.f0 == 7) = false := by rw [hk]; rfl
          have e8 : (y.f0 == 8) = true := by rw [hk]; rfl
          have hba : bareOk (W8.drew.setCell ⟨wr.heap.size, 7, none⟩ (.int .i64 0)) wr.heap.size (if y.f0 = 3 then 0 else y.f1) (if y.f0 = 1 then ⟨#[]⟩ else y.f4) (if y.f0 = 3 ∧ y.f1 = 4 then 0 else y.f5) (if y.f0 = 3 ∧ y.f1 = 4 then 0 else y.f6) (if y.f0 = 8 then 0 else y.f7) := by
            rw [if_neg (by omega), if_neg (by omega), if_neg (by omega), if_neg (by omega), if_pos hk]
            exact ⟨(cell_ne (by decide)).trans y1, (cell_ne (by decide)).trans y4, (cell_ne (by decide)).trans y5, (cell_ne (by decide)).trans y6, cell_eq (W := W8.drew) y7⟩
          have HBa := Lib.hid hba
          clear y1 y4 y5 y6 g1 g4 g5 g6 hba
          clear hk hnb
          by_cases hl : ws.length = 1
          · have l0 : ((ws.length : Int) == 1) = true := by rw [hl]; rfl
            obtain ⟨g, hA, hcs⟩ := row_at HR8.out (by omega)
            subst hA
            have w0 := hcs 0 (by omega)
            clear hcs
            have HL := Lib.hid hl
            have hlI : (ws.length : Int) = 1 := by omega
            clear hl
            generalize ws.getD 0 0 = x0 at *
            by_cases c0 : x0 = y.f2
            · have d0 : (x0 == y.f2) = true := by first | exact beq_iff_eq.mpr c0 | exact decide_eq_true c0
              have C0 := Lib.hid c0
              clear c0
              by_cases c1 : 1 ≤ y.f7
              · have d1 : (decide (y.f7 ≥ 1)) = true := by first | exact beq_iff_eq.mpr c1 | exact decide_eq_true c1
                have C1 := Lib.hid c1
                by_cases c2 : y.f7 ≤ 1048576
                · have d2 : (decide (y.f7 ≤ 1048576)) = true := by first | exact beq_iff_eq.mpr c2 | exact decide_eq_true c2
                  have C2 := Lib.hid c2
                  go_upto_region 30 with fail; go_region; go_wp2_with fail
                  go_meet
                  exact ⟨by rw [HNb.out, decide_eq_true HL.out, decide_eq_true C0.out, decide_eq_true C1.out, decide_eq_true C2.out]; rfl, Lib.hid HBa.out, Lib.hid (below_set2 (Nat.le_refl _) HB8.out.drew)⟩
                · have d2 : (decide (y.f7 ≤ 1048576)) = false := by first | exact beq_eq_false_iff_ne.mpr c2 | exact decide_eq_false c2
                  have C2 := Lib.hid c2
                  have c2b : 1048576 < y.f7 := by omega
                  clear c2
                  go_upto_region 30 with fail; go_region; go_wp2_with fail
                  go_meet
                  exact ⟨by rw [HNb.out, decide_eq_true HL.out, decide_eq_true C0.out, decide_eq_true C1.out, decide_eq_false (show ¬ (y.f7 ≤ 1048576) by first | exact C2.out | (have := C2.out; omega))]; simp, Lib.hid HBa.out, Lib.hid (below_set2 (Nat.le_refl _) HB8.out.drew)⟩
              · have d1 : (decide (y.f7 ≥ 1)) = false := by first | exact beq_eq_false_iff_ne.mpr c1 | exact decide_eq_false c1
                have C1 := Lib.hid c1
                have c1b : y.f7 < 1 := by omega
                clear c1
                go_upto_region 30 with fail; go_region; go_wp2_with fail
                go_meet
                exact ⟨by rw [HNb.out, decide_eq_true HL.out, decide_eq_true C0.out, decide_eq_false (show ¬ (1 ≤ y.f7) by first | exact C1.out | (have := C1.out; omega))]; simp, Lib.hid HBa.out, Lib.hid (below_set2 (Nat.le_refl _) HB8.out.drew)⟩
            · have d0 : (x0 == y.f2) = false := by first | exact beq_eq_false_iff_ne.mpr c0 | exact decide_eq_false c0
              have C0 := Lib.hid c0
              clear c0
              go_upto_region 30 with fail; go_region; go_wp2_with fail
              go_meet
              exact ⟨by rw [HNb.out, decide_eq_true HL.out, decide_eq_false (show ¬ (x0 = y.f2) by first | exact C0.out | (have := C0.out; omega))]; simp, Lib.hid HBa.out, Lib.hid (below_set2 (Nat.le_refl _) HB8.out.drew)⟩
          · have l0 : ((ws.length : Int) == 1) = false := beq_eq_false_iff_ne.mpr (by omega)
            have HL := Lib.hid hl
            clear hl
            go_upto_region 30 with fail; go_region; go_wp2_with fail
            go_meet
            exact ⟨by rw [HNb.out, decide_eq_false HL.out]; simp, Lib.hid HBa.out, Lib.hid (below_set2 (Nat.le_refl _) HB8.out.drew)⟩
        · have hnb : nodeB ws y = (false) := by unfold nodeB; rw [if_neg (by omega), if_neg (by omega), if_neg (by omega), if_neg (by omega), if_neg (by omega), if_neg (by omega), if_neg (by omega), if_neg (by omega)]
          have HNb := Lib.hid hnb
          have e1 : (y.f0 == 1) = false := beq_eq_false_iff_ne.mpr (by omega)
          have e2 : (y.f0 == 2) = false := beq_eq_false_iff_ne.mpr (by omega)
          have e3 : (y.f0 == 3) = false := beq_eq_false_iff_ne.mpr (by omega)
          have e4 : (y.f0 == 4) = false := beq_eq_false_iff_ne.mpr (by omega)
          have e5 : (y.f0 == 5) = false := beq_eq_false_iff_ne.mpr (by omega)
          have e6 : (y.f0 == 6) = false := beq_eq_false_iff_ne.mpr (by omega)
          have e7 : (y.f0 == 7) = false := beq_eq_false_iff_ne.mpr (by omega)
          have e8 : (y.f0 == 8) = false := beq_eq_false_iff_ne.mpr (by omega)
          have hba : bareOk W8 wr.heap.size (if y.f0 = 3 then 0 else y.f1) (if y.f0 = 1 then ⟨#[]⟩ else y.f4) (if y.f0 = 3 ∧ y.f1 = 4 then 0 else y.f5) (if y.f0 = 3 ∧ y.f1 = 4 then 0 else y.f6) (if y.f0 = 8 then 0 else y.f7) := by
            rw [if_neg (by omega), if_neg (by omega), if_neg (by omega), if_neg (by omega), if_neg (by omega)]
            exact ⟨y1, y4, y5, y6, y7⟩
          have HBa := Lib.hid hba
          clear y1 y4 y5 y6 y7 g1 g4 g5 g6 g7 hba
          clear hk hnb
          go_wp2_with fail
          go_meet
          exact ⟨by rw [HNb.out], HBa, HB8⟩
      case rest =>
        obtain ⟨h9, HBr, HBc⟩ := hcut
        obtain ⟨nb, hnb⟩ : ∃ nb, nodeB ws y = nb := ⟨_, rfl⟩
        rw [hnb] at h9
        subst h9
        have HNb := Lib.hid hnb
        have hz := zero_bare y
        obtain ⟨r1, r4, r5, r6, r7⟩ := HBr.out
        have HZ := Lib.hid hz
        generalize (if y.f0 = 3 then 0 else y.f1) = F1 at *
        generalize (if y.f0 = 1 then (⟨#[]⟩ : ByteArray) else y.f4) = F4 at *
        generalize (if y.f0 = 3 ∧ y.f1 = 4 then 0 else y.f5) = F5 at *
        generalize (if y.f0 = 3 ∧ y.f1 = 4 then 0 else y.f6) = F6 at *
        generalize (if y.f0 = 8 then 0 else y.f7) = F7 at *
        clear hz hnb
        have HBe := Lib.hid (HB1.out.trans ((HBx.out.trans (HBc.out.mono HBx.out.size)).mono (show w.heap.size ≤ W1.heap.size by have := HZ1.out; omega)))
        cases nb
        · clear r1 r4 r5 r6 r7
          go_wp2_with fail
          go_ret
          exact ⟨by rw [HNb.out]; rfl, HBe.out⟩
        · by_cases c1 : F1 = 0
          · have d1 : (F1 == 0) = true := beq_iff_eq.mpr c1
            have C1 := Lib.hid c1
            clear c1
            by_cases c4 : F4.toList = []
            · have d4 : (F4.toList == []) = true := beq_iff_eq.mpr c4
              have C4 := Lib.hid c4
              by_cases c5 : F5 = 0
              · have d5 : (F5 == 0) = true := beq_iff_eq.mpr c5
                have C5 := Lib.hid c5
                clear c5
                by_cases c6 : F6 = 0
                · have d6 : (F6 == 0) = true := beq_iff_eq.mpr c6
                  have C6 := Lib.hid c6
                  clear c6
                  by_cases c7 : F7 = 0
                  · have d7 : (F7 == 0) = true := beq_iff_eq.mpr c7
                    have C7 := Lib.hid c7
                    clear c7
                    go_wp2_with fail
                    go_ret
                    exact ⟨by rw [HNb.out, HZ.out, C1.out, C4.out, C5.out, C6.out, C7.out]; rfl, HBe.out⟩
                  · have d7 : (F7 == 0) = false := beq_eq_false_iff_ne.mpr c7
                    have C7 := Lib.hid c7
                    clear c7
                    go_wp2_with fail
                    go_ret
                    exact ⟨by rw [HNb.out, HZ.out, decide_eq_false C7.out]; simp, HBe.out⟩
                · have d6 : (F6 == 0) = false := beq_eq_false_iff_ne.mpr c6
                  have C6 := Lib.hid c6
                  clear c6
                  go_wp2_with fail
                  go_ret
                  exact ⟨by rw [HNb.out, HZ.out, decide_eq_false C6.out]; simp, HBe.out⟩
              · have d5 : (F5 == 0) = false := beq_eq_false_iff_ne.mpr c5
                have C5 := Lib.hid c5
                clear c5
                go_wp2_with fail
                go_ret
                exact ⟨by rw [HNb.out, HZ.out, decide_eq_false C5.out]; simp, HBe.out⟩
            · have d4 : (F4.toList == []) = false := beq_eq_false_iff_ne.mpr c4
              have C4 := Lib.hid c4
              go_wp2_with fail
              go_ret
              exact ⟨by rw [HNb.out, HZ.out, decide_eq_false C4.out]; simp, HBe.out⟩
          · have d1 : (F1 == 0) = false := beq_eq_false_iff_ne.mpr c1
            have C1 := Lib.hid c1
            clear c1
            go_wp2_with fail
            go_ret
            exact ⟨by rw [HNb.out, HZ.out, decide_eq_false C1.out]; simp, HBe.out⟩
end Go.Proofs.YtonnmkhmhndalaaDoor
end
section
namespace Go.Proofs.YtonnmkhmhndalaaDoor
set_option linter.unusedVariables false
set_option linter.unusedSimpArgs false
open Go.RowKit Go.Proofs.YtonnmkhmhndalaaDoorW.PrintWords Go.Proofs.YtonnmkhmhndalaaDoorW.PrintLast Go.Proofs.YtonnmkhmhndalaaDoorW.PrintMore
def cntP (nt : List Int) (k : Nat) : Nat → Nat := fun j => (nt.take k).count (j : Int)
theorem cntP_succ (nt : List Int) (k a : Nat) (h : k < nt.length) (ha : nt.getD k 0 = (a : Int)) (j : Nat) : cntP nt (k + 1) j = if j = a then cntP nt k a + 1 else cntP nt k j := by
  have e : nt[k] = (a : Int) := by rw [List.getD_eq_getElem?_getD, List.getElem?_eq_getElem h] at ha; exact ha
  unfold cntP
  rw [List.take_succ_eq_append_getElem h, e, List.count_append]
  by_cases hj : j = a
  · subst hj
    rw [if_pos rfl]
    simp
  · rw [if_neg hj, List.count_cons]
    have : ((a : Int) == (j : Int)) = false := beq_eq_false_iff_ne.mpr (by omega)
    rw [this]
    simp
theorem cntP_le (nt : List Int) (k j : Nat) : cntP nt k j ≤ k := by
  unfold cntP
  have h1 := List.count_le_length (a := (j : Int)) (l := nt.take k)
  have h2 : (nt.take k).length ≤ k := List.length_take_le _ _
  omega
def pfN (nt : List Int) (k : Nat) : Nat → Option Int := fun j => if cntP nt k j = 0 then none else some (cntP nt k j : Int)
theorem pfN_get (nt : List Int) (k j : Nat) : (pfN nt k j).getD 0 = (cntP nt k j : Int) := by
  unfold pfN
  by_cases h : cntP nt k j = 0
  · rw [if_pos h, h]; rfl
  · rw [if_neg h]; rfl
theorem pfN_succ (nt : List Int) (k a : Nat) (h : k < nt.length) (ha : nt.getD k 0 = (a : Int)) : upd (pfN nt k) a (some ((cntP nt k a : Int) + 1)) = pfN nt (k + 1) := by
  funext j
  unfold upd pfN
  rw [cntP_succ nt k a h ha j]
  by_cases e : j = a
  · subst e
    rw [if_pos rfl, if_pos rfl, if_neg (by omega)]
    rfl
  · rw [if_neg e, if_neg e]
attribute [local irreducible] wpQuiet
def chkI (x : NL) : Int := if mayL x then 0 else 1
theorem store_func (a : Addr) (fn : Fn) (first cap : Array Value) (w : World) (m : Mode) : (store a (.func fn first cap) m).run Tryd.prog w = stored Tryd.prog w a (.func fn first cap) m := run_store Tryd.prog w a _ m rfl
set_option maxRecDepth 100000 in
set_option maxHeartbeats 8000000 in
theorem check_any (x : NL) (A : Option Addr) (c : Nat) (B : Option Addr) (d : Nat) (w : World) (hI : NIn w x A c B d) :
    Calls Tryd.prog 25 #[nlV x A c B d] w fun e w' => e = .returned (.int .i64 (chkI x)) ∧ Below w.heap.size w w' := by
  have hmf : ∀ (fn : Fn) (first cap : Array Value) (w : World), (Instr.makeFunc fn first cap).run Tryd.prog w = .ok (.func fn first cap) w := fun _ _ _ _ => rfl
  have hmm := @run_makeMap Tryd.prog
  have hsf := store_func
  have HI := Lib.hid hI
  obtain ⟨n, hn⟩ : ∃ n, x.nd.length = n := ⟨_, rfl⟩
  obtain ⟨m, hm⟩ : ∃ m, x.nt.length = m := ⟨_, rfl⟩
  obtain ⟨ans, hans⟩ : ∃ b, chkI x = b := ⟨_, rfl⟩
  have hmb : m * 8 ≤ 140737488355328 := by rw [← hm]; exact hI.b1
  have HNo : Hid (¬ MayP x → ans = 1) := Lib.hid (fun h => by rw [← hans]; unfold chkI; rw [may_no h]; rfl)
  have HYes : Hid (MayP x → ans = 0) := Lib.hid (fun h => by rw [← hans]; unfold chkI; rw [(may_iff x).2 h]; rfl)
  rw [hans]
  have HN := Lib.hid hn
  have HM := Lib.hid hm
  clear hI hans
  go_enter Tryd.func25, Tryd.ntmps25
  go_upto_region 1 with fail
  obtain ⟨W0, hW0⟩ : ∃ W, w.alloc (Obj.cells #[.slice A n c, .slice B m d, .int .i64 x.pt] 25) = W := ⟨_, rfl⟩
  rw [hW0]
  obtain ⟨hx0, hb0, hz0⟩ := box_list hW0
  have HX0 := Lib.hid hx0
  obtain ⟨q0, q1, q2⟩ := HX0.out
  have HB0 := Lib.hid hb0
  have HZ0 := Lib.hid hz0
  have hzz : w.heap.size < W0.heap.size := by omega
  clear hx0 hb0 hz0 hW0 hn hm
  by_cases hn4 : n ≤ 4096
  · by_cases hp : x.pt = (m : Int)
    · have d1 : (x.pt != (m : Int)) = false := bne_eq_false_iff_eq.mpr hp
      have HP := Lib.hid hp
      clear hp
      go_upto_region 4 with fail
      obtain ⟨W1, hW1⟩ : ∃ W, W0.alloc (.cells #[fIn w.heap.size] 84) = W := ⟨_, rfl⟩
      rw [hW1]
      have hb1 : Below W0.heap.size W0 W1 := by rw [← hW1]; exact below_alloc (Below.refl _ _) _
      have hq1 : W1.cell? ⟨W0.heap.size, 0, none⟩ = some (fIn w.heap.size) := by rw [← hW1]; simp [go_sem]
      have hz1 : W0.heap.size < W1.heap.size := by rw [← hW1]; simp
      have HX1 := Lib.hid (HX0.out.below hb1)
      have HB1 := Lib.hid (HB0.out.trans (hb1.mono (Nat.le_of_lt hzz)))
      have HQ1 := Lib.hid hq1
      obtain ⟨q0, q1, q2⟩ := HX1.out
      have hz2 : w.heap.size < W1.heap.size := by omega
      clear hb1 hq1 hW1
      go_wp2_with fail
      clear q0 q1 q2 d1
      go_loopw [27] (fun v27 wx => ∃ i : Nat, v27 = .int .i64 i ∧ i ≤ n ∧ Hid (∀ k, k < i → wideB x.nd.length (nAt x k) = true) ∧ Hid (Below W1.heap.size W1 wx)) (fun v27 _ => n - (intOf v27).toNat)
      case atStart => exact ⟨0, rfl, Nat.zero_le _, Lib.hid (fun k hk => absurd hk (Nat.not_lt_zero _)), Lib.hid (Below.refl _ _)⟩
      case round =>
        obtain ⟨i, rfl, hi, HWi, HBx⟩ := hrel
        have HXx := Lib.hid (HX1.out.below HBx.out)
        have HBw := Lib.hid (HB1.out.trans (HBx.out.mono (Nat.le_of_lt hz2)))
        have HQx := Lib.hid ((HBx.out.cell (p := ⟨W0.heap.size, 0, none⟩) hz1).trans HQ1.out)
        by_cases hlt : i < n
        · have hk' : i < x.nd.length := by rw [HN.out]; exact hlt
          obtain ⟨b, o, A3, c3, hA, hl3, hbs, hND⟩ := nodes_in HI.out.h0 i hk'
          subst hA
          obtain ⟨y, hy⟩ : ∃ y, x.nd.getD i z39 = y := ⟨_, rfl⟩
          rw [hy] at hl3 hND
          have hyn : nAt x i = y := hy
          have hyb : y.f3.length * 8 ≤ 140737488355328 := by rw [← hy]; exact HI.out.b0 _ (by rw [List.getD_eq_getElem?_getD, List.getElem?_eq_getElem hk']; exact List.getElem_mem _)
          have HYb := Lib.hid hyb
          obtain ⟨h0, h1, h2, h3, h4, h5, h6, h7, hC3⟩ := hND _ HBw.out
          have HC3 := Lib.hid hC3
          have HY := Lib.hid hyn
          have HND := Lib.hid hND
          have HLt := Lib.hid hlt
          clear hk' hbs hND hy hyn hC3 hyb
          go_upto_region 7 with fail
          obtain ⟨W5, hW5⟩ : ∃ W, wr.alloc (Obj.cells #[Value.int IntKind.i64 y.f0, Value.int IntKind.i64 y.f1, Value.int IntKind.i64 y.f2, Value.slice A3 y.f3.length c3, Value.string y.f4, Value.int IntKind.i64 y.f5, Value.int IntKind.i64 y.f6, Value.int IntKind.i64 y.f7] 39) = W := ⟨_, rfl⟩
          rw [hW5]
          obtain ⟨hn5, hb5⟩ := box_node HC3.out hW5
          have HN5 := Lib.hid hn5
          obtain ⟨z0, z1, z2, z3, z4, z5, z6, z7, hC5⟩ := HN5.out
          have HB5 := Lib.hid (HBx.out.trans (hb5.mono HBx.out.size))
          have hq5 := (hb5.cell (p := ⟨W0.heap.size, 0, none⟩) (World.block_lt_of_cell? wr _ HQx.out)).trans HQx.out
          have hcf := cf_any y.f3 A3 c3 w.heap.size W0.heap.size n c _ W5 hC5 HYb.out (HXx.out.below hb5).k0 hq5
          have HCf := Lib.hid hcf
          have HBe := Lib.hid (HBw.out.trans (hb5.mono HBw.out.size))
          clear hn5 hW5 hb5 h0 h1 h2 h3 h4 h5 h6 h7 hC5 hq5 hcf z0 z1 z4 z5 z6 z7
          by_cases a1 : 1 ≤ y.f2
          · have g1 : decide (y.f2 < 1) = false := decide_eq_false (by omega)
            by_cases a2 : y.f2 ≤ 256
            · have g2 : decide (y.f2 > 256) = false := decide_eq_false (by omega)
              obtain ⟨zb, hzb⟩ : ∃ b, y.f3.all (inB n) = b := ⟨_, rfl⟩
              rw [hzb] at HCf
              have HZb := Lib.hid hzb
              have A1 := Lib.hid a1
              have A2 := Lib.hid a2
              clear hzb
              cases zb
              · go_wp2_with fail
                refine HCf.out.mono ?_
                rintro e w6 ⟨rfl, rfl⟩
                go_wp2_with fail
                go_ret
                refine ⟨?_, HBe.out⟩
                rw [HNo.out (fun h => ?_)]
                · rfl
                · have := h.w i (by rw [HN.out]; exact HLt.out)
                  rw [HY.out, HN.out] at this
                  unfold wideB at this
                  rw [HZb.out] at this
                  simp at this
              · go_wp2_with fail
                refine HCf.out.mono ?_
                rintro e w6 ⟨rfl, rfl⟩
                go_wp2_with fail
                refine ⟨⟨i + 1, by simp, HLt.out, Lib.hid (fun k hk => ?_), HB5⟩, by have := HLt.out; simp [intOf]; omega⟩
                by_cases e : k = i
                · subst e
                  rw [HY.out, HN.out]
                  unfold wideB
                  rw [HZb.out, decide_eq_true A1.out, decide_eq_true A2.out]
                  rfl
                · exact HWi.out k (by omega)
            · have g2 : decide (y.f2 > 256) = true := decide_eq_true (by omega)
              have A2 := Lib.hid a2
              go_wp2_with fail
              go_ret
              refine ⟨?_, HBe.out⟩
              rw [HNo.out (fun h => ?_)]
              · rfl
              · have h1 := h.w i (by rw [HN.out]; exact HLt.out)
                rw [HY.out] at h1
                have := ((wideB_iff _ _).1 h1).2.1
                have := A2.out
                omega
          · have g1 : decide (y.f2 < 1) = true := decide_eq_true (by omega)
            have A1 := Lib.hid a1
            go_wp2_with fail
            go_ret
            refine ⟨?_, HBe.out⟩
            rw [HNo.out (fun h => ?_)]
            · rfl
            · have h1 := h.w i (by rw [HN.out]; exact HLt.out)
              rw [HY.out] at h1
              have := ((wideB_iff _ _).1 h1).1
              have := A1.out
              omega
        · obtain rfl : i = n := by omega
          rename World => WA
          obtain ⟨q0, q1, q2⟩ := HXx.out
          clear hlt hi
          go_upto_region 11 with fail
          obtain ⟨WM, hWM⟩ : ∃ W, WA.alloc (.map #[] 0) = W := ⟨_, rfl⟩
          rw [hWM]
          have hbm : Below WA.heap.size WA WM := by rw [← hWM]; exact below_alloc (Below.refl _ _) _
          have hmi : MI WM WA.heap.size 0 (pfN x.nt 0) := by
            have e : pfN x.nt 0 = fun _ => none := by funext j; unfold pfN cntP; rw [List.take_zero]; rfl
            rw [e, ← hWM]
            exact MI.made WA
          have HBm := Lib.hid hbm
          have HMi := Lib.hid hmi
          have hx1 := (HXx.out.below hbm).k1
          clear hWM hbm hmi q0 q1 q2
          go_wp2_with fail
          clear hx1
          go_loopw [50] (fun v50 wy => ∃ k : Nat, v50 = .int .i64 k ∧ k ≤ m ∧ Hid (∀ q, q < k → 0 ≤ x.nt.getD q 0 ∧ x.nt.getD q 0 < (i : Int)) ∧ Hid (MI wy WA.heap.size k (pfN x.nt k)) ∧ Hid (Below WA.heap.size WA wy)) (fun v50 _ => m - (intOf v50).toNat)
          case atStart => exact ⟨0, rfl, Nat.zero_le _, Lib.hid (fun k hk => absurd hk (Nat.not_lt_zero _)), HMi, HBm⟩
          case round =>
            obtain ⟨k, rfl, hk, HK, HO, HBy⟩ := hrel
            have HXy := Lib.hid (HXx.out.below HBy.out)
            have HBz := Lib.hid (HBw.out.trans (HBy.out.mono HBw.out.size))
            have HQy := Lib.hid ((HBy.out.cell (p := ⟨W0.heap.size, 0, none⟩) (World.block_lt_of_cell? WA _ HQx.out)).trans HQx.out)
            by_cases hkl : k < m
            · obtain ⟨bb, oo, hBB, g6, -⟩ := ints_at (HI.out.below HBz.out).h1 k (by rw [HM.out]; exact hkl)
              subst hBB
              obtain ⟨a, ha⟩ : ∃ a, x.nt.getD k 0 = a := ⟨_, rfl⟩
              rw [ha] at g6
              have HA := Lib.hid ha
              have HKl := Lib.hid hkl
              clear ha
              have hbad : inB i a = false → ans = 1 := fun hb => HNo.out (fun h => by
                have h1 := h.t k (by rw [HM.out]; exact HKl.out)
                rw [HA.out, HN.out, hb] at h1
                cases h1)
              have HBad := Lib.hid hbad
              have hin := in_any a w.heap.size i c A wr HXy.out.k0
              have hqy := HQy.out
              obtain ⟨ib, hib⟩ : ∃ ib, inB i a = ib := ⟨_, rfl⟩
              rw [hib] at hin
              have HIn := Lib.hid hin
              have HIb := Lib.hid hib
              clear hbad hin
              cases ib
              · clear hib
                go_wp2_with fail
                refine HIn.out.mono ?_
                rintro e w6 ⟨rfl, rfl⟩
                go_wp2_with fail
                go_ret
                exact ⟨by rw [HBad.out HIb.out]; try rfl, HBz.out⟩
              · have hib2 := hib
                unfold inB at hib2
                rw [Bool.and_eq_true, decide_eq_true_eq, decide_eq_true_eq] at hib2
                obtain ⟨a', rfl⟩ : ∃ a' : Nat, a = (a' : Int) := ⟨a.toNat, by omega⟩
                have hai : a' < i := by omega
                have hcl := cntP_le x.nt k a'
                have hlk := HO.out.look a' (by omega)
                rw [pfN_get] at hlk
                obtain ⟨WN, hst, hmn, hgn⟩ := HO.out.store a' (by omega) ((cntP x.nt k a' : Int) + 1) (WalkArith.wf_i64 (by omega)) (by omega)
                rw [pfN_succ x.nt k a' (by rw [HM.out]; exact hkl) HA.out] at hmn
                generalize cntP x.nt k a' = cv at *
                have HMn := Lib.hid hmn
                have HGn := Lib.hid hgn
                have HIb2 := Lib.hid hib2
                clear hib hib2 hmn hgn hai
                go_wp2_with fail
                refine HIn.out.mono ?_
                rintro e w6 ⟨rfl, rfl⟩
                go_wp2_with fail
                refine ⟨⟨k + 1, by simp, HKl.out, Lib.hid (fun q hq => ?_), HMn, Lib.hid (HBy.out.grown HGn.out HBy.out.size (fun b hb => by injection hb with hb; rw [← hb]; exact Nat.le_refl _))⟩, by have := HKl.out; simp [intOf]; omega⟩
                by_cases e : q = k
                · subst e; rw [HA.out]; exact HIb2.out
                · exact HK.out q (by omega)
            · obtain rfl : k = m := by omega
              rename World => WB
              obtain ⟨q0, q1, q2⟩ := HXy.out
              clear hkl hk
              go_wp2_with fail
              clear q0 q1 q2
              go_loopw [66] (fun v66 wz => ∃ j : Nat, v66 = .int .i64 j ∧ j ≤ i ∧ Hid (∀ q, q < j → nodeB (wsOf x.nd (nAt x q)) (nAt x q) = true ∧ zeroB (nAt x q) = true ∧ portB x.nt q (nAt x q) = true) ∧ Hid (Below WB.heap.size WB wz)) (fun v66 _ => i - (intOf v66).toNat)
              case atStart => exact ⟨0, rfl, Nat.zero_le _, Lib.hid (fun k hk => absurd hk (Nat.not_lt_zero _)), Lib.hid (Below.refl _ _)⟩
              case round =>
                obtain ⟨j, rfl, hj, HJ, HBq⟩ := hrel
                have HBr := Lib.hid (HBz.out.trans (HBq.out.mono HBz.out.size))
                by_cases hjl : j < i
                · have hk' : j < x.nd.length := by rw [HN.out]; exact hjl
                  obtain ⟨b, o, A3, c3, hA, hl3, hbs, hND⟩ := nodes_in HI.out.h0 j hk'
                  subst hA
                  obtain ⟨y, hy⟩ : ∃ y, x.nd.getD j z39 = y := ⟨_, rfl⟩
                  rw [hy] at hl3 hND
                  have hyn : nAt x j = y := hy
                  have hym : y ∈ x.nd := by rw [← hy, List.getD_eq_getElem?_getD, List.getElem?_eq_getElem hk']; exact List.getElem_mem _
                  have hwj := HWi.out j hjl
                  rw [hyn] at hwj
                  have hwd := (wideB_iff _ _).1 hwj
                  have hYO : YOk x y := by
                    refine ⟨by rw [HN.out]; exact hn4, fun s hs => ?_, fun u hu => ?_, HI.out.z y hym, HI.out.b0 y hym⟩
                    · obtain ⟨q, hq, rfl⟩ := List.getElem_of_mem hs
                      have h1 := HWi.out q (by rw [← HN.out]; exact hq)
                      have h2 : nAt x q = x.nd[q] := by unfold nAt; rw [List.getD_eq_getElem?_getD, List.getElem?_eq_getElem hq]; rfl
                      rw [h2] at h1
                      have h3 := (wideB_iff _ _).1 h1
                      exact ⟨h3.1, h3.2.1⟩
                    · obtain ⟨q, hq, rfl⟩ := List.getElem_of_mem hu
                      have h3 := hwd.2.2 q hq
                      rw [List.getD_eq_getElem?_getD, List.getElem?_eq_getElem hq] at h3
                      exact h3
                  obtain ⟨h0, h1, h2, h3, h4, h5, h6, h7, hC3⟩ := hND _ HBr.out
                  have HC3 := Lib.hid hC3
                  have HYn := Lib.hid hyn
                  have HJl := Lib.hid hjl
                  have hmy : ∀ W, Below w.heap.size w W → Calls Tryd.prog 47 #[.agg #[.slice (some ⟨b, o, none⟩) i c, .slice B k d, .int .i64 x.pt], ndV y A3 c3] W fun e w' => e = .returned (.bool (nodeB (wsOf x.nd y) y && zeroB y)) ∧ Below W.heap.size W w' := by
                    intro W hW
                    have h9 := lmay_any x _ c B d y A3 c3 W (HI.out.below hW) (hND _ hW).hC hl3 hYO
                    unfold nlV at h9
                    rw [HN.out, HM.out] at h9
                    exact h9
                  have HMy := Lib.hid hmy
                  have hpo : portB x.nt j y = (!decide (y.f0 = 2) || decide (x.nt.count (j : Int) = 1)) := rfl
                  have HPo := Lib.hid hpo
                  clear hk' hbs hND hy hyn hym hwj hwd hYO hC3 hmy hl3 hpo
                  go_upto_region 21 with fail
                  obtain ⟨W5, hW5⟩ : ∃ W, wr.alloc (Obj.cells #[Value.int IntKind.i64 y.f0, Value.int IntKind.i64 y.f1, Value.int IntKind.i64 y.f2, Value.slice A3 y.f3.length c3, Value.string y.f4, Value.int IntKind.i64 y.f5, Value.int IntKind.i64 y.f6, Value.int IntKind.i64 y.f7] 39) = W := ⟨_, rfl⟩
                  rw [hW5]
                  obtain ⟨hn5, hb5⟩ := box_node HC3.out hW5
                  have HN5 := Lib.hid hn5
                  obtain ⟨z0, z1, z2, z3, z4, z5, z6, z7, hC5⟩ := HN5.out
                  have hbq5 := HBq.out.trans (hb5.mono HBq.out.size)
                  have HB5 := Lib.hid hbq5
                  have HBe := Lib.hid (HBr.out.trans (hb5.mono HBr.out.size))
                  obtain ⟨i0, i1, i2⟩ := HXy.out.below hbq5
                  clear hn5 hW5 hb5 h0 h1 h2 h3 h4 h5 h6 h7 hC5 hbq5
                  go_wp2_with fail
                  clear z1 z2 z3 z4 z5 z6 z7 i0 i1 i2
                  refine (HMy.out W5 HBe.out).mono ?_
                  rintro e w6 ⟨rfl, hb6⟩
                  have HB6 := Lib.hid (HB5.out.trans (hb6.mono HB5.out.size))
                  have HBf := Lib.hid (HBe.out.trans (hb6.mono HBe.out.size))
                  have z0' := (HN5.out.below hb6).k0
                  have hlk := (HO.out.below HB6.out).look j (by omega)
                  rw [pfN_get, show cntP x.nt k j = x.nt.count (j : Int) by unfold cntP; rw [← HM.out, List.take_length]] at hlk
                  obtain ⟨nb, hnb⟩ : ∃ nb, (nodeB (wsOf x.nd y) y && zeroB y) = nb := ⟨_, rfl⟩
                  rw [hnb]
                  have HNb := Lib.hid hnb
                  have hbadn : nb = false → ans = 1 := fun hb => HNo.out (fun h => by
                    have h1 := h.k j (by rw [HN.out]; exact HJl.out)
                    have h2 := h.z j (by rw [HN.out]; exact HJl.out)
                    rw [HYn.out] at h1 h2
                    have := HNb.out
                    rw [h1, h2, hb] at this
                    cases this)
                  have hbadp : portB x.nt j y = false → ans = 1 := fun hb => HNo.out (fun h => by
                    have h1 := h.q j (by rw [HN.out]; exact HJl.out)
                    rw [HYn.out, hb] at h1
                    cases h1)
                  have HBn := Lib.hid hbadn
                  have HBp := Lib.hid hbadp
                  clear hbadn hbadp hnb hb6 z0
                  cases nb
                  · go_wp2_with fail
                    go_ret
                    exact ⟨by rw [HBn.out (by first | trivial | rfl)]; try rfl, HBf.out⟩
                  · have hnz : nodeB (wsOf x.nd y) y = true ∧ zeroB y = true := by
                      have := HNb.out
                      rw [Bool.and_eq_true] at this
                      exact this
                    have HNz := Lib.hid hnz
                    clear hnz HNb
                    by_cases f2 : y.f0 = 2
                    · have d2 : (y.f0 == 2) = true := beq_iff_eq.mpr f2
                      have F2 := Lib.hid f2
                      clear f2
                      by_cases cc : x.nt.count (j : Int) = 1
                      · have hpt : portB x.nt j y = true := by rw [HPo.out, decide_eq_true cc]; simp
                        have HPt := Lib.hid hpt
                        have d3 : ((x.nt.count (j : Int) : Int) != 1) = false := bne_eq_false_iff_eq.mpr (by omega)
                        generalize x.nt.count (j : Int) = cn at *
                        clear hpt cc
                        go_wp2_with fail
                        refine ⟨⟨j + 1, by simp, HJl.out, Lib.hid (fun q hq => ?_), HB6⟩, by have := HJl.out; simp [intOf]; omega⟩
                        by_cases e : q = j
                        · subst e; rw [HYn.out]; exact ⟨HNz.out.1, HNz.out.2, HPt.out⟩
                        · exact HJ.out q (by omega)
                      · have hpt : portB x.nt j y = false := by rw [HPo.out, decide_eq_false cc, decide_eq_true F2.out]; rfl
                        have HPt := Lib.hid hpt
                        have d3 : ((x.nt.count (j : Int) : Int) != 1) = true := bne_iff_ne.mpr (by omega)
                        generalize x.nt.count (j : Int) = cn at *
                        clear hpt cc
                        go_wp2_with fail
                        go_ret
                        exact ⟨by rw [HBp.out HPt.out]; try rfl, HBf.out⟩
                    · have d2 : (y.f0 == 2) = false := beq_eq_false_iff_ne.mpr f2
                      have hpt : portB x.nt j y = true := by rw [HPo.out, decide_eq_false f2]; rfl
                      have HPt := Lib.hid hpt
                      clear hpt f2
                      go_wp2_with fail
                      refine ⟨⟨j + 1, by simp, HJl.out, Lib.hid (fun q hq => ?_), HB6⟩, by have := HJl.out; simp [intOf]; omega⟩
                      by_cases e : q = j
                      · subst e; rw [HYn.out]; exact ⟨HNz.out.1, HNz.out.2, HPt.out⟩
                      · exact HJ.out q (by omega)
                · obtain rfl : j = i := by omega
                  have hyes : ans = 0 := HYes.out ⟨by rw [HN.out]; exact hn4, by rw [HP.out, HM.out], fun q hq => HWi.out q (by rw [← HN.out]; exact hq), fun q hq => by unfold inB; have := HK.out q (by rw [← HM.out]; exact hq); rw [HN.out, decide_eq_true this.1, decide_eq_true this.2]; rfl, fun q hq => (HJ.out q (by rw [← HN.out]; exact hq)).1, fun q hq => (HJ.out q (by rw [← HN.out]; exact hq)).2.1, fun q hq => (HJ.out q (by rw [← HN.out]; exact hq)).2.2⟩
                  have HYe := Lib.hid hyes
                  clear hyes
                  go_wp2_with fail
                  go_ret
                  exact ⟨by rw [HYe.out]; try rfl, HBr.out⟩
    · have d1 : (x.pt != (m : Int)) = true := bne_iff_ne.mpr hp
      have HP := Lib.hid hp
      clear hp
      go_wp2_with fail
      go_ret
      exact ⟨by rw [HNo.out (fun h => HP.out (by rw [h.p, HM.out]))]; try rfl, HB0.out⟩
  · have HQ := Lib.hid hn4
    go_wp2_with fail
    go_ret
    exact ⟨by rw [HNo.out (fun h => HQ.out (by rw [← HN.out]; exact h.n))]; try rfl, HB0.out⟩
end Go.Proofs.YtonnmkhmhndalaaDoor
end
