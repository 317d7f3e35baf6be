/- What is asked of all parts of a node: the functions that are handed on, walked. Maps with whole numbers for keys that the call makes: what they hold, plainly. -/
import Derived.Test.YtonnmkhmhndalaaDoorMgC
import Derived.Test.YtonnmkhmhndalaaDoorMgB
import Derived.Maps.Own
import Derived.Maps.OwnOps
import Derived.Maps.OwnSet
import Derived.Maps.Views
namespace Go.Proofs.YtonnmkhmhndalaaDoor
set_option linter.unusedVariables false
set_option linter.unusedSimpArgs false
open Go.RowKit Go.Proofs.YtonnmkhmhndalaaDoorW.PrintWords Go.Proofs.YtonnmkhmhndalaaDoorW.PrintLast Go.Proofs.YtonnmkhmhndalaaDoorW.PrintMore

theorem in_any (k : Int) (P n c : Nat) (A : Option Addr) (w : World) (h : w.cell? ⟨P, 0, none⟩ = some (.slice A n c)) :
    Calls Tryd.prog 44 #[.int .i64 k, .pointer (some ⟨P, 0, none⟩)] w fun e w' => e = .returned (.bool (inB n k)) ∧ w = w' := by
  by_cases h0 : 0 ≤ k
  · have g0 : decide (k ≥ 0) = true := decide_eq_true h0
    by_cases h1 : k < (n : Int)
    · have g1 : decide (k < (n : Int)) = true := decide_eq_true h1
      have e : inB n k = true := by unfold inB; rw [decide_eq_true h0, decide_eq_true h1]; rfl
      have E := Lib.hid e
      clear e
      go_enter Tryd.func44, Tryd.ntmps44
      go_wp2_with fail
      go_ret
      exact ⟨by rw [E.out]; try rfl, rfl⟩
    · have g1 : decide (k < (n : Int)) = false := decide_eq_false h1
      have e : inB n k = false := by unfold inB; rw [decide_eq_false h1]; simp
      have E := Lib.hid e
      have h1b : (n : Int) ≤ k := by omega
      clear e h1
      go_enter Tryd.func44, Tryd.ntmps44
      go_wp2_with fail
      go_ret
      exact ⟨by rw [E.out]; try rfl, rfl⟩
  · have g0 : decide (k ≥ 0) = false := decide_eq_false h0
    have e : inB n k = false := by unfold inB; rw [decide_eq_false h0]; simp
    have E := Lib.hid e
    have h0b : k < 0 := by omega
    clear e h0
    go_enter Tryd.func44, Tryd.ntmps44
    go_wp2_with fail
    go_ret
    exact ⟨by rw [E.out]; try rfl, rfl⟩
abbrev fIn (P : Nat) : Value := .func (.func 44) #[] #[.pointer (some ⟨P, 0, none⟩)]
abbrev fNin (Q : Nat) : Value := .func (.func 46) #[] #[.pointer (some ⟨Q, 0, none⟩)]
theorem nin_any (k : Int) (P Q n c : Nat) (A : Option Addr) (w : World) (h : w.cell? ⟨P, 0, none⟩ = some (.slice A n c)) (hq : w.cell? ⟨Q, 0, none⟩ = some (fIn P)) :
    Calls Tryd.prog 46 #[.int .i64 k, .pointer (some ⟨Q, 0, none⟩)] w fun e w' => e = .returned (.bool (!inB n k)) ∧ w = w' := by
  have hin := in_any k P n c A w h
  have HI := Lib.hid hin
  clear hin h
  generalize inB n k = b at *
  go_enter Tryd.func46, Tryd.ntmps46
  go_wp2_with fail
  refine HI.out.mono ?_
  rintro e w' ⟨rfl, rfl⟩
  cases b
  all_goals
    go_wp2_with fail
    go_ret
    exact ⟨by try rfl, rfl⟩
theorem idx_any (l : List Int) (A3 : Option Addr) (c3 P Q n c : Nat) (A : Option Addr) (w : World) (hC : Kd.C (Kd.int .i64) w A3 l.length l) (hl : l.length * 8 ≤ 140737488355328) (h : w.cell? ⟨P, 0, none⟩ = some (.slice A n c)) (hq : w.cell? ⟨Q, 0, none⟩ = some (fIn P)) :
    Calls Tryd.prog 52 #[.slice A3 l.length c3, fNin Q] w fun e w' => ∃ r : Int, e = .returned (.int .i64 r) ∧ (decide (r ≥ 0) = !l.all (inB n)) ∧ w = w' := by
  have hn := fun k => nin_any k P Q n c A w h hq
  have HNn := Lib.hid hn
  have HC := Lib.hid hC
  clear hn h hq hC
  obtain ⟨m, hm⟩ : ∃ m, l.length = m := ⟨_, rfl⟩
  have HM := Lib.hid hm
  rw [hm] at hl
  rw [hm]
  clear hm
  go_enter Tryd.func52, Tryd.ntmps52
  go_wp2_with fail
  go_loop [8] (fun v8 => ∃ i : Nat, v8 = .int .i64 i ∧ i ≤ m ∧ Hid (∀ k, k < i → inB n (l.getD k 0) = true)) (fun v8 => m - (intOf v8).toNat)
  case atStart => exact ⟨0, rfl, Nat.zero_le _, Lib.hid (fun k hk => absurd hk (Nat.not_lt_zero _))⟩
  case round =>
    obtain ⟨i, rfl, hi, HI⟩ := hrel
    by_cases hlt : i < m
    · obtain ⟨b6, o6, hA6, g6, -⟩ := ints_at HC.out i (by rw [HM.out]; exact hlt)
      subst hA6
      obtain ⟨a, ha⟩ : ∃ a, l.getD i 0 = a := ⟨_, rfl⟩
      rw [ha] at g6
      have HA := Lib.hid ha
      have HLt := Lib.hid hlt
      have hna := HNn.out a
      obtain ⟨bb, hbb⟩ : ∃ bb, inB n a = bb := ⟨_, rfl⟩
      rw [hbb] at hna
      have HNa := Lib.hid hna
      have HBb := Lib.hid hbb
      clear ha hna hbb
      cases bb
      · go_wp2_with (first | fail | (refine HNa.out.mono ?_; rintro e w' ⟨rfl, rfl⟩))
        go_ret
        refine ⟨(i : Int), by try rfl, ?_, rfl⟩
        rw [decide_eq_true (by omega)]
        have : l.all (inB n) = false := by
          cases e : l.all (inB n)
          · rfl
          · have := (all_getD l (0 : Int) (inB n)).1 e i (by rw [HM.out]; exact HLt.out)
            rw [HA.out, HBb.out] at this
            cases this
        rw [this]
        rfl
      · go_wp2_with (first | fail | (refine HNa.out.mono ?_; rintro e w' ⟨rfl, rfl⟩))
        refine ⟨⟨i + 1, by simp, HLt.out, Lib.hid (fun k hk => ?_)⟩, by have := HLt.out; simp [intOf]; omega⟩
        by_cases e : k = i
        · subst e; rw [HA.out]; exact HBb.out
        · exact HI.out k (by omega)
    · obtain rfl : i = m := by omega
      go_wp2_with fail
      go_ret
      refine ⟨-1, by try rfl, ?_, rfl⟩
      have : l.all (inB n) = true := (all_getD l (0 : Int) (inB n)).2 (fun k hk => HI.out k (by rw [← HM.out]; exact hk))
      rw [this]
      rfl
theorem cf_any (l : List Int) (A3 : Option Addr) (c3 P Q n c : Nat) (A : Option Addr) (w : World) (hC : Kd.C (Kd.int .i64) w A3 l.length l) (hl : l.length * 8 ≤ 140737488355328) (h : w.cell? ⟨P, 0, none⟩ = some (.slice A n c)) (hq : w.cell? ⟨Q, 0, none⟩ = some (fIn P)) :
    Calls Tryd.prog 45 #[.slice A3 l.length c3, fNin Q] w fun e w' => e = .returned (.bool (!l.all (inB n))) ∧ w = w' := by
  have hi := idx_any l A3 c3 P Q n c A w hC hl h hq
  have HI := Lib.hid hi
  clear hi hC h hq
  obtain ⟨bb, hbb⟩ : ∃ bb, l.all (inB n) = bb := ⟨_, rfl⟩
  rw [hbb] at HI
  rw [hbb]
  clear hbb
  go_enter Tryd.func45, Tryd.ntmps45
  go_wp2_with fail
  refine HI.out.mono ?_
  rintro e w' ⟨r, rfl, hr, rfl⟩
  cases bb
  · have hr2 : decide (r ≥ 0) = true := hr
    have hr3 : 0 ≤ r := of_decide_eq_true hr2
    clear hr
    go_wp2_with fail
    go_ret
    exact ⟨by try rfl, rfl⟩
  · have hr2 : decide (r ≥ 0) = false := hr
    have hr3 : r < 0 := by have := of_decide_eq_false hr2; omega
    clear hr
    go_wp2_with fail
    go_ret
    exact ⟨by try rfl, rfl⟩
end Go.Proofs.YtonnmkhmhndalaaDoor
namespace Go.Proofs.YtonnmkhmhndalaaDoor
set_option linter.unusedVariables false
set_option linter.unusedSimpArgs false
open Go.RowKit Go.Maps

theorem keyed3 : Keyed Tryd.prog 3 := int_keyed Tryd.underlying3
theorem wf_nat (k : Nat) (h : k ≤ 9223372036854775807) : (Lit.int .i64 (k : Int)).wf = true := WalkArith.wf_i64 (by omega)
theorem key_nat (k : Nat) (h : k ≤ 9223372036854775807) : keyOf Tryd.prog 3 (.int .i64 (k : Int)) = some (.int .i64 (k : Int)) := keyOf_int_mk Tryd.underlying3 (wf_nat k h)
theorem zero3 (w : World) : (zeroValue 3).run Tryd.prog w = .ok (.int .i64 0) w := by kernel_rfl
theorem keylit (a : Int) : WideAt.IsKeyLit (.int .i64 a) := trivial
/-- a map from numbers to numbers: at most N entries, what stands at each number -/
def MI (W : World) (b N : Nat) (f : Nat → Option Int) : Prop :=
  ∃ D : DataW Unit, W.ownsMap Tryd.prog 3 (plainElem Tryd.prog 3) b N D ∧ ∀ k : Nat, k ≤ 9223372036854775807 → Maps.has D (.int .i64 (k : Int)) = (f k).isSome ∧ D.atKey (.int .i64 (k : Int)) (.lit (.int .i64 0)) = .lit (.int .i64 ((f k).getD 0))
theorem MI.made (W : World) : MI (W.alloc (.map #[] 0)) W.heap.size 0 (fun _ => none) :=
  ⟨.map [], World.ownsMap_made _ _ _ _, fun k _ => ⟨rfl, rfl⟩⟩
theorem MI.kept {W W' : World} {b N : Nat} {f : Nat → Option Int} (h : MI W b N f) {row : Option Nat} (hg : W.grownBy W' row) (hne : some b ≠ row) : MI W' b N f := by
  obtain ⟨D, h1, h2⟩ := h
  exact ⟨D, h1.kept hg hne, h2⟩
theorem MI.below {W W' : World} {b N : Nat} {f : Nat → Option Int} (h : MI W b N f) (hb : Below W.heap.size W W') : MI W' b N f := h.kept (row := none) (Go.Proofs.YtonnmkhmhndalaaDoorW.PrintWords.grown_of_below hb none) (by simp)
theorem MI.lt {W : World} {b N : Nat} {f : Nat → Option Int} (h : MI W b N f) : b < W.heap.size := by
  obtain ⟨D, h1, h2⟩ := h
  exact h1.lt
theorem MI.set {W : World} {b N : Nat} {f : Nat → Option Int} (h : MI W b N f) {a : Addr} (ha : b ≠ a.block) (u : Value) : MI (W.setCell a u) b N f := by
  obtain ⟨D, h1, h2⟩ := h
  exact ⟨D, h1.setCell ha u, h2⟩
theorem MI.look {W : World} {b N : Nat} {f : Nat → Option Int} (h : MI W b N f) (k : Nat) (hk : k ≤ 9223372036854775807) : (Instr.lookup 64 (.map (some b)) (.int .i64 (k : Int)) false).run Tryd.prog W = .ok (.int .i64 ((f k).getD 0)) W := by
  obtain ⟨D, h1, h2⟩ := h
  obtain ⟨c, hrun, hat, -⟩ := h1.lookup_int keyed3 Tryd.underlying64 Tryd.underlying3 (zero3 _) (key_nat k hk)
  have := (h2 k hk).2
  rw [hat] at this
  have e := (Lit.int.inj (DataW.lit.inj this)).2
  rw [e] at hrun
  exact hrun
theorem MI.look_ok {W : World} {b N : Nat} {f : Nat → Option Int} (h : MI W b N f) (k : Nat) (hk : k ≤ 9223372036854775807) : (Instr.lookup 64 (.map (some b)) (.int .i64 (k : Int)) true).run Tryd.prog W = .ok (.tuple #[.int .i64 ((f k).getD 0), .bool (f k).isSome]) W := by
  obtain ⟨D, h1, h2⟩ := h
  obtain ⟨v, ps, hrun, hv⟩ := h1.look_ok keyed3 Tryd.underlying64 (zero3 _) (plainElem_int Tryd.underlying3 (by decide)) (key_nat k hk)
  rw [(h2 k hk).2] at hv
  obtain ⟨c, rfl, hc, -⟩ := plainElem_int_inv Tryd.underlying3 hv
  simp only [Prod.mk.injEq] at hc
  have := hc.1
  have e := (Lit.int.inj (DataW.lit.inj this)).2
  rw [← e, (h2 k hk).1] at hrun
  exact hrun
theorem MI.store {W : World} {b N : Nat} {f : Nat → Option Int} (h : MI W b N f) (k : Nat) (hk : k ≤ 9223372036854775807) (v : Int) (hv : (Lit.int .i64 v).wf = true) (hN : N < 9223372036854775807) :
    ∃ W', (Instr.mapUpdate 64 (.map (some b)) (.int .i64 (k : Int)) (.int .i64 v)).run Tryd.prog W = .ok () W' ∧ MI W' b (N + 1) (upd f k (some v)) ∧ W.grownBy W' (some b) := by
  obtain ⟨D, h1, h2⟩ := h
  obtain ⟨W', hrun, r1, r2⟩ := h1.update keyed3 Tryd.underlying64 (by unfold maxLen; omega) (key_nat k hk) (plainElem_int Tryd.underlying3 hv)
  refine ⟨W', hrun, ⟨_, r1, fun j hj => ?_⟩, r2⟩
  by_cases e : j = k
  · subst e
    rw [upd_same]
    exact ⟨has_put_same h1.isMap (keylit _) _, atKey_put_same h1.isMap (keylit _) _ _⟩
  · rw [upd_ne _ _ e]
    have hne : (Lit.int .i64 (j : Int)) ≠ .int .i64 (k : Int) := fun h => by injection h with _ h; omega
    exact ⟨(has_put_other hne _).trans (h2 j hj).1, (atKey_put_other hne _ _).trans (h2 j hj).2⟩

/-- a set of numbers: which are in it, how many -/
def MB (W : World) (b N : Nat) (f : Nat → Bool) (sz : Nat) : Prop :=
  ∃ D : DataW Unit, W.ownsMap Tryd.prog 3 (plainElem Tryd.prog 4) b N D ∧ Maps.size D = sz ∧ ∀ k : Nat, k ≤ 9223372036854775807 → Maps.has D (.int .i64 (k : Int)) = f k
theorem MB.made (W : World) : MB (W.alloc (.map #[] 0)) W.heap.size 0 (fun _ => false) 0 :=
  ⟨.map [], World.ownsMap_made _ _ _ _, rfl, fun k _ => rfl⟩
theorem MB.kept {W W' : World} {b N sz : Nat} {f : Nat → Bool} (h : MB W b N f sz) {row : Option Nat} (hg : W.grownBy W' row) (hne : some b ≠ row) : MB W' b N f sz := by
  obtain ⟨D, h1, h2, h3⟩ := h
  exact ⟨D, h1.kept hg hne, h2, h3⟩
theorem MB.below {W W' : World} {b N sz : Nat} {f : Nat → Bool} (h : MB W b N f sz) (hb : Below W.heap.size W W') : MB W' b N f sz := h.kept (row := none) (Go.Proofs.YtonnmkhmhndalaaDoorW.PrintWords.grown_of_below hb none) (by simp)
theorem MB.lt {W : World} {b N sz : Nat} {f : Nat → Bool} (h : MB W b N f sz) : b < W.heap.size := by
  obtain ⟨D, h1, h2⟩ := h
  exact h1.lt
theorem MB.len {W : World} {b N sz : Nat} {f : Nat → Bool} (h : MB W b N f sz) (ty : TypeId) : (Builtin.len_ #[81] ty #[.map (some b)]).run Tryd.prog W = .ok (.int .i64 (sz : Int)) W := by
  obtain ⟨D, h1, h2, h3⟩ := h
  rw [h1.len Tryd.underlying81 ty, h2]
theorem MB.store {W : World} {b N sz : Nat} {f : Nat → Bool} (h : MB W b N f sz) (k : Nat) (hk : k ≤ 9223372036854775807) (hN : N < 9223372036854775807) :
    ∃ W', (Instr.mapUpdate 81 (.map (some b)) (.int .i64 (k : Int)) (.bool true)).run Tryd.prog W = .ok () W' ∧ MB W' b (N + 1) (upd f k true) (if f k then sz else sz + 1) ∧ W.grownBy W' (some b) := by
  obtain ⟨D, h1, h2, h3⟩ := h
  obtain ⟨W', hrun, r1, r2⟩ := h1.update keyed3 Tryd.underlying81 (by unfold maxLen; omega) (key_nat k hk) (plainElem_bool Tryd.underlying4 true)
  refine ⟨W', hrun, ⟨_, r1, ?_, fun j hj => ?_⟩, r2⟩
  · rw [size_put (h1.tidy keyed3), h3 k hk, h2]
  · by_cases e : j = k
    · subst e
      rw [upd_same]
      exact has_put_same h1.isMap (keylit _) _
    · rw [upd_ne _ _ e]
      have hne : (Lit.int .i64 (j : Int)) ≠ .int .i64 (k : Int) := fun h => by injection h with _ h; omega
      exact (has_put_other hne _).trans (h3 j hj)
end Go.Proofs.YtonnmkhmhndalaaDoor
