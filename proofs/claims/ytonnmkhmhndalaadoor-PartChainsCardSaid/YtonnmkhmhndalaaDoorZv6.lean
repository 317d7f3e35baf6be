/- Chains of delays, plainly: they may be, and each node by itself is a part. The box of parts, as it grows. PartChains: the statement's own function, walked. -/
import Derived.Test.YtonnmkhmhndalaaDoorZq
import Derived.Test.YtonnmkhmhndalaaDoorZf
section
namespace Go.Proofs.YtonnmkhmhndalaaDoor
set_option linter.unusedVariables false
set_option linter.unusedSimpArgs false
def chL (t : Int) (i : Nat) : List S39 := inN2 :: (List.range i).map (fun j : Nat => dlN j t)
theorem chL_len (t : Int) (i : Nat) : (chL t i).length = i + 1 := by unfold chL; rw [List.length_cons, List.length_map, List.length_range]
theorem chL_succ (t : Int) (i : Nat) : chL t (i + 1) = chL t i ++ [dlN i t] := by
  unfold chL
  rw [List.range_succ, List.map_append]
  rfl
theorem chL_zero (t : Int) (i : Nat) : (chL t i).getD 0 z39 = inN2 := rfl
theorem chL_at (t : Int) (i j : Nat) (h : j < i) : (chL t i).getD (j + 1) z39 = dlN j t := by
  unfold chL
  rw [List.getD_cons_succ, List.getD_eq_getElem?_getD, List.getElem?_map, List.getElem?_range h]
  rfl
theorem chL_mem {t : Int} {i : Nat} {s : S39} (h : s ∈ chL t i) : s.f4.size ≤ 4 ∧ s.f3.length ≤ 3 := by
  unfold chL at h
  rcases List.mem_cons.1 h with rfl | h
  · exact ⟨by decide, by decide⟩
  · obtain ⟨j, -, rfl⟩ := List.mem_map.1 h
    exact ⟨Nat.zero_le _, by show 1 ≤ 3; decide⟩
def chN (t : Int) (n : Nat) : NL := ⟨chL t n, [0], 1⟩
theorem ch_way {n i : Nat} (h : i < n + 1) : i = 0 ∨ ∃ j, j < n ∧ i = j + 1 := by
  rcases Nat.eq_zero_or_pos i with h0 | h0
  · exact Or.inl h0
  · exact Or.inr ⟨i - 1, by omega, by omega⟩
theorem ch_f2 (t : Int) (n i : Nat) (h : i < n + 1) : ((chL t n).getD i z39).f2 = 1 := by
  rcases ch_way h with rfl | ⟨j, hj, rfl⟩
  · rfl
  · rw [chL_at t n j hj]; rfl
theorem ch_may (t : Int) (n : Nat) (hn : n ≤ 4000) (h1 : 1 ≤ t) (h2 : t ≤ 1048576) : MayP (chN t n) := by
  have hl : (chN t n).nd.length = n + 1 := chL_len t n
  have hA : ∀ i, nAt (chN t n) i = (chL t n).getD i z39 := fun i => rfl
  refine ⟨by rw [hl]; omega, rfl, fun i hi => ?_, fun i hi => ?_, fun i hi => ?_, fun i hi => ?_, fun i hi => ?_⟩
  · rw [hl] at hi ⊢
    rw [hA]
    rcases ch_way hi with rfl | ⟨j, hj, rfl⟩
    · rfl
    · rw [chL_at t n j hj]
      unfold wideB
      have e : (dlN j t).f3.all (inB (n + 1)) = true := by
        show ([((j : Nat) : Int)].all (inB (n + 1))) = true
        rw [List.all_cons, List.all_nil, Bool.and_true]
        unfold inB
        rw [decide_eq_true (by omega : (0 : Int) ≤ (j : Int)), decide_eq_true (by omega : (j : Int) < ((n + 1 : Nat) : Int))]
        rfl
      rw [e]; rfl
  · have hi' : i < 1 := hi
    obtain rfl : i = 0 := by omega
    rw [hl]
    show inB (n + 1) 0 = true
    unfold inB
    rw [decide_eq_true (by omega : (0 : Int) ≤ 0), decide_eq_true (by omega : (0 : Int) < ((n + 1 : Nat) : Int))]
    rfl
  · rw [hl] at hi
    rw [hA]
    rcases ch_way hi with rfl | ⟨j, hj, rfl⟩
    · rfl
    · rw [chL_at t n j hj]
      have e : wsOf (chN t n).nd (dlN j t) = [1] := by
        show [wAt (chL t n) ((j : Nat) : Int)] = [1]
        unfold wAt
        rw [Int.toNat_natCast, ch_f2 t n j (by omega)]
      rw [e]
      show (decide (([1] : List Int).length = 1) && (decide (([1] : List Int).getD 0 0 = 1) && (decide (1 ≤ t) && decide (t ≤ 1048576)))) = true
      rw [decide_eq_true h1, decide_eq_true h2]
      rfl
  · rw [hl] at hi
    rw [hA]
    rcases ch_way hi with rfl | ⟨j, hj, rfl⟩
    · rw [chL_zero]; simp [zeroB, inN2]
    · rw [chL_at t n j hj]; simp [zeroB, dlN]
  · rw [hl] at hi
    rw [hA]
    rcases ch_way hi with rfl | ⟨j, hj, rfl⟩
    · rfl
    · rw [chL_at t n j hj]; rfl
theorem ch_low (t : Int) (n : Nat) : ∀ u, u < (chN t n).nd.length → ∀ x ∈ hs (chN t n).nd u, x < u := by
  intro u hu x hx
  rw [show (chN t n).nd.length = n + 1 from chL_len t n] at hu
  exfalso
  have : hs (chN t n).nd u = [] := by
    show (hg ((chL t n).getD u z39)).map Int.toNat = []
    rcases ch_way hu with rfl | ⟨j, hj, rfl⟩
    · rfl
    · rw [chL_at t n j hj]; rfl
  rw [this] at hx
  cases hx
def chO (n i : Nat) : List Int := (List.range i).map (fun j : Nat => (n : Int) - (j : Int))
def chR (t : Int) (n i : Nat) : List Int := (List.range (n + 1)).map (fun j : Nat => if i = j + 1 then t else 0)
def chA (t : Int) (n i : Nat) : List (List Int) := (List.range i).map (chR t n)
def chP (t : Int) (n : Nat) : PV := ⟨chO n (n + 1), ((n + 1 : Nat) : Int), chA t n (n + 1)⟩
theorem chO_at (n i j : Nat) (h : j < i) : (chO n i).getD j 0 = (n : Int) - (j : Int) := by
  unfold chO
  rw [List.getD_eq_getElem?_getD, List.getElem?_map, List.getElem?_range h]; rfl
theorem chO_len (n i : Nat) : (chO n i).length = i := by unfold chO; rw [List.length_map, List.length_range]
theorem chA_len (t : Int) (n i : Nat) : (chA t n i).length = i := by unfold chA; rw [List.length_map, List.length_range]
theorem chO_succ (n i : Nat) : chO n (i + 1) = chO n i ++ [(n : Int) - (i : Int)] := by unfold chO; rw [List.range_succ, List.map_append]; rfl
theorem chA_succ (t : Int) (n i : Nat) : chA t n (i + 1) = chA t n i ++ [chR t n i] := by unfold chA; rw [List.range_succ, List.map_append]; rfl
theorem chR_len (t : Int) (n i : Nat) : (chR t n i).length = n + 1 := by unfold chR; rw [List.length_map, List.length_range]
theorem chA_at (t : Int) (n i j : Nat) (h : j < i) : (chA t n i).getD j [] = chR t n j := by
  unfold chA
  rw [List.getD_eq_getElem?_getD, List.getElem?_map, List.getElem?_range h]; rfl
theorem chR_at (t : Int) (n i j : Nat) (h : j < n + 1) : (chR t n i).getD j 0 = if i = j + 1 then t else 0 := by
  unfold chR
  rw [List.getD_eq_getElem?_getD, List.getElem?_map, List.getElem?_range h]; rfl
theorem ch_reach (t : Int) (n a b m : Nat) (ha : a ≤ n) (hb : b ≤ n) (hm : m < n + 1) : reachB (chL t n) (chO n (n + 1)) (a : Int) (b : Int) m = true ↔ (a = b + 1 ∧ n - b = m) := by
  unfold reachB
  rw [Bool.and_eq_true, Bool.and_eq_true, Bool.and_eq_true, decide_eq_true_eq, decide_eq_true_eq, decide_eq_true_eq, decide_eq_true_eq, chO_at n (n + 1) m hm]
  rcases ch_way hm with rfl | ⟨j, hj, rfl⟩
  · constructor
    · rintro ⟨h, -⟩
      rw [chL_zero] at h
      exact absurd h (by decide)
    · rintro ⟨h1, h2⟩; omega
  · have e : inAt (chL t n) (j + 1) 0 = j := by
      unfold inAt
      rw [chL_at t n j hj]
      show (((j : Nat) : Int)).toNat = j
      omega
    rw [e, chL_at t n j hj, chO_at n (n + 1) j (by omega)]
    constructor
    · rintro ⟨-, h1, h2, h3⟩; omega
    · rintro ⟨h1, h2⟩
      exact ⟨rfl, by omega, by omega, by omega⟩
theorem ch_ahS (t : Int) (n a b : Nat) (ha : a ≤ n) (hb : b ≤ n) : ∀ m, m ≤ n + 1 → ahS (chL t n) (chO n (n + 1)) (a : Int) (b : Int) m = if a = b + 1 ∧ n - b < m then t else 0
  | 0, _ => by
    rw [if_neg (fun h => absurd h.2 (Nat.not_lt_zero _))]; rfl
  | m + 1, hm => by
    have ih := ch_ahS t n a b ha hb m (by omega)
    have hr := ch_reach t n a b m ha hb (by omega)
    show (if reachB (chL t n) (chO n (n + 1)) (a : Int) (b : Int) m = true ∧ (ahS (chL t n) (chO n (n + 1)) (a : Int) (b : Int) m = 0 ∨ ((chL t n).getD m z39).f7 < ahS (chL t n) (chO n (n + 1)) (a : Int) (b : Int) m) then ((chL t n).getD m z39).f7 else ahS (chL t n) (chO n (n + 1)) (a : Int) (b : Int) m) = _
    rw [ih]
    by_cases h : a = b + 1 ∧ n - b = m
    · rw [if_pos ⟨hr.2 h, Or.inl (if_neg (by omega))⟩, if_pos ⟨h.1, by omega⟩]
      obtain ⟨h1, h2⟩ := h
      obtain ⟨j, rfl⟩ : ∃ j, m = j + 1 := ⟨m - 1, by omega⟩
      rw [chL_at t n j (by omega)]
      rfl
    · rw [if_neg (fun hc => h (hr.1 hc.1))]
      by_cases h1 : a = b + 1 ∧ n - b < m
      · rw [if_pos h1, if_pos ⟨h1.1, by omega⟩]
      · rw [if_neg h1, if_neg (fun hc => h1 ⟨hc.1, by have := hc.2; have h3 : n - b ≠ m := fun e => h ⟨hc.1, e⟩; omega⟩)]
theorem ch_parts (t : Int) (n : Nat) (hn : n < 60) : PMay (chN t n).nd (chP t n) := by
  have hl : (chN t n).nd.length = n + 1 := chL_len t n
  rw [may_check, hl]
  refine ⟨⟨by show (1 : Int) ≤ ((n + 1 : Nat) : Int); omega, by show ((n + 1 : Nat) : Int) ≤ 64; omega, chO_len _ _, by show ((chA t n (n + 1)).length : Int) = ((n + 1 : Nat) : Int); rw [chA_len]⟩, fun i hi => ?_, fun i hi h8 v hv => ?_, fun b hb => ?_, ?_⟩
  · show 0 ≤ (chO n (n + 1)).getD i 0 ∧ (chO n (n + 1)).getD i 0 < ((n + 1 : Nat) : Int)
    rw [chO_at n (n + 1) i hi]; omega
  · exfalso
    rcases ch_way hi with rfl | ⟨j, hj, rfl⟩
    · cases hv
    · exact h8 (by show ((chL t n).getD (j + 1) z39).f0 = 8; rw [chL_at t n j hj]; rfl)
  · have hb' : (b : Int) < ((n + 1 : Nat) : Int) := hb
    refine ⟨n - b, by omega, ?_⟩
    show (chO n (n + 1)).getD (n - b) 0 = (b : Int)
    rw [chO_at n (n + 1) (n - b) (by omega)]; omega
  · show chA t n (n + 1) = ahL (chL t n) (chO n (n + 1)) ((n + 1 : Nat) : Int).toNat
    rw [Int.toNat_natCast, ah_iff _ _ (n + 1) _ (chA_len t n (n + 1))]
    refine ⟨fun i hi => by rw [chA_at t n (n + 1) i hi, chR_len], fun i k hi hk => ?_⟩
    rw [chA_at t n (n + 1) i hi, chR_at t n i k hk, chL_len, ch_ahS t n i k (by omega) (by omega) (n + 1) (Nat.le_refl _)]
    by_cases h : i = k + 1
    · rw [if_pos h, if_pos ⟨h, by omega⟩]
    · rw [if_neg h, if_neg (fun hc => h hc.1)]
end Go.Proofs.YtonnmkhmhndalaaDoor
end
section
namespace Go.Proofs.YtonnmkhmhndalaaDoor
set_option linter.unusedVariables false
set_option linter.unusedSimpArgs false
open Go.RowKit Go.Proofs.YtonnmkhmhndalaaDoorW.PrintWords Go.Proofs.YtonnmkhmhndalaaDoorW.PrintLast Go.Proofs.YtonnmkhmhndalaaDoorW.PrintMore
structure ESt (W : World) (E : Nat) (k : Int) (A : Option Addr) (m c : Nat) (B : Option Addr) (q d : Nat) (os : List Int) (rs : List (List Int)) : Prop where
  k0 : W.cell? ⟨E, 0, none⟩ = some (.slice A m c)
  k1 : W.cell? ⟨E, 1, none⟩ = some (.int .i64 k)
  k2 : W.cell? ⟨E, 2, none⟩ = some (.slice B q d)
  f0 : W.frozen? ⟨E, 0, none⟩ = false
  f1 : W.frozen? ⟨E, 1, none⟩ = false
  f2 : W.frozen? ⟨E, 2, none⟩ = false
  rO : Kd.R (Kd.int .i64) 3 W E (fun b => b ≠ E ∧ some b ≠ (Value.slice B q d).ownBlock) (.slice A m c) os
  rA : Kd.R (Kd.slice 3 (Kd.int .i64)) 23 W E (fun b => b ≠ E ∧ some b ≠ (Value.slice A m c).ownBlock) (.slice B q d) rs
theorem ESt.x {W : World} {E : Nat} {k : Int} {A : Option Addr} {m c : Nat} {B : Option Addr} {q d : Nat} {os : List Int} {rs : List (List Int)} (h : ESt W E k A m c B q d os rs) : E < W.heap.size := World.block_lt_of_cell? W ⟨E, 0, none⟩ h.k0
theorem ESt.below {W W' : World} {E : Nat} {k : Int} {A : Option Addr} {m c : Nat} {B : Option Addr} {q d : Nat} {os : List Int} {rs : List (List Int)} (h : ESt W E k A m c B q d os rs) (hb : Below W.heap.size W W') : ESt W' E k A m c B q d os rs :=
  ⟨(hb.cell (p := ⟨E, 0, none⟩) h.x).trans h.k0, (hb.cell (p := ⟨E, 1, none⟩) h.x).trans h.k1, (hb.cell (p := ⟨E, 2, none⟩) h.x).trans h.k2, (hb.frozen (p := ⟨E, 0, none⟩) h.x).trans h.f0, (hb.frozen (p := ⟨E, 1, none⟩) h.x).trans h.f1, (hb.frozen (p := ⟨E, 2, none⟩) h.x).trans h.f2, Kd.R_below h.rO hb, Kd.R_below h.rA hb⟩
theorem ESt.appO {W w9 : World} {E : Nat} {k : Int} {A : Option Addr} {m c : Nat} {B : Option Addr} {q d : Nat} {os : List Int} {rs : List (List Int)} (h : ESt W E k A m c B q d os rs) {A1 : Option Addr} {m1 c1 : Nat} {os1 : List Int}
    (ho : Kd.R (Kd.int .i64) 3 w9 E (fun b => b ≠ E ∧ some b ≠ (Value.slice B q d).ownBlock) (.slice A1 m1 c1) os1) (hg : W.grownBy w9 (Value.slice A m c).ownBlock) (hat : (Value.slice A1 m1 c1).ownBlock = (Value.slice A m c).ownBlock ∨ ∃ b, (Value.slice A1 m1 c1).ownBlock = some b ∧ W.heap.size ≤ b) :
    ESt (w9.setCell ⟨E, 0, none⟩ (.slice A1 m1 c1)) E k A1 m1 c1 B q d os1 rs := by
  have hE : (Value.slice A m c).ownBlock ≠ some E := fun e => (h.rO.1 E e).1 rfl
  have yL : ∀ j : Nat, w9.cell? ⟨E, j, none⟩ = W.cell? ⟨E, j, none⟩ := fun j => hg.cell_far ⟨E, j, none⟩ h.x hE.symm
  have zL : ∀ j : Nat, w9.frozen? ⟨E, j, none⟩ = W.frozen? ⟨E, j, none⟩ := fun j => hg.frozen_far ⟨E, j, none⟩ h.x hE.symm
  have y0 := (yL 0).trans h.k0
  have y1 := (yL 1).trans h.k1
  have y2 := (yL 2).trans h.k2
  have z0 := (zL 0).trans h.f0
  have z1 := (zL 1).trans h.f1
  have z2 := (zL 2).trans h.f2
  exact ⟨by simp [go_sem, y0], by simp [go_sem, y1], by simp [go_sem, y2], by simp [go_sem, z0], by simp [go_sem, z1], by simp [go_sem, z2], Kd.R_far ho (fun k hk => hk.1) _, Kd.R_far (Kd.R_after h.rA hg hat) (fun k hk => hk.1) _⟩
theorem ESt.appA {W w9 : World} {E : Nat} {k : Int} {A : Option Addr} {m c : Nat} {B : Option Addr} {q d : Nat} {os : List Int} {rs : List (List Int)} (h : ESt W E k A m c B q d os rs) {A1 : Option Addr} {m1 c1 : Nat} {rs1 : List (List Int)}
    (ho : Kd.R (Kd.slice 3 (Kd.int .i64)) 23 w9 E (fun b => b ≠ E ∧ some b ≠ (Value.slice A m c).ownBlock) (.slice A1 m1 c1) rs1) (hg : W.grownBy w9 (Value.slice B q d).ownBlock) (hat : (Value.slice A1 m1 c1).ownBlock = (Value.slice B q d).ownBlock ∨ ∃ b, (Value.slice A1 m1 c1).ownBlock = some b ∧ W.heap.size ≤ b) :
    ESt (w9.setCell ⟨E, 2, none⟩ (.slice A1 m1 c1)) E k A m c A1 m1 c1 os rs1 := by
  have hE : (Value.slice B q d).ownBlock ≠ some E := fun e => (h.rA.1 E e).1 rfl
  have yL : ∀ j : Nat, w9.cell? ⟨E, j, none⟩ = W.cell? ⟨E, j, none⟩ := fun j => hg.cell_far ⟨E, j, none⟩ h.x hE.symm
  have zL : ∀ j : Nat, w9.frozen? ⟨E, j, none⟩ = W.frozen? ⟨E, j, none⟩ := fun j => hg.frozen_far ⟨E, j, none⟩ h.x hE.symm
  have y0 := (yL 0).trans h.k0
  have y1 := (yL 1).trans h.k1
  have y2 := (yL 2).trans h.k2
  have z0 := (zL 0).trans h.f0
  have z1 := (zL 1).trans h.f1
  have z2 := (zL 2).trans h.f2
  exact ⟨by simp [go_sem, y0], by simp [go_sem, y1], by simp [go_sem, y2], by simp [go_sem, z0], by simp [go_sem, z1], by simp [go_sem, z2], Kd.R_far (Kd.R_after h.rO hg hat) (fun k hk => hk.1) _, Kd.R_far ho (fun k hk => hk.1) _⟩
theorem ESt.farO {W w9 : World} {E : Nat} {k : Int} {A : Option Addr} {m c : Nat} {B : Option Addr} {q d : Nat} {os : List Int} {rs : List (List Int)} (h : ESt W E k A m c B q d os rs) (hg : W.grownBy w9 (Value.slice A m c).ownBlock) : w9.cell? ⟨E, 0, none⟩ = some (.slice A m c) ∧ w9.frozen? ⟨E, 0, none⟩ = false := by
  have hE : (Value.slice A m c).ownBlock ≠ some E := fun e => (h.rO.1 E e).1 rfl
  exact ⟨(hg.cell_far ⟨E, 0, none⟩ h.x hE.symm).trans h.k0, (hg.frozen_far ⟨E, 0, none⟩ h.x hE.symm).trans h.f0⟩
theorem ESt.farA {W w9 : World} {E : Nat} {k : Int} {A : Option Addr} {m c : Nat} {B : Option Addr} {q d : Nat} {os : List Int} {rs : List (List Int)} (h : ESt W E k A m c B q d os rs) (hg : W.grownBy w9 (Value.slice B q d).ownBlock) : w9.cell? ⟨E, 2, none⟩ = some (.slice B q d) ∧ w9.frozen? ⟨E, 2, none⟩ = false := by
  have hE : (Value.slice B q d).ownBlock ≠ some E := fun e => (h.rA.1 E e).1 rfl
  exact ⟨(hg.cell_far ⟨E, 2, none⟩ h.x hE.symm).trans h.k2, (hg.frozen_far ⟨E, 2, none⟩ h.x hE.symm).trans h.f2⟩
theorem made_row (n : Nat) (hn : n ≤ 1000000) (W : World) (base : Nat) (hb : base ≤ W.heap.size) :
    ∃ W', Sem.run Tryd.prog (Instr.makeSlice 23 (.int .i64 n) (.int .i64 n)) W = Result.ok (.slice (some ⟨W.heap.size, 0, none⟩) n n) W' ∧ Below W.heap.size W W' ∧ W'.heap.size = W.heap.size + 1 ∧
      (∀ j : Nat, j < n → W'.cell? ⟨W.heap.size, j, none⟩ = some (.int .i64 0) ∧ W'.frozen? ⟨W.heap.size, j, none⟩ = false) ∧
      Kd.R (Kd.int .i64) 3 W' base (fun b => W.heap.size ≤ b) (.slice (some ⟨W.heap.size, 0, none⟩) n n) (List.replicate n 0) := by
  have h := own_made W base 3 .i64 n hb (by omega)
  obtain ⟨W', hW'⟩ : ∃ W', W.alloc (Obj.cells (madeCells #[Value.int .i64 0] n) 3) = W' := ⟨_, rfl⟩
  have hm := print_make (P := Tryd.prog) 23 3 .i64 8 Tryd.underlying23 info3 (by decide) n (by omega) W
  rw [hW'] at hm h
  have hR : Kd.R (Kd.int .i64) 3 W' base (fun b => W.heap.size ≤ b) (.slice (some ⟨W.heap.size, 0, none⟩) n n) (List.replicate n 0) := by
    refine Kd.R_of_own (by rw [List.length_replicate]; exact h) (fun k hk => ?_)
    have : W.heap.size = k := by injection hk
    omega
  refine ⟨W', hm, by rw [← hW']; exact below_alloc (Below.refl _ _) _, by rw [← hW']; simp, fun j hj => ?_, hR⟩
  have h1 := Kd.R_celln (0 : Int) hR (j : Int) (by omega) (by omega)
  rw [Int.toNat_natCast] at h1
  refine ⟨h1.1.trans ?_, h1.2⟩
  have : rdOf (0 : Int) (List.replicate n 0) (j : Int) = 0 := by
    unfold rdOf
    rw [Int.toNat_natCast, List.getD_eq_getElem?_getD, List.getElem?_replicate, if_pos hj]
    rfl
  rw [this]
theorem chR_zero (t : Int) (n : Nat) : List.replicate (n + 1) 0 = chR t n 0 := by
  unfold chR
  apply List.ext_getElem?
  intro j
  rw [List.getElem?_map, List.getElem?_replicate]
  by_cases h : j < n + 1
  · rw [if_pos h, List.getElem?_range h]
    show some (0 : Int) = some (if 0 = j + 1 then t else 0)
    rw [if_neg (by omega)]
  · rw [if_neg h, List.getElem?_eq_none (by rw [List.length_range]; omega)]; rfl
theorem chR_put (t : Int) (n i : Nat) (h : i < n + 1) : (List.replicate (n + 1) (0 : Int)).set i t = chR t n (i + 1) := by
  unfold chR
  apply List.ext_getElem?
  intro j
  rw [List.getElem?_map, List.getElem?_set, List.length_replicate, List.getElem?_replicate]
  by_cases hj : j < n + 1
  · rw [List.getElem?_range hj, if_pos hj]
    by_cases e : i = j
    · subst e
      rw [if_pos rfl, if_pos hj]
      show some t = some (if i + 1 = i + 1 then t else 0)
      rw [if_pos rfl]
    · rw [if_neg e]
      show some (0 : Int) = some (if i + 1 = j + 1 then t else 0)
      rw [if_neg (by omega)]
  · rw [List.getElem?_eq_none (by rw [List.length_range]; omega), if_neg (show ¬ j < n + 1 from hj), if_neg (by omega)]; rfl
theorem ESt.pin {W : World} {E : Nat} {k : Int} {A : Option Addr} {m c : Nat} {B : Option Addr} {q d : Nat} {p : PV} (h : ESt W E k A m c B q d p.of p.ah) : PIn W p A c B d ∧ m = p.of.length ∧ q = p.ah.length := by
  have h1 := Kd.R_reads' h.rO
  have h2 := Kd.R_reads' h.rA
  exact ⟨⟨h1.2.2, h2.2.2, by omega, by omega⟩, h1.1, h2.1⟩
end Go.Proofs.YtonnmkhmhndalaaDoor
end
section
namespace Go.Proofs.YtonnmkhmhndalaaDoor
set_option linter.unusedVariables false
set_option linter.unusedSimpArgs false
open Go.RowKit Go.Proofs.YtonnmkhmhndalaaDoorW.PrintWords Go.Proofs.YtonnmkhmhndalaaDoorW.PrintLast Go.Proofs.YtonnmkhmhndalaaDoorW.PrintMore
theorem R_fresh {α : Type} (d : Kd α) (W : World) (base e : Nat) {xs : List α} {inner : List Value} {ok okp : Nat → Prop} (hrep : Reps (d.M W base okp) d.sz xs inner) (hok : ∀ k, okp k → ok k) (hfresh : ok W.heap.size) (hbase : base ≤ W.heap.size) (hm : xs.length ≤ 9223372036854775807) :
    d.R e (W.alloc (.cells inner.toArray e)) base ok (.slice (some ⟨W.heap.size, 0, none⟩) xs.length xs.length) xs := by
  refine ⟨fun k hk => ?_, inner, ?_, ?_⟩
  · have : W.heap.size = k := by simpa [Value.ownBlock] using hk
    subst this
    exact hfresh
  · have h2 := World.ownsRow_lit (base := base) (e := e) (size := d.sz) W inner.toArray xs.length hbase (by simpa [maxLen] using hm) (by simpa using hrep.1)
    simpa using h2
  · refine hrep.imp_ (fun p c hp => d.M_mono (fun k hk => ⟨hok k hk.1, fun he => ?_⟩) (Kd.M_below (d.M_bound hp) (below_alloc (Below.refl _ _) _)))
    have h3 : k = W.heap.size := by simpa [Value.ownBlock] using he
    have := hk.2.2.1
    omega
theorem R_int1 (W : World) (base : Nat) (k : Int) {ok : Nat → Prop} (hf : ok W.heap.size) (hb : base ≤ W.heap.size) : Kd.R (Kd.int .i64) 3 (W.alloc (.cells #[.int .i64 k] 3)) base ok (.slice (some ⟨W.heap.size, 0, none⟩) 1 1) [k] :=
  R_fresh (Kd.int .i64) W base 3 (xs := [k]) (inner := [.int .i64 k]) (okp := fun _ => False) (Reps.one (show Kd.M (Kd.int .i64) _ _ _ k [.int .i64 k] from rfl) (Reps.none _ _)) (fun _ h => h.elim) hf hb (by show 1 ≤ _; decide)
theorem R_node1 (W : World) (base : Nat) {ok : Nat → Prop} (hf : ok W.heap.size) (hb : base ≤ W.heap.size) : Kd.R k39 39 (W.alloc (.cells #[.int .i64 2, .int .i64 0, .int .i64 1, .slice none 0 0, .string ⟨#[]⟩, .int .i64 0, .int .i64 0, .int .i64 0] 39)) base ok (.slice (some ⟨W.heap.size, 0, none⟩) 1 1) [inN2] :=
  R_fresh k39 W base 39 (xs := [inN2]) (inner := [.int .i64 2, .int .i64 0, .int .i64 1, .slice none 0 0, .string ⟨#[]⟩, .int .i64 0, .int .i64 0, .int .i64 0]) (okp := fun _ => False) (Reps.c8 (k39_mkM W base _ inN2 (Kd.R_nil _ _ _ _ _)) (Reps.none _ _)) (fun _ h => h.elim) hf hb (by decide)
set_option maxRecDepth 100000 in
set_option maxHeartbeats 8000000 in
theorem partChains_any (many time parts : Int) (w : World) (h0wf : (Lit.int .i64 many).wf = true) (h1wf : (Lit.int .i64 time).wf = true) (h2wf : (Lit.int .i64 parts).wf = true) :
    Calls Tryd.prog 11 #[.int .i64 many, .int .i64 time, .int .i64 parts] w fun e w' => e = .returned (.bool true) ∧ Below w.heap.size w w' := by
  clear h0wf h1wf h2wf
  have haw := awake13_any
  have HAw := Lib.hid haw
  obtain ⟨q0, hq0, hq02⟩ := mask_lt many 63 6 (by decide) (by decide)
  obtain ⟨q1, hq1, hq12⟩ := mask_lt parts 63 6 (by decide) (by decide)
  obtain ⟨q2, hq2, hq22⟩ := mask_lt time 255 8 (by decide) (by decide)
  have iq0 : bits .and .i64 many 63 = (q0 : Int) := hq0
  have iq1 : bits .and .i64 parts 63 = (q1 : Int) := hq1
  have iq2 : bits .and .i64 time 255 = (q2 : Int) := hq2
  obtain ⟨n, hn⟩ : ∃ n, q0 % 60 = n := ⟨_, rfl⟩
  have hn60 : n < 60 := by omega
  have en1 : Int.tmod (q0 : Int) 60 = (n : Int) := by rw [← hn]; rfl
  have en2 : (q0 : Int) % 60 = (n : Int) := by rw [← hn]; rfl
  obtain ⟨k, hk⟩ : ∃ k : Int, 1 + (q1 : Int) = k := ⟨_, rfl⟩
  obtain ⟨t, ht⟩ : ∃ t : Int, 1 + (q2 : Int) = t := ⟨_, rfl⟩
  have HK := Lib.hid (show 1 ≤ k ∧ k ≤ 64 by omega)
  have HT := Lib.hid (show 1 ≤ t ∧ t ≤ 256 by omega)
  have HN := Lib.hid hn60
  have HI2 := Lib.hid iq2
  have HTq := Lib.hid ht
  have hq2b : (q2 : Int) < 256 := by omega
  clear haw hq0 hq1 hq2 hn hq02 hq22
  go_enter Tryd.func11, Tryd.ntmps11
  go_upto_region 2 with fail
  clear iq0 iq1 en1 en2
  try rw [hk]
  clear hk hq12
  go_upto_region 4 with fail
  obtain ⟨W2, hW2⟩ : ∃ W, (((w.alloc (Obj.cells #[.int .i64 2, .int .i64 0, .int .i64 1, .slice none 0 0, .string ⟨#[]⟩, .int .i64 0, .int .i64 0, .int .i64 0] 39)).alloc (Obj.cells #[.int .i64 0] 3)).alloc (Obj.cells #[.slice (some ⟨w.heap.size, 0, none⟩) 1 1, .slice (some ⟨w.heap.size + 1, 0, none⟩) 1 1, .int .i64 1] 25)) = W := ⟨_, rfl⟩
  try rw [hW2]
  obtain ⟨base, hbase⟩ : ∃ b, w.heap.size = b := ⟨_, rfl⟩
  obtain ⟨L, hL⟩ : ∃ b, w.heap.size + 1 + 1 = b := ⟨_, rfl⟩
  obtain ⟨Gt, hGt⟩ : ∃ b, w.heap.size + 1 = b := ⟨_, rfl⟩
  have hb2 : Below w.heap.size w W2 := by
    rw [← hW2]
    exact ((below_alloc (Below.refl _ _) _).alloc (by simp) _).alloc (by simp; omega) _
  have hst : LState W2 L base (fun b => b ≠ Gt) (chL t 0) (some ⟨base, 0, none⟩) 1 (some ⟨Gt, 0, none⟩) 1 1 1 := by
    have hR := R_node1 w base (ok := fun b => b ≠ L ∧ b ≠ Gt) ⟨by omega, by omega⟩ (by omega)
    rw [hbase] at hR
    refine ⟨?_, ?_, ?_, ?_, ?_, ?_, ?_, by omega⟩
    · rw [← hW2, ← hL, ← hbase]; simp [go_sem, chL]
    · rw [← hW2, ← hL, ← hGt]; simp [go_sem]
    · rw [← hW2, ← hL]; simp [go_sem]
    · rw [← hW2, ← hL]; simp [go_sem]
    · rw [← hW2, ← hL]; simp [go_sem]
    · rw [← hW2, ← hL]; simp [go_sem]
    · rw [← hW2]
      exact Kd.R_alloc (Kd.R_alloc hR _) _
  have hnt : W2.cell? ⟨Gt, 0, none⟩ = some (.int .i64 0) := by rw [← hW2, ← hGt]; simp [go_sem]
  rw [hL]
  have HS2 := Lib.hid hst
  have HNt := Lib.hid hnt
  have HB2 := Lib.hid hb2
  have HBs := Lib.hid (show w.heap.size = base ∧ L = base + 2 ∧ Gt = base + 1 by omega)
  rw [hbase] at HB2
  clear hst hnt hb2 hW2 hL hGt hbase
  go_loopw [10] (fun v10 wx => ∃ (i : Nat) (A : Option Addr) (c : Nat), v10 = .int .i64 i ∧ i ≤ n ∧ Hid (LState wx L base (fun b => b ≠ Gt) (chL t i) A c (some ⟨Gt, 0, none⟩) 1 1 1) ∧ Hid (wx.cell? ⟨Gt, 0, none⟩ = some (.int .i64 0)) ∧ Hid (Below base w wx)) (fun v10 _ => n - (intOf v10).toNat)
  case atStart => exact ⟨0, _, _, rfl, Nat.zero_le _, HS2, HNt, HB2⟩
  case round =>
    obtain ⟨i, A, c, rfl, hi, HSx, HNx, HBx⟩ := hrel
    by_cases hlt : i < n
    · have HLt := Lib.hid hlt
      obtain ⟨q0', q1', q2', r0, r1, r2, -, -⟩ := HSx.out
      rw [chL_len] at q0'
      have hXs := HSx.out.x
      have hbl : base ≤ wr.heap.size := Nat.le_trans HSx.out.hb (Nat.le_of_lt hXs)
      have HXs := Lib.hid (And.intro hXs hbl)
      have iq2' := HI2.out
      have ht' := HTq.out
      obtain ⟨W3, hW3⟩ : ∃ W, wr.alloc (Obj.cells #[.int .i64 i] 3) = W := ⟨_, rfl⟩
      have hb3 : Below wr.heap.size wr W3 := by rw [← hW3]; exact below_alloc (Below.refl _ _) _
      have hR3 : Kd.R (Kd.int .i64) 3 W3 base (fun b => wr.heap.size ≤ b) (.slice (some ⟨wr.heap.size, 0, none⟩) 1 1) [(i : Int)] := by
        rw [← hW3]
        exact R_int1 wr base (i : Int) (Nat.le_refl _) hbl
      have HS3 := Lib.hid (HSx.out.below hb3)
      have HR3 := Lib.hid hR3
      have HB3 := Lib.hid hb3
      have HN3 : Hid (W3.cell? ⟨Gt, 0, none⟩ = some (.int .i64 0)) := Lib.hid ((hb3.cell (p := ⟨Gt, 0, none⟩) (World.block_lt_of_cell? wr _ HNx.out)).trans HNx.out)
      have HL3 : Hid (W3.heap.size = wr.heap.size + 1) := Lib.hid (by rw [← hW3]; simp)
      clear hb3 hR3 hXs
      go_upto_region 6 with fail
      have hO3 := HS3.out.r
      rw [chL_len] at hO3
      have HO3 := Lib.hid hO3
      have HNo := Lib.hid (show ∀ k, (Value.slice A (i + 1) c).ownBlock = some k → (k ≠ L ∧ k ≠ Gt) ∧ k < wr.heap.size from fun k hk => by
        have h := HSx.out.r
        rw [chL_len] at h
        exact ⟨h.1 k hk, Kd.R_lt h k hk⟩)
      clear hO3
      go_wp2_with (first | fail | ((with_reducible refine gate_builtin (b := .append) (xs := #[.tmp 34, .tmp 41]) rfl ?_); at_builtin; refine Kd.R_append k39 (w0 := W3) base rfl (.tmp 34) (.tmp 41) 22 39 (.agg #[.int .i64 0, .int .i64 0, .int .i64 0, .slice none 0 0, .string ⟨#[]⟩, .int .i64 0, .int .i64 0, .int .i64 0]) 88 rfl Tryd.underlying22 info39' rfl (by decide) (by decide) (.slice A (i + 1) c) (chL t i) (dlN i t) [.int .i64 8, .int .i64 0, .int .i64 1, .slice (some ⟨wr.heap.size, 0, none⟩) 1 1, .string ⟨#[]⟩, .int .i64 0, .int .i64 0, .int .i64 t] (fun b => b ≠ L ∧ b ≠ Gt) (fun b => wr.heap.size ≤ b) rfl rfl ?aP ?aK ?aF ?aO ?aB ?aS ?aL ?_; (case aP => exact k39_mkM W3 _ _ (dlN i t) HR3.out); (case aK => exact fun b hb => ⟨⟨fun e => by have := HXs.out.1; omega, fun e => by have := HXs.out.1; have := HBs.out; omega⟩, fun e => by have := (HNo.out b e.symm).2; omega⟩); (case aF => exact fun b hb => ⟨fun e => by have := HXs.out.1; have := HL3.out; omega, fun e => by have := HXs.out.1; have := HBs.out; have := HL3.out; omega⟩); (case aO => exact HO3.out); (case aB => exact Below.refl _ _); (case aS => have := HXs.out.2; have := HL3.out; omega); (case aL => rw [chL_len]; have := HN.out; have := HLt.out; omega); intro v1 w9 ho hb hg hat; obtain ⟨A1, c1, rfl⟩ := Kd.R_slice ho; (have yL : ∀ q : Nat, w9.cell? ⟨L, q, none⟩ = W3.cell? ⟨L, q, none⟩ := fun q => hg.cell_far ⟨L, q, none⟩ HS3.out.x (fun e => ((HNo.out L e.symm).1.1) rfl)); (have zL : ∀ q : Nat, w9.frozen? ⟨L, q, none⟩ = W3.frozen? ⟨L, q, none⟩ := fun q => hg.frozen_far ⟨L, q, none⟩ HS3.out.x (fun e => ((HNo.out L e.symm).1.1) rfl)); have y0 := (yL 0).trans HS3.out.k0; have y1 := (yL 1).trans HS3.out.k1; have y2 := (yL 2).trans HS3.out.k2; have z0 := (zL 0).trans HS3.out.f0; have z1 := (zL 1).trans HS3.out.f1; have z2 := (zL 2).trans HS3.out.f2; (have nt9 : w9.cell? ⟨Gt, 0, none⟩ = some (.int .i64 0) := (hg.cell_far ⟨Gt, 0, none⟩ (World.block_lt_of_cell? W3 _ HN3.out) (fun e => ((HNo.out Gt e.symm).1.2) rfl)).trans HN3.out); have HO9 := Lib.hid ho; have HB9 := Lib.hid (hb); have HNt9 := Lib.hid nt9; clear ho hb hg hat yL zL nt9))
      have hlen : (chL t i ++ [dlN i t]).length = (chL t (i + 1)).length := by rw [← chL_succ]
      have hput := LState.put (l := chL t (i + 1)) (A1 := A1) (c1 := c1) y0 y1 y2 z0 z1 z2 (by have h := HO9.out; rw [hlen, ← chL_succ] at h; exact h) HS3.out.hb
      rw [← hlen] at hput
      have hput2 : LState (w9.setCell ⟨L, 0, none⟩ (.slice A1 (chL t i ++ [dlN i t]).length c1)) L base (fun b => b ≠ Gt) (chL t (i + 1)) A1 c1 (some ⟨Gt, 0, none⟩) 1 1 1 := hput
      have hnt2 : (w9.setCell ⟨L, 0, none⟩ (.slice A1 (chL t i ++ [dlN i t]).length c1)).cell? ⟨Gt, 0, none⟩ = some (.int .i64 0) := (World.cell?_of_block (w := w9) (Below.heap_setCell w9 _ _ Gt (by show Gt ≠ L; have := HBs.out; omega))).trans HNt9.out
      have hbb : Below base w (w9.setCell ⟨L, 0, none⟩ (.slice A1 (chL t i ++ [dlN i t]).length c1)) := below_set2 HSx.out.hb ((HBx.out.trans (HB3.out.mono HXs.out.2)).trans HB9.out)
      have elen : (chL t i ++ [dlN i t]).length = (chL t i).length + 1 := by rw [List.length_append]; rfl
      rw [elen] at hput2 hnt2 hbb
      have HS9 := Lib.hid hput2
      have HN9 := Lib.hid hnt2
      have HBb := Lib.hid hbb
      clear hput hput2 hnt2 hbb hlen y0 y1 y2 z0 z1 z2 q0' q1' q2' r0 r1 r2 elen
      refine ⟨⟨i + 1, A1, c1, by simp, HLt.out, HS9, HN9, HBb⟩, by have := HLt.out; simp [intOf]; omega⟩
    · obtain rfl : n = i := by omega
      clear hlt hi
      have hmem : ∀ s ∈ chL t n, s.f4.size ≤ 9223372036854775807 ∧ s.f3.length * 8 ≤ 140737488355328 := fun s hs => by
        have h := chL_mem hs
        exact ⟨Nat.le_trans h.1 (by decide), Nat.le_trans (Nat.mul_le_mul_right 8 h.2) (by decide)⟩
      have hin : ∀ W, Below wr.heap.size wr W → NIn W (chN t n) A c (some ⟨Gt, 0, none⟩) 1 := fun W hW => by
        have h := (HSx.out.below hW).r
        refine ⟨(Kd.R_reads' h).2.2, ints_C (l := [0]) (by decide) (fun j hj => ?_), (Kd.R_reads' h).2.1, Nat.le_refl _, fun s hs => (hmem s hs).1, fun s hs => (hmem s hs).2, by show 1 * 8 ≤ _; decide⟩
        have : j = 0 := by have : j < 1 := hj; omega
        subst this
        exact (hW.cell (p := ⟨Gt, 0, none⟩) (World.block_lt_of_cell? wr _ HNx.out)).trans HNx.out
      have HIn := Lib.hid hin
      have hlx : LBx wr L (n + 1) 1 1 A c (some ⟨Gt, 0, none⟩) 1 := ⟨by have h := HSx.out.k0; rw [chL_len] at h; exact h, HSx.out.k1, HSx.out.k2⟩
      have HLx := Lib.hid hlx
      obtain ⟨W5, hW5⟩ : ∃ W, wr = W := ⟨_, rfl⟩
      have HB5 := HBx
      rw [hW5] at HIn HLx HB5 ⊢
      have hcl : (chN t n).nd.length = n + 1 := chL_len t n
      have HCl := Lib.hid hcl
      have HMy := Lib.hid (ch_may t n (by have := HN.out; omega) HT.out.1 (by have := HT.out; omega))
      have hrun : ∀ (k : Int) W, Below W5.heap.size W5 W → Calls Tryd.prog 21 #[.agg #[.slice A (n + 1) c, .slice (some ⟨Gt, 0, none⟩) 1 1, .int .i64 1], .int .i64 k] W (PRunP W (chN t n) k) := fun k W hW => by
        have h := prun_any (chN t n) A c (some ⟨Gt, 0, none⟩) 1 k W (HIn.out W hW)
        dsimp only [nlV] at h
        rw [hcl] at h
        exact h
      have HRun := Lib.hid hrun
      clear hmem hin hlx hW5 hcl hrun HSx HNx HBx
      obtain ⟨x0, x1, x2⟩ := HLx.out
      go_wp2_with fail
      refine (HRun.out k W5 (Below.refl _ _)).mono ?_
      rintro e w6 hP
      obtain ⟨hb6, p, Bo, D, N, rfl, hM⟩ := hP.ok HK.out ((may_iff _).2 HMy.out) (fun _ _ _ h => free_low (ch_low t n) h) (by rw [HCl.out]; omega)
      rw [HCl.out]
      have HPi6 := Lib.hid (by have h := hM.inn (by rw [HCl.out]; have := HN.out; omega); rw [HCl.out] at h; exact h)
      have HPv := Lib.hid (by have h := hM.val; rw [HCl.out] at h; exact h)
      have HPm := Lib.hid hM.may
      have hNk := hM.k
      have hNl := hM.l
      rw [HCl.out] at hNl
      have HC6 := Lib.hid hb6
      have HX6 := Lib.hid (HLx.out.below hb6)
      clear hP hb6 hM x0 x1 x2
      go_upto_region 8 with fail
      obtain ⟨W7, hW7⟩ : ∃ W, w6.alloc (Obj.cells #[Value.slice (some ⟨Bo, 0, none⟩) (n + 1) (n + 1), Value.int .i64 N, Value.slice (some ⟨D, 0, none⟩) N N] 46) = W := ⟨_, rfl⟩
      try rw [hW7]
      obtain ⟨hp7, hb7, hz7⟩ := box_parts hW7
      obtain ⟨T, hT⟩ : ∃ T, w6.heap.size = T := ⟨_, rfl⟩
      rw [hT] at hp7 ⊢
      have HP7 := Lib.hid hp7
      have HC7 := Lib.hid (HC6.out.trans (hb7.mono HC6.out.size))
      have HX7 := Lib.hid (HX6.out.below hb7)
      have HPi7 := Lib.hid (HPi6.out.below hb7)
      obtain ⟨x0, x1, x2⟩ := HX7.out
      clear hW7 hp7 hb7 hz7 hT HPi6 HX6 HC6
      go_wp2_with fail
      refine (HRun.out 1 W7 HC7.out).mono ?_
      rintro e w8 hP
      obtain ⟨hb8, p', Bo', D', N', rfl, hM'⟩ := hP.ok (by decide) ((may_iff _).2 HMy.out) (fun _ _ _ h => free_low (ch_low t n) h) (by rw [HCl.out]; omega)
      have hN1 : N' = 1 := by have h1 := hM'.k; have h2 := hM'.may.n1; have h3 := hM'.n; omega
      subst hN1
      rw [HCl.out]
      have HC8 := Lib.hid (HC7.out.trans (hb8.mono HC7.out.size))
      have HX8 := Lib.hid (HX7.out.below hb8)
      have HP8 := Lib.hid (HP7.out.below hb8)
      have HPi8 := Lib.hid (HPi7.out.below hb8)
      clear hP hb8 hM' x0 x1 x2 HX7 HPi7 HC7 HP7
      go_upto_region 9 with fail
      obtain ⟨W9, hW9⟩ : ∃ W, w8.alloc (Obj.cells #[Value.slice (some ⟨Bo', 0, none⟩) (n + 1) (n + 1), Value.int .i64 1, Value.slice (some ⟨D', 0, none⟩) 1 1] 46) = W := ⟨_, rfl⟩
      try rw [hW9]
      obtain ⟨hp9, hb9, hz9⟩ := box_parts hW9
      obtain ⟨T', hT'⟩ : ∃ T, w8.heap.size = T := ⟨_, rfl⟩
      rw [hT'] at hp9 ⊢
      have HP9' := Lib.hid hp9
      have HC9 := Lib.hid (HC8.out.trans (hb9.mono HC8.out.size))
      have HX9 := Lib.hid (HX8.out.below hb9)
      have HP9 := Lib.hid (HP8.out.below hb9)
      have HPi9 := Lib.hid (HPi8.out.below hb9)
      have hmy : Calls Tryd.prog 23 #[.agg #[.slice A (n + 1) c, .slice (some ⟨Gt, 0, none⟩) 1 1, .int .i64 1], .agg #[.slice (some ⟨Bo, 0, none⟩) (n + 1) (n + 1), .int .i64 N, .slice (some ⟨D, 0, none⟩) N N]] W9 fun e w' => e = .returned (.bool true) ∧ Below W9.heap.size W9 w' := by
        have h := mayP_any (chN t n) A c (some ⟨Gt, 0, none⟩) 1 p _ _ _ _ W9 (HIn.out W9 HC9.out) HPi9.out HMy.out
        rw [← HPv.out] at h
        dsimp only [nlV] at h
        rw [HCl.out] at h
        exact h.mono fun e w' hh => by
          obtain ⟨b, rfl, h1, h2⟩ := hh
          rw [h1.2 HPm.out]
          exact ⟨rfl, h2⟩
      have HMyc := Lib.hid hmy
      obtain ⟨x0, x1, x2⟩ := HX9.out
      obtain ⟨p0, p1, p2⟩ := HP9.out
      obtain ⟨r0, r1, r2⟩ := HP9'.out
      have r1' : W9.cell? ⟨T', 1, none⟩ = some (.int .i64 1) := r1
      have hn60' := HN.out
      have gN1 : decide ((N : Int) > k) = false := decide_eq_false (by omega)
      have gN2 : decide ((N : Int) > (n : Int) + 1) = false := decide_eq_false (by omega)
      have gN3 : decide (k < (N : Int)) = false := decide_eq_false (by omega)
      have gN4 : decide ((n : Int) + 1 < (N : Int)) = false := decide_eq_false (by omega)
      clear hW9 hp9 hb9 hz9 hT' hmy r1 HX8 HPi8 HC8 HP8
      go_upto_region 11 with (first
        | fail
        | (go_at_call 23; refine HMyc.out.mono ?_; rintro e w10 ⟨rfl, hb10⟩; obtain ⟨x0, x1, x2⟩ := HX9.out.below hb10; obtain ⟨p0, p1, p2⟩ := HP9.out.below hb10; obtain ⟨r0, r1, r2⟩ := HP9'.out.below hb10; have r1' : w10.cell? ⟨T', 1, none⟩ = some (.int .i64 1) := r1; clear r1; have HX10 := Lib.hid (HX9.out.below hb10); have HC10 := Lib.hid (HC9.out.trans (hb10.mono HC9.out.size))))
      go_upto_region 12 with fail
      obtain ⟨W11, hW11⟩ : ∃ W, w10.alloc (Obj.cells #[.slice none 0 0, .int .i64 ((n : Int) + 1), .slice none 0 0] 46) = W := ⟨_, rfl⟩
      try rw [hW11]
      obtain ⟨E, hE⟩ : ∃ T, w10.heap.size = T := ⟨_, rfl⟩
      try rw [hE]
      have hst : ESt W11 E ((n : Int) + 1) none 0 0 none 0 0 (chO n 0) (chA t n 0) := by
        rw [← hW11, ← hE]
        exact ⟨by simp [go_sem], by simp [go_sem], by simp [go_sem], by simp [go_sem], by simp [go_sem], by simp [go_sem], Kd.R_nil _ _ _ _ _, Kd.R_nil _ _ _ _ _⟩
      have hb11 : Below w10.heap.size w10 W11 := by rw [← hW11]; exact below_alloc (Below.refl _ _) _
      have hb11' : Below E w10 W11 := by rw [← hE]; exact hb11
      have HS11 := Lib.hid hst
      have HB11 : Hid (Below W5.heap.size W5 W11) := Lib.hid (HC10.out.trans (hb11.mono HC10.out.size))
      have HLE : Hid (W5.heap.size ≤ E) := Lib.hid (by rw [← hE]; exact HC10.out.size)
      have HX11 := Lib.hid (HX10.out.below hb11)
      clear hb11 hb11' hst hW11 hE x0 x1 x2 p0 p1 p2 r0 r1' r2 gN1 gN2 gN3 gN4 hn60' HX10 HC10
      go_wp2_with fail
      go_loopw [16, 17] (fun v16 _ wx => ∃ (i : Nat) (Av : Option Addr) (cv : Nat) (Bv : Option Addr) (dv : Nat), v16 = .int .i64 i ∧ i ≤ n + 1 ∧ Hid (ESt wx E ((n : Int) + 1) Av i cv Bv i dv (chO n i) (chA t n i)) ∧ Hid (Below W5.heap.size W5 wx)) (fun v16 _ _ => n + 1 - (intOf v16).toNat)
      case atStart => exact ⟨0, _, _, _, _, rfl, Nat.zero_le _, HS11, HB11⟩
      case round =>
        obtain ⟨i, Av, cv, Bv, dv, rfl, hi, HSx, HBx⟩ := hrel
        by_cases hlt : i < n + 1
        · have HLt := Lib.hid hlt
          obtain ⟨x0, x1, x2, e0, e1, e2, -, -⟩ := HSx.out
          have hn60'' := HN.out
          go_upto_region 15 with fail
          go_upto_region 16 with (first | fail | ((with_reducible refine gate_builtin (b := .append) (xs := #[.tmp 94, .tmp 98]) rfl ?_); at_builtin; refine Kd.R_append (Kd.int .i64) (w0 := wr) E rfl (.tmp 94) (.tmp 98) 23 3 (.int .i64 0) 8 rfl Tryd.underlying23 info3 rfl (by decide) (by decide) (.slice Av i cv) (chO n i) ((n : Int) - (i : Int)) [.int .i64 ((n : Int) - (i : Int))] (fun b => b ≠ E ∧ some b ≠ (Value.slice Bv i dv).ownBlock) (fun _ => False) rfl rfl ?aP (fun _ hk => hk.elim) ?aF ?aO ?aB ?aS ?aL ?_; (case aP => exact kI_mkM _ _ _ _); (case aF => exact fun b hb => ⟨fun e => by have := HSx.out.x; omega, fun e => by have := Kd.R_lt HSx.out.rA b e.symm; omega⟩); (case aO => exact HSx.out.rO); (case aB => exact Below.refl _ _); (case aS => exact Nat.le_of_lt HSx.out.x); (case aL => rw [chO_len]; have := HN.out; have := HLt.out; omega); intro v1 w12 ho hb hg hat; obtain ⟨A1, c1, hv1⟩ := Kd.R_slice ho; rw [← chO_succ, chO_len] at hv1; subst hv1; rw [← chO_succ] at ho; have HA12 := Lib.hid (HSx.out.appO ho hg hat); obtain ⟨y0, z0⟩ := HSx.out.farO hg; have HB12 := Lib.hid (hb); clear ho hg hat hb))
          clear x0 x1 x2 e0 e1 e2 y0 z0
          obtain ⟨W13, hW13⟩ : ∃ W, w12.setCell ⟨E, 0, none⟩ (.slice A1 (i + 1) c1) = W := ⟨_, rfl⟩
          try rw [hW13]
          rw [hW13] at HA12
          have HB13 : Hid (Below E wr W13) := Lib.hid (by rw [← hW13]; exact below_set2 (Nat.le_refl _) HB12.out)
          clear hW13
          obtain ⟨WR, mR, hbR, hzR, hcR, hrR⟩ := made_row (n + 1) (by omega) W13 E (Nat.le_of_lt HA12.out.x)
          obtain ⟨Gm, hGm⟩ : ∃ g, W13.heap.size = g := ⟨_, rfl⟩
          have hx13 := HA12.out.x
          rw [hGm] at mR hcR hrR hx13
          have mR' : Sem.run Tryd.prog (Instr.makeSlice 23 (.int .i64 ((n : Int) + 1)) (.int .i64 ((n : Int) + 1))) W13 = Result.ok (.slice (some ⟨Gm, 0, none⟩) (n + 1) (n + 1)) WR := mR
          have HS13 := HA12
          have HGm := Lib.hid (And.intro hGm hx13)
          have HrR := Lib.hid hrR
          have HbR := Lib.hid hbR
          have HcR := Lib.hid hcR
          clear hbR hzR hcR hrR mR hGm hx13 HA12 HB12
          go_upto_region 17 with fail
          clear mR'
          by_cases hi0 : i = 0
          · obtain ⟨WM, hWM⟩ : ∃ W, WR = W := ⟨_, rfl⟩
            have g0 : decide ((i : Int) > 0) = false := decide_eq_false (by omega)
            have g1 : decide ((0 : Int) < (i : Int)) = false := decide_eq_false (by omega)
            have g2 : decide (0 < i) = false := decide_eq_false (by omega)
            have g3 : (0 < i) = False := eq_false (by omega)
            rw [hWM] at HrR HbR
            try rw [hWM]
            have HbM := HbR
            have HRM : Hid (Kd.R (Kd.int .i64) 3 WM E (fun b => Gm ≤ b) (.slice (some ⟨Gm, 0, none⟩) (n + 1) (n + 1)) (chR t n i)) := Lib.hid (by have h := HrR.out; rw [chR_zero t] at h; rw [hi0]; exact h)
            clear hi0 hWM HrR HbR HcR
            have HSM := Lib.hid (HS13.out.below HbM.out)
            have HBM := Lib.hid (HB13.out.trans (HbM.out.mono (Nat.le_of_lt HS13.out.x)))
            obtain ⟨x0, x1, x2, e0, e1, e2, -, -⟩ := HSM.out
            go_wp2_with (first | fail | ((with_reducible refine gate_builtin (b := .append) (xs := #[.tmp 114, .tmp 116]) rfl ?_); at_builtin; refine Kd.R_append (Kd.slice 3 (Kd.int .i64)) (w0 := WM) E rfl (.tmp 114) (.tmp 116) 44 23 (.slice none 0 0) 24 rfl Tryd.underlying44 info23 rfl (by decide) (by decide) (.slice Bv i dv) (chA t n i) (chR t n i) [.slice (some ⟨Gm, 0, none⟩) (n + 1) (n + 1)] (fun b => b ≠ E ∧ some b ≠ (Value.slice A1 (i + 1) c1).ownBlock) (fun b => Gm ≤ b) rfl rfl ?aP ?aK ?aF ?aO ?aB ?aS ?aL ?_; (case aP => exact ⟨_, rfl, HRM.out⟩); (case aK => exact fun b hb => ⟨⟨fun e => by have := HGm.out; omega, fun e => by have := Kd.R_lt HS13.out.rO b e.symm; have := HGm.out; omega⟩, fun e => by have := Kd.R_lt HS13.out.rA b e.symm; have := HGm.out; omega⟩); (case aF => exact fun b hb => ⟨fun e => by have := HSM.out.x; omega, fun e => by have := Kd.R_lt HSM.out.rO b e.symm; omega⟩); (case aO => exact HSM.out.rA); (case aB => exact Below.refl _ _); (case aS => exact Nat.le_of_lt HSM.out.x); (case aL => rw [chA_len]; have := HN.out; have := HLt.out; omega); intro v1 w14 ho hb hg hat; obtain ⟨B1, d1, hv1⟩ := Kd.R_slice ho; rw [← chA_succ, chA_len] at hv1; subst hv1; rw [← chA_succ] at ho; have HA14 := Lib.hid (HSM.out.appA ho hg hat); obtain ⟨y2, z2⟩ := HSM.out.farA hg; have HB14 := Lib.hid (hb); clear ho hg hat hb))
            have hbE : Below E wr (w14.setCell ⟨E, 2, none⟩ (.slice B1 (i + 1) d1)) := below_set2 (Nat.le_refl _) (HBM.out.trans HB14.out)
            have HBE := Lib.hid (HBx.out.trans (hbE.mono HLE.out))
            clear hbE
            refine ⟨⟨i + 1, A1, c1, B1, d1, by simp, by have := HLt.out; omega, HA14, HBE⟩, by have := HLt.out; simp [intOf]; omega⟩
          · have g0 : decide ((i : Int) > 0) = true := decide_eq_true (by omega)
            have g1 : decide ((0 : Int) < (i : Int)) = true := decide_eq_true (by omega)
            obtain ⟨j, rfl⟩ : ∃ j, i = j + 1 := ⟨i - 1, by omega⟩
            have hcj := HcR.out j (by omega)
            obtain ⟨c1j, c2j⟩ := hcj
            have iq2' := HI2.out
            have ht' := HTq.out
            have hj1 : (((j + 1 : Nat) : Int) - 1) = (j : Int) := by omega
            go_upto_region 19 with fail
            obtain ⟨WM, hWM⟩ : ∃ W, WR.setCell ⟨Gm, j, none⟩ (.int .i64 t) = W := ⟨_, rfl⟩
            try rw [hWM]
            have HRM : Hid (Kd.R (Kd.int .i64) 3 WM E (fun b => Gm ≤ b) (.slice (some ⟨Gm, 0, none⟩) (n + 1) (n + 1)) (chR t n (j + 1))) := Lib.hid (by
              have h := Kd.R_putn HrR.out (j : Int) t
              rw [Int.toNat_natCast, chR_put t n j (by omega)] at h
              rw [← hWM]
              exact h)
            have HbM : Hid (Below W13.heap.size W13 WM) := Lib.hid (by rw [← hWM]; exact below_set2 (Nat.le_of_eq HGm.out.1) HbR.out)
            clear hWM HrR HbR HcR c1j c2j
            have HSM := Lib.hid (HS13.out.below HbM.out)
            have HBM := Lib.hid (HB13.out.trans (HbM.out.mono (Nat.le_of_lt HS13.out.x)))
            obtain ⟨x0, x1, x2, e0, e1, e2, -, -⟩ := HSM.out
            go_wp2_with (first | fail | ((with_reducible refine gate_builtin (b := .append) (xs := #[.tmp 114, .tmp 116]) rfl ?_); at_builtin; refine Kd.R_append (Kd.slice 3 (Kd.int .i64)) (w0 := WM) E rfl (.tmp 114) (.tmp 116) 44 23 (.slice none 0 0) 24 rfl Tryd.underlying44 info23 rfl (by decide) (by decide) (.slice Bv (j + 1) dv) (chA t n (j + 1)) (chR t n (j + 1)) [.slice (some ⟨Gm, 0, none⟩) (n + 1) (n + 1)] (fun b => b ≠ E ∧ some b ≠ (Value.slice A1 (j + 1 + 1) c1).ownBlock) (fun b => Gm ≤ b) rfl rfl ?aP ?aK ?aF ?aO ?aB ?aS ?aL ?_; (case aP => exact ⟨_, rfl, HRM.out⟩); (case aK => exact fun b hb => ⟨⟨fun e => by have := HGm.out; omega, fun e => by have := Kd.R_lt HS13.out.rO b e.symm; have := HGm.out; omega⟩, fun e => by have := Kd.R_lt HS13.out.rA b e.symm; have := HGm.out; omega⟩); (case aF => exact fun b hb => ⟨fun e => by have := HSM.out.x; omega, fun e => by have := Kd.R_lt HSM.out.rO b e.symm; omega⟩); (case aO => exact HSM.out.rA); (case aB => exact Below.refl _ _); (case aS => exact Nat.le_of_lt HSM.out.x); (case aL => rw [chA_len]; have := HN.out; have := HLt.out; omega); intro v1 w14 ho hb hg hat; obtain ⟨B1, d1, hv1⟩ := Kd.R_slice ho; rw [← chA_succ, chA_len] at hv1; subst hv1; rw [← chA_succ] at ho; have HA14 := Lib.hid (HSM.out.appA ho hg hat); obtain ⟨y2, z2⟩ := HSM.out.farA hg; have HB14 := Lib.hid (hb); clear ho hg hat hb))
            have hbE : Below E wr (w14.setCell ⟨E, 2, none⟩ (.slice B1 (j + 1 + 1) d1)) := below_set2 (Nat.le_refl _) (HBM.out.trans HB14.out)
            have HBE := Lib.hid (HBx.out.trans (hbE.mono HLE.out))
            clear hbE
            refine ⟨⟨j + 1 + 1, A1, c1, B1, d1, by simp, by have := HLt.out; omega, HA14, HBE⟩, by have := HLt.out; simp [intOf]; omega⟩
        · obtain rfl : i = n + 1 := by omega
          have hck : Calls Tryd.prog 24 #[.agg #[.slice A (n + 1) c, .slice (some ⟨Gt, 0, none⟩) 1 1, .int .i64 1], .agg #[.slice Av (n + 1) cv, .int .i64 ((n : Int) + 1), .slice Bv (n + 1) dv]] wr fun e w' => e = .returned (.int .i64 0) ∧ Below wr.heap.size wr w' := by
            obtain ⟨hp, e1, e2⟩ := ESt.pin (p := chP t n) HSx.out
            have h := pcheck_any (chN t n) A c (some ⟨Gt, 0, none⟩) 1 (chP t n) Av cv Bv dv wr (HIn.out wr HBx.out) hp HMy.out
            dsimp only [nlV, pV] at h
            rw [HCl.out, ← e1, ← e2] at h
            exact h.mono fun e w' hh => by
              obtain ⟨r, hr, -, h2, hb⟩ := hh
              rw [hr, h2.2 (ch_parts t n HN.out)]
              exact ⟨rfl, hb⟩
          have HCk := Lib.hid hck
          obtain ⟨x0, x1, x2⟩ := HLx.out.below HBx.out
          obtain ⟨p0, p1, p2, -, -, -, -, -⟩ := HSx.out
          have hn60'' := HN.out
          clear hck hlt hi
          go_upto_region 20 with fail
          go_wp2_with (first
            | fail
            | (go_at_call 24; refine HCk.out.mono ?_; rintro e w15 ⟨rfl, hb15⟩; have HB15 := Lib.hid (HBx.out.trans (hb15.mono HBx.out.size)); clear hb15)
            | (go_at_call 22; refine (HAw.out _).mono ?_; rintro e w16 ⟨rfl, hb16⟩; have HB16 := Lib.hid (HB15.out.trans (hb16.mono HB15.out.size)); clear hb16))
          go_ret
          exact ⟨by try rfl, (HB5.out.trans (HB16.out.mono (by have := HB5.out.size; have := HBs.out.1; omega))).mono (Nat.le_of_eq HBs.out.1)⟩
end Go.Proofs.YtonnmkhmhndalaaDoor
end
