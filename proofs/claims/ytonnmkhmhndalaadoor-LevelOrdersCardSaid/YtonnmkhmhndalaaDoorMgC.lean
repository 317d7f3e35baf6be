/- Which netlists may be, plainly. Which netlists may be: what it says of each part. -/
import Derived.Test.YtonnmkhmhndalaaDoorMgB
import Derived.Test.YtonnmkhmhndalaaDoorMgG
import Derived.Test.YtonnmkhmhndalaaDoorLze
namespace Go.Proofs.YtonnmkhmhndalaaDoor
set_option linter.unusedVariables false
set_option linter.unusedSimpArgs false
open Go.RowKit Go.Proofs.YtonnmkhmhndalaaDoorW.PrintWords Go.Proofs.YtonnmkhmhndalaaDoorW.PrintLast Go.Proofs.YtonnmkhmhndalaaDoorW.PrintMore

def isI (b : Bool) : Int := if b then 1 else 0
/-- how wide an operator's answer is, 0: it may not be -/
def opW (op hi lo : Int) (ws : List Int) : Int :=
  if op = 7 ∨ op = 9 then (if ws.length = 1 then ws.getD 0 0 else 0)
  else if 7 ≤ op ∧ op ≤ 12 then isI (ws.length == 1)
  else if op = 15 ∨ op = 16 then (if ws.length = 2 then ws.getD 0 0 else 0)
  else if op = 13 ∨ op = 14 ∨ op = 23 ∨ op = 25 ∨ op = 24 then (if ws.length = 2 ∧ ws.getD 0 0 = ws.getD 1 0 then ws.getD 0 0 else 0)
  else if 17 ≤ op ∧ op ≤ 22 then isI (ws.length == 2 && ws.getD 0 0 == ws.getD 1 0)
  else if op = 26 ∨ op = 27 ∨ op = 3 then isI (ws.length == 2)
  else if op = 6 then (if ws.length = 3 ∧ ws.getD 1 0 = ws.getD 2 0 then ws.getD 1 0 else 0)
  else if op = 4 then (if ws.length = 1 ∧ 0 ≤ lo ∧ lo ≤ hi ∧ hi < ws.getD 0 0 then hi - lo + 1 else 0)
  else if op = 5 then ws.sum
  else 0
/-- may a node be, by the widths of what goes in? -/
def nodeB (ws : List Int) (x : S39) : Bool :=
  if x.f0 = 1 then decide (ws.length = 0) && (vOk x.f4 && decide ((x.f4.size : Int) = x.f2))
  else if x.f0 = 2 then decide (ws.length = 0)
  else if x.f0 = 3 then decide (opW x.f1 x.f5 x.f6 ws = x.f2)
  else if x.f0 = 4 then decide (ws.length = 3) && (decide (ws.getD 1 0 = x.f2) && decide (ws.getD 2 0 = x.f2))
  else if x.f0 = 5 then decide (ws.length = 2) && (decide (ws.getD 0 0 = ws.getD 1 0) && decide (x.f2 = 1))
  else if x.f0 = 6 then decide (ws.length = 1)
  else if x.f0 = 7 then decide (ws.length = 2) && decide (ws.getD 1 0 = x.f2)
  else if x.f0 = 8 then decide (ws.length = 1) && (decide (ws.getD 0 0 = x.f2) && (decide (1 ≤ x.f7) && decide (x.f7 ≤ 1048576)))
  else false
/-- are the fields that a node's kind does not use zero? -/
def zeroB (x : S39) : Bool := (decide (x.f0 = 3) || decide (x.f1 = 0)) && ((decide (x.f0 = 1) || decide (x.f4.toList = [])) && ((decide (x.f0 = 3 ∧ x.f1 = 4) || (decide (x.f5 = 0) && decide (x.f6 = 0))) && (decide (x.f0 = 8) || decide (x.f7 = 0))))
def inB (n : Nat) (k : Int) : Bool := decide (0 ≤ k) && decide (k < n)
def wAt (l : List S39) (k : Int) : Int := (l.getD k.toNat z39).f2
def wsOf (l : List S39) (y : S39) : List Int := y.f3.map (wAt l)
def wideB (n : Nat) (y : S39) : Bool := (decide (1 ≤ y.f2) && decide (y.f2 ≤ 256)) && y.f3.all (inB n)
def portB (nt : List Int) (k : Nat) (y : S39) : Bool := !decide (y.f0 = 2) || decide (nt.count (k : Int) = 1)
def okB (x : NL) (k : Nat) : Bool := nodeB (wsOf x.nd (nAt x k)) (nAt x k) && (zeroB (nAt x k) && portB x.nt k (nAt x k))
/-- may a netlist be? -/
def mayL (x : NL) : Bool := (decide (x.nd.length ≤ 4096) && decide (x.pt = x.nt.length)) && (x.nd.all (wideB x.nd.length) && (x.nt.all (inB x.nd.length) && (List.range x.nd.length).all (okB x)))

theorem zero_f (x : S39) : silkwormref09_zero.f x.f0 x.f1 x.f2 x.f3 x.f4 x.f5 x.f6 x.f7 = some (zeroB x) := by
  unfold silkwormref09_zero.f zeroB
  by_cases h3 : x.f0 = 3 <;> by_cases h1 : x.f0 = 1 <;> by_cases h8 : x.f0 = 8 <;> by_cases h4 : x.f1 = 4 <;> by_cases h0 : x.f1 = 0 <;> by_cases h5 : x.f5 = 0 <;> by_cases h6 : x.f6 = 0 <;> by_cases hv : x.f4.toList = [] <;> simp [*] <;> first | omega | rfl | skip
theorem sum_append1 (l : List Int) (a : Int) : (l ++ [a]).sum = l.sum + a := by simp
theorem sum_bd (l : List Int) (h : ∀ a ∈ l, 1 ≤ a ∧ a ≤ 256) : (l.length : Int) ≤ l.sum ∧ l.sum ≤ 256 * l.length := by
  induction l with
  | nil => simp
  | cons a l ih =>
    have h1 := h a List.mem_cons_self
    have h2 := ih fun b hb => h b (List.mem_cons_of_mem _ hb)
    rw [List.sum_cons, List.length_cons]
    omega
theorem op_l0 (ws : List Int) (hw : ∀ a ∈ ws, 1 ≤ a ∧ a ≤ 256) (hl : ws.length * 8 ≤ 140737488355328) : ∀ (d k i : Nat), i + d = ws.length → d < k → lower_operated.l0 k (ws.take i).sum ws (ws.length : Int) (i : Int) = some ws.sum := by
  intro d
  induction d with
  | zero =>
    intro k i hi hk
    obtain ⟨k, rfl⟩ : ∃ m, k = m + 1 := ⟨k - 1, by omega⟩
    obtain rfl : i = ws.length := by omega
    simp only [lower_operated.l0]
    rw [if_neg (by omega), List.take_length]
  | succ d ih =>
    intro k i hi hk
    obtain ⟨k, rfl⟩ : ∃ m, k = m + 1 := ⟨k - 1, by omega⟩
    have hlt : i < ws.length := by omega
    simp only [lower_operated.l0]
    rw [if_pos (by omega), if_pos (by omega), if_pos (by omega)]
    have hr : rd ws (i : Int) = ws[i] := by
      unfold rd
      rw [Int.toNat_natCast, List.getD_eq_getElem?_getD, List.getElem?_eq_getElem hlt]
      rfl
    have hs : (ws.take (i + 1)).sum = (ws.take i).sum + ws[i] := by
      rw [List.take_succ_eq_append_getElem hlt, sum_append1]
    have hb := sum_bd (ws.take (i + 1)) (fun a ha => hw a (List.mem_of_mem_take ha))
    have hb0 := sum_bd (ws.take i) (fun a ha => hw a (List.mem_of_mem_take ha))
    have hl1 : (ws.take (i + 1)).length ≤ ws.length := by rw [List.length_take]; omega
    rw [hr, ← hs, w64 (by omega) (by omega), w64 (by omega) (by omega)]
    exact ih k (i + 1) (by omega) (by omega)
theorem rd_n (ws : List Int) (i : Nat) : rd ws (i : Int) = ws.getD i 0 := by unfold rd; rw [Int.toNat_natCast]
theorem op_f (x : S39) (ws : List Int) (hw : ∀ a ∈ ws, 1 ≤ a ∧ a ≤ 256) (hl : ws.length * 8 ≤ 140737488355328) :
    lower_operated.f (ws.length + 10) x.f0 x.f1 x.f2 x.f3 x.f4 x.f5 x.f6 x.f7 ws = some (opW x.f1 x.f5 x.f6 ws) := by
  have hl0 := op_l0 ws hw hl ws.length (ws.length + 4) 0 (by omega) (by omega)
  rw [List.take_zero, List.sum_nil] at hl0
  have hl1 : lower_operated.l0 (ws.length + 4) 0 ws (ws.length : Int) 0 = some ws.sum := hl0
  have r0 : rd ws 0 = ws.getD 0 0 := rfl
  have r1 : rd ws 1 = ws.getD 1 0 := rfl
  have r2 : rd ws 2 = ws.getD 2 0 := rfl
  have b0 : ws.length = 1 → ws.getD 0 0 ≤ 256 := by
    intro h
    match ws, h with
    | [a], _ => exact (hw a (by simp)).2
  unfold lower_operated.f
  simp only [lower_operated.j0, lower_operated.j1, lower_operated.j2, lower_operated.j3, lower_operated.j4, lower_operated.j5, lower_is.f, r0, r1, r2]
  unfold opW isI
  generalize x.f1 = op
  generalize x.f5 = hi
  generalize x.f6 = lo
  generalize hA : ws.getD 0 0 = a0 at *
  generalize hB : ws.getD 1 0 = a1 at *
  generalize hC : ws.getD 2 0 = a2 at *
  generalize ws.sum = S at *
  generalize hN : ws.length = N at *
  have hn : ((N : Int) = 1 ↔ N = 1) ∧ ((N : Int) = 2 ↔ N = 2) ∧ ((N : Int) = 3 ↔ N = 3) ∧ (0 < (N : Int) ↔ 0 < N) ∧ (1 < (N : Int) ↔ 1 < N) ∧ (2 < (N : Int) ↔ 2 < N) := by omega
  have hop : op < 3 ∨ op = 3 ∨ op = 4 ∨ op = 5 ∨ op = 6 ∨ op = 7 ∨ op = 8 ∨ op = 9 ∨ op = 10 ∨ op = 11 ∨ op = 12 ∨ op = 13 ∨ op = 14 ∨ op = 15 ∨ op = 16 ∨ op = 17 ∨ op = 18 ∨ op = 19 ∨ op = 20 ∨ op = 21 ∨ op = 22 ∨ op = 23 ∨ op = 24 ∨ op = 25 ∨ op = 26 ∨ op = 27 ∨ 27 < op := by omega
  clear hl0 r0 r1 r2 hw hl hA hB hC hN
  have hN4 : N = 0 ∨ N = 1 ∨ N = 2 ∨ N = 3 ∨ 3 < N := by omega
  rcases hop with h | rfl | rfl | rfl | rfl | rfl | rfl | rfl | rfl | rfl | rfl | rfl | rfl | rfl | rfl | rfl | rfl | rfl | rfl | rfl | rfl | rfl | rfl | rfl | rfl | rfl | h
  case inl =>
    rw [if_neg (by omega)]
    simp [show ¬ op = 7 by omega, show ¬ op = 9 by omega, show ¬ 7 ≤ op by omega, show ¬ op = 15 by omega, show ¬ op = 16 by omega, show ¬ op = 13 by omega, show ¬ op = 14 by omega, show ¬ op = 23 by omega, show ¬ op = 24 by omega, show ¬ op = 25 by omega, show ¬ 17 ≤ op by omega, show ¬ op = 26 by omega, show ¬ op = 27 by omega, show ¬ op = 3 by omega, show ¬ op = 4 by omega, show ¬ op = 5 by omega, show ¬ op = 6 by omega]
  case inr.inr.inr.inr.inr.inr.inr.inr.inr.inr.inr.inr.inr.inr.inr.inr.inr.inr.inr.inr.inr.inr.inr.inr.inr.inr =>
    rw [if_neg (by omega)]
    simp [show ¬ op = 7 by omega, show ¬ op = 9 by omega, show ¬ op ≤ 12 by omega, show ¬ op = 15 by omega, show ¬ op = 16 by omega, show ¬ op = 13 by omega, show ¬ op = 14 by omega, show ¬ op = 23 by omega, show ¬ op = 24 by omega, show ¬ op = 25 by omega, show ¬ op ≤ 22 by omega, show ¬ op = 26 by omega, show ¬ op = 27 by omega, show ¬ op = 3 by omega, show ¬ op = 4 by omega, show ¬ op = 5 by omega, show ¬ op = 6 by omega]
  case inr.inr.inl =>
    rcases hN4 with rfl | rfl | rfl | rfl | h4
    · simp
    · have := b0 rfl
      simp
      by_cases h1 : 0 ≤ lo
      · by_cases h2 : lo ≤ hi
        · by_cases h3 : hi < a0
          · rw [if_pos h1, if_pos h2, if_pos h3, if_pos ⟨h1, h2, h3⟩, w64 (n := hi - lo) (by omega) (by omega), w64 (by omega) (by omega)]
          · rw [if_pos h1, if_pos h2, if_neg h3, if_neg (fun h => h3 h.2.2)]
        · rw [if_pos h1, if_neg h2, if_neg (fun h => h2 h.2.1)]
      · rw [if_neg h1, if_neg (fun h => h1 h.1)]
    · simp
    · simp
    · simp [show ¬ N = 1 by omega, show ¬ (N : Int) = 1 by omega]
  case inr.inr.inr.inl =>
    clear b0
    simp
    exact hl1
  all_goals
    clear b0 hl1
    rcases hN4 with rfl | rfl | rfl | rfl | h4
    · simp
    · simp
    · simp
      try (split <;> simp_all)
    · simp
      try (split <;> simp_all)
    · simp [show ¬ N = 1 by omega, show ¬ (N : Int) = 1 by omega, show ¬ N = 2 by omega, show ¬ (N : Int) = 2 by omega, show ¬ N = 3 by omega, show ¬ (N : Int) = 3 by omega]
end Go.Proofs.YtonnmkhmhndalaaDoor
namespace Go.Proofs.YtonnmkhmhndalaaDoor
set_option linter.unusedVariables false
set_option linter.unusedSimpArgs false
open Go.RowKit Go.Proofs.YtonnmkhmhndalaaDoorW.PrintWords Go.Proofs.YtonnmkhmhndalaaDoorW.PrintLast Go.Proofs.YtonnmkhmhndalaaDoorW.PrintMore

/-- may a netlist be, in parts -/
structure MayP (x : NL) : Prop where
  n : x.nd.length ≤ 4096
  p : x.pt = x.nt.length
  w : ∀ i, i < x.nd.length → wideB x.nd.length (nAt x i) = true
  t : ∀ i, i < x.nt.length → inB x.nd.length (x.nt.getD i 0) = true
  k : ∀ i, i < x.nd.length → nodeB (wsOf x.nd (nAt x i)) (nAt x i) = true
  z : ∀ i, i < x.nd.length → zeroB (nAt x i) = true
  q : ∀ i, i < x.nd.length → portB x.nt i (nAt x i) = true
theorem all_getD {α : Type} (l : List α) (d : α) (p : α → Bool) : l.all p = true ↔ ∀ i, i < l.length → p (l.getD i d) = true := by
  rw [List.all_eq_true]
  constructor
  · intro h i hi
    rw [List.getD_eq_getElem?_getD, List.getElem?_eq_getElem hi]
    exact h _ (List.getElem_mem hi)
  · intro h a ha
    obtain ⟨i, hi, rfl⟩ := List.getElem_of_mem ha
    have := h i hi
    rw [List.getD_eq_getElem?_getD, List.getElem?_eq_getElem hi] at this
    exact this
theorem may_iff (x : NL) : mayL x = true ↔ MayP x := by
  unfold mayL
  simp only [Bool.and_eq_true, decide_eq_true_eq]
  rw [all_getD _ z39, all_getD _ (0 : Int), List.all_eq_true]
  constructor
  · rintro ⟨⟨h1, h2⟩, h3, h4, h5⟩
    have h6 : ∀ i, i < x.nd.length → okB x i = true := fun i hi => h5 i (List.mem_range.2 hi)
    unfold okB at h6
    simp only [Bool.and_eq_true] at h6
    exact ⟨h1, h2, h3, h4, fun i hi => (h6 i hi).1, fun i hi => (h6 i hi).2.1, fun i hi => (h6 i hi).2.2⟩
  · intro h
    refine ⟨⟨h.n, h.p⟩, h.w, h.t, fun i hi => ?_⟩
    have hi' := List.mem_range.1 hi
    unfold okB
    rw [h.k i hi', h.z i hi', h.q i hi']
    rfl
theorem may_no {x : NL} (h : ¬ MayP x) : mayL x = false := by
  cases e : mayL x
  · rfl
  · exact absurd ((may_iff x).1 e) h
theorem wideB_iff (n : Nat) (y : S39) : wideB n y = true ↔ 1 ≤ y.f2 ∧ y.f2 ≤ 256 ∧ ∀ k, k < y.f3.length → 0 ≤ y.f3.getD k 0 ∧ y.f3.getD k 0 < n := by
  unfold wideB inB
  rw [Bool.and_eq_true, all_getD _ (0 : Int)]
  simp only [Bool.and_eq_true, decide_eq_true_eq]
  constructor
  · rintro ⟨⟨a, b⟩, c⟩; exact ⟨a, b, c⟩
  · rintro ⟨a, b, c⟩; exact ⟨⟨a, b⟩, c⟩
theorem opW_len (op hi lo : Int) (ws : List Int) (hs : (ws.length : Int) ≤ ws.sum) (h1 : 1 ≤ opW op hi lo ws) (h2 : opW op hi lo ws ≤ 256) : ws.length ≤ 256 := by
  unfold opW isI at h1 h2
  generalize ws.sum = S at *
  generalize ws.getD 0 0 = a0 at *
  generalize ws.getD 1 0 = a1 at *
  generalize ws.getD 2 0 = a2 at *
  generalize ws.length = N at *
  by_cases c1 : N = 1
  · omega
  · by_cases c2 : N = 2
    · omega
    · by_cases c3 : N = 3
      · omega
      · have e1 : (N == 1) = false := beq_eq_false_iff_ne.mpr c1
        have e2 : (N == 2) = false := beq_eq_false_iff_ne.mpr c2
        rw [e1, e2] at h1 h2
        simp [c1, c2, c3] at h1 h2
        repeat' split at h1
        all_goals first | omega | (simp_all; done) | (simp_all; omega)
theorem MayP.lok {x : NL} (h : MayP x) : LOk x.nd := by
  have hwd : ∀ i, i < x.nd.length → 1 ≤ (nAt x i).f2 ∧ (nAt x i).f2 ≤ 256 ∧ ∀ k, k < (nAt x i).f3.length → 0 ≤ (nAt x i).f3.getD k 0 ∧ (nAt x i).f3.getD k 0 < x.nd.length := fun i hi => (wideB_iff _ _).1 (h.w i hi)
  have hin : ∀ i, i < x.nd.length → ∀ u ∈ (nAt x i).f3, 0 ≤ u ∧ u < x.nd.length := by
    intro i hi u hu
    obtain ⟨k, hk, rfl⟩ := List.getElem_of_mem hu
    have := (hwd i hi).2.2 k hk
    rw [List.getD_eq_getElem?_getD, List.getElem?_eq_getElem hk] at this
    exact this
  have hlen : ∀ i, i < x.nd.length → (nAt x i).f3.length ≤ 256 ∧ ((nAt x i).f0 = 7 → 1 ≤ (nAt x i).f3.length) := by
    intro i hi
    have hk := h.k i hi
    have hwl : (wsOf x.nd (nAt x i)).length = (nAt x i).f3.length := List.length_map _
    have hws : ∀ a ∈ wsOf x.nd (nAt x i), 1 ≤ a ∧ a ≤ 256 := by
      intro a ha
      obtain ⟨u, hu, rfl⟩ := List.mem_map.1 ha
      have := hin i hi u hu
      have h2 := hwd u.toNat (by omega)
      exact ⟨h2.1, h2.2.1⟩
    have hsm := sum_bd _ hws
    have hw1 := (hwd i hi).1
    have hw2 := (hwd i hi).2.1
    generalize nAt x i = y at *
    generalize wsOf x.nd y = ws at *
    rw [hwl] at hsm
    unfold nodeB at hk
    by_cases k1 : y.f0 = 1
    · rw [if_pos k1] at hk; simp only [Bool.and_eq_true, decide_eq_true_eq] at hk; omega
    · by_cases k2 : y.f0 = 2
      · rw [if_neg k1, if_pos k2] at hk; simp only [Bool.and_eq_true, decide_eq_true_eq] at hk; omega
      · by_cases k3 : y.f0 = 3
        · rw [if_neg k1, if_neg k2, if_pos k3] at hk
          have hk' := of_decide_eq_true hk
          have := opW_len y.f1 y.f5 y.f6 ws (by rw [hwl]; exact hsm.1) (by omega) (by omega)
          omega
        · by_cases k4 : y.f0 = 4
          · rw [if_neg k1, if_neg k2, if_neg k3, if_pos k4] at hk; simp only [Bool.and_eq_true, decide_eq_true_eq] at hk; omega
          · by_cases k5 : y.f0 = 5
            · rw [if_neg k1, if_neg k2, if_neg k3, if_neg k4, if_pos k5] at hk; simp only [Bool.and_eq_true, decide_eq_true_eq] at hk; omega
            · by_cases k6 : y.f0 = 6
              · rw [if_neg k1, if_neg k2, if_neg k3, if_neg k4, if_neg k5, if_pos k6] at hk; simp only [Bool.and_eq_true, decide_eq_true_eq] at hk; omega
              · by_cases k7 : y.f0 = 7
                · rw [if_neg k1, if_neg k2, if_neg k3, if_neg k4, if_neg k5, if_neg k6, if_pos k7] at hk; simp only [Bool.and_eq_true, decide_eq_true_eq] at hk; omega
                · by_cases k8 : y.f0 = 8
                  · rw [if_neg k1, if_neg k2, if_neg k3, if_neg k4, if_neg k5, if_neg k6, if_neg k7, if_pos k8] at hk; simp only [Bool.and_eq_true, decide_eq_true_eq] at hk; omega
                  · rw [if_neg k1, if_neg k2, if_neg k3, if_neg k4, if_neg k5, if_neg k6, if_neg k7, if_neg k8] at hk; cases hk
  refine ⟨h.n, fun k hk h7 => (hlen k hk).2 h7, fun k hk => ?_, fun k hk u hu => ?_⟩
  · have := (hlen k hk).1
    show (hg (nAt x k)).length ≤ 256
    unfold hg
    split
    · exact Nat.zero_le _
    · split
      · rw [List.length_take]; omega
      · exact this
  · refine hin k hk u ?_
    have hu' : u ∈ hg (nAt x k) := hu
    unfold hg at hu'
    split at hu'
    · cases hu'
    · split at hu'
      · exact List.mem_of_mem_take hu'
      · exact hu'
end Go.Proofs.YtonnmkhmhndalaaDoor
