/- Groups of nodes by a node of each, plainly: parents, roots, depths. Parts of a netlist, plainly: which may be, how soon parts reach one another, and that groups laid into bins are such. Sorting, plainly: exchanging, rotating, sorting by insertion and by symmetric merging, on lists. Sorting, plainly: what sorting by insertion and by symmetric merging answers. Sorting, plainly: sorted blocks, merged till they are one. -/
import Derived.Test.YtonnmkhmhndalaaDoorZa
import Derived.Test.YtonnmkhmhndalaaDoorZf
import Derived.Lib.Hide
section
namespace Go.Proofs.YtonnmkhmhndalaaDoor
set_option linter.unusedVariables false
set_option linter.unusedSimpArgs false
structure Uf (n : Nat) (g root d : Nat → Nat) : Prop where
  gl : ∀ j, j < n → g j < n
  rl : ∀ j, j < n → root j < n
  rg : ∀ j, j < n → root (g j) = root j
  fx : ∀ j, j < n → g j = j → root j = j
  rr : ∀ j, j < n → g (root j) = root j
  dl : ∀ j, j < n → g j ≠ j → d (g j) < d j
theorem Uf.start (n : Nat) : Uf n (fun j => j) (fun j => j) (fun _ => 0) :=
  ⟨fun j h => h, fun j h => h, fun j h => rfl, fun j h _ => rfl, fun j h => rfl, fun j h e => absurd rfl e⟩
theorem Uf.root2 {n : Nat} {g root d : Nat → Nat} (h : Uf n g root d) {j : Nat} (hj : j < n) : root (root j) = root j := h.fx _ (h.rl j hj) (h.rr j hj)
theorem Uf.near {n : Nat} {g root d : Nat → Nat} (h : Uf n g root d) {k : Nat} (hk : k < n) (hne : g k ≠ k) : d (g (g k)) < d k := by
  have h1 := h.dl k hk hne
  by_cases e : g (g k) = g k
  · rw [e]; exact h1
  · exact Nat.lt_trans (h.dl _ (h.gl k hk) e) h1
theorem Uf.half {n : Nat} {g root d : Nat → Nat} (h : Uf n g root d) {k : Nat} (hk : k < n) : Uf n (upd g k (g (g k))) root d := by
  have hgk := h.gl k hk
  refine ⟨fun j hj => ?_, h.rl, fun j hj => ?_, fun j hj he => ?_, fun j hj => ?_, fun j hj he => ?_⟩
  · by_cases e : j = k
    · subst e; rw [upd_same]; exact h.gl _ hgk
    · rw [upd_ne _ _ e]; exact h.gl j hj
  · by_cases e : j = k
    · subst e; rw [upd_same, h.rg _ hgk, h.rg j hj]
    · rw [upd_ne _ _ e]; exact h.rg j hj
  · by_cases e : j = k
    · subst e
      rw [upd_same] at he
      by_cases e2 : g j = j
      · exact h.fx j hj e2
      · have := h.near hj e2
        rw [he] at this; omega
    · rw [upd_ne _ _ e] at he; exact h.fx j hj he
  · by_cases e : root j = k
    · have h1 := h.rr j hj
      rw [e] at h1 ⊢
      rw [upd_same, h1, h1]
    · rw [upd_ne _ _ e]; exact h.rr j hj
  · by_cases e : j = k
    · subst e
      rw [upd_same] at he ⊢
      by_cases e2 : g j = j
      · rw [e2, e2] at he; exact absurd rfl he
      · exact h.near hj e2
    · rw [upd_ne _ _ e] at he ⊢; exact h.dl j hj he
def joinR (root : Nat → Nat) (i k : Nat) : Nat → Nat := fun j => if root j = root i then root k else root j
def joinD (root d : Nat → Nat) (i k : Nat) : Nat → Nat := fun j => if root j = root i ∧ root i ≠ root k then d j + d (root k) + 1 else d j
theorem Uf.join {n : Nat} {g root d : Nat → Nat} (h : Uf n g root d) {i k : Nat} (hi : i < n) (hk : k < n) : Uf n (upd g (root i) (root k)) (joinR root i k) (joinD root d i k) := by
  by_cases e : root i = root k
  · have e1 : upd g (root i) (root k) = g := by
      funext j
      by_cases e2 : j = root i
      · subst e2; rw [upd_same, ← e, h.rr i hi]
      · rw [upd_ne _ _ e2]
    have e2 : joinR root i k = root := by
      funext j
      unfold joinR
      by_cases e3 : root j = root i
      · rw [if_pos e3, ← e, e3]
      · rw [if_neg e3]
    have e3 : joinD root d i k = d := by
      funext j
      unfold joinD
      rw [if_neg (fun hc => hc.2 e)]
    rw [e1, e2, e3]
    exact h
  · have hri := h.rl i hi
    have hrk := h.rl k hk
    have hk2 := h.root2 hk
    have hi2 := h.root2 hi
    have key : ∀ j, j < n → j ≠ root i → upd g (root i) (root k) j = g j := fun j hj hn => upd_ne _ _ hn
    refine ⟨fun j hj => ?_, fun j hj => ?_, fun j hj => ?_, fun j hj he => ?_, fun j hj => ?_, fun j hj he => ?_⟩
    · by_cases e2 : j = root i
      · subst e2; rw [upd_same]; exact hrk
      · rw [upd_ne _ _ e2]; exact h.gl j hj
    · unfold joinR
      split
      · exact hrk
      · exact h.rl j hj
    · by_cases e2 : j = root i
      · subst e2
        rw [upd_same]
        unfold joinR
        rw [hk2, hi2, if_pos rfl, if_neg (fun hc => e hc.symm)]
      · rw [upd_ne _ _ e2]
        unfold joinR
        rw [h.rg j hj]
    · by_cases e2 : j = root i
      · subst e2
        rw [upd_same] at he
        exact absurd he.symm e
      · rw [upd_ne _ _ e2] at he
        have h1 := h.fx j hj he
        unfold joinR
        rw [if_neg (by rw [h1]; exact e2), h1]
    · unfold joinR
      by_cases e2 : root j = root i
      · rw [if_pos e2, upd_ne _ _ (fun hc => e hc.symm)]
        exact h.rr k hk
      · rw [if_neg e2, upd_ne _ _ e2]
        exact h.rr j hj
    · by_cases e2 : j = root i
      · subst e2
        rw [upd_same]
        unfold joinD
        rw [hk2, hi2, if_neg (fun hc => e hc.1.symm), if_pos ⟨rfl, e⟩]
        omega
      · rw [upd_ne _ _ e2] at he ⊢
        have h1 := h.dl j hj he
        unfold joinD
        rw [h.rg j hj]
        split
        · omega
        · exact h1
theorem joinR_eq {root : Nat → Nat} {i k a b : Nat} (h : root a = root b) : joinR root i k a = joinR root i k b := by unfold joinR; rw [h]
theorem joinR_new {root : Nat → Nat} (i k : Nat) : joinR root i k i = joinR root i k k := by
  unfold joinR
  rw [if_pos rfl]
  split
  · rfl
  · rfl
def cntR (root : Nat → Nat) (m r : Nat) : Nat := (List.range m).countP (fun k => root k == r)
theorem cntR_succ (root : Nat → Nat) (m r : Nat) : cntR root (m + 1) r = cntR root m r + (if root m = r then 1 else 0) := by
  unfold cntR
  rw [List.range_succ, List.countP_append, List.countP_singleton]
  by_cases e : root m = r
  · rw [if_pos e, if_pos (by rw [e]; exact beq_self_eq_true r)]
  · rw [if_neg e, if_neg (by rw [beq_iff_eq]; exact e)]
theorem cntR_le (root : Nat → Nat) (m r : Nat) : cntR root m r ≤ m := by
  unfold cntR
  have := List.countP_le_length (p := fun k => root k == r) (l := List.range m)
  rwa [List.length_range] at this
theorem cntR_pos {root : Nat → Nat} {m r : Nat} : 0 < cntR root m r ↔ ∃ k, k < m ∧ root k = r := by
  unfold cntR
  rw [List.countP_pos_iff]
  constructor
  · rintro ⟨k, hk, h⟩; exact ⟨k, List.mem_range.1 hk, beq_iff_eq.1 h⟩
  · rintro ⟨k, hk, h⟩; exact ⟨k, List.mem_range.2 hk, beq_iff_eq.2 h⟩
structure AllI (n : Nat) (root : Nat → Nat) (m : Nat) (all : List Nat) (f : Nat → Option Int) : Prop where
  nd : all.Nodup
  mem : ∀ r, r ∈ all ↔ 0 < cntR root m r
  sz : ∀ r, (f r).getD 0 = (cntR root m r : Int)
  lt : ∀ r ∈ all, r < n
  ln : all.length ≤ m
theorem AllI.start (n : Nat) (root : Nat → Nat) : AllI n root 0 [] (fun _ => none) :=
  ⟨List.nodup_nil, fun r => ⟨fun h => (by cases h), fun h => absurd h (Nat.lt_irrefl 0)⟩, fun r => rfl, fun r h => (by cases h), Nat.le_refl _⟩
theorem AllI.first {n m : Nat} {root : Nat → Nat} {all : List Nat} {f : Nat → Option Int} (h : AllI n root m all f) (hr : root m < n) (h0 : cntR root m (root m) = 0) : AllI n root (m + 1) (all ++ [root m]) (upd f (root m) (some ((cntR root m (root m) : Int) + 1))) := by
  have hn : root m ∉ all := fun hm => by have := (h.mem _).1 hm; omega
  refine ⟨?_, fun r => ?_, fun r => ?_, fun r hm => ?_, by rw [List.length_append, List.length_singleton]; have := h.ln; omega⟩
  · rw [List.nodup_append]
    refine ⟨h.nd, (List.nodup_cons.2 ⟨List.not_mem_nil, List.nodup_nil⟩), fun a ha b hb => ?_⟩
    rw [List.mem_singleton.1 hb]
    intro e; subst e; exact hn ha
  · rw [List.mem_append, List.mem_singleton, h.mem, cntR_succ]
    by_cases e : root m = r
    · rw [if_pos e]; constructor
      · intro _; omega
      · intro _; exact Or.inr e.symm
    · rw [if_neg e]; constructor
      · rintro (h1 | h1)
        · omega
        · exact absurd h1.symm e
      · intro h1; exact Or.inl (by omega)
  · rw [cntR_succ]
    by_cases e : r = root m
    · subst e; rw [upd_same, if_pos rfl]; simp
    · rw [upd_ne _ _ e, if_neg (Ne.symm e), h.sz]; simp
  · rcases List.mem_append.1 hm with h1 | h1
    · exact h.lt r h1
    · rw [List.mem_singleton.1 h1]; exact hr
theorem AllI.more {n m : Nat} {root : Nat → Nat} {all : List Nat} {f : Nat → Option Int} (h : AllI n root m all f) (h0 : 0 < cntR root m (root m)) : AllI n root (m + 1) all (upd f (root m) (some ((cntR root m (root m) : Int) + 1))) := by
  refine ⟨h.nd, fun r => ?_, fun r => ?_, h.lt, by have := h.ln; omega⟩
  · rw [h.mem, cntR_succ]
    by_cases e : root m = r
    · rw [if_pos e]; subst e; constructor
      · intro _; omega
      · intro _; exact h0
    · rw [if_neg e]; constructor
      · intro h1; omega
      · intro h1; omega
  · rw [cntR_succ]
    by_cases e : r = root m
    · subst e; rw [upd_same, if_pos rfl]; simp
    · rw [upd_ne _ _ e, if_neg (Ne.symm e), h.sz]; simp
structure BinI (N M : Nat) (p : List Nat) (load : Nat → Nat) (bin : Nat → Option Int) : Prop where
  b1 : ∀ r ∈ p, ∃ b : Nat, b < N ∧ bin r = some (b : Int)
  b2 : ∀ b, b < N → load b ≤ p.length * M
  b3 : ∀ b, b < N → 0 < load b → ∃ r ∈ p, bin r = some (b : Int)
  b4 : (∀ b, b < N → 0 < load b) ∨ p.length ≤ (List.range N).countP (fun b => decide (0 < load b))
theorem BinI.start (N M : Nat) : BinI N M [] (fun _ => 0) (fun _ => none) :=
  ⟨fun r h => (by cases h), fun b _ => Nat.zero_le _, fun b _ h => absurd h (Nat.lt_irrefl 0), Or.inr (Nat.zero_le _)⟩
theorem countP_upd_pos (load : Nat → Nat) (k v : Nat) (hv : 0 < v) (hk : load k = 0) : ∀ N, k < N → (List.range N).countP (fun b => decide (0 < upd load k v b)) = (List.range N).countP (fun b => decide (0 < load b)) + 1
  | 0, h => absurd h (Nat.not_lt_zero _)
  | N + 1, h => by
    rw [List.range_succ, List.countP_append, List.countP_append, List.countP_singleton, List.countP_singleton]
    by_cases e : k = N
    · subst e
      rw [upd_same, if_pos (decide_eq_true hv), if_neg (by rw [decide_eq_true_iff]; omega)]
      have : (List.range k).countP (fun b => decide (0 < upd load k v b)) = (List.range k).countP (fun b => decide (0 < load b)) := by
        apply List.countP_congr
        intro x hx
        rw [upd_ne _ _ (by have := List.mem_range.1 hx; omega)]
      rw [this]
    · rw [countP_upd_pos load k v hv hk N (by omega), upd_ne _ _ (Ne.symm e)]
      omega
theorem BinI.step {N M : Nat} {p : List Nat} {load : Nat → Nat} {bin : Nat → Option Int} (h : BinI N M p load bin) {r k s : Nat} (hr : r ∉ p) (hk : k < N) (hmin : ∀ b, b < N → load k ≤ load b) (hs : 0 < s) (hM : s ≤ M) :
    BinI N M (p ++ [r]) (upd load k (load k + s)) (upd bin r (some (k : Int))) := by
  have hne : ∀ q ∈ p, q ≠ r := fun q hq e => hr (e ▸ hq)
  refine ⟨fun q hq => ?_, fun b hb => ?_, fun b hb hl => ?_, ?_⟩
  · rcases List.mem_append.1 hq with h1 | h1
    · rw [upd_ne _ _ (hne q h1)]; exact h.b1 q h1
    · rw [List.mem_singleton.1 h1]; exact ⟨k, hk, upd_same _ _ _⟩
  · rw [List.length_append, List.length_singleton, Nat.add_mul, Nat.one_mul]
    by_cases e : b = k
    · subst e; rw [upd_same]; have := h.b2 b hb; omega
    · rw [upd_ne _ _ e]; have := h.b2 b hb; omega
  · by_cases e : b = k
    · subst e; exact ⟨r, by simp, upd_same _ _ _⟩
    · rw [upd_ne _ _ e] at hl
      obtain ⟨q, hq, h1⟩ := h.b3 b hb hl
      exact ⟨q, List.mem_append_left _ hq, by rw [upd_ne _ _ (hne q hq)]; exact h1⟩
  · have key : ∀ b, b < N → 0 < load b → 0 < upd load k (load k + s) b := fun b hb hl => by
      by_cases e : b = k
      · subst e; rw [upd_same]; omega
      · rw [upd_ne _ _ e]; exact hl
    rcases h.b4 with h4 | h4
    · exact Or.inl fun b hb => key b hb (h4 b hb)
    · by_cases e : load k = 0
      · refine Or.inr ?_
        rw [countP_upd_pos load k _ (by omega) e N hk, List.length_append, List.length_singleton]
        omega
      · exact Or.inl fun b hb => key b hb (by have := hmin b hb; omega)
theorem BinI.all {N M : Nat} {p : List Nat} {load : Nat → Nat} {bin : Nat → Option Int} (h : BinI N M p load bin) (hN : N ≤ p.length) : ∀ b, b < N → ∃ r ∈ p, bin r = some (b : Int) := by
  intro b hb
  rcases h.b4 with h4 | h4
  · exact h.b3 b hb (h4 b hb)
  · refine h.b3 b hb ?_
    have h1 : (List.range N).countP (fun b => decide (0 < load b)) = (List.range N).length := by
      have := List.countP_le_length (p := fun b => decide (0 < load b)) (l := List.range N)
      rw [List.length_range] at this ⊢
      omega
    have := List.countP_eq_length.1 h1 b (List.mem_range.2 hb)
    exact of_decide_eq_true this
end Go.Proofs.YtonnmkhmhndalaaDoor
end
section
namespace Go.Proofs.YtonnmkhmhndalaaDoor
set_option linter.unusedVariables false
set_option linter.unusedSimpArgs false
structure PV where
  of : List Int
  n : Int
  ah : List (List Int)
def inAt (nd : List S39) (k j : Nat) : Nat := ((nd.getD k z39).f3.getD j 0).toNat
def reachB (nd : List S39) (of : List Int) (i j : Int) (k : Nat) : Bool := decide ((nd.getD k z39).f0 = 8) && (decide (i ≠ j) && (decide (of.getD (inAt nd k 0) 0 = i) && decide (of.getD k 0 = j)))
def ahS (nd : List S39) (of : List Int) (i j : Int) : Nat → Int
  | 0 => 0
  | m + 1 => if reachB nd of i j m = true ∧ (ahS nd of i j m = 0 ∨ (nd.getD m z39).f7 < ahS nd of i j m) then (nd.getD m z39).f7 else ahS nd of i j m
structure PMay (nd : List S39) (p : PV) : Prop where
  n1 : 1 ≤ p.n
  n2 : p.n ≤ 64
  lo : p.of.length = nd.length
  la : (p.ah.length : Int) = p.n
  ofl : ∀ i, i < nd.length → 0 ≤ p.of.getD i 0 ∧ p.of.getD i 0 < p.n
  us : ∀ b : Nat, (b : Int) < p.n → ∃ i, i < nd.length ∧ p.of.getD i 0 = (b : Int)
  rl : ∀ i : Nat, (i : Int) < p.n → ((p.ah.getD i []).length : Int) = p.n
  ah : ∀ i k : Nat, (i : Int) < p.n → (k : Int) < p.n → (p.ah.getD i []).getD k 0 = ahS nd p.of i k nd.length
  one : ∀ i, i < nd.length → (nd.getD i z39).f0 ≠ 8 → ∀ v ∈ (nd.getD i z39).f3, p.of.getD v.toNat 0 = p.of.getD i 0
def ahL (nd : List S39) (of : List Int) (N : Nat) : List (List Int) := (List.range N).map fun i : Nat => (List.range N).map fun j : Nat => ahS nd of i j nd.length
theorem ahL_len (nd : List S39) (of : List Int) (N : Nat) : (ahL nd of N).length = N := by unfold ahL; rw [List.length_map, List.length_range]
theorem ahL_row (nd : List S39) (of : List Int) (N i : Nat) (h : i < N) : (ahL nd of N).getD i [] = (List.range N).map fun j : Nat => ahS nd of i j nd.length := by
  unfold ahL
  rw [List.getD_eq_getElem?_getD, List.getElem?_map, List.getElem?_range h]
  rfl
theorem ahL_at (nd : List S39) (of : List Int) (N i j : Nat) (h : i < N) (hj : j < N) : ((ahL nd of N).getD i []).getD j 0 = ahS nd of i j nd.length := by
  rw [ahL_row nd of N i h, List.getD_eq_getElem?_getD, List.getElem?_map, List.getElem?_range hj]
  rfl
theorem ah_iff (nd : List S39) (of : List Int) (N : Nat) (ah : List (List Int)) (hl : ah.length = N) : ah = ahL nd of N ↔ (∀ i : Nat, i < N → (ah.getD i []).length = N) ∧ ∀ i k : Nat, i < N → k < N → (ah.getD i []).getD k 0 = ahS nd of i k nd.length := by
  constructor
  · rintro rfl
    refine ⟨fun i hi => ?_, fun i k hi hk => ahL_at nd of N i k hi hk⟩
    rw [ahL_row nd of N i hi, List.length_map, List.length_range]
  · rintro ⟨h1, h2⟩
    apply List.ext_getElem?
    intro i
    by_cases hi : i < N
    · have e1 : ah[i]? = some (ah.getD i []) := by rw [List.getD_eq_getElem?_getD, List.getElem?_eq_getElem (by omega)]; rfl
      have e2 : (ahL nd of N)[i]? = some ((ahL nd of N).getD i []) := by rw [List.getD_eq_getElem?_getD, List.getElem?_eq_getElem (by rw [ahL_len]; exact hi)]; rfl
      rw [e1, e2]
      congr 1
      apply List.ext_getElem?
      intro k
      have l1 := h1 i hi
      have l2 : ((ahL nd of N).getD i []).length = N := by rw [ahL_row nd of N i hi, List.length_map, List.length_range]
      have a1 := fun hk => h2 i k hi hk
      have a2 := fun hk => ahL_at nd of N i k hi hk
      generalize ah.getD i [] = x at *
      generalize (ahL nd of N).getD i [] = y at *
      by_cases hk : k < N
      · have e3 : x[k]? = some (x.getD k 0) := by rw [List.getD_eq_getElem?_getD, List.getElem?_eq_getElem (by omega)]; rfl
        have e4 : y[k]? = some (y.getD k 0) := by rw [List.getD_eq_getElem?_getD, List.getElem?_eq_getElem (by omega)]; rfl
        rw [e3, e4, a1 hk, a2 hk]
      · rw [List.getElem?_eq_none (by omega), List.getElem?_eq_none (by omega)]
    · rw [List.getElem?_eq_none (by omega), List.getElem?_eq_none (by rw [ahL_len]; omega)]
theorem PMay.eq {nd : List S39} {p : PV} (h : PMay nd p) : p.ah = ahL nd p.of p.n.toNat := by
  have h1 := h.n1
  have h2 := h.la
  rw [ah_iff nd p.of p.n.toNat p.ah (by omega)]
  exact ⟨fun i hi => by have := h.rl i (by omega); omega, fun i k hi hk => h.ah i k (by omega) (by omega)⟩
theorem may_check {nd : List S39} {p : PV} : PMay nd p ↔ (1 ≤ p.n ∧ p.n ≤ 64 ∧ p.of.length = nd.length ∧ (p.ah.length : Int) = p.n) ∧ (∀ i, i < nd.length → 0 ≤ p.of.getD i 0 ∧ p.of.getD i 0 < p.n) ∧ (∀ i, i < nd.length → (nd.getD i z39).f0 ≠ 8 → ∀ v ∈ (nd.getD i z39).f3, p.of.getD v.toNat 0 = p.of.getD i 0) ∧ (∀ b : Nat, (b : Int) < p.n → ∃ i, i < nd.length ∧ p.of.getD i 0 = (b : Int)) ∧ p.ah = ahL nd p.of p.n.toNat := by
  constructor
  · intro h
    exact ⟨⟨h.n1, h.n2, h.lo, h.la⟩, h.ofl, h.one, h.us, h.eq⟩
  · rintro ⟨⟨h1, h2, h3, h4⟩, h5, h6, h7, h8⟩
    have h9 := (ah_iff nd p.of p.n.toNat p.ah (by omega)).1 h8
    exact ⟨h1, h2, h3, h4, h5, h7, fun i hi => by have := h9.1 i (by omega); omega, fun i k hi hk => h9.2 i k (by omega) (by omega), h6⟩
theorem run_may {nd : List S39} {root : Nat → Nat} {g d : Nat → Nat} {all srt : List Nat} {f bin : Nat → Option Int} {load : Nat → Nat} {N M k : Nat}
    (hU : Uf nd.length g root d) (hone : ∀ i, i < nd.length → (nd.getD i z39).f0 ≠ 8 → ∀ v ∈ (nd.getD i z39).f3, v.toNat < nd.length ∧ root v.toNat = root i)
    (hA : AllI nd.length root nd.length all f) (hS : srt.Perm all) (hN : N = min k all.length) (hk : 1 ≤ k) (hk2 : k ≤ 64) (hn : 0 < nd.length) (hB : BinI N M srt load bin) :
    PMay nd ⟨(List.range nd.length).map (fun i => (bin (root i)).getD 0), N, ahL nd ((List.range nd.length).map (fun i => (bin (root i)).getD 0)) N⟩ := by
  have hof : ∀ i, i < nd.length → ((List.range nd.length).map (fun i => (bin (root i)).getD 0)).getD i 0 = (bin (root i)).getD 0 := fun i hi => by
    rw [List.getD_eq_getElem?_getD, List.getElem?_map, List.getElem?_range hi]; rfl
  have hin : ∀ i, i < nd.length → root i ∈ srt := fun i hi => hS.mem_iff.2 ((hA.mem _).2 (cntR_pos.2 ⟨i, hi, rfl⟩))
  have hpos : 0 < all.length := List.length_pos_iff.2 (List.ne_nil_of_mem (hS.mem_iff.1 (hin 0 hn)))
  have hlen := hS.length_eq
  rw [may_check]
  refine ⟨⟨by show (1 : Int) ≤ N; omega, by show (N : Int) ≤ 64; omega, by rw [List.length_map, List.length_range], by rw [ahL_len]⟩, fun i hi => ?_, fun i hi h8 v hv => ?_, fun b hb => ?_, by show _ = ahL _ _ (N : Int).toNat; rw [Int.toNat_natCast]⟩
  · obtain ⟨b, hb, e⟩ := hB.b1 _ (hin i hi)
    show 0 ≤ ((List.range nd.length).map (fun i => (bin (root i)).getD 0)).getD i 0 ∧ ((List.range nd.length).map (fun i => (bin (root i)).getD 0)).getD i 0 < (N : Int)
    rw [hof i hi, e]
    show 0 ≤ (b : Int) ∧ (b : Int) < N
    omega
  · obtain ⟨h1, h2⟩ := hone i hi h8 v hv
    show ((List.range nd.length).map (fun i => (bin (root i)).getD 0)).getD v.toNat 0 = ((List.range nd.length).map (fun i => (bin (root i)).getD 0)).getD i 0
    rw [hof _ h1, hof i hi, h2]
  · have hb' : b < N := by have : (b : Int) < (N : Int) := hb; omega
    obtain ⟨r, hr, e⟩ := hB.all (by omega) b hb'
    obtain ⟨j, hj, rfl⟩ := cntR_pos.1 ((hA.mem r).1 (hS.mem_iff.1 hr))
    refine ⟨j, hj, ?_⟩
    show ((List.range nd.length).map (fun i => (bin (root i)).getD 0)).getD j 0 = (b : Int)
    rw [hof j hj, e]
    rfl
end Go.Proofs.YtonnmkhmhndalaaDoor
end
section
namespace Go.Proofs.YtonnmkhmhndalaaDoor
set_option linter.unusedVariables false
set_option linter.unusedSimpArgs false
section
variable {α : Type}
def sw (z : α) (l : List α) (i j : Nat) : List α := (l.set i (l.getD j z)).set j (l.getD i z)
theorem sw_length (z : α) (l : List α) (i j : Nat) : (sw z l i j).length = l.length := by unfold sw; rw [List.length_set, List.length_set]
theorem getD_mid (z : α) (A B : List α) (x : α) : (A ++ x :: B).getD A.length z = x := by
  rw [List.getD_eq_getElem?_getD, List.getElem?_append_right (Nat.le_refl _), Nat.sub_self]
  rfl
theorem set_mid (A B : List α) (x y : α) : (A ++ x :: B).set A.length y = A ++ y :: B := by
  rw [List.set_append_right _ _ (Nat.le_refl _), Nat.sub_self]
  rfl
theorem sw_mid (z : α) (A B C : List α) (x y : α) : sw z (A ++ x :: (B ++ y :: C)) A.length (A.length + 1 + B.length) = A ++ y :: (B ++ x :: C) := by
  have h1 : (A ++ x :: (B ++ y :: C)).getD (A.length + 1 + B.length) z = y := by
    have e : A ++ x :: (B ++ y :: C) = (A ++ x :: B) ++ y :: C := by simp
    have hl : (A ++ x :: B).length = A.length + 1 + B.length := by simp; omega
    rw [e, ← hl]; exact getD_mid z _ _ _
  unfold sw
  rw [h1, getD_mid, set_mid]
  have e : A ++ y :: (B ++ y :: C) = (A ++ y :: B) ++ y :: C := by simp
  have hl : (A ++ y :: B).length = A.length + 1 + B.length := by simp; omega
  rw [e, ← hl, set_mid]
  simp
theorem sw_comm (z : α) (l : List α) (i j : Nat) (h : i ≠ j) : sw z l i j = sw z l j i := by
  unfold sw
  exact List.set_comm _ _ h
theorem sw_getD (z : α) (l : List α) (i j k : Nat) (hi : i ≠ k) (hj : j ≠ k) : (sw z l i j).getD k z = l.getD k z := by
  unfold sw
  rw [List.getD_eq_getElem?_getD, List.getElem?_set_ne hj, List.getElem?_set_ne hi, ← List.getD_eq_getElem?_getD]
theorem sw_getD_j (z : α) (l : List α) (i j : Nat) (hj : j < l.length) : (sw z l i j).getD j z = l.getD i z := by
  unfold sw
  rw [List.getD_eq_getElem?_getD, List.getElem?_set_self (by rw [List.length_set]; exact hj)]
  rfl
def swapR (z : α) (l : List α) (a b : Nat) : Nat → List α
  | 0 => l
  | n + 1 => sw z (swapR z l a b n) (a + n) (b + n)
theorem swapR_length (z : α) (l : List α) (a b : Nat) : ∀ n, (swapR z l a b n).length = l.length
  | 0 => rfl
  | n + 1 => (sw_length _ _ _ _).trans (swapR_length z l a b n)
theorem swapR_eq (z : α) (P : List α) : ∀ (n : Nat) (M U V S : List α), U.length = n → V.length = n → swapR z (P ++ (U ++ (M ++ (V ++ S)))) P.length (P.length + n + M.length) n = P ++ (V ++ (M ++ (U ++ S)))
  | 0, M, U, V, S, hu, hv => by
    rw [List.length_eq_zero_iff.1 hu, List.length_eq_zero_iff.1 hv]
    rfl
  | n + 1, M, U, V, S, hu, hv => by
    obtain ⟨U', u, rfl⟩ : ∃ U' u, U = U' ++ [u] := by
      rcases List.eq_nil_or_concat U with h | ⟨U', u, h⟩
      · rw [h] at hu; cases hu
      · exact ⟨U', u, by rw [h, List.concat_eq_append]⟩
    obtain ⟨V', v, rfl⟩ : ∃ V' v, V = V' ++ [v] := by
      rcases List.eq_nil_or_concat V with h | ⟨V', v, h⟩
      · rw [h] at hv; cases hv
      · exact ⟨V', v, by rw [h, List.concat_eq_append]⟩
    have hu' : U'.length = n := by simpa using hu
    have hv' : V'.length = n := by simpa using hv
    have ih := swapR_eq z P n (u :: M) U' V' (v :: S) hu' hv'
    have e1 : P ++ ((U' ++ [u]) ++ (M ++ ((V' ++ [v]) ++ S))) = P ++ (U' ++ ((u :: M) ++ (V' ++ (v :: S)))) := by simp
    have e2 : P.length + n + (u :: M).length = P.length + (n + 1) + M.length := by simp; omega
    rw [e2] at ih
    show sw z (swapR z _ _ _ n) (P.length + n) (P.length + (n + 1) + M.length + n) = _
    rw [e1, ih]
    have e3 : P ++ (V' ++ ((u :: M) ++ (U' ++ (v :: S)))) = (P ++ V') ++ u :: ((M ++ U') ++ v :: S) := by simp
    have h1 : (P ++ V').length = P.length + n := by rw [List.length_append, hv']
    have h2 : (P ++ V').length + 1 + (M ++ U').length = P.length + (n + 1) + M.length + n := by rw [List.length_append, List.length_append, hv', hu']; omega
    rw [e3, ← h1, ← h2, sw_mid]
    simp
def upS (z : α) (l : List α) (a : Nat) : Nat → List α
  | 0 => l
  | n + 1 => sw z (upS z l a n) (a + n) (a + n + 1)
theorem upS_length (z : α) (l : List α) (a : Nat) : ∀ n, (upS z l a n).length = l.length
  | 0 => rfl
  | n + 1 => (sw_length _ _ _ _).trans (upS_length z l a n)
theorem upS_eq (z : α) (P : List α) (x : α) : ∀ (n : Nat) (U S : List α), U.length = n → upS z (P ++ x :: (U ++ S)) P.length n = P ++ (U ++ x :: S)
  | 0, U, S, hu => by rw [List.length_eq_zero_iff.1 hu]; rfl
  | n + 1, U, S, hu => by
    obtain ⟨U', u, rfl⟩ : ∃ U' u, U = U' ++ [u] := by
      rcases List.eq_nil_or_concat U with h | ⟨U', u, h⟩
      · rw [h] at hu; cases hu
      · exact ⟨U', u, by rw [h, List.concat_eq_append]⟩
    have hu' : U'.length = n := by simpa using hu
    have ih := upS_eq z P x n U' (u :: S) hu'
    have e1 : P ++ x :: ((U' ++ [u]) ++ S) = P ++ x :: (U' ++ (u :: S)) := by simp
    show sw z (upS z _ _ n) (P.length + n) (P.length + n + 1) = _
    rw [e1, ih]
    have e3 : P ++ (U' ++ x :: (u :: S)) = (P ++ U') ++ x :: (([] : List α) ++ u :: S) := by simp
    have h1 : (P ++ U').length = P.length + n := by rw [List.length_append, hu']
    have h2 : (P ++ U').length + 1 + ([] : List α).length = P.length + n + 1 := by rw [h1]; rfl
    rw [e3, ← h1]
    have := sw_mid z (P ++ U') [] S x u
    rw [show (P ++ U').length + 1 + ([] : List α).length = (P ++ U').length + 1 from rfl] at this
    rw [this]
    simp
def dnS (z : α) (l : List α) (m : Nat) : Nat → List α
  | 0 => l
  | n + 1 => sw z (dnS z l m n) (m - n) (m - n - 1)
theorem dnS_length (z : α) (l : List α) (m : Nat) : ∀ n, (dnS z l m n).length = l.length
  | 0 => rfl
  | n + 1 => (sw_length _ _ _ _).trans (dnS_length z l m n)
theorem dnS_eq (z : α) (P : List α) (x : α) : ∀ (n : Nat) (U S : List α), U.length = n → dnS z (P ++ (U ++ x :: S)) (P.length + n) n = P ++ x :: (U ++ S) := by
  intro n
  induction n generalizing P with
  | zero => intro U S hu; rw [List.length_eq_zero_iff.1 hu]; rfl
  | succ n ih =>
    intro U S hu
    cases U with
    | nil => cases hu
    | cons u U' =>
      have hu' : U'.length = n := by simpa using hu
      have h := ih (P ++ [u]) U' S hu'
      have e1 : P ++ ((u :: U') ++ x :: S) = (P ++ [u]) ++ (U' ++ x :: S) := by simp
      have e2 : (P ++ [u]).length + n = P.length + (n + 1) := by simp; omega
      rw [e2] at h
      show sw z (dnS z _ _ n) (P.length + (n + 1) - n) (P.length + (n + 1) - n - 1) = _
      rw [e1, h, show P.length + (n + 1) - n - 1 = P.length from by omega, show P.length + (n + 1) - n = P.length + 1 from by omega]
      have e3 : (P ++ [u]) ++ x :: (U' ++ S) = P ++ u :: (([] : List α) ++ x :: (U' ++ S)) := by simp
      rw [e3, sw_comm z _ _ _ (by omega)]
      have := sw_mid z P [] (U' ++ S) u x
      rw [show P.length + 1 + ([] : List α).length = P.length + 1 from rfl] at this
      rw [this]
      simp
theorem dnS_low (z : α) (l : List α) (m : Nat) : ∀ n k, n ≤ m → k < m - n → (dnS z l m n).getD k z = l.getD k z
  | 0, k, _, _ => rfl
  | n + 1, k, hn, hk => by
    show (sw z (dnS z l m n) (m - n) (m - n - 1)).getD k z = _
    rw [sw_getD z _ _ _ k (by omega) (by omega), dnS_low z l m n k (by omega) (by omega)]
theorem dnS_at (z : α) (l : List α) (m : Nat) (hm : m < l.length) : ∀ n, n ≤ m → (dnS z l m n).getD (m - n) z = l.getD m z
  | 0, _ => rfl
  | n + 1, hn => by
    show (sw z (dnS z l m n) (m - n) (m - n - 1)).getD (m - (n + 1)) z = _
    rw [show m - (n + 1) = m - n - 1 from by omega, sw_getD_j z _ _ _ (by rw [dnS_length]; omega), dnS_at z l m hm n (by omega)]
def seg (l : List α) (a b : Nat) : List α := (l.drop a).take (b - a)
theorem seg_length (l : List α) {a b : Nat} (h1 : a ≤ b) (h2 : b ≤ l.length) : (seg l a b).length = b - a := by
  unfold seg
  rw [List.length_take, List.length_drop]
  omega
theorem seg_split (l : List α) {a m b : Nat} (h1 : a ≤ m) (h2 : m ≤ b) (h3 : b ≤ l.length) : seg l a b = seg l a m ++ seg l m b := by
  unfold seg
  have e : b - a = (m - a) + (b - m) := by omega
  rw [e, List.take_add, List.drop_drop, show a + (m - a) = m from by omega]
theorem split3 (l : List α) {a b : Nat} (h1 : a ≤ b) (h2 : b ≤ l.length) : l = l.take a ++ (seg l a b ++ l.drop b) := by
  have e1 : l.drop b = (l.drop a).drop (b - a) := by rw [List.drop_drop, show a + (b - a) = b from by omega]
  unfold seg
  rw [e1, List.take_append_drop, List.take_append_drop]
theorem split4 (l : List α) {a m b : Nat} (h1 : a ≤ m) (h2 : m ≤ b) (h3 : b ≤ l.length) : l = l.take a ++ (seg l a m ++ (seg l m b ++ l.drop b)) := by
  conv => lhs; rw [split3 l (Nat.le_trans h1 h2) h3, seg_split l h1 h2 h3]
  rw [List.append_assoc]
theorem seg_of (P X S : List α) : seg (P ++ (X ++ S)) P.length (P.length + X.length) = X := by
  unfold seg
  rw [List.drop_left, show P.length + X.length - P.length = X.length from by omega, List.take_left]
def rotL (l : List α) (a m b : Nat) : List α := l.take a ++ (seg l m b ++ (seg l a m ++ l.drop b))
theorem rotL_of (P U V S : List α) : rotL (P ++ (U ++ (V ++ S))) P.length (P.length + U.length) (P.length + U.length + V.length) = P ++ (V ++ (U ++ S)) := by
  unfold rotL
  have e1 : (P ++ (U ++ (V ++ S))).take P.length = P := List.take_left
  have e2 : seg (P ++ (U ++ (V ++ S))) P.length (P.length + U.length) = U := seg_of P U (V ++ S)
  have e3 : seg (P ++ (U ++ (V ++ S))) (P.length + U.length) (P.length + U.length + V.length) = V := by
    have := seg_of (P ++ U) V S
    rwa [List.length_append, List.append_assoc] at this
  have e4 : (P ++ (U ++ (V ++ S))).drop (P.length + U.length + V.length) = S := by
    have e : P ++ (U ++ (V ++ S)) = (P ++ (U ++ V)) ++ S := by simp
    have hl : P.length + U.length + V.length = (P ++ (U ++ V)).length := by simp; omega
    rw [e, hl, List.drop_left]
  rw [e1, e2, e3, e4]
def RotI (cur tgt : List α) (m i j : Nat) : Prop := ∃ P U V S : List α, cur = P ++ (U ++ (V ++ S)) ∧ tgt = P ++ (V ++ (U ++ S)) ∧ U.length = i ∧ V.length = j ∧ P.length + i = m
theorem RotI.start (l : List α) {a m b : Nat} (h1 : a ≤ m) (h2 : m ≤ b) (h3 : b ≤ l.length) : RotI l (rotL l a m b) m (m - a) (b - m) :=
  ⟨l.take a, seg l a m, seg l m b, l.drop b, split4 l h1 h2 h3, rfl, seg_length l h1 (by omega), seg_length l h2 h3, by rw [List.length_take]; omega⟩
theorem RotI.more {cur tgt : List α} {m i j : Nat} (z : α) (h : RotI cur tgt m i j) (hij : j < i) : RotI (swapR z cur (m - i) m j) tgt m (i - j) j := by
  obtain ⟨P, U, V, S, rfl, rfl, hu, hv, hp⟩ := h
  have e : U = U.take j ++ U.drop j := (List.take_append_drop j U).symm
  obtain ⟨U1, hU1⟩ : ∃ U1, U.take j = U1 := ⟨_, rfl⟩
  obtain ⟨U2, hU2⟩ : ∃ U2, U.drop j = U2 := ⟨_, rfl⟩
  have l1 : U1.length = j := by rw [← hU1, List.length_take]; omega
  have l2 : U2.length = i - j := by rw [← hU2, List.length_drop]; omega
  rw [hU1, hU2] at e
  subst e
  have hs := swapR_eq z P j U2 U1 V S l1 hv
  have e1 : P ++ ((U1 ++ U2) ++ (V ++ S)) = P ++ (U1 ++ (U2 ++ (V ++ S))) := by simp
  rw [e1, show m - i = P.length from by omega, show m = P.length + j + U2.length from by omega, hs]
  exact ⟨P ++ V, U2, U1, S, by simp, by simp, l2, l1, by rw [List.length_append]; omega⟩
theorem RotI.less {cur tgt : List α} {m i j : Nat} (z : α) (h : RotI cur tgt m i j) (hij : i < j) : RotI (swapR z cur (m - i) (m + j - i) i) tgt m i (j - i) := by
  obtain ⟨P, U, V, S, rfl, rfl, hu, hv, hp⟩ := h
  have e : V = V.take (j - i) ++ V.drop (j - i) := (List.take_append_drop _ V).symm
  obtain ⟨V1, hV1⟩ : ∃ V1, V.take (j - i) = V1 := ⟨_, rfl⟩
  obtain ⟨V2, hV2⟩ : ∃ V2, V.drop (j - i) = V2 := ⟨_, rfl⟩
  have l1 : V1.length = j - i := by rw [← hV1, List.length_take]; omega
  have l2 : V2.length = i := by rw [← hV2, List.length_drop]; omega
  rw [hV1, hV2] at e
  subst e
  have hs := swapR_eq z P i V1 U V2 S hu l2
  have e1 : P ++ (U ++ ((V1 ++ V2) ++ S)) = P ++ (U ++ (V1 ++ (V2 ++ S))) := by simp
  rw [e1, show m - i = P.length from by omega, show m + j - i = P.length + i + V1.length from by omega, hs]
  exact ⟨P, V2, V1, U ++ S, by simp, by simp, l2, l1, by omega⟩
theorem RotI.last {cur tgt : List α} {m i : Nat} (z : α) (h : RotI cur tgt m i i) : swapR z cur (m - i) m i = tgt := by
  obtain ⟨P, U, V, S, rfl, rfl, hu, hv, hp⟩ := h
  have hs := swapR_eq z P i [] U V S hu hv
  rw [show m - i = P.length from by omega, show m = P.length + i + ([] : List α).length from by simp; omega]
  exact hs
theorem rotL_length (l : List α) {a m b : Nat} (h1 : a ≤ m) (h2 : m ≤ b) (h3 : b ≤ l.length) : (rotL l a m b).length = l.length := by
  unfold rotL
  rw [List.length_append, List.length_append, List.length_append, seg_length l h1 (by omega), seg_length l h2 h3, List.length_take, List.length_drop]
  omega
end
end Go.Proofs.YtonnmkhmhndalaaDoor
end
section
namespace Go.Proofs.YtonnmkhmhndalaaDoor
set_option linter.unusedVariables false
set_option linter.unusedSimpArgs false
section
variable {α : Type}
structure OrdL (lt : α → α → Bool) : Prop where
  asym : ∀ a b, lt a b = true → lt b a = false
  trans : ∀ a b c, lt b a = false → lt c b = false → lt c a = false
theorem OrdL.refl {lt : α → α → Bool} (h : OrdL lt) (a : α) : lt a a = false := by
  cases e : lt a a
  · rfl
  · rw [← h.asym a a e, e]
def Srt (lt : α → α → Bool) (l : List α) : Prop := l.Pairwise (fun a b => lt b a = false)
theorem Srt.nil (lt : α → α → Bool) : Srt lt [] := List.Pairwise.nil
theorem Srt.one (lt : α → α → Bool) (a : α) : Srt lt [a] := List.pairwise_singleton _ _
theorem Srt.left {lt : α → α → Bool} {A B : List α} (h : Srt lt (A ++ B)) : Srt lt A := (List.pairwise_append.1 h).1
theorem Srt.right {lt : α → α → Bool} {A B : List α} (h : Srt lt (A ++ B)) : Srt lt B := (List.pairwise_append.1 h).2.1
theorem Srt.cross {lt : α → α → Bool} {A B : List α} (h : Srt lt (A ++ B)) : ∀ a ∈ A, ∀ b ∈ B, lt b a = false := (List.pairwise_append.1 h).2.2
theorem Srt.join {lt : α → α → Bool} {A B : List α} (h1 : Srt lt A) (h2 : Srt lt B) (h : ∀ a ∈ A, ∀ b ∈ B, lt b a = false) : Srt lt (A ++ B) := List.pairwise_append.2 ⟨h1, h2, h⟩
theorem Srt.last {lt : α → α → Bool} (ho : OrdL lt) {A : List α} {w : α} (h : Srt lt (A ++ [w])) : ∀ y ∈ A ++ [w], lt w y = false := by
  intro y hy
  rcases List.mem_append.1 hy with hy | hy
  · exact h.cross y hy w (List.mem_singleton.2 rfl)
  · rw [List.mem_singleton.1 hy]; exact ho.refl w
theorem Srt.head {lt : α → α → Bool} (ho : OrdL lt) {A : List α} {w : α} (h : Srt lt (w :: A)) : ∀ y ∈ w :: A, lt y w = false := by
  intro y hy
  rcases List.mem_cons.1 hy with rfl | hy
  · exact ho.refl y
  · exact (List.pairwise_cons.1 h).1 y hy
theorem le_all {lt : α → α → Bool} (ho : OrdL lt) {A : List α} (h : Srt lt A) {x : α} (hx : A = [] ∨ ∃ A' w, A = A' ++ [w] ∧ lt x w = false) : ∀ y ∈ A, lt x y = false := by
  rcases hx with rfl | ⟨A', w, rfl, hw⟩
  · intro y hy; cases hy
  · intro y hy
    exact ho.trans y w x (h.last ho y hy) hw
theorem ge_all {lt : α → α → Bool} (ho : OrdL lt) {A : List α} (h : Srt lt A) {x : α} (hx : A = [] ∨ ∃ w A', A = w :: A' ∧ lt w x = false) : ∀ y ∈ A, lt y x = false := by
  rcases hx with rfl | ⟨w, A', rfl, hw⟩
  · intro y hy; cases hy
  · intro y hy
    exact ho.trans x w y hw (h.head ho y hy)
theorem put_mid {lt : α → α → Bool} {A B : List α} {x : α} (h : Srt lt (A ++ B)) (h1 : ∀ y ∈ A, lt x y = false) (h2 : ∀ y ∈ B, lt y x = false) : Srt lt (A ++ x :: B) := by
  refine Srt.join h.left (List.pairwise_cons.2 ⟨h2, h.right⟩) ?_
  intro a ha b hb
  rcases List.mem_cons.1 hb with rfl | hb
  · exact h1 a ha
  · exact h.cross a ha b hb
theorem snoc_of {A : List α} (h : A ≠ []) : ∃ A' w, A = A' ++ [w] := by
  rcases List.eq_nil_or_concat A with h' | ⟨A', w, h'⟩
  · exact absurd h' h
  · exact ⟨A', w, by rw [h', List.concat_eq_append]⟩
theorem cons_of {A : List α} (h : A ≠ []) : ∃ w A', A = w :: A' := by
  cases A with
  | nil => exact absurd rfl h
  | cons w A' => exact ⟨w, A', rfl⟩
theorem ne_nil_of {A : List α} (h : 0 < A.length) : A ≠ [] := by intro e; rw [e] at h; cases h
theorem cut_at (A : List α) {n : Nat} (h : n ≤ A.length) : ∃ B C, A = B ++ C ∧ B.length = n ∧ C.length = A.length - n :=
  ⟨A.take n, A.drop n, (List.take_append_drop n A).symm, by rw [List.length_take]; omega, List.length_drop⟩
def InsStep (lt : α → α → Bool) (z : α) (a i : Nat) (l l' : List α) : Prop :=
  ∃ n, a + n ≤ i ∧ l' = dnS z l i n ∧ (∀ k, k < n → lt (l.getD i z) (l.getD (i - 1 - k) z) = true) ∧ (a + n = i ∨ lt (l.getD i z) (l.getD (i - n - 1) z) = false)
theorem ins_step {lt : α → α → Bool} (ho : OrdL lt) {z : α} {a i : Nat} {l' : List α} {P Y T : List α} {x : α} (h : InsStep lt z a i (P ++ (Y ++ x :: T)) l') (hP : P.length = a) (hY : P.length + Y.length = i) (hs : Srt lt Y) :
    ∃ Y', l' = P ++ (Y' ++ T) ∧ Srt lt Y' ∧ Y'.Perm (Y ++ [x]) := by
  obtain ⟨n, hn, rfl, h1, h2⟩ := h
  obtain ⟨Y1, Y2, rfl, l1, l2⟩ := cut_at Y (n := Y.length - n) (by omega)
  have l2' : Y2.length = n := by rw [l2]; omega
  rw [List.length_append] at hY
  have hx : (P ++ ((Y1 ++ Y2) ++ x :: T)).getD i z = x := by
    have e : P ++ ((Y1 ++ Y2) ++ x :: T) = (P ++ (Y1 ++ Y2)) ++ x :: T := by simp
    have hl : i = (P ++ (Y1 ++ Y2)).length := by rw [List.length_append, List.length_append]; omega
    rw [e, hl, getD_mid]
  rw [hx] at h1 h2
  have hd := dnS_eq z (P ++ Y1) x n Y2 T l2'
  have e1 : P ++ ((Y1 ++ Y2) ++ x :: T) = (P ++ Y1) ++ (Y2 ++ x :: T) := by simp
  have e2 : i = (P ++ Y1).length + n := by rw [List.length_append]; omega
  refine ⟨Y1 ++ x :: Y2, ?_, ?_, ?_⟩
  · rw [e1, e2, hd]
    simp
  · refine put_mid hs (le_all ho hs.left ?_) ?_
    · rcases h2 with h2 | h2
      · left
        refine List.length_eq_zero_iff.1 ?_
        omega
      · by_cases h0 : Y1 = []
        · exact Or.inl h0
        · right
          obtain ⟨A', w, rfl⟩ := snoc_of h0
          refine ⟨A', w, rfl, ?_⟩
          have e : P ++ (((A' ++ [w]) ++ Y2) ++ x :: T) = (P ++ A') ++ w :: (Y2 ++ x :: T) := by simp
          have hl : i - n - 1 = (P ++ A').length := by rw [List.length_append]; simp only [List.length_append, List.length_cons, List.length_nil] at l1 hY; omega
          rw [e, hl, getD_mid] at h2
          exact h2
    · intro y hy
      obtain ⟨B, C, rfl⟩ := List.append_of_mem hy
      have hk := h1 (n - 1 - B.length) (by simp only [List.length_append, List.length_cons] at l2'; omega)
      have e : P ++ ((Y1 ++ (B ++ y :: C)) ++ x :: T) = (P ++ (Y1 ++ B)) ++ y :: (C ++ x :: T) := by simp
      have hl : i - 1 - (n - 1 - B.length) = (P ++ (Y1 ++ B)).length := by
        rw [List.length_append, List.length_append]
        simp only [List.length_append, List.length_cons] at l2' hY
        omega
      rw [e, hl, getD_mid] at hk
      exact ho.asym _ _ hk
  · have : (Y1 ++ x :: Y2).Perm (x :: (Y1 ++ Y2)) := List.perm_middle
    exact this.trans (List.perm_append_singleton x (Y1 ++ Y2)).symm
inductive InsTo (lt : α → α → Bool) (z : α) (a : Nat) (l0 : List α) : Nat → List α → Prop
  | base : InsTo lt z a l0 (a + 1) l0
  | step {i : Nat} {l l' : List α} : InsTo lt z a l0 i l → InsStep lt z a i l l' → InsTo lt z a l0 (i + 1) l'
theorem InsTo.low {lt : α → α → Bool} {z : α} {a i : Nat} {l0 l : List α} (h : InsTo lt z a l0 i l) : a + 1 ≤ i := by
  induction h with
  | base => exact Nat.le_refl _
  | step _ _ ih => omega
theorem InsTo.length {lt : α → α → Bool} {z : α} {a i : Nat} {l0 l : List α} (h : InsTo lt z a l0 i l) : l.length = l0.length := by
  induction h with
  | base => rfl
  | step _ hs ih =>
    obtain ⟨n, -, rfl, -, -⟩ := hs
    rw [dnS_length, ih]
theorem InsTo.sorts {lt : α → α → Bool} (ho : OrdL lt) {z : α} {a i : Nat} {l : List α} {P X S : List α} (h : InsTo lt z a (P ++ (X ++ S)) i l) (hP : P.length = a) : i ≤ a + X.length → ∃ Y, l = P ++ (Y ++ (X.drop (i - a) ++ S)) ∧ Srt lt Y ∧ Y.Perm (X.take (i - a)) := by
  induction h with
  | base =>
    intro hi
    cases X with
    | nil => exact absurd hi (by simp only [List.length_nil]; omega)
    | cons x X' =>
      rw [show a + 1 - a = 1 from by omega]
      exact ⟨[x], by simp, Srt.one lt x, by simp⟩
  | @step i l l' hto hs ih =>
    intro hi
    have hlo := hto.low
    obtain ⟨Y, rfl, h1, h2⟩ := ih (by omega)
    obtain ⟨x, T, hx⟩ := cons_of (ne_nil_of (A := X.drop (i - a)) (by rw [List.length_drop]; omega))
    have hd : X.drop (i + 1 - a) = T := by
      have : X.drop (i + 1 - a) = (X.drop (i - a)).drop 1 := by rw [List.drop_drop]; congr 1; omega
      rw [this, hx]; rfl
    have ht : X.take (i + 1 - a) = X.take (i - a) ++ [x] := by
      have e : i + 1 - a = (i - a) + 1 := by omega
      rw [e, List.take_add, hx]
      rfl
    rw [hx] at hs
    have e : P ++ (Y ++ ((x :: T) ++ S)) = P ++ (Y ++ x :: (T ++ S)) := by simp
    rw [e] at hs
    have hyl : Y.length = i - a := by rw [h2.length_eq, List.length_take]; omega
    obtain ⟨Y', h3, h4, h5⟩ := ins_step ho hs hP (by omega) h1
    refine ⟨Y', by rw [h3, hd], h4, ?_⟩
    rw [ht]
    exact h5.trans (h2.append_right [x])
inductive Sym (lt : α → α → Bool) (z : α) : Nat → Nat → Nat → List α → List α → Prop
  | left {a b i : Nat} {l : List α} : a + 1 ≤ i → i ≤ b → (i = a + 1 ∨ lt (l.getD (i - 1) z) (l.getD a z) = true) → (i = b ∨ lt (l.getD i z) (l.getD a z) = false) → Sym lt z a (a + 1) b l (upS z l a (i - 1 - a))
  | right {a m i : Nat} {l : List α} : a ≤ i → i ≤ m → (i = a ∨ lt (l.getD m z) (l.getD (i - 1) z) = false) → (i = m ∨ lt (l.getD m z) (l.getD i z) = true) → Sym lt z a m (m + 1) l (dnS z l m (m - i))
  | gen {a m b mid lo hi s e : Nat} {l l1 l2 l3 : List α} : mid = (a + b) / 2 → (m ≤ mid ∧ lo = a ∧ hi = m ∨ mid < m ∧ lo = mid + m - b ∧ hi = mid) → lo ≤ s → s ≤ hi → e = mid + m - s →
      (s = lo ∨ lt (l.getD e z) (l.getD (s - 1) z) = false) → (s = hi ∨ lt (l.getD (e - 1) z) (l.getD s z) = true) →
      (s < m ∧ m < e ∧ l1 = rotL l s m e ∨ ¬ (s < m ∧ m < e) ∧ l1 = l) →
      (¬ (a < s ∧ s < mid) → l2 = l1) → (a < s ∧ s < mid → Sym lt z a s mid l1 l2) →
      (¬ (mid < e ∧ e < b) → l3 = l2) → (mid < e ∧ e < b → Sym lt z mid e b l2 l3) → Sym lt z a m b l l3
set_option maxHeartbeats 4000000 in
theorem Sym.merges {lt : α → α → Bool} (ho : OrdL lt) {z : α} {a m b : Nat} {l l' : List α} (h : Sym lt z a m b l l') :
    ∀ (P X Y S : List α), l = P ++ (X ++ (Y ++ S)) → P.length = a → P.length + X.length = m → P.length + X.length + Y.length = b → 0 < X.length → 0 < Y.length → Srt lt X → Srt lt Y → ∃ Z, l' = P ++ (Z ++ S) ∧ Z.Perm (X ++ Y) ∧ Srt lt Z := by
  induction h with
  | @left a b i l h1 h2 h3 h4 =>
    intro P X Y S hl hP hX hY hx0 hy0 hsx hsy
    obtain ⟨x, X', rfl⟩ := cons_of (ne_nil_of hx0)
    obtain rfl : X' = [] := List.length_eq_zero_iff.1 (by simp only [List.length_cons] at hX; omega)
    obtain ⟨Y1, Y2, rfl, l1, l2⟩ := cut_at Y (n := i - (a + 1)) (by simp only [List.length_cons, List.length_nil] at hX hY; omega)
    have hxa : l.getD a z = x := by
      rw [hl, ← hP]
      exact getD_mid z P _ x
    rw [hxa] at h3 h4
    have hu := upS_eq z P x (i - 1 - a) Y1 (Y2 ++ S) (by omega)
    refine ⟨Y1 ++ x :: Y2, ?_, ?_, ?_⟩
    · rw [hl, ← hP]
      have e : P ++ ([x] ++ ((Y1 ++ Y2) ++ S)) = P ++ x :: (Y1 ++ (Y2 ++ S)) := by simp
      rw [hP, e]
      rw [hP] at hu
      rw [hu]
      simp
    · exact List.perm_middle
    · refine put_mid hsy (le_all ho hsy.left ?_) (ge_all ho hsy.right ?_)
      · rcases h3 with h3 | h3
        · exact Or.inl (List.length_eq_zero_iff.1 (by omega))
        · by_cases h0 : Y1 = []
          · exact Or.inl h0
          · right
            obtain ⟨A', w, rfl⟩ := snoc_of h0
            refine ⟨A', w, rfl, ?_⟩
            have e : l = (P ++ (x :: A')) ++ w :: (Y2 ++ S) := by rw [hl]; simp
            have hlen : i - 1 = (P ++ (x :: A')).length := by simp only [List.length_append, List.length_cons, List.length_nil] at l1 ⊢; omega
            rw [e, hlen, getD_mid] at h3
            exact ho.asym _ _ h3
      · rcases h4 with h4 | h4
        · exact Or.inl (List.length_eq_zero_iff.1 (by simp only [List.length_append, List.length_cons, List.length_nil] at hX hY l2; omega))
        · by_cases h0 : Y2 = []
          · exact Or.inl h0
          · right
            obtain ⟨w, A', rfl⟩ := cons_of h0
            refine ⟨w, A', rfl, ?_⟩
            have e : l = (P ++ (x :: Y1)) ++ w :: (A' ++ S) := by rw [hl]; simp
            have hlen : i = (P ++ (x :: Y1)).length := by simp only [List.length_append, List.length_cons] at ⊢; omega
            rw [e, hlen, getD_mid] at h4
            exact h4
  | @right a m i l h1 h2 h3 h4 =>
    intro P X Y S hl hP hX hY hx0 hy0 hsx hsy
    obtain ⟨y, Y', rfl⟩ := cons_of (ne_nil_of hy0)
    obtain rfl : Y' = [] := List.length_eq_zero_iff.1 (by simp only [List.length_cons] at hY; omega)
    obtain ⟨X1, X2, rfl, l1, l2⟩ := cut_at X (n := i - a) (by omega)
    rw [List.length_append] at hX
    have hym : l.getD m z = y := by
      have e : l = (P ++ (X1 ++ X2)) ++ y :: S := by rw [hl]; simp
      have hlen : m = (P ++ (X1 ++ X2)).length := by rw [List.length_append, List.length_append]; omega
      rw [e, hlen, getD_mid]
    rw [hym] at h3 h4
    have hd := dnS_eq z (P ++ X1) y (m - i) X2 S (by omega)
    refine ⟨X1 ++ y :: X2, ?_, ?_, ?_⟩
    · have e : l = (P ++ X1) ++ (X2 ++ y :: S) := by rw [hl]; simp
      have hlen : m = (P ++ X1).length + (m - i) := by rw [List.length_append]; omega
      rw [e]
      rw [← hlen] at hd
      rw [hd]
      simp
    · have : (X1 ++ y :: X2).Perm (y :: (X1 ++ X2)) := List.perm_middle
      exact this.trans (List.perm_append_singleton y (X1 ++ X2)).symm
    · refine put_mid hsx (le_all ho hsx.left ?_) (ge_all ho hsx.right ?_)
      · rcases h3 with h3 | h3
        · exact Or.inl (List.length_eq_zero_iff.1 (by omega))
        · by_cases h0 : X1 = []
          · exact Or.inl h0
          · right
            obtain ⟨A', w, rfl⟩ := snoc_of h0
            refine ⟨A', w, rfl, ?_⟩
            have e : l = (P ++ A') ++ w :: (X2 ++ (y :: S)) := by rw [hl]; simp
            have hlen : i - 1 = (P ++ A').length := by simp only [List.length_append, List.length_cons, List.length_nil] at l1 ⊢; omega
            rw [e, hlen, getD_mid] at h3
            exact h3
      · rcases h4 with h4 | h4
        · exact Or.inl (List.length_eq_zero_iff.1 (by omega))
        · by_cases h0 : X2 = []
          · exact Or.inl h0
          · right
            obtain ⟨w, A', rfl⟩ := cons_of h0
            refine ⟨w, A', rfl, ?_⟩
            have e : l = (P ++ X1) ++ w :: (A' ++ (y :: S)) := by rw [hl]; simp
            have hlen : i = (P ++ X1).length := by rw [List.length_append]; omega
            rw [e, hlen, getD_mid] at h4
            exact ho.asym _ _ h4
  | @gen a m b mid lo hi s e l l1 l2 l3 hmid hlo h1 h2 he h3 h4 h5 h6 h7 h8 h9 ih7 ih9 =>
    intro P X Y S hl hP hX hY hx0 hy0 hsx hsy
    have hsm : s ≤ m := by rcases hlo with ⟨_, _, _⟩ | ⟨_, _, _⟩ <;> omega
    have has : a ≤ s := by rcases hlo with ⟨_, _, _⟩ | ⟨_, _, _⟩ <;> omega
    have hme : m ≤ e := by rcases hlo with ⟨_, _, _⟩ | ⟨_, _, _⟩ <;> omega
    have heb : e ≤ b := by rcases hlo with ⟨_, _, _⟩ | ⟨_, _, _⟩ <;> omega
    have H3 := Lib.hid h3
    have H4 := Lib.hid h4
    have H5 := Lib.hid h5
    have HLo := Lib.hid hlo
    clear h3 h4 h5 hlo
    obtain ⟨X1, X2, rfl, lx1, lx2⟩ := cut_at X (n := s - a) (by omega)
    obtain ⟨Y1, Y2, rfl, ly1, ly2⟩ := cut_at Y (n := e - m) (by omega)
    rw [List.length_append] at hX hY lx2 ly2
    rw [List.length_append] at hY
    have hl1 : l1 = P ++ (X1 ++ (Y1 ++ (X2 ++ (Y2 ++ S)))) := by
      rcases H5.out with ⟨h51, h52, rfl⟩ | ⟨h51, rfl⟩
      · have hr := rotL_of (P ++ X1) X2 Y1 (Y2 ++ S)
        have e1 : l = (P ++ X1) ++ (X2 ++ (Y1 ++ (Y2 ++ S))) := by rw [hl]; simp
        have e2 : s = (P ++ X1).length := by rw [List.length_append]; omega
        have e3 : m = (P ++ X1).length + X2.length := by rw [List.length_append]; omega
        have e4 : e = (P ++ X1).length + X2.length + Y1.length := by rw [List.length_append]; omega
        rw [e1, e4, e3, e2, hr]
        simp
      · rw [hl]
        by_cases h0 : s < m
        · have : Y1 = [] := List.length_eq_zero_iff.1 (by omega)
          rw [this]; simp
        · have : X2 = [] := List.length_eq_zero_iff.1 (by omega)
          rw [this]; simp
    obtain ⟨Z1, hz1, pz1, sz1⟩ : ∃ Z1, l2 = P ++ (Z1 ++ (X2 ++ (Y2 ++ S))) ∧ Z1.Perm (X1 ++ Y1) ∧ Srt lt Z1 := by
      by_cases h0 : a < s ∧ s < mid
      · exact ih7 h0 P X1 Y1 (X2 ++ (Y2 ++ S)) hl1 hP (by omega) (by omega) (by omega) (by omega) hsx.left hsy.left
      · refine ⟨X1 ++ Y1, ?_, List.Perm.refl _, ?_⟩
        · rw [h6 h0, hl1]; simp
        · by_cases h00 : a < s
          · have : Y1 = [] := List.length_eq_zero_iff.1 (by omega)
            rw [this, List.append_nil]; exact hsx.left
          · have : X1 = [] := List.length_eq_zero_iff.1 (by omega)
            rw [this, List.nil_append]; exact hsy.left
    have hz1l : Z1.length = X1.length + Y1.length := by rw [pz1.length_eq, List.length_append]
    obtain ⟨Z2, hz2, pz2, sz2⟩ : ∃ Z2, l3 = (P ++ Z1) ++ (Z2 ++ S) ∧ Z2.Perm (X2 ++ Y2) ∧ Srt lt Z2 := by
      by_cases h0 : mid < e ∧ e < b
      · exact ih9 h0 (P ++ Z1) X2 Y2 S (by rw [hz1]; simp) (by rw [List.length_append]; omega) (by rw [List.length_append]; omega) (by rw [List.length_append]; omega) (by omega) (by omega) hsx.right hsy.right
      · refine ⟨X2 ++ Y2, ?_, List.Perm.refl _, ?_⟩
        · rw [h8 h0, hz1]; simp
        · by_cases h00 : mid < e
          · have : Y2 = [] := List.length_eq_zero_iff.1 (by omega)
            rw [this, List.append_nil]; exact hsx.right
          · have : X2 = [] := List.length_eq_zero_iff.1 (by omega)
            rw [this, List.nil_append]; exact hsy.right
    have c1 : ∀ u ∈ X1, ∀ v ∈ Y2, lt v u = false := by
      intro u hu v hv
      obtain ⟨A', w, rfl⟩ := snoc_of (List.ne_nil_of_mem hu)
      obtain ⟨w', B', rfl⟩ := cons_of (List.ne_nil_of_mem hv)
      rcases H3.out with h3 | h3
      · exfalso
        simp only [List.length_append, List.length_nil, List.length_cons] at lx1 ly2 hY hX
        rcases HLo.out with ⟨_, _, _⟩ | ⟨_, _, _⟩ <;> omega
      · have e1 : l = (P ++ A') ++ w :: (X2 ++ ((Y1 ++ (w' :: B')) ++ S)) := by rw [hl]; simp
        have e2 : l = (P ++ ((A' ++ [w]) ++ (X2 ++ Y1))) ++ w' :: (B' ++ S) := by rw [hl]; simp
        have l1' : s - 1 = (P ++ A').length := by simp only [List.length_append, List.length_cons, List.length_nil] at lx1 ⊢; omega
        have l2' : e = (P ++ ((A' ++ [w]) ++ (X2 ++ Y1))).length := by simp only [List.length_append, List.length_cons, List.length_nil] at lx1 lx2 hX ⊢; omega
        have g1 : l.getD (s - 1) z = w := by rw [e1, l1', getD_mid]
        have g2 : l.getD e z = w' := by
          rw [e2]
          conv => lhs; arg 2; rw [l2']
          exact getD_mid z _ _ _
        rw [g1, g2] at h3
        exact ho.trans u w' v (ho.trans u w w' (hsx.left.last ho u hu) h3) (hsy.right.head ho v hv)
    have c2 : ∀ u ∈ Y1, ∀ v ∈ X2, lt v u = false := by
      intro u hu v hv
      obtain ⟨A', w, rfl⟩ := snoc_of (List.ne_nil_of_mem hu)
      obtain ⟨w', B', rfl⟩ := cons_of (List.ne_nil_of_mem hv)
      rcases H4.out with h4 | h4
      · exfalso
        simp only [List.length_append, List.length_nil, List.length_cons] at lx2 ly1 hY hX
        rcases HLo.out with ⟨_, _, _⟩ | ⟨_, _, _⟩ <;> omega
      · have e1 : l = (P ++ X1) ++ w' :: (B' ++ (((A' ++ [w]) ++ Y2) ++ S)) := by rw [hl]; simp
        have e2 : l = (P ++ ((X1 ++ (w' :: B')) ++ A')) ++ w :: (Y2 ++ S) := by rw [hl]; simp
        have l1' : s = (P ++ X1).length := by rw [List.length_append]; omega
        have l2' : e - 1 = (P ++ ((X1 ++ (w' :: B')) ++ A')).length := by simp only [List.length_append, List.length_nil, List.length_cons] at ly1 lx2 hX ⊢; omega
        have g1 : l.getD s z = w' := by
          rw [e1]
          conv => lhs; arg 2; rw [l1']
          exact getD_mid z _ _ _
        have g2 : l.getD (e - 1) z = w := by
          rw [e2]
          conv => lhs; arg 2; rw [l2']
          exact getD_mid z _ _ _
        rw [g1, g2] at h4
        exact ho.trans u w v (hsy.left.last ho u hu) (ho.trans w w' v (ho.asym _ _ h4) (hsx.right.head ho v hv))
    refine ⟨Z1 ++ Z2, by rw [hz2]; simp, ?_, Srt.join sz1 sz2 ?_⟩
    · refine (pz1.append pz2).trans ?_
      have p1 : ((X1 ++ Y1) ++ (X2 ++ Y2)).Perm (X1 ++ (X2 ++ (Y1 ++ Y2))) := by
        rw [List.append_assoc]
        refine List.Perm.append_left X1 ?_
        rw [← List.append_assoc, ← List.append_assoc]
        exact List.Perm.append_right Y2 List.perm_append_comm
      have e1 : (X1 ++ X2) ++ (Y1 ++ Y2) = X1 ++ (X2 ++ (Y1 ++ Y2)) := by simp
      rw [e1]
      exact p1
    · intro u hu v hv
      have hu' := pz1.mem_iff.1 hu
      have hv' := pz2.mem_iff.1 hv
      rcases List.mem_append.1 hu' with hu' | hu' <;> rcases List.mem_append.1 hv' with hv' | hv'
      · exact hsx.cross u hu' v hv'
      · exact c1 u hu' v hv'
      · exact c2 u hu' v hv'
      · exact hsy.cross u hu' v hv'
end
end Go.Proofs.YtonnmkhmhndalaaDoor
end
section
namespace Go.Proofs.YtonnmkhmhndalaaDoor
set_option linter.unusedVariables false
set_option linter.unusedSimpArgs false
section
variable {α : Type}
def InsR (lt : α → α → Bool) (z : α) (a b : Nat) (l l' : List α) : Prop := (a < b ∧ InsTo lt z a l b l') ∨ (b ≤ a ∧ l' = l)
theorem InsR.sorts {lt : α → α → Bool} (ho : OrdL lt) {z : α} {a b : Nat} {l' : List α} {P X S : List α} (h : InsR lt z a b (P ++ (X ++ S)) l') (hP : P.length = a) (hX : a + X.length = b) : ∃ Y, l' = P ++ (Y ++ S) ∧ Srt lt Y ∧ Y.Perm X := by
  rcases h with ⟨h1, h2⟩ | ⟨h1, rfl⟩
  · obtain ⟨Y, h3, h4, h5⟩ := h2.sorts ho hP (by omega)
    rw [show b - a = X.length from by omega, List.drop_length, List.nil_append] at h3
    rw [show b - a = X.length from by omega, List.take_length] at h5
    exact ⟨Y, h3, h4, h5⟩
  · have : X = [] := List.length_eq_zero_iff.1 (by omega)
    subst this
    exact ⟨[], rfl, Srt.nil lt, List.Perm.refl _⟩
theorem InsR.length {lt : α → α → Bool} {z : α} {a b : Nat} {l l' : List α} (h : InsR lt z a b l l') : l'.length = l.length := by
  rcases h with ⟨h1, h2⟩ | ⟨h1, rfl⟩
  · exact h2.length
  · rfl
theorem Sym.length {lt : α → α → Bool} {z : α} {a m b : Nat} {l l' : List α} (h : Sym lt z a m b l l') : a < m → m < b → b ≤ l.length → l'.length = l.length := by
  induction h with
  | left => intro _ _ _; exact upS_length _ _ _ _
  | right => intro _ _ _; exact dnS_length _ _ _ _
  | @gen a m b mid lo hi s e l l1 l2 l3 hmid hlo h1 h2 he h3 h4 h5 h6 h7 h8 h9 ih7 ih9 =>
    intro ham hmb hb
    have hm1 : e ≤ b := by rcases hlo with ⟨_, _, _⟩ | ⟨_, _, _⟩ <;> omega
    have e1 : l1.length = l.length := by
      rcases h5 with ⟨h51, h52, rfl⟩ | ⟨h51, rfl⟩
      · exact rotL_length l (by omega) (by omega) (by omega)
      · rfl
    have e2 : l2.length = l1.length := by
      by_cases h0 : a < s ∧ s < mid
      · exact ih7 h0 h0.1 h0.2 (by rw [e1]; omega)
      · rw [h6 h0]
    have e3 : l3.length = l2.length := by
      by_cases h0 : mid < e ∧ e < b
      · exact ih9 h0 h0.1 h0.2 (by rw [e2, e1]; exact hb)
      · rw [h8 h0]
    rw [e3, e2, e1]
def blk (B k : Nat) (l : List α) : List α := (l.drop (k * B)).take B
def Blk (lt : α → α → Bool) (B : Nat) (l : List α) : Prop := ∀ k, Srt lt (blk B k l)
theorem blk_pre {B k : Nat} {P T : List α} (h : (k + 1) * B ≤ P.length) : blk B k (P ++ T) = blk B k P := by
  unfold blk
  have h1 : k * B + B = (k + 1) * B := (Nat.succ_mul k B).symm
  rw [List.drop_append_of_le_length (by omega), List.take_append_of_le_length (by rw [List.length_drop]; omega)]
theorem blk_post {B k : Nat} {P X Z S : List α} (hz : Z.length = X.length) (h : P.length + X.length ≤ k * B) : blk B k (P ++ (Z ++ S)) = blk B k (P ++ (X ++ S)) := by
  unfold blk
  have e : ∀ W : List α, W.length = X.length → (P ++ (W ++ S)).drop (k * B) = S.drop (k * B - (P.length + X.length)) := by
    intro W hw
    rw [← List.append_assoc, List.drop_append, List.drop_eq_nil_of_le (by rw [List.length_append]; omega), List.nil_append, List.length_append, hw]
  rw [e Z hz, e X rfl]
theorem blk_of {B k : Nat} {P Z S : List α} (hP : P.length = k * B) (hz : Z.length = B ∨ (Z.length ≤ B ∧ S = [])) : blk B k (P ++ (Z ++ S)) = Z := by
  unfold blk
  rw [← hP, List.drop_left]
  rcases hz with hz | ⟨hz, rfl⟩
  · rw [← hz, List.take_left]
  · rw [List.append_nil, List.take_of_length_le hz]
theorem blk_none {B k : Nat} {l : List α} (h : l.length ≤ k * B) : blk B k l = [] := by
  unfold blk
  rw [List.drop_eq_nil_of_le h, List.take_nil]
def Fst (lt : α → α → Bool) (B k : Nat) (l : List α) : Prop := ∀ j, j < k → Srt lt (blk B j l)
theorem mul_mono {j k B : Nat} (h : j ≤ k) : j * B ≤ k * B := Nat.mul_le_mul_right B h
theorem ins_block {lt : α → α → Bool} (ho : OrdL lt) {z : α} {B k : Nat} {l l' : List α} (hf : Fst lt B k l) (hb : (k + 1) * B ≤ l.length) (h : InsR lt z (k * B) ((k + 1) * B) l l') : Fst lt B (k + 1) l' ∧ l'.Perm l := by
  have h1 : (k + 1) * B = k * B + B := Nat.succ_mul k B
  have hs := split3 l (a := k * B) (b := (k + 1) * B) (by omega) hb
  obtain ⟨P, hP⟩ : ∃ P, l.take (k * B) = P := ⟨_, rfl⟩
  obtain ⟨X, hX⟩ : ∃ X, seg l (k * B) ((k + 1) * B) = X := ⟨_, rfl⟩
  have lP : P.length = k * B := by rw [← hP, List.length_take]; omega
  have lX : X.length = B := by rw [← hX, seg_length l (by omega) hb]; omega
  rw [hP, hX] at hs
  generalize l.drop ((k + 1) * B) = S at hs
  subst hs
  obtain ⟨Y, rfl, sY, pY⟩ := h.sorts ho lP (by omega)
  have lY := pY.length_eq
  refine ⟨fun j hj => ?_, (pY.append_right S).append_left P⟩
  by_cases hjk : j = k
  · subst hjk
    rw [blk_of lP (Or.inl (by omega))]; exact sY
  · have := mul_mono (B := B) (show j + 1 ≤ k by omega)
    rw [blk_pre (by omega), ← blk_pre (T := X ++ S) (by omega)]
    exact hf j (by omega)
theorem ins_last {lt : α → α → Bool} (ho : OrdL lt) {z : α} {B k : Nat} {l l' : List α} (hf : Fst lt B k l) (ha : k * B ≤ l.length) (hb : l.length < (k + 1) * B) (h : InsR lt z (k * B) l.length l l') : Blk lt B l' ∧ l'.Perm l := by
  have h1 : (k + 1) * B = k * B + B := Nat.succ_mul k B
  obtain ⟨P, hP⟩ : ∃ P, l.take (k * B) = P := ⟨_, rfl⟩
  obtain ⟨X, hX⟩ : ∃ X, l.drop (k * B) = X := ⟨_, rfl⟩
  have lP : P.length = k * B := by rw [← hP, List.length_take]; omega
  have lX : X.length = l.length - k * B := by rw [← hX, List.length_drop]
  have hs : l = P ++ (X ++ []) := by rw [List.append_nil, ← hP, ← hX, List.take_append_drop]
  have hlen : k * B + X.length = l.length := by omega
  rw [← hlen] at h
  have hb' : k * B + X.length < (k + 1) * B := by omega
  clear hlen lX hP hX
  subst hs
  obtain ⟨Y, rfl, sY, pY⟩ := h.sorts ho lP rfl
  have lY := pY.length_eq
  refine ⟨fun j => ?_, (pY.append_right []).append_left P⟩
  by_cases hjk : j = k
  · subst hjk
    rw [blk_of lP (Or.inr ⟨by omega, rfl⟩)]; exact sY
  · by_cases hlt : j < k
    · have := mul_mono (B := B) (show j + 1 ≤ k by omega)
      rw [blk_pre (by omega), ← blk_pre (T := X ++ []) (by omega)]
      exact hf j hlt
    · have := mul_mono (B := B) (show k + 1 ≤ j by omega)
      rw [blk_none (by simp only [List.length_append, List.length_nil]; omega)]
      exact Srt.nil lt
def Two (lt : α → α → Bool) (B k : Nat) (l : List α) : Prop := (∀ j, j < k → Srt lt (blk (2 * B) j l)) ∧ ∀ j, 2 * k ≤ j → Srt lt (blk B j l)
theorem Two.start {lt : α → α → Bool} {B : Nat} {l : List α} (h : Blk lt B l) : Two lt B 0 l := ⟨fun j hj => absurd hj (Nat.not_lt_zero j), fun j _ => h j⟩
theorem two_step {lt : α → α → Bool} (ho : OrdL lt) {z : α} {B k : Nat} {l l' : List α} (hB : 0 < B) (hf : Two lt B k l) (hb : (k + 1) * (2 * B) ≤ l.length) (h : Sym lt z (k * (2 * B)) (k * (2 * B) + B) ((k + 1) * (2 * B)) l l') : Two lt B (k + 1) l' ∧ l'.Perm l := by
  have h1 : (k + 1) * (2 * B) = k * (2 * B) + 2 * B := Nat.succ_mul k (2 * B)
  have hs := split4 l (a := k * (2 * B)) (m := k * (2 * B) + B) (b := (k + 1) * (2 * B)) (by omega) (by omega) hb
  obtain ⟨P, hP⟩ : ∃ P, l.take (k * (2 * B)) = P := ⟨_, rfl⟩
  obtain ⟨X, hX⟩ : ∃ X, seg l (k * (2 * B)) (k * (2 * B) + B) = X := ⟨_, rfl⟩
  obtain ⟨Y, hY⟩ : ∃ Y, seg l (k * (2 * B) + B) ((k + 1) * (2 * B)) = Y := ⟨_, rfl⟩
  have lP : P.length = k * (2 * B) := by rw [← hP, List.length_take]; omega
  have lX : X.length = B := by rw [← hX, seg_length l (by omega) (by omega)]; omega
  have lY : Y.length = B := by rw [← hY, seg_length l (by omega) hb]; omega
  rw [hP, hX, hY] at hs
  generalize l.drop ((k + 1) * (2 * B)) = S at hs
  have e2 : k * (2 * B) = 2 * k * B := by rw [Nat.mul_left_comm, ← Nat.mul_assoc]
  have sX : Srt lt X := by
    have := hf.2 (2 * k) (Nat.le_refl _)
    rwa [hs, blk_of (by omega) (Or.inl lX)] at this
  have sY : Srt lt Y := by
    have := hf.2 (2 * k + 1) (by omega)
    have e3 : (2 * k + 1) * B = 2 * k * B + B := Nat.succ_mul (2 * k) B
    have e4 : P ++ (X ++ (Y ++ S)) = (P ++ X) ++ (Y ++ S) := by simp
    rwa [hs, e4, blk_of (by rw [List.length_append]; omega) (Or.inl lY)] at this
  obtain ⟨Z, rfl, pZ, sZ⟩ := h.merges ho P X Y S hs lP (by omega) (by omega) (by omega) (by omega) sX sY
  have lZ := pZ.length_eq
  rw [List.length_append] at lZ
  subst hs
  have e5 : P ++ (X ++ (Y ++ S)) = P ++ ((X ++ Y) ++ S) := by simp
  refine ⟨⟨fun j hj => ?_, fun j hj => ?_⟩, ?_⟩
  · by_cases hjk : j = k
    · subst hjk
      rw [blk_of lP (Or.inl (by omega))]; exact sZ
    · have := mul_mono (B := 2 * B) (show j + 1 ≤ k by omega)
      rw [blk_pre (by omega), ← blk_pre (T := X ++ (Y ++ S)) (by omega)]
      exact hf.1 j (by omega)
  · have h6 := mul_mono (B := B) hj
    have h7 : 2 * (k + 1) * B = (k + 1) * (2 * B) := by rw [Nat.mul_comm 2 (k + 1), Nat.mul_assoc]
    rw [blk_post (X := X ++ Y) (by rw [List.length_append]; omega) (by rw [List.length_append]; omega), ← e5]
    exact hf.2 j (by omega)
  · rw [e5]
    exact (pZ.append_right S).append_left P
theorem two_last {lt : α → α → Bool} (ho : OrdL lt) {z : α} {B k : Nat} {l l' : List α} (hB : 0 < B) (hf : Two lt B k l) (ha : k * (2 * B) ≤ l.length) (hb : l.length < (k + 1) * (2 * B))
    (h : (k * (2 * B) + B < l.length ∧ Sym lt z (k * (2 * B)) (k * (2 * B) + B) l.length l l') ∨ (l.length ≤ k * (2 * B) + B ∧ l' = l)) : Blk lt (2 * B) l' ∧ l'.Perm l := by
  have h1 : (k + 1) * (2 * B) = k * (2 * B) + 2 * B := Nat.succ_mul k (2 * B)
  have e2 : k * (2 * B) = 2 * k * B := by rw [Nat.mul_left_comm, ← Nat.mul_assoc]
  rcases h with ⟨hlt, h⟩ | ⟨hle, rfl⟩
  · have hs := split4 l (a := k * (2 * B)) (m := k * (2 * B) + B) (b := l.length) (by omega) (by omega) (Nat.le_refl _)
    obtain ⟨P, hP⟩ : ∃ P, l.take (k * (2 * B)) = P := ⟨_, rfl⟩
    obtain ⟨X, hX⟩ : ∃ X, seg l (k * (2 * B)) (k * (2 * B) + B) = X := ⟨_, rfl⟩
    obtain ⟨Y, hY⟩ : ∃ Y, seg l (k * (2 * B) + B) l.length = Y := ⟨_, rfl⟩
    have lP : P.length = k * (2 * B) := by rw [← hP, List.length_take]; omega
    have lX : X.length = B := by rw [← hX, seg_length l (by omega) (by omega)]; omega
    have lY : Y.length = l.length - (k * (2 * B) + B) := by rw [← hY, seg_length l (by omega) (Nat.le_refl _)]
    rw [hP, hX, hY, List.drop_length] at hs
    have sX : Srt lt X := by
      have := hf.2 (2 * k) (Nat.le_refl _)
      rwa [hs, blk_of (by omega) (Or.inl lX)] at this
    have sY : Srt lt Y := by
      have := hf.2 (2 * k + 1) (by omega)
      have e3 : (2 * k + 1) * B = 2 * k * B + B := Nat.succ_mul (2 * k) B
      have e4 : P ++ (X ++ (Y ++ [])) = (P ++ X) ++ (Y ++ []) := by simp
      rwa [hs, e4, blk_of (by rw [List.length_append]; omega) (Or.inr ⟨by omega, rfl⟩)] at this
    obtain ⟨Z, rfl, pZ, sZ⟩ := h.merges ho P X Y [] hs lP (by omega) (by omega) (by omega) (by omega) sX sY
    have lZ := pZ.length_eq
    rw [List.length_append] at lZ
    have hn : l.length = k * (2 * B) + B + Y.length := by omega
    refine ⟨fun j => ?_, ?_⟩
    · by_cases hjk : j = k
      · subst hjk
        rw [blk_of lP (Or.inr ⟨by omega, rfl⟩)]; exact sZ
      · by_cases hj : j < k
        · have := mul_mono (B := 2 * B) (show j + 1 ≤ k by omega)
          rw [blk_pre (by omega), ← blk_pre (T := X ++ (Y ++ [])) (by omega), ← hs]
          exact hf.1 j hj
        · have := mul_mono (B := 2 * B) (show k + 1 ≤ j by omega)
          rw [blk_none (by simp only [List.length_append, List.length_nil]; omega)]
          exact Srt.nil lt
    · have e5 : P ++ (X ++ (Y ++ [])) = P ++ ((X ++ Y) ++ []) := by simp
      have : (P ++ (Z ++ [])).Perm (P ++ ((X ++ Y) ++ [])) := (pZ.append_right []).append_left P
      rwa [← e5, ← hs] at this
  · refine ⟨fun j => ?_, List.Perm.refl _⟩
    by_cases hj : j < k
    · exact hf.1 j hj
    · by_cases hjk : j = k
      · subst hjk
        have := hf.2 (2 * j) (Nat.le_refl _)
        have e6 : blk (2 * B) j l' = blk B (2 * j) l' := by
          unfold blk
          rw [e2, List.take_of_length_le (by rw [List.length_drop]; omega), List.take_of_length_le (by rw [List.length_drop]; omega)]
        rw [e6]; exact this
      · have := mul_mono (B := 2 * B) (show k + 1 ≤ j by omega)
        rw [blk_none (by omega)]
        exact Srt.nil lt
theorem blk_whole {lt : α → α → Bool} {B : Nat} {l : List α} (h : Blk lt B l) (hl : l.length ≤ B) : Srt lt l := by
  have := h 0
  unfold blk at this
  rwa [Nat.zero_mul, List.drop_zero, List.take_of_length_le hl] at this
end
end Go.Proofs.YtonnmkhmhndalaaDoor
end
