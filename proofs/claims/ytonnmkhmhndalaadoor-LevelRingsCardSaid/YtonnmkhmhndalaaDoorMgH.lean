/- Rings of nodes may be: asked of each. Rings of nodes, plainly. -/
import Derived.Test.YtonnmkhmhndalaaDoorLr1
namespace Go.Proofs.YtonnmkhmhndalaaDoor
set_option linter.unusedVariables false
set_option linter.unusedSimpArgs false

def constN : S39 := ⟨1, 0, 1, [], ⟨#[48]⟩, 0, 0, 0⟩
def ringL (n m : Nat) : List S39 := (List.range m).map fun i => notN (((i + 1) % n : Nat) : Int)
def ringN (n : Nat) : NL := ⟨ringL n n ++ [constN], [], 0⟩
def delayN (n k : Nat) : S39 := ⟨8, 0, 1, [(((k + 1) % n : Nat) : Int)], ⟨#[]⟩, 0, 0, 1⟩
def flipA (n k : Nat) : S39 := ⟨7, 0, 1, [(n : Int), (((k + 1) % n : Nat) : Int)], ⟨#[]⟩, 0, 0, 0⟩
def flipB (n k : Nat) : S39 := ⟨7, 0, 1, [(((k + 1) % n : Nat) : Int), (n : Int)], ⟨#[]⟩, 0, 0, 0⟩
def ringS (n k : Nat) (y : S39) : NL := ⟨(ringN n).nd.set k y, [], 0⟩
def chk1 : Bool := (List.range 34).all fun n => decide (n < 2) || mayL (ringN n)
def chk2 (f : Nat → Nat → S39) : Bool := (List.range 34).all fun n => decide (n < 2) || (List.range n).all fun k => mayL (ringS n k (f n k))
theorem chk1_ok : chk1 = true := by kernel_rfl
theorem chkD_ok : chk2 delayN = true := by kernel_rfl
theorem chkA_ok : chk2 flipA = true := by kernel_rfl
theorem chkB_ok : chk2 flipB = true := by kernel_rfl
theorem ring_may (n : Nat) (hn : n < 34) (h2 : 2 ≤ n) : mayL (ringN n) = true := by
  have h := List.all_eq_true.1 chk1_ok n (List.mem_range.2 hn)
  rw [decide_eq_false (by omega), Bool.false_or] at h
  exact h
theorem chk2_may {f : Nat → Nat → S39} (hf : chk2 f = true) (n k : Nat) (hn : n < 34) (h2 : 2 ≤ n) (hk : k < n) : mayL (ringS n k (f n k)) = true := by
  have h := List.all_eq_true.1 hf n (List.mem_range.2 hn)
  rw [decide_eq_false (by omega), Bool.false_or] at h
  exact List.all_eq_true.1 h k (List.mem_range.2 hk)
end Go.Proofs.YtonnmkhmhndalaaDoor
namespace Go.Proofs.YtonnmkhmhndalaaDoor
set_option linter.unusedVariables false
set_option linter.unusedSimpArgs false

theorem ring_len (n : Nat) : (ringN n).nd.length = n + 1 := by unfold ringN ringL; simp
theorem ringS_len (n k : Nat) (y : S39) : (ringS n k y).nd.length = n + 1 := by unfold ringS; rw [List.length_set, ring_len]

theorem ring_at (n i : Nat) (hi : i < n) : (ringN n).nd.getD i z39 = notN (((i + 1) % n : Nat) : Int) := by
  unfold ringN ringL
  rw [List.getD_eq_getElem?_getD, List.getElem?_append_left (by simpa using hi), List.getElem?_map, List.getElem?_range hi]
  rfl
theorem ring_last (n : Nat) : (ringN n).nd.getD n z39 = constN := by
  unfold ringN ringL
  rw [List.getD_eq_getElem?_getD, List.getElem?_append_right (by simp)]
  simp
theorem ringS_at (n k i : Nat) (y : S39) (hi : i ≠ k) : (ringS n k y).nd.getD i z39 = (ringN n).nd.getD i z39 := by
  unfold ringS
  rw [List.getD_eq_getElem?_getD, List.getElem?_set_ne (Ne.symm hi), ← List.getD_eq_getElem?_getD]
theorem ringS_k (n k : Nat) (y : S39) (hk : k < n) : (ringS n k y).nd.getD k z39 = y := by
  unfold ringS
  rw [List.getD_eq_getElem?_getD, List.getElem?_set_self (by rw [ring_len]; omega)]
  rfl
theorem ring_hs (n : Nat) : hs (ringN n).nd n = [] ∧ ∀ i, i < n → hs (ringN n).nd i = [(i + 1) % n] := by
  refine ⟨?_, fun i hi => ?_⟩
  · unfold hs; rw [ring_last]; rfl
  · unfold hs; rw [ring_at n i hi]; rfl
theorem ringS_hs (n k : Nat) (y : S39) (hk : k < n) : hs (ringS n k y).nd n = [] ∧ hs (ringS n k y).nd k = (hg y).map Int.toNat ∧ ∀ i, i < n → i ≠ k → hs (ringS n k y).nd i = [(i + 1) % n] := by
  refine ⟨?_, ?_, fun i hi hne => ?_⟩
  · unfold hs; rw [ringS_at n k n y (by omega), ring_last]; rfl
  · unfold hs; rw [ringS_k n k y hk]
  · unfold hs; rw [ringS_at n k i y hne, ring_at n i hi]; rfl

/-- what hangs in a ring -/
structure Ring (n : Nat) (f : Nat → List Nat) : Prop where
  n2 : 2 ≤ n
  e : f n = []
  i : ∀ i, i < n → f i = [(i + 1) % n]
theorem Ring.cnt {n : Nat} {f : Nat → List Nat} (h : Ring n f) {out : Nat → Nat} {done : Nat → Bool} {cnt : Nat} (hr : LRes (n + 1) f out done cnt) : cnt < n + 1 := by
  rcases Nat.lt_or_ge cnt (n + 1) with h1 | h1
  · exact h1
  · exfalso
    have hle := hr.le
    obtain rfl : cnt = n + 1 := by omega
    have hL := hr.lev
    have h2 := h.n2
    have key : ∀ j, j < n → out j + j ≤ out 0 := by
      intro j
      induction j with
      | zero => intro _; omega
      | succ j ih =>
        intro hj
        have a := ih (by omega)
        have b := hL.up j (by omega) (j + 1) (by rw [h.i j (by omega), Nat.mod_eq_of_lt (by omega)]; simp)
        omega
    have a := key (n - 1) (by omega)
    have b := hL.up (n - 1) (by omega) 0 (by rw [h.i (n - 1) (by omega), show n - 1 + 1 = n by omega, Nat.mod_self]; simp)
    omega
theorem Ring.loop {n : Nat} {f : Nat → List Nat} (h : Ring n f) {p : List Nat} (hp : Looped (n + 1) f p) : p.length = n := by
  have h2 := h.n2
  have hL := List.length_pos_iff.2 hp.ne
  have hnx : ∀ x ∈ p, x < n ∧ (x + 1) % n ∈ p := by
    intro x hx
    obtain ⟨j, hj, rfl⟩ := List.getElem_of_mem hx
    have h1 := hp.ho j hj
    have e1 : p.getD j 0 = p[j] := by rw [List.getD_eq_getElem?_getD, List.getElem?_eq_getElem hj]; rfl
    have ht : (j + 1) % p.length < p.length := Nat.mod_lt _ hL
    have e2 : p.getD ((j + 1) % p.length) 0 = p[(j + 1) % p.length] := by rw [List.getD_eq_getElem?_getD, List.getElem?_eq_getElem ht]; rfl
    rw [e1, e2] at h1
    have hlt := hp.lt _ (List.getElem_mem hj)
    have hne : p[j] ≠ n := by
      intro e
      rw [e, h.e] at h1
      cases h1
    have hln : p[j] < n := by omega
    rw [h.i _ hln] at h1
    have h3 := List.mem_singleton.1 h1
    exact ⟨hln, by rw [← h3]; exact List.getElem_mem ht⟩
  have hle : p.length ≤ n := nodup_len p n hp.nd (fun x hx => (hnx x hx).1)
  obtain ⟨x0, hx0⟩ := List.exists_mem_of_ne_nil p hp.ne
  have hall : ∀ j, (x0 + j) % n ∈ p := by
    intro j
    induction j with
    | zero => rw [Nat.add_zero, Nat.mod_eq_of_lt (hnx x0 hx0).1]; exact hx0
    | succ j ih =>
      have := (hnx _ ih).2
      rw [← Nat.add_assoc, Nat.add_mod, Nat.mod_eq_of_lt (show 1 < n by omega)]
      exact this
  have hsub : List.range n ⊆ p := by
    intro y hy
    have hyn := List.mem_range.1 hy
    have hxn := (hnx x0 hx0).1
    have h3 := hall (y + (n - x0))
    rwa [show x0 + (y + (n - x0)) = y + n by omega, Nat.add_mod_right, Nat.mod_eq_of_lt hyn] at h3
  have := List.nodup_range.length_le_of_subset hsub
  rw [List.length_range] at this
  omega
/-- where one of the ring hangs on none of it, it is no loop -/
theorem ring_open {n k : Nat} {f : Nat → List Nat} (h2 : 2 ≤ n) (hk : k < n) (he : f n = []) (hi : ∀ i, i < n → i ≠ k → f i = [(i + 1) % n]) (hkk : f k = [] ∨ f k = [n]) {out : Nat → Nat} {done : Nat → Bool} {cnt : Nat} (hr : LRes (n + 1) f out done cnt) : cnt = n + 1 := by
  rcases Nat.lt_or_ge cnt (n + 1) with h1 | h1
  · exfalso
    refine hr.nofix ?_ h1 (fun u => if u = n then 0 else if u ≤ k then k - u + 1 else k + n - u + 1) ?_
    · intro u hu x hx
      by_cases e : u = n
      · rw [e, he] at hx; cases hx
      · by_cases e2 : u = k
        · rw [e2] at hx
          rcases hkk with h3 | h3
          · rw [h3] at hx; cases hx
          · rw [h3] at hx; rw [List.mem_singleton.1 hx]; omega
        · rw [hi u (by omega) e2] at hx
          rw [List.mem_singleton.1 hx]
          have := Nat.mod_lt (u + 1) (show 0 < n by omega)
          omega
    · intro u hu x hx
      by_cases e : u = n
      · rw [e, he] at hx; cases hx
      · show _ + 1 ≤ (if u = n then 0 else _)
        rw [if_neg e]
        by_cases e2 : u = k
        · subst e2
          rcases hkk with h3 | h3
          · rw [h3] at hx; cases hx
          · rw [h3] at hx; rw [List.mem_singleton.1 hx, if_pos rfl, if_pos (Nat.le_refl _)]; omega
        · rw [hi u (by omega) e2] at hx
          rw [List.mem_singleton.1 hx]
          by_cases e3 : u + 1 < n
          · rw [Nat.mod_eq_of_lt e3, if_neg (by omega)]
            by_cases e4 : u < k
            · rw [if_pos (by omega), if_pos (by omega)]; omega
            · rw [if_neg (by omega), if_neg (by omega)]; omega
          · rw [show u + 1 = n by omega, Nat.mod_self, if_neg (by omega), if_pos (by omega), if_neg (by omega)]; omega
  · have := hr.le; omega
end Go.Proofs.YtonnmkhmhndalaaDoor
