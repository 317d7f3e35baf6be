/- The plain theory of the heap: up, down, push, pop and remove keep it a heap and lose nothing. No Go in it. -/
import Derived.Test.YtebcbjmdkbmnkaaEvCancel
namespace Go.Proofs.Ytebcbjmdkbmnkaa
set_option linter.unusedVariables false
set_option linter.unusedSimpArgs false

def LtE (x y : Ev) : Prop := x.t < y.t ∨ (x.t = y.t ∧ (x.n < y.n ∨ (x.n = y.n ∧ (x.f < y.f ∨ (x.f = y.f ∧ x.s < y.s)))))
theorem lessE_iff (x y : Ev) : lessE x y = true ↔ LtE x y := by
  unfold lessE ordE LtE
  rw [decide_eq_true_iff]
  unfold orI cmpI
  by_cases h1 : x.t < y.t
  · simp [h1]
  by_cases h2 : y.t < x.t
  · simp [h1, h2]; omega
  have e1 : x.t = y.t := by omega
  by_cases h3 : x.n < y.n
  · simp [h1, h2, e1, h3]
  by_cases h4 : y.n < x.n
  · simp [h1, h2, e1, h3, h4]; omega
  have e2 : x.n = y.n := by omega
  by_cases h5 : x.f < y.f
  · simp [h1, h2, e1, h3, h4, e2, h5]
  by_cases h6 : y.f < x.f
  · simp [h1, h2, e1, h3, h4, e2, h5, h6]; omega
  have e3 : x.f = y.f := by omega
  by_cases h7 : x.s < y.s
  · simp [h1, h2, e1, h3, h4, e2, h5, h6, e3, h7]
  · by_cases h8 : y.s < x.s
    · simp [h1, h2, e1, h3, h4, e2, h5, h6, e3, h7, h8]
    · simp [h1, h2, e1, h3, h4, e2, h5, h6, e3, h7, h8]
theorem lessE_false (x y : Ev) : lessE x y = false ↔ ¬ LtE x y := by rw [← lessE_iff]; simp
/-- x does not stand behind y -/
def LeE (x y : Ev) : Prop := ¬ LtE y x
theorem LeE.refl (x : Ev) : LeE x x := by unfold LeE LtE; omega
theorem LeE.trans {x y z : Ev} (h : LeE x y) (k : LeE y z) : LeE x z := by unfold LeE LtE at *; omega
theorem LtE.le {x y : Ev} (h : LtE x y) : LeE x y := by unfold LeE LtE at *; omega

theorem set_perm {α : Type} (L : List α) : ∀ (i : Nat) (a b : α), L[i]? = some a → (a :: L.set i b).Perm (b :: L) := by
  induction L with
  | nil => intro i a b h; simp at h
  | cons x L ih =>
    intro i a b h
    cases i with
    | zero =>
      simp at h; subst h
      simp only [List.set_cons_zero]
      exact List.Perm.swap _ _ _
    | succ i =>
      simp only [List.set_cons_succ]
      have h1 := ih i a b (by simpa using h)
      exact ((List.Perm.swap _ _ _).trans (List.Perm.cons x h1)).trans (List.Perm.swap _ _ _)
theorem evAt_set (L : List Ev) (i k : Nat) (x : Ev) (hi : i < L.length) : evAt (L.set i x) k = if i = k then x else evAt L k := by
  unfold evAt
  rw [List.getD_eq_getElem?_getD, List.getD_eq_getElem?_getD]
  by_cases h : i = k
  · subst h; rw [List.getElem?_set_self hi, if_pos rfl]; rfl
  · rw [List.getElem?_set_ne h, if_neg h]
theorem evAt_swap (L : List Ev) (i j k : Nat) (hi : i < L.length) (hj : j < L.length) : evAt (swapL L i j) k = if j = k then evAt L i else if i = k then evAt L j else evAt L k := by
  unfold swapL
  rw [evAt_set _ _ _ _ (by simpa using hj), evAt_set _ _ _ _ hi]
  rfl
theorem swapL_perm (L : List Ev) (i j : Nat) (hi : i < L.length) (hj : j < L.length) : (swapL L i j).Perm L := by
  have h1 := set_perm L i (evAt L i) (evAt L j) (evAt_some hi)
  have h2 := set_perm (L.set i (evAt L j)) j (evAt L j) (evAt L i) (by
    rw [evAt_some (by simpa using hj), evAt_set _ _ _ _ hi]
    split
    · rfl
    · rfl)
  exact List.Perm.cons_inv (h2.trans h1)

def Heap (L : List Ev) (n : Nat) : Prop := ∀ i, 0 < i → i < n → LeE (evAt L ((i - 1) / 2)) (evAt L i)

theorem Heap.min {L : List Ev} {n : Nat} (h : Heap L n) : ∀ i, i < n → LeE (evAt L 0) (evAt L i) := by
  intro i
  induction i using Nat.strongRecOn with
  | _ i ih =>
    intro hi
    rcases Nat.eq_zero_or_pos i with h0 | h0
    · subst h0; exact LeE.refl _
    · exact (ih ((i - 1) / 2) (by omega) (by omega)).trans (h i h0 hi)

theorem upL_perm (L : List Ev) (j : Nat) (hj : j < L.length) : (upL L j).Perm L := by
  induction L, j using upL.induct with
  | case1 L => rw [upL, dif_pos rfl]
  | case2 L j h hl ih =>
    rw [upL, dif_neg h, if_pos hl]
    exact (ih (by rw [swapL_len]; omega)).trans (swapL_perm L _ _ (by omega) hj)
  | case3 L j h hl => rw [upL, dif_neg h, if_neg hl]

/-- A heap on n but for place j, whose children stand behind j's parent: up from j makes it one. -/
theorem upL_heap (L : List Ev) (j : Nat) (n : Nat) (hn : n ≤ L.length) (hj : j < n)
    (h1 : ∀ i, 0 < i → i < n → i ≠ j → LeE (evAt L ((i - 1) / 2)) (evAt L i))
    (h2 : ∀ i, 0 < i → i < n → (i - 1) / 2 = j → 0 < j → LeE (evAt L ((j - 1) / 2)) (evAt L i)) : Heap (upL L j) n := by
  induction L, j using upL.induct with
  | case1 L =>
    rw [upL, dif_pos rfl]
    intro i h0 hi
    exact h1 i h0 hi (by omega)
  | case2 L j h hl ih =>
    rw [upL, dif_neg h, if_pos hl]
    have hlt := (lessE_iff _ _).1 hl
    have hp : (j - 1) / 2 < j := by omega
    refine ih (by rw [swapL_len]; exact hn) (by omega) ?_ ?_
    · intro i h0 hi hne
      rw [evAt_swap L _ _ _ (by omega) (by omega), evAt_swap L _ _ _ (by omega) (by omega)]
      by_cases hij : i = j
      · subst hij
        rw [if_neg (by omega), if_pos rfl, if_pos rfl]
        exact hlt.le
      · rw [if_neg (Ne.symm hij), if_neg (Ne.symm hne)]
        by_cases hpj : (i - 1) / 2 = j
        · rw [if_pos hpj.symm]
          exact h2 i h0 hi hpj (by omega)
        · rw [if_neg (Ne.symm hpj)]
          by_cases hpp : (i - 1) / 2 = (j - 1) / 2
          · rw [if_pos hpp.symm]
            have := h1 i h0 hi hij
            rw [hpp] at this
            exact hlt.le.trans this
          · rw [if_neg (Ne.symm hpp)]
            exact h1 i h0 hi hij
    · intro i h0 hi hpi hp0
      rw [evAt_swap L _ _ _ (by omega) (by omega), evAt_swap L _ _ _ (by omega) (by omega)]
      rw [if_neg (by omega), if_neg (by omega)]
      have hpp := h1 ((j - 1) / 2) hp0 (by omega) (by omega)
      by_cases hij : i = j
      · subst hij
        rw [if_pos rfl]
        exact hpp
      · rw [if_neg (Ne.symm hij), if_neg (by omega)]
        have := h1 i h0 hi hij
        rw [hpi] at this
        exact hpp.trans this
  | case3 L j h hl =>
    rw [upL, dif_neg h, if_neg hl]
    intro i h0 hi
    by_cases hij : i = j
    · subst hij
      exact (lessE_false _ _).1 (by simpa using hl)
    · exact h1 i h0 hi hij

theorem upL_far (L : List Ev) (j k : Nat) (hj : j < L.length) (hk : j < k) : evAt (upL L j) k = evAt L k := by
  induction L, j using upL.induct with
  | case1 L => rw [upL, dif_pos rfl]
  | case2 L j h hl ih =>
    rw [upL, dif_neg h, if_pos hl, ih (by rw [swapL_len]; omega) (by omega), evAt_swap L _ _ _ (by omega) hj, if_neg (by omega), if_neg (by omega)]
  | case3 L j h hl => rw [upL, dif_neg h, if_neg hl]

theorem childL_par (L : List Ev) (i n : Nat) : (childL L i n - 1) / 2 = i ∧ 0 < childL L i n := by unfold childL; split <;> omega
/-- the child that is picked stands behind no other child -/
theorem childL_min (L : List Ev) (i n : Nat) (h : 2 * i + 1 < n) : ∀ k, 0 < k → k < n → (k - 1) / 2 = i → LeE (evAt L (childL L i n)) (evAt L k) := by
  intro k h0 hk hp
  unfold childL
  split
  · rename_i hc
    rcases (by omega : k = 2 * i + 1 ∨ k = 2 * i + 2) with rfl | rfl
    · exact ((lessE_iff _ _).1 hc.2).le
    · exact LeE.refl _
  · rename_i hc
    rcases (by omega : k = 2 * i + 1 ∨ k = 2 * i + 2) with rfl | rfl
    · exact LeE.refl _
    · have : lessE (evAt L (2 * i + 2)) (evAt L (2 * i + 1)) = false := by
        cases hb : lessE (evAt L (2 * i + 2)) (evAt L (2 * i + 1)) with
        | false => rfl
        | true => exact absurd ⟨hk, hb⟩ hc
      exact (lessE_false _ _).1 this

theorem downL_perm (L : List Ev) (i n : Nat) (hn : n ≤ L.length) : (downL L i n).1.Perm L := by
  induction L, i using downL.induct (n := n) with
  | case1 L i h hl ih =>
    rw [downL, if_pos h, if_pos hl]
    have h1 := childL_lt L i n h
    exact (ih (by rw [swapL_len]; exact hn)).trans (swapL_perm L _ _ (by omega) (by omega))
  | case2 L i h hl => rw [downL, if_pos h, if_neg hl]
  | case3 L i h => rw [downL, if_neg h]
theorem downL_ge (L : List Ev) (i n : Nat) : i ≤ (downL L i n).2 := by
  induction L, i using downL.induct (n := n) with
  | case1 L i h hl ih =>
    rw [downL, if_pos h, if_pos hl]
    have := childL_ge L i n
    omega
  | case2 L i h hl => rw [downL, if_pos h, if_neg hl]; exact Nat.le_refl _
  | case3 L i h => rw [downL, if_neg h]; exact Nat.le_refl _
theorem downL_same (L : List Ev) (i n : Nat) (hs : ¬ i < (downL L i n).2) : (downL L i n).1 = L := by
  rw [downL] at hs ⊢
  split
  · rename_i h
    rw [if_pos h] at hs
    split
    · rename_i hl
      rw [if_pos hl] at hs
      have h1 := downL_ge (swapL L i (childL L i n)) (childL L i n) n
      have h2 := childL_ge L i n
      omega
    · rfl
  · rfl
theorem downL_far (L : List Ev) (i n k : Nat) (hn : n ≤ L.length) (hi : i < n) (hk : n ≤ k ∨ k < i) : evAt (downL L i n).1 k = evAt L k := by
  induction L, i using downL.induct (n := n) with
  | case1 L i h hl ih =>
    have h1 := childL_lt L i n h
    have h2 := childL_ge L i n
    rw [downL, if_pos h, if_pos hl, ih (by rw [swapL_len]; exact hn) h1 (by omega), evAt_swap L _ _ _ (by omega) (by omega), if_neg (by omega), if_neg (by omega)]
  | case2 L i h hl => rw [downL, if_pos h, if_neg hl]
  | case3 L i h => rw [downL, if_neg h]

theorem downL_at (M : List Ev) (c n : Nat) (hM : n ≤ M.length) (hcn : c < n) (z : Ev) (hz : LeE z (evAt M c)) (hch : ∀ k, 0 < k → k < n → (k - 1) / 2 = c → LeE z (evAt M k)) : LeE z (evAt (downL M c n).1 c) := by
  rw [downL]
  split
  · rename_i h2
    split
    · rename_i hl2
      have hc2 := childL_lt M c n h2
      have hg2 := childL_ge M c n
      obtain ⟨hp2, hpos2⟩ := childL_par M c n
      rw [downL_far _ _ _ _ (by rw [swapL_len]; exact hM) hc2 (Or.inr hg2), evAt_swap M _ _ _ (by omega) (by omega), if_neg (by omega), if_pos rfl]
      exact hch _ hpos2 hc2 hp2
    · exact hz
  · exact hz

/-- A heap on n but for the pairs that touch i; i's children stand behind i's parent. Down from i makes it one, but for i and its parent where nothing moved. -/
theorem downL_heap (L : List Ev) (i n : Nat) (hn : n ≤ L.length) (hi : i < n)
    (h1 : ∀ k, 0 < k → k < n → (k - 1) / 2 ≠ i → k ≠ i → LeE (evAt L ((k - 1) / 2)) (evAt L k))
    (h2 : ∀ k, 0 < k → k < n → (k - 1) / 2 = i → 0 < i → LeE (evAt L ((i - 1) / 2)) (evAt L k)) :
    ∀ k, 0 < k → k < n → (k ≠ i ∨ i < (downL L i n).2) → LeE (evAt (downL L i n).1 ((k - 1) / 2)) (evAt (downL L i n).1 k) := by
  induction L, i using downL.induct (n := n) with
  | case1 L i h hl ih =>
    have hc := childL_lt L i n h
    have hg := childL_ge L i n
    obtain ⟨hpar, hpos⟩ := childL_par L i n
    have hmin := childL_min L i n h
    rw [downL, if_pos h, if_pos hl]
    generalize hcc : childL L i n = c at *
    have hs : ∀ q, evAt (swapL L i c) q = if c = q then evAt L i else if i = q then evAt L c else evAt L q := fun q => evAt_swap L i c q (by omega) (by omega)
    intro k h0 hk _
    by_cases hkc : k = c
    · subst hkc
      rw [hpar]
      have hA : evAt (downL (swapL L i k) k n).1 i = evAt L k := by
        rw [downL_far _ _ _ _ (by rw [swapL_len]; exact hn) hc (Or.inr hg), hs, if_neg (by omega), if_pos rfl]
      rw [hA]
      refine downL_at _ _ _ (by rw [swapL_len]; exact hn) hc _ ?_ ?_
      · rw [hs, if_pos rfl]
        exact ((lessE_iff _ _).1 hl).le
      · intro q hq0 hqn hqp
        rw [hs, if_neg (by omega), if_neg (by omega)]
        have := h1 q hq0 hqn (by omega) (by omega)
        rw [hqp] at this
        exact this
    · refine ih (by rw [swapL_len]; exact hn) hc ?_ ?_ k h0 hk (.inl hkc)
      · intro q hq0 hqn hqp hqc
        rw [hs, hs, if_neg (Ne.symm hqp), if_neg (Ne.symm hqc)]
        by_cases hqi : (q - 1) / 2 = i
        · rw [if_pos hqi.symm, if_neg (by omega)]
          exact hmin q hq0 hqn hqi
        · rw [if_neg (Ne.symm hqi)]
          by_cases hqi2 : i = q
          · subst hqi2
            rw [if_pos rfl]
            exact h2 c hpos hc hpar hq0
          · rw [if_neg hqi2]
            exact h1 q hq0 hqn hqi (Ne.symm hqi2)
      · intro q hq0 hqn hqp _
        rw [hs, hs, hpar, if_neg (by omega), if_pos rfl, if_neg (by omega), if_neg (by omega)]
        have := h1 q hq0 hqn (by omega) (by omega)
        rw [hqp] at this
        exact this
  | case2 L i h hl =>
    rw [downL, if_pos h, if_neg hl]
    intro k h0 hk hki
    have hki' : k ≠ i := by
      rcases hki with h' | h'
      · exact h'
      · exact absurd h' (Nat.lt_irrefl _)
    by_cases hp : (k - 1) / 2 = i
    · rw [hp]
      have := (lessE_false _ _).1 (by simpa using hl)
      exact LeE.trans this (childL_min L i n h k h0 hk hp)
    · exact h1 k h0 hk hp hki'
  | case3 L i h =>
    rw [downL, if_neg h]
    intro k h0 hk hki
    have hki' : k ≠ i := by
      rcases hki with h' | h'
      · exact h'
      · exact absurd h' (Nat.lt_irrefl _)
    exact h1 k h0 hk (by omega) hki'

/-- A queue's list: a heap. -/
def Inv (L : List Ev) : Prop := Heap L L.length

theorem evAt_append_lt (L : List Ev) (x : Ev) (k : Nat) (h : k < L.length) : evAt (L ++ [x]) k = evAt L k := by
  simp [evAt, List.getD_eq_getElem?_getD, List.getElem?_append_left h]
theorem evAt_append_eq (L : List Ev) (x : Ev) : evAt (L ++ [x]) L.length = x := by
  simp [evAt, List.getD_eq_getElem?_getD]

theorem Inv.nil : Inv [] := by intro i h0 hi; simp at hi
theorem Inv.push {L : List Ev} (h : Inv L) (x : Ev) : Inv (pushL L x) := by
  unfold Inv
  rw [pushL_len]
  unfold pushL
  refine upL_heap _ _ _ (by simp) (by omega) ?_ ?_
  · intro i h0 hi hne
    rw [evAt_append_lt _ _ _ (by omega), evAt_append_lt _ _ _ (by omega)]
    exact h i h0 (by omega)
  · intro i h0 hi hp
    omega
theorem pushL_perm (L : List Ev) (x : Ev) : (pushL L x).Perm (x :: L) := by
  unfold pushL
  exact (upL_perm _ _ (by simp)).trans (List.perm_append_singleton x L)

theorem evAt_dropLast (L : List Ev) (k : Nat) (h : k + 1 < L.length) : evAt L.dropLast k = evAt L k := by
  simp only [evAt, List.getD_eq_getElem?_getD, List.getElem?_dropLast]
  rw [if_pos (by omega)]
theorem Heap.dropLast {L : List Ev} {n : Nat} (h : Heap L n) (hl : L.length = n + 1) : Inv L.dropLast := by
  intro i h0 hi
  rw [List.length_dropLast, hl] at hi
  rw [evAt_dropLast _ _ (by omega), evAt_dropLast _ _ (by omega)]
  exact h i h0 (by omega)
theorem perm_last {L M : List Ev} {n : Nat} (h : M.Perm L) (hl : M.length = n + 1) : L.Perm (evAt M n :: M.dropLast) := by
  refine h.symm.trans ?_
  have := last_split hl
  have h2 : (M.dropLast ++ [evAt M n]).Perm (evAt M n :: M.dropLast) := List.perm_append_singleton _ _
  rw [← this] at h2
  exact h2

theorem popL_len (L : List Ev) : (popL L).length = L.length := by unfold popL; rw [downL_len, swapL_len]
theorem popL_facts {L : List Ev} {n : Nat} (h : Inv L) (hl : L.length = n + 1) :
    evAt (popL L) n = evAt L 0 ∧ Inv (popL L).dropLast ∧ L.Perm (evAt L 0 :: (popL L).dropLast) ∧ ∀ y ∈ L, LeE (evAt L 0) y := by
  have hp : (popL L).Perm L := by
    unfold popL
    rw [hl]
    exact (downL_perm _ _ _ (by rw [swapL_len]; omega)).trans (swapL_perm L _ _ (by omega) (by omega))
  have e0 : evAt (popL L) n = evAt L 0 := by
    rcases Nat.eq_zero_or_pos n with h0 | h0
    · subst h0
      unfold popL
      rw [hl]
      rw [downL, if_neg (by omega)]
      show evAt (swapL L 0 0) 0 = _
      rw [evAt_swap L _ _ _ (by omega) (by omega), if_pos rfl]
    · unfold popL
      rw [hl]
      show evAt (downL (swapL L 0 n) 0 n).1 n = _
      rw [downL_far _ _ _ _ (by rw [swapL_len]; omega) h0 (Or.inl (Nat.le_refl _)), evAt_swap L _ _ _ (by omega) (by omega), if_pos rfl]
  refine ⟨e0, ?_, ?_, ?_⟩
  · refine Heap.dropLast (n := n) ?_ (by rw [popL_len, hl])
    rcases Nat.eq_zero_or_pos n with h0 | h0
    · intro i hi0 hi; omega
    · unfold popL
      rw [hl]
      show Heap (downL (swapL L 0 n) 0 n).1 n
      intro i hi0 hi
      refine downL_heap _ 0 n (by rw [swapL_len]; omega) h0 ?_ (fun k _ _ _ hh => absurd hh (Nat.lt_irrefl _)) i hi0 hi (.inl (by omega))
      intro k hk0 hk hkp hk2
      rw [evAt_swap L _ _ _ (by omega) (by omega), evAt_swap L _ _ _ (by omega) (by omega), if_neg (by omega), if_neg (by omega), if_neg (by omega), if_neg (by omega)]
      exact h k hk0 (by omega)
  · rw [← e0]
    exact perm_last hp (by rw [popL_len, hl])
  · intro y hy
    obtain ⟨i, hi, rfl⟩ := List.getElem_of_mem hy
    have : evAt L i = L[i] := by simp [evAt, List.getD_eq_getElem?_getD, List.getElem?_eq_getElem hi]
    rw [← this]
    exact Heap.min h i hi

theorem removeL_facts {L : List Ev} {n i : Nat} (h : Inv L) (hl : L.length = n + 1) (hi : i ≤ n) :
    evAt (removeL L i) n = evAt L i ∧ (removeL L i).length = n + 1 ∧ Inv (removeL L i).dropLast ∧ L.Perm (evAt L i :: (removeL L i).dropLast) := by
  by_cases hin : i = n
  · subst hin
    have e : removeL L i = L := by unfold removeL; rw [hl, if_pos (by omega)]
    rw [e]
    refine ⟨rfl, hl, Heap.dropLast (n := i) (fun k h0 hk => h k h0 (by omega)) hl, perm_last (List.Perm.refl _) hl⟩
  · have hlt : i < n := by omega
    have hsl : (swapL L i n).length = n + 1 := by rw [swapL_len, hl]
    have hs : ∀ q, evAt (swapL L i n) q = if n = q then evAt L i else if i = q then evAt L n else evAt L q := fun q => evAt_swap L i n q (by omega) (by omega)
    have hdl : (downL (swapL L i n) i n).1.length = n + 1 := by rw [downL_len, hsl]
    have hdp : (downL (swapL L i n) i n).1.Perm L := (downL_perm _ _ _ (by omega)).trans (swapL_perm L _ _ (by omega) (by omega))
    have hdn : evAt (downL (swapL L i n) i n).1 n = evAt L i := by rw [downL_far _ _ _ _ (by omega) hlt (Or.inl (Nat.le_refl _)), hs, if_pos rfl]
    have hh := downL_heap (swapL L i n) i n (by omega) hlt (by
      intro k hk0 hk hkp hk2
      rw [hs, hs, if_neg (by omega), if_neg (Ne.symm hkp), if_neg (by omega), if_neg (Ne.symm hk2)]
      exact h k hk0 (by omega)) (by
      intro k hk0 hk hkp hi0
      rw [hs, hs, if_neg (by omega), if_neg (by omega), if_neg (by omega), if_neg (by omega)]
      have a := h i hi0 (by omega)
      have b := h k hk0 (by omega)
      rw [hkp] at b
      exact a.trans b)
    have e : removeL L i = if i < (downL (swapL L i n) i n).2 then (downL (swapL L i n) i n).1 else upL (downL (swapL L i n) i n).1 i := by
      unfold removeL; rw [hl, if_neg (by omega)]; rfl
    by_cases hm : i < (downL (swapL L i n) i n).2
    · rw [if_pos hm] at e
      rw [e]
      refine ⟨hdn, hdl, Heap.dropLast (n := n) (fun k h0 hk => hh k h0 hk (.inr hm)) hdl, ?_⟩
      rw [← hdn]; exact perm_last hdp hdl
    · rw [if_neg hm] at e
      have hsame := downL_same (swapL L i n) i n hm
      have hun : evAt (upL (downL (swapL L i n) i n).1 i) n = evAt L i := by rw [upL_far _ _ _ (by omega) hlt, hdn]
      have hul : (upL (downL (swapL L i n) i n).1 i).length = n + 1 := by rw [upL_len, hdl]
      have hup : (upL (downL (swapL L i n) i n).1 i).Perm L := (upL_perm _ _ (by omega)).trans hdp
      rw [e]
      refine ⟨hun, hul, Heap.dropLast (n := n) ?_ hul, by rw [← hun]; exact perm_last hup hul⟩
      refine upL_heap _ _ _ (by omega) hlt (fun k h0 hk hne => hh k h0 hk (.inl hne)) ?_
      intro k hk0 hk hkp hi0
      rw [hsame, hs, hs, if_neg (by omega), if_neg (by omega), if_neg (by omega), if_neg (by omega)]
      have a := h i hi0 (by omega)
      have b := h k hk0 (by omega)
      rw [hkp] at b
      exact a.trans b
end Go.Proofs.Ytebcbjmdkbmnkaa
