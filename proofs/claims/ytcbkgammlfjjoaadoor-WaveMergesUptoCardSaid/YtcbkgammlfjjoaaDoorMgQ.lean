/- WaveMerges, plainly: exchanging, rotating, sorting by insertion and by symmetric merging, on lists. WaveMerges, plainly: what sorting by insertion and by symmetric merging answers. WaveMerges, plainly: sorted blocks, merged till they are one. -/
import Derived.Test.YtcbkgammlfjjoaaDoorWb
namespace Go.Proofs.YtcbkgammlfjjoaaDoor
set_option linter.unusedVariables false
set_option linter.unusedSimpArgs false

section
variable {α : Type}
/-- two elements exchanged -/
def sw (z : α) (l : List α) (i j : Nat) : List α := (l.set i (l.getD j z)).set j (l.getD i z)
theorem sw_length (z : α) (l : List α) (i j : Nat) : (sw z l i j).length = l.length := by unfold sw; rw [List.length_set, List.length_set]
theorem getD_mid (z : α) (A B : List α) (x : α) : (A ++ x :: B).getD A.length z = x := by
  rw [List.getD_eq_getElem?_getD, List.getElem?_append_right (Nat.le_refl _), Nat.sub_self]
  rfl
theorem set_mid (A B : List α) (x y : α) : (A ++ x :: B).set A.length y = A ++ y :: B := by
  rw [List.set_append_right _ _ (Nat.le_refl _), Nat.sub_self]
  rfl
theorem sw_mid (z : α) (A B C : List α) (x y : α) : sw z (A ++ x :: (B ++ y :: C)) A.length (A.length + 1 + B.length) = A ++ y :: (B ++ x :: C) := by
  have h1 : (A ++ x :: (B ++ y :: C)).getD (A.length + 1 + B.length) z = y := by
    have e : A ++ x :: (B ++ y :: C) = (A ++ x :: B) ++ y :: C := by simp
    have hl : (A ++ x :: B).length = A.length + 1 + B.length := by simp; omega
    rw [e, ← hl]; exact getD_mid z _ _ _
  unfold sw
  rw [h1, getD_mid, set_mid]
  have e : A ++ y :: (B ++ y :: C) = (A ++ y :: B) ++ y :: C := by simp
  have hl : (A ++ y :: B).length = A.length + 1 + B.length := by simp; omega
  rw [e, ← hl, set_mid]
  simp
theorem sw_comm (z : α) (l : List α) (i j : Nat) (h : i ≠ j) : sw z l i j = sw z l j i := by
  unfold sw
  exact List.set_comm _ _ h
theorem sw_getD (z : α) (l : List α) (i j k : Nat) (hi : i ≠ k) (hj : j ≠ k) : (sw z l i j).getD k z = l.getD k z := by
  unfold sw
  rw [List.getD_eq_getElem?_getD, List.getElem?_set_ne hj, List.getElem?_set_ne hi, ← List.getD_eq_getElem?_getD]
theorem sw_getD_i (z : α) (l : List α) (i j : Nat) (hij : i ≠ j) (hi : i < l.length) : (sw z l i j).getD i z = l.getD j z := by
  unfold sw
  rw [List.getD_eq_getElem?_getD, List.getElem?_set_ne (Ne.symm hij), List.getElem?_set_self hi]
  rfl
theorem sw_getD_j (z : α) (l : List α) (i j : Nat) (hj : j < l.length) : (sw z l i j).getD j z = l.getD i z := by
  unfold sw
  rw [List.getD_eq_getElem?_getD, List.getElem?_set_self (by rw [List.length_set]; exact hj)]
  rfl
/-- ranges exchanged -/
def swapR (z : α) (l : List α) (a b : Nat) : Nat → List α
  | 0 => l
  | n + 1 => sw z (swapR z l a b n) (a + n) (b + n)
theorem swapR_length (z : α) (l : List α) (a b : Nat) : ∀ n, (swapR z l a b n).length = l.length
  | 0 => rfl
  | n + 1 => (sw_length _ _ _ _).trans (swapR_length z l a b n)
theorem swapR_eq (z : α) (P : List α) : ∀ (n : Nat) (M U V S : List α), U.length = n → V.length = n → swapR z (P ++ (U ++ (M ++ (V ++ S)))) P.length (P.length + n + M.length) n = P ++ (V ++ (M ++ (U ++ S)))
  | 0, M, U, V, S, hu, hv => by
    rw [List.length_eq_zero_iff.1 hu, List.length_eq_zero_iff.1 hv]
    rfl
  | n + 1, M, U, V, S, hu, hv => by
    obtain ⟨U', u, rfl⟩ : ∃ U' u, U = U' ++ [u] := by
      rcases List.eq_nil_or_concat U with h | ⟨U', u, h⟩
      · rw [h] at hu; cases hu
      · exact ⟨U', u, by rw [h, List.concat_eq_append]⟩
    obtain ⟨V', v, rfl⟩ : ∃ V' v, V = V' ++ [v] := by
      rcases List.eq_nil_or_concat V with h | ⟨V', v, h⟩
      · rw [h] at hv; cases hv
      · exact ⟨V', v, by rw [h, List.concat_eq_append]⟩
    have hu' : U'.length = n := by simpa using hu
    have hv' : V'.length = n := by simpa using hv
    have ih := swapR_eq z P n (u :: M) U' V' (v :: S) hu' hv'
    have e1 : P ++ ((U' ++ [u]) ++ (M ++ ((V' ++ [v]) ++ S))) = P ++ (U' ++ ((u :: M) ++ (V' ++ (v :: S)))) := by simp
    have e2 : P.length + n + (u :: M).length = P.length + (n + 1) + M.length := by simp; omega
    rw [e2] at ih
    show sw z (swapR z _ _ _ n) (P.length + n) (P.length + (n + 1) + M.length + n) = _
    rw [e1, ih]
    have e3 : P ++ (V' ++ ((u :: M) ++ (U' ++ (v :: S)))) = (P ++ V') ++ u :: ((M ++ U') ++ v :: S) := by simp
    have h1 : (P ++ V').length = P.length + n := by rw [List.length_append, hv']
    have h2 : (P ++ V').length + 1 + (M ++ U').length = P.length + (n + 1) + M.length + n := by rw [List.length_append, List.length_append, hv', hu']; omega
    rw [e3, ← h1, ← h2, sw_mid]
    simp
/-- one element carried up -/
def upS (z : α) (l : List α) (a : Nat) : Nat → List α
  | 0 => l
  | n + 1 => sw z (upS z l a n) (a + n) (a + n + 1)
theorem upS_length (z : α) (l : List α) (a : Nat) : ∀ n, (upS z l a n).length = l.length
  | 0 => rfl
  | n + 1 => (sw_length _ _ _ _).trans (upS_length z l a n)
theorem upS_eq (z : α) (P : List α) (x : α) : ∀ (n : Nat) (U S : List α), U.length = n → upS z (P ++ x :: (U ++ S)) P.length n = P ++ (U ++ x :: S)
  | 0, U, S, hu => by rw [List.length_eq_zero_iff.1 hu]; rfl
  | n + 1, U, S, hu => by
    obtain ⟨U', u, rfl⟩ : ∃ U' u, U = U' ++ [u] := by
      rcases List.eq_nil_or_concat U with h | ⟨U', u, h⟩
      · rw [h] at hu; cases hu
      · exact ⟨U', u, by rw [h, List.concat_eq_append]⟩
    have hu' : U'.length = n := by simpa using hu
    have ih := upS_eq z P x n U' (u :: S) hu'
    have e1 : P ++ x :: ((U' ++ [u]) ++ S) = P ++ x :: (U' ++ (u :: S)) := by simp
    show sw z (upS z _ _ n) (P.length + n) (P.length + n + 1) = _
    rw [e1, ih]
    have e3 : P ++ (U' ++ x :: (u :: S)) = (P ++ U') ++ x :: (([] : List α) ++ u :: S) := by simp
    have h1 : (P ++ U').length = P.length + n := by rw [List.length_append, hu']
    have h2 : (P ++ U').length + 1 + ([] : List α).length = P.length + n + 1 := by rw [h1]; rfl
    rw [e3, ← h1]
    have := sw_mid z (P ++ U') [] S x u
    rw [show (P ++ U').length + 1 + ([] : List α).length = (P ++ U').length + 1 from rfl] at this
    rw [this]
    simp
/-- one element carried down -/
def dnS (z : α) (l : List α) (m : Nat) : Nat → List α
  | 0 => l
  | n + 1 => sw z (dnS z l m n) (m - n) (m - n - 1)
theorem dnS_length (z : α) (l : List α) (m : Nat) : ∀ n, (dnS z l m n).length = l.length
  | 0 => rfl
  | n + 1 => (sw_length _ _ _ _).trans (dnS_length z l m n)
theorem dnS_eq (z : α) (P : List α) (x : α) : ∀ (n : Nat) (U S : List α), U.length = n → dnS z (P ++ (U ++ x :: S)) (P.length + n) n = P ++ x :: (U ++ S) := by
  intro n
  induction n generalizing P with
  | zero => intro U S hu; rw [List.length_eq_zero_iff.1 hu]; rfl
  | succ n ih =>
    intro U S hu
    cases U with
    | nil => cases hu
    | cons u U' =>
      have hu' : U'.length = n := by simpa using hu
      have h := ih (P ++ [u]) U' S hu'
      have e1 : P ++ ((u :: U') ++ x :: S) = (P ++ [u]) ++ (U' ++ x :: S) := by simp
      have e2 : (P ++ [u]).length + n = P.length + (n + 1) := by simp; omega
      rw [e2] at h
      show sw z (dnS z _ _ n) (P.length + (n + 1) - n) (P.length + (n + 1) - n - 1) = _
      rw [e1, h, show P.length + (n + 1) - n - 1 = P.length from by omega, show P.length + (n + 1) - n = P.length + 1 from by omega]
      have e3 : (P ++ [u]) ++ x :: (U' ++ S) = P ++ u :: (([] : List α) ++ x :: (U' ++ S)) := by simp
      rw [e3, sw_comm z _ _ _ (by omega)]
      have := sw_mid z P [] (U' ++ S) u x
      rw [show P.length + 1 + ([] : List α).length = P.length + 1 from rfl] at this
      rw [this]
      simp
theorem dnS_low (z : α) (l : List α) (m : Nat) : ∀ n k, n ≤ m → k < m - n → (dnS z l m n).getD k z = l.getD k z
  | 0, k, _, _ => rfl
  | n + 1, k, hn, hk => by
    show (sw z (dnS z l m n) (m - n) (m - n - 1)).getD k z = _
    rw [sw_getD z _ _ _ k (by omega) (by omega), dnS_low z l m n k (by omega) (by omega)]
theorem dnS_at (z : α) (l : List α) (m : Nat) (hm : m < l.length) : ∀ n, n ≤ m → (dnS z l m n).getD (m - n) z = l.getD m z
  | 0, _ => rfl
  | n + 1, hn => by
    show (sw z (dnS z l m n) (m - n) (m - n - 1)).getD (m - (n + 1)) z = _
    rw [show m - (n + 1) = m - n - 1 from by omega, sw_getD_j z _ _ _ (by rw [dnS_length]; omega), dnS_at z l m hm n (by omega)]
/-- a range of a list -/
def seg (l : List α) (a b : Nat) : List α := (l.drop a).take (b - a)
theorem seg_length (l : List α) {a b : Nat} (h1 : a ≤ b) (h2 : b ≤ l.length) : (seg l a b).length = b - a := by
  unfold seg
  rw [List.length_take, List.length_drop]
  omega
theorem seg_split (l : List α) {a m b : Nat} (h1 : a ≤ m) (h2 : m ≤ b) (h3 : b ≤ l.length) : seg l a b = seg l a m ++ seg l m b := by
  unfold seg
  have e : b - a = (m - a) + (b - m) := by omega
  rw [e, List.take_add, List.drop_drop, show a + (m - a) = m from by omega]
theorem split3 (l : List α) {a b : Nat} (h1 : a ≤ b) (h2 : b ≤ l.length) : l = l.take a ++ (seg l a b ++ l.drop b) := by
  have e1 : l.drop b = (l.drop a).drop (b - a) := by rw [List.drop_drop, show a + (b - a) = b from by omega]
  unfold seg
  rw [e1, List.take_append_drop, List.take_append_drop]
theorem split4 (l : List α) {a m b : Nat} (h1 : a ≤ m) (h2 : m ≤ b) (h3 : b ≤ l.length) : l = l.take a ++ (seg l a m ++ (seg l m b ++ l.drop b)) := by
  conv => lhs; rw [split3 l (Nat.le_trans h1 h2) h3, seg_split l h1 h2 h3]
  rw [List.append_assoc]
theorem seg_of (P X S : List α) : seg (P ++ (X ++ S)) P.length (P.length + X.length) = X := by
  unfold seg
  rw [List.drop_left, show P.length + X.length - P.length = X.length from by omega, List.take_left]
/-- ranges turned past one another -/
def rotL (l : List α) (a m b : Nat) : List α := l.take a ++ (seg l m b ++ (seg l a m ++ l.drop b))
theorem rotL_of (P U V S : List α) : rotL (P ++ (U ++ (V ++ S))) P.length (P.length + U.length) (P.length + U.length + V.length) = P ++ (V ++ (U ++ S)) := by
  unfold rotL
  have e1 : (P ++ (U ++ (V ++ S))).take P.length = P := List.take_left
  have e2 : seg (P ++ (U ++ (V ++ S))) P.length (P.length + U.length) = U := seg_of P U (V ++ S)
  have e3 : seg (P ++ (U ++ (V ++ S))) (P.length + U.length) (P.length + U.length + V.length) = V := by
    have := seg_of (P ++ U) V S
    rwa [List.length_append, List.append_assoc] at this
  have e4 : (P ++ (U ++ (V ++ S))).drop (P.length + U.length + V.length) = S := by
    have e : P ++ (U ++ (V ++ S)) = (P ++ (U ++ V)) ++ S := by simp
    have hl : P.length + U.length + V.length = (P ++ (U ++ V)).length := by simp; omega
    rw [e, hl, List.drop_left]
  rw [e1, e2, e3, e4]
/-- what is left to be turned -/
def RotI (cur tgt : List α) (m i j : Nat) : Prop := ∃ P U V S : List α, cur = P ++ (U ++ (V ++ S)) ∧ tgt = P ++ (V ++ (U ++ S)) ∧ U.length = i ∧ V.length = j ∧ P.length + i = m
theorem RotI.start (l : List α) {a m b : Nat} (h1 : a ≤ m) (h2 : m ≤ b) (h3 : b ≤ l.length) : RotI l (rotL l a m b) m (m - a) (b - m) :=
  ⟨l.take a, seg l a m, seg l m b, l.drop b, split4 l h1 h2 h3, rfl, seg_length l h1 (by omega), seg_length l h2 h3, by rw [List.length_take]; omega⟩
theorem RotI.more {cur tgt : List α} {m i j : Nat} (z : α) (h : RotI cur tgt m i j) (hij : j < i) : RotI (swapR z cur (m - i) m j) tgt m (i - j) j := by
  obtain ⟨P, U, V, S, rfl, rfl, hu, hv, hp⟩ := h
  have e : U = U.take j ++ U.drop j := (List.take_append_drop j U).symm
  obtain ⟨U1, hU1⟩ : ∃ U1, U.take j = U1 := ⟨_, rfl⟩
  obtain ⟨U2, hU2⟩ : ∃ U2, U.drop j = U2 := ⟨_, rfl⟩
  have l1 : U1.length = j := by rw [← hU1, List.length_take]; omega
  have l2 : U2.length = i - j := by rw [← hU2, List.length_drop]; omega
  rw [hU1, hU2] at e
  subst e
  have hs := swapR_eq z P j U2 U1 V S l1 hv
  have e1 : P ++ ((U1 ++ U2) ++ (V ++ S)) = P ++ (U1 ++ (U2 ++ (V ++ S))) := by simp
  rw [e1, show m - i = P.length from by omega, show m = P.length + j + U2.length from by omega, hs]
  exact ⟨P ++ V, U2, U1, S, by simp, by simp, l2, l1, by rw [List.length_append]; omega⟩
theorem RotI.less {cur tgt : List α} {m i j : Nat} (z : α) (h : RotI cur tgt m i j) (hij : i < j) : RotI (swapR z cur (m - i) (m + j - i) i) tgt m i (j - i) := by
  obtain ⟨P, U, V, S, rfl, rfl, hu, hv, hp⟩ := h
  have e : V = V.take (j - i) ++ V.drop (j - i) := (List.take_append_drop _ V).symm
  obtain ⟨V1, hV1⟩ : ∃ V1, V.take (j - i) = V1 := ⟨_, rfl⟩
  obtain ⟨V2, hV2⟩ : ∃ V2, V.drop (j - i) = V2 := ⟨_, rfl⟩
  have l1 : V1.length = j - i := by rw [← hV1, List.length_take]; omega
  have l2 : V2.length = i := by rw [← hV2, List.length_drop]; omega
  rw [hV1, hV2] at e
  subst e
  have hs := swapR_eq z P i V1 U V2 S hu l2
  have e1 : P ++ (U ++ ((V1 ++ V2) ++ S)) = P ++ (U ++ (V1 ++ (V2 ++ S))) := by simp
  rw [e1, show m - i = P.length from by omega, show m + j - i = P.length + i + V1.length from by omega, hs]
  exact ⟨P, V2, V1, U ++ S, by simp, by simp, l2, l1, by omega⟩
theorem RotI.last {cur tgt : List α} {m i : Nat} (z : α) (h : RotI cur tgt m i i) : swapR z cur (m - i) m i = tgt := by
  obtain ⟨P, U, V, S, rfl, rfl, hu, hv, hp⟩ := h
  have hs := swapR_eq z P i [] U V S hu hv
  rw [show m - i = P.length from by omega, show m = P.length + i + ([] : List α).length from by simp; omega]
  exact hs
theorem rotL_length (l : List α) {a m b : Nat} (h1 : a ≤ m) (h2 : m ≤ b) (h3 : b ≤ l.length) : (rotL l a m b).length = l.length := by
  unfold rotL
  rw [List.length_append, List.length_append, List.length_append, seg_length l h1 (by omega), seg_length l h2 h3, List.length_take, List.length_drop]
  omega
end
end Go.Proofs.YtcbkgammlfjjoaaDoor
namespace Go.Proofs.YtcbkgammlfjjoaaDoor
set_option linter.unusedVariables false
set_option linter.unusedSimpArgs false

section
variable {α : Type}
structure OrdL (lt : α → α → Bool) : Prop where
  asym : ∀ a b, lt a b = true → lt b a = false
  trans : ∀ a b c, lt b a = false → lt c b = false → lt c a = false
theorem OrdL.refl {lt : α → α → Bool} (h : OrdL lt) (a : α) : lt a a = false := by
  cases e : lt a a
  · rfl
  · rw [← h.asym a a e, e]
def Srt (lt : α → α → Bool) (l : List α) : Prop := l.Pairwise (fun a b => lt b a = false)
theorem Srt.nil (lt : α → α → Bool) : Srt lt [] := List.Pairwise.nil
theorem Srt.one (lt : α → α → Bool) (a : α) : Srt lt [a] := List.pairwise_singleton _ _
theorem Srt.left {lt : α → α → Bool} {A B : List α} (h : Srt lt (A ++ B)) : Srt lt A := (List.pairwise_append.1 h).1
theorem Srt.right {lt : α → α → Bool} {A B : List α} (h : Srt lt (A ++ B)) : Srt lt B := (List.pairwise_append.1 h).2.1
theorem Srt.cross {lt : α → α → Bool} {A B : List α} (h : Srt lt (A ++ B)) : ∀ a ∈ A, ∀ b ∈ B, lt b a = false := (List.pairwise_append.1 h).2.2
theorem Srt.join {lt : α → α → Bool} {A B : List α} (h1 : Srt lt A) (h2 : Srt lt B) (h : ∀ a ∈ A, ∀ b ∈ B, lt b a = false) : Srt lt (A ++ B) := List.pairwise_append.2 ⟨h1, h2, h⟩
theorem Srt.last {lt : α → α → Bool} (ho : OrdL lt) {A : List α} {w : α} (h : Srt lt (A ++ [w])) : ∀ y ∈ A ++ [w], lt w y = false := by
  intro y hy
  rcases List.mem_append.1 hy with hy | hy
  · exact h.cross y hy w (List.mem_singleton.2 rfl)
  · rw [List.mem_singleton.1 hy]; exact ho.refl w
theorem Srt.head {lt : α → α → Bool} (ho : OrdL lt) {A : List α} {w : α} (h : Srt lt (w :: A)) : ∀ y ∈ w :: A, lt y w = false := by
  intro y hy
  rcases List.mem_cons.1 hy with rfl | hy
  · exact ho.refl y
  · exact (List.pairwise_cons.1 h).1 y hy
/-- all of a sorted range stand no further than an element that stands no nearer than the range's last one -/
theorem le_all {lt : α → α → Bool} (ho : OrdL lt) {A : List α} (h : Srt lt A) {x : α} (hx : A = [] ∨ ∃ A' w, A = A' ++ [w] ∧ lt x w = false) : ∀ y ∈ A, lt x y = false := by
  rcases hx with rfl | ⟨A', w, rfl, hw⟩
  · intro y hy; cases hy
  · intro y hy
    exact ho.trans y w x (h.last ho y hy) hw
theorem ge_all {lt : α → α → Bool} (ho : OrdL lt) {A : List α} (h : Srt lt A) {x : α} (hx : A = [] ∨ ∃ w A', A = w :: A' ∧ lt w x = false) : ∀ y ∈ A, lt y x = false := by
  rcases hx with rfl | ⟨w, A', rfl, hw⟩
  · intro y hy; cases hy
  · intro y hy
    exact ho.trans x w y hw (h.head ho y hy)
theorem put_mid {lt : α → α → Bool} {A B : List α} {x : α} (h : Srt lt (A ++ B)) (h1 : ∀ y ∈ A, lt x y = false) (h2 : ∀ y ∈ B, lt y x = false) : Srt lt (A ++ x :: B) := by
  refine Srt.join h.left (List.pairwise_cons.2 ⟨h2, h.right⟩) ?_
  intro a ha b hb
  rcases List.mem_cons.1 hb with rfl | hb
  · exact h1 a ha
  · exact h.cross a ha b hb
theorem snoc_of {A : List α} (h : A ≠ []) : ∃ A' w, A = A' ++ [w] := by
  rcases List.eq_nil_or_concat A with h' | ⟨A', w, h'⟩
  · exact absurd h' h
  · exact ⟨A', w, by rw [h', List.concat_eq_append]⟩
theorem cons_of {A : List α} (h : A ≠ []) : ∃ w A', A = w :: A' := by
  cases A with
  | nil => exact absurd rfl h
  | cons w A' => exact ⟨w, A', rfl⟩
theorem ne_nil_of {A : List α} (h : 0 < A.length) : A ≠ [] := by intro e; rw [e] at h; cases h
theorem cut_at (A : List α) {n : Nat} (h : n ≤ A.length) : ∃ B C, A = B ++ C ∧ B.length = n ∧ C.length = A.length - n :=
  ⟨A.take n, A.drop n, (List.take_append_drop n A).symm, by rw [List.length_take]; omega, List.length_drop⟩
/-- one element put in by insertion -/
def InsStep (lt : α → α → Bool) (z : α) (a i : Nat) (l l' : List α) : Prop :=
  ∃ n, a + n ≤ i ∧ l' = dnS z l i n ∧ (∀ k, k < n → lt (l.getD i z) (l.getD (i - 1 - k) z) = true) ∧ (a + n = i ∨ lt (l.getD i z) (l.getD (i - n - 1) z) = false)
theorem ins_step {lt : α → α → Bool} (ho : OrdL lt) {z : α} {a i : Nat} {l' : List α} {P Y T : List α} {x : α} (h : InsStep lt z a i (P ++ (Y ++ x :: T)) l') (hP : P.length = a) (hY : P.length + Y.length = i) (hs : Srt lt Y) :
    ∃ Y', l' = P ++ (Y' ++ T) ∧ Srt lt Y' ∧ Y'.Perm (Y ++ [x]) := by
  obtain ⟨n, hn, rfl, h1, h2⟩ := h
  obtain ⟨Y1, Y2, rfl, l1, l2⟩ := cut_at Y (n := Y.length - n) (by omega)
  have l2' : Y2.length = n := by rw [l2]; omega
  rw [List.length_append] at hY
  have hx : (P ++ ((Y1 ++ Y2) ++ x :: T)).getD i z = x := by
    have e : P ++ ((Y1 ++ Y2) ++ x :: T) = (P ++ (Y1 ++ Y2)) ++ x :: T := by simp
    have hl : i = (P ++ (Y1 ++ Y2)).length := by rw [List.length_append, List.length_append]; omega
    rw [e, hl, getD_mid]
  rw [hx] at h1 h2
  have hd := dnS_eq z (P ++ Y1) x n Y2 T l2'
  have e1 : P ++ ((Y1 ++ Y2) ++ x :: T) = (P ++ Y1) ++ (Y2 ++ x :: T) := by simp
  have e2 : i = (P ++ Y1).length + n := by rw [List.length_append]; omega
  refine ⟨Y1 ++ x :: Y2, ?_, ?_, ?_⟩
  · rw [e1, e2, hd]
    simp
  · refine put_mid hs (le_all ho hs.left ?_) ?_
    · rcases h2 with h2 | h2
      · left
        refine List.length_eq_zero_iff.1 ?_
        omega
      · by_cases h0 : Y1 = []
        · exact Or.inl h0
        · right
          obtain ⟨A', w, rfl⟩ := snoc_of h0
          refine ⟨A', w, rfl, ?_⟩
          have e : P ++ (((A' ++ [w]) ++ Y2) ++ x :: T) = (P ++ A') ++ w :: (Y2 ++ x :: T) := by simp
          have hl : i - n - 1 = (P ++ A').length := by rw [List.length_append]; simp only [List.length_append, List.length_cons, List.length_nil] at l1 hY; omega
          rw [e, hl, getD_mid] at h2
          exact h2
    · intro y hy
      obtain ⟨B, C, rfl⟩ := List.append_of_mem hy
      have hk := h1 (n - 1 - B.length) (by simp only [List.length_append, List.length_cons] at l2'; omega)
      have e : P ++ ((Y1 ++ (B ++ y :: C)) ++ x :: T) = (P ++ (Y1 ++ B)) ++ y :: (C ++ x :: T) := by simp
      have hl : i - 1 - (n - 1 - B.length) = (P ++ (Y1 ++ B)).length := by
        rw [List.length_append, List.length_append]
        simp only [List.length_append, List.length_cons] at l2' hY
        omega
      rw [e, hl, getD_mid] at hk
      exact ho.asym _ _ hk
  · have : (Y1 ++ x :: Y2).Perm (x :: (Y1 ++ Y2)) := List.perm_middle
    exact this.trans (List.perm_append_singleton x (Y1 ++ Y2)).symm
/-- sorting by insertion, up to a place -/
inductive InsTo (lt : α → α → Bool) (z : α) (a : Nat) (l0 : List α) : Nat → List α → Prop
  | base : InsTo lt z a l0 (a + 1) l0
  | step {i : Nat} {l l' : List α} : InsTo lt z a l0 i l → InsStep lt z a i l l' → InsTo lt z a l0 (i + 1) l'
theorem InsTo.low {lt : α → α → Bool} {z : α} {a i : Nat} {l0 l : List α} (h : InsTo lt z a l0 i l) : a + 1 ≤ i := by
  induction h with
  | base => exact Nat.le_refl _
  | step _ _ ih => omega
theorem InsTo.length {lt : α → α → Bool} {z : α} {a i : Nat} {l0 l : List α} (h : InsTo lt z a l0 i l) : l.length = l0.length := by
  induction h with
  | base => rfl
  | step _ hs ih =>
    obtain ⟨n, -, rfl, -, -⟩ := hs
    rw [dnS_length, ih]
theorem InsTo.sorts {lt : α → α → Bool} (ho : OrdL lt) {z : α} {a i : Nat} {l : List α} {P X S : List α} (h : InsTo lt z a (P ++ (X ++ S)) i l) (hP : P.length = a) : i ≤ a + X.length → ∃ Y, l = P ++ (Y ++ (X.drop (i - a) ++ S)) ∧ Srt lt Y ∧ Y.Perm (X.take (i - a)) := by
  induction h with
  | base =>
    intro hi
    cases X with
    | nil => exact absurd hi (by simp only [List.length_nil]; omega)
    | cons x X' =>
      rw [show a + 1 - a = 1 from by omega]
      exact ⟨[x], by simp, Srt.one lt x, by simp⟩
  | @step i l l' hto hs ih =>
    intro hi
    have hlo := hto.low
    obtain ⟨Y, rfl, h1, h2⟩ := ih (by omega)
    obtain ⟨x, T, hx⟩ := cons_of (ne_nil_of (A := X.drop (i - a)) (by rw [List.length_drop]; omega))
    have hd : X.drop (i + 1 - a) = T := by
      have : X.drop (i + 1 - a) = (X.drop (i - a)).drop 1 := by rw [List.drop_drop]; congr 1; omega
      rw [this, hx]; rfl
    have ht : X.take (i + 1 - a) = X.take (i - a) ++ [x] := by
      have e : i + 1 - a = (i - a) + 1 := by omega
      rw [e, List.take_add, hx]
      rfl
    rw [hx] at hs
    have e : P ++ (Y ++ ((x :: T) ++ S)) = P ++ (Y ++ x :: (T ++ S)) := by simp
    rw [e] at hs
    have hyl : Y.length = i - a := by rw [h2.length_eq, List.length_take]; omega
    obtain ⟨Y', h3, h4, h5⟩ := ins_step ho hs hP (by omega) h1
    refine ⟨Y', by rw [h3, hd], h4, ?_⟩
    rw [ht]
    exact h5.trans (h2.append_right [x])
/-- two sorted ranges merged, as the library does it -/
inductive Sym (lt : α → α → Bool) (z : α) : Nat → Nat → Nat → List α → List α → Prop
  | left {a b i : Nat} {l : List α} : a + 1 ≤ i → i ≤ b → (i = a + 1 ∨ lt (l.getD (i - 1) z) (l.getD a z) = true) → (i = b ∨ lt (l.getD i z) (l.getD a z) = false) → Sym lt z a (a + 1) b l (upS z l a (i - 1 - a))
  | right {a m i : Nat} {l : List α} : a ≤ i → i ≤ m → (i = a ∨ lt (l.getD m z) (l.getD (i - 1) z) = false) → (i = m ∨ lt (l.getD m z) (l.getD i z) = true) → Sym lt z a m (m + 1) l (dnS z l m (m - i))
  | gen {a m b mid lo hi s e : Nat} {l l1 l2 l3 : List α} : mid = (a + b) / 2 → (m ≤ mid ∧ lo = a ∧ hi = m ∨ mid < m ∧ lo = mid + m - b ∧ hi = mid) → lo ≤ s → s ≤ hi → e = mid + m - s →
      (s = lo ∨ lt (l.getD e z) (l.getD (s - 1) z) = false) → (s = hi ∨ lt (l.getD (e - 1) z) (l.getD s z) = true) →
      (s < m ∧ m < e ∧ l1 = rotL l s m e ∨ ¬ (s < m ∧ m < e) ∧ l1 = l) →
      (¬ (a < s ∧ s < mid) → l2 = l1) → (a < s ∧ s < mid → Sym lt z a s mid l1 l2) →
      (¬ (mid < e ∧ e < b) → l3 = l2) → (mid < e ∧ e < b → Sym lt z mid e b l2 l3) → Sym lt z a m b l l3
set_option maxHeartbeats 4000000 in
theorem Sym.merges {lt : α → α → Bool} (ho : OrdL lt) {z : α} {a m b : Nat} {l l' : List α} (h : Sym lt z a m b l l') :
    ∀ (P X Y S : List α), l = P ++ (X ++ (Y ++ S)) → P.length = a → P.length + X.length = m → P.length + X.length + Y.length = b → 0 < X.length → 0 < Y.length → Srt lt X → Srt lt Y → ∃ Z, l' = P ++ (Z ++ S) ∧ Z.Perm (X ++ Y) ∧ Srt lt Z := by
  induction h with
  | @left a b i l h1 h2 h3 h4 =>
    intro P X Y S hl hP hX hY hx0 hy0 hsx hsy
    obtain ⟨x, X', rfl⟩ := cons_of (ne_nil_of hx0)
    obtain rfl : X' = [] := List.length_eq_zero_iff.1 (by simp only [List.length_cons] at hX; omega)
    obtain ⟨Y1, Y2, rfl, l1, l2⟩ := cut_at Y (n := i - (a + 1)) (by simp only [List.length_cons, List.length_nil] at hX hY; omega)
    have hxa : l.getD a z = x := by
      rw [hl, ← hP]
      exact getD_mid z P _ x
    rw [hxa] at h3 h4
    have hu := upS_eq z P x (i - 1 - a) Y1 (Y2 ++ S) (by omega)
    refine ⟨Y1 ++ x :: Y2, ?_, ?_, ?_⟩
    · rw [hl, ← hP]
      have e : P ++ ([x] ++ ((Y1 ++ Y2) ++ S)) = P ++ x :: (Y1 ++ (Y2 ++ S)) := by simp
      rw [hP, e]
      rw [hP] at hu
      rw [hu]
      simp
    · exact List.perm_middle
    · refine put_mid hsy (le_all ho hsy.left ?_) (ge_all ho hsy.right ?_)
      · rcases h3 with h3 | h3
        · exact Or.inl (List.length_eq_zero_iff.1 (by omega))
        · by_cases h0 : Y1 = []
          · exact Or.inl h0
          · right
            obtain ⟨A', w, rfl⟩ := snoc_of h0
            refine ⟨A', w, rfl, ?_⟩
            have e : l = (P ++ (x :: A')) ++ w :: (Y2 ++ S) := by rw [hl]; simp
            have hlen : i - 1 = (P ++ (x :: A')).length := by simp only [List.length_append, List.length_cons, List.length_nil] at l1 ⊢; omega
            rw [e, hlen, getD_mid] at h3
            exact ho.asym _ _ h3
      · rcases h4 with h4 | h4
        · exact Or.inl (List.length_eq_zero_iff.1 (by simp only [List.length_append, List.length_cons, List.length_nil] at hX hY l2; omega))
        · by_cases h0 : Y2 = []
          · exact Or.inl h0
          · right
            obtain ⟨w, A', rfl⟩ := cons_of h0
            refine ⟨w, A', rfl, ?_⟩
            have e : l = (P ++ (x :: Y1)) ++ w :: (A' ++ S) := by rw [hl]; simp
            have hlen : i = (P ++ (x :: Y1)).length := by simp only [List.length_append, List.length_cons] at ⊢; omega
            rw [e, hlen, getD_mid] at h4
            exact h4
  | @right a m i l h1 h2 h3 h4 =>
    intro P X Y S hl hP hX hY hx0 hy0 hsx hsy
    obtain ⟨y, Y', rfl⟩ := cons_of (ne_nil_of hy0)
    obtain rfl : Y' = [] := List.length_eq_zero_iff.1 (by simp only [List.length_cons] at hY; omega)
    obtain ⟨X1, X2, rfl, l1, l2⟩ := cut_at X (n := i - a) (by omega)
    rw [List.length_append] at hX
    have hym : l.getD m z = y := by
      have e : l = (P ++ (X1 ++ X2)) ++ y :: S := by rw [hl]; simp
      have hlen : m = (P ++ (X1 ++ X2)).length := by rw [List.length_append, List.length_append]; omega
      rw [e, hlen, getD_mid]
    rw [hym] at h3 h4
    have hd := dnS_eq z (P ++ X1) y (m - i) X2 S (by omega)
    refine ⟨X1 ++ y :: X2, ?_, ?_, ?_⟩
    · have e : l = (P ++ X1) ++ (X2 ++ y :: S) := by rw [hl]; simp
      have hlen : m = (P ++ X1).length + (m - i) := by rw [List.length_append]; omega
      rw [e]
      rw [← hlen] at hd
      rw [hd]
      simp
    · have : (X1 ++ y :: X2).Perm (y :: (X1 ++ X2)) := List.perm_middle
      exact this.trans (List.perm_append_singleton y (X1 ++ X2)).symm
    · refine put_mid hsx (le_all ho hsx.left ?_) (ge_all ho hsx.right ?_)
      · rcases h3 with h3 | h3
        · exact Or.inl (List.length_eq_zero_iff.1 (by omega))
        · by_cases h0 : X1 = []
          · exact Or.inl h0
          · right
            obtain ⟨A', w, rfl⟩ := snoc_of h0
            refine ⟨A', w, rfl, ?_⟩
            have e : l = (P ++ A') ++ w :: (X2 ++ (y :: S)) := by rw [hl]; simp
            have hlen : i - 1 = (P ++ A').length := by simp only [List.length_append, List.length_cons, List.length_nil] at l1 ⊢; omega
            rw [e, hlen, getD_mid] at h3
            exact h3
      · rcases h4 with h4 | h4
        · exact Or.inl (List.length_eq_zero_iff.1 (by omega))
        · by_cases h0 : X2 = []
          · exact Or.inl h0
          · right
            obtain ⟨w, A', rfl⟩ := cons_of h0
            refine ⟨w, A', rfl, ?_⟩
            have e : l = (P ++ X1) ++ w :: (A' ++ (y :: S)) := by rw [hl]; simp
            have hlen : i = (P ++ X1).length := by rw [List.length_append]; omega
            rw [e, hlen, getD_mid] at h4
            exact ho.asym _ _ h4
  | @gen a m b mid lo hi s e l l1 l2 l3 hmid hlo h1 h2 he h3 h4 h5 h6 h7 h8 h9 ih7 ih9 =>
    intro P X Y S hl hP hX hY hx0 hy0 hsx hsy
    have hsm : s ≤ m := by rcases hlo with ⟨_, _, _⟩ | ⟨_, _, _⟩ <;> omega
    have has : a ≤ s := by rcases hlo with ⟨_, _, _⟩ | ⟨_, _, _⟩ <;> omega
    have hme : m ≤ e := by rcases hlo with ⟨_, _, _⟩ | ⟨_, _, _⟩ <;> omega
    have heb : e ≤ b := by rcases hlo with ⟨_, _, _⟩ | ⟨_, _, _⟩ <;> omega
    have H3 := Lib.hid h3
    have H4 := Lib.hid h4
    have H5 := Lib.hid h5
    have HLo := Lib.hid hlo
    clear h3 h4 h5 hlo
    obtain ⟨X1, X2, rfl, lx1, lx2⟩ := cut_at X (n := s - a) (by omega)
    obtain ⟨Y1, Y2, rfl, ly1, ly2⟩ := cut_at Y (n := e - m) (by omega)
    rw [List.length_append] at hX hY lx2 ly2
    rw [List.length_append] at hY
    have hl1 : l1 = P ++ (X1 ++ (Y1 ++ (X2 ++ (Y2 ++ S)))) := by
      rcases H5.out with ⟨h51, h52, rfl⟩ | ⟨h51, rfl⟩
      · have hr := rotL_of (P ++ X1) X2 Y1 (Y2 ++ S)
        have e1 : l = (P ++ X1) ++ (X2 ++ (Y1 ++ (Y2 ++ S))) := by rw [hl]; simp
        have e2 : s = (P ++ X1).length := by rw [List.length_append]; omega
        have e3 : m = (P ++ X1).length + X2.length := by rw [List.length_append]; omega
        have e4 : e = (P ++ X1).length + X2.length + Y1.length := by rw [List.length_append]; omega
        rw [e1, e4, e3, e2, hr]
        simp
      · rw [hl]
        by_cases h0 : s < m
        · have : Y1 = [] := List.length_eq_zero_iff.1 (by omega)
          rw [this]; simp
        · have : X2 = [] := List.length_eq_zero_iff.1 (by omega)
          rw [this]; simp
    obtain ⟨Z1, hz1, pz1, sz1⟩ : ∃ Z1, l2 = P ++ (Z1 ++ (X2 ++ (Y2 ++ S))) ∧ Z1.Perm (X1 ++ Y1) ∧ Srt lt Z1 := by
      by_cases h0 : a < s ∧ s < mid
      · exact ih7 h0 P X1 Y1 (X2 ++ (Y2 ++ S)) hl1 hP (by omega) (by omega) (by omega) (by omega) hsx.left hsy.left
      · refine ⟨X1 ++ Y1, ?_, List.Perm.refl _, ?_⟩
        · rw [h6 h0, hl1]; simp
        · by_cases h00 : a < s
          · have : Y1 = [] := List.length_eq_zero_iff.1 (by omega)
            rw [this, List.append_nil]; exact hsx.left
          · have : X1 = [] := List.length_eq_zero_iff.1 (by omega)
            rw [this, List.nil_append]; exact hsy.left
    have hz1l : Z1.length = X1.length + Y1.length := by rw [pz1.length_eq, List.length_append]
    obtain ⟨Z2, hz2, pz2, sz2⟩ : ∃ Z2, l3 = (P ++ Z1) ++ (Z2 ++ S) ∧ Z2.Perm (X2 ++ Y2) ∧ Srt lt Z2 := by
      by_cases h0 : mid < e ∧ e < b
      · exact ih9 h0 (P ++ Z1) X2 Y2 S (by rw [hz1]; simp) (by rw [List.length_append]; omega) (by rw [List.length_append]; omega) (by rw [List.length_append]; omega) (by omega) (by omega) hsx.right hsy.right
      · refine ⟨X2 ++ Y2, ?_, List.Perm.refl _, ?_⟩
        · rw [h8 h0, hz1]; simp
        · by_cases h00 : mid < e
          · have : Y2 = [] := List.length_eq_zero_iff.1 (by omega)
            rw [this, List.append_nil]; exact hsx.right
          · have : X2 = [] := List.length_eq_zero_iff.1 (by omega)
            rw [this, List.nil_append]; exact hsy.right
    have c1 : ∀ u ∈ X1, ∀ v ∈ Y2, lt v u = false := by
      intro u hu v hv
      obtain ⟨A', w, rfl⟩ := snoc_of (List.ne_nil_of_mem hu)
      obtain ⟨w', B', rfl⟩ := cons_of (List.ne_nil_of_mem hv)
      rcases H3.out with h3 | h3
      · exfalso
        simp only [List.length_append, List.length_nil, List.length_cons] at lx1 ly2 hY hX
        rcases HLo.out with ⟨_, _, _⟩ | ⟨_, _, _⟩ <;> omega
      · have e1 : l = (P ++ A') ++ w :: (X2 ++ ((Y1 ++ (w' :: B')) ++ S)) := by rw [hl]; simp
        have e2 : l = (P ++ ((A' ++ [w]) ++ (X2 ++ Y1))) ++ w' :: (B' ++ S) := by rw [hl]; simp
        have l1' : s - 1 = (P ++ A').length := by simp only [List.length_append, List.length_cons, List.length_nil] at lx1 ⊢; omega
        have l2' : e = (P ++ ((A' ++ [w]) ++ (X2 ++ Y1))).length := by simp only [List.length_append, List.length_cons, List.length_nil] at lx1 lx2 hX ⊢; omega
        have g1 : l.getD (s - 1) z = w := by rw [e1, l1', getD_mid]
        have g2 : l.getD e z = w' := by
          rw [e2]
          conv => lhs; arg 2; rw [l2']
          exact getD_mid z _ _ _
        rw [g1, g2] at h3
        exact ho.trans u w' v (ho.trans u w w' (hsx.left.last ho u hu) h3) (hsy.right.head ho v hv)
    have c2 : ∀ u ∈ Y1, ∀ v ∈ X2, lt v u = false := by
      intro u hu v hv
      obtain ⟨A', w, rfl⟩ := snoc_of (List.ne_nil_of_mem hu)
      obtain ⟨w', B', rfl⟩ := cons_of (List.ne_nil_of_mem hv)
      rcases H4.out with h4 | h4
      · exfalso
        simp only [List.length_append, List.length_nil, List.length_cons] at lx2 ly1 hY hX
        rcases HLo.out with ⟨_, _, _⟩ | ⟨_, _, _⟩ <;> omega
      · have e1 : l = (P ++ X1) ++ w' :: (B' ++ (((A' ++ [w]) ++ Y2) ++ S)) := by rw [hl]; simp
        have e2 : l = (P ++ ((X1 ++ (w' :: B')) ++ A')) ++ w :: (Y2 ++ S) := by rw [hl]; simp
        have l1' : s = (P ++ X1).length := by rw [List.length_append]; omega
        have l2' : e - 1 = (P ++ ((X1 ++ (w' :: B')) ++ A')).length := by simp only [List.length_append, List.length_nil, List.length_cons] at ly1 lx2 hX ⊢; omega
        have g1 : l.getD s z = w' := by
          rw [e1]
          conv => lhs; arg 2; rw [l1']
          exact getD_mid z _ _ _
        have g2 : l.getD (e - 1) z = w := by
          rw [e2]
          conv => lhs; arg 2; rw [l2']
          exact getD_mid z _ _ _
        rw [g1, g2] at h4
        exact ho.trans u w v (hsy.left.last ho u hu) (ho.trans w w' v (ho.asym _ _ h4) (hsx.right.head ho v hv))
    refine ⟨Z1 ++ Z2, by rw [hz2]; simp, ?_, Srt.join sz1 sz2 ?_⟩
    · refine (pz1.append pz2).trans ?_
      have p1 : ((X1 ++ Y1) ++ (X2 ++ Y2)).Perm (X1 ++ (X2 ++ (Y1 ++ Y2))) := by
        rw [List.append_assoc]
        refine List.Perm.append_left X1 ?_
        rw [← List.append_assoc, ← List.append_assoc]
        exact List.Perm.append_right Y2 List.perm_append_comm
      have e1 : (X1 ++ X2) ++ (Y1 ++ Y2) = X1 ++ (X2 ++ (Y1 ++ Y2)) := by simp
      rw [e1]
      exact p1
    · intro u hu v hv
      have hu' := pz1.mem_iff.1 hu
      have hv' := pz2.mem_iff.1 hv
      rcases List.mem_append.1 hu' with hu' | hu' <;> rcases List.mem_append.1 hv' with hv' | hv'
      · exact hsx.cross u hu' v hv'
      · exact c1 u hu' v hv'
      · exact c2 u hu' v hv'
      · exact hsy.cross u hu' v hv'
end
end Go.Proofs.YtcbkgammlfjjoaaDoor
namespace Go.Proofs.YtcbkgammlfjjoaaDoor
set_option linter.unusedVariables false
set_option linter.unusedSimpArgs false

section
variable {α : Type}
def InsR (lt : α → α → Bool) (z : α) (a b : Nat) (l l' : List α) : Prop := (a < b ∧ InsTo lt z a l b l') ∨ (b ≤ a ∧ l' = l)
theorem InsR.sorts {lt : α → α → Bool} (ho : OrdL lt) {z : α} {a b : Nat} {l' : List α} {P X S : List α} (h : InsR lt z a b (P ++ (X ++ S)) l') (hP : P.length = a) (hX : a + X.length = b) : ∃ Y, l' = P ++ (Y ++ S) ∧ Srt lt Y ∧ Y.Perm X := by
  rcases h with ⟨h1, h2⟩ | ⟨h1, rfl⟩
  · obtain ⟨Y, h3, h4, h5⟩ := h2.sorts ho hP (by omega)
    rw [show b - a = X.length from by omega, List.drop_length, List.nil_append] at h3
    rw [show b - a = X.length from by omega, List.take_length] at h5
    exact ⟨Y, h3, h4, h5⟩
  · have : X = [] := List.length_eq_zero_iff.1 (by omega)
    subst this
    exact ⟨[], rfl, Srt.nil lt, List.Perm.refl _⟩
theorem InsR.length {lt : α → α → Bool} {z : α} {a b : Nat} {l l' : List α} (h : InsR lt z a b l l') : l'.length = l.length := by
  rcases h with ⟨h1, h2⟩ | ⟨h1, rfl⟩
  · exact h2.length
  · rfl
theorem Sym.length {lt : α → α → Bool} {z : α} {a m b : Nat} {l l' : List α} (h : Sym lt z a m b l l') : a < m → m < b → b ≤ l.length → l'.length = l.length := by
  induction h with
  | left => intro _ _ _; exact upS_length _ _ _ _
  | right => intro _ _ _; exact dnS_length _ _ _ _
  | @gen a m b mid lo hi s e l l1 l2 l3 hmid hlo h1 h2 he h3 h4 h5 h6 h7 h8 h9 ih7 ih9 =>
    intro ham hmb hb
    have hm1 : e ≤ b := by rcases hlo with ⟨_, _, _⟩ | ⟨_, _, _⟩ <;> omega
    have e1 : l1.length = l.length := by
      rcases h5 with ⟨h51, h52, rfl⟩ | ⟨h51, rfl⟩
      · exact rotL_length l (by omega) (by omega) (by omega)
      · rfl
    have e2 : l2.length = l1.length := by
      by_cases h0 : a < s ∧ s < mid
      · exact ih7 h0 h0.1 h0.2 (by rw [e1]; omega)
      · rw [h6 h0]
    have e3 : l3.length = l2.length := by
      by_cases h0 : mid < e ∧ e < b
      · exact ih9 h0 h0.1 h0.2 (by rw [e2, e1]; exact hb)
      · rw [h8 h0]
    rw [e3, e2, e1]
/-- the block of a number -/
def blk (B k : Nat) (l : List α) : List α := (l.drop (k * B)).take B
def Blk (lt : α → α → Bool) (B : Nat) (l : List α) : Prop := ∀ k, Srt lt (blk B k l)
theorem blk_pre {B k : Nat} {P T : List α} (h : (k + 1) * B ≤ P.length) : blk B k (P ++ T) = blk B k P := by
  unfold blk
  have h1 : k * B + B = (k + 1) * B := (Nat.succ_mul k B).symm
  rw [List.drop_append_of_le_length (by omega), List.take_append_of_le_length (by rw [List.length_drop]; omega)]
theorem blk_post {B k : Nat} {P X Z S : List α} (hz : Z.length = X.length) (h : P.length + X.length ≤ k * B) : blk B k (P ++ (Z ++ S)) = blk B k (P ++ (X ++ S)) := by
  unfold blk
  have e : ∀ W : List α, W.length = X.length → (P ++ (W ++ S)).drop (k * B) = S.drop (k * B - (P.length + X.length)) := by
    intro W hw
    rw [← List.append_assoc, List.drop_append, List.drop_eq_nil_of_le (by rw [List.length_append]; omega), List.nil_append, List.length_append, hw]
  rw [e Z hz, e X rfl]
theorem blk_of {B k : Nat} {P Z S : List α} (hP : P.length = k * B) (hz : Z.length = B ∨ (Z.length ≤ B ∧ S = [])) : blk B k (P ++ (Z ++ S)) = Z := by
  unfold blk
  rw [← hP, List.drop_left]
  rcases hz with hz | ⟨hz, rfl⟩
  · rw [← hz, List.take_left]
  · rw [List.append_nil, List.take_of_length_le hz]
theorem blk_none {B k : Nat} {l : List α} (h : l.length ≤ k * B) : blk B k l = [] := by
  unfold blk
  rw [List.drop_eq_nil_of_le h, List.take_nil]
/-- the first so many blocks are sorted -/
def Fst (lt : α → α → Bool) (B k : Nat) (l : List α) : Prop := ∀ j, j < k → Srt lt (blk B j l)
theorem mul_mono {j k B : Nat} (h : j ≤ k) : j * B ≤ k * B := Nat.mul_le_mul_right B h
theorem ins_block {lt : α → α → Bool} (ho : OrdL lt) {z : α} {B k : Nat} {l l' : List α} (hf : Fst lt B k l) (hb : (k + 1) * B ≤ l.length) (h : InsR lt z (k * B) ((k + 1) * B) l l') : Fst lt B (k + 1) l' ∧ l'.Perm l := by
  have h1 : (k + 1) * B = k * B + B := Nat.succ_mul k B
  have hs := split3 l (a := k * B) (b := (k + 1) * B) (by omega) hb
  obtain ⟨P, hP⟩ : ∃ P, l.take (k * B) = P := ⟨_, rfl⟩
  obtain ⟨X, hX⟩ : ∃ X, seg l (k * B) ((k + 1) * B) = X := ⟨_, rfl⟩
  have lP : P.length = k * B := by rw [← hP, List.length_take]; omega
  have lX : X.length = B := by rw [← hX, seg_length l (by omega) hb]; omega
  rw [hP, hX] at hs
  generalize l.drop ((k + 1) * B) = S at hs
  subst hs
  obtain ⟨Y, rfl, sY, pY⟩ := h.sorts ho lP (by omega)
  have lY := pY.length_eq
  refine ⟨fun j hj => ?_, (pY.append_right S).append_left P⟩
  by_cases hjk : j = k
  · subst hjk
    rw [blk_of lP (Or.inl (by omega))]; exact sY
  · have := mul_mono (B := B) (show j + 1 ≤ k by omega)
    rw [blk_pre (by omega), ← blk_pre (T := X ++ S) (by omega)]
    exact hf j (by omega)
theorem ins_last {lt : α → α → Bool} (ho : OrdL lt) {z : α} {B k : Nat} {l l' : List α} (hf : Fst lt B k l) (ha : k * B ≤ l.length) (hb : l.length < (k + 1) * B) (h : InsR lt z (k * B) l.length l l') : Blk lt B l' ∧ l'.Perm l := by
  have h1 : (k + 1) * B = k * B + B := Nat.succ_mul k B
  obtain ⟨P, hP⟩ : ∃ P, l.take (k * B) = P := ⟨_, rfl⟩
  obtain ⟨X, hX⟩ : ∃ X, l.drop (k * B) = X := ⟨_, rfl⟩
  have lP : P.length = k * B := by rw [← hP, List.length_take]; omega
  have lX : X.length = l.length - k * B := by rw [← hX, List.length_drop]
  have hs : l = P ++ (X ++ []) := by rw [List.append_nil, ← hP, ← hX, List.take_append_drop]
  have hlen : k * B + X.length = l.length := by omega
  rw [← hlen] at h
  have hb' : k * B + X.length < (k + 1) * B := by omega
  clear hlen lX hP hX
  subst hs
  obtain ⟨Y, rfl, sY, pY⟩ := h.sorts ho lP rfl
  have lY := pY.length_eq
  refine ⟨fun j => ?_, (pY.append_right []).append_left P⟩
  by_cases hjk : j = k
  · subst hjk
    rw [blk_of lP (Or.inr ⟨by omega, rfl⟩)]; exact sY
  · by_cases hlt : j < k
    · have := mul_mono (B := B) (show j + 1 ≤ k by omega)
      rw [blk_pre (by omega), ← blk_pre (T := X ++ []) (by omega)]
      exact hf j hlt
    · have := mul_mono (B := B) (show k + 1 ≤ j by omega)
      rw [blk_none (by simp only [List.length_append, List.length_nil]; omega)]
      exact Srt.nil lt
/-- so many pairs of blocks are merged -/
def Two (lt : α → α → Bool) (B k : Nat) (l : List α) : Prop := (∀ j, j < k → Srt lt (blk (2 * B) j l)) ∧ ∀ j, 2 * k ≤ j → Srt lt (blk B j l)
theorem Two.start {lt : α → α → Bool} {B : Nat} {l : List α} (h : Blk lt B l) : Two lt B 0 l := ⟨fun j hj => absurd hj (Nat.not_lt_zero j), fun j _ => h j⟩
theorem two_step {lt : α → α → Bool} (ho : OrdL lt) {z : α} {B k : Nat} {l l' : List α} (hB : 0 < B) (hf : Two lt B k l) (hb : (k + 1) * (2 * B) ≤ l.length) (h : Sym lt z (k * (2 * B)) (k * (2 * B) + B) ((k + 1) * (2 * B)) l l') : Two lt B (k + 1) l' ∧ l'.Perm l := by
  have h1 : (k + 1) * (2 * B) = k * (2 * B) + 2 * B := Nat.succ_mul k (2 * B)
  have hs := split4 l (a := k * (2 * B)) (m := k * (2 * B) + B) (b := (k + 1) * (2 * B)) (by omega) (by omega) hb
  obtain ⟨P, hP⟩ : ∃ P, l.take (k * (2 * B)) = P := ⟨_, rfl⟩
  obtain ⟨X, hX⟩ : ∃ X, seg l (k * (2 * B)) (k * (2 * B) + B) = X := ⟨_, rfl⟩
  obtain ⟨Y, hY⟩ : ∃ Y, seg l (k * (2 * B) + B) ((k + 1) * (2 * B)) = Y := ⟨_, rfl⟩
  have lP : P.length = k * (2 * B) := by rw [← hP, List.length_take]; omega
  have lX : X.length = B := by rw [← hX, seg_length l (by omega) (by omega)]; omega
  have lY : Y.length = B := by rw [← hY, seg_length l (by omega) hb]; omega
  rw [hP, hX, hY] at hs
  generalize l.drop ((k + 1) * (2 * B)) = S at hs
  have e2 : k * (2 * B) = 2 * k * B := by rw [Nat.mul_left_comm, ← Nat.mul_assoc]
  have sX : Srt lt X := by
    have := hf.2 (2 * k) (Nat.le_refl _)
    rwa [hs, blk_of (by omega) (Or.inl lX)] at this
  have sY : Srt lt Y := by
    have := hf.2 (2 * k + 1) (by omega)
    have e3 : (2 * k + 1) * B = 2 * k * B + B := Nat.succ_mul (2 * k) B
    have e4 : P ++ (X ++ (Y ++ S)) = (P ++ X) ++ (Y ++ S) := by simp
    rwa [hs, e4, blk_of (by rw [List.length_append]; omega) (Or.inl lY)] at this
  obtain ⟨Z, rfl, pZ, sZ⟩ := h.merges ho P X Y S hs lP (by omega) (by omega) (by omega) (by omega) sX sY
  have lZ := pZ.length_eq
  rw [List.length_append] at lZ
  subst hs
  have e5 : P ++ (X ++ (Y ++ S)) = P ++ ((X ++ Y) ++ S) := by simp
  refine ⟨⟨fun j hj => ?_, fun j hj => ?_⟩, ?_⟩
  · by_cases hjk : j = k
    · subst hjk
      rw [blk_of lP (Or.inl (by omega))]; exact sZ
    · have := mul_mono (B := 2 * B) (show j + 1 ≤ k by omega)
      rw [blk_pre (by omega), ← blk_pre (T := X ++ (Y ++ S)) (by omega)]
      exact hf.1 j (by omega)
  · have h6 := mul_mono (B := B) hj
    have h7 : 2 * (k + 1) * B = (k + 1) * (2 * B) := by rw [Nat.mul_comm 2 (k + 1), Nat.mul_assoc]
    rw [blk_post (X := X ++ Y) (by rw [List.length_append]; omega) (by rw [List.length_append]; omega), ← e5]
    exact hf.2 j (by omega)
  · rw [e5]
    exact (pZ.append_right S).append_left P
theorem two_last {lt : α → α → Bool} (ho : OrdL lt) {z : α} {B k : Nat} {l l' : List α} (hB : 0 < B) (hf : Two lt B k l) (ha : k * (2 * B) ≤ l.length) (hb : l.length < (k + 1) * (2 * B))
    (h : (k * (2 * B) + B < l.length ∧ Sym lt z (k * (2 * B)) (k * (2 * B) + B) l.length l l') ∨ (l.length ≤ k * (2 * B) + B ∧ l' = l)) : Blk lt (2 * B) l' ∧ l'.Perm l := by
  have h1 : (k + 1) * (2 * B) = k * (2 * B) + 2 * B := Nat.succ_mul k (2 * B)
  have e2 : k * (2 * B) = 2 * k * B := by rw [Nat.mul_left_comm, ← Nat.mul_assoc]
  rcases h with ⟨hlt, h⟩ | ⟨hle, rfl⟩
  · have hs := split4 l (a := k * (2 * B)) (m := k * (2 * B) + B) (b := l.length) (by omega) (by omega) (Nat.le_refl _)
    obtain ⟨P, hP⟩ : ∃ P, l.take (k * (2 * B)) = P := ⟨_, rfl⟩
    obtain ⟨X, hX⟩ : ∃ X, seg l (k * (2 * B)) (k * (2 * B) + B) = X := ⟨_, rfl⟩
    obtain ⟨Y, hY⟩ : ∃ Y, seg l (k * (2 * B) + B) l.length = Y := ⟨_, rfl⟩
    have lP : P.length = k * (2 * B) := by rw [← hP, List.length_take]; omega
    have lX : X.length = B := by rw [← hX, seg_length l (by omega) (by omega)]; omega
    have lY : Y.length = l.length - (k * (2 * B) + B) := by rw [← hY, seg_length l (by omega) (Nat.le_refl _)]
    rw [hP, hX, hY, List.drop_length] at hs
    have sX : Srt lt X := by
      have := hf.2 (2 * k) (Nat.le_refl _)
      rwa [hs, blk_of (by omega) (Or.inl lX)] at this
    have sY : Srt lt Y := by
      have := hf.2 (2 * k + 1) (by omega)
      have e3 : (2 * k + 1) * B = 2 * k * B + B := Nat.succ_mul (2 * k) B
      have e4 : P ++ (X ++ (Y ++ [])) = (P ++ X) ++ (Y ++ []) := by simp
      rwa [hs, e4, blk_of (by rw [List.length_append]; omega) (Or.inr ⟨by omega, rfl⟩)] at this
    obtain ⟨Z, rfl, pZ, sZ⟩ := h.merges ho P X Y [] hs lP (by omega) (by omega) (by omega) (by omega) sX sY
    have lZ := pZ.length_eq
    rw [List.length_append] at lZ
    have hn : l.length = k * (2 * B) + B + Y.length := by omega
    refine ⟨fun j => ?_, ?_⟩
    · by_cases hjk : j = k
      · subst hjk
        rw [blk_of lP (Or.inr ⟨by omega, rfl⟩)]; exact sZ
      · by_cases hj : j < k
        · have := mul_mono (B := 2 * B) (show j + 1 ≤ k by omega)
          rw [blk_pre (by omega), ← blk_pre (T := X ++ (Y ++ [])) (by omega), ← hs]
          exact hf.1 j hj
        · have := mul_mono (B := 2 * B) (show k + 1 ≤ j by omega)
          rw [blk_none (by simp only [List.length_append, List.length_nil]; omega)]
          exact Srt.nil lt
    · have e5 : P ++ (X ++ (Y ++ [])) = P ++ ((X ++ Y) ++ []) := by simp
      have : (P ++ (Z ++ [])).Perm (P ++ ((X ++ Y) ++ [])) := (pZ.append_right []).append_left P
      rwa [← e5, ← hs] at this
  · refine ⟨fun j => ?_, List.Perm.refl _⟩
    by_cases hj : j < k
    · exact hf.1 j hj
    · by_cases hjk : j = k
      · subst hjk
        have := hf.2 (2 * j) (Nat.le_refl _)
        have e6 : blk (2 * B) j l' = blk B (2 * j) l' := by
          unfold blk
          rw [e2, List.take_of_length_le (by rw [List.length_drop]; omega), List.take_of_length_le (by rw [List.length_drop]; omega)]
        rw [e6]; exact this
      · have := mul_mono (B := 2 * B) (show k + 1 ≤ j by omega)
        rw [blk_none (by omega)]
        exact Srt.nil lt
theorem blk_whole {lt : α → α → Bool} {B : Nat} {l : List α} (h : Blk lt B l) (hl : l.length ≤ B) : Srt lt l := by
  have := h 0
  unfold blk at this
  rwa [Nat.zero_mul, List.drop_zero, List.take_of_length_le hl] at this
end
end Go.Proofs.YtcbkgammlfjjoaaDoor
