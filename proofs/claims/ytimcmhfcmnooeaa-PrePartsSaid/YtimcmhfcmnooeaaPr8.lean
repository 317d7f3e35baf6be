/- The contract of define: the tokens up to the line's end stand for the name. -/
import Derived.Test.YtimcmhfcmnooeaaPr6
namespace Go.Proofs.Ytimcmhfcmnooeaa
set_option linter.unusedVariables false
set_option linter.unusedSimpArgs false
open Go.RowKit Go.Maps Go.Proofs.YtimcmhfcmnooeaaW.PrintWords Go.Proofs.YtimcmhfcmnooeaaW.PrintLast Go.Proofs.YtimcmhfcmnooeaaW.PrintMore

theorem ba_beq (a b : ByteArray) : (a == b) = decide (a = b) := by
  obtain ⟨a⟩ := a
  obtain ⟨b⟩ := b
  have : (ByteArray.mk a == ByteArray.mk b) = (a == b) := rfl
  rw [this]
  by_cases h : a = b
  · subst h; simp
  · simp [h]
instance : LawfulBEq ByteArray where
  eq_of_beq {a b} h := by rw [ba_beq] at h; simpa using h
  rfl {a} := by rw [ba_beq]; simp

theorem lit_ne {s t : ByteArray} (h : s ≠ t) : Lit.string s.data.toList ≠ Lit.string t.data.toList := by
  intro e
  injection e with e
  apply h
  cases s; cases t
  simp at e
  rw [e]
theorem key_lit (s : ByteArray) : WideAt.IsKeyLit (.string s.data.toList) := by simp [WideAt.IsKeyLit]

theorem lookW_hit (ws : List (ByteArray × List S35)) (nm : ByteArray) (bd : List S35) : lookW ((nm, bd) :: ws) nm = some bd := by simp [lookW]
theorem lookW_miss (ws : List (ByteArray × List S35)) (nm s : ByteArray) (bd : List S35) (h : s ≠ nm) : lookW ((nm, bd) :: ws) s = lookW ws s := by
  simp [lookW, List.find?_cons, (beq_eq_false_iff_ne.2 (Ne.symm h))]

theorem WRel.put {L0 : List S35} {b : Nat} {D : DataW Value} {ws : List (ByteArray × List S35)} (h : WRel L0 b D ws) (hD : Maps.IsMap D) (nm : ByteArray) (j k : Nat) (hjk : j + k < L0.length) :
    WRel L0 b (D.put (.string nm.data.toList) (.held (.slice (some ⟨b, j * 3, none⟩) k k))) ((nm, (L0.drop j).take k) :: ws) := by
  intro s
  by_cases e : s = nm
  · subst e
    rw [lookW_hit]
    exact ⟨Maps.has_put_same hD (key_lit s) _, j, k, hjk, rfl, fun z => Maps.atKey_put_same hD (key_lit s) _ z⟩
  · rw [lookW_miss _ _ _ _ e]
    have := h s
    revert this
    cases lookW ws s with
    | none => exact fun h => (Maps.has_put_other (lit_ne e) _).trans h
    | some bd => 
      rintro ⟨h1, i, n, h2, h3, h4⟩
      exact ⟨(Maps.has_put_other (lit_ne e) _).trans h1, i, n, h2, h3, fun z => (Maps.atKey_put_other (lit_ne e) _ z).trans (h4 z)⟩

theorem lookW_filter_same (ws : List (ByteArray × List S35)) (nm : ByteArray) : lookW (ws.filter (fun p => !(p.1 == nm))) nm = none := by
  simp only [lookW, Option.map_eq_none_iff, List.find?_eq_none]
  intro p hp
  have := (List.mem_filter.1 hp).2
  simpa using this
theorem lookW_filter_other (ws : List (ByteArray × List S35)) (nm s : ByteArray) (h : s ≠ nm) : lookW (ws.filter (fun p => !(p.1 == nm))) s = lookW ws s := by
  simp only [lookW]
  congr 1
  induction ws with
  | nil => rfl
  | cons p ws ih =>
    rw [List.filter_cons]
    by_cases e : p.1 = nm
    · rw [if_neg (by simp [e]), ih, List.find?_cons, beq_eq_false_iff_ne.2 (by rw [e]; exact Ne.symm h)]
    · rw [if_pos (by simp [e]), List.find?_cons, List.find?_cons, ih]

theorem WRel.del {L0 : List S35} {b : Nat} {D : DataW Value} {ws : List (ByteArray × List S35)} (h : WRel L0 b D ws) (nm : ByteArray) :
    WRel L0 b (D.del (.string nm.data.toList)) (ws.filter (fun p => !(p.1 == nm))) := by
  intro s
  by_cases e : s = nm
  · subst e
    rw [lookW_filter_same]
    exact Maps.has_del_same
  · rw [lookW_filter_other _ _ _ e]
    have := h s
    revert this
    cases lookW ws s with
    | none => exact fun h => (Maps.has_del_other (lit_ne e)).trans h
    | some bd => 
      rintro ⟨h1, i, n, h2, h3, h4⟩
      exact ⟨(Maps.has_del_other (lit_ne e)).trans h1, i, n, h2, h3, fun z => (Maps.atKey_del_other (lit_ne e) z).trans (h4 z)⟩

/-- the run of tokens ahead of a line's end -/
theorem takeWhile_facts {L : List S35} (p : S35 → Bool) : ∀ k, (L.takeWhile p).length = k → (∀ m x, m < k → L[m]? = some x → p x = true) ∧ (∀ x, L[k]? = some x → p x = false) ∧ L.takeWhile p = L.take k ∧ L.dropWhile p = L.drop k := by
  induction L with
  | nil => intro k hk; simp at hk; subst hk; simp
  | cons y L ih =>
    intro k hk
    by_cases hp : p y = true
    · rw [List.takeWhile_cons_of_pos hp] at hk ⊢
      rw [List.dropWhile_cons_of_pos hp]
      obtain ⟨m, rfl⟩ : ∃ m, k = m + 1 := ⟨k - 1, by simp at hk; omega⟩
      obtain ⟨h1, h2, h3, h4⟩ := ih m (by simpa using hk)
      refine ⟨fun i x hi hx => ?_, fun x hx => h2 x (by simpa using hx), by rw [h3]; rfl, by rw [h4]; rfl⟩
      cases i with
      | zero => simp at hx; subst hx; exact hp
      | succ i => exact h1 i x (by omega) (by simpa using hx)
    · rw [List.takeWhile_cons_of_neg hp] at hk ⊢
      rw [List.dropWhile_cons_of_neg hp]
      simp at hk; subst hk
      refine ⟨fun i x hi => by omega, fun x hx => ?_, rfl, rfl⟩
      simp at hx; subst hx
      simpa using hp

theorem Ends.stops {L0 : List S35} (hE : Ends L0) {j : Nat} (hj : j < L0.length) : ((L0.drop j).takeWhile notEnd).length < L0.length - j := by
  obtain ⟨h1, _⟩ := takeWhile_facts (L := L0.drop j) notEnd _ rfl
  have hle : ((L0.drop j).takeWhile notEnd).length ≤ L0.length - j := by
    have := (List.takeWhile_sublist (l := L0.drop j) notEnd).length_le
    simpa using this
  rcases Nat.lt_or_ge ((L0.drop j).takeWhile notEnd).length (L0.length - j) with h | h
  · exact h
  · have hx : (L0.drop j)[L0.length - j - 1]? = some L0[L0.length - 1] := by
      rw [List.getElem?_drop, show j + (L0.length - j - 1) = L0.length - 1 from by omega, List.getElem?_eq_getElem (by omega)]
    have h2 := h1 _ _ (by omega) hx
    have h3 := hE (L0.length - 1) _ (List.getElem?_eq_getElem (by omega))
    simp only [notEnd, Bool.and_eq_true, bne_iff_ne] at h2
    have := h3 h2.2
    omega
end Go.Proofs.Ytimcmhfcmnooeaa
