/- The heap and the document's sorted list: the plain law. No Go in it. -/
import Derived.Test.YtebcbjmdkbmnkaaEvRefC
import Derived.Test.YtebcbjmdkbmnkaaEvCancels
namespace Go.Proofs.Ytebcbjmdkbmnkaa
set_option linter.unusedVariables false
set_option linter.unusedSimpArgs false

def Lt2 (x y : Ev) : Prop := LtE x y ∧ ¬ (x.f = y.f ∧ x.s = y.s)
/-- a heap and the list that tells the same -/
structure Cpl (L R : List Ev) : Prop where
  inv : Inv L
  perm : L.Perm R
  srt : R.Pairwise Lt2

theorem LtE.trans {x y z : Ev} (h : LtE x y) (k : LtE y z) : LtE x z := by unfold LtE at *; omega
theorem lt_or {x y : Ev} (h : ¬ (x.f = y.f ∧ x.s = y.s)) : LtE x y ∨ LtE y x := by unfold LtE; omega

theorem Cpl.nil : Cpl [] [] := ⟨Inv.nil, List.Perm.refl _, List.Pairwise.nil⟩
theorem Cpl.len {L R : List Ev} (h : Cpl L R) : R.length = L.length := h.perm.length_eq.symm

theorem idx_iff (p : Ev → Bool) (L : List Ev) : 0 ≤ idxP p L ↔ ∃ y ∈ L, p y = true := by
  constructor
  · intro h
    unfold idxP at h
    cases hf : L.findIdx? p with
    | none => rw [hf] at h; simp at h
    | some i =>
      obtain ⟨hi, h1, _⟩ := List.findIdx?_eq_some_iff_getElem.1 hf
      exact ⟨L[i], List.getElem_mem hi, h1⟩
  · rintro ⟨y, hy, hp⟩
    obtain ⟨i, h1, _, _⟩ := idxP_hit hy hp
    rw [h1]; omega
theorem Cpl.idx {L R : List Ev} (h : Cpl L R) (p : Ev → Bool) : 0 ≤ idxP p L ↔ 0 ≤ idxP p R := by
  rw [idx_iff, idx_iff]
  exact ⟨fun ⟨y, hy, hp⟩ => ⟨y, h.perm.mem_iff.1 hy, hp⟩, fun ⟨y, hy, hp⟩ => ⟨y, h.perm.mem_iff.2 hy, hp⟩⟩

theorem insE_perm (x : Ev) (R : List Ev) : (insE x R).Perm (x :: R) := by
  induction R with
  | nil => exact List.Perm.refl _
  | cons y R ih =>
    unfold insE
    split
    · exact List.Perm.refl _
    · exact (List.Perm.cons y ih).trans (List.Perm.swap _ _ _)
theorem insE_srt {x : Ev} {R : List Ev} (h : R.Pairwise Lt2) (hn : ∀ y ∈ R, ¬ (x.f = y.f ∧ x.s = y.s)) : (insE x R).Pairwise Lt2 := by
  induction R with
  | nil => unfold insE; simp
  | cons y R ih =>
    obtain ⟨h1, h2⟩ := List.pairwise_cons.1 h
    unfold insE
    split
    · rename_i hl
      have hl := (lessE_iff _ _).1 hl
      refine List.pairwise_cons.2 ⟨fun z hz => ?_, h⟩
      rcases List.mem_cons.1 hz with rfl | hz'
      · exact ⟨hl, hn _ hz⟩
      · exact ⟨hl.trans (h1 z hz').1, hn _ hz⟩
    · rename_i hl
      have hl : ¬ LtE x y := fun k => hl ((lessE_iff _ _).2 k)
      refine List.pairwise_cons.2 ⟨fun z hz => ?_, ih h2 (fun z hz => hn z (List.mem_cons_of_mem _ hz))⟩
      rcases List.mem_cons.1 ((insE_perm x R).mem_iff.1 hz) with rfl | hz'
      · have hny := hn y List.mem_cons_self
        refine ⟨(lt_or hny).resolve_left hl, fun k => hny ⟨k.1.symm, k.2.symm⟩⟩
      · exact h1 z hz'

theorem Cpl.put {L R : List Ev} (h : Cpl L R) (lim : Int) (x : Ev) :
    (putE lim L x).1 = rputF lim R x ∧ ((rputF lim R x = 0 ∧ (putE lim L x).2 = pushL L x ∧ L.length < lim ∧ Cpl (pushL L x) (insE x R)) ∨ (rputF lim R x ≠ 0 ∧ (putE lim L x).2 = L)) := by
  unfold putE rputF
  by_cases h1 : x.t < 0 ∨ x.a = true
  · rw [if_pos h1, if_pos h1]; exact ⟨rfl, .inr ⟨by decide, rfl⟩⟩
  rw [if_neg h1, if_neg h1]
  by_cases h2 : 0 ≤ idxP (sameNo x.f x.s) L
  · rw [if_pos h2, if_pos ((h.idx _).1 h2)]; exact ⟨rfl, .inr ⟨by decide, rfl⟩⟩
  have h2' : ¬ 0 ≤ idxP (sameNo x.f x.s) R := fun k => h2 ((h.idx _).2 k)
  rw [if_neg h2, if_neg h2']
  by_cases h3 : 4611686018427387903 < x.t
  · rw [if_pos h3, if_pos h3]; exact ⟨rfl, .inr ⟨by decide, rfl⟩⟩
  rw [if_neg h3, if_neg h3, h.len]
  by_cases h4 : lim ≤ L.length
  · rw [if_pos h4, if_pos h4]; exact ⟨rfl, .inr ⟨by decide, rfl⟩⟩
  rw [if_neg h4, if_neg h4]
  refine ⟨rfl, .inl ⟨rfl, rfl, by omega, h.inv.push x, ?_, insE_srt h.srt ?_⟩⟩
  · exact ((pushL_perm L x).trans (List.Perm.cons x h.perm)).trans (insE_perm x R).symm
  · intro y hy k
    apply h2'
    rw [idx_iff]
    exact ⟨y, hy, by simp [sameNo, k.1, k.2]⟩

theorem Cpl.min {L R : List Ev} (h : Cpl L R) (hl : 0 < L.length) : evAt L 0 = evAt R 0 := by
  cases R with
  | nil => have := h.len; simp at this; omega
  | cons r R =>
    obtain ⟨h1, h2⟩ := List.pairwise_cons.1 h.srt
    have hm : evAt L 0 ∈ r :: R := h.perm.mem_iff.1 (evAt_mem hl)
    have hr : r ∈ L := h.perm.mem_iff.2 List.mem_cons_self
    show evAt L 0 = r
    rcases List.mem_cons.1 hm with e | e
    · exact e
    · obtain ⟨i, hi, e2⟩ := List.getElem_of_mem hr
      have := Heap.min h.inv i hi
      rw [evAt_eq hi, e2] at this
      exact absurd (h1 _ e).1 this

theorem Cpl.take {L R : List Ev} {m : Nat} (h : Cpl L R) (hl : L.length = m + 1) :
    evAt (popL L) m = evAt R 0 ∧ Cpl (popL L).dropLast (R.eraseIdx 0) ∧ (popL L).dropLast.length = m := by
  obtain ⟨t1, t2, t3, t4, t5, t6⟩ := take_step h.inv hl
  have hmn := h.min (by omega)
  refine ⟨t1.trans hmn, ⟨t2, ?_, ?_⟩, t4⟩
  · cases R with
    | nil => have := h.len; simp at this; omega
    | cons r R =>
      have e : evAt L 0 = r := hmn
      rw [e] at t3
      exact List.Perm.cons_inv (t3.symm.trans h.perm)
  · exact h.srt.sublist (List.eraseIdx_sublist _ _)

theorem uniq {R : List Ev} (h : R.Pairwise Lt2) {x y : Ev} (hx : x ∈ R) (hy : y ∈ R) (e : x.f = y.f ∧ x.s = y.s) : x = y := by
  induction R with
  | nil => simp at hx
  | cons r R ih =>
    obtain ⟨h1, h2⟩ := List.pairwise_cons.1 h
    rcases List.mem_cons.1 hx with rfl | hx' <;> rcases List.mem_cons.1 hy with rfl | hy'
    · rfl
    · exact absurd e (h1 _ hy').2
    · exact absurd ⟨e.1.symm, e.2.symm⟩ (h1 _ hx').2
    · exact ih h2 hx' hy'

theorem erase_perm {R : List Ev} : ∀ {k : Nat}, k < R.length → R.Perm (evAt R k :: R.eraseIdx k) := by
  induction R with
  | nil => intro k h; simp at h
  | cons r R ih =>
    intro k h
    cases k with
    | zero => exact List.Perm.refl _
    | succ k =>
      have := ih (k := k) (by simpa using h)
      exact (List.Perm.cons r this).trans (List.Perm.swap _ _ _)

theorem idxP_spec {p : Ev → Bool} {L : List Ev} {k : Nat} (h : idxP p L = k) : k < L.length ∧ p (evAt L k) = true := by
  have h0 : 0 ≤ idxP p L := by omega
  obtain ⟨y, hy, hp⟩ := (idx_iff p L).1 h0
  obtain ⟨i, h1, h2, h3⟩ := idxP_hit hy hp
  have : i = k := by omega
  subst this
  exact ⟨h2, h3⟩

theorem Cpl.cancel {L R : List Ev} (h : Cpl L R) (f s : Int) :
    (cancelE L f s).1 = decide (0 ≤ idxP (sameNo f s) R) ∧ ((idxP (sameNo f s) R < 0 ∧ (cancelE L f s).2 = L) ∨ (0 ≤ idxP (sameNo f s) R ∧ Cpl (cancelE L f s).2 (R.eraseIdx (idxP (sameNo f s) R).toNat))) := by
  unfold cancelE
  by_cases h1 : 0 ≤ idxP (sameNo f s) L
  · have h2 := (h.idx _).1 h1
    rw [if_neg (by omega)]
    refine ⟨by simpa using h2, .inr ⟨h2, ?_⟩⟩
    obtain ⟨i, hi⟩ := Int.eq_ofNat_of_zero_le h1
    obtain ⟨k, hk⟩ := Int.eq_ofNat_of_zero_le h2
    obtain ⟨hil, hip⟩ := idxP_spec hi
    obtain ⟨hkl, hkp⟩ := idxP_spec hk
    rw [hi, hk, Int.toNat_natCast, Int.toNat_natCast]
    obtain ⟨n, hn⟩ : ∃ n, L.length = n + 1 := ⟨L.length - 1, by omega⟩
    obtain ⟨r1, r2, r3, r4⟩ := removeL_facts h.inv hn (show i ≤ n by omega)
    have he : evAt L i = evAt R k := by
      refine uniq h.srt (h.perm.mem_iff.1 (evAt_mem hil)) (evAt_mem hkl) ?_
      simp only [sameNo, Bool.and_eq_true, beq_iff_eq] at hip hkp
      exact ⟨hip.1.trans hkp.1.symm, hip.2.trans hkp.2.symm⟩
    rw [he] at r4
    exact ⟨r3, List.Perm.cons_inv ((r4.symm.trans h.perm).trans (erase_perm hkl)), h.srt.sublist (List.eraseIdx_sublist _ _)⟩
  · have h2 : ¬ 0 ≤ idxP (sameNo f s) R := fun k => h1 ((h.idx _).2 k)
    rw [if_pos (by omega)]
    exact ⟨by simpa using h2, .inl ⟨by omega, rfl⟩⟩
end Go.Proofs.Ytebcbjmdkbmnkaa
