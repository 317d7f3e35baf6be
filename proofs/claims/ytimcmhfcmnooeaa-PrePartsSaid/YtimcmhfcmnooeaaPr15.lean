/- The contract of Run. -/
import Derived.Test.YtimcmhfcmnooeaaPr13
import Derived.Test.YtimcmhfcmnooeaaPr14
namespace Go.Proofs.Ytimcmhfcmnooeaa
set_option linter.unusedVariables false
set_option linter.unusedSimpArgs false
open Go.RowKit Go.Maps Go.Proofs.YtimcmhfcmnooeaaW.PrintWords Go.Proofs.YtimcmhfcmnooeaaW.PrintLast Go.Proofs.YtimcmhfcmnooeaaW.PrintMore

section
variable (L0 : List S35) (b c0 base g : Nat) (w : World) (s : St) (t : S35)
theorem tick_any (hG : Good L0) (h : PSx L0 b c0 base g w s) (hfew : s.parts.length ≤ 1000000) (hts : t.f1.size ≤ 65536) :
    Calls Try.prog 13 #[.pointer (some ⟨g, 0, none⟩), .agg #[.int .i64 t.f0, .string t.f1, .int .i64 t.f2]] w (Ends2 L0 b c0 base g w (tickF t s)) := by
  by_cases h1 : t.f1 = sIfdef
  · exact tick_ifdef L0 b c0 base g w s t hG h hfew h1
  by_cases h2 : t.f1 = sIfndef
  · exact tick_ifndef L0 b c0 base g w s t hG h hfew h2
  by_cases h3 : t.f1 = sElse
  · exact tick_else L0 b c0 base g w s t hG h hfew h3
  by_cases h4 : t.f1 = sEndif
  · exact tick_endif L0 b c0 base g w s t h h4
  have hp : Plain t := ⟨beq_eq_false_iff_ne.2 h1, beq_eq_false_iff_ne.2 h2, beq_eq_false_iff_ne.2 h3, beq_eq_false_iff_ne.2 h4⟩
  cases hk : keptF s with
  | false => exact tick_idle L0 b c0 base g w s t h hp hk
  | true =>
    cases h5 : t.f1 == sDefine with
    | true => exact tick_define L0 b c0 base g w s t hG h hp hk h5
    | false =>
      cases h6 : t.f1 == sUndef with
      | true => exact tick_undef L0 b c0 base g w s t hG h hp hk h5 h6
      | false => exact tick_use L0 b c0 base g w s t hG h hp hk h5 h6 hts
end

theorem beginsF_len {t : S35} {th : Bool} {s s2 : St} (h : beginsF t th s = .ok s2) : s2.parts.length + s2.l.length ≤ s.parts.length + s.l.length ∧ s2.l.length ≤ s.l.length := by
  unfold beginsF at h
  split at h
  · cases h
  · rename_i nm s1 hn
    injection h with h
    subst h
    unfold nameF at hn
    split at hn
    · cases hn
    · rename_i x r hl
      split at hn
      · injection hn with hn
        injection hn with _ hn
        subst hn
        simp [hl]
        omega
      · cases hn
theorem nameF_len {a : Int} {nm : ByteArray} {s s2 : St} (hn : nameF a s = .ok (nm, s2)) : s2.parts = s.parts ∧ s2.l.length ≤ s.l.length := by
  unfold nameF at hn
  split at hn
  · cases hn
  · rename_i x r hl
    split at hn
    · injection hn with hn
      injection hn with _ hn
      subst hn
      simp [hl]
    · cases hn

theorem tickF_len {t : S35} {s s2 : St} (h : tickF t s = .ok s2) : s2.parts.length + s2.l.length ≤ s.parts.length + s.l.length ∧ s2.l.length ≤ s.l.length := by
  unfold tickF at h
  split at h
  · exact beginsF_len h
  split at h
  · exact beginsF_len h
  split at h
  · unfold turnsF at h
    split at h
    · cases h
    · rename_i p hp
      split at h
      · cases h
      · injection h with h
        subst h
        have : 0 < s.parts.length := by
          have := (getLast_at hp).1
          exact List.length_pos_iff.2 this
        simp
        omega
  split at h
  · split at h
    · cases h
    · injection h with h
      subst h
      simp
  split at h
  · injection h with h
    subst h
    exact ⟨Nat.le_refl _, Nat.le_refl _⟩
  split at h
  · unfold defineF at h
    split at h
    · cases h
    · rename_i nm s1 hn
      injection h with h
      subst h
      obtain ⟨h1, h2⟩ := nameF_len hn
      have h3 := (List.dropWhile_sublist (l := s1.l) notEnd).length_le
      simp only [h1]
      omega
  split at h
  · unfold undefF at h
    split at h
    · cases h
    · rename_i nm s1 hn
      injection h with h
      subst h
      obtain ⟨h1, h2⟩ := nameF_len hn
      simp only [h1]
      omega
  · obtain ⟨_, _, _, h4, h5⟩ := useF_keeps _ _ _ _ _ h (by show (0 : Int) ≤ 4096; omega)
    rw [h4, h5]
    exact ⟨Nat.le_refl _, Nat.le_refl _⟩
theorem stepF_len {t : S35} {s s2 : St} (h : stepF t s = .ok s2) : s2.parts.length + s2.l.length ≤ s.parts.length + s.l.length ∧ s2.l.length ≤ s.l.length := by
  unfold stepF at h
  split at h
  · exact tickF_len h
  split at h
  · injection h with h
    subst h
    exact ⟨Nat.le_refl _, Nat.le_refl _⟩
  split at h
  · unfold putF at h
    split at h
    · cases h
    · injection h with h
      subst h
      exact ⟨Nat.le_refl _, Nat.le_refl _⟩
  · injection h with h
    subst h
    exact ⟨Nat.le_refl _, Nat.le_refl _⟩


theorem run_start (L0 : List S35) (b c0 : Nat) (w : World) (hne : 0 < L0.length) (hsrc : SrcAt w b L0) (hb : b < w.heap.size) (hc : L0.length ≤ c0) (hm : c0 ≤ maxLen) (w0 : World)
    (h0 : w0 = ((((w.alloc (.cells #[.slice none 0 0] 22)).alloc (.cells #[.slice none 0 0] 25)).alloc (.map #[] 0)).alloc (.cells #[.slice (some ⟨b, 0, none⟩) L0.length c0, .map (some (w.heap.size + 1 + 1)), .slice none 0 0, .slice none 0 0, .int .i64 0] 46))) :
    PS L0 b c0 (w.heap.size + 2) (w.heap.size + 1 + 1 + 1) w0 ⟨L0, [], [], [], 0⟩ 0 (w.heap.size + 2) 0 (.map []) (.slice none 0 0) (.slice none 0 0) ∧
    w0.heap[w.heap.size]? = some (.cells #[.slice none 0 0] 22 (0, 0)) ∧ w0.heap[w.heap.size + 1]? = some (.cells #[.slice none 0 0] 25 (0, 0)) ∧ Below w.heap.size w w0 ∧ w.heap.size + 2 ≤ w0.heap.size := by
  have e1 := heap_alloc_new w (.cells #[.slice none 0 0] 22)
  have e2 := heap_alloc_new (w.alloc (.cells #[.slice none 0 0] 22)) (.cells #[.slice none 0 0] 25)
  have e3 := World.ownsMap_made (H := Value) ((w.alloc (.cells #[.slice none 0 0] 22)).alloc (.cells #[.slice none 0 0] 25)) Try.prog 9 RV
  have e4 := heap_alloc_new (((w.alloc (.cells #[.slice none 0 0] 22)).alloc (.cells #[.slice none 0 0] 25)).alloc (.map #[] 0)) (.cells #[.slice (some ⟨b, 0, none⟩) L0.length c0, .map (some (w.heap.size + 1 + 1)), .slice none 0 0, .slice none 0 0, .int .i64 0] 46)
  simp only [World.size_alloc] at e2 e3 e4
  have e3' := e3.alloc (.cells #[.slice (some ⟨b, 0, none⟩) L0.length c0, .map (some (w.heap.size + 1 + 1)), .slice none 0 0, .slice none 0 0, .int .i64 0] 46)
  have hbel : Below w.heap.size w w0 := by
    rw [h0]
    exact ((((Below.refl _ w).alloc (Nat.le_refl _) _).alloc (by simp) _).alloc (by simp <;> omega) _).alloc (by simp <;> omega) _
  refine ⟨⟨hne, rfl, hc, hm, ?_, hsrc.below hbel hb, by omega, ?_, Nat.le_refl _, ?_, World.ownsRow_nil _ _ _ _, World.ownsRow_nil _ _ _ _, by omega, Nat.le_refl _⟩, ?_, ?_, hbel, ?_⟩
  · rw [h0, e4]
    simp
  · rw [h0]; exact e3'
  · intro s
    rfl
  · rw [h0, Below.heap_alloc _ _ _ (by simp <;> omega), Below.heap_alloc _ _ _ (by simp <;> omega), Below.heap_alloc _ _ _ (by simp), e1]
  · rw [h0, Below.heap_alloc _ _ _ (by simp <;> omega), Below.heap_alloc _ _ _ (by simp), e2]
  · rw [h0]; simp <;> omega
end Go.Proofs.Ytimcmhfcmnooeaa
