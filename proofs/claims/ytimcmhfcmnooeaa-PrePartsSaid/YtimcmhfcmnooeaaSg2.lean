/- Lexing is local, whole texts. -/
import Derived.Test.YtimcmhfcmnooeaaSg1
namespace Go.Proofs.Ytimcmhfcmnooeaa
set_option linter.unusedVariables false
set_option linter.unusedSimpArgs false
open Go.RowKit Go.Proofs.YtimcmhfcmnooeaaW.PrintWords Go.Proofs.YtimcmhfcmnooeaaW.PrintLast Go.Proofs.YtimcmhfcmnooeaaW.PrintMore

/-- a token, so much later -/
def mv (o : Nat) (t : S35) : S35 := ⟨t.f0, t.f1, t.f2 + o⟩
def isDef (t : S35) : Bool := t.f0 == 4 && t.f1.toList == ([100, 101, 102, 105, 110, 101] : List UInt8)
/-- does a line's end count, behind a token? -/
def dfStep (df : Bool) (t : S35) : Bool := if t.f0 = 5 then false else df || isDef t
def dfEnd (df : Bool) (X : List S35) : Bool := X.foldl dfStep df
def pushX (k : Nat) (s : ByteArray) (l : List S35) (t : S35) (df : Bool) (e : Int) : Option ((List S35) × (List S31)) :=
  if l.length < 4398046511104 then ((some (l ++ [t] : List (S35))).bind fun y166 => (if (y166.length : Int) > 16384 then (if 0 ≤ (wrap64 ((y166.length : Int) - 1)) then (if (wrap64 ((y166.length : Int) - 1)) < (y166.length : Int) then ((silkwormref02_fails.f ((rd_T35 y166 (wrap64 ((y166.length : Int) - 1))).f2) 2).bind fun t170 => (some (([] : List (S35)), t170))) else (none)) else (none)) else (silkwormref02_Lex.l0 k s y166 df e))) else (none)

theorem pushX_l0 {k : Nat} {s : ByteArray} {l : List S35} {t : S35} {df : Bool} {e : Int} {r : (List S35) × (List S31)} (h : pushX k s l t df e = some r) (h0 : r.1 ≠ [] ∨ l.length < 16384) : silkwormref02_Lex.l0 k s (l ++ [t]) df e = some r := by
  unfold pushX at h
  split at h
  · simp only [Option.bind_some] at h
    split at h
    · rename_i hbig
      simp at hbig
      split at h
      · split at h
        · unfold silkwormref02_fails.f at h
          simp only [Option.bind_some] at h
          injection h with h
          rw [← h] at h0
          rcases h0 with h0 | h0
          · exact absurd rfl h0
          · omega
        · cases h
      · cases h
    · exact h
  · cases h

theorem Seg.lex {s a : ByteArray} {o : Nat} (h : Seg s a o) {ra r : (List S35) × (List S31)} (hra : ra.1 ≠ []) (hr : r.1 ≠ [] ∨ s.size ≤ 16384) : ∀ (k p : Nat) (l0 l : List S35) (df : Bool), p ≤ a.size → l.length ≤ o + p → silkwormref02_Lex.l0 k a l0 df p = some ra → silkwormref02_Lex.l0 k s l df ((o + p : Nat) : Int) = some r →
    ∃ X k', ra.1 = l0 ++ X ++ [⟨6, ⟨#[]⟩, a.size⟩] ∧ silkwormref02_Lex.l0 k' s (l ++ X.map (mv o)) (dfEnd df X) ((o + a.size : Nat) : Int) = some r ∧ (l ++ X.map (mv o)).length ≤ o + a.size := by
  have hfit := h.fit
  have hsm := h.small
  intro k
  induction k using Nat.strongRecOn with
  | ind k ih =>
  intro p l0 l df hp hll ha hs
  -- a token more
  have hmore : ∀ (k1 : Nat) (t : S35) (df1 : Bool) (q : Nat), k1 < k → p < q → q ≤ a.size → df1 = dfStep df t → pushX k1 a l0 t df1 q = some ra → pushX k1 s l (mv o t) df1 ((o + q : Nat) : Int) = some r →
      ∃ X k', ra.1 = l0 ++ X ++ [⟨6, ⟨#[]⟩, a.size⟩] ∧ silkwormref02_Lex.l0 k' s (l ++ X.map (mv o)) (dfEnd df X) ((o + a.size : Nat) : Int) = some r ∧ (l ++ X.map (mv o)).length ≤ o + a.size := by
    intro k1 t df1 q hk hpq hq hdf h1 h2
    have h1 := pushX_l0 h1 (.inl hra)
    have h2 := pushX_l0 h2 (hr.imp id (fun h => by omega))
    obtain ⟨X, k', e1, e2, e3⟩ := ih k1 hk q _ _ _ hq (by simp; omega) h1 h2
    exact ⟨t :: X, k', by rw [e1]; simp, by rw [List.map_cons, dfEnd, List.foldl_cons, ← hdf, List.append_cons]; exact e2, by rw [List.map_cons, List.append_cons]; exact e3⟩
  by_cases hnl : p = a.size
  · subst hnl
    cases k with
    | zero => cases ha
    | succ k =>
      rw [silkwormref02_Lex.l0, if_neg (by omega)] at ha
      split at ha
      · injection ha with ha
        exact ⟨[], k + 1, by rw [← ha]; simp, by simpa [dfEnd] using hs, by simpa using hll⟩
      · cases ha
  have hlt : p < a.size := by omega
  have hj3 : ∀ (k1 : Nat) (x : Bool), k1 < k → silkwormref02_Lex.j3 k1 a l0 df p x = some ra → silkwormref02_Lex.j3 k1 s l df ((o + p : Nat) : Int) x = some r → ∃ X k', ra.1 = l0 ++ X ++ [⟨6, ⟨#[]⟩, a.size⟩] ∧ silkwormref02_Lex.l0 k' s (l ++ X.map (mv o)) (dfEnd df X) ((o + a.size : Nat) : Int) = some r ∧ (l ++ X.map (mv o)).length ≤ o + a.size := by
    intro k1 x hk h1 h2
    cases k1 with
    | zero => cases h1
    | succ k1 =>
    rw [silkwormref02_Lex.j3] at h1 h2
    cases x with
    | true =>
      rw [if_pos rfl] at h1 h2
      cases hb : silkwormref02_behind.f k1 a p with
      | none => rw [hb] at h1; cases h1
      | some e =>
        rw [hb] at h1
        simp only [Option.bind_some] at h1
        split at h1
        · unfold silkwormref02_fails.f at h1
          simp only [Option.bind_some] at h1
          injection h1 with h1
          rw [← h1] at hra
          exact absurd rfl hra
        · rename_i hneg
          obtain ⟨hb2, hle, hge⟩ := h.behind k1 p e hlt hb (by omega)
          rw [hb2] at h2
          simp only [Option.bind_some] at h2
          rw [if_neg (by omega)] at h2
          obtain ⟨n, rfl⟩ : ∃ n : Nat, e = n := ⟨e.toNat, by omega⟩
          rw [show (o : Int) + n = ((o + n : Nat) : Int) from by omega] at h2
          exact ih k1 (by omega) n _ _ _ (by omega) (by omega) h1 h2
    | false =>
      rw [if_neg (by simp)] at h1 h2
      cases hb : silkwormref02_one.f k1 a p with
      | none => rw [hb] at h1; cases h1
      | some t =>
        rw [hb] at h1
        simp only [Option.bind_some] at h1
        split at h1
        · rename_i h0
          rw [h.one k1 p t hlt hb h0] at h2
          simp only [Option.bind_some, mvR] at h2
          rw [if_pos h0] at h2
          rcases one_ok (by omega) hlt hb with hne | ⟨_, a1, a2, a3, a4, a5, a6⟩
          · exact absurd h0 hne
          obtain ⟨n, hn⟩ : ∃ n : Nat, t.2.2.2.1 = n := ⟨t.2.2.2.1.toNat, by omega⟩
          rw [hn] at h1 h2
          rw [show (n : Int) + o = ((o + n : Nat) : Int) from by omega] at h2
          have h5 : ¬ t.1 = 5 := by omega
          cases df with
          | true =>
            rw [if_pos rfl] at h1 h2
            exact hmore k1 ⟨t.1, t.2.1, t.2.2.1⟩ true n (by omega) (by omega) (by omega) (by simp only [dfStep]; rw [if_neg h5]; rfl) h1 h2
          | false =>
            rw [if_neg (by simp)] at h1 h2
            by_cases h4 : t.1 = 4
            · rw [if_pos h4] at h1 h2
              exact hmore k1 ⟨t.1, t.2.1, t.2.2.1⟩ (t.2.1.toList == ([100, 101, 102, 105, 110, 101] : List UInt8)) n (by omega) (by omega) (by omega) (by simp only [dfStep, isDef]; rw [if_neg h5]; simp [h4]) h1 h2
            · rw [if_neg h4] at h1 h2
              exact hmore k1 ⟨t.1, t.2.1, t.2.2.1⟩ false n (by omega) (by omega) (by omega) (by simp only [dfStep, isDef]; rw [if_neg h5]; simp [h4]) h1 h2
        · unfold silkwormref02_fails.f at h1
          simp only [Option.bind_some] at h1
          injection h1 with h1
          rw [← h1] at hra
          exact absurd rfl hra
  have hj2 : ∀ (k1 : Nat) (x : Bool), k1 < k → silkwormref02_Lex.j2 k1 a l0 df p x = some ra → silkwormref02_Lex.j2 k1 s l df ((o + p : Nat) : Int) x = some r → ∃ X k', ra.1 = l0 ++ X ++ [⟨6, ⟨#[]⟩, a.size⟩] ∧ silkwormref02_Lex.l0 k' s (l ++ X.map (mv o)) (dfEnd df X) ((o + a.size : Nat) : Int) = some r ∧ (l ++ X.map (mv o)).length ≤ o + a.size := by
    intro k1 x hk h1 h2
    cases k1 with
    | zero => cases h1
    | succ k1 =>
    rw [silkwormref02_Lex.j2] at h1 h2
    rw [w64 (by omega) (by omega)] at h1 h2
    rw [h.begins p (by omega) 47 47 (by decide) (by decide), h.begins p (by omega) 47 42 (by decide) (by decide)] at h2
    rw [begins_two a p 47 47 (by omega) (by omega), begins_two a p 47 42 (by omega) (by omega)] at h1 h2
    simp only [Option.bind_some] at h1 h2
    split at h1
    · rename_i hx
      rw [if_pos hx] at h2
      rw [show (p : Int) + 1 = ((p + 1 : Nat) : Int) from by omega] at h1
      rw [show ((o + p : Nat) : Int) + 1 = ((o + (p + 1) : Nat) : Int) from by omega] at h2
      exact ih k1 (by omega) (p + 1) _ _ _ (by omega) (by omega) h1 h2
    · rename_i hx
      rw [if_neg hx] at h2
      split at h1
      · rename_i hy
        rw [if_pos hy] at h2
        exact hj3 k1 _ (by omega) h1 h2
      · rename_i hy
        rw [if_neg hy] at h2
        exact hj3 k1 _ (by omega) h1 h2
  have hj1 : ∀ (k1 : Nat) (c : Int) (x : Bool), k1 < k → silkwormref02_Lex.j1 k1 a l0 df p c x = some ra → silkwormref02_Lex.j1 k1 s l df ((o + p : Nat) : Int) c x = some r → ∃ X k', ra.1 = l0 ++ X ++ [⟨6, ⟨#[]⟩, a.size⟩] ∧ silkwormref02_Lex.l0 k' s (l ++ X.map (mv o)) (dfEnd df X) ((o + a.size : Nat) : Int) = some r ∧ (l ++ X.map (mv o)).length ≤ o + a.size := by
    intro k1 c x hk h1 h2
    cases k1 with
    | zero => cases h1
    | succ k1 =>
    rw [silkwormref02_Lex.j1] at h1 h2
    rw [w64 (by omega) (by omega)] at h1 h2
    by_cases hx : x = true
    · rw [if_pos hx] at h1 h2
      rw [show (p : Int) + 1 = ((p + 1 : Nat) : Int) from by omega] at h1
      rw [show ((o + p : Nat) : Int) + 1 = ((o + (p + 1) : Nat) : Int) from by omega] at h2
      refine hmore k1 ⟨5, ⟨#[]⟩, p⟩ false (p + 1) (by omega) (by omega) (by omega) rfl h1 ?_
      rw [mv, show (p : Int) + o = ((o + p : Nat) : Int) from by omega]
      exact h2
    · rw [if_neg hx] at h1 h2
      by_cases c1 : c = 32
      · rw [if_pos c1] at h1 h2
        exact hj2 k1 _ (by omega) h1 h2
      rw [if_neg c1] at h1 h2
      by_cases c2 : c = 9
      · rw [if_pos c2] at h1 h2
        exact hj2 k1 _ (by omega) h1 h2
      rw [if_neg c2] at h1 h2
      by_cases c3 : c = 10
      · rw [if_pos c3] at h1 h2
        exact hj2 k1 _ (by omega) h1 h2
      rw [if_neg c3] at h1 h2
      exact hj2 k1 _ (by omega) h1 h2
  cases k with
  | zero => cases ha
  | succ k =>
    rw [silkwormref02_Lex.l0, if_pos (by omega), if_pos (by omega)] at ha hs
    rw [h.same p hlt] at hs
    split at ha
    · rename_i hc
      rw [if_pos hc] at hs
      exact hj1 k _ _ (by omega) ha hs
    · rename_i hc
      rw [if_neg hc] at hs
      exact hj1 k _ _ (by omega) ha hs

/-- the line's end behind a text -/
theorem lex_line {s : ByteArray} {r : (List S35) × (List S31)} {k p : Nat} {l : List S35} {df : Bool} (hsm : s.size ≤ 65536) (hr : r.1 ≠ [] ∨ s.size ≤ 16384) (hl : l.length ≤ p) (hp : p < s.size) (h10 : bt s p = 10) (h : silkwormref02_Lex.l0 k s l df p = some r) :
    ∃ k', silkwormref02_Lex.l0 k' s (l ++ if df then [⟨5, ⟨#[]⟩, p⟩] else []) false ((p + 1 : Nat) : Int) = some r := by
  cases k with
  | zero => cases h
  | succ k =>
  rw [silkwormref02_Lex.l0, if_pos (by omega), if_pos (by omega), h10, if_pos rfl] at h
  cases k with
  | zero => cases h
  | succ k =>
  rw [silkwormref02_Lex.j1, w64 (by omega) (by omega)] at h
  cases df with
  | true =>
    rw [if_pos rfl] at h
    have h1 := pushX_l0 (t := ⟨5, ⟨#[]⟩, p⟩) (df := false) h (hr.imp id (fun h => by omega))
    exact ⟨k, h1⟩
  | false =>
    rw [if_neg (by simp), if_neg (by decide), if_neg (by decide), if_pos rfl] at h
    cases k with
    | zero => cases h
    | succ k =>
    rw [silkwormref02_Lex.j2, if_pos rfl, w64 (by omega) (by omega)] at h
    exact ⟨k, by simpa using h⟩

theorem lex_end {s : ByteArray} {r : (List S35) × (List S31)} {k : Nat} {l : List S35} {df : Bool} (h : silkwormref02_Lex.l0 k s l df s.size = some r) : r.1 = l ++ [⟨6, ⟨#[]⟩, s.size⟩] := by
  cases k with
  | zero => cases h
  | succ k =>
  rw [silkwormref02_Lex.l0, if_neg (by omega)] at h
  split at h
  · injection h with h
    rw [← h]
  · cases h

/-- a text's tokens -/
def Toks (a : ByteArray) (L : List S35) : Prop := ∃ k, silkwormlaw03_lexed.f k a = some L
theorem Toks.l0 {a : ByteArray} {L : List S35} (ha : a.size ≤ 65536) (h : Toks a L) : ∃ k r, silkwormref02_Lex.l0 k a [] false 0 = some r ∧ r.1 = L := by
  obtain ⟨k, h⟩ := h
  unfold silkwormlaw03_lexed.f silkwormref02_Lex.f at h
  rw [if_neg (by omega)] at h
  cases hr : silkwormref02_Lex.l0 k a [] false 0 with
  | none => rw [hr] at h; cases h
  | some r =>
    rw [hr] at h
    simp only [Option.bind_some] at h
    injection h with h
    exact ⟨k, r, hr, h⟩
theorem lex_up {k k' : Nat} {s : ByteArray} {l : List S35} {df : Bool} {p : Int} {r : (List S35) × (List S31)} (hk : k ≤ k') (h : silkwormref02_Lex.l0 k s l df p = some r) : silkwormref02_Lex.l0 k' s l df p = some r :=
  at_rounds (g := fun k => silkwormref02_Lex.l0 k s l df p) (fun k => (silkwormref02_Lex.mono_l k).1 _ _ _ _) hk h

/-- a text within a text, and the line's end behind it -/
theorem Seg.take {s a : ByteArray} {o : Nat} (h : Seg s a o) (hN : o + a.size < s.size) {X l : List S35} {r : (List S35) × (List S31)} (hr : r.1 ≠ [] ∨ s.size ≤ 16384) (ha : Toks a (X ++ [⟨6, ⟨#[]⟩, a.size⟩])) (hl : l.length ≤ o) {k : Nat} (hs : silkwormref02_Lex.l0 k s l false (o : Int) = some r) :
    ∃ k', silkwormref02_Lex.l0 k' s (l ++ X.map (mv o) ++ if dfEnd false X then [⟨5, ⟨#[]⟩, ((o + a.size : Nat) : Int)⟩] else []) false ((o + a.size + 1 : Nat) : Int) = some r ∧ (l ++ X.map (mv o)).length ≤ o + a.size := by
  have hfit := h.fit
  have hsm := h.small
  obtain ⟨k1, ra, h1, e1⟩ := ha.l0 (by omega)
  obtain ⟨X', k2, e2, h2, h3⟩ := h.lex (ra := ra) (r := r) (by rw [e1]; simp) hr (k + k1) 0 [] l false (by omega) (by omega) (lex_up (by omega) h1) (lex_up (by omega) hs)
  have : X' = X := by
    rw [e1, List.nil_append] at e2
    exact (List.append_cancel_right e2).symm
  subst this
  obtain ⟨k3, h4⟩ := lex_line hsm hr h3 hN (h.nl.resolve_left (by omega)).2 h2
  exact ⟨k3, h4, h3⟩
/-- the tokens of the rest, from a place -/
def Rest (s : ByteArray) (l : List S35) (p : Nat) (L : List S35) : Prop := ∃ k r, silkwormref02_Lex.l0 k s l false (p : Int) = some r ∧ r.1 = L ∧ l.length ≤ p
theorem Rest.start {s : ByteArray} {L : List S35} (hs : s.size ≤ 65536) (h : Toks s L) : Rest s [] 0 L := by
  obtain ⟨k, r, h1, h2⟩ := h.l0 hs
  exact ⟨k, r, h1, h2, by simp⟩
theorem Rest.stop {s : ByteArray} {l L : List S35} (h : Rest s l s.size L) : L = l ++ [⟨6, ⟨#[]⟩, s.size⟩] := by
  obtain ⟨k, r, h1, h2, _⟩ := h
  rw [← h2]
  exact lex_end h1
theorem Rest.take {s a : ByteArray} {o : Nat} {X l L : List S35} (hr : L ≠ [] ∨ s.size ≤ 16384) (h : Rest s l o L) (hg : Seg s a o) (hN : o + a.size < s.size) (ha : Toks a (X ++ [⟨6, ⟨#[]⟩, a.size⟩])) :
    Rest s (l ++ X.map (mv o) ++ if dfEnd false X then [⟨5, ⟨#[]⟩, ((o + a.size : Nat) : Int)⟩] else []) (o + a.size + 1) L := by
  obtain ⟨k, r, h1, h2, h3⟩ := h
  obtain ⟨k', h4, h5⟩ := hg.take hN (by rw [h2]; exact hr) ha h3 h1
  refine ⟨k', r, h4, h2, ?_⟩
  rw [List.length_append]
  split <;> simp at h5 ⊢ <;> omega
/-- a text that ends a text -/
theorem Rest.last {s a : ByteArray} {o : Nat} {X l L : List S35} (hr : L ≠ [] ∨ s.size ≤ 16384) (h : Rest s l o L) (hg : Seg s a o) (hE : o + a.size = s.size) (ha : Toks a (X ++ [⟨6, ⟨#[]⟩, a.size⟩])) :
    L = l ++ X.map (mv o) ++ [⟨6, ⟨#[]⟩, s.size⟩] := by
  obtain ⟨k, r, hs, h2, hl⟩ := h
  have hfit := hg.fit
  have hsm := hg.small
  obtain ⟨k1, ra, h1, e1⟩ := ha.l0 (by omega)
  obtain ⟨X', k2, e2, h2', h3⟩ := hg.lex (ra := ra) (r := r) (by rw [e1]; simp) (by rw [h2]; exact hr) (k + k1) 0 [] l false (by omega) (by omega) (lex_up (by omega) h1) (lex_up (by omega) hs)
  have : X' = X := by
    rw [e1, List.nil_append] at e2
    exact (List.append_cancel_right e2).symm
  subst this
  rw [hE] at h2'
  rw [← h2]
  exact lex_end h2'
end Go.Proofs.Ytimcmhfcmnooeaa
