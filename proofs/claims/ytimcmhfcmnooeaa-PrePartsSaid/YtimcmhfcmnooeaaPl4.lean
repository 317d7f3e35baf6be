/- What a run of the directives comes to, plainly: a reason within the text, or tokens without ticks. -/
import Derived.Test.YtimcmhfcmnooeaaPlA
import Derived.Test.YtimcmhfcmnooeaaPr16
namespace Go.Proofs.Ytimcmhfcmnooeaa
set_option linter.unusedVariables false
set_option linter.unusedSimpArgs false
open Go.RowKit Go.Proofs.YtimcmhfcmnooeaaW.PrintWords Go.Proofs.YtimcmhfcmnooeaaW.PrintLast Go.Proofs.YtimcmhfcmnooeaaW.PrintMore

def endT (N : Nat) : S35 := ⟨6, ⟨#[]⟩, N⟩
/-- tokens to come: an end at their end alone -/
def SL (N : Nat) (l : List S35) : Prop := ∃ l', l = l' ++ [endT N] ∧ ∀ x ∈ l', TokIn N x
def Bare (N : Nat) (x : S35) : Prop := TokIn N x ∧ x.f0 ≠ 4 ∧ x.f0 ≠ 5
structure InvS (N : Nat) (s : St) : Prop where
  l : SL N s.l
  out : ∀ x ∈ s.out, Bare N x
  len : s.out.length ≤ 16384
  words : ∀ p ∈ s.words, ∀ x ∈ p.2, TokIn N x ∧ x.f0 ≠ 5
  parts : ∀ p ∈ s.parts, 0 ≤ p.at_ ∧ p.at_ < N
def At (N : Nat) (a : Int) : Prop := 0 ≤ a ∧ a < N
def OkR (N : Nat) (r : Res St) : Prop := match r with
  | .error e => At N e.1
  | .ok s => InvS N s

theorem SL.cons {N : Nat} {l : List S35} (h : SL N l) {x : S35} {r : List S35} (e : l = x :: r) (hx : x.f0 ≠ 6) : TokIn N x ∧ SL N r := by
  obtain ⟨l', h1, h2⟩ := h
  rw [e] at h1
  cases l' with
  | nil =>
    simp at h1
    exact absurd (by rw [h1.1]; rfl) hx
  | cons y l' =>
    simp at h1
    obtain ⟨rfl, rfl⟩ := h1
    exact ⟨h2 _ (by simp), l', rfl, fun z hz => h2 z (by simp [hz])⟩
theorem SL.ne {N : Nat} {l : List S35} (h : SL N l) : l ≠ [] := by
  obtain ⟨l', rfl, _⟩ := h
  simp
theorem SL.fin {N : Nat} {l : List S35} (h : SL N l) {x : S35} {r : List S35} (e : l = x :: r) (hx : x.f0 = 6) : l = [endT N] := by
  obtain ⟨l', h1, h2⟩ := h
  cases l' with
  | nil => exact h1
  | cons y l' =>
    rw [e] at h1
    simp at h1
    obtain ⟨rfl, _⟩ := h1
    have := (h2 x (by simp)).2.1
    omega
theorem SL.while_ {N : Nat} : ∀ {l : List S35}, SL N l → (∀ x ∈ l.takeWhile notEnd, TokIn N x ∧ x.f0 ≠ 5) ∧ SL N (l.dropWhile notEnd) := by
  intro l
  induction l with
  | nil => intro h; exact absurd rfl h.ne
  | cons x r ih =>
    intro h
    by_cases hn : notEnd x = true
    · have h6 : x.f0 ≠ 6 := by simp [notEnd] at hn; exact hn.2
      have h5 : x.f0 ≠ 5 := by simp [notEnd] at hn; exact hn.1
      obtain ⟨hx, hr⟩ := h.cons rfl h6
      obtain ⟨h1, h2⟩ := ih hr
      rw [List.takeWhile_cons_of_pos hn, List.dropWhile_cons_of_pos hn]
      refine ⟨fun z hz => ?_, h2⟩
      rcases List.mem_cons.1 hz with rfl | hz
      · exact ⟨hx, h5⟩
      · exact h1 z hz
    · rw [List.takeWhile_cons_of_neg hn, List.dropWhile_cons_of_neg hn]
      exact ⟨by simp, h⟩

theorem putF_ok {N : Nat} {t : S35} {s : St} (hs : InvS N s) (ht : Bare N t) : OkR N (putF t s) := by
  unfold putF
  split
  · exact ⟨ht.1.2.2.2.1, ht.1.2.2.2.2⟩
  · exact ⟨hs.l, fun x hx => by
      rcases List.mem_append.1 hx with h | h
      · exact hs.out x h
      · rw [List.mem_singleton.1 h]; exact ht, by simp; omega, hs.words, hs.parts⟩
def OkN (N : Nat) (r : Res (ByteArray × St)) : Prop := match r with
  | .error e => At N e.1
  | .ok p => InvS N p.2
theorem nameF_ok {N : Nat} {a : Int} {s : St} (hs : InvS N s) (ha : At N a) : OkN N (nameF a s) := by
  unfold nameF
  split
  · exact ha
  · rename_i x r hl
    split
    · rename_i h1
      obtain ⟨_, hr⟩ := hs.l.cons hl (by rw [h1]; decide)
      exact ⟨hr, hs.out, hs.len, hs.words, hs.parts⟩
    · exact ha
theorem beginsF_ok {N : Nat} {t : S35} {th : Bool} {s : St} (hs : InvS N s) (ha : At N t.f2) : OkR N (beginsF t th s) := by
  have := nameF_ok hs ha
  unfold beginsF
  revert this
  cases nameF t.f2 s with
  | error e => exact id
  | ok p =>
    intro h1
    exact ⟨h1.l, h1.out, h1.len, h1.words, fun q hq => by
      rcases List.mem_append.1 hq with h | h
      · exact h1.parts q h
      · rw [List.mem_singleton.1 h]; exact ha⟩
theorem defineF_ok {N : Nat} {a : Int} {s : St} (hs : InvS N s) (ha : At N a) : OkR N (defineF a s) := by
  have := nameF_ok hs ha
  unfold defineF
  revert this
  cases nameF a s with
  | error e => exact id
  | ok p =>
    intro h1
    obtain ⟨h2, h3⟩ := h1.l.while_
    exact ⟨h3, h1.out, h1.len, fun q hq => by
      rcases List.mem_cons.1 hq with rfl | h
      · exact h2
      · exact h1.words q h, h1.parts⟩
theorem undefF_ok {N : Nat} {a : Int} {s : St} (hs : InvS N s) (ha : At N a) : OkR N (undefF a s) := by
  have := nameF_ok hs ha
  unfold undefF
  revert this
  cases nameF a s with
  | error e => exact id
  | ok p =>
    intro h1
    exact ⟨h1.l, h1.out, h1.len, fun q hq => h1.words q (List.mem_filter.1 hq).1, h1.parts⟩
theorem turnsF_ok {N : Nat} {a : Int} {s : St} (hs : InvS N s) (ha : At N a) : OkR N (turnsF a s) := by
  unfold turnsF
  split
  · exact ha
  · rename_i p hp
    split
    · exact ha
    · exact ⟨hs.l, hs.out, hs.len, hs.words, fun q hq => by
        rcases List.mem_append.1 hq with h | h
        · exact hs.parts q (List.dropLast_subset _ h)
        · rw [List.mem_singleton.1 h]
          exact hs.parts p (List.mem_of_getLast? hp)⟩
theorem fuel_ok {N : Nat} {s : St} (hs : InvS N s) (f : Int) : InvS N { s with fuel := f } := ⟨hs.l, hs.out, hs.len, hs.words, hs.parts⟩
theorem useL_ok {N : Nat} {a : Int} (ha : At N a) (rec : ByteArray → St → Res St) (hr : ∀ nm s, InvS N s → OkR N (rec nm s)) : ∀ (L : List S35) (s : St), (∀ x ∈ L, TokIn N x ∧ x.f0 ≠ 5) → InvS N s → OkR N (useL rec a L s) := by
  intro L
  induction L with
  | nil => intro s _ hs; exact hs
  | cons t r ih =>
    intro s hL hs
    have ih' := fun s1 (h1 : InvS N s1) => ih s1 (fun x hx => hL x (by simp [hx])) h1
    rw [useL]
    split
    · exact ha
    split
    · split
      · exact ha
      · have := hr t.f1 _ (fuel_ok hs (s.fuel + 1))
        revert this
        cases rec t.f1 { s with fuel := s.fuel + 1 } with
        | error e => exact id
        | ok s1 => exact fun h1 => ih' s1 h1
    · rename_i h4
      obtain ⟨ht, h5⟩ := hL t (by simp)
      have := putF_ok (t := ⟨t.f0, t.f1, a⟩) (fuel_ok hs (s.fuel + 1)) ⟨⟨ht.1, ht.2.1, ht.2.2.1, ha.1, ha.2⟩, h4, h5⟩
      revert this
      cases putF ⟨t.f0, t.f1, a⟩ { s with fuel := s.fuel + 1 } with
      | error e => exact id
      | ok s1 => exact fun h1 => ih' s1 h1
theorem lookW_mem {ws : List (ByteArray × List S35)} {nm : ByteArray} {bd : List S35} (h : lookW ws nm = some bd) : ∃ p ∈ ws, p.2 = bd := by
  unfold lookW at h
  obtain ⟨p, hp, hq⟩ := Option.map_eq_some_iff.1 h
  exact ⟨p, List.mem_of_find?_eq_some hp, hq⟩
theorem useF_ok {N : Nat} {a : Int} (ha : At N a) : ∀ (k : Nat) (nm : ByteArray) (s : St), InvS N s → OkR N (useF k a nm s) := by
  intro k
  induction k with
  | zero => intro nm s hs; exact ha
  | succ k ih =>
    intro nm s hs
    rw [useF]
    split
    · exact ha
    · rename_i bd hb
      obtain ⟨p, hp, rfl⟩ := lookW_mem hb
      exact useL_ok ha (useF k a) ih _ _ (hs.words p hp) hs
theorem tickF_ok {N : Nat} {t : S35} {s : St} (hs : InvS N s) (ha : At N t.f2) : OkR N (tickF t s) := by
  unfold tickF
  split
  · exact beginsF_ok hs ha
  split
  · exact beginsF_ok hs ha
  split
  · exact turnsF_ok hs ha
  split
  · split
    · exact ha
    · exact ⟨hs.l, hs.out, hs.len, hs.words, fun q hq => hs.parts q (List.dropLast_subset _ hq)⟩
  split
  · exact hs
  split
  · exact defineF_ok hs ha
  split
  · exact undefF_ok hs ha
  · exact useF_ok ha _ _ _ (fuel_ok hs 0)
theorem stepF_ok {N : Nat} {t : S35} {s : St} (hs : InvS N s) (ht : TokIn N t) : OkR N (stepF t s) := by
  unfold stepF
  split
  · exact tickF_ok hs ⟨ht.2.2.2.1, ht.2.2.2.2⟩
  · rename_i h4
    split
    · exact hs
    · rename_i h5
      split
      · exact putF_ok hs ⟨ht, h4, h5⟩
      · exact hs

def OkE (N : Nat) (r : Res St) : Prop := match r with
  | .error e => At N e.1
  | .ok s2 => InvS N s2 ∧ s2.l = [endT N]
theorem runL_ok {N : Nat} : ∀ (k : Nat) (s : St), s.l.length ≤ k → InvS N s → OkE N (runL k s) := by
  intro k
  induction k with
  | zero =>
    intro s hk hs
    have := hs.l.ne
    have := List.length_pos_iff.2 this
    omega
  | succ k ih =>
    intro s hk hs
    rw [runL]
    split
    · rename_i hl
      exact absurd hl hs.l.ne
    · rename_i t r hl
      split
      · rename_i h6
        exact ⟨hs, hs.l.fin hl h6⟩
      · rename_i h6
        obtain ⟨ht, hr⟩ := hs.l.cons hl h6
        have h1 : InvS N { s with l := r } := ⟨hr, hs.out, hs.len, hs.words, hs.parts⟩
        have := stepF_ok h1 ht
        revert this
        cases hst : stepF t { s with l := r } with
        | error e => exact id
        | ok s1 =>
          intro h2
          have h3 := (stepF_len hst).2
          refine ih s1 ?_ h2
          have : s1.l.length ≤ r.length := h3
          rw [hl] at hk
          simp at hk
          omega

theorem runL_plain {N : Nat} (l' : List S35) (hp : ∀ x ∈ l', x.f0 ≠ 4 ∧ x.f0 ≠ 5 ∧ x.f0 ≠ 6) (hl : l'.length ≤ 16384) : ∀ (r o : List S35) (k : Nat), l' = o ++ r → r.length < k → runL k ⟨r ++ [endT N], [], [], o, 0⟩ = .ok ⟨[endT N], [], [], l', 0⟩ := by
  intro r
  induction r with
  | nil =>
    intro o k ho hk
    obtain ⟨k, rfl⟩ : ∃ m, k = m + 1 := ⟨k - 1, by omega⟩
    rw [runL]
    simp only [List.nil_append]
    rw [if_pos (show (endT N).f0 = 6 from rfl), ho]
    simp
  | cons t r ih =>
    intro o k ho hk
    obtain ⟨k, rfl⟩ : ∃ m, k = m + 1 := ⟨k - 1, by omega⟩
    have ht := hp t (by rw [ho]; simp)
    have hlen : o.length < 16384 := by rw [ho] at hl; simp at hl; omega
    rw [runL]
    simp only [List.cons_append]
    rw [if_neg ht.2.2]
    have : stepF t ⟨r ++ [endT N], [], [], o, 0⟩ = .ok ⟨r ++ [endT N], [], [], o ++ [t], 0⟩ := by
      unfold stepF
      rw [if_neg ht.1, if_neg ht.2.1, if_pos (show keptF _ = true from rfl)]
      unfold putF
      rw [if_neg (by show ¬ 16384 ≤ o.length; omega)]
    rw [this]
    exact ih (o ++ [t]) k (by rw [ho]; simp) (by simp at hk; omega)

/-- tokens without ticks stay as they are -/
theorem runF_plain {N : Nat} (l' : List S35) (hp : ∀ x ∈ l', x.f0 ≠ 4 ∧ x.f0 ≠ 5 ∧ x.f0 ≠ 6) (hl : l'.length ≤ 16384) : runF (l' ++ [endT N]) = (l' ++ [endT N], []) := by
  have h := runL_plain (N := N) l' hp hl l' [] (l' ++ [endT N]).length (by simp) (by simp)
  rw [runF_ok (x := endT N) (by simp) rfl h rfl]
  rfl

/-- What a run of a text's tokens comes to. -/
theorem runF_any {N : Nat} (l' : List S35) (hin : ∀ x ∈ l', TokIn N x) :
    (∃ a c, runF (l' ++ [endT N]) = ([], [⟨a, c⟩]) ∧ At N a) ∨ (∃ o, runF (l' ++ [endT N]) = (o ++ [endT N], []) ∧ o.length ≤ 16384 ∧ ∀ x ∈ o, Bare N x) := by
  have h := runL_ok (N := N) (l' ++ [endT N]).length ⟨l' ++ [endT N], [], [], [], 0⟩ (Nat.le_refl _) ⟨⟨l', rfl, hin⟩, by simp, by simp, by simp, by simp⟩
  cases hr : runL (l' ++ [endT N]).length ⟨l' ++ [endT N], [], [], [], 0⟩ with
  | error e =>
    rw [hr] at h
    exact .inl ⟨e.1, e.2, runF_err (x := endT N) (by simp) rfl hr, h⟩
  | ok s =>
    rw [hr] at h
    obtain ⟨h1, h2⟩ := h
    cases hp : s.parts with
    | nil => exact .inr ⟨s.out, by rw [runF_ok (x := endT N) (by simp) rfl hr hp, h2]; rfl, h1.len, h1.out⟩
    | cons p ps => exact .inl ⟨p.at_, 30, runF_open (x := endT N) (by simp) rfl hr hp, h1.parts p (by rw [hp]; simp)⟩

theorem good_of {N : Nat} (l' : List S35) (hin : ∀ x ∈ l', TokIn N x) (hl : l'.length ≤ 16384) : Good (l' ++ [endT N]) := by
  refine ⟨by simp; omega, fun i x hx h6 => ?_, fun i x hx => ?_⟩
  · rcases Nat.lt_or_ge i l'.length with h | h
    · simp; omega
    · rw [List.getElem?_append_right h] at hx
      cases hi : i - l'.length with
      | zero => rw [hi] at hx; simp at hx; exact absurd (by rw [← hx]; rfl) h6
      | succ n => rw [hi] at hx; simp at hx
  · have := List.mem_of_getElem? hx
    rcases List.mem_append.1 this with h | h
    · exact (hin x h).2.2.1
    · rw [List.mem_singleton.1 h]; exact Nat.zero_le _
end Go.Proofs.Ytimcmhfcmnooeaa
