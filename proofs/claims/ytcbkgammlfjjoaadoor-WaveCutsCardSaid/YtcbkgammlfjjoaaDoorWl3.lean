/- slices.Clone at three kinds; a waveform in memory. -/
import Derived.Test.YtcbkgammlfjjoaaDoorWl2
namespace Go.Proofs.YtcbkgammlfjjoaaDoor
set_option linter.unusedVariables false
set_option linter.unusedSimpArgs false
open Go.RowKit Go.Proofs.YtcbkgammlfjjoaaDoorW.PrintWords Go.Proofs.YtcbkgammlfjjoaaDoorW.PrintLast Go.Proofs.YtcbkgammlfjjoaaDoorW.PrintMore

/-- an address as rows have them -/
def AF (A : Option Addr) : Prop := A = none ∨ ∃ b o, A = some ⟨b, o, none⟩
theorem add_plain (b o i : Nat) : (⟨b, o, none⟩ : Addr).add i = ⟨b, o + i, none⟩ := by unfold Addr.add; split <;> simp_all

theorem clone_str (A : Option Addr) (c : Nat) (l : List ByteArray) (w : World) (hA : AF A) (h : Kd.C Kd.string w A l.length l) (hbig : l.length * 16 ≤ 140737488355328) :
    Calls Tryd.prog 43 #[.slice A l.length c] w fun e w' => ∃ v, e = .returned v ∧ Kd.R Kd.string 9 w' w.heap.size (fun _ => True) v l ∧ Below w.heap.size w w' := by
  rcases hA with rfl | ⟨b, o, rfl⟩
  · have hl : l = [] := by
      have h3 := h.2.2
      rcases Nat.eq_zero_or_pos l.length with h0 | h0
      · exact List.length_eq_zero_iff.1 h0
      · obtain ⟨ad, e, _⟩ := h3 h0
        cases e
    subst hl
    have := AnyE.slices_Clone_nil Tryd.lc43 0 c w
    refine this.mono ?_
    rintro e w' ⟨rfl, rfl⟩
    exact ⟨_, rfl, Kd.R_nil _ _ _ _ _, Below.refl _ _⟩
  · have hm := h.2.1
    have hc : ∀ j u, (encs Value.string l)[j]? = some u → w.cell? ⟨b, o + j, none⟩ = some u := by
      intro j u hu
      have hj : j < l.length := by have := (List.getElem?_eq_some_iff.1 hu).1; rwa [encs_length] at this
      obtain ⟨ad, cs, e, hcl, hr, hcell⟩ := h.get_ (l[j]) (j : Int) (by omega) (by omega)
      injection e with e
      subst e
      have hr' : cs = [Value.string (l.getD j l[j])] := hr
      subst hr'
      have := hcell 0 _ rfl
      rw [Int.toNat_natCast, add_plain] at this
      rw [show o + (j * Kd.string.sz + 0) = o + j from by show o + (j * 1 + 0) = o + j; omega] at this
      rw [this]
      simp [encs] at hu
      obtain ⟨x, hx, rfl⟩ := hu
      simp [List.getD_eq_getElem?_getD, hx]
    have hi := info9
    obtain ⟨i0, hi0, hi1⟩ := Option.map_eq_some_iff.1 hi
    simp only [Prod.mk.injEq] at hi1
    obtain ⟨e0, e1, e2⟩ := hi1
    have := AnyE.slices_Clone Tryd.lc43 i0 _ 1 16 hi0 e0 e1 e2 rfl (by decide) Tryd.sizeOf9 b o l.length c (encs Value.string l) w (by simp [encs]) hm hbig hc (by intro u hu; obtain ⟨x, _, rfl⟩ := List.mem_map.1 hu; rfl)
    refine this.mono ?_
    rintro e w' ⟨v, rfl, ho, _, hb⟩
    exact ⟨v, rfl, Kd.R_of_own ho (fun _ _ => trivial), hb⟩

theorem clone_int (A : Option Addr) (c : Nat) (l : List Int) (w : World) (hA : AF A) (h : Kd.C (Kd.int .i64) w A l.length l) (hbig : l.length * 8 ≤ 140737488355328) :
    Calls Tryd.prog 68 #[.slice A l.length c] w fun e w' => ∃ v, e = .returned v ∧ Kd.R (Kd.int .i64) 3 w' w.heap.size (fun _ => True) v l ∧ Below w.heap.size w w' := by
  rcases hA with rfl | ⟨b, o, rfl⟩
  · have hl : l = [] := by
      have h3 := h.2.2
      rcases Nat.eq_zero_or_pos l.length with h0 | h0
      · exact List.length_eq_zero_iff.1 h0
      · obtain ⟨ad, e, _⟩ := h3 h0
        cases e
    subst hl
    have := AnyE.slices_Clone_nil Tryd.lc68 0 c w
    refine this.mono ?_
    rintro e w' ⟨rfl, rfl⟩
    exact ⟨_, rfl, Kd.R_nil _ _ _ _ _, Below.refl _ _⟩
  · have hm := h.2.1
    have hc : ∀ j u, (encs (Value.int .i64) l)[j]? = some u → w.cell? ⟨b, o + j, none⟩ = some u := by
      intro j u hu
      have hj : j < l.length := by have := (List.getElem?_eq_some_iff.1 hu).1; rwa [encs_length] at this
      obtain ⟨ad, cs, e, hcl, hr, hcell⟩ := h.get_ (l[j]) (j : Int) (by omega) (by omega)
      injection e with e
      subst e
      have hr' : cs = [(Value.int .i64) (l.getD j l[j])] := hr
      subst hr'
      have := hcell 0 _ rfl
      rw [Int.toNat_natCast, add_plain] at this
      rw [show o + (j * (Kd.int .i64).sz + 0) = o + j from by show o + (j * 1 + 0) = o + j; omega] at this
      rw [this]
      simp [encs] at hu
      obtain ⟨x, hx, rfl⟩ := hu
      simp [List.getD_eq_getElem?_getD, hx]
    have hi := info3
    obtain ⟨i0, hi0, hi1⟩ := Option.map_eq_some_iff.1 hi
    simp only [Prod.mk.injEq] at hi1
    obtain ⟨e0, e1, e2⟩ := hi1
    have := AnyE.slices_Clone Tryd.lc68 i0 _ 1 8 hi0 e0 e1 e2 rfl (by decide) Tryd.sizeOf3 b o l.length c (encs (Value.int .i64) l) w (by simp [encs]) hm hbig hc (by intro u hu; obtain ⟨x, _, rfl⟩ := List.mem_map.1 hu; rfl)
    refine this.mono ?_
    rintro e w' ⟨v, rfl, ho, _, hb⟩
    exact ⟨v, rfl, Kd.R_of_own ho (fun _ _ => trivial), hb⟩

def cl59 (x : S59) : List Value := [.int .i64 x.f0, .int .i64 x.f1, .string x.f2]
theorem flat_len (l : List S59) : (l.flatMap cl59).length = l.length * 3 := by
  induction l with
  | nil => rfl
  | cons x l ih => rw [List.flatMap_cons, List.length_append, ih, List.length_cons]; show 3 + _ = _; omega
theorem flat_get (l : List S59) : ∀ i r, r < 3 → (l.flatMap cl59)[i * 3 + r]? = (l[i]?).bind (fun x => (cl59 x)[r]?) := by
  induction l with
  | nil => intro i r hr; simp
  | cons x l ih =>
    intro i r hr
    rw [List.flatMap_cons]
    cases i with
    | zero =>
      rw [List.getElem?_append_left (by show 0 * 3 + r < 3; omega)]
      simp
    | succ i =>
      rw [List.getElem?_append_right (by show 3 ≤ (i + 1) * 3 + r; omega), show (i + 1) * 3 + r - (cl59 x).length = i * 3 + r from by show (i + 1) * 3 + r - 3 = _; omega, ih i r hr]
      simp
theorem reps59 (w : World) (base : Nat) (ok : Nat → Prop) (l : List S59) : Reps (k59.M w base ok) 3 l (l.flatMap cl59) := by
  refine ⟨flat_len l, fun j p hp => ?_⟩
  have hj := (List.getElem?_eq_some_iff.1 hp).1
  have : ((l.flatMap cl59).drop (j * 3)).take 3 = cl59 p := by
    apply List.ext_getElem?
    intro r
    rw [List.getElem?_take]
    by_cases hr : r < 3
    · rw [if_pos hr, List.getElem?_drop, flat_get l j r hr, hp]
      rfl
    · rw [if_neg hr, List.getElem?_eq_none (by show 3 ≤ r; omega)]
  rw [this]
  exact k59_mkM w base ok p
theorem clone_chg (A : Option Addr) (c : Nat) (l : List S59) (w : World) (hA : AF A) (h : Kd.C k59 w A l.length l) (hbig : l.length * 32 ≤ 140737488355328) :
    Calls Tryd.prog 69 #[.slice A l.length c] w fun e w' => ∃ v, e = .returned v ∧ Kd.R k59 59 w' w.heap.size (fun _ => True) v l ∧ Below w.heap.size w w' := by
  rcases hA with rfl | ⟨b, o, rfl⟩
  · have hl : l = [] := by
      have h3 := h.2.2
      rcases Nat.eq_zero_or_pos l.length with h0 | h0
      · exact List.length_eq_zero_iff.1 h0
      · obtain ⟨ad, e, _⟩ := h3 h0
        cases e
    subst hl
    have := AnyE.slices_Clone_nil Tryd.lc69 0 c w
    refine this.mono ?_
    rintro e w' ⟨rfl, rfl⟩
    exact ⟨_, rfl, Kd.R_nil _ _ _ _ _, Below.refl _ _⟩
  · have hm := h.2.1
    have hc : ∀ j u, (l.flatMap cl59)[j]? = some u → w.cell? ⟨b, o + j, none⟩ = some u := by
      intro j u hu
      have hj : j < l.length * 3 := by have := (List.getElem?_eq_some_iff.1 hu).1; rwa [flat_len] at this
      have hi : j / 3 < l.length := by omega
      have e3 : j = j / 3 * 3 + j % 3 := by omega
      obtain ⟨ad, cs, e, hcl, hr, hcell⟩ := h.get_ (l[j / 3]) ((j / 3 : Nat) : Int) (by omega) (by omega)
      injection e with e
      subst e
      rw [Int.toNat_natCast] at hr hcell
      have hr' : cs = cl59 l[j / 3] := by
        have := k59_open hr
        rw [this]
        simp [List.getD_eq_getElem?_getD, hi, cl59]
      subst hr'
      rw [e3, flat_get l (j / 3) (j % 3) (by omega), List.getElem?_eq_getElem hi] at hu
      have := hcell (j % 3) u hu
      rw [add_plain] at this
      rw [show o + (j / 3 * k59.sz + j % 3) = o + j from by show o + (j / 3 * 3 + j % 3) = o + j; omega] at this
      exact this
    have hi := info59
    obtain ⟨i0, hi0, hi1⟩ := Option.map_eq_some_iff.1 hi
    simp only [Prod.mk.injEq] at hi1
    obtain ⟨e0, e1, e2⟩ := hi1
    have := AnyE.slices_Clone Tryd.lc69 i0 _ 3 32 hi0 e0 e1 e2 rfl (by decide) Tryd.sizeOf59 b o l.length c (l.flatMap cl59) w (flat_len l) hm hbig hc (by
      intro u hu
      obtain ⟨x, _, hx⟩ := List.mem_flatMap.1 hu
      simp [cl59] at hx
      rcases hx with rfl | rfl | rfl <;> rfl)
    refine this.mono ?_
    rintro e w' ⟨v, rfl, ho, _, hb⟩
    exact ⟨v, rfl, ⟨fun _ _ => trivial, l.flatMap cl59, ho, reps59 _ _ _ l⟩, hb⟩
end Go.Proofs.YtcbkgammlfjjoaaDoor
