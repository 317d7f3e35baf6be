/- What a waveform that may be is like, plainly. -/
import Derived.Test.YtcbkgammlfjjoaaDoorU1
namespace Go.Proofs.YtcbkgammlfjjoaaDoor
set_option linter.unusedVariables false
set_option linter.unusedSimpArgs false
open Go.RowKit Go.Proofs.YtcbkgammlfjjoaaDoorW.PrintWords Go.Proofs.YtcbkgammlfjjoaaDoorW.PrintLast Go.Proofs.YtcbkgammlfjjoaaDoorW.PrintMore

structure May (x : WV) : Prop where
  n : x.nm.length ≤ 4096
  wd : x.wd.length = x.nm.length
  fi : x.fi.length = x.nm.length
  net : ∀ j, j < x.nm.length → netB x j = true
  chg : ∀ i, i < x.li.length → placeB x i = true ∧ valB x i = true
theorem may_iff (x : WV) : mayB x = true ↔ May x := by
  unfold mayB sizesB
  simp only [Bool.and_eq_true, decide_eq_true_eq, List.all_eq_true, List.mem_range]
  exact ⟨fun h => ⟨h.1.1, h.1.2.1, h.1.2.2, h.2.1, fun i hi => h.2.2 i hi⟩, fun h => ⟨⟨h.n, h.wd, h.fi⟩, h.net, fun i hi => h.chg i hi⟩⟩
theorem May.place {x : WV} (h : May x) {i : Nat} (hi : i < x.li.length) : 0 ≤ (cAt x i).f1 ∧ (cAt x i).f1 < x.nm.length ∧ 0 ≤ (cAt x i).f0 ∧ (cAt x i).f0 ≤ 4611686018427387903 ∧ (i = 0 ∨ aheadB (cAt x (i - 1)) (cAt x i) = true) := by
  have := (h.chg i hi).1
  unfold placeB at this
  simpa only [Bool.and_eq_true, decide_eq_true_eq, Bool.or_eq_true] using this
theorem ahead_le {a b : S59} (h : aheadB a b = true) : a.f0 ≤ b.f0 := by
  unfold aheadB at h
  simp at h
  omega
theorem May.sorted {x : WV} (h : May x) : Sorted0 x.li := by
  have step : ∀ d a, a + d < x.li.length → (x.li.getD a z59).f0 ≤ (x.li.getD (a + d) z59).f0 := by
    intro d
    induction d with
    | zero => intro a _; exact Int.le_refl _
    | succ d ih =>
      intro a hd
      have h1 := ih a (by omega)
      have h2 := (h.place (i := a + d + 1) (by omega)).2.2.2.2
      rcases h2 with h2 | h2
      · omega
      · have := ahead_le h2
        rw [show a + d + 1 - 1 = a + d from by omega] at this
        exact Int.le_trans h1 this
  intro a b hab hb
  have := step (b - a) a (by omega)
  rwa [show a + (b - a) = b from by omega] at this
/-- cut at a number of changes -/
def cutX (x : WV) (n : Nat) : WV := { x with li := x.li.take n }
theorem getD_take {α : Type} (l : List α) (n i : Nat) (d : α) (hi : i < n) : (l.take n).getD i d = l.getD i d := by
  rw [List.getD_eq_getElem?_getD, List.getD_eq_getElem?_getD, List.getElem?_take, if_pos hi]
theorem May.cut {x : WV} (h : May x) (n : Nat) : May (cutX x n) := by
  refine ⟨h.n, h.wd, h.fi, h.net, fun i hi => ?_⟩
  have hi' : i < n ∧ i < x.li.length := by
    have : i < (x.li.take n).length := hi
    rw [List.length_take] at this
    omega
  have e1 : cAt (cutX x n) i = cAt x i := getD_take _ _ _ _ hi'.1
  have e2 : cAt (cutX x n) (i - 1) = cAt x (i - 1) := getD_take _ _ _ _ (by omega)
  have e3 : nowAt (cutX x n) i = nowAt x i := by
    unfold nowAt cutX
    simp only [List.take_take]
    rw [Nat.min_eq_left (by omega)]
  have := h.chg i hi'.2
  unfold placeB valB at this ⊢
  rw [e1, e2, e3]
  exact this
/-- all values at a time, of the first so many changes -/
def atK (x : WV) (t : Int) (i : Nat) : List ByteArray := (x.li.take i).foldl (fun l c => if c.f0 ≤ t then l.set c.f1.toNat c.f2 else l) x.fi
def atF (x : WV) (t : Int) : List ByteArray := atK x t x.li.length
theorem atK_length (x : WV) (t : Int) (i : Nat) : (atK x t i).length = x.fi.length := by
  unfold atK
  generalize x.li.take i = l
  generalize x.fi = f
  induction l generalizing f with
  | nil => rfl
  | cons c l ih =>
    rw [List.foldl_cons, ih]
    split
    · rw [List.length_set]
    · rfl
theorem atK_succ (x : WV) (t : Int) {i : Nat} (hi : i < x.li.length) : atK x t (i + 1) = if (cAt x i).f0 ≤ t then (atK x t i).set (cAt x i).f1.toNat (cAt x i).f2 else atK x t i := by
  unfold atK
  rw [List.take_succ_eq_append_getElem hi, List.foldl_append]
  have : x.li[i] = cAt x i := by unfold cAt; rw [List.getD_eq_getElem?_getD, List.getElem?_eq_getElem hi]; rfl
  rw [this]
  rfl
end Go.Proofs.YtcbkgammlfjjoaaDoor
