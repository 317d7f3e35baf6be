/- Go's library's functions, laid at this dump; what may be a vector, what a name. -/
import Derived.Test.YtcbkgammlfjjoaaDoorWv3
import Derived.Test.YtcbkgammlfjjoaaDoorLy
import Derived.WalkKit
import Derived.Ground.NamesProg
import Derived.Ground.GgwProg
import Derived.Ground.SlgnProg
import Derived.Shelf.Strings.SlTrimAscii
import Derived.Shelf.GgClosure.StringsIndexFuncTop
import Derived.Shelf.SlicesE.Clone
import Derived.Laws.RangeAny
import Derived.Lib.Hide
namespace Go.Proofs.YtcbkgammlfjjoaaDoor
set_option linter.unusedVariables false
set_option linter.unusedSimpArgs false
open Go.RowKit Go.Lib Go.Shelf Go.Proofs.YtcbkgammlfjjoaaDoorW.PrintWords Go.Proofs.YtcbkgammlfjjoaaDoorW.PrintLast Go.Proofs.YtcbkgammlfjjoaaDoorW.PrintMore

def bits4 : List UInt8 := [48, 49, 120, 122]
def vOk (v : ByteArray) : Bool := decide (1 ≤ v.size) && decide (v.size ≤ 256) && v.data.toList.all (bits4.contains ·)
def oddR (r : Nat) : Bool := decide (r < 33) || decide (126 < r)
def nOk (s : ByteArray) : Bool := decide (s.size ≤ 256) && s.data.toList.all (fun b => !oddR b.toNat)

theorem dropWhile_nil {α : Type} (p : α → Bool) : ∀ l : List α, l.dropWhile p = [] ↔ ∀ x ∈ l, p x = true := by
  intro l
  induction l with
  | nil => simp
  | cons a r ih =>
    by_cases h : p a = true
    · rw [List.dropWhile_cons_of_pos h, ih]
      simp [h]
    · rw [List.dropWhile_cons_of_neg h]
      simp [h]
theorem trim_nil (l cs : List UInt8) : Lib.trimS l cs = [] ↔ l.all (cs.contains ·) = true := by
  unfold Lib.trimS Lib.trimLeftS Lib.trimRightS
  rw [dropWhile_nil, List.all_eq_true]
  constructor
  · intro h x hx
    by_cases hp : cs.contains x = true
    · exact hp
    · exfalso
      have hne : l.reverse.dropWhile (cs.contains ·) ≠ [] := by
        intro he
        rw [dropWhile_nil] at he
        exact hp (he x (by simpa using hx))
      have h1 := List.head_dropWhile_not (cs.contains ·) hne
      have h2 := h ((l.reverse.dropWhile (cs.contains ·)).head hne) (by simp)
      rw [h2] at h1
      cases h1
  · intro h x hx
    have : x ∈ l.reverse.dropWhile (cs.contains ·) := by simpa using hx
    have h2 := (List.dropWhile_suffix (cs.contains ·)).mem this
    exact h x (by simpa using h2)

theorem idx_odd (s : ByteArray) : ∀ (f pos : Nat), s.size - pos ≤ f → (0 ≤ Lib.idxFuncFrom oddR true s f pos ↔ (s.data.toList.drop pos).any (fun b => oddR b.toNat) = true) := by
  intro f
  induction f with
  | zero =>
    intro pos hf
    rw [List.drop_eq_nil_of_le (by simp; omega)]
    simp [Lib.idxFuncFrom]
  | succ f ih =>
    intro pos hf
    rw [Lib.idxFuncFrom]
    by_cases hp : pos < s.size
    · rw [if_pos hp, List.drop_eq_getElem_cons (by simpa using hp), List.any_cons]
      have hb : s.data.toList[pos]'(by simpa using hp) = s[pos]'hp := rfl
      by_cases ha : (s[pos]'hp).toNat < 128
      · rw [decode_ascii s pos hp ha, hb]
        simp only
        by_cases ho : oddR (s[pos]'hp).toNat = true
        · rw [if_pos ho, ho]
          simp
        · rw [if_neg ho, ih (pos + 1) (by omega)]
          simp [ho]
      · have hd := decode_high s pos hp (by omega)
        have ho : oddR (s[pos]'hp).toNat = true := by simp [oddR]; omega
        have ho2 : oddR (Utf8.decode s pos).1 = true := by simp [oddR]; omega
        rw [if_pos ho2, hb, ho]
        simp
    · rw [if_neg hp, List.drop_eq_nil_of_le (by simp; omega)]
      simp

theorem isOdd (w : World) : PredAt Tryd.prog 40 #[] encR oddR w := fun W r _ => by
  unfold FnGives
  by_cases h1 : r < 33 <;> by_cases h2 : 126 < r
  all_goals
    have z1 : (r : Int) < 33 ↔ r < 33 := by omega
    have z2 : (126 : Int) < (r : Int) ↔ 126 < r := by omega
    go_enter Tryd.func40, Tryd.ntmps40
    go_wp2
    all_goals first | (exfalso; omega) | (go_ret; exact ⟨by simp [oddR, h1, h2], 0, rfl⟩)

theorem odd_any (s : ByteArray) (w : World) : Calls Tryd.prog 41 #[.string s, .func (.func 40) #[] #[]] w fun e w' => e = .returned (.bool (s.data.toList.any (fun b => oddR b.toNat))) ∧ Below w.heap.size w w' := by
  have hC := Any.strings_ContainsFunc Tryd.l17 40 #[] (enters_of Tryd.func40 (by kernel_rfl) rfl) oddR s w (isOdd w)
  have e : decide (0 ≤ Lib.idxFunc oddR true s) = s.data.toList.any (fun b => oddR b.toNat) := by
    rw [Bool.eq_iff_iff, decide_eq_true_iff]
    have := idx_odd s s.size 0 (by omega)
    simpa [Lib.idxFunc] using this
  rw [e] at hC
  exact hC

theorem vec_any (v : ByteArray) (w : World) (hv : v.size ≤ 9223372036854775807) : Calls Tryd.prog 42 #[.string v] w fun e w' => e = .returned (.int .i64 (if vOk v then 0 else 10)) ∧ Below w.heap.size w w' := by
  have hcon := Any.strings_Trim_laid Tryd.l160 (by kernel_rfl) v ⟨#[48, 49, 120, 122]⟩ w hv (by decide) (ascii_of_all (by decide))
  change Calls Tryd.prog 67 _ _ (fun e w' => e = .returned (.string ⟨(Lib.trimS v.data.toList [48, 49, 120, 122]).toArray⟩) ∧ Below w.heap.size w w') at hcon
  have htr := trim_nil v.data.toList [48, 49, 120, 122]
  have hne : (⟨(Lib.trimS v.data.toList [48, 49, 120, 122]).toArray⟩ : ByteArray).toList.isEmpty = v.data.toList.all (bits4.contains ·) := by
    rw [Lib.toList_data]
    show (Lib.trimS v.data.toList [48, 49, 120, 122]).isEmpty = _
    rw [Bool.eq_iff_iff, List.isEmpty_iff]
    exact htr
  generalize (⟨(Lib.trimS v.data.toList [48, 49, 120, 122]).toArray⟩ : ByteArray) = r at hcon hne
  have HC := Lib.hid hcon
  clear hcon htr
  by_cases h1 : 1 ≤ v.size
  · have g1 : decide ((v.size : Int) < 1) = false := by rw [decide_eq_false_iff_not]; omega
    by_cases h2 : v.size ≤ 256
    · have g2 : decide ((v.size : Int) > 256) = false := by rw [decide_eq_false_iff_not]; omega
      have hv2 : vOk v = v.data.toList.all (bits4.contains ·) := by simp [vOk, h1, h2]
      rw [hv2]
      generalize v.data.toList.all (bits4.contains ·) = K at hne ⊢
      clear hv2
      cases K with
      | true =>
        go_enter Tryd.func42, Tryd.ntmps42
        go_wp2_with (go_at_call 67; refine HC.out.mono ?_; rintro e w' ⟨rfl, hb⟩)
        go_ret
        exact ⟨rfl, hb⟩
      | false =>
        go_enter Tryd.func42, Tryd.ntmps42
        go_wp2_with (go_at_call 67; refine HC.out.mono ?_; rintro e w' ⟨rfl, hb⟩)
        go_ret
        exact ⟨rfl, hb⟩
    · have g2 : decide ((v.size : Int) > 256) = true := by rw [decide_eq_true_iff]; omega
      have hv2 : vOk v = false := by simp [vOk, h2]
      rw [hv2]
      clear hne hv2
      go_enter Tryd.func42, Tryd.ntmps42
      go_wp2_with fail
      go_ret
      exact ⟨rfl, Below.refl _ _⟩
  · have g1 : decide ((v.size : Int) < 1) = true := by rw [decide_eq_true_iff]; omega
    have hv2 : vOk v = false := by simp [vOk, h1]
    rw [hv2]
    clear hne hv2
    go_enter Tryd.func42, Tryd.ntmps42
    go_wp2_with fail
    go_ret
    exact ⟨rfl, Below.refl _ _⟩
end Go.Proofs.YtcbkgammlfjjoaaDoor
