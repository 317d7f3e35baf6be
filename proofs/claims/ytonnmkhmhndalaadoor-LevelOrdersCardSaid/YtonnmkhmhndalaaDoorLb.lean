/- Vectors, cells, worlds that have come of others: own texts of another seat, turned to this one. -/
import Derived.Test.YtonnmkhmhndalaaDoorLms
import Derived.Test.YtonnmkhmhndalaaDoorLy
import Derived.WalkKit
import Derived.Ground.NamesProg
import Derived.Ground.SlgnProg
import Derived.Shelf.Strings.SlTrimAscii
import Derived.Lib.Hide
namespace Go.Proofs.YtonnmkhmhndalaaDoor
set_option linter.unusedVariables false
set_option linter.unusedSimpArgs false
open Go.RowKit Go.Lib Go.Shelf Go.Proofs.YtonnmkhmhndalaaDoorW.PrintWords Go.Proofs.YtonnmkhmhndalaaDoorW.PrintLast Go.Proofs.YtonnmkhmhndalaaDoorW.PrintMore

def bits4 : List UInt8 := [48, 49, 120, 122]
def vOk (v : ByteArray) : Bool := decide (1 ≤ v.size) && decide (v.size ≤ 256) && v.data.toList.all (bits4.contains ·)
theorem dropWhile_nil {α : Type} (p : α → Bool) : ∀ l : List α, l.dropWhile p = [] ↔ ∀ x ∈ l, p x = true := by
  intro l
  induction l with
  | nil => simp
  | cons a r ih =>
    by_cases h : p a = true
    · rw [List.dropWhile_cons_of_pos h, ih]
      simp [h]
    · rw [List.dropWhile_cons_of_neg h]
      simp [h]
theorem trim_nil (l cs : List UInt8) : Lib.trimS l cs = [] ↔ l.all (cs.contains ·) = true := by
  unfold Lib.trimS Lib.trimLeftS Lib.trimRightS
  rw [dropWhile_nil, List.all_eq_true]
  constructor
  · intro h x hx
    by_cases hp : cs.contains x = true
    · exact hp
    · exfalso
      have hne : l.reverse.dropWhile (cs.contains ·) ≠ [] := by
        intro he
        rw [dropWhile_nil] at he
        exact hp (he x (by simpa using hx))
      have h1 := List.head_dropWhile_not (cs.contains ·) hne
      have h2 := h ((l.reverse.dropWhile (cs.contains ·)).head hne) (by simp)
      rw [h2] at h1
      cases h1
  · intro h x hx
    have : x ∈ l.reverse.dropWhile (cs.contains ·) := by simpa using hx
    have h2 := (List.dropWhile_suffix (cs.contains ·)).mem this
    exact h x (by simpa using h2)

theorem vec_any (v : ByteArray) (w : World) (hv : v.size ≤ 9223372036854775807) : Calls Tryd.prog 53 #[.string v] w fun e w' => e = .returned (.int .i64 (if vOk v then 0 else 10)) ∧ Below w.heap.size w w' := by
  have hcon := Any.strings_Trim_laid Tryd.l160 (by kernel_rfl) v ⟨#[48, 49, 120, 122]⟩ w hv (by decide) (ascii_of_all (by decide))
  change Calls Tryd.prog 57 _ _ (fun e w' => e = .returned (.string ⟨(Lib.trimS v.data.toList [48, 49, 120, 122]).toArray⟩) ∧ Below w.heap.size w w') at hcon
  have htr := trim_nil v.data.toList [48, 49, 120, 122]
  have hne : (⟨(Lib.trimS v.data.toList [48, 49, 120, 122]).toArray⟩ : ByteArray).toList.isEmpty = v.data.toList.all (bits4.contains ·) := by
    rw [Lib.toList_data]
    show (Lib.trimS v.data.toList [48, 49, 120, 122]).isEmpty = _
    rw [Bool.eq_iff_iff, List.isEmpty_iff]
    exact htr
  generalize (⟨(Lib.trimS v.data.toList [48, 49, 120, 122]).toArray⟩ : ByteArray) = r at hcon hne
  have HC := Lib.hid hcon
  clear hcon htr
  by_cases h1 : 1 ≤ v.size
  · have g1 : decide ((v.size : Int) < 1) = false := by rw [decide_eq_false_iff_not]; omega
    by_cases h2 : v.size ≤ 256
    · have g2 : decide ((v.size : Int) > 256) = false := by rw [decide_eq_false_iff_not]; omega
      have hv2 : vOk v = v.data.toList.all (bits4.contains ·) := by simp [vOk, h1, h2]
      rw [hv2]
      generalize v.data.toList.all (bits4.contains ·) = K at hne ⊢
      clear hv2
      cases K with
      | true =>
        go_enter Tryd.func53, Tryd.ntmps53
        go_wp2_with (go_at_call 57; refine HC.out.mono ?_; rintro e w' ⟨rfl, hb⟩)
        go_ret
        exact ⟨rfl, hb⟩
      | false =>
        go_enter Tryd.func53, Tryd.ntmps53
        go_wp2_with (go_at_call 57; refine HC.out.mono ?_; rintro e w' ⟨rfl, hb⟩)
        go_ret
        exact ⟨rfl, hb⟩
    · have g2 : decide ((v.size : Int) > 256) = true := by rw [decide_eq_true_iff]; omega
      have hv2 : vOk v = false := by simp [vOk, h2]
      rw [hv2]
      clear hne hv2
      go_enter Tryd.func53, Tryd.ntmps53
      go_wp2_with fail
      go_ret
      exact ⟨rfl, Below.refl _ _⟩
  · have g1 : decide ((v.size : Int) < 1) = true := by rw [decide_eq_true_iff]; omega
    have hv2 : vOk v = false := by simp [vOk, h1]
    rw [hv2]
    clear hne hv2
    go_enter Tryd.func53, Tryd.ntmps53
    go_wp2_with fail
    go_ret
    exact ⟨rfl, Below.refl _ _⟩
theorem w64 {n : Int} (h0 : -9223372036854775808 ≤ n) (h1 : n ≤ 9223372036854775807) : wrap64 n = n := by unfold wrap64; omega
theorem bt_get (s : ByteArray) (i : Nat) (h : i < s.size) : bt s i = ((s.data.toList[i]'(by simpa using h)).toNat : Int) := by
  simp [bt, ByteArray.get!, Array.getElem!_eq_getD, Array.getD_eq_getD_getElem?, h]
  rfl
theorem may_l0 (s : ByteArray) (hs : s.size ≤ 9223372036854775807) : ∀ (d k p : Nat), p + d = s.size → d < k → silkwormref01_May.l0 k s p = some ((s.data.toList.drop p).all (bits4.contains ·) && (decide (1 ≤ s.size) && decide (s.size ≤ 256))) := by
  intro d
  induction d with
  | zero =>
    intro k p hp hk
    obtain ⟨k, rfl⟩ : ∃ m, k = m + 1 := ⟨k - 1, by omega⟩
    rw [silkwormref01_May.l0, if_neg (by omega), List.drop_eq_nil_of_le (by simp; omega)]
    by_cases h1 : 1 ≤ s.size
    · rw [if_pos (by omega)]
      congr 1
      simp only [List.all_nil, Bool.true_and, h1, decide_true, decide_eq_decide]
      omega
    · rw [if_neg (by omega)]
      simp [h1]
  | succ d ih =>
    intro k p hp hk
    obtain ⟨k, rfl⟩ : ∃ m, k = m + 1 := ⟨k - 1, by omega⟩
    have hlt : p < s.size := by omega
    have hnx : silkwormref01_May.l0 k s (wrap64 ((p : Int) + 1)) = some ((s.data.toList.drop (p + 1)).all (bits4.contains ·) && (decide (1 ≤ s.size) && decide (s.size ≤ 256))) := by
      rw [w64 (by omega) (by omega), show ((p : Int) + 1) = ((p + 1 : Nat) : Int) from by omega, ih k (p + 1) (by omega) (by omega)]
    have hdr := List.drop_eq_getElem_cons (l := s.data.toList) (i := p) (by simpa using hlt)
    rw [silkwormref01_May.l0, if_pos (by omega), if_pos (by omega), hnx, bt_get s p hlt, hdr, List.all_cons]
    generalize s.data.toList[p]'(by simpa using hlt) = b
    have hc : bits4.contains b = (decide ((b.toNat : Int) = 48) || (decide ((b.toNat : Int) = 49) || (decide ((b.toNat : Int) = 120) || decide ((b.toNat : Int) = 122)))) := by
      have e : ∀ n : UInt8, (b == n) = decide ((b.toNat : Int) = n.toNat) := by
        intro n
        rw [Bool.eq_iff_iff, beq_iff_eq, decide_eq_true_iff]
        constructor
        · intro h; rw [h]
        · intro h; exact UInt8.toNat_inj.1 (by omega)
      simp only [bits4, List.contains_cons, List.contains_nil, e]
      simp
    rw [hc]
    by_cases h1 : (b.toNat : Int) = 48
    · rw [if_pos h1]; simp [h1]
    rw [if_neg h1]
    by_cases h2 : (b.toNat : Int) = 49
    · rw [if_pos h2]; simp [h2]
    rw [if_neg h2]
    by_cases h3 : (b.toNat : Int) = 120
    · rw [if_pos h3]; simp [h3]
    rw [if_neg h3]
    by_cases h4 : (b.toNat : Int) = 122
    · rw [if_pos h4]; simp [h4]
    rw [if_neg h4]
    simp [h1, h2, h3, h4]
theorem may_any (s : ByteArray) (w : World) (hs : s.size ≤ 9223372036854775807) : Calls Tryd.prog 48 #[.string s] w fun e w' => e = .returned (.bool (vOk s)) ∧ ∃ m, w' = w.drewN m := by
  refine (silkwormref01_May.calls (s.size + 1) s (vOk s) w ?_).mono fun e w' ⟨h1, ⟨h2⟩⟩ => ⟨h1, h2⟩
  have := may_l0 s hs s.size (s.size + 1) 0 (by omega) (by omega)
  unfold silkwormref01_May.f vOk
  rw [Bool.and_comm]
  simpa using this
def AF (A : Option Addr) : Prop := A = none ∨ ∃ b o, A = some ⟨b, o, none⟩
theorem add_plain (b o i : Nat) : (⟨b, o, none⟩ : Addr).add i = ⟨b, o + i, none⟩ := by unfold Addr.add; split <;> simp_all

/-- a cell of a row of strings -/
theorem str_cell {w : World} {A : Option Addr} {l : List ByteArray} (h : Kd.C Kd.string w A l.length l) (ha : AF A) (i : Nat) (hi : i < l.length) : ∃ b o, A = some ⟨b, o, none⟩ ∧ w.cell? ⟨b, o + i, none⟩ = some (.string (l.getD i ByteArray.empty)) ∧ b < w.heap.size := by
  obtain ⟨ad, e, hc⟩ := Kd.at_string h i (by omega) (by omega)
  rcases ha with rfl | ⟨b, o, rfl⟩
  · cases e
  · injection e with e
    subst e
    rw [Int.toNat_natCast, add_plain] at hc
    exact ⟨b, o, rfl, hc, World.block_lt_of_cell? w _ hc⟩
theorem int_cell {w : World} {A : Option Addr} {l : List Int} (h : Kd.C (Kd.int .i64) w A l.length l) (ha : AF A) (i : Nat) (hi : i < l.length) : ∃ b o, A = some ⟨b, o, none⟩ ∧ w.cell? ⟨b, o + i, none⟩ = some (.int .i64 (l.getD i 0)) ∧ b < w.heap.size := by
  obtain ⟨ad, e, hc⟩ := Kd.at_int h i (by omega) (by omega)
  rcases ha with rfl | ⟨b, o, rfl⟩
  · cases e
  · injection e with e
    subst e
    rw [Int.toNat_natCast, add_plain] at hc
    exact ⟨b, o, rfl, hc, World.block_lt_of_cell? w _ hc⟩
/-- a world that has come of w, all that lay in w unturned -/
structure BelowBy (w : World) where
  W : World
  h : Below w.heap.size w W
instance (w : World) : Inhabited (BelowBy w) := ⟨⟨w, Below.refl _ _⟩⟩
theorem call_below {P : Program} {f : FuncId} {args : Array Value} {w : World} {v : Value} (p : BelowBy w) (h : Calls P f args p.W fun e w' => e = .returned v ∧ Below p.W.heap.size p.W w') :
    Calls P f args p.W fun e w'' => e = .returned v ∧ ∃ q : BelowBy w, w'' = q.W :=
  h.mono fun e w' h => ⟨h.1, ⟨⟨w', p.h.trans (h.2.mono p.h.size)⟩, rfl⟩⟩
theorem region_below {P : Program} {id : Nat} {Q : Exit → Act → World → Prop} {a : Act} {w : World} {l : List Oper} (hm : P.follows .mixedOrders = true) (hB : Region.lexB .any l.toArray = true)
    (h : wpQuiet P l.toArray (fun w' => ∃ p : BelowBy w, w' = p.W) (fun a' => ∀ w', (∃ p : BelowBy w, w' = p.W) → Q .normal a' w') l a) : (Code.region id l.toArray true).wp P Q a w :=
  wp_region_quiet (C := fun w' => ∃ p : BelowBy w, w' = p.W) hm hB ⟨⟨w.drew, below_drew (Below.refl _ _)⟩, rfl⟩ (by simpa using h)
theorem BelowBy.cell {w : World} (p : BelowBy w) {b o : Nat} {v : Value} (h : w.cell? ⟨b, o, none⟩ = some v) : p.W.cell? ⟨b, o, none⟩ = some v :=
  (p.h.cell (p := ⟨b, o, none⟩) (World.block_lt_of_cell? w _ h)).trans h

theorem all_not {α : Type} (p : α → Bool) (l : List α) : l.all (fun b => !p b) = !l.any p := by
  induction l with
  | nil => rfl
  | cons a l ih => rw [List.all_cons, List.any_cons, ih, Bool.not_or]
end Go.Proofs.YtonnmkhmhndalaaDoor
