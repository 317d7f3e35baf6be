/- What the printed functions come to: names, vectors, orders. -/
import Derived.Test.YtcbkgammlfjjoaaDoorWl1
namespace Go.Proofs.YtcbkgammlfjjoaaDoor
set_option linter.unusedVariables false
set_option linter.unusedSimpArgs false
open Go.RowKit Go.Proofs.YtcbkgammlfjjoaaDoorW.PrintWords Go.Proofs.YtcbkgammlfjjoaaDoorW.PrintLast Go.Proofs.YtcbkgammlfjjoaaDoorW.PrintMore

theorem w64 {n : Int} (h0 : -9223372036854775808 ≤ n) (h1 : n ≤ 9223372036854775807) : wrap64 n = n := by unfold wrap64; omega
theorem bt_get (s : ByteArray) (i : Nat) (h : i < s.size) : bt s i = ((s.data.toList[i]'(by simpa using h)).toNat : Int) := by
  simp [bt, ByteArray.get!, Array.getElem!_eq_getD, Array.getD_eq_getD_getElem?, h]
  rfl
theorem named_l0 (s : ByteArray) (hs : s.size ≤ 9223372036854775807) : ∀ (d k p : Nat), p + d = s.size → d < k → silkwormwaves_named.l0 k s p = some ((s.data.toList.drop p).all (fun b => !oddR b.toNat) && decide (s.size ≤ 256)) := by
  intro d
  induction d with
  | zero =>
    intro k p hp hk
    obtain ⟨k, rfl⟩ : ∃ m, k = m + 1 := ⟨k - 1, by omega⟩
    rw [silkwormwaves_named.l0, if_neg (by omega), List.drop_eq_nil_of_le (by simp; omega)]
    congr 1
    simp only [List.all_nil, Bool.true_and, decide_eq_decide]
    omega
  | succ d ih =>
    intro k p hp hk
    obtain ⟨k, rfl⟩ : ∃ m, k = m + 1 := ⟨k - 1, by omega⟩
    have hlt : p < s.size := by omega
    rw [silkwormwaves_named.l0, if_pos (by omega), if_pos (by omega), bt_get s p hlt, List.drop_eq_getElem_cons (by simpa using hlt), List.all_cons]
    generalize s.data.toList[p]'(by simpa using hlt) = b
    by_cases h1 : b.toNat < 33
    · rw [if_pos (by omega)]; simp [oddR, h1]
    · rw [if_neg (by omega)]
      by_cases h2 : 126 < b.toNat
      · rw [if_pos (by omega)]; simp [oddR, h2]
      · rw [if_neg (by omega), w64 (by omega) (by omega), show ((p : Int) + 1) = ((p + 1 : Nat) : Int) from by omega, ih k (p + 1) (by omega) (by omega)]
        simp [oddR, h1, h2]
theorem named_any (s : ByteArray) (w : World) (hs : s.size ≤ 9223372036854775807) : Calls Tryd.prog 45 #[.string s] w fun e w' => e = .returned (.bool (nOk s)) ∧ ∃ m, w' = w.drewN m := by
  refine (silkwormwaves_named.calls (s.size + 1) s (nOk s) w ?_).mono fun e w' ⟨h1, ⟨h2⟩⟩ => ⟨h1, h2⟩
  have := named_l0 s hs s.size (s.size + 1) 0 (by omega) (by omega)
  unfold silkwormwaves_named.f nOk
  rw [Bool.and_comm]
  simpa using this
theorem may_l0 (s : ByteArray) (hs : s.size ≤ 9223372036854775807) : ∀ (d k p : Nat), p + d = s.size → d < k → silkwormref01_May.l0 k s p = some ((s.data.toList.drop p).all (bits4.contains ·) && (decide (1 ≤ s.size) && decide (s.size ≤ 256))) := by
  intro d
  induction d with
  | zero =>
    intro k p hp hk
    obtain ⟨k, rfl⟩ : ∃ m, k = m + 1 := ⟨k - 1, by omega⟩
    rw [silkwormref01_May.l0, if_neg (by omega), List.drop_eq_nil_of_le (by simp; omega)]
    by_cases h1 : 1 ≤ s.size
    · rw [if_pos (by omega)]
      congr 1
      simp only [List.all_nil, Bool.true_and, h1, decide_true, decide_eq_decide]
      omega
    · rw [if_neg (by omega)]
      simp [h1]
  | succ d ih =>
    intro k p hp hk
    obtain ⟨k, rfl⟩ : ∃ m, k = m + 1 := ⟨k - 1, by omega⟩
    have hlt : p < s.size := by omega
    have hnx : silkwormref01_May.l0 k s (wrap64 ((p : Int) + 1)) = some ((s.data.toList.drop (p + 1)).all (bits4.contains ·) && (decide (1 ≤ s.size) && decide (s.size ≤ 256))) := by
      rw [w64 (by omega) (by omega), show ((p : Int) + 1) = ((p + 1 : Nat) : Int) from by omega, ih k (p + 1) (by omega) (by omega)]
    have hdr := List.drop_eq_getElem_cons (l := s.data.toList) (i := p) (by simpa using hlt)
    rw [silkwormref01_May.l0, if_pos (by omega), if_pos (by omega), hnx, bt_get s p hlt, hdr, List.all_cons]
    generalize s.data.toList[p]'(by simpa using hlt) = b
    have hc : bits4.contains b = (decide ((b.toNat : Int) = 48) || (decide ((b.toNat : Int) = 49) || (decide ((b.toNat : Int) = 120) || decide ((b.toNat : Int) = 122)))) := by
      have e : ∀ n : UInt8, (b == n) = decide ((b.toNat : Int) = n.toNat) := by
        intro n
        rw [Bool.eq_iff_iff, beq_iff_eq, decide_eq_true_iff]
        constructor
        · intro h; rw [h]
        · intro h; exact UInt8.toNat_inj.1 (by omega)
      simp only [bits4, List.contains_cons, List.contains_nil, e]
      simp
    rw [hc]
    by_cases h1 : (b.toNat : Int) = 48
    · rw [if_pos h1]; simp [h1]
    rw [if_neg h1]
    by_cases h2 : (b.toNat : Int) = 49
    · rw [if_pos h2]; simp [h2]
    rw [if_neg h2]
    by_cases h3 : (b.toNat : Int) = 120
    · rw [if_pos h3]; simp [h3]
    rw [if_neg h3]
    by_cases h4 : (b.toNat : Int) = 122
    · rw [if_pos h4]; simp [h4]
    rw [if_neg h4]
    simp [h1, h2, h3, h4]
theorem may_any (s : ByteArray) (w : World) (hs : s.size ≤ 9223372036854775807) : Calls Tryd.prog 46 #[.string s] w fun e w' => e = .returned (.bool (vOk s)) ∧ ∃ m, w' = w.drewN m := by
  refine (silkwormref01_May.calls (s.size + 1) s (vOk s) w ?_).mono fun e w' ⟨h1, ⟨h2⟩⟩ => ⟨h1, h2⟩
  have := may_l0 s hs s.size (s.size + 1) 0 (by omega) (by omega)
  unfold silkwormref01_May.f vOk
  rw [Bool.and_comm]
  simpa using this
/-- does a change stand ahead of another one? -/
def aheadB (a b : S59) : Bool := decide (a.f0 < b.f0) || (decide (a.f0 = b.f0) && decide (a.f1 < b.f1))
def cmpI (a b : Int) : Int := if a < b then -1 else if a > b then 1 else 0
def aheadI (a b : S59) : Int := if cmpI a.f0 b.f0 = 0 then cmpI a.f1 b.f1 else cmpI a.f0 b.f0
theorem aheadI_neg (a b : S59) : decide (aheadI a b ≥ 0) = !aheadB a b := by
  unfold aheadI aheadB cmpI
  rw [Bool.eq_iff_iff]
  simp only [decide_eq_true_eq, Bool.not_eq_true', Bool.or_eq_false_iff, decide_eq_false_iff_not, Bool.and_eq_false_iff]
  repeat' split
  all_goals omega
theorem aheadR_any (a b : S59) (w : World) : Calls Tryd.prog 47 #[.agg #[.int .i64 a.f0, .int .i64 a.f1, .string a.f2], .agg #[.int .i64 b.f0, .int .i64 b.f1, .string b.f2]] w fun e w' => e = .returned (.bool (aheadB a b)) ∧ Below w.heap.size w w' := by
  refine (silkwormwaves_Ahead.calls a.f0 a.f1 a.f2 b.f0 b.f1 b.f2 (aheadB a b) w ?_).mono fun e w' h => h
  unfold silkwormwaves_Ahead.f aheadB
  split
  · rename_i h; simp [h]
  · rename_i h
    split
    · rename_i h2; simp [h, h2]
    · rename_i h2; simp [h, h2]
theorem cmp_eq (a b : Int) : cmp_Compare_int.f a b = some (cmpI a b) := by
  simp only [cmp_Compare_int.f, cmp_isNaN_int.f, Option.bind_some, bne_self_eq_false, Bool.false_eq_true, if_false, cmpI]
  repeat' split
  all_goals rfl
theorem ahead_any (a b : S59) (w : World) : Calls Tryd.prog 44 #[.agg #[.int .i64 a.f0, .int .i64 a.f1, .string a.f2], .agg #[.int .i64 b.f0, .int .i64 b.f1, .string b.f2]] w fun e w' => e = .returned (.int .i64 (aheadI a b)) ∧ Below w.heap.size w w' := by
  refine (wave_ahead.calls 10 a.f0 a.f1 a.f2 b.f0 b.f1 b.f2 (aheadI a b) w ?_).mono fun e w' h => h
  unfold wave_ahead.f
  rw [cmp_eq, cmp_eq]
  simp only [Option.bind_some, aheadI, cmp_Or_int.f]
  generalize cmpI a.f0 b.f0 = x
  generalize cmpI a.f1 b.f1 = y
  have e0 : rd [x, y] 0 = x := rfl
  have e1 : rd [x, y] 1 = y := rfl
  by_cases hx : x = 0
  · by_cases hy : y = 0
    · subst hx hy; simp [cmp_Or_int.l0, rd, wrap64]
    · rw [if_pos hx]
      simp only [cmp_Or_int.l0, e0, hx, List.length_cons, List.length_nil]
      simp [rd, wrap64, hy]
  · rw [if_neg hx]
    simp only [cmp_Or_int.l0, e0, List.length_cons, List.length_nil]
    simp [hx]
end Go.Proofs.YtcbkgammlfjjoaaDoor
