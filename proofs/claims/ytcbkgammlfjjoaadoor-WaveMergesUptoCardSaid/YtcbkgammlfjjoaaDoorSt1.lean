/- WaveSteps, plainly: SameWaves of alike ones; cut twice; all values behind a cut. -/
import Derived.Test.YtcbkgammlfjjoaaDoorWc
import Derived.Test.YtcbkgammlfjjoaaDoorWv4
namespace Go.Proofs.YtcbkgammlfjjoaaDoor
set_option linter.unusedVariables false
set_option linter.unusedSimpArgs false
open Go.RowKit Go.Proofs.YtcbkgammlfjjoaaDoorW.PrintWords Go.Proofs.YtcbkgammlfjjoaaDoorW.PrintLast Go.Proofs.YtcbkgammlfjjoaaDoorW.PrintMore

theorem wrap_next (i n : Nat) (h : i < n) (hn : n ≤ 4611686018427387904) : wrap64 ((i : Int) + 1) = ((i + 1 : Nat) : Int) := by
  unfold wrap64
  omega
theorem same_l3 (n0 : List ByteArray) (n1 : List Int) (n2 : List ByteArray) (n3 : List S59) (hn : n3.length ≤ 4611686018427387904) :
    ∀ d k i : Nat, i + d = n3.length → d < k → silkwormref09_SameWaves.l3 k (i : Int) n0 n1 n2 n3 n0 n1 n2 n3 = some true := by
  intro d
  induction d with
  | zero =>
    intro k i hi hk
    obtain ⟨k, rfl⟩ : ∃ k', k = k' + 1 := ⟨k - 1, by omega⟩
    rw [silkwormref09_SameWaves.l3, if_neg (by omega)]
  | succ d ih =>
    intro k i hi hk
    obtain ⟨k, rfl⟩ : ∃ k', k = k' + 1 := ⟨k - 1, by omega⟩
    rw [silkwormref09_SameWaves.l3, if_pos (by omega), if_pos (by omega), if_pos (by omega), if_neg (by simp), wrap_next i n3.length (by omega) hn]
    exact ih k (i + 1) (by omega) (by omega)
theorem same_l2 (n0 : List ByteArray) (n1 : List Int) (n2 : List ByteArray) (n3 : List S59) (h0 : n0.length ≤ 4611686018427387904) (h3 : n3.length ≤ 4611686018427387904) (b : Bool) :
    ∀ d k i : Nat, i + d = n0.length → 2 * d + n3.length + 2 < k → silkwormref09_SameWaves.l2 k b (i : Int) n0 n1 n2 n3 n0 n1 n2 n3 = some true := by
  intro d
  induction d with
  | zero =>
    intro k i hi hk
    obtain ⟨k, rfl⟩ : ∃ k', k = k' + 1 + 1 := ⟨k - 2, by omega⟩
    rw [silkwormref09_SameWaves.l2, if_neg (by omega), silkwormref09_SameWaves.j4, if_neg (by decide)]
    exact same_l3 n0 n1 n2 n3 h3 n3.length k 0 (by omega) (by omega)
  | succ d ih =>
    intro k i hi hk
    obtain ⟨k, rfl⟩ : ∃ k', k = k' + 1 + 1 := ⟨k - 2, by omega⟩
    rw [silkwormref09_SameWaves.l2, if_pos (by omega), silkwormref09_SameWaves.j4]
    cases b with
    | false =>
      rw [if_neg (by decide)]
      exact same_l3 n0 n1 n2 n3 h3 n3.length k 0 (by omega) (by omega)
    | true =>
      rw [if_pos rfl, if_pos (by omega), if_pos (by omega), if_pos (by omega), if_pos rfl, wrap_next i n0.length (by omega) h0]
      exact ih k (i + 1) (by omega) (by omega)
theorem same_l1 (n0 : List ByteArray) (n1 : List Int) (n2 : List ByteArray) (n3 : List S59) (h0 : n0.length ≤ 4611686018427387904) (h1 : n1.length ≤ 4611686018427387904) (h3 : n3.length ≤ 4611686018427387904) (b : Bool) :
    ∀ d k i : Nat, i + d = n1.length → d + 2 * n0.length + n3.length + 3 < k → silkwormref09_SameWaves.l1 k b (i : Int) n0 n1 n2 n3 n0 n1 n2 n3 = some true := by
  intro d
  induction d with
  | zero =>
    intro k i hi hk
    obtain ⟨k, rfl⟩ : ∃ k', k = k' + 1 := ⟨k - 1, by omega⟩
    rw [silkwormref09_SameWaves.l1, if_neg (by omega)]
    exact same_l2 n0 n1 n2 n3 h0 h3 b n0.length k 0 (by omega) (by omega)
  | succ d ih =>
    intro k i hi hk
    obtain ⟨k, rfl⟩ : ∃ k', k = k' + 1 := ⟨k - 1, by omega⟩
    rw [silkwormref09_SameWaves.l1, if_pos (by omega), if_pos (by omega), if_pos (by omega), if_pos rfl, wrap_next i n1.length (by omega) h1]
    exact ih k (i + 1) (by omega) (by omega)
theorem same_l0 (n0 : List ByteArray) (n1 : List Int) (n2 : List ByteArray) (n3 : List S59) (h0 : n0.length ≤ 4611686018427387904) (h1 : n1.length ≤ 4611686018427387904) (h2 : n2.length ≤ 4611686018427387904) (h3 : n3.length ≤ 4611686018427387904) (b : Bool) :
    ∀ d k i : Nat, i + d = n2.length → d + n1.length + 2 * n0.length + n3.length + 4 < k → silkwormref09_SameWaves.l0 k b (i : Int) n0 n1 n2 n3 n0 n1 n2 n3 = some true := by
  intro d
  induction d with
  | zero =>
    intro k i hi hk
    obtain ⟨k, rfl⟩ : ∃ k', k = k' + 1 := ⟨k - 1, by omega⟩
    rw [silkwormref09_SameWaves.l0, if_neg (by omega)]
    exact same_l1 n0 n1 n2 n3 h0 h1 h3 b n1.length k 0 (by omega) (by omega)
  | succ d ih =>
    intro k i hi hk
    obtain ⟨k, rfl⟩ : ∃ k', k = k' + 1 := ⟨k - 1, by omega⟩
    rw [silkwormref09_SameWaves.l0, if_pos (by omega), if_pos (by omega), if_pos (by omega), if_pos rfl, wrap_next i n2.length (by omega) h2]
    exact ih k (i + 1) (by omega) (by omega)
theorem same_refl (n0 : List ByteArray) (n1 : List Int) (n2 : List ByteArray) (n3 : List S59) (h0 : n0.length ≤ 4611686018427387904) (h1 : n1.length ≤ 4611686018427387904) (h2 : n2.length ≤ 4611686018427387904) (h3 : n3.length ≤ 4611686018427387904) (b : Bool) :
    ∃ k, silkwormref09_SameWaves.f k n0 n1 n2 n3 n0 n1 n2 n3 b = some true := by
  refine ⟨n2.length + n1.length + 2 * n0.length + n3.length + 6, ?_⟩
  unfold silkwormref09_SameWaves.f
  rw [if_pos rfl, if_pos rfl, if_pos rfl]
  have key := same_l0 n0 n1 n2 n3 h0 h1 h2 h3 b n2.length (n2.length + n1.length + 2 * n0.length + n3.length + 5) 0 (by omega) (by omega)
  cases b with
  | false => rw [if_neg (by decide), silkwormref09_SameWaves.j0, if_neg (by decide)]; exact key
  | true => rw [if_pos rfl, silkwormref09_SameWaves.j0, if_neg (by simp)]; exact key

theorem take_until (l : List S59) (t : Int) : l.take (untilN l t) = l.takeWhile (fun c => decide (c.f0 < t)) := by
  unfold untilN
  induction l with
  | nil => rfl
  | cons c l ih =>
    by_cases h : c.f0 < t
    · rw [List.takeWhile_cons_of_pos (by simpa using h), List.length_cons, List.take_succ_cons, ih]
    · rw [List.takeWhile_cons_of_neg (by simpa using h)]; rfl
theorem cut_cut (l : List S59) (a b : Int) : (l.take (untilN l a)).take (untilN (l.take (untilN l a)) b) = l.take (untilN l (min a b)) := by
  rw [take_until (l.take (untilN l a)) b, take_until, take_until]
  induction l with
  | nil => rfl
  | cons c l ih =>
    by_cases h : c.f0 < a
    · by_cases h2 : c.f0 < b
      · rw [List.takeWhile_cons_of_pos (by simpa using h), List.takeWhile_cons_of_pos (by simpa using h2), ih, List.takeWhile_cons_of_pos (by simp; omega)]
      · rw [List.takeWhile_cons_of_pos (by simpa using h), List.takeWhile_cons_of_neg (by simpa using h2), List.takeWhile_cons_of_neg (by simp; omega)]
    · rw [List.takeWhile_cons_of_neg (by simpa using h), List.takeWhile_cons_of_neg (by simp; omega)]; rfl
theorem Sorted0.tail {c : S59} {l : List S59} (h : Sorted0 (c :: l)) : Sorted0 l := by
  intro a b hab hb
  have := h (a + 1) (b + 1) (by omega) (by rw [List.length_cons]; omega)
  simpa using this
theorem Sorted0.head {c : S59} {l : List S59} (h : Sorted0 (c :: l)) : ∀ d ∈ l, c.f0 ≤ d.f0 := by
  intro d hd
  obtain ⟨i, hi, rfl⟩ := List.getElem_of_mem hd
  have := h 0 (i + 1) (by omega) (by rw [List.length_cons]; omega)
  simpa [hi] using this
theorem at_cut (l : List S59) (f : List ByteArray) (a T : Int) (hs : Sorted0 l) (hT : ∀ c ∈ l, c.f0 ≤ T) :
    l.foldl (fun l c => if c.f0 ≤ a then l.set c.f1.toNat c.f2 else l) f = (l.take (untilN l (a + 1))).foldl (fun l c => if c.f0 ≤ T then l.set c.f1.toNat c.f2 else l) f := by
  rw [take_until]
  induction l generalizing f with
  | nil => rfl
  | cons c l ih =>
    by_cases h : c.f0 < a + 1
    · rw [List.takeWhile_cons_of_pos (by simpa using h), List.foldl_cons, List.foldl_cons, if_pos (by omega), if_pos (hT c List.mem_cons_self)]
      exact ih _ hs.tail (fun d hd => hT d (List.mem_cons_of_mem _ hd))
    · rw [List.takeWhile_cons_of_neg (by simpa using h), List.foldl_nil]
      have all : ∀ d ∈ c :: l, ¬ d.f0 ≤ a := by
        intro d hd
        rcases List.mem_cons.1 hd with rfl | hd
        · omega
        · have := hs.head d hd
          omega
      clear ih hs hT h
      generalize c :: l = m at all
      induction m with
      | nil => rfl
      | cons d m ih => rw [List.foldl_cons, if_neg (all d List.mem_cons_self)]; exact ih (fun e he => all e (List.mem_cons_of_mem _ he))
theorem atF_cut (x : WV) (a : Int) (h : May x) : atF (cutX x (untilN x.li (a + 1))) 4611686018427387903 = atF x a := by
  unfold atF atK
  rw [List.take_length, List.take_length]
  refine (at_cut x.li x.fi a 4611686018427387903 h.sorted ?_).symm
  intro c hc
  obtain ⟨i, hi, rfl⟩ := List.getElem_of_mem hc
  have := (h.place hi).2.2.2.1
  have e : cAt x i = x.li[i] := by unfold cAt; rw [List.getD_eq_getElem?_getD, List.getElem?_eq_getElem hi]; rfl
  rw [e] at this
  exact this
theorem cutX_cut (x : WV) (a b : Int) : cutX (cutX x (untilN x.li a)) (untilN (cutX x (untilN x.li a)).li b) = cutX x (untilN x.li (min a b)) := by
  have := cut_cut x.li a b
  unfold cutX
  simp only [this]
end Go.Proofs.YtcbkgammlfjjoaaDoor
