/- The lexer's parts always answer: their answers' bounds. The lexer always answers; what its tokens are. The lexer always answers; what its tokens are. -/
import Derived.Test.YtimcmhfcmnooeaaLx8
namespace Go.Proofs.Ytimcmhfcmnooeaa
set_option linter.unusedVariables false
set_option linter.unusedSimpArgs false
open Go.RowKit Go.Proofs.YtimcmhfcmnooeaaW.PrintWords Go.Proofs.YtimcmhfcmnooeaaW.PrintLast Go.Proofs.YtimcmhfcmnooeaaW.PrintMore

theorem tl_loop (bs : ByteArray) : ∀ (n i : Nat) (r : List UInt8), bs.size - i = n → i ≤ bs.size → ByteArray.toList.loop bs i r = r.reverse ++ bs.data.toList.drop i := by
  intro n
  induction n with
  | zero =>
    intro i r h hi
    unfold ByteArray.toList.loop
    have : ¬ i < bs.size := by omega
    rw [if_neg this, List.drop_eq_nil_of_le (by simp; show bs.size ≤ i; omega)]
    simp
  | succ n ih =>
    intro i r h hi
    unfold ByteArray.toList.loop
    have hlt : i < bs.size := by omega
    rw [if_pos hlt, ih (i + 1) _ (by omega) (by omega)]
    have hl : i < bs.data.toList.length := by simpa using hlt
    rw [List.drop_eq_getElem_cons hl]
    simp only [List.reverse_cons, List.append_assoc, List.singleton_append]
    congr 2
    simp [ByteArray.get!, getElem!_pos, hlt]
theorem tl_data (bs : ByteArray) : bs.toList = bs.data.toList := by
  unfold ByteArray.toList
  rw [tl_loop bs bs.size 0 [] (by omega) (by omega)]
  simp

theorem w64 {n : Int} (h0 : -9223372036854775808 ≤ n) (h1 : n ≤ 9223372036854775807) : wrap64 n = n := by unfold wrap64; omega

theorem begins_some (s : ByteArray) (p : Int) (t : ByteArray) (hs : s.size ≤ 65536) (ht : t.size ≤ 65536) (h0 : 0 ≤ p) (h1 : p ≤ s.size) :
    ∃ b, silkwormref02_begins.f s p t = some b ∧ (b = true → p + t.size ≤ s.size ∧ (s.extract p.toNat (p.toNat + t.size)).toList = t.toList) := by
  unfold silkwormref02_begins.f
  rw [w64 (n := (s.size : Int) - p) (by omega) (by omega), w64 (n := p + t.size) (by omega) (by omega)]
  by_cases h : (s.size : Int) - p ≥ t.size
  · rw [if_pos h, if_pos h0, if_pos (by omega), if_pos (by omega)]
    refine ⟨_, rfl, fun hb => ⟨by omega, ?_⟩⟩
    rw [show (p + (t.size : Int)).toNat = p.toNat + t.size from by omega] at hb
    exact eq_of_beq hb
  · rw [if_neg h]
    exact ⟨false, rfl, fun h => by cases h⟩

theorem bt_get (s : ByteArray) (i : Nat) (h : i < s.size) : bt s i = ((s.data.toList[i]'(by simpa using h)).toNat : Int) := by
  unfold bt
  rw [dif_pos (by simpa using h)]
  simp [ByteArray.getElem_eq_getElem_data]

theorem begins_first {s : ByteArray} {p : Int} {c : UInt8} {r : List UInt8} {t : ByteArray} (ht : t.data.toList = c :: r) (h0 : 0 ≤ p) (h1 : p + t.size ≤ s.size) (h : (s.extract p.toNat (p.toNat + t.size)).toList = t.toList) : bt s p = c.toNat := by
  obtain ⟨n, rfl⟩ := Int.eq_ofNat_of_zero_le h0
  have hts : 0 < t.size := by
    have : t.data.toList.length = t.size := by simp
    rw [ht] at this
    simp at this
    omega
  have hn : n < s.size := by omega
  rw [bt_get s n hn]
  have e1 : (s.extract n (n + t.size)).data.toList = t.data.toList := by
    have e2 : ∀ x : ByteArray, x.toList = x.data.toList := fun x => tl_data x
    rw [← e2, ← e2]; exact h
  rw [ht] at e1
  have e3 := congrArg (fun l : List UInt8 => l[0]?) e1
  simp [ByteArray.data_extract, List.getElem?_take, List.getElem?_drop] at e3
  have h5 : s.data.toList[n]? = some c := by simpa using e3.2
  rw [List.getElem?_eq_getElem (by simpa using hn)] at h5
  injection h5 with h5
  rw [h5]

theorem behind_l0 (s : ByteArray) (hs : s.size ≤ 65536) : ∀ (d k : Nat) (p : Int), 0 ≤ p → p ≤ s.size → (s.size : Int) - p = d → d < k → ∃ r, silkwormref02_behind.l0 k s p = some r ∧ p ≤ r ∧ r ≤ s.size ∧ (bt s p ≠ 10 → p < s.size → p < r) := by
  intro d
  induction d with
  | zero =>
    intro k p h0 h1 hd hk
    obtain ⟨k, rfl⟩ : ∃ m, k = m + 1 := ⟨k - 1, by omega⟩
    rw [silkwormref02_behind.l0, if_neg (by omega)]
    exact ⟨p, rfl, by omega, by omega, fun _ h => by omega⟩
  | succ d ih =>
    intro k p h0 h1 hd hk
    obtain ⟨k, rfl⟩ : ∃ m, k = m + 1 := ⟨k - 1, by omega⟩
    rw [silkwormref02_behind.l0, if_pos (by omega), if_pos h0]
    by_cases hb : bt s p = 10
    · rw [if_pos hb]
      exact ⟨p, rfl, by omega, by omega, fun h => absurd hb h⟩
    · rw [if_neg hb, w64 (by omega) (by omega)]
      obtain ⟨r, hr, h2, h3, _⟩ := ih k (p + 1) (by omega) (by omega) (by omega) (by omega)
      exact ⟨r, hr, by omega, h3, fun _ _ => by omega⟩

theorem behind_l1 (s : ByteArray) (hs : s.size ≤ 65536) : ∀ (d k : Nat) (p : Int), 0 ≤ p → p ≤ s.size → (s.size : Int) - p = d → d < k → ∃ r, silkwormref02_behind.l1 k s p = some r ∧ (r < 0 ∨ p < r ∧ r ≤ s.size) := by
  intro d
  induction d with
  | zero =>
    intro k p h0 h1 hd hk
    obtain ⟨k, rfl⟩ : ∃ m, k = m + 1 := ⟨k - 1, by omega⟩
    rw [silkwormref02_behind.l1, if_neg (by omega)]
    exact ⟨_, rfl, by omega⟩
  | succ d ih =>
    intro k p h0 h1 hd hk
    obtain ⟨k, rfl⟩ : ∃ m, k = m + 1 := ⟨k - 1, by omega⟩
    obtain ⟨b, hb, hbt⟩ := begins_some s p ⟨#[42, 47]⟩ hs (by decide) h0 h1
    rw [silkwormref02_behind.l1, if_pos (by omega), hb]
    simp only [Option.bind_some]
    cases b with
    | true =>
      have h2 := (hbt rfl).1
      have h3 : (⟨#[42, 47]⟩ : ByteArray).size = 2 := rfl
      rw [if_pos rfl, w64 (by omega) (by omega)]
      exact ⟨_, rfl, by omega⟩
    | false =>
      rw [if_neg (by simp), w64 (by omega) (by omega)]
      obtain ⟨r, hr, h2⟩ := ih k (p + 1) (by omega) (by omega) (by omega) (by omega)
      exact ⟨r, hr, by omega⟩

theorem behind_some (s : ByteArray) (hs : s.size ≤ 65536) (k : Nat) (p : Int) (h0 : 0 ≤ p) (h1 : p < s.size) (hk : s.size < k) :
    ∃ r, silkwormref02_behind.f k s p = some r ∧ (r < 0 ∨ p < r ∧ r ≤ s.size) := by
  obtain ⟨b1, hb1, hbt1⟩ := begins_some s p ⟨#[47, 47]⟩ hs (by decide) h0 (by omega)
  obtain ⟨b2, hb2, hbt2⟩ := begins_some s p ⟨#[47, 42]⟩ hs (by decide) h0 (by omega)
  unfold silkwormref02_behind.f
  rw [hb1]
  simp only [Option.bind_some]
  cases b1 with
  | true =>
    rw [if_pos rfl]
    obtain ⟨h2, h3⟩ := hbt1 rfl
    obtain ⟨r, hr, a1, a2, a3⟩ := behind_l0 s hs ((s.size : Int) - p).toNat k p h0 (by omega) (by omega) (by omega)
    have hc := begins_first (c := 47) (r := [47]) (t := ⟨#[47, 47]⟩) rfl h0 h2 h3
    exact ⟨r, hr, .inr ⟨a3 (by rw [hc]; decide) h1, a2⟩⟩
  | false =>
    rw [if_neg (by simp), hb2]
    simp only [Option.bind_some]
    cases b2 with
    | true =>
      rw [if_pos rfl]
      obtain ⟨h2, h3⟩ := hbt2 rfl
      have h4 : (⟨#[47, 42]⟩ : ByteArray).size = 2 := rfl
      rw [w64 (by omega) (by omega)]
      obtain ⟨r, hr, a1⟩ := behind_l1 s hs ((s.size : Int) - (p + 2)).toNat k (p + 2) (by omega) (by omega) (by omega) (by omega)
      exact ⟨r, hr, by omega⟩
    | false =>
      rw [if_neg (by simp)]
      exact ⟨_, rfl, by omega⟩

theorem letter_some (c : Int) : ∃ b, silkwormref02_Letter.f c = some b := by
  unfold silkwormref02_Letter.f
  repeat' split
  all_goals exact ⟨_, rfl⟩
theorem digit_some (c : Int) : ∃ b, silkwormref02_digit.f c = some b := by
  unfold silkwormref02_digit.f
  split <;> exact ⟨_, rfl⟩
theorem word_some (c : Int) : ∃ b, silkwormref02_word.f c = some b ∧ (silkwormref02_Letter.f c = some true → b = true) ∧ (silkwormref02_digit.f c = some true → b = true) := by
  obtain ⟨b, hb⟩ := letter_some c
  obtain ⟨d, hd⟩ := digit_some c
  unfold silkwormref02_word.f
  rw [hb, hd]
  cases b <;> cases d <;> simp

theorem decimal_l0 (s : ByteArray) (most : Int) (hm : 0 ≤ most) (hm2 : most ≤ 4294967296) (hs : s.size ≤ 65536) : ∀ (d k : Nat) (n p : Int), 0 ≤ n → n ≤ most → 0 ≤ p → p ≤ s.size → (s.size : Int) - p = d → d < k → ∃ r, silkwormref02_decimal.l0 k s most n p = some r ∧ -1 ≤ r ∧ r ≤ most := by
  intro d
  induction d with
  | zero =>
    intro k n p hn hn2 h0 h1 hd hk
    obtain ⟨k, rfl⟩ : ∃ m, k = m + 1 := ⟨k - 1, by omega⟩
    rw [silkwormref02_decimal.l0, if_neg (by omega)]
    exact ⟨_, rfl, by omega, by omega⟩
  | succ d ih =>
    intro k n p hn hn2 h0 h1 hd hk
    obtain ⟨k, rfl⟩ : ∃ m, k = m + 1 := ⟨k - 1, by omega⟩
    obtain ⟨b, hb⟩ := digit_some (bt s p)
    rw [silkwormref02_decimal.l0, if_pos (by omega), if_pos h0, hb]
    simp only [Option.bind_some]
    cases b with
    | false =>
      rw [if_neg (by simp)]
      exact ⟨_, rfl, by omega, by omega⟩
    | true =>
      rw [if_pos rfl]
      have hr := bt_range s p
      have hmod : 0 ≤ (bt s p - 48) % 256 ∧ (bt s p - 48) % 256 ≤ 255 := by omega
      rw [w64 (n := 10 * n) (by omega) (by omega), w64 (n := 10 * n + (bt s p - 48) % 256) (by omega) (by omega)]
      by_cases hgt : 10 * n + (bt s p - 48) % 256 > most
      · rw [if_pos hgt]
        exact ⟨_, rfl, by omega, by omega⟩
      · rw [if_neg hgt, w64 (n := p + 1) (by omega) (by omega)]
        exact ih k _ (p + 1) (by omega) (by omega) (by omega) (by omega) (by omega) (by omega)

theorem decimal_some (s : ByteArray) (most : Int) (nn : Bool) (hm : 0 ≤ most) (hm2 : most ≤ 4294967296) (hs : s.size ≤ 65536) (k : Nat) (hk : s.size + 1 < k) : ∃ r, silkwormref02_decimal.f k s most nn = some r ∧ -1 ≤ r ∧ r ≤ most := by
  obtain ⟨k, rfl⟩ : ∃ m, k = m + 1 := ⟨k - 1, by omega⟩
  have hj : ∀ b, ∃ r, silkwormref02_decimal.j0 (k + 1) s most b = some r ∧ -1 ≤ r ∧ r ≤ most := by
    intro b
    cases b with
    | true => rw [silkwormref02_decimal.j0, if_pos rfl]; exact ⟨_, rfl, by omega, by omega⟩
    | false =>
      rw [silkwormref02_decimal.j0, if_neg (by simp)]
      exact decimal_l0 s most hm hm2 hs s.size k 0 0 (by omega) hm (by omega) (by omega) (by omega) (by omega)
  unfold silkwormref02_decimal.f
  split
  · exact hj _
  split
  · exact hj _
  split
  · exact hj _
  split
  · rw [if_pos (by omega)]
    exact hj _
  · exact hj _

theorem strOfNums_size (xs : List Int) : (strOfNums xs).size = xs.length := by
  unfold strOfNums
  simp [ByteArray.size]

theorem of_l0 : ∀ (d k : Nat) (n : Int) (xs : List Int) (p : Int), -1 ≤ p → p < xs.length → xs.length ≤ 1000 → p + 1 = d → d < k → ∃ r, silkwormref01_Of.l0 k n xs p = some r ∧ r.size = xs.length := by
  intro d
  induction d with
  | zero =>
    intro k n xs p h0 h1 hl hd hk
    obtain ⟨k, rfl⟩ : ∃ m, k = m + 1 := ⟨k - 1, by omega⟩
    rw [silkwormref01_Of.l0, if_neg (by omega)]
    exact ⟨_, rfl, strOfNums_size _⟩
  | succ d ih =>
    intro k n xs p h0 h1 hl hd hk
    obtain ⟨k, rfl⟩ : ∃ m, k = m + 1 := ⟨k - 1, by omega⟩
    rw [silkwormref01_Of.l0, if_pos (by omega), if_pos (by omega), if_pos (by omega), w64 (n := p - 1) (by omega) (by omega)]
    obtain ⟨r, hr, hz⟩ := ih k (wrap64 (Int.tdiv n 2)) (xs.set p.toNat ((wrap64 (48 + (Int.tmod n 2))) % 256)) (p - 1) (by omega) (by simp; omega) (by simpa using hl) (by omega) (by omega)
    exact ⟨r, hr, by simpa using hz⟩
theorem of_some (n : Int) (wd : Int) (h0 : 0 ≤ wd) (h1 : wd ≤ 300) (k : Nat) (hk : 301 < k) : ∃ r, silkwormref01_Of.f k n wd = some r ∧ (r.size : Int) = wd := by
  unfold silkwormref01_Of.f
  rw [if_pos h0, if_pos (by omega), w64 (by omega) (by omega)]
  obtain ⟨r, hr, hz⟩ := of_l0 wd.toNat k n (List.replicate wd.toNat 0) (wd - 1) (by omega) (by simp; omega) (by simp; omega) (by omega) (by omega)
  exact ⟨r, hr, by rw [hz]; simp; omega⟩

theorem all_l0 (c wd : Int) (hw : wd ≤ 1000) : ∀ (d k : Nat) (xs : List Int) (p : Int), 0 ≤ p → p ≤ wd → (xs.length : Int) = wd → wd - p = d → d < k → ∃ ys : List Int, silkwormref01_All.l0 k c wd xs p = some (strOfNums ys) ∧ ys.length = xs.length := by
  intro d
  induction d with
  | zero =>
    intro k xs p h0 h1 hl hd hk
    obtain ⟨k, rfl⟩ : ∃ m, k = m + 1 := ⟨k - 1, by omega⟩
    rw [silkwormref01_All.l0, if_neg (by omega)]
    exact ⟨_, rfl, rfl⟩
  | succ d ih =>
    intro k xs p h0 h1 hl hd hk
    obtain ⟨k, rfl⟩ : ∃ m, k = m + 1 := ⟨k - 1, by omega⟩
    rw [silkwormref01_All.l0, if_pos (by omega), if_pos (by omega), if_pos (by omega), w64 (n := p + 1) (by omega) (by omega)]
    obtain ⟨ys, h, hy⟩ := ih k (xs.set p.toNat c) (p + 1) (by omega) (by omega) (by simpa using hl) (by omega) (by omega)
    exact ⟨ys, h, by simpa using hy⟩
theorem all_some (c wd : Int) (h0 : 0 ≤ wd) (h1 : wd ≤ 300) (k : Nat) (hk : 301 < k) : ∃ r, silkwormref01_All.f k c wd = some r ∧ (r.size : Int) = wd := by
  unfold silkwormref01_All.f
  rw [if_pos h0, if_pos (by omega)]
  obtain ⟨ys, h, hy⟩ := all_l0 c wd (by omega) wd.toNat k (List.replicate wd.toNat 0) 0 (by omega) (by omega) (by simp; omega) (by omega) (by omega)
  exact ⟨_, h, by rw [strOfNums_size, hy]; simp; omega⟩
theorem fit_some (v : ByteArray) (wd : Int) (h0 : 0 ≤ wd) (h1 : wd ≤ 300) (hv : v.size ≤ 1000000) (k : Nat) (hk : 301 < k) : ∃ r, silkwormref01_Fit.f k v wd = some r := by
  unfold silkwormref01_Fit.f
  by_cases h : (v.size : Int) ≥ wd
  · rw [if_pos h, w64 (by omega) (by omega), if_pos (by omega), if_pos (by omega)]
    exact ⟨_, rfl⟩
  · rw [if_neg h, w64 (by omega) (by omega)]
    obtain ⟨r, hr, hsz⟩ := all_some 48 (wd - v.size) (by omega) (by omega) k hk
    rw [hr]
    simp only [Option.bind_some]
    rw [if_pos (by omega)]
    exact ⟨_, rfl⟩
end Go.Proofs.Ytimcmhfcmnooeaa
namespace Go.Proofs.Ytimcmhfcmnooeaa
set_option linter.unusedVariables false
set_option linter.unusedSimpArgs false
open Go.RowKit Go.Proofs.YtimcmhfcmnooeaaW.PrintWords Go.Proofs.YtimcmhfcmnooeaaW.PrintLast Go.Proofs.YtimcmhfcmnooeaaW.PrintMore

theorem four_some (c : Int) (k : Nat) (hk : 310 < k) : ∃ r, silkwormref02_four.f k c = some r ∧ r.size ≤ 4 := by
  have hof : ∀ (k : Nat) (n : Int), 301 < k → ∃ r, (silkwormref01_Of.f k n 4).bind (fun t => some t) = some r ∧ r.size ≤ 4 := by
    intro k n hk
    obtain ⟨r, hr, hz⟩ := of_some n 4 (by omega) (by omega) k hk
    rw [hr]
    exact ⟨r, rfl, by omega⟩
  have hj2 : ∀ (k : Nat) (x : Bool), 302 < k → ∃ r, silkwormref02_four.j2 k c (-1) x = some r ∧ r.size ≤ 4 := by
    intro k x hk
    obtain ⟨k, rfl⟩ : ∃ m, k = m + 1 := ⟨k - 1, by omega⟩
    rw [silkwormref02_four.j2]
    split
    · exact ⟨_, rfl, by rw [strOfNums_size]; simp⟩
    · rw [if_pos (by omega)]
      exact ⟨_, rfl, by decide⟩
  have hj1 : ∀ (k : Nat) (x : Bool), 303 < k → ∃ r, silkwormref02_four.j1 k c (-1) x = some r ∧ r.size ≤ 4 := by
    intro k x hk
    obtain ⟨k, rfl⟩ : ∃ m, k = m + 1 := ⟨k - 1, by omega⟩
    rw [silkwormref02_four.j1]
    split
    · split
      · exact ⟨_, rfl, by decide⟩
      · exact hof k _ (by omega)
    · split
      · exact hj2 k _ (by omega)
      · exact hj2 k _ (by omega)
  have hj0 : ∀ (k : Nat) (x : Bool), 304 < k → ∃ r, silkwormref02_four.j0 k c (-1) x = some r ∧ r.size ≤ 4 := by
    intro k x hk
    obtain ⟨k, rfl⟩ : ∃ m, k = m + 1 := ⟨k - 1, by omega⟩
    rw [silkwormref02_four.j0]
    split
    · split
      · exact ⟨_, rfl, by decide⟩
      · exact hof k _ (by omega)
    · split
      · exact hj1 k _ (by omega)
      · exact hj1 k _ (by omega)
  obtain ⟨d, hd⟩ := digit_some c
  unfold silkwormref02_four.f
  rw [hd]
  simp only [Option.bind_some]
  split
  · split
    · exact ⟨_, rfl, by decide⟩
    · exact hof k _ (by omega)
  · split
    · exact hj0 k _ (by omega)
    · exact hj0 k _ (by omega)

theorem extract_size (s : ByteArray) (a b : Nat) (h : b ≤ s.size) : (s.extract a b).size = b - a := by simp [ByteArray.size_extract]; omega
theorem bytesOf_len (s : ByteArray) : (bytesOf s).length = s.size := bytesOf_length s

theorem digits_l0 (base : Int) (s : ByteArray) (hs : s.size ≤ 65536) : ∀ (d k : Nat) (xs : List Int) (p : Int), 0 ≤ p → p ≤ s.size → (s.size : Int) - p = d → 2 * d + 320 < k → (xs.length : Int) ≤ 4 * p →
    ∃ r, silkwormref02_digits.l0 k base s xs p = some r ∧ r.size ≤ 4 * s.size := by
  intro d
  induction d with
  | zero =>
    intro k xs p h0 h1 hd hk hx
    obtain ⟨k, rfl⟩ : ∃ m, k = m + 1 := ⟨k - 1, by omega⟩
    rw [silkwormref02_digits.l0, if_neg (by omega)]
    exact ⟨_, rfl, by rw [strOfNums_size]; omega⟩
  | succ d ih =>
    intro k xs p h0 h1 hd hk hx
    obtain ⟨k, rfl⟩ : ∃ m, k = m + 2 := ⟨k - 2, by omega⟩
    obtain ⟨f, hf, hfz⟩ := four_some (bt s p) (k + 1) (by omega)
    have hj : ∀ x, ∃ r, silkwormref02_digits.j1 (k + 1) base s xs p x = some r ∧ r.size ≤ 4 * s.size := by
      intro x
      have hw : wrap64 (p + 1) = p + 1 := w64 (by omega) (by omega)
      have hez : (s.extract p.toNat (p + 1).toNat).size = 1 := by rw [extract_size _ _ _ (by omega)]; omega
      rw [silkwormref02_digits.j1, hw]
      split
      · exact ⟨_, rfl, Nat.zero_le _⟩
      · rw [if_pos (by omega), if_pos (by omega)]
        split
        · exact ⟨_, rfl, Nat.zero_le _⟩
        · split
          · rw [if_pos (by omega)]
            exact ih k _ (p + 1) (by omega) (by omega) (by omega) (by omega) (by rw [List.length_append, bytesOf_len, hez]; omega)
          · split
            · rw [if_pos (by omega)]
              exact ih k _ (p + 1) (by omega) (by omega) (by omega) (by omega) (by rw [List.length_append, bytesOf_len, hez]; omega)
            · exact ⟨_, rfl, Nat.zero_le _⟩
    rw [silkwormref02_digits.l0, if_pos (by omega), if_pos h0, hf]
    simp only [Option.bind_some]
    split
    · split
      · exact hj _
      split
      · exact hj _
      split
      · exact hj _
      · exact hj _
    · split
      · exact ⟨_, rfl, Nat.zero_le _⟩
      · split
        · rw [if_pos (by omega), w64 (n := p + 1) (by omega) (by omega)]
          exact ih (k + 1) _ (p + 1) (by omega) (by omega) (by omega) (by omega) (by rw [List.length_append, bytesOf_len]; omega)
        · exact ⟨_, rfl, Nat.zero_le _⟩

theorem digits_some (base : Int) (s : ByteArray) (hs : s.size ≤ 65536) (k : Nat) (hk : 2 * s.size + 330 < k) : ∃ r, silkwormref02_digits.f k base s = some r ∧ r.size ≤ 300000 := by
  unfold silkwormref02_digits.f
  split
  · exact ⟨_, rfl, Nat.zero_le _⟩
  split
  · obtain ⟨n, hn, h1, h2⟩ := decimal_some s 2147483647 true (by omega) (by omega) hs k (by omega)
    rw [hn]
    simp only [Option.bind_some]
    split
    · exact ⟨_, rfl, Nat.zero_le _⟩
    · obtain ⟨r, hr, hz⟩ := of_some n 31 (by omega) (by omega) k (by omega)
      rw [hr]
      exact ⟨r, rfl, by omega⟩
  · obtain ⟨r, hr, hz⟩ := digits_l0 base s hs s.size k [] 0 (by omega) (by omega) (by omega) (by omega) (by simp)
    exact ⟨r, hr, by omega⟩

theorem number_j2 (wd : Int) (v : ByteArray) (x : Bool) (h0 : 1 ≤ wd) (h1 : wd ≤ 256) (hv : v.size ≤ 300000) (hp : x = true → 0 < v.size ∧ (v.size : Int) < wd) (k : Nat) (hk : 310 < k) : ∃ r, silkwormref02_Number.j2 k wd v x = some r := by
  obtain ⟨k, rfl⟩ : ∃ m, k = m + 1 := ⟨k - 1, by omega⟩
  rw [silkwormref02_Number.j2]
  split
  · rename_i hx
    obtain ⟨h2, h3⟩ := hp hx
    rw [if_pos (by omega), w64 (by omega) (by omega)]
    obtain ⟨r, hr, hz⟩ := all_some (bt v 0) (wd - v.size) (by omega) (by omega) k (by omega)
    rw [hr]
    simp only [Option.bind_some]
    rw [if_pos (by omega)]
    exact ⟨_, rfl⟩
  · obtain ⟨r, hr⟩ := fit_some v wd (by omega) (by omega) (by omega) k (by omega)
    rw [hr]
    exact ⟨_, rfl⟩

theorem size_pos {v : ByteArray} (h : ¬ v.toList = []) : 0 < v.size := by
  rw [tl_data] at h
  rcases Nat.eq_zero_or_pos v.size with e | e
  · exact absurd (List.length_eq_zero_iff.1 (by simpa using e)) h
  · exact e

theorem number_l0 (s : ByteArray) (hs : s.size ≤ 65536) : ∀ (d k : Nat) (q p : Int), 0 ≤ p → p ≤ s.size → (q < s.size) → (s.size : Int) - p = d → d + 3 * s.size + 400 < k → ∃ r, silkwormref02_Number.l0 k s q p = some r := by
  intro d
  induction d with
  | zero =>
    intro k q p h0 h1 hq hd hk
    obtain ⟨k, rfl⟩ : ∃ m, k = m + 1 := ⟨k - 1, by omega⟩
    rw [silkwormref02_Number.l0, if_neg (by omega)]
    split
    · obtain ⟨n, hn, h2, h3⟩ := decimal_some s 4294967295 false (by omega) (by omega) hs k (by omega)
      rw [hn]
      simp only [Option.bind_some]
      split
      · exact ⟨_, rfl⟩
      · obtain ⟨r, hr, hz⟩ := of_some n 32 (by omega) (by omega) k (by omega)
        rw [hr]
        exact ⟨_, rfl⟩
    · rename_i hq0
      rw [if_pos (by omega), if_pos (by omega)]
      have hez : (s.extract 0 q.toNat).size ≤ s.size := by rw [extract_size _ _ _ (by omega)]; omega
      obtain ⟨n, hn, h2, h3⟩ := decimal_some (s.extract 0 q.toNat) 256 false (by omega) (by omega) (by omega) k (by omega)
      rw [hn]
      simp only [Option.bind_some]
      obtain ⟨k, rfl⟩ : ∃ m, k = m + 1 := ⟨k - 1, by omega⟩
      have hw1 : wrap64 (q + 1) = q + 1 := w64 (by omega) (by omega)
      have hw2 : wrap64 (q + 2) = q + 2 := w64 (by omega) (by omega)
      have hyes : ∃ r, silkwormref02_Number.j1 (k + 1) s q n true = some r := by
        rw [silkwormref02_Number.j1, if_pos rfl]
        exact ⟨_, rfl⟩
      split
      · exact hyes
      · rename_i hn1
        rw [hw1]
        by_cases hge : q + 1 ≥ (s.size : Int)
        · rw [decide_eq_true hge]
          exact hyes
        · rw [decide_eq_false hge, silkwormref02_Number.j1, if_neg (by simp), hw1, hw2, if_pos (by omega), if_pos (by omega), if_pos (by omega), if_pos (by omega)]
          have hez2 : (s.extract (q + 2).toNat s.size).size ≤ s.size := by rw [extract_size _ _ _ (by omega)]; omega
          obtain ⟨dg, hdg, hdz⟩ := digits_some (bt s (q + 1)) (s.extract (q + 2).toNat s.size) (by omega) k (by omega)
          rw [hdg]
          simp only [Option.bind_some]
          split
          · exact ⟨_, rfl⟩
          · rename_i hne
            have hpos := size_pos hne
            split
            · rename_i hlt
              rw [if_pos (by omega)]
              split
              · exact number_j2 n dg _ (by omega) (by omega) hdz (fun _ => ⟨hpos, hlt⟩) k (by omega)
              · exact number_j2 n dg _ (by omega) (by omega) hdz (fun _ => ⟨hpos, hlt⟩) k (by omega)
            · exact number_j2 n dg _ (by omega) (by omega) hdz (fun h => by cases h) k (by omega)
  | succ d ih =>
    intro k q p h0 h1 hq hd hk
    obtain ⟨k, rfl⟩ : ∃ m, k = m + 1 := ⟨k - 1, by omega⟩
    rw [silkwormref02_Number.l0, if_pos (by omega), w64 (n := p + 1) (by omega) (by omega)]
    split
    · split
      · exact ih k p (p + 1) (by omega) (by omega) (by omega) (by omega) (by omega)
      · exact ih k q (p + 1) (by omega) (by omega) hq (by omega) (by omega)
    · exact ih k q (p + 1) (by omega) (by omega) hq (by omega) (by omega)
theorem number_some (s : ByteArray) (hs : s.size ≤ 65536) (k : Nat) (hk : 4 * s.size + 400 < k) : ∃ r, silkwormref02_Number.f k s = some r := by
  unfold silkwormref02_Number.f
  exact number_l0 s hs s.size k (-1) 0 (by omega) (by omega) (by omega) (by omega) (by omega)

theorem sign_l1 (s : ByteArray) (p : Int) (h0 : 0 ≤ p) (h1 : p < s.size) (t : ByteArray) (ht : t.size ≤ 100) : ∀ (d k : Nat) (i : Int), 0 ≤ i → i ≤ t.size → (t.size : Int) - i = d → d < k → ∃ r, silkwormref02_sign.l1 k s p t i = some r ∧ r.size ≤ 1 := by
  intro d
  induction d with
  | zero =>
    intro k i hi0 hi1 hd hk
    obtain ⟨k, rfl⟩ : ∃ m, k = m + 1 := ⟨k - 1, by omega⟩
    rw [silkwormref02_sign.l1, if_neg (by omega)]
    exact ⟨_, rfl, by decide⟩
  | succ d ih =>
    intro k i hi0 hi1 hd hk
    obtain ⟨k, rfl⟩ : ∃ m, k = m + 1 := ⟨k - 1, by omega⟩
    rw [silkwormref02_sign.l1, if_pos (by omega), if_pos h0, if_pos h1, if_pos hi0, w64 (n := i + 1) (by omega) (by omega)]
    split
    · rw [if_pos (by omega), if_pos (by omega)]
      exact ⟨_, rfl, by rw [extract_size _ _ _ (by omega)]; omega⟩
    · exact ih k (i + 1) (by omega) (by omega) (by omega) (by omega)
theorem sign_l0 (s : ByteArray) (hs : s.size ≤ 65536) (p : Int) (h0 : 0 ≤ p) (h1 : p < s.size) (l : List ByteArray) (hl : l.length ≤ 100) (hz : ∀ x ∈ l, x.size = 2) : ∀ (d k : Nat) (i : Int), 0 ≤ i → i ≤ l.length → (l.length : Int) - i = d → d + 102 < k →
    ∃ r, silkwormref02_sign.l0 k s p l i = some r ∧ r.size ≤ 2 ∧ p + r.size ≤ s.size := by
  intro d
  induction d with
  | zero =>
    intro k i hi0 hi1 hd hk
    obtain ⟨k, rfl⟩ : ∃ m, k = m + 1 := ⟨k - 1, by omega⟩
    rw [silkwormref02_sign.l0, if_neg (by omega)]
    obtain ⟨r, hr, h2⟩ := sign_l1 s p h0 h1 ⟨#[40, 41, 91, 93, 123, 125, 44, 59, 58, 46, 35, 64, 63, 43, 45, 126, 33, 38, 124, 94, 61, 60, 62, 42]⟩ (by decide) 24 k 0 (by omega) (by decide) (by decide) (by omega)
    exact ⟨r, hr, by omega, by omega⟩
  | succ d ih =>
    intro k i hi0 hi1 hd hk
    obtain ⟨k, rfl⟩ : ∃ m, k = m + 1 := ⟨k - 1, by omega⟩
    have hmem : rdOf ByteArray.empty l i ∈ l := by
      unfold rdOf
      rw [List.getD_eq_getElem?_getD, List.getElem?_eq_getElem (by omega)]
      simp
    obtain ⟨b, hb, hbt⟩ := begins_some s p (rdOf ByteArray.empty l i) hs (by rw [hz _ hmem]; omega) h0 (by omega)
    rw [silkwormref02_sign.l0, if_pos (by omega), if_pos hi0, hb]
    simp only [Option.bind_some]
    split
    · rename_i hbt2
      exact ⟨_, rfl, by rw [hz _ hmem]; omega, (hbt hbt2).1⟩
    · rw [w64 (n := i + 1) (by omega) (by omega)]
      exact ih k (i + 1) (by omega) (by omega) (by omega) (by omega)
theorem sign_some (s : ByteArray) (hs : s.size ≤ 65536) (p : Int) (h0 : 0 ≤ p) (h1 : p < s.size) (k : Nat) (hk : 200 < k) : ∃ r, silkwormref02_sign.f k s p = some r ∧ r.size ≤ 2 ∧ p + r.size ≤ s.size := by
  unfold silkwormref02_sign.f
  exact sign_l0 s hs p h0 h1 _ (by decide) (by intro x hx; simp at hx; rcases hx with rfl | rfl | rfl | rfl | rfl | rfl | rfl | rfl <;> rfl) 8 k 0 (by omega) (by decide) (by decide) (by omega)
end Go.Proofs.Ytimcmhfcmnooeaa
namespace Go.Proofs.Ytimcmhfcmnooeaa
set_option linter.unusedVariables false
set_option linter.unusedSimpArgs false
open Go.RowKit Go.Proofs.YtimcmhfcmnooeaaW.PrintWords Go.Proofs.YtimcmhfcmnooeaaW.PrintLast Go.Proofs.YtimcmhfcmnooeaaW.PrintMore

/-- What the token at a place is: none (a reason), or one of four kinds, from there on. -/
def OneOk (s : ByteArray) (p : Int) (r : Int × ByteArray × Int × Int × Int) : Prop :=
  r.2.2.2.2 ≠ 0 ∨ (r.2.2.2.2 = 0 ∧ 1 ≤ r.1 ∧ r.1 ≤ 4 ∧ r.2.1.size ≤ 65536 ∧ r.2.2.1 = p ∧ p < r.2.2.2.1 ∧ r.2.2.2.1 ≤ s.size)

theorem one_j3 (s : ByteArray) (hs : s.size ≤ 65536) (p : Int) (h0 : 0 ≤ p) (h1 : p < s.size) (e x : Int) (hx0 : p ≤ x) (hx1 : x ≤ e) (he : e ≤ s.size) (hpe : p < e) (k : Nat) (hk : 0 < k) :
    ∃ r, silkwormref02_one.j3 k s p e x = some r ∧ OneOk s p r := by
  obtain ⟨k, rfl⟩ : ∃ m, k = m + 1 := ⟨k - 1, by omega⟩
  have hez : (s.extract x.toNat e.toNat).size ≤ 65536 := by rw [extract_size _ _ _ (by omega)]; omega
  rw [silkwormref02_one.j3, w64 (by omega) (by omega), if_pos h0, if_pos h1, if_pos (show 0 ≤ x by omega), if_pos hx1, if_pos he]
  split
  · exact ⟨_, rfl, .inl (by decide)⟩
  split
  · exact ⟨_, rfl, .inr ⟨rfl, by show (1 : Int) ≤ 4; omega, by show (4 : Int) ≤ 4; omega, hez, rfl, hpe, he⟩⟩
  · rw [if_pos (show 0 ≤ x by omega)]
    exact ⟨_, rfl, .inr ⟨rfl, by show (1 : Int) ≤ 1; omega, by show (1 : Int) ≤ 4; omega, hez, rfl, hpe, he⟩⟩

theorem one_l0 (s : ByteArray) (hs : s.size ≤ 65536) (p : Int) (h0 : 0 ≤ p) (h1 : p < s.size) (x : Int) (hx0 : p ≤ x) : ∀ (d k : Nat) (e : Int), x ≤ e → e ≤ s.size → (p < e ∨ (e < s.size ∧ silkwormref02_word.f (bt s e) = some true)) → (s.size : Int) - e = d → d + 1 < k →
    ∃ r, silkwormref02_one.l0 k s p e x = some r ∧ OneOk s p r := by
  intro d
  induction d with
  | zero =>
    intro k e hxe he hor hd hk
    obtain ⟨k, rfl⟩ : ∃ m, k = m + 1 := ⟨k - 1, by omega⟩
    rw [silkwormref02_one.l0, if_neg (by omega)]
    exact one_j3 s hs p h0 h1 e x hx0 hxe he (by omega) k (by omega)
  | succ d ih =>
    intro k e hxe he hor hd hk
    obtain ⟨k, rfl⟩ : ∃ m, k = m + 1 := ⟨k - 1, by omega⟩
    obtain ⟨b, hb, _, _⟩ := word_some (bt s e)
    rw [silkwormref02_one.l0, if_pos (by omega), if_pos (by omega), hb]
    simp only [Option.bind_some]
    cases b with
    | true =>
      rw [if_pos rfl, w64 (n := e + 1) (by omega) (by omega)]
      exact ih k (e + 1) (by omega) (by omega) (.inl (by omega)) (by omega) (by omega)
    | false =>
      rw [if_neg (by simp)]
      refine one_j3 s hs p h0 h1 e x hx0 hxe he ?_ k (by omega)
      rcases hor with h | ⟨_, h⟩
      · exact h
      · rw [hb] at h; cases h

theorem one_j5 (s : ByteArray) (hs : s.size ≤ 65536) (p : Int) (h0 : 0 ≤ p) (h1 : p < s.size) (e : Int) (hpe : p < e) (he : e ≤ s.size) (k : Nat) (hk : 4 * s.size + 401 < k) :
    ∃ r, silkwormref02_one.j5 k s p e = some r ∧ OneOk s p r := by
  obtain ⟨k, rfl⟩ : ∃ m, k = m + 1 := ⟨k - 1, by omega⟩
  have hez : (s.extract p.toNat e.toNat).size ≤ s.size := by rw [extract_size _ _ _ (by omega)]; omega
  obtain ⟨r, hr⟩ := number_some (s.extract p.toNat e.toNat) (by omega) k (by omega)
  rw [silkwormref02_one.j5, if_pos h0, if_pos (by omega), if_pos he, hr]
  simp only [Option.bind_some]
  split
  · exact ⟨_, rfl, .inr ⟨rfl, by show (1 : Int) ≤ 2; omega, by show (2 : Int) ≤ 4; omega, by show (s.extract p.toNat e.toNat).size ≤ _; omega, rfl, hpe, he⟩⟩
  · rename_i hne
    exact ⟨_, rfl, .inl hne⟩

theorem one_l1 (s : ByteArray) (hs : s.size ≤ 65536) (p : Int) (h0 : 0 ≤ p) (h1 : p < s.size) : ∀ (d k : Nat) (e : Int), p ≤ e → e ≤ s.size → (p < e ∨ (e < s.size ∧ silkwormref02_word.f (bt s e) = some true)) → (s.size : Int) - e = d → d + 4 * s.size + 402 < k →
    ∃ r, silkwormref02_one.l1 k s p e = some r ∧ OneOk s p r := by
  intro d
  induction d with
  | zero =>
    intro k e hxe he hor hd hk
    obtain ⟨k, rfl⟩ : ∃ m, k = m + 1 := ⟨k - 1, by omega⟩
    rw [silkwormref02_one.l1, if_neg (by omega)]
    exact one_j5 s hs p h0 h1 e (by omega) he k (by omega)
  | succ d ih =>
    intro k e hxe he hor hd hk
    obtain ⟨k, rfl⟩ : ∃ m, k = m + 1 := ⟨k - 1, by omega⟩
    obtain ⟨b, hb, _, _⟩ := word_some (bt s e)
    rw [silkwormref02_one.l1, if_pos (by omega), if_pos (by omega), hb]
    simp only [Option.bind_some]
    have hnext := ih k (e + 1) (by omega) (by omega) (.inl (by omega)) (by omega) (by omega)
    rw [w64 (n := e + 1) (by omega) (by omega)]
    cases b with
    | true => rw [if_pos rfl]; exact hnext
    | false =>
      rw [if_neg (by simp)]
      split
      · exact hnext
      · refine one_j5 s hs p h0 h1 e ?_ he k (by omega)
        rcases hor with h | ⟨_, h⟩
        · exact h
        · rw [hb] at h; cases h

theorem one_some (s : ByteArray) (hs : s.size ≤ 65536) (p : Int) (h0 : 0 ≤ p) (h1 : p < s.size) (k : Nat) (hk : 5 * s.size + 500 < k) : ∃ r, silkwormref02_one.f k s p = some r ∧ OneOk s p r := by
  have hj1 : ∀ (k : Nat) (e : Int) (x : Bool), (e = p ∨ e = p + 1) → (x = true → e < s.size ∧ silkwormref02_Letter.f (bt s e) = some true) → 5 * s.size + 497 < k → ∃ r, silkwormref02_one.j1 k s p e x = some r ∧ OneOk s p r := by
    intro k e x he hx hk
    obtain ⟨k, rfl⟩ : ∃ m, k = m + 1 := ⟨k - 1, by omega⟩
    rw [silkwormref02_one.j1]
    split
    · rename_i hxt
      obtain ⟨hlt, hle⟩ := hx hxt
      obtain ⟨b, hb, hb1, _⟩ := word_some (bt s e)
      have := hb1 hle
      subst this
      exact one_l0 s hs p h0 h1 e (by omega) ((s.size : Int) - e).toNat k e (by omega) (by omega) (.inr ⟨hlt, hb⟩) (by omega) (by omega)
    · obtain ⟨dg, hdg⟩ := digit_some (bt s p)
      rw [hdg]
      simp only [Option.bind_some]
      split
      · rename_i hdt
        subst hdt
        obtain ⟨b, hb, _, hb2⟩ := word_some (bt s p)
        have := hb2 hdg
        subst this
        refine one_l1 s hs p h0 h1 ((s.size : Int) - e).toNat k e (by omega) (by omega) ?_ (by omega) (by omega)
        rcases he with rfl | rfl
        · exact .inr ⟨h1, hb⟩
        · exact .inl (by omega)
      · obtain ⟨t, ht, hz, hfit⟩ := sign_some s hs p h0 h1 k (by omega)
        rw [ht]
        simp only [Option.bind_some]
        split
        · exact ⟨_, rfl, .inl (by decide)⟩
        · rename_i hne
          have hpos := size_pos hne
          rw [w64 (by omega) (by omega)]
          exact ⟨_, rfl, .inr ⟨rfl, by show (1 : Int) ≤ 3; omega, by show (3 : Int) ≤ 4; omega, by show t.size ≤ _; omega, rfl, by show p < p + _; omega, by show p + _ ≤ _; omega⟩⟩
  have hj0 : ∀ (k : Nat) (e : Int), (e = p ∨ e = p + 1) → 5 * s.size + 498 < k → ∃ r, silkwormref02_one.j0 k s p e = some r ∧ OneOk s p r := by
    intro k e he hk
    obtain ⟨k, rfl⟩ : ∃ m, k = m + 1 := ⟨k - 1, by omega⟩
    rw [silkwormref02_one.j0]
    split
    · rename_i hlt
      obtain ⟨b, hb⟩ := letter_some (bt s e)
      rw [if_pos (by omega), hb]
      simp only [Option.bind_some]
      exact hj1 k e b he (fun hbt => ⟨hlt, by rw [hb, hbt]⟩) (by omega)
    · exact hj1 k e false he (fun h => by cases h) (by omega)
  unfold silkwormref02_one.f
  rw [if_pos h0, if_pos h1]
  split
  · rw [w64 (n := p + 1) (by omega) (by omega)]
    exact hj0 k (p + 1) (.inr rfl) (by omega)
  · exact hj0 k p (.inl rfl) (by omega)

/-- A token of a text: one of five kinds, its place in the text. -/
def TokIn (N : Nat) (x : S35) : Prop := 1 ≤ x.f0 ∧ x.f0 ≤ 5 ∧ x.f1.size ≤ 65536 ∧ 0 ≤ x.f2 ∧ x.f2 < N
/-- What a text's tokens are. -/
def LexOk (s : ByteArray) (r : List S35 × List S31) : Prop :=
  r.1 = [] ∨ ∃ l, r.1 = l ++ [⟨6, ⟨#[]⟩, s.size⟩] ∧ l.length ≤ 16384 ∧ ∀ x ∈ l, TokIn s.size x

theorem lex_l0 (s : ByteArray) (hs : s.size ≤ 65536) : ∀ (d k : Nat) (l : List S35) (df : Bool) (p : Int), 0 ≤ p → p ≤ s.size → (s.size : Int) - p = d → 4 * d + 5 * s.size + 600 < k → l.length ≤ 16384 → (∀ x ∈ l, TokIn s.size x) →
    ∃ r, silkwormref02_Lex.l0 k s l df p = some r ∧ LexOk s r := by
  intro d
  induction d using Nat.strongRecOn with
  | ind d ih =>
  intro k l df p h0 h1 hd hk hl hin
  obtain ⟨k, rfl⟩ : ∃ m, k = m + 1 := ⟨k - 1, by omega⟩
  rw [silkwormref02_Lex.l0]
  by_cases hnl : ¬ p < s.size
  · rw [if_neg hnl, if_pos (by omega)]
    exact ⟨_, rfl, .inr ⟨l, rfl, hl, hin⟩⟩
  have hlt : p < s.size := by omega
  rw [if_pos hlt, if_pos h0]
  -- a token more
  have hmore : ∀ (k : Nat) (t : S35) (df : Bool) (q : Int), TokIn s.size t → p < q → q ≤ s.size → 4 * ((s.size : Int) - q) + 5 * s.size + 600 < k →
      ∃ r, (if l.length < 4398046511104 then ((some (l ++ [t] : List (S35))).bind fun y166 => (if (y166.length : Int) > 16384 then (if 0 ≤ (wrap64 ((y166.length : Int) - 1)) then (if (wrap64 ((y166.length : Int) - 1)) < (y166.length : Int) then ((silkwormref02_fails.f ((rd_T35 y166 (wrap64 ((y166.length : Int) - 1))).f2) 2).bind fun t170 => (some (([] : List (S35)), t170))) else (none)) else (none)) else (silkwormref02_Lex.l0 k s y166 df q))) else (none)) = some r ∧ LexOk s r := by
    intro k t df q ht hpq hqs hk
    rw [if_pos (by omega)]
    simp only [Option.bind_some, List.length_append, List.length_cons, List.length_nil]
    split
    · rw [w64 (by omega) (by omega), if_pos (by omega), if_pos (by omega)]
      exact ⟨_, rfl, .inl rfl⟩
    · exact ih ((s.size : Int) - q).toNat (by omega) k (l ++ [t]) df q (by omega) hqs (by omega) (by omega) (by simp; omega) (by
        intro x hx
        rcases List.mem_append.1 hx with h | h
        · exact hin x h
        · rw [List.mem_singleton.1 h]; exact ht)
  have hj3 : ∀ (k : Nat) (x : Bool), 4 * d + 5 * s.size + 597 < k → ∃ r, silkwormref02_Lex.j3 k s l df p x = some r ∧ LexOk s r := by
    intro k x hk
    obtain ⟨k, rfl⟩ : ∃ m, k = m + 1 := ⟨k - 1, by omega⟩
    rw [silkwormref02_Lex.j3]
    split
    · obtain ⟨r, hr, hr2⟩ := behind_some s hs k p h0 hlt (by omega)
      rw [hr]
      simp only [Option.bind_some]
      split
      · exact ⟨_, rfl, .inl rfl⟩
      · rename_i hneg
        have hr3 : p < r ∧ r ≤ s.size := by omega
        exact ih ((s.size : Int) - r).toNat (by omega) k l df r (by omega) (by omega) (by omega) (by omega) hl hin
    · obtain ⟨r, hr, hok⟩ := one_some s hs p h0 hlt k (by omega)
      rw [hr]
      simp only [Option.bind_some]
      rcases hok with hne | ⟨he, a1, a2, a3, a4, a5, a6⟩
      · rw [if_neg hne]
        exact ⟨_, rfl, .inl rfl⟩
      · rw [if_pos he]
        have ht : ∀ kd : Int, kd = r.1 → TokIn s.size ⟨kd, r.2.1, r.2.2.1⟩ := fun kd hkd => ⟨by rw [hkd]; exact a1, by show kd ≤ 5; omega, a3, by show 0 ≤ r.2.2.1; omega, by show r.2.2.1 < _; omega⟩
        split
        · exact hmore k _ true _ (ht _ rfl) (by omega) a6 (by omega)
        · split
          · exact hmore k _ _ _ (ht _ rfl) (by omega) a6 (by omega)
          · exact hmore k _ _ _ (ht _ rfl) (by omega) a6 (by omega)
  have hj2 : ∀ (k : Nat) (x : Bool), 4 * d + 5 * s.size + 598 < k → ∃ r, silkwormref02_Lex.j2 k s l df p x = some r ∧ LexOk s r := by
    intro k x hk
    obtain ⟨k, rfl⟩ : ∃ m, k = m + 1 := ⟨k - 1, by omega⟩
    obtain ⟨b1, hb1, _⟩ := begins_some s p ⟨#[47, 47]⟩ hs (by decide) h0 (by omega)
    obtain ⟨b2, hb2, _⟩ := begins_some s p ⟨#[47, 42]⟩ hs (by decide) h0 (by omega)
    rw [silkwormref02_Lex.j2, hb1, hb2, w64 (n := p + 1) (by omega) (by omega)]
    simp only [Option.bind_some]
    split
    · exact ih ((s.size : Int) - (p + 1)).toNat (by omega) k l df (p + 1) (by omega) (by omega) (by omega) (by omega) hl hin
    · split
      · exact hj3 k _ (by omega)
      · exact hj3 k _ (by omega)
  have hj1 : ∀ (k : Nat) (c : Int) (x : Bool), 4 * d + 5 * s.size + 599 < k → ∃ r, silkwormref02_Lex.j1 k s l df p c x = some r ∧ LexOk s r := by
    intro k c x hk
    obtain ⟨k, rfl⟩ : ∃ m, k = m + 1 := ⟨k - 1, by omega⟩
    rw [silkwormref02_Lex.j1, w64 (n := p + 1) (by omega) (by omega)]
    split
    · exact hmore k ⟨5, ⟨#[]⟩, p⟩ false (p + 1) ⟨by show (1 : Int) ≤ 5; omega, by show (5 : Int) ≤ 5; omega, by show (0 : Nat) ≤ _; omega, h0, hlt⟩ (by omega) (by omega) (by omega)
    · repeat' split
      all_goals exact hj2 k _ (by omega)
  split
  · exact hj1 k _ _ (by omega)
  · exact hj1 k _ _ (by omega)

/-- Any text has its tokens. -/
theorem lexed_some (s : ByteArray) : ∃ k l, silkwormlaw03_lexed.f k s = some l ∧ (l = [] ∨ ∃ l', l = l' ++ [⟨6, ⟨#[]⟩, s.size⟩] ∧ l'.length ≤ 16384 ∧ ∀ x ∈ l', TokIn s.size x) := by
  refine ⟨9 * s.size + 1000, ?_⟩
  unfold silkwormlaw03_lexed.f silkwormref02_Lex.f
  by_cases hb : (s.size : Int) > 65536
  · rw [if_pos hb]
    exact ⟨[], rfl, .inl rfl⟩
  · rw [if_neg hb]
    obtain ⟨r, hr, hok⟩ := lex_l0 s (by omega) s.size (9 * s.size + 1000) [] false 0 (by omega) (by omega) (by omega) (by omega) (by simp) (by simp)
    rw [hr]
    exact ⟨r.1, rfl, hok⟩
end Go.Proofs.Ytimcmhfcmnooeaa
