/- WaveBegins, plainly: the loops of Equal and of the document's Begins. -/
import Derived.Test.YtcbkgammlfjjoaaDoorSt1
import Derived.Test.YtcbkgammlfjjoaaDoorWv7
import Derived.Test.YtcbkgammlfjjoaaDoorBegins
namespace Go.Proofs.YtcbkgammlfjjoaaDoor
set_option linter.unusedVariables false
set_option linter.unusedSimpArgs false
open Go.RowKit Go.Proofs.YtcbkgammlfjjoaaDoorW.PrintWords Go.Proofs.YtcbkgammlfjjoaaDoorW.PrintLast Go.Proofs.YtcbkgammlfjjoaaDoorW.PrintMore

def alld (p : Nat → Bool) : Nat → Nat → Bool
  | _, 0 => true
  | i, d + 1 => p i && alld p (i + 1) d
theorem alld_congr {p q : Nat → Bool} : ∀ (d i : Nat), (∀ j, i ≤ j → j < i + d → p j = q j) → alld p i d = alld q i d := by
  intro d
  induction d with
  | zero => intro i _; rfl
  | succ d ih =>
    intro i h
    unfold alld
    rw [h i (by omega) (by omega), ih (i + 1) (fun j h1 h2 => h j (by omega) (by omega))]
theorem alld_true {p : Nat → Bool} : ∀ (d i : Nat), (∀ j, i ≤ j → j < i + d → p j = true) → alld p i d = true := by
  intro d
  induction d with
  | zero => intro i _; rfl
  | succ d ih =>
    intro i h
    unfold alld
    rw [h i (by omega) (by omega), ih (i + 1) (fun j h1 h2 => h j (by omega) (by omega))]
    rfl
def pS (l m : List ByteArray) (i : Nat) : Bool := decide ((rdOf ByteArray.empty l (i : Int)).toList = (rdOf ByteArray.empty m (i : Int)).toList)
def pI (l m : List Int) (i : Nat) : Bool := decide (rd l (i : Int) = rd m (i : Int))
def pC (l m : List S59) (i : Nat) : Bool := !((!(((rd_T59 l (i : Int)).f0) == ((rd_T59 m (i : Int)).f0)) || (!(((rd_T59 l (i : Int)).f1) == ((rd_T59 m (i : Int)).f1)) || (!((((rd_T59 l (i : Int)).f2).toList) == (((rd_T59 m (i : Int)).f2).toList))))))
theorem eqS_l0 (l m : List ByteArray) (hl : l.length ≤ 4611686018427387904) (hm : l.length = m.length) : ∀ d k i : Nat, i + d = l.length → d < k → slices_Equal_string_string.l0 k l m (l.length : Int) (i : Int) = some (alld (pS l m) i d) := by
  intro d
  induction d with
  | zero =>
    intro k i hi hk
    obtain ⟨k, rfl⟩ : ∃ k', k = k' + 1 := ⟨k - 1, by omega⟩
    rw [slices_Equal_string_string.l0, if_neg (by omega)]
    rfl
  | succ d ih =>
    intro k i hi hk
    obtain ⟨k, rfl⟩ : ∃ k', k = k' + 1 := ⟨k - 1, by omega⟩
    rw [slices_Equal_string_string.l0, if_pos (by omega), if_pos (by omega), if_pos (by omega), if_pos (by omega), wrap_next i l.length (by omega) hl, ih k (i + 1) (by omega) (by omega)]
    rw [show alld (pS l m) i (d + 1) = (pS l m i && alld (pS l m) (i + 1) d) from rfl]
    by_cases h : (rdOf ByteArray.empty l (i : Int)).toList = (rdOf ByteArray.empty m (i : Int)).toList
    · rw [if_pos h, show pS l m i = true from decide_eq_true h]; rfl
    · rw [if_neg h, show pS l m i = false from decide_eq_false h]; rfl
theorem eqS_f (l m : List ByteArray) (hl : l.length ≤ 4611686018427387904) (k : Nat) (hk : l.length < k) : slices_Equal_string_string.f k l m = some (decide (l.length = m.length) && alld (pS l m) 0 l.length) := by
  unfold slices_Equal_string_string.f
  by_cases h : l.length = m.length
  · rw [if_pos (by omega), decide_eq_true h]
    exact eqS_l0 l m hl h l.length k 0 (by omega) hk
  · rw [if_neg (by omega), decide_eq_false h]; rfl
theorem eqI_l0 (l m : List Int) (hl : l.length ≤ 4611686018427387904) (hm : l.length = m.length) : ∀ d k i : Nat, i + d = l.length → d < k → slices_Equal_int_int.l0 k l m (l.length : Int) (i : Int) = some (alld (pI l m) i d) := by
  intro d
  induction d with
  | zero =>
    intro k i hi hk
    obtain ⟨k, rfl⟩ : ∃ k', k = k' + 1 := ⟨k - 1, by omega⟩
    rw [slices_Equal_int_int.l0, if_neg (by omega)]
    rfl
  | succ d ih =>
    intro k i hi hk
    obtain ⟨k, rfl⟩ : ∃ k', k = k' + 1 := ⟨k - 1, by omega⟩
    rw [slices_Equal_int_int.l0, if_pos (by omega), if_pos (by omega), if_pos (by omega), if_pos (by omega), wrap_next i l.length (by omega) hl, ih k (i + 1) (by omega) (by omega)]
    rw [show alld (pI l m) i (d + 1) = (pI l m i && alld (pI l m) (i + 1) d) from rfl]
    by_cases h : rd l (i : Int) = rd m (i : Int)
    · rw [if_pos h, show pI l m i = true from decide_eq_true h]; rfl
    · rw [if_neg h, show pI l m i = false from decide_eq_false h]; rfl
theorem eqI_f (l m : List Int) (hl : l.length ≤ 4611686018427387904) (k : Nat) (hk : l.length < k) : slices_Equal_int_int.f k l m = some (decide (l.length = m.length) && alld (pI l m) 0 l.length) := by
  unfold slices_Equal_int_int.f
  by_cases h : l.length = m.length
  · rw [if_pos (by omega), decide_eq_true h]
    exact eqI_l0 l m hl h l.length k 0 (by omega) hk
  · rw [if_neg (by omega), decide_eq_false h]; rfl
theorem eqC_l0 (l m : List S59) (hl : l.length ≤ 4611686018427387904) (hm : l.length = m.length) : ∀ d k i : Nat, i + d = l.length → d < k → api_Change_52.l0 k l m (l.length : Int) (i : Int) = some (alld (pC l m) i d) := by
  intro d
  induction d with
  | zero =>
    intro k i hi hk
    obtain ⟨k, rfl⟩ : ∃ k', k = k' + 1 := ⟨k - 1, by omega⟩
    rw [api_Change_52.l0, if_neg (by omega)]
    rfl
  | succ d ih =>
    intro k i hi hk
    obtain ⟨k, rfl⟩ : ∃ k', k = k' + 1 := ⟨k - 1, by omega⟩
    rw [api_Change_52.l0, if_pos (by omega), if_pos (by omega), if_pos (by omega), if_pos (by omega), wrap_next i l.length (by omega) hl, ih k (i + 1) (by omega) (by omega)]
    rw [show alld (pC l m) i (d + 1) = (pC l m i && alld (pC l m) (i + 1) d) from rfl]
    rw [show pC l m i = !((!(((rd_T59 l (i : Int)).f0) == ((rd_T59 m (i : Int)).f0)) || (!(((rd_T59 l (i : Int)).f1) == ((rd_T59 m (i : Int)).f1)) || (!((((rd_T59 l (i : Int)).f2).toList) == (((rd_T59 m (i : Int)).f2).toList)))))) from rfl]
    generalize (!(((rd_T59 l (i : Int)).f0) == ((rd_T59 m (i : Int)).f0)) || (!(((rd_T59 l (i : Int)).f1) == ((rd_T59 m (i : Int)).f1)) || (!((((rd_T59 l (i : Int)).f2).toList) == (((rd_T59 m (i : Int)).f2).toList))))) = b
    cases b <;> rfl
theorem eqC_f (l m : List S59) (hl : l.length ≤ 4611686018427387904) (hm : l.length = m.length) (k : Nat) (hk : l.length < k) : api_Change_52.f k l m = some (alld (pC l m) 0 l.length) := by
  unfold api_Change_52.f
  rw [if_pos (by omega)]
  exact eqC_l0 l m hl hm l.length k 0 (by omega) hk

theorem bg_l3 (n0 : List ByteArray) (n1 : List Int) (n2 : List ByteArray) (n3 : List S59) (m0 : List ByteArray) (m1 : List Int) (m2 : List ByteArray) (m3 : List S59) (hn : n3.length ≤ 4611686018427387904) (hle : n3.length ≤ m3.length) :
    ∀ d k i : Nat, i + d = n3.length → d < k → silkwormwaves_Begins.l3 k (i : Int) n0 n1 n2 n3 m0 m1 m2 m3 = some (alld (pC n3 m3) i d) := by
  intro d
  induction d with
  | zero =>
    intro k i hi hk
    obtain ⟨k, rfl⟩ : ∃ k', k = k' + 1 := ⟨k - 1, by omega⟩
    rw [silkwormwaves_Begins.l3, if_neg (by omega)]
    rfl
  | succ d ih =>
    intro k i hi hk
    obtain ⟨k, rfl⟩ : ∃ k', k = k' + 1 := ⟨k - 1, by omega⟩
    rw [silkwormwaves_Begins.l3, if_pos (by omega), if_pos (by omega), if_pos (by omega), wrap_next i n3.length (by omega) hn, ih k (i + 1) (by omega) (by omega)]
    rw [show alld (pC n3 m3) i (d + 1) = (pC n3 m3 i && alld (pC n3 m3) (i + 1) d) from rfl]
    rw [show pC n3 m3 i = !((!(((rd_T59 n3 (i : Int)).f0) == ((rd_T59 m3 (i : Int)).f0)) || (!(((rd_T59 n3 (i : Int)).f1) == ((rd_T59 m3 (i : Int)).f1)) || (!((((rd_T59 n3 (i : Int)).f2).toList) == (((rd_T59 m3 (i : Int)).f2).toList)))))) from rfl]
    generalize (!(((rd_T59 n3 (i : Int)).f0) == ((rd_T59 m3 (i : Int)).f0)) || (!(((rd_T59 n3 (i : Int)).f1) == ((rd_T59 m3 (i : Int)).f1)) || (!((((rd_T59 n3 (i : Int)).f2).toList) == (((rd_T59 m3 (i : Int)).f2).toList))))) = b
    cases b <;> rfl
theorem bg_l2 (n0 : List ByteArray) (n1 : List Int) (n2 : List ByteArray) (n3 : List S59) (m0 : List ByteArray) (m1 : List Int) (m2 : List ByteArray) (m3 : List S59) (h0 : n0.length ≤ 4611686018427387904) (h3 : n3.length ≤ 4611686018427387904) (e0 : n0.length = m0.length) (hle : n3.length ≤ m3.length) :
    ∀ d k i : Nat, i + d = n0.length → 2 * d + n3.length + 2 < k → silkwormwaves_Begins.l2 k true (i : Int) n0 n1 n2 n3 m0 m1 m2 m3 = some (alld (pS n0 m0) i d && alld (pC n3 m3) 0 n3.length) := by
  intro d
  induction d with
  | zero =>
    intro k i hi hk
    obtain ⟨k, rfl⟩ : ∃ k', k = k' + 1 + 1 := ⟨k - 2, by omega⟩
    rw [silkwormwaves_Begins.l2, if_neg (by omega), silkwormwaves_Begins.j4, if_neg (by decide)]
    exact bg_l3 n0 n1 n2 n3 m0 m1 m2 m3 h3 hle n3.length k 0 (by omega) (by omega)
  | succ d ih =>
    intro k i hi hk
    obtain ⟨k, rfl⟩ : ∃ k', k = k' + 1 + 1 := ⟨k - 2, by omega⟩
    rw [silkwormwaves_Begins.l2, if_pos (by omega), silkwormwaves_Begins.j4, if_pos rfl, if_pos (by omega), if_pos (by omega), if_pos (by omega), wrap_next i n0.length (by omega) h0, ih k (i + 1) (by omega) (by omega)]
    rw [show alld (pS n0 m0) i (d + 1) = (pS n0 m0 i && alld (pS n0 m0) (i + 1) d) from rfl]
    by_cases h : (rdOf ByteArray.empty n0 (i : Int)).toList = (rdOf ByteArray.empty m0 (i : Int)).toList
    · rw [if_pos h, show pS n0 m0 i = true from decide_eq_true h]; rfl
    · rw [if_neg h, show pS n0 m0 i = false from decide_eq_false h]; rfl
theorem bg_l1 (n0 : List ByteArray) (n1 : List Int) (n2 : List ByteArray) (n3 : List S59) (m0 : List ByteArray) (m1 : List Int) (m2 : List ByteArray) (m3 : List S59) (h0 : n0.length ≤ 4611686018427387904) (h1 : n1.length ≤ 4611686018427387904) (h3 : n3.length ≤ 4611686018427387904) (e0 : n0.length = m0.length) (e1 : n1.length = m1.length) (hle : n3.length ≤ m3.length) :
    ∀ d k i : Nat, i + d = n1.length → d + 2 * n0.length + n3.length + 3 < k → silkwormwaves_Begins.l1 k true (i : Int) n0 n1 n2 n3 m0 m1 m2 m3 = some (alld (pI n1 m1) i d && (alld (pS n0 m0) 0 n0.length && alld (pC n3 m3) 0 n3.length)) := by
  intro d
  induction d with
  | zero =>
    intro k i hi hk
    obtain ⟨k, rfl⟩ : ∃ k', k = k' + 1 := ⟨k - 1, by omega⟩
    rw [silkwormwaves_Begins.l1, if_neg (by omega)]
    exact bg_l2 n0 n1 n2 n3 m0 m1 m2 m3 h0 h3 e0 hle n0.length k 0 (by omega) (by omega)
  | succ d ih =>
    intro k i hi hk
    obtain ⟨k, rfl⟩ : ∃ k', k = k' + 1 := ⟨k - 1, by omega⟩
    rw [silkwormwaves_Begins.l1, if_pos (by omega), if_pos (by omega), if_pos (by omega), wrap_next i n1.length (by omega) h1, ih k (i + 1) (by omega) (by omega)]
    rw [show alld (pI n1 m1) i (d + 1) = (pI n1 m1 i && alld (pI n1 m1) (i + 1) d) from rfl]
    by_cases h : rd n1 (i : Int) = rd m1 (i : Int)
    · rw [if_pos h, show pI n1 m1 i = true from decide_eq_true h]; rfl
    · rw [if_neg h, show pI n1 m1 i = false from decide_eq_false h]; rfl
theorem bg_l0 (n0 : List ByteArray) (n1 : List Int) (n2 : List ByteArray) (n3 : List S59) (m0 : List ByteArray) (m1 : List Int) (m2 : List ByteArray) (m3 : List S59) (h0 : n0.length ≤ 4611686018427387904) (h1 : n1.length ≤ 4611686018427387904) (h2 : n2.length ≤ 4611686018427387904) (h3 : n3.length ≤ 4611686018427387904) (e0 : n0.length = m0.length) (e1 : n1.length = m1.length) (e2 : n2.length = m2.length) (hle : n3.length ≤ m3.length) :
    ∀ d k i : Nat, i + d = n2.length → d + n1.length + 2 * n0.length + n3.length + 4 < k → silkwormwaves_Begins.l0 k true (i : Int) n0 n1 n2 n3 m0 m1 m2 m3 = some (alld (pS n2 m2) i d && (alld (pI n1 m1) 0 n1.length && (alld (pS n0 m0) 0 n0.length && alld (pC n3 m3) 0 n3.length))) := by
  intro d
  induction d with
  | zero =>
    intro k i hi hk
    obtain ⟨k, rfl⟩ : ∃ k', k = k' + 1 := ⟨k - 1, by omega⟩
    rw [silkwormwaves_Begins.l0, if_neg (by omega)]
    exact bg_l1 n0 n1 n2 n3 m0 m1 m2 m3 h0 h1 h3 e0 e1 hle n1.length k 0 (by omega) (by omega)
  | succ d ih =>
    intro k i hi hk
    obtain ⟨k, rfl⟩ : ∃ k', k = k' + 1 := ⟨k - 1, by omega⟩
    rw [silkwormwaves_Begins.l0, if_pos (by omega), if_pos (by omega), if_pos (by omega), wrap_next i n2.length (by omega) h2, ih k (i + 1) (by omega) (by omega)]
    rw [show alld (pS n2 m2) i (d + 1) = (pS n2 m2 i && alld (pS n2 m2) (i + 1) d) from rfl]
    by_cases h : (rdOf ByteArray.empty n2 (i : Int)).toList = (rdOf ByteArray.empty m2 (i : Int)).toList
    · rw [if_pos h, show pS n2 m2 i = true from decide_eq_true h]; rfl
    · rw [if_neg h, show pS n2 m2 i = false from decide_eq_false h]; rfl
def rowS (l m : List ByteArray) : Bool := decide (l.length = m.length) && alld (pS l m) 0 l.length
def rowI (l m : List Int) : Bool := decide (l.length = m.length) && alld (pI l m) 0 l.length
def rowC (l m : List S59) : Bool := alld (pC l m) 0 l.length
theorem bg_f (n0 : List ByteArray) (n1 : List Int) (n2 : List ByteArray) (n3 : List S59) (m0 : List ByteArray) (m1 : List Int) (m2 : List ByteArray) (m3 : List S59) (h0 : n0.length ≤ 4611686018427387904) (h1 : n1.length ≤ 4611686018427387904) (h2 : n2.length ≤ 4611686018427387904) (h3 : n3.length ≤ 4611686018427387904) :
    ∃ k, silkwormwaves_Begins.f k n0 n1 n2 n3 m0 m1 m2 m3 true = some (decide (n3.length ≤ m3.length) && (rowS n0 m0 && (rowI n1 m1 && (rowS n2 m2 && rowC n3 m3)))) := by
  refine ⟨n2.length + n1.length + 2 * n0.length + n3.length + 6, ?_⟩
  unfold silkwormwaves_Begins.f rowS rowI rowC
  by_cases e2 : n2.length = m2.length
  · rw [if_pos (by omega), decide_eq_true e2]
    by_cases e1 : n1.length = m1.length
    · rw [if_pos (by omega), decide_eq_true e1]
      by_cases e3 : n3.length ≤ m3.length
      · rw [if_neg (by omega), decide_eq_true e3, if_pos rfl]
        by_cases e0 : n0.length = m0.length
        · rw [decide_eq_true e0, silkwormwaves_Begins.j0, if_neg (by simp [e0])]
          have key := bg_l0 n0 n1 n2 n3 m0 m1 m2 m3 h0 h1 h2 h3 e0 e1 e2 e3 n2.length (n2.length + n1.length + 2 * n0.length + n3.length + 5) 0 (by omega) (by omega)
          rw [show ((0 : Nat) : Int) = 0 from rfl] at key
          rw [key]
          generalize alld (pS n2 m2) 0 n2.length = a
          generalize alld (pS n0 m0) 0 n0.length = b
          generalize alld (pI n1 m1) 0 n1.length = c
          generalize alld (pC n3 m3) 0 n3.length = d
          cases a <;> cases b <;> cases c <;> cases d <;> rfl
        · rw [decide_eq_false e0, silkwormwaves_Begins.j0, if_pos (by simp; omega)]; simp
      · rw [if_pos (by omega), decide_eq_false e3, silkwormwaves_Begins.j0, if_pos rfl]; rfl
    · rw [if_neg (by omega), decide_eq_false e1, silkwormwaves_Begins.j0, if_pos rfl]; simp
  · rw [if_neg (by omega), decide_eq_false e2, silkwormwaves_Begins.j0, if_pos rfl]; simp
theorem rowC_take (l m : List S59) (h : l.length ≤ m.length) : alld (pC l (m.take l.length)) 0 l.length = rowC l m := by
  unfold rowC
  refine alld_congr _ _ (fun j _ hj => ?_)
  have e : rd_T59 (m.take l.length) (j : Int) = rd_T59 m (j : Int) := by
    unfold rd_T59
    rw [Int.toNat_natCast]
    exact getD_take _ _ _ _ (by omega)
  unfold pC
  rw [e]
theorem rowS_refl (l : List ByteArray) : rowS l l = true := by
  unfold rowS
  rw [decide_eq_true rfl, alld_true (p := pS l l) _ _ (fun j _ _ => decide_eq_true rfl)]
  rfl
theorem rowI_refl (l : List Int) : rowI l l = true := by
  unfold rowI
  rw [decide_eq_true rfl, alld_true (p := pI l l) _ _ (fun j _ _ => decide_eq_true rfl)]
  rfl
theorem rowC_cut (m : List S59) (n : Nat) : rowC (m.take n) m = true := by
  unfold rowC
  refine alld_true _ _ (fun j _ hj => ?_)
  have e : rd_T59 (m.take n) (j : Int) = rd_T59 m (j : Int) := by
    unfold rd_T59
    rw [Int.toNat_natCast]
    have : (m.take n).length ≤ n := by rw [List.length_take]; omega
    exact getD_take _ _ _ _ (by omega)
  unfold pC
  rw [e]
  simp
/-- begins one waveform another one? -/
def bgB (x y : WV) : Bool := decide (x.li.length ≤ y.li.length) && (rowS x.nm y.nm && (rowI x.wd y.wd && (rowS x.fi y.fi && rowC x.li y.li)))
/-- the package's Begins, plainly -/
theorem begins_plain (x : WV) (A0 : Option Addr) (c0 : Nat) (A1 : Option Addr) (c1 : Nat) (A2 : Option Addr) (c2 : Nat) (A3 : Option Addr) (c3 : Nat) (y : WV) (B0 : Option Addr) (d0 : Nat) (B1 : Option Addr) (d1 : Nat) (B2 : Option Addr) (d2 : Nat) (B3 : Option Addr) (d3 : Nat) (w : World) (hI : WIn w x A0 c0 A1 c1 A2 c2 A3 c3) (hJ : WIn w y B0 d0 B1 d1 B2 d2 B3 d3)
    (h0 : x.nm.length ≤ 4611686018427387904) (h1 : x.wd.length ≤ 4611686018427387904) (h2 : x.fi.length ≤ 4611686018427387904) :
    Calls Tryd.prog 24 #[wvV x A0 c0 A1 c1 A2 c2 A3 c3, wvV y B0 d0 B1 d1 B2 d2 B3 d3] w fun e w' => e = .returned (.bool (mayB x && (mayB y && bgB x y))) ∧ Below w.heap.size w w' := by
  have h3 : x.li.length ≤ 4611686018427387904 := by have := hI.b3; omega
  have key := begins_any x A0 c0 A1 c1 A2 c2 A3 c3 y B0 d0 B1 d1 B2 d2 B3 d3 (rowS x.nm y.nm) (rowI x.wd y.wd) (rowS x.fi y.fi) (rowC x.li y.li) (x.nm.length + x.wd.length + x.fi.length + x.li.length + 1) w hI hJ
    (eqS_f _ _ h0 _ (by omega)) (eqI_f _ _ h1 _ (by omega)) (eqS_f _ _ h2 _ (by omega))
    (fun hle => by rw [eqC_f _ _ h3 (by rw [List.length_take]; omega) _ (by omega), rowC_take _ _ hle])
  exact key
theorem bgB_cut (y : WV) (n : Nat) : bgB (cutX y n) y = true := by
  unfold bgB cutX
  simp only [rowS_refl, rowI_refl, rowC_cut, Bool.and_true, List.length_take]
  exact decide_eq_true (by omega)
end Go.Proofs.YtcbkgammlfjjoaaDoor
