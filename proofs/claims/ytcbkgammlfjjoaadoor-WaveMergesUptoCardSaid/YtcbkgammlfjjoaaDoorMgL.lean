/- Go's library's functions, laid at this dump, in plain words. Go's library's functions, laid at this dump; what may be a vector, what a name. What the printed functions come to: names, vectors, orders. slices.Clone at three kinds; a waveform in memory. -/
import Derived.Test.YtcbkgammlfjjoaaDoorProg
import Derived.WalkKit
import Derived.Ground.NamesProg
import Derived.Ground.GgwProg
import Derived.Ground.SlgnProg
import Derived.Shelf.Strings.SlTrimAscii
import Derived.Shelf.GgClosure.StringsIndexFuncTop
import Derived.Shelf.SlicesE.Clone
import Derived.Test.YtcbkgammlfjjoaaDoorWv3
import Derived.Laws.RangeAny
import Derived.Lib.Hide
namespace Go.Proofs
open Go.Shelf
def Tryd.l160_ren : Go.Shelf.Ren := ⟨fun | 160 => 67 | 232 => 81 | 231 => 80 | 227 => 82 | 234 => 84 | 233 => 83 | 236 => 86 | 235 => 85 | 228 => 89 | 271 => 92 | 151 => 91 | 197 => 90 | 120 => 96 | 152 => 95 | 260 => 94 | 137 => 98 | 119 => 99 | 224 => 100 | 225 => 101 | 217 => 102 | 266 => 103 | n => n, fun | 9 => 9 | 4 => 4 | 3 => 3 | 5 => 5 | 117 => 104 | 116 => 103 | 0 => 0 | 124 => 107 | 21 => 21 | 105 => 111 | 46 => 79 | 119 => 115 | 139 => 118 | 138 => 117 | n => n, fun | 3 => 1 | 4 => 2 | n => n⟩
theorem Tryd.l160 : Go.Proofs.Lays.n160 Tryd.prog Tryd.l160_ren := {
  mixed := by kernel_rfl,
  f119 := Tryd.func99.trans (congrArg some (by kernel_rfl)),
  f120 := Tryd.func96.trans (congrArg some (by kernel_rfl)),
  f137 := Tryd.func98.trans (congrArg some (by kernel_rfl)),
  f151 := Tryd.func91.trans (congrArg some (by kernel_rfl)),
  f152 := Tryd.func95.trans (congrArg some (by kernel_rfl)),
  f160 := Tryd.func67.trans (congrArg some (by kernel_rfl)),
  f197 := Tryd.func90.trans (congrArg some (by kernel_rfl)),
  f217 := Tryd.func102.trans (congrArg some (by kernel_rfl)),
  f224 := Tryd.func100.trans (congrArg some (by kernel_rfl)),
  f225 := Tryd.func101.trans (congrArg some (by kernel_rfl)),
  f227 := Tryd.func82.trans (congrArg some (by kernel_rfl)),
  f228 := Tryd.func89.trans (congrArg some (by kernel_rfl)),
  f231 := Tryd.func80.trans (congrArg some (by kernel_rfl)),
  f232 := Tryd.func81.trans (congrArg some (by kernel_rfl)),
  f233 := Tryd.func83.trans (congrArg some (by kernel_rfl)),
  f234 := Tryd.func84.trans (congrArg some (by kernel_rfl)),
  f235 := Tryd.func85.trans (congrArg some (by kernel_rfl)),
  f236 := Tryd.func86.trans (congrArg some (by kernel_rfl)),
  f260 := Tryd.func94.trans (congrArg some (by kernel_rfl)),
  f266 := Tryd.func103.trans (congrArg some (by kernel_rfl)),
  f271 := Tryd.func92.trans (congrArg some (by kernel_rfl)),
  t0 := Tryd.underlying0,
  a0 := Tryd.isAgg0,
  z0 := Tryd.sizeOf0,
  v0 := Tryd.zeroValue0,
  t3 := Tryd.underlying3,
  a3 := Tryd.isAgg3,
  z3 := Tryd.sizeOf3,
  v3 := Tryd.zeroValue3,
  t4 := Tryd.underlying4,
  a4 := Tryd.isAgg4,
  z4 := Tryd.sizeOf4,
  v4 := Tryd.zeroValue4,
  t5 := Tryd.underlying5,
  a5 := Tryd.isAgg5,
  z5 := Tryd.sizeOf5,
  v5 := Tryd.zeroValue5,
  t9 := Tryd.underlying9,
  a9 := Tryd.isAgg9,
  z9 := Tryd.sizeOf9,
  v9 := Tryd.zeroValue9,
  t21 := Tryd.underlying21,
  a21 := Tryd.isAgg21,
  z21 := Tryd.sizeOf21,
  v21 := Tryd.zeroValue21,
  t46 := Tryd.underlying79,
  a46 := Tryd.isAgg79,
  z46 := Tryd.sizeOf79,
  v46 := Tryd.zeroValue79,
  t105 := Tryd.underlying111,
  a105 := Tryd.isAgg111,
  z105 := Tryd.sizeOf111,
  v105 := Tryd.zeroValue111,
  t116 := Tryd.underlying103,
  a116 := Tryd.isAgg103,
  z116 := Tryd.sizeOf103,
  t117 := Tryd.underlying104,
  a117 := Tryd.isAgg104,
  z117 := Tryd.sizeOf104,
  v117 := Tryd.zeroValue104,
  t119 := Tryd.underlying115,
  a119 := Tryd.isAgg115,
  z119 := Tryd.sizeOf115,
  t124 := Tryd.underlying107,
  a124 := Tryd.isAgg107,
  z124 := Tryd.sizeOf107,
  v124 := Tryd.zeroValue107,
  t138 := Tryd.underlying117,
  a138 := Tryd.isAgg117,
  z138 := Tryd.sizeOf117,
  v138 := Tryd.zeroValue117,
  t139 := Tryd.underlying118,
  a139 := Tryd.isAgg118,
  z139 := Tryd.sizeOf118,
  v139 := Tryd.zeroValue118,
  g3 := by kernel_rfl,
  g4 := by kernel_rfl }
def Tryd.l17_ren : Go.Shelf.Ren := ⟨fun | 17 => 41 | 15 => 66 | 20 => 79 | n => n, fun | 9 => 9 | 23 => 65 | 4 => 4 | 3 => 3 | 0 => 0 | 21 => 21 | n => n, fun | n => n⟩
theorem Tryd.l17 : Go.Proofs.LaysGw.n17 Tryd.prog Tryd.l17_ren := {
  mixed := by kernel_rfl,
  f15 := Tryd.func66.trans (congrArg some (by kernel_rfl)),
  f17 := Tryd.func41.trans (congrArg some (by kernel_rfl)),
  f20 := Tryd.func79.trans (congrArg some (by kernel_rfl)),
  t0 := Tryd.underlying0,
  a0 := Tryd.isAgg0,
  z0 := Tryd.sizeOf0,
  v0 := Tryd.zeroValue0,
  i0 := by kernel_rfl,
  t3 := Tryd.underlying3,
  a3 := Tryd.isAgg3,
  z3 := Tryd.sizeOf3,
  v3 := Tryd.zeroValue3,
  i3 := by kernel_rfl,
  t4 := Tryd.underlying4,
  a4 := Tryd.isAgg4,
  z4 := Tryd.sizeOf4,
  v4 := Tryd.zeroValue4,
  i4 := by kernel_rfl,
  t9 := Tryd.underlying9,
  a9 := Tryd.isAgg9,
  z9 := Tryd.sizeOf9,
  v9 := Tryd.zeroValue9,
  i9 := by kernel_rfl,
  t21 := Tryd.underlying21,
  a21 := Tryd.isAgg21,
  z21 := Tryd.sizeOf21,
  v21 := Tryd.zeroValue21,
  i21 := by kernel_rfl,
  t23 := Tryd.underlying65,
  a23 := Tryd.isAgg65,
  z23 := Tryd.sizeOf65,
  v23 := Tryd.zeroValue65,
  i23 := by kernel_rfl }
def Tryd.lc43_ren : Go.Shelf.Ren := ⟨fun | 41 => 43 | n => n, fun | 22 => 22 | 23 => 9 | 4 => 4 | n => n, fun | n => n⟩
theorem Tryd.lc43 : Go.Proofs.SlLaysE0.n41 Tryd.prog Tryd.lc43_ren := {
  mixed := by kernel_rfl,
  f41 := ⟨Tryd.f43.name, by decide, Tryd.func43.trans (congrArg some (by kernel_rfl))⟩,
  t4 := Tryd.underlying4,
  a4 := Tryd.isAgg4,
  z4 := Tryd.sizeOf4,
  v4 := Tryd.zeroValue4,
  t22 := Tryd.underlying22,
  a22 := Tryd.isAgg22,
  z22 := Tryd.sizeOf22,
  v22 := Tryd.zeroValue22 }
def Tryd.lc68_ren : Go.Shelf.Ren := ⟨fun | 41 => 68 | n => n, fun | 22 => 23 | 23 => 3 | 4 => 4 | n => n, fun | n => n⟩
theorem Tryd.lc68 : Go.Proofs.SlLaysE0.n41 Tryd.prog Tryd.lc68_ren := {
  mixed := by kernel_rfl,
  f41 := ⟨Tryd.f68.name, by decide, Tryd.func68.trans (congrArg some (by kernel_rfl))⟩,
  t4 := Tryd.underlying4,
  a4 := Tryd.isAgg4,
  z4 := Tryd.sizeOf4,
  v4 := Tryd.zeroValue4,
  t22 := Tryd.underlying23,
  a22 := Tryd.isAgg23,
  z22 := Tryd.sizeOf23,
  v22 := Tryd.zeroValue23 }
def Tryd.lc69_ren : Go.Shelf.Ren := ⟨fun | 41 => 69 | n => n, fun | 22 => 24 | 23 => 59 | 4 => 4 | n => n, fun | n => n⟩
theorem Tryd.lc69 : Go.Proofs.SlLaysE0.n41 Tryd.prog Tryd.lc69_ren := {
  mixed := by kernel_rfl,
  f41 := ⟨Tryd.f69.name, by decide, Tryd.func69.trans (congrArg some (by kernel_rfl))⟩,
  t4 := Tryd.underlying4,
  a4 := Tryd.isAgg4,
  z4 := Tryd.sizeOf4,
  v4 := Tryd.zeroValue4,
  t22 := Tryd.underlying24,
  a22 := Tryd.isAgg24,
  z22 := Tryd.sizeOf24,
  v22 := Tryd.zeroValue24 }
end Go.Proofs
namespace Go.Proofs.YtcbkgammlfjjoaaDoor
set_option linter.unusedVariables false
set_option linter.unusedSimpArgs false
open Go.RowKit Go.Lib Go.Shelf Go.Proofs.YtcbkgammlfjjoaaDoorW.PrintWords Go.Proofs.YtcbkgammlfjjoaaDoorW.PrintLast Go.Proofs.YtcbkgammlfjjoaaDoorW.PrintMore

def bits4 : List UInt8 := [48, 49, 120, 122]
def vOk (v : ByteArray) : Bool := decide (1 ≤ v.size) && decide (v.size ≤ 256) && v.data.toList.all (bits4.contains ·)
def oddR (r : Nat) : Bool := decide (r < 33) || decide (126 < r)
def nOk (s : ByteArray) : Bool := decide (s.size ≤ 256) && s.data.toList.all (fun b => !oddR b.toNat)

theorem dropWhile_nil {α : Type} (p : α → Bool) : ∀ l : List α, l.dropWhile p = [] ↔ ∀ x ∈ l, p x = true := by
  intro l
  induction l with
  | nil => simp
  | cons a r ih =>
    by_cases h : p a = true
    · rw [List.dropWhile_cons_of_pos h, ih]
      simp [h]
    · rw [List.dropWhile_cons_of_neg h]
      simp [h]
theorem trim_nil (l cs : List UInt8) : Lib.trimS l cs = [] ↔ l.all (cs.contains ·) = true := by
  unfold Lib.trimS Lib.trimLeftS Lib.trimRightS
  rw [dropWhile_nil, List.all_eq_true]
  constructor
  · intro h x hx
    by_cases hp : cs.contains x = true
    · exact hp
    · exfalso
      have hne : l.reverse.dropWhile (cs.contains ·) ≠ [] := by
        intro he
        rw [dropWhile_nil] at he
        exact hp (he x (by simpa using hx))
      have h1 := List.head_dropWhile_not (cs.contains ·) hne
      have h2 := h ((l.reverse.dropWhile (cs.contains ·)).head hne) (by simp)
      rw [h2] at h1
      cases h1
  · intro h x hx
    have : x ∈ l.reverse.dropWhile (cs.contains ·) := by simpa using hx
    have h2 := (List.dropWhile_suffix (cs.contains ·)).mem this
    exact h x (by simpa using h2)

theorem idx_odd (s : ByteArray) : ∀ (f pos : Nat), s.size - pos ≤ f → (0 ≤ Lib.idxFuncFrom oddR true s f pos ↔ (s.data.toList.drop pos).any (fun b => oddR b.toNat) = true) := by
  intro f
  induction f with
  | zero =>
    intro pos hf
    rw [List.drop_eq_nil_of_le (by simp; omega)]
    simp [Lib.idxFuncFrom]
  | succ f ih =>
    intro pos hf
    rw [Lib.idxFuncFrom]
    by_cases hp : pos < s.size
    · rw [if_pos hp, List.drop_eq_getElem_cons (by simpa using hp), List.any_cons]
      have hb : s.data.toList[pos]'(by simpa using hp) = s[pos]'hp := rfl
      by_cases ha : (s[pos]'hp).toNat < 128
      · rw [decode_ascii s pos hp ha, hb]
        simp only
        by_cases ho : oddR (s[pos]'hp).toNat = true
        · rw [if_pos ho, ho]
          simp
        · rw [if_neg ho, ih (pos + 1) (by omega)]
          simp [ho]
      · have hd := decode_high s pos hp (by omega)
        have ho : oddR (s[pos]'hp).toNat = true := by simp [oddR]; omega
        have ho2 : oddR (Utf8.decode s pos).1 = true := by simp [oddR]; omega
        rw [if_pos ho2, hb, ho]
        simp
    · rw [if_neg hp, List.drop_eq_nil_of_le (by simp; omega)]
      simp

theorem isOdd (w : World) : PredAt Tryd.prog 40 #[] encR oddR w := fun W r _ => by
  unfold FnGives
  by_cases h1 : r < 33 <;> by_cases h2 : 126 < r
  all_goals
    have z1 : (r : Int) < 33 ↔ r < 33 := by omega
    have z2 : (126 : Int) < (r : Int) ↔ 126 < r := by omega
    go_enter Tryd.func40, Tryd.ntmps40
    go_wp2
    all_goals first | (exfalso; omega) | (go_ret; exact ⟨by simp [oddR, h1, h2], 0, rfl⟩)

theorem odd_any (s : ByteArray) (w : World) : Calls Tryd.prog 41 #[.string s, .func (.func 40) #[] #[]] w fun e w' => e = .returned (.bool (s.data.toList.any (fun b => oddR b.toNat))) ∧ Below w.heap.size w w' := by
  have hC := Any.strings_ContainsFunc Tryd.l17 40 #[] (enters_of Tryd.func40 (by kernel_rfl) rfl) oddR s w (isOdd w)
  have e : decide (0 ≤ Lib.idxFunc oddR true s) = s.data.toList.any (fun b => oddR b.toNat) := by
    rw [Bool.eq_iff_iff, decide_eq_true_iff]
    have := idx_odd s s.size 0 (by omega)
    simpa [Lib.idxFunc] using this
  rw [e] at hC
  exact hC

theorem vec_any (v : ByteArray) (w : World) (hv : v.size ≤ 9223372036854775807) : Calls Tryd.prog 42 #[.string v] w fun e w' => e = .returned (.int .i64 (if vOk v then 0 else 10)) ∧ Below w.heap.size w w' := by
  have hcon := Any.strings_Trim_laid Tryd.l160 (by kernel_rfl) v ⟨#[48, 49, 120, 122]⟩ w hv (by decide) (ascii_of_all (by decide))
  change Calls Tryd.prog 67 _ _ (fun e w' => e = .returned (.string ⟨(Lib.trimS v.data.toList [48, 49, 120, 122]).toArray⟩) ∧ Below w.heap.size w w') at hcon
  have htr := trim_nil v.data.toList [48, 49, 120, 122]
  have hne : (⟨(Lib.trimS v.data.toList [48, 49, 120, 122]).toArray⟩ : ByteArray).toList.isEmpty = v.data.toList.all (bits4.contains ·) := by
    rw [Lib.toList_data]
    show (Lib.trimS v.data.toList [48, 49, 120, 122]).isEmpty = _
    rw [Bool.eq_iff_iff, List.isEmpty_iff]
    exact htr
  generalize (⟨(Lib.trimS v.data.toList [48, 49, 120, 122]).toArray⟩ : ByteArray) = r at hcon hne
  have HC := Lib.hid hcon
  clear hcon htr
  by_cases h1 : 1 ≤ v.size
  · have g1 : decide ((v.size : Int) < 1) = false := by rw [decide_eq_false_iff_not]; omega
    by_cases h2 : v.size ≤ 256
    · have g2 : decide ((v.size : Int) > 256) = false := by rw [decide_eq_false_iff_not]; omega
      have hv2 : vOk v = v.data.toList.all (bits4.contains ·) := by simp [vOk, h1, h2]
      rw [hv2]
      generalize v.data.toList.all (bits4.contains ·) = K at hne ⊢
      clear hv2
      cases K with
      | true =>
        go_enter Tryd.func42, Tryd.ntmps42
        go_wp2_with (go_at_call 67; refine HC.out.mono ?_; rintro e w' ⟨rfl, hb⟩)
        go_ret
        exact ⟨rfl, hb⟩
      | false =>
        go_enter Tryd.func42, Tryd.ntmps42
        go_wp2_with (go_at_call 67; refine HC.out.mono ?_; rintro e w' ⟨rfl, hb⟩)
        go_ret
        exact ⟨rfl, hb⟩
    · have g2 : decide ((v.size : Int) > 256) = true := by rw [decide_eq_true_iff]; omega
      have hv2 : vOk v = false := by simp [vOk, h2]
      rw [hv2]
      clear hne hv2
      go_enter Tryd.func42, Tryd.ntmps42
      go_wp2_with fail
      go_ret
      exact ⟨rfl, Below.refl _ _⟩
  · have g1 : decide ((v.size : Int) < 1) = true := by rw [decide_eq_true_iff]; omega
    have hv2 : vOk v = false := by simp [vOk, h1]
    rw [hv2]
    clear hne hv2
    go_enter Tryd.func42, Tryd.ntmps42
    go_wp2_with fail
    go_ret
    exact ⟨rfl, Below.refl _ _⟩
end Go.Proofs.YtcbkgammlfjjoaaDoor
namespace Go.Proofs.YtcbkgammlfjjoaaDoor
set_option linter.unusedVariables false
set_option linter.unusedSimpArgs false
open Go.RowKit Go.Proofs.YtcbkgammlfjjoaaDoorW.PrintWords Go.Proofs.YtcbkgammlfjjoaaDoorW.PrintLast Go.Proofs.YtcbkgammlfjjoaaDoorW.PrintMore

theorem w64 {n : Int} (h0 : -9223372036854775808 ≤ n) (h1 : n ≤ 9223372036854775807) : wrap64 n = n := by unfold wrap64; omega
theorem bt_get (s : ByteArray) (i : Nat) (h : i < s.size) : bt s i = ((s.data.toList[i]'(by simpa using h)).toNat : Int) := by
  simp [bt, ByteArray.get!, Array.getElem!_eq_getD, Array.getD_eq_getD_getElem?, h]
  rfl
theorem named_l0 (s : ByteArray) (hs : s.size ≤ 9223372036854775807) : ∀ (d k p : Nat), p + d = s.size → d < k → silkwormwaves_named.l0 k s p = some ((s.data.toList.drop p).all (fun b => !oddR b.toNat) && decide (s.size ≤ 256)) := by
  intro d
  induction d with
  | zero =>
    intro k p hp hk
    obtain ⟨k, rfl⟩ : ∃ m, k = m + 1 := ⟨k - 1, by omega⟩
    rw [silkwormwaves_named.l0, if_neg (by omega), List.drop_eq_nil_of_le (by simp; omega)]
    congr 1
    simp only [List.all_nil, Bool.true_and, decide_eq_decide]
    omega
  | succ d ih =>
    intro k p hp hk
    obtain ⟨k, rfl⟩ : ∃ m, k = m + 1 := ⟨k - 1, by omega⟩
    have hlt : p < s.size := by omega
    rw [silkwormwaves_named.l0, if_pos (by omega), if_pos (by omega), bt_get s p hlt, List.drop_eq_getElem_cons (by simpa using hlt), List.all_cons]
    generalize s.data.toList[p]'(by simpa using hlt) = b
    by_cases h1 : b.toNat < 33
    · rw [if_pos (by omega)]; simp [oddR, h1]
    · rw [if_neg (by omega)]
      by_cases h2 : 126 < b.toNat
      · rw [if_pos (by omega)]; simp [oddR, h2]
      · rw [if_neg (by omega), w64 (by omega) (by omega), show ((p : Int) + 1) = ((p + 1 : Nat) : Int) from by omega, ih k (p + 1) (by omega) (by omega)]
        simp [oddR, h1, h2]
theorem named_any (s : ByteArray) (w : World) (hs : s.size ≤ 9223372036854775807) : Calls Tryd.prog 45 #[.string s] w fun e w' => e = .returned (.bool (nOk s)) ∧ ∃ m, w' = w.drewN m := by
  refine (silkwormwaves_named.calls (s.size + 1) s (nOk s) w ?_).mono fun e w' ⟨h1, ⟨h2⟩⟩ => ⟨h1, h2⟩
  have := named_l0 s hs s.size (s.size + 1) 0 (by omega) (by omega)
  unfold silkwormwaves_named.f nOk
  rw [Bool.and_comm]
  simpa using this
theorem may_l0 (s : ByteArray) (hs : s.size ≤ 9223372036854775807) : ∀ (d k p : Nat), p + d = s.size → d < k → silkwormref01_May.l0 k s p = some ((s.data.toList.drop p).all (bits4.contains ·) && (decide (1 ≤ s.size) && decide (s.size ≤ 256))) := by
  intro d
  induction d with
  | zero =>
    intro k p hp hk
    obtain ⟨k, rfl⟩ : ∃ m, k = m + 1 := ⟨k - 1, by omega⟩
    rw [silkwormref01_May.l0, if_neg (by omega), List.drop_eq_nil_of_le (by simp; omega)]
    by_cases h1 : 1 ≤ s.size
    · rw [if_pos (by omega)]
      congr 1
      simp only [List.all_nil, Bool.true_and, h1, decide_true, decide_eq_decide]
      omega
    · rw [if_neg (by omega)]
      simp [h1]
  | succ d ih =>
    intro k p hp hk
    obtain ⟨k, rfl⟩ : ∃ m, k = m + 1 := ⟨k - 1, by omega⟩
    have hlt : p < s.size := by omega
    have hnx : silkwormref01_May.l0 k s (wrap64 ((p : Int) + 1)) = some ((s.data.toList.drop (p + 1)).all (bits4.contains ·) && (decide (1 ≤ s.size) && decide (s.size ≤ 256))) := by
      rw [w64 (by omega) (by omega), show ((p : Int) + 1) = ((p + 1 : Nat) : Int) from by omega, ih k (p + 1) (by omega) (by omega)]
    have hdr := List.drop_eq_getElem_cons (l := s.data.toList) (i := p) (by simpa using hlt)
    rw [silkwormref01_May.l0, if_pos (by omega), if_pos (by omega), hnx, bt_get s p hlt, hdr, List.all_cons]
    generalize s.data.toList[p]'(by simpa using hlt) = b
    have hc : bits4.contains b = (decide ((b.toNat : Int) = 48) || (decide ((b.toNat : Int) = 49) || (decide ((b.toNat : Int) = 120) || decide ((b.toNat : Int) = 122)))) := by
      have e : ∀ n : UInt8, (b == n) = decide ((b.toNat : Int) = n.toNat) := by
        intro n
        rw [Bool.eq_iff_iff, beq_iff_eq, decide_eq_true_iff]
        constructor
        · intro h; rw [h]
        · intro h; exact UInt8.toNat_inj.1 (by omega)
      simp only [bits4, List.contains_cons, List.contains_nil, e]
      simp
    rw [hc]
    by_cases h1 : (b.toNat : Int) = 48
    · rw [if_pos h1]; simp [h1]
    rw [if_neg h1]
    by_cases h2 : (b.toNat : Int) = 49
    · rw [if_pos h2]; simp [h2]
    rw [if_neg h2]
    by_cases h3 : (b.toNat : Int) = 120
    · rw [if_pos h3]; simp [h3]
    rw [if_neg h3]
    by_cases h4 : (b.toNat : Int) = 122
    · rw [if_pos h4]; simp [h4]
    rw [if_neg h4]
    simp [h1, h2, h3, h4]
theorem may_any (s : ByteArray) (w : World) (hs : s.size ≤ 9223372036854775807) : Calls Tryd.prog 46 #[.string s] w fun e w' => e = .returned (.bool (vOk s)) ∧ ∃ m, w' = w.drewN m := by
  refine (silkwormref01_May.calls (s.size + 1) s (vOk s) w ?_).mono fun e w' ⟨h1, ⟨h2⟩⟩ => ⟨h1, h2⟩
  have := may_l0 s hs s.size (s.size + 1) 0 (by omega) (by omega)
  unfold silkwormref01_May.f vOk
  rw [Bool.and_comm]
  simpa using this
/-- does a change stand ahead of another one? -/
def aheadB (a b : S59) : Bool := decide (a.f0 < b.f0) || (decide (a.f0 = b.f0) && decide (a.f1 < b.f1))
def cmpI (a b : Int) : Int := if a < b then -1 else if a > b then 1 else 0
def aheadI (a b : S59) : Int := if cmpI a.f0 b.f0 = 0 then cmpI a.f1 b.f1 else cmpI a.f0 b.f0
theorem aheadI_neg (a b : S59) : decide (aheadI a b ≥ 0) = !aheadB a b := by
  unfold aheadI aheadB cmpI
  rw [Bool.eq_iff_iff]
  simp only [decide_eq_true_eq, Bool.not_eq_true', Bool.or_eq_false_iff, decide_eq_false_iff_not, Bool.and_eq_false_iff]
  repeat' split
  all_goals omega
theorem aheadR_any (a b : S59) (w : World) : Calls Tryd.prog 47 #[.agg #[.int .i64 a.f0, .int .i64 a.f1, .string a.f2], .agg #[.int .i64 b.f0, .int .i64 b.f1, .string b.f2]] w fun e w' => e = .returned (.bool (aheadB a b)) ∧ Below w.heap.size w w' := by
  refine (silkwormwaves_Ahead.calls a.f0 a.f1 a.f2 b.f0 b.f1 b.f2 (aheadB a b) w ?_).mono fun e w' h => h
  unfold silkwormwaves_Ahead.f aheadB
  split
  · rename_i h; simp [h]
  · rename_i h
    split
    · rename_i h2; simp [h, h2]
    · rename_i h2; simp [h, h2]
theorem cmp_eq (a b : Int) : cmp_Compare_int.f a b = some (cmpI a b) := by
  simp only [cmp_Compare_int.f, cmp_isNaN_int.f, Option.bind_some, bne_self_eq_false, Bool.false_eq_true, if_false, cmpI]
  repeat' split
  all_goals rfl
theorem ahead_any (a b : S59) (w : World) : Calls Tryd.prog 44 #[.agg #[.int .i64 a.f0, .int .i64 a.f1, .string a.f2], .agg #[.int .i64 b.f0, .int .i64 b.f1, .string b.f2]] w fun e w' => e = .returned (.int .i64 (aheadI a b)) ∧ Below w.heap.size w w' := by
  refine (wave_ahead.calls 10 a.f0 a.f1 a.f2 b.f0 b.f1 b.f2 (aheadI a b) w ?_).mono fun e w' h => h
  unfold wave_ahead.f
  rw [cmp_eq, cmp_eq]
  simp only [Option.bind_some, aheadI, cmp_Or_int.f]
  generalize cmpI a.f0 b.f0 = x
  generalize cmpI a.f1 b.f1 = y
  have e0 : rd [x, y] 0 = x := rfl
  have e1 : rd [x, y] 1 = y := rfl
  by_cases hx : x = 0
  · by_cases hy : y = 0
    · subst hx hy; simp [cmp_Or_int.l0, rd, wrap64]
    · rw [if_pos hx]
      simp only [cmp_Or_int.l0, e0, hx, List.length_cons, List.length_nil]
      simp [rd, wrap64, hy]
  · rw [if_neg hx]
    simp only [cmp_Or_int.l0, e0, List.length_cons, List.length_nil]
    simp [hx]
end Go.Proofs.YtcbkgammlfjjoaaDoor
namespace Go.Proofs.YtcbkgammlfjjoaaDoor
set_option linter.unusedVariables false
set_option linter.unusedSimpArgs false
open Go.RowKit Go.Proofs.YtcbkgammlfjjoaaDoorW.PrintWords Go.Proofs.YtcbkgammlfjjoaaDoorW.PrintLast Go.Proofs.YtcbkgammlfjjoaaDoorW.PrintMore

/-- an address as rows have them -/
def AF (A : Option Addr) : Prop := A = none ∨ ∃ b o, A = some ⟨b, o, none⟩
theorem add_plain (b o i : Nat) : (⟨b, o, none⟩ : Addr).add i = ⟨b, o + i, none⟩ := by unfold Addr.add; split <;> simp_all

theorem clone_str (A : Option Addr) (c : Nat) (l : List ByteArray) (w : World) (hA : AF A) (h : Kd.C Kd.string w A l.length l) (hbig : l.length * 16 ≤ 140737488355328) :
    Calls Tryd.prog 43 #[.slice A l.length c] w fun e w' => ∃ v, e = .returned v ∧ Kd.R Kd.string 9 w' w.heap.size (fun _ => True) v l ∧ Below w.heap.size w w' := by
  rcases hA with rfl | ⟨b, o, rfl⟩
  · have hl : l = [] := by
      have h3 := h.2.2
      rcases Nat.eq_zero_or_pos l.length with h0 | h0
      · exact List.length_eq_zero_iff.1 h0
      · obtain ⟨ad, e, _⟩ := h3 h0
        cases e
    subst hl
    have := AnyE.slices_Clone_nil Tryd.lc43 0 c w
    refine this.mono ?_
    rintro e w' ⟨rfl, rfl⟩
    exact ⟨_, rfl, Kd.R_nil _ _ _ _ _, Below.refl _ _⟩
  · have hm := h.2.1
    have hc : ∀ j u, (encs Value.string l)[j]? = some u → w.cell? ⟨b, o + j, none⟩ = some u := by
      intro j u hu
      have hj : j < l.length := by have := (List.getElem?_eq_some_iff.1 hu).1; rwa [encs_length] at this
      obtain ⟨ad, cs, e, hcl, hr, hcell⟩ := h.get_ (l[j]) (j : Int) (by omega) (by omega)
      injection e with e
      subst e
      have hr' : cs = [Value.string (l.getD j l[j])] := hr
      subst hr'
      have := hcell 0 _ rfl
      rw [Int.toNat_natCast, add_plain] at this
      rw [show o + (j * Kd.string.sz + 0) = o + j from by show o + (j * 1 + 0) = o + j; omega] at this
      rw [this]
      simp [encs] at hu
      obtain ⟨x, hx, rfl⟩ := hu
      simp [List.getD_eq_getElem?_getD, hx]
    have hi := info9
    obtain ⟨i0, hi0, hi1⟩ := Option.map_eq_some_iff.1 hi
    simp only [Prod.mk.injEq] at hi1
    obtain ⟨e0, e1, e2⟩ := hi1
    have := AnyE.slices_Clone Tryd.lc43 i0 _ 1 16 hi0 e0 e1 e2 rfl (by decide) Tryd.sizeOf9 b o l.length c (encs Value.string l) w (by simp [encs]) hm hbig hc (by intro u hu; obtain ⟨x, _, rfl⟩ := List.mem_map.1 hu; rfl)
    refine this.mono ?_
    rintro e w' ⟨v, rfl, ho, _, hb⟩
    exact ⟨v, rfl, Kd.R_of_own ho (fun _ _ => trivial), hb⟩

theorem clone_int (A : Option Addr) (c : Nat) (l : List Int) (w : World) (hA : AF A) (h : Kd.C (Kd.int .i64) w A l.length l) (hbig : l.length * 8 ≤ 140737488355328) :
    Calls Tryd.prog 68 #[.slice A l.length c] w fun e w' => ∃ v, e = .returned v ∧ Kd.R (Kd.int .i64) 3 w' w.heap.size (fun _ => True) v l ∧ Below w.heap.size w w' := by
  rcases hA with rfl | ⟨b, o, rfl⟩
  · have hl : l = [] := by
      have h3 := h.2.2
      rcases Nat.eq_zero_or_pos l.length with h0 | h0
      · exact List.length_eq_zero_iff.1 h0
      · obtain ⟨ad, e, _⟩ := h3 h0
        cases e
    subst hl
    have := AnyE.slices_Clone_nil Tryd.lc68 0 c w
    refine this.mono ?_
    rintro e w' ⟨rfl, rfl⟩
    exact ⟨_, rfl, Kd.R_nil _ _ _ _ _, Below.refl _ _⟩
  · have hm := h.2.1
    have hc : ∀ j u, (encs (Value.int .i64) l)[j]? = some u → w.cell? ⟨b, o + j, none⟩ = some u := by
      intro j u hu
      have hj : j < l.length := by have := (List.getElem?_eq_some_iff.1 hu).1; rwa [encs_length] at this
      obtain ⟨ad, cs, e, hcl, hr, hcell⟩ := h.get_ (l[j]) (j : Int) (by omega) (by omega)
      injection e with e
      subst e
      have hr' : cs = [(Value.int .i64) (l.getD j l[j])] := hr
      subst hr'
      have := hcell 0 _ rfl
      rw [Int.toNat_natCast, add_plain] at this
      rw [show o + (j * (Kd.int .i64).sz + 0) = o + j from by show o + (j * 1 + 0) = o + j; omega] at this
      rw [this]
      simp [encs] at hu
      obtain ⟨x, hx, rfl⟩ := hu
      simp [List.getD_eq_getElem?_getD, hx]
    have hi := info3
    obtain ⟨i0, hi0, hi1⟩ := Option.map_eq_some_iff.1 hi
    simp only [Prod.mk.injEq] at hi1
    obtain ⟨e0, e1, e2⟩ := hi1
    have := AnyE.slices_Clone Tryd.lc68 i0 _ 1 8 hi0 e0 e1 e2 rfl (by decide) Tryd.sizeOf3 b o l.length c (encs (Value.int .i64) l) w (by simp [encs]) hm hbig hc (by intro u hu; obtain ⟨x, _, rfl⟩ := List.mem_map.1 hu; rfl)
    refine this.mono ?_
    rintro e w' ⟨v, rfl, ho, _, hb⟩
    exact ⟨v, rfl, Kd.R_of_own ho (fun _ _ => trivial), hb⟩

def cl59 (x : S59) : List Value := [.int .i64 x.f0, .int .i64 x.f1, .string x.f2]
theorem flat_len (l : List S59) : (l.flatMap cl59).length = l.length * 3 := by
  induction l with
  | nil => rfl
  | cons x l ih => rw [List.flatMap_cons, List.length_append, ih, List.length_cons]; show 3 + _ = _; omega
theorem flat_get (l : List S59) : ∀ i r, r < 3 → (l.flatMap cl59)[i * 3 + r]? = (l[i]?).bind (fun x => (cl59 x)[r]?) := by
  induction l with
  | nil => intro i r hr; simp
  | cons x l ih =>
    intro i r hr
    rw [List.flatMap_cons]
    cases i with
    | zero =>
      rw [List.getElem?_append_left (by show 0 * 3 + r < 3; omega)]
      simp
    | succ i =>
      rw [List.getElem?_append_right (by show 3 ≤ (i + 1) * 3 + r; omega), show (i + 1) * 3 + r - (cl59 x).length = i * 3 + r from by show (i + 1) * 3 + r - 3 = _; omega, ih i r hr]
      simp
theorem reps59 (w : World) (base : Nat) (ok : Nat → Prop) (l : List S59) : Reps (k59.M w base ok) 3 l (l.flatMap cl59) := by
  refine ⟨flat_len l, fun j p hp => ?_⟩
  have hj := (List.getElem?_eq_some_iff.1 hp).1
  have : ((l.flatMap cl59).drop (j * 3)).take 3 = cl59 p := by
    apply List.ext_getElem?
    intro r
    rw [List.getElem?_take]
    by_cases hr : r < 3
    · rw [if_pos hr, List.getElem?_drop, flat_get l j r hr, hp]
      rfl
    · rw [if_neg hr, List.getElem?_eq_none (by show 3 ≤ r; omega)]
  rw [this]
  exact k59_mkM w base ok p
theorem clone_chg (A : Option Addr) (c : Nat) (l : List S59) (w : World) (hA : AF A) (h : Kd.C k59 w A l.length l) (hbig : l.length * 32 ≤ 140737488355328) :
    Calls Tryd.prog 69 #[.slice A l.length c] w fun e w' => ∃ v, e = .returned v ∧ Kd.R k59 59 w' w.heap.size (fun _ => True) v l ∧ Below w.heap.size w w' := by
  rcases hA with rfl | ⟨b, o, rfl⟩
  · have hl : l = [] := by
      have h3 := h.2.2
      rcases Nat.eq_zero_or_pos l.length with h0 | h0
      · exact List.length_eq_zero_iff.1 h0
      · obtain ⟨ad, e, _⟩ := h3 h0
        cases e
    subst hl
    have := AnyE.slices_Clone_nil Tryd.lc69 0 c w
    refine this.mono ?_
    rintro e w' ⟨rfl, rfl⟩
    exact ⟨_, rfl, Kd.R_nil _ _ _ _ _, Below.refl _ _⟩
  · have hm := h.2.1
    have hc : ∀ j u, (l.flatMap cl59)[j]? = some u → w.cell? ⟨b, o + j, none⟩ = some u := by
      intro j u hu
      have hj : j < l.length * 3 := by have := (List.getElem?_eq_some_iff.1 hu).1; rwa [flat_len] at this
      have hi : j / 3 < l.length := by omega
      have e3 : j = j / 3 * 3 + j % 3 := by omega
      obtain ⟨ad, cs, e, hcl, hr, hcell⟩ := h.get_ (l[j / 3]) ((j / 3 : Nat) : Int) (by omega) (by omega)
      injection e with e
      subst e
      rw [Int.toNat_natCast] at hr hcell
      have hr' : cs = cl59 l[j / 3] := by
        have := k59_open hr
        rw [this]
        simp [List.getD_eq_getElem?_getD, hi, cl59]
      subst hr'
      rw [e3, flat_get l (j / 3) (j % 3) (by omega), List.getElem?_eq_getElem hi] at hu
      have := hcell (j % 3) u hu
      rw [add_plain] at this
      rw [show o + (j / 3 * k59.sz + j % 3) = o + j from by show o + (j / 3 * 3 + j % 3) = o + j; omega] at this
      exact this
    have hi := info59
    obtain ⟨i0, hi0, hi1⟩ := Option.map_eq_some_iff.1 hi
    simp only [Prod.mk.injEq] at hi1
    obtain ⟨e0, e1, e2⟩ := hi1
    have := AnyE.slices_Clone Tryd.lc69 i0 _ 3 32 hi0 e0 e1 e2 rfl (by decide) Tryd.sizeOf59 b o l.length c (l.flatMap cl59) w (flat_len l) hm hbig hc (by
      intro u hu
      obtain ⟨x, _, hx⟩ := List.mem_flatMap.1 hu
      simp [cl59] at hx
      rcases hx with rfl | rfl | rfl <;> rfl)
    refine this.mono ?_
    rintro e w' ⟨v, rfl, ho, _, hb⟩
    exact ⟨v, rfl, ⟨fun _ _ => trivial, l.flatMap cl59, ho, reps59 _ _ _ l⟩, hb⟩
end Go.Proofs.YtcbkgammlfjjoaaDoor
