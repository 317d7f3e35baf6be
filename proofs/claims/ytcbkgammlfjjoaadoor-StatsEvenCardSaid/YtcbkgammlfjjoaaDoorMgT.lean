/- StatsParts, plainly: counts of parts, and how small gaps are. StatsParts: the statement's own function, walked. -/
import Derived.Test.YtcbkgammlfjjoaaDoorMgP
import Derived.Test.YtcbkgammlfjjoaaDoorMgS
namespace Go.Proofs.YtcbkgammlfjjoaaDoor
set_option linter.unusedVariables false
set_option linter.unusedSimpArgs false
open Go.RowKit Go.Proofs.YtcbkgammlfjjoaaDoorW.PrintWords Go.Proofs.YtcbkgammlfjjoaaDoorW.PrintLast Go.Proofs.YtcbkgammlfjjoaaDoorW.PrintMore

theorem tms_full (x : WV) (net hor : Int) : tms x net hor x.li.length = (x.li.filter (cnt net hor)).map (·.f0) := by
  unfold tms
  rw [List.take_length]
theorem cnt_net {net hor : Int} {c : S59} (h : cnt net hor c = true) : cnt (-1) hor c = true := by
  unfold cnt at h ⊢
  simp only [Bool.and_eq_true, decide_eq_true_eq] at h
  rw [decide_eq_true h.1]
  rfl
theorem cnt_hor {hor hor' : Int} (hh : hor ≤ hor') {c : S59} (h : cnt (-1) hor c = true) : cnt (-1) hor' c = true := by
  unfold cnt at h ⊢
  simp only [Bool.and_eq_true, decide_eq_true_eq] at h
  rw [decide_eq_true (show c.f0 ≤ hor' by omega)]
  rfl
theorem filter_imp {α : Type} (p q : α → Bool) (h : ∀ c, p c = true → q c = true) : ∀ l : List α, (l.filter p).Sublist (l.filter q)
  | [] => List.Sublist.slnil
  | a :: t => by
    have ih := filter_imp p q h t
    cases hp : p a
    · cases hq : q a
      · rw [List.filter_cons_of_neg (by rw [hp]; decide), List.filter_cons_of_neg (by rw [hq]; decide)]; exact ih
      · rw [List.filter_cons_of_neg (by rw [hp]; decide), List.filter_cons_of_pos hq]; exact ih.cons _
    · rw [List.filter_cons_of_pos hp, List.filter_cons_of_pos (h a hp)]; exact ih.cons_cons _
theorem tms_sub (x : WV) (net hor : Int) : (tms x net hor x.li.length).Sublist (tms x (-1) hor x.li.length) := by
  rw [tms_full, tms_full]
  exact (filter_imp _ _ (fun c h => cnt_net h) x.li).map _
theorem tms_more (x : WV) {hor hor' : Int} (hh : hor ≤ hor') : (tms x (-1) hor x.li.length).length ≤ (tms x (-1) hor' x.li.length).length := by
  rw [tms_full, tms_full]
  exact ((filter_imp _ _ (fun c h => cnt_hor hh h) x.li).map _).length_le
/-- those that count, of the first so many nets -/
def upN (hor : Int) (k : Nat) (c : S59) : Bool := decide (c.f0 ≤ hor) && decide (c.f1 < k)
def cntN (x : WV) (hor : Int) (k : Nat) : Nat := (x.li.filter (upN hor k)).length
theorem filter_part (hor : Int) (k : Nat) : ∀ l : List S59, (∀ c ∈ l, 0 ≤ c.f1) → (l.filter (upN hor (k + 1))).length = (l.filter (upN hor k)).length + (l.filter (cnt (k : Int) hor)).length
  | [], _ => rfl
  | a :: t, h => by
    have ih := filter_part hor k t (fun c hc => h c (List.mem_cons_of_mem _ hc))
    have h0 := h a List.mem_cons_self
    by_cases h1 : a.f0 ≤ hor
    · by_cases h2 : a.f1 < k
      · have e1 : upN hor (k + 1) a = true := by unfold upN; rw [decide_eq_true h1, decide_eq_true (by omega)]; rfl
        have e2 : upN hor k a = true := by unfold upN; rw [decide_eq_true h1, decide_eq_true h2]; rfl
        have e3 : ¬ cnt (k : Int) hor a = true := by unfold cnt; rw [decide_eq_false (p := (k : Int) < 0) (by omega), decide_eq_false (p := a.f1 = (k : Int)) (by omega)]; simp
        rw [List.filter_cons_of_pos e1, List.filter_cons_of_pos e2, List.filter_cons_of_neg e3, List.length_cons, List.length_cons, ih]
        omega
      · have e2 : ¬ upN hor k a = true := by unfold upN; rw [decide_eq_false h2]; simp
        by_cases h3 : a.f1 = k
        · have e1 : upN hor (k + 1) a = true := by unfold upN; rw [decide_eq_true h1, decide_eq_true (by omega)]; rfl
          have e3 : cnt (k : Int) hor a = true := by unfold cnt; rw [decide_eq_true h1, decide_eq_true h3]; simp
          rw [List.filter_cons_of_pos e1, List.filter_cons_of_neg e2, List.filter_cons_of_pos e3, List.length_cons, List.length_cons, ih]
          omega
        · have e1 : ¬ upN hor (k + 1) a = true := by unfold upN; rw [decide_eq_false (p := a.f1 < ((k + 1 : Nat) : Int)) (by omega)]; simp
          have e3 : ¬ cnt (k : Int) hor a = true := by unfold cnt; rw [decide_eq_false (p := (k : Int) < 0) (by omega), decide_eq_false h3]; simp
          rw [List.filter_cons_of_neg e1, List.filter_cons_of_neg e2, List.filter_cons_of_neg e3, ih]
    · have e1 : ¬ upN hor (k + 1) a = true := by unfold upN; rw [decide_eq_false h1]; simp
      have e2 : ¬ upN hor k a = true := by unfold upN; rw [decide_eq_false h1]; simp
      have e3 : ¬ cnt (k : Int) hor a = true := by unfold cnt; rw [decide_eq_false h1]; simp
      rw [List.filter_cons_of_neg e1, List.filter_cons_of_neg e2, List.filter_cons_of_neg e3, ih]
theorem May.nets {x : WV} (h : May x) : ∀ c ∈ x.li, 0 ≤ c.f1 ∧ c.f1 < x.nm.length := by
  intro c hc
  obtain ⟨j, hj, rfl⟩ := List.getElem_of_mem hc
  have hp := h.place hj
  have e : cAt x j = x.li[j] := by unfold cAt; rw [List.getD_eq_getElem?_getD, List.getElem?_eq_getElem hj]; rfl
  rw [e] at hp
  exact ⟨hp.1, hp.2.1⟩
theorem cntN_zero {x : WV} (h : May x) (hor : Int) : cntN x hor 0 = 0 := by
  unfold cntN
  rw [List.length_eq_zero_iff, List.filter_eq_nil_iff]
  intro c hc
  have := (h.nets c hc).1
  unfold upN
  rw [decide_eq_false (p := c.f1 < ((0 : Nat) : Int)) (by omega)]
  simp
theorem cntN_succ {x : WV} (h : May x) (hor : Int) (k : Nat) : cntN x hor (k + 1) = cntN x hor k + (tms x (k : Int) hor x.li.length).length := by
  unfold cntN
  rw [filter_part hor k x.li (fun c hc => (h.nets c hc).1), tms_full, List.length_map]
theorem cntN_all {x : WV} (h : May x) (hor : Int) : cntN x hor x.nm.length = (tms x (-1) hor x.li.length).length := by
  unfold cntN
  rw [tms_full, List.length_map]
  congr 1
  refine List.filter_congr (fun c hc => ?_)
  have := (h.nets c hc).2
  unfold upN cnt
  rw [decide_eq_true (p := c.f1 < ((x.nm.length : Nat) : Int)) this]
  rfl
theorem cntN_le (x : WV) (hor : Int) (k : Nat) : cntN x hor k ≤ x.li.length := List.length_filter_le _ _
theorem gaps_tail (c : Int) : ∀ (L : List Int) (q : Int), q ∈ gaps L → q ∈ gaps (c :: L)
  | [], q, h => by cases h
  | d :: t, q, h => List.mem_cons_of_mem _ h
/-- gaps of fewer times are no smaller -/
theorem gaps_sub {l L : List Int} (h : l.Sublist L) : L.Pairwise (· ≤ ·) → ∀ q ∈ gaps l, ∃ q' ∈ gaps L, q' ≤ q := by
  induction h with
  | slnil => intro _ q hq; cases hq
  | cons a h ih =>
    intro hp q hq
    obtain ⟨q', h1, h2⟩ := ih (List.pairwise_cons.1 hp).2 q hq
    exact ⟨q', gaps_tail _ _ _ h1, h2⟩
  | @cons_cons l' L' a h ih =>
    intro hp q hq
    cases l' with
    | nil => cases hq
    | cons b t =>
      rcases List.mem_cons.1 hq with rfl | hq
      · have hb : b ∈ L' := h.subset List.mem_cons_self
        cases L' with
        | nil => cases hb
        | cons c t' =>
          refine ⟨c - a, List.mem_cons_self, ?_⟩
          rcases List.mem_cons.1 hb with rfl | hb
          · omega
          · have := (List.pairwise_cons.1 (List.pairwise_cons.1 hp).2).1 b hb
            omega
      · obtain ⟨q', h1, h2⟩ := ih (List.pairwise_cons.1 hp).2 q hq
        exact ⟨q', gaps_tail _ _ _ h1, h2⟩
theorem foi_mono {p q : Int} (h0 : 0 ≤ p) (h : p ≤ q) : foi p ≤ foi q := by
  have e1 : foi p = Ieee.double.nearest (decide (p < 0)) p.natAbs 0 := rfl
  have e2 : foi q = Ieee.double.nearest (decide (q < 0)) q.natAbs 0 := rfl
  rw [e1, e2, nearest_eq, nearest_eq, decide_eq_false (by omega), decide_eq_false (by omega), word_false (rung_le _ _), word_false (rung_le _ _)]
  exact rung_mono (by decide) (by decide) (Nat.mul_le_mul_right _ (by omega))
theorem ltB_pos {s x : Nat} (hs : Pos s) (hx : Pos x) : ltB x s = decide (x < s) := by
  unfold ltB
  rw [hx.ky.2, hs.ky.2, hx.ky.1, hs.ky.1]
  simp only [Bool.not_false, Bool.true_and]
  congr 1
  refine propext ⟨fun h => ?_, fun h => ?_⟩
  · rcases Nat.lt_or_ge x s with h1 | h1
    · exact h1
    · have := rval_mono h1 hx; omega
  · have h1 := rval_succ (r := x) (Nat.le_trans h hs)
    have h2 := rval_mono (r := x + 1) (t := s) h hs
    omega
theorem minF_le {s x : Nat} (hs : Pos s) (hx : Pos x) : minF s x ≤ s ∧ minF s x ≤ x ∧ (minF s x = s ∨ minF s x = x) := by
  unfold minF
  rw [ltB_pos hs hx]
  by_cases h : x < s
  · rw [decide_eq_true h, if_pos rfl]; exact ⟨by omega, Nat.le_refl _, Or.inr rfl⟩
  · rw [decide_eq_false h, if_neg (by decide)]; exact ⟨Nat.le_refl _, by omega, Or.inl rfl⟩
theorem least_le (g : List Int) (hg : ∀ q ∈ g, 0 ≤ q) : ∀ n, (∀ i, i < n → leastF g n ≤ foi (g.getD i 0)) ∧ leastF g n ≤ 9218868437227405312
  | 0 => ⟨fun i hi => absurd hi (Nat.not_lt_zero i), Nat.le_refl _⟩
  | n + 1 => by
    have ih := least_le g hg n
    have hm := minF_le (pos_least g n hg) (foi_at_pos hg n)
    refine ⟨fun i hi => ?_, Nat.le_trans hm.1 ih.2⟩
    rcases Nat.lt_or_ge i n with h | h
    · exact Nat.le_trans hm.1 (ih.1 i h)
    · obtain rfl : i = n := by omega
      exact hm.2.1
theorem le_least (g : List Int) (hg : ∀ q ∈ g, 0 ≤ q) (B : Nat) (hB : B ≤ 9218868437227405312) : ∀ n, (∀ i, i < n → B ≤ foi (g.getD i 0)) → B ≤ leastF g n
  | 0, _ => hB
  | n + 1, h => by
    have ih := le_least g hg B hB n (fun i hi => h i (by omega))
    rcases (minF_le (pos_least g n hg) (foi_at_pos hg n)).2.2 with e | e
    · show B ≤ minF _ _
      rw [e]; exact ih
    · show B ≤ minF _ _
      rw [e]; exact h n (by omega)
theorem least_sub {l L : List Int} (h : l.Sublist L) (hL : L.Pairwise (· ≤ ·)) : leastF (gaps L) (gaps L).length ≤ leastF (gaps l) (gaps l).length := by
  have hgL := gaps_pos L hL
  have hgl := gaps_pos l (hL.sublist h)
  have h1 := least_le (gaps L) hgL (gaps L).length
  refine le_least (gaps l) hgl _ h1.2 _ (fun i hi => ?_)
  have hm : (gaps l).getD i 0 ∈ gaps l := by rw [List.getD_eq_getElem?_getD, List.getElem?_eq_getElem hi]; exact List.getElem_mem hi
  obtain ⟨q', hq1, hq2⟩ := gaps_sub h hL _ hm
  obtain ⟨j, hj, e⟩ := List.getElem_of_mem hq1
  have h2 := h1.1 j hj
  rw [List.getD_eq_getElem?_getD, List.getElem?_eq_getElem hj, e] at h2
  exact Nat.le_trans h2 (foi_mono (hgL q' hq1) hq2)
theorem ord_pos {a b : Nat} (ha : Pos a) (hb : Pos b) (h : b ≤ a) : 0 ≤ ordF a b := by
  have ha' : a ≤ 9218868437227405312 := ha
  have hb' : b ≤ 9218868437227405312 := hb
  unfold ordF
  rw [ha.ky.2, hb.ky.2, if_neg (by decide), if_neg (by decide), ha.ky.1, hb.ky.1]
  have := rval_mono h ha
  rw [if_neg (by omega)]
  split
  · decide
  · have sa : signF a = 1 := by unfold signF minusF signBit; rw [decide_eq_false (by omega)]; simp
    have sb : signF b = 1 := by unfold signF minusF signBit; rw [decide_eq_false (by omega)]; simp
    rw [sa, sb]
    decide
end Go.Proofs.YtcbkgammlfjjoaaDoor
namespace Go.Proofs.YtcbkgammlfjjoaaDoor
set_option linter.unusedVariables false
set_option linter.unusedSimpArgs false
open Go.RowKit Go.Proofs.YtcbkgammlfjjoaaDoorW.PrintWords Go.Proofs.YtcbkgammlfjjoaaDoorW.PrintLast Go.Proofs.YtcbkgammlfjjoaaDoorW.PrintMore

def BadQ (x : WV) (a b : Int) : Prop := mayB x = false ∨ (mayB x = true ∧ decide (a < 0) = true) ∨ (mayB x = true ∧ decide (a < 0) = false ∧ decide (b < 0) = true) ∨ (mayB x = true ∧ decide (a < 0) = false ∧ decide (b < 0) = false ∧ decide (1152921504606846976 < a) = true) ∨ (mayB x = true ∧ decide (a < 0) = false ∧ decide (b < 0) = false ∧ decide (1152921504606846976 < a) = false ∧ decide (1152921504606846976 < b) = true)
def GoodQ (x : WV) (a b : Int) : Prop := mayB x = true ∧ 0 ≤ a ∧ 0 ≤ b ∧ a ≤ 1152921504606846976 ∧ b ≤ 1152921504606846976
theorem waysQ (x : WV) (a b : Int) : BadQ x a b ∨ GoodQ x a b := by
  cases h0 : mayB x
  · exact Or.inl (Or.inl h0)
  · by_cases h1 : a < 0
    · exact Or.inl (Or.inr (Or.inl ⟨h0, decide_eq_true h1⟩))
    · by_cases h2 : b < 0
      · exact Or.inl (Or.inr (Or.inr (Or.inl ⟨h0, decide_eq_false h1, decide_eq_true h2⟩)))
      · by_cases h3 : 1152921504606846976 < a
        · exact Or.inl (Or.inr (Or.inr (Or.inr (Or.inl ⟨h0, decide_eq_false h1, decide_eq_false h2, decide_eq_true h3⟩))))
        · by_cases h4 : 1152921504606846976 < b
          · exact Or.inl (Or.inr (Or.inr (Or.inr (Or.inr ⟨h0, decide_eq_false h1, decide_eq_false h2, decide_eq_false h3, decide_eq_true h4⟩))))
          · exact Or.inr ⟨h0, by omega, by omega, by omega, by omega⟩
set_option maxRecDepth 100000 in
set_option maxHeartbeats 4000000 in
theorem parts_bad (x : WV) (A0 : Option Addr) (c0 : Nat) (A1 : Option Addr) (c1 : Nat) (A2 : Option Addr) (c2 : Nat) (A3 : Option Addr) (c3 : Nat) (a b : Int) (w : World) (hI : WIn w x A0 c0 A1 c1 A2 c2 A3 c3) (hbad : BadQ x a b) :
    Calls Tryd.prog 12 #[wvV x A0 c0 A1 c1 A2 c2 A3 c3, .int .i64 a, .int .i64 b] w fun e w' => e = .returned (.bool true) ∧ Below w.heap.size w w' := by
  have HI := Lib.hid hI
  have HBad := Lib.hid hbad
  clear hI hbad
  have hsf := store_float
  go_enter Tryd.func12, Tryd.ntmps12
  go_upto_region 1 with fail
  obtain ⟨W, hW⟩ : ∃ W, w.alloc (Obj.cells #[Value.slice A0 x.nm.length c0, Value.slice A1 x.wd.length c1, Value.slice A2 x.fi.length c2, Value.slice A3 x.li.length c3] 26) = W := ⟨_, rfl⟩
  rw [hW]
  obtain ⟨hx, hb⟩ := bx_alloc w x A0 c0 A1 c1 A2 c2 A3 c3 hW
  have HB := Lib.hid hb
  have HX := Lib.hid hx
  clear hb hx hW
  have a0 := HX.out.k0
  have a1 := HX.out.k1
  have a2 := HX.out.k2
  have a3 := HX.out.k3
  go_wp2_with fail
  clear a0 a1 a2 a3
  refine (mayR_any x A0 c0 A1 c1 A2 c2 A3 c3 W (HI.out.below HB.out)).mono ?_
  rintro e w3 ⟨rfl, hb⟩
  have HB3 := Lib.hid (HB.out.trans (hb.mono HB.out.size))
  clear hb
  rcases HBad.out with h | ⟨h, h1⟩ | ⟨h, h1, h2⟩ | ⟨h, h1, h2, h3⟩ | ⟨h, h1, h2, h3, h4⟩
  all_goals
    rw [h]
    clear h
    go_wp2_with fail
    refine (awakeS_any _).mono ?_
    rintro e w4 ⟨rfl, hb⟩
    have HB4 := Lib.hid (HB3.out.trans (hb.mono HB3.out.size))
    clear hb
    go_wp2_with fail
    go_ret
    exact ⟨rfl, HB4.out⟩
set_option maxRecDepth 100000 in
set_option maxHeartbeats 4000000 in
theorem parts_good (x : WV) (A0 : Option Addr) (c0 : Nat) (A1 : Option Addr) (c1 : Nat) (A2 : Option Addr) (c2 : Nat) (A3 : Option Addr) (c3 : Nat) (a b : Int) (w : World) (hI : WIn w x A0 c0 A1 c1 A2 c2 A3 c3) (hgood : GoodQ x a b) :
    Calls Tryd.prog 12 #[wvV x A0 c0 A1 c1 A2 c2 A3 c3, .int .i64 a, .int .i64 b] w fun e w' => e = .returned (.bool true) ∧ Below w.heap.size w w' := by
  have HI := Lib.hid hI
  have HG := Lib.hid hgood
  have HM := Lib.hid ((may_iff x).1 hgood.1)
  have h1 : decide (a < 0) = false := decide_eq_false (by have := hgood.2.1; omega)
  have h2 : decide (b < 0) = false := decide_eq_false (by have := hgood.2.2.1; omega)
  have h3 : decide (1152921504606846976 < a) = false := decide_eq_false (by have := hgood.2.2.2.1; omega)
  have h4 : decide (1152921504606846976 < b) = false := decide_eq_false (by have := hgood.2.2.2.2; omega)
  clear hI hgood
  have hsf := store_float
  go_enter Tryd.func12, Tryd.ntmps12
  go_upto_region 1 with fail
  obtain ⟨W, hW⟩ : ∃ W, w.alloc (Obj.cells #[Value.slice A0 x.nm.length c0, Value.slice A1 x.wd.length c1, Value.slice A2 x.fi.length c2, Value.slice A3 x.li.length c3] 26) = W := ⟨_, rfl⟩
  rw [hW]
  obtain ⟨hx, hb⟩ := bx_alloc w x A0 c0 A1 c1 A2 c2 A3 c3 hW
  have HB := Lib.hid hb
  have HX := Lib.hid hx
  clear hb hx hW
  have a0 := HX.out.k0
  have a1 := HX.out.k1
  have a2 := HX.out.k2
  have a3 := HX.out.k3
  go_wp2_with fail
  clear a0 a1 a2 a3
  refine (mayR_any x A0 c0 A1 c1 A2 c2 A3 c3 W (HI.out.below HB.out)).mono ?_
  rintro e w3 ⟨rfl, hb⟩
  have HB3 := Lib.hid (HB.out.trans (hb.mono HB.out.size))
  have HX3 := Lib.hid (HX.out.below hb)
  clear hb
  rw [HG.out.1]
  have a0 := HX3.out.k0
  have a1 := HX3.out.k1
  have a2 := HX3.out.k2
  have a3 := HX3.out.k3
  go_wp2_with fail
  clear a0 a1 a2 a3
  refine (of_good x A0 c0 A1 c1 A2 c2 A3 c3 (-1) a w3 (HI.out.below HB3.out) HG.out.1 (by omega) (by omega) HG.out.2.1 (by have := HG.out.2.2.2.1; omega)).mono ?_
  rintro e w4 ⟨n, r, m, s, lo, hi, rfl, hb, hO⟩
  have HO := Lib.hid hO
  have HB4 := Lib.hid (HB3.out.trans (hb.mono HB3.out.size))
  have HX4 := Lib.hid (HX3.out.below hb)
  clear hb hO
  go_upto_region 4 with fail
  obtain ⟨W5, hW5⟩ : ∃ W, w4.alloc (.cells #[.int .i64 n, .float .f64 r, .float .f64 m, .float .f64 s, .float .f64 lo, .float .f64 hi] 44) = W := ⟨_, rfl⟩
  rw [hW5]
  obtain ⟨hs5, hb5⟩ := sx_alloc w4 n r m s lo hi 44 hW5
  have HB5 := Lib.hid (HB4.out.trans (hb5.mono HB4.out.size))
  have HX5 := Lib.hid (HX4.out.below hb5)
  have HS5 := Lib.hid hs5
  clear hs5 hb5 hW5
  go_upto_region 8 with fail
  go_loopw [9, 10] (fun v9 v10 wx => ∃ k : Nat, v10 = .int .i64 k ∧ k ≤ x.nm.length ∧ v9 = .int .i64 (cntN x a k) ∧ Hid (Below W5.heap.size W5 wx)) (fun _ v10 _ => x.nm.length - (intOf v10).toNat)
  case atStart => exact ⟨0, rfl, Nat.zero_le _, by rw [cntN_zero HM.out]; rfl, Lib.hid (Below.refl _ _)⟩
  case round =>
    obtain ⟨k, rfl, hk, rfl, HBx⟩ := hrel
    have HXx := Lib.hid (HX5.out.below HBx.out)
    have HSx := Lib.hid (HS5.out.below HBx.out)
    have HBy := Lib.hid (HB5.out.trans (HBx.out.mono HB5.out.size))
    have a0 := HXx.out.k0
    have hlb := HI.out.b3
    by_cases hlt : k < x.nm.length
    · have a1 := HXx.out.k1
      have a2 := HXx.out.k2
      have a3 := HXx.out.k3
      have hkn := HM.out.n
      have hkb : (k : Int) < 4096 := by omega
      have hc1 := cntN_le x a k
      go_upto_region 11 with (first | fail | (go_at_call 26; refine (of_good x A0 c0 A1 c1 A2 c2 A3 c3 (k : Int) a wr (HI.out.below HBy.out) HG.out.1 (by omega) (by omega) HG.out.2.1 (by have := HG.out.2.2.2.1; omega)).mono ?_; rintro e w6 ⟨n', r', m', s', lo', hi', rfl, hb, hO'⟩; have HO' := Lib.hid hO'; have HB6 := Lib.hid hb; clear hb hO' a0 a1 a2 a3))
      obtain ⟨W7, hW7⟩ : ∃ W, w6.alloc (.cells #[.int .i64 n', .float .f64 r', .float .f64 m', .float .f64 s', .float .f64 lo', .float .f64 hi'] 44) = W := ⟨_, rfl⟩
      rw [hW7]
      obtain ⟨hs7, hb7⟩ := sx_alloc w6 n' r' m' s' lo' hi' 44 hW7
      have HS7 := Lib.hid (HSx.out.below (HB6.out.trans (hb7.mono HB6.out.size)))
      have HBz := Lib.hid (HBx.out.trans ((HB6.out.trans (hb7.mono HB6.out.size)).mono HBx.out.size))
      have HQ7 := Lib.hid hs7
      clear hs7 hb7 hW7
      have hsub := tms_sub x k a
      have hsl := hsub.length_le
      have hcs := cntN_succ HM.out a k
      have hle := least_sub hsub (tms_pw HM.out (-1) a _)
      have hp1 := pos_least (gaps (tms x (-1) a x.li.length)) (gaps (tms x (-1) a x.li.length)).length (tms_gaps HM.out (-1) a _)
      have hp2 := pos_least (gaps (tms x k a x.li.length)) (gaps (tms x k a x.li.length)).length (tms_gaps HM.out k a _)
      rw [← HO.out.least] at hle hp1
      rw [← HO'.out.least] at hle hp2
      have hn1 := HO.out.n
      have hn2 := HO'.out.n
      have hc2 := cntN_le x a (k + 1)
      have hgt : decide (n < n') = false := decide_eq_false (by omega)
      have hadd : (cntN x a k : Int) + n' = (cntN x a (k + 1) : Int) := by omega
      have hup : (cntN x a (k + 1) : Int) ≤ 9223372036854775807 := by omega
      have hup0 : (0 : Int) ≤ (cntN x a (k + 1) : Int) := Int.natCast_nonneg _
      have hord := ord_pos hp2 hp1 hle
      have hp1' : lo < 18446744073709551616 := Nat.lt_of_le_of_lt hp1 (by decide)
      have hp2' : lo' < 18446744073709551616 := Nat.lt_of_le_of_lt hp2 (by decide)
      have horc := fun W => order_any lo' lo W hp2' hp1'
      obtain ⟨o, ho⟩ : ∃ o, ordF lo' lo = o := ⟨_, rfl⟩
      rw [ho] at hord horc
      have hol : decide (o < 0) = false := decide_eq_false (by omega)
      have HOr := Lib.hid horc
      have HAd := Lib.hid hadd
      have HUp := Lib.hid hup
      have HLt := Lib.hid hlt
      obtain ⟨p0, -, -, -, p4, -, -, -, -, -, -, -, hsz⟩ := HS7.out
      obtain ⟨k0, -, -, -, k4, -, -, -, -, -, -, -, hsz2⟩ := HQ7.out
      clear hsub hsl hcs hle hp1 hp2 hn1 hn2 hc2 hord hp1' hp2' horc ho hadd hup hup0 hc1 hkn
      go_upto_region 13 with (first | fail | (go_at_call 32; refine (HOr.out _).mono ?_; rintro e w8 ⟨rfl, hb⟩; have HB8 := Lib.hid (HBz.out.trans (hb.mono HBz.out.size)); have k0' := (hb.cell (p := ⟨w6.heap.size, 0, none⟩) hsz2).trans k0; clear hb))
      clear p0 p4 k0 k4
      have hw : IntKind.i64.wrap ((cntN x a k : Int) + n') = (cntN x a (k + 1) : Int) := by
        rw [HAd.out]
        exact IntWalk.i64_in _ ⟨Int.le_trans (by decide) (Int.natCast_nonneg _), HUp.out⟩
      go_wp2_with fail
      refine ⟨⟨k + 1, by simp, HLt.out, rfl, HB8⟩, ?_⟩
      have := HLt.out
      simp [intOf]
      omega
    · obtain rfl : k = x.nm.length := by omega
      have a1 := HXx.out.k1
      have a2 := HXx.out.k2
      have a3 := HXx.out.k3
      have g1 := HG.out.2.1
      have g2 := HG.out.2.2.1
      have g3 := HG.out.2.2.2.1
      have g4 := HG.out.2.2.2.2
      have hca := cntN_all HM.out a
      have hcn : (cntN x a x.nm.length : Int) = n := by rw [hca]; exact HO.out.n.symm
      rw [hcn]
      clear hca hcn
      go_upto_region 15 with (first | fail | (go_at_call 26; refine (of_good x A0 c0 A1 c1 A2 c2 A3 c3 (-1) (a + b) wr (HI.out.below HBy.out) HG.out.1 (by omega) (by omega) (by omega) (by omega)).mono ?_; rintro e w6 ⟨n', r', m', s', lo', hi', rfl, hb, hO'⟩; have HO' := Lib.hid hO'; have HB6 := Lib.hid hb; clear hb hO' a0 a1 a2 a3))
      obtain ⟨W7, hW7⟩ : ∃ W, w6.alloc (.cells #[.int .i64 n', .float .f64 r', .float .f64 m', .float .f64 s', .float .f64 lo', .float .f64 hi'] 44) = W := ⟨_, rfl⟩
      rw [hW7]
      obtain ⟨hs7, hb7⟩ := sx_alloc w6 n' r' m' s' lo' hi' 44 hW7
      have HS7 := Lib.hid (HSx.out.below (HB6.out.trans (hb7.mono HB6.out.size)))
      have HBz := Lib.hid (HBy.out.trans ((HB6.out.trans (hb7.mono HB6.out.size)).mono HBy.out.size))
      have HQ7 := Lib.hid hs7
      clear hs7 hb7 hW7
      have hmo := tms_more x (hor := a) (hor' := a + b) (by omega)
      have hn1 := HO.out.n
      have hn2 := HO'.out.n
      have hge : decide (n ≤ n') = true := decide_eq_true (by omega)
      obtain ⟨p0, -, -, -, -, -, -, -, -, -, -, -, hsz⟩ := HS7.out
      obtain ⟨k0, -, -, -, -, -, -, -, -, -, -, -, hsz2⟩ := HQ7.out
      clear hmo hn1 hn2
      go_wp2_with fail
      refine (awakeS_any _).mono ?_
      rintro e w9 ⟨rfl, hb⟩
      have HB9 := Lib.hid (HBz.out.trans (hb.mono HBz.out.size))
      clear hb
      go_wp2_with fail
      go_ret
      exact ⟨rfl, HB9.out⟩
theorem parts_any (x : WV) (A0 : Option Addr) (c0 : Nat) (A1 : Option Addr) (c1 : Nat) (A2 : Option Addr) (c2 : Nat) (A3 : Option Addr) (c3 : Nat) (a b : Int) (w : World) (hI : WIn w x A0 c0 A1 c1 A2 c2 A3 c3) (_ : (Lit.int .i64 a).wf = true) (_ : (Lit.int .i64 b).wf = true) :
    Calls Tryd.prog 12 #[wvV x A0 c0 A1 c1 A2 c2 A3 c3, .int .i64 a, .int .i64 b] w fun e w' => e = .returned (.bool true) ∧ Below w.heap.size w w' := by
  rcases waysQ x a b with h | h
  · exact parts_bad x A0 c0 A1 c1 A2 c2 A3 c3 a b w hI h
  · exact parts_good x A0 c0 A1 c1 A2 c2 A3 c3 a b w hI h
end Go.Proofs.YtcbkgammlfjjoaaDoor
