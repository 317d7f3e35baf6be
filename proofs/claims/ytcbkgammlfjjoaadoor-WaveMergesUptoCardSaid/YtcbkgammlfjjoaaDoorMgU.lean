/- WaveMerges: symmetric merging in place, walked. WaveMerges: symmetric merging in place, walked: one element on the right. WaveMerges: symmetric merging in place, walked: any ranges. -/
import Derived.Test.YtcbkgammlfjjoaaDoorMgR
namespace Go.Proofs.YtcbkgammlfjjoaaDoor
set_option linter.unusedVariables false
set_option linter.unusedSimpArgs false
open Go.RowKit Go.Proofs.YtcbkgammlfjjoaaDoorW.PrintWords Go.Proofs.YtcbkgammlfjjoaaDoorW.PrintLast Go.Proofs.YtcbkgammlfjjoaaDoorW.PrintMore

attribute [local irreducible] wpQuiet
set_option maxRecDepth 100000 in
set_option maxHeartbeats 4000000 in
theorem sym_left (B g cap a m b : Nat) (l : List S59) (w : World) (h : Rw w g l) (hB : B ≤ g) (ham : a < m) (hmb : m < b) (hb : b ≤ l.length) (hl : l.length ≤ 4398046511104) (h1 : m = a + 1) :
    Calls Tryd.prog 88 #[.slice (some ⟨g, 0, none⟩) l.length cap, .int .i64 a, .int .i64 m, .int .i64 b, fA] w (RwE B g l (Sym aheadB z59 a m b l) w) := by
  have HR := Lib.hid h
  have h2 : (m : Int) - (a : Int) = 1 := by omega
  have HM := Lib.hid h1
  clear h h1
  go_enter Tryd.func88, Tryd.ntmps88
  go_upto_region 3 with fail
  clear h2
  go_loopw [10, 11] (fun v10 v11 wx => ∃ i j : Nat, v10 = .int .i64 i ∧ v11 = .int .i64 j ∧ m ≤ i ∧ i ≤ j ∧ j ≤ b ∧ Hid (i = m ∨ aheadB (l.getD (i - 1) z59) (l.getD a z59) = true) ∧ Hid (j = b ∨ aheadB (l.getD j z59) (l.getD a z59) = false) ∧ Hid (Rw wx g l) ∧ Hid (Below B w wx)) (fun v10 v11 _ => (intOf v11).toNat - (intOf v10).toNat)
  case atStart => exact ⟨m, b, rfl, rfl, Nat.le_refl _, Nat.le_of_lt hmb, Nat.le_refl _, Lib.hid (Or.inl rfl), Lib.hid (Or.inl rfl), HR, Lib.hid (Below.refl _ _)⟩
  case round =>
    obtain ⟨i, j, rfl, rfl, hi, hij, hj, H1, H2, HRy, HBy⟩ := hrel
    by_cases hlt : i < j
    · obtain ⟨k, hk, hk1, hk2⟩ : ∃ k : Nat, (i + j) / 2 = k ∧ i ≤ k ∧ k < j := ⟨_, rfl, by omega, by omega⟩
      have hkI : (((i + j) / 2 : Nat) : Int) = (k : Int) := by rw [hk]
      have hkI2 : ((i : Int) + (j : Int)) / 2 = (k : Int) := by omega
      have hpl : k < l.length := by omega
      have hql : a < l.length := by omega
      have p0 := HRy.out.c0 k hpl
      have p1 := HRy.out.c1 k hpl
      have p2 := HRy.out.c2 k hpl
      have q0 := HRy.out.c0 a hql
      have q1 := HRy.out.c1 a hql
      have q2 := HRy.out.c2 a hql
      have hpI : ((k : Nat) : Int) < (l.length : Int) := by omega
      have hqI : ((a : Nat) : Int) < (l.length : Int) := by omega
      obtain ⟨cp, hcpE⟩ : ∃ cp, l.getD k z59 = cp := ⟨_, rfl⟩
      obtain ⟨cq, hcqE⟩ : ∃ cq, l.getD a z59 = cq := ⟨_, rfl⟩
      rw [hcpE] at p0 p1 p2
      rw [hcqE] at q0 q1 q2
      have hcmp := fun W => ahead_any cp cq W
      have hord := aheadI_lt cp cq
      have HCp := Lib.hid hcpE
      have HCq := Lib.hid hcqE
      clear hcpE hcqE
      obtain ⟨tp, np, vp⟩ := cp
      obtain ⟨tq, nq, vq⟩ := cq
      simp only at p0 p1 p2 q0 q1 q2 hcmp
      generalize aheadI ⟨tp, np, vp⟩ ⟨tq, nq, vq⟩ = o at hcmp hord
      have HCm := Lib.hid hcmp
      have HOr := Lib.hid hord
      clear hcmp hord
      have g0 : ∀ r : BelowBy wr, r.W.cell? ⟨g, k * 3, none⟩ = some (.int .i64 tp) := fun r => r.cell p0
      have g1 : ∀ r : BelowBy wr, r.W.cell? ⟨g, k * 3 + 1, none⟩ = some (.int .i64 np) := fun r => r.cell p1
      have g2 : ∀ r : BelowBy wr, r.W.cell? ⟨g, k * 3 + 2, none⟩ = some (.string vp) := fun r => r.cell p2
      have g3 : ∀ r : BelowBy wr, r.W.cell? ⟨g, a * 3, none⟩ = some (.int .i64 tq) := fun r => r.cell q0
      have g4 : ∀ r : BelowBy wr, r.W.cell? ⟨g, a * 3 + 1, none⟩ = some (.int .i64 nq) := fun r => r.cell q1
      have g5 : ∀ r : BelowBy wr, r.W.cell? ⟨g, a * 3 + 2, none⟩ = some (.string vq) := fun r => r.cell q2
      clear p0 p1 p2 q0 q1 q2
      go_upto_region 5 with fail
      clear hkI hkI2 hk
      cases hab2 : aheadB ⟨tp, np, vp⟩ ⟨tq, nq, vq⟩
      · have ho : decide (o < 0) = false := HOr.out.trans hab2
        refine region_below (by kernel_rfl) (by kernel_rfl) ?_
        repeat (quiet_step (with_reducible first | exact call_below _ (HCm.out _) | fail))
        refine wpQuiet_nil ?_
        rintro _ ⟨r, rfl⟩
        have HRr := Lib.hid (HRy.out.below r.h)
        have HBr := Lib.hid (HBy.out.trans (r.h.mono (Nat.le_trans hB (Nat.le_of_lt HRy.out.s))))
        clear g0 g1 g2 g3 g4 g5
        have HN := Lib.hid (show k = b ∨ aheadB (l.getD k z59) (l.getD a z59) = false from Or.inr (by rw [HCp.out, HCq.out]; exact hab2))
        clear hab2
        go_wp2_with fail
        refine ⟨⟨i, k, rfl, rfl, hi, hk1, by omega, H1, HN, HRr, HBr⟩, by simp [intOf]; omega⟩
      · have ho : decide (o < 0) = true := HOr.out.trans hab2
        refine region_below (by kernel_rfl) (by kernel_rfl) ?_
        repeat (quiet_step (with_reducible first | exact call_below _ (HCm.out _) | fail))
        refine wpQuiet_nil ?_
        rintro _ ⟨r, rfl⟩
        have HRr := Lib.hid (HRy.out.below r.h)
        have HBr := Lib.hid (HBy.out.trans (r.h.mono (Nat.le_trans hB (Nat.le_of_lt HRy.out.s))))
        clear g0 g1 g2 g3 g4 g5
        have HN := Lib.hid (show k + 1 = m ∨ aheadB (l.getD (k + 1 - 1) z59) (l.getD a z59) = true from Or.inr (by rw [Nat.add_sub_cancel, HCp.out, HCq.out]; exact hab2))
        clear hab2
        go_wp2_with fail
        refine ⟨⟨k + 1, j, by simp, rfl, by omega, by omega, hj, HN, H2, HRr, HBr⟩, by simp [intOf]; omega⟩
    · obtain rfl : i = j := by omega
      obtain ⟨im, him⟩ : ∃ im, i = im + 1 := ⟨i - 1, by omega⟩
      have him2 : (i : Int) - 1 = (im : Int) := by omega
      have hima : a ≤ im := by have := HM.out; omega
      have HIm := Lib.hid him
      have HRi := HRy
      have HBi := HBy
      have hiI : (im : Int) ≤ 4398046511104 := by omega
      clear him hlt HRy HBy
      go_wp2_with fail
      go_loopw [13] (fun v13 wx => ∃ n : Nat, v13 = .int .i64 ((a + n : Nat) : Int) ∧ a + n ≤ im ∧ Hid (Rw wx g (upS z59 l a n)) ∧ Hid (Below B w wx)) (fun v13 _ => im - (intOf v13).toNat)
      case atStart => exact ⟨0, rfl, hima, HRi, HBi⟩
      case round =>
        obtain ⟨n, rfl, hn, HRy, HBy⟩ := hrel
        obtain ⟨k, hk⟩ : ∃ k, a + n = k := ⟨_, rfl⟩
        have hul := upS_length z59 l a n
        have hus : upS z59 l a (n + 1) = sw z59 (upS z59 l a n) k (k + 1) := by rw [← hk]; rfl
        rw [hk]
        by_cases hlt : k < im
        · obtain ⟨k1, hk1⟩ : ∃ k1, k + 1 = k1 := ⟨_, rfl⟩
          have himl : im + 1 ≤ l.length := by have := HIm.out; omega
          have hkb : (k : Int) < 4398046511104 := by omega
          have ek : (k : Int) + 1 = (k1 : Int) := by omega
          have hww : IntKind.i64.wrap (k1 : Int) = (k1 : Int) := IntWalk.i64_in _ (by omega)
          have hw1 : IntKind.i64.wrap ((k : Int) + 1) = (k1 : Int) := by rw [ek]; exact hww
          rw [hk1] at hus
          have HUs := Lib.hid hus
          have HK := Lib.hid (show a + n = k ∧ k + 1 = k1 ∧ k < im from ⟨hk, hk1, hlt⟩)
          have hpl : k < (upS z59 l a n).length := by omega
          have hql : k1 < (upS z59 l a n).length := by omega
          have hpI : ((k : Nat) : Int) < (l.length : Int) := by omega
          have hqI : ((k1 : Nat) : Int) < (l.length : Int) := by omega
          have p0 := HRy.out.c0 k hpl
          have p1 := HRy.out.c1 k hpl
          have p2 := HRy.out.c2 k hpl
          have q0 := HRy.out.c0 k1 hql
          have q1 := HRy.out.c1 k1 hql
          have q2 := HRy.out.c2 k1 hql
          have e0 := HRy.out.f0 k hpl
          have e1 := HRy.out.f1 k hpl
          have e2 := HRy.out.f2 k hpl
          have e3 := HRy.out.f0 k1 hql
          have e4 := HRy.out.f1 k1 hql
          have e5 := HRy.out.f2 k1 hql
          have HSw := Lib.hid (HRy.out.sw hpl hql)
          obtain ⟨cp, hcpE⟩ : ∃ cp, (upS z59 l a n).getD k z59 = cp := ⟨_, rfl⟩
          obtain ⟨cq, hcqE⟩ : ∃ cq, (upS z59 l a n).getD k1 z59 = cq := ⟨_, rfl⟩
          rw [hcpE] at p0 p1 p2 HSw
          rw [hcqE] at q0 q1 q2 HSw
          clear hcpE hcqE
          obtain ⟨tp, np, vp⟩ := cp
          obtain ⟨tq, nq, vq⟩ := cq
          simp only at p0 p1 p2 q0 q1 q2
          have d0 : ¬ k1 = k := by omega
          have d1 : ¬ k = k1 := by omega
          have d2 : ¬ k1 * 3 = k * 3 + 1 := by omega
          have d3 : ¬ k1 * 3 = k * 3 + 2 := by omega
          have d4 : ¬ k1 * 3 + 1 = k * 3 := by omega
          have d5 : ¬ k1 * 3 + 1 = k * 3 + 2 := by omega
          have d6 : ¬ k1 * 3 + 2 = k * 3 := by omega
          have d7 : ¬ k1 * 3 + 2 = k * 3 + 1 := by omega
          clear hus ek hww hk1 hk
          go_upto_region 11 with fail
          go_region
          clear p0 p1 p2 q0 q1 q2 e0 e1 e2 e3 e4 e5 d0 d1 d2 d3 d4 d5 d6 d7
          clear hw1
          go_wp2_with fail
          refine ⟨⟨n + 1, by have := HK.out; simp; omega, by have := HK.out; omega, Lib.hid ?_, Lib.hid (below_setC hB (below_setC hB HBy.out)).drew⟩, by have := HK.out; simp [intOf]; omega⟩
          rw [HUs.out]
          exact HSw.out.below (Below.refl _ _).drew
        · have hf : Sym aheadB z59 a m b l (upS z59 l a n) := by
            have hm := HM.out
            have hi' := HIm.out
            rw [hm] at H1 ⊢
            have := Sym.left (lt := aheadB) (z := z59) (a := a) (b := b) (i := i) (l := l) (by omega) hj H1.out H2.out
            rwa [show i - 1 - a = n from by omega] at this
          have HF := Lib.hid hf
          clear hf hus
          go_wp2_with fail
          go_end0
          exact ⟨_, rfl, hul, HF.out, HRy.out, HBy.out⟩
end Go.Proofs.YtcbkgammlfjjoaaDoor
namespace Go.Proofs.YtcbkgammlfjjoaaDoor
set_option linter.unusedVariables false
set_option linter.unusedSimpArgs false
open Go.RowKit Go.Proofs.YtcbkgammlfjjoaaDoorW.PrintWords Go.Proofs.YtcbkgammlfjjoaaDoorW.PrintLast Go.Proofs.YtcbkgammlfjjoaaDoorW.PrintMore

attribute [local irreducible] wpQuiet
set_option maxRecDepth 100000 in
set_option maxHeartbeats 4000000 in
theorem sym_right (B g cap a m b : Nat) (l : List S59) (w : World) (h : Rw w g l) (hB : B ≤ g) (ham : a < m) (hmb : m < b) (hb : b ≤ l.length) (hl : l.length ≤ 4398046511104) (h1 : a + 1 < m) (h2 : b = m + 1) :
    Calls Tryd.prog 88 #[.slice (some ⟨g, 0, none⟩) l.length cap, .int .i64 a, .int .i64 m, .int .i64 b, fA] w (RwE B g l (Sym aheadB z59 a m b l) w) := by
  have HR := Lib.hid h
  have h3 : ((m : Int) - (a : Int) == 1) = false := beq_eq_false_iff_ne.2 (by omega)
  have h4 : (b : Int) - (m : Int) = 1 := by omega
  have HM := Lib.hid h2
  clear h h2
  go_enter Tryd.func88, Tryd.ntmps88
  go_upto_region 15 with fail
  clear h3 h4
  go_loopw [14, 15] (fun v14 v15 wx => ∃ i j : Nat, v14 = .int .i64 i ∧ v15 = .int .i64 j ∧ a ≤ i ∧ i ≤ j ∧ j ≤ m ∧ Hid (i = a ∨ aheadB (l.getD m z59) (l.getD (i - 1) z59) = false) ∧ Hid (j = m ∨ aheadB (l.getD m z59) (l.getD j z59) = true) ∧ Hid (Rw wx g l) ∧ Hid (Below B w wx)) (fun v14 v15 _ => (intOf v15).toNat - (intOf v14).toNat)
  case atStart => exact ⟨a, m, rfl, rfl, Nat.le_refl _, Nat.le_of_lt ham, Nat.le_refl _, Lib.hid (Or.inl rfl), Lib.hid (Or.inl rfl), HR, Lib.hid (Below.refl _ _)⟩
  case round =>
    obtain ⟨i, j, rfl, rfl, hi, hij, hj, H1, H2, HRy, HBy⟩ := hrel
    by_cases hlt : i < j
    · obtain ⟨k, hk, hk1, hk2⟩ : ∃ k : Nat, (i + j) / 2 = k ∧ i ≤ k ∧ k < j := ⟨_, rfl, by omega, by omega⟩
      have hkI : (((i + j) / 2 : Nat) : Int) = (k : Int) := by rw [hk]
      have hkI2 : ((i : Int) + (j : Int)) / 2 = (k : Int) := by omega
      have hpl : m < l.length := by omega
      have hql : k < l.length := by omega
      have p0 := HRy.out.c0 m hpl
      have p1 := HRy.out.c1 m hpl
      have p2 := HRy.out.c2 m hpl
      have q0 := HRy.out.c0 k hql
      have q1 := HRy.out.c1 k hql
      have q2 := HRy.out.c2 k hql
      have hpI : ((m : Nat) : Int) < (l.length : Int) := by omega
      have hqI : ((k : Nat) : Int) < (l.length : Int) := by omega
      obtain ⟨cp, hcpE⟩ : ∃ cp, l.getD m z59 = cp := ⟨_, rfl⟩
      obtain ⟨cq, hcqE⟩ : ∃ cq, l.getD k z59 = cq := ⟨_, rfl⟩
      rw [hcpE] at p0 p1 p2
      rw [hcqE] at q0 q1 q2
      have hcmp := fun W => ahead_any cp cq W
      have hord := aheadI_lt cp cq
      have HCp := Lib.hid hcpE
      have HCq := Lib.hid hcqE
      clear hcpE hcqE
      obtain ⟨tp, np, vp⟩ := cp
      obtain ⟨tq, nq, vq⟩ := cq
      simp only at p0 p1 p2 q0 q1 q2 hcmp
      generalize aheadI ⟨tp, np, vp⟩ ⟨tq, nq, vq⟩ = o at hcmp hord
      have HCm := Lib.hid hcmp
      have HOr := Lib.hid hord
      clear hcmp hord
      have g0 : ∀ r : BelowBy wr, r.W.cell? ⟨g, m * 3, none⟩ = some (.int .i64 tp) := fun r => r.cell p0
      have g1 : ∀ r : BelowBy wr, r.W.cell? ⟨g, m * 3 + 1, none⟩ = some (.int .i64 np) := fun r => r.cell p1
      have g2 : ∀ r : BelowBy wr, r.W.cell? ⟨g, m * 3 + 2, none⟩ = some (.string vp) := fun r => r.cell p2
      have g3 : ∀ r : BelowBy wr, r.W.cell? ⟨g, k * 3, none⟩ = some (.int .i64 tq) := fun r => r.cell q0
      have g4 : ∀ r : BelowBy wr, r.W.cell? ⟨g, k * 3 + 1, none⟩ = some (.int .i64 nq) := fun r => r.cell q1
      have g5 : ∀ r : BelowBy wr, r.W.cell? ⟨g, k * 3 + 2, none⟩ = some (.string vq) := fun r => r.cell q2
      clear p0 p1 p2 q0 q1 q2
      go_upto_region 17 with fail
      clear hkI hkI2 hk
      cases hab2 : aheadB ⟨tp, np, vp⟩ ⟨tq, nq, vq⟩
      · have ho : decide (o < 0) = false := HOr.out.trans hab2
        refine region_below (by kernel_rfl) (by kernel_rfl) ?_
        repeat (quiet_step (with_reducible first | exact call_below _ (HCm.out _) | fail))
        refine wpQuiet_nil ?_
        rintro _ ⟨r, rfl⟩
        have HRr := Lib.hid (HRy.out.below r.h)
        have HBr := Lib.hid (HBy.out.trans (r.h.mono (Nat.le_trans hB (Nat.le_of_lt HRy.out.s))))
        clear g0 g1 g2 g3 g4 g5
        have HN := Lib.hid (show k + 1 = a ∨ aheadB (l.getD m z59) (l.getD (k + 1 - 1) z59) = false from Or.inr (by rw [Nat.add_sub_cancel, HCp.out, HCq.out]; exact hab2))
        clear hab2
        go_wp2_with fail
        refine ⟨⟨k + 1, j, by simp, rfl, by omega, by omega, hj, HN, H2, HRr, HBr⟩, by simp [intOf]; omega⟩
      · have ho : decide (o < 0) = true := HOr.out.trans hab2
        refine region_below (by kernel_rfl) (by kernel_rfl) ?_
        repeat (quiet_step (with_reducible first | exact call_below _ (HCm.out _) | fail))
        refine wpQuiet_nil ?_
        rintro _ ⟨r, rfl⟩
        have HRr := Lib.hid (HRy.out.below r.h)
        have HBr := Lib.hid (HBy.out.trans (r.h.mono (Nat.le_trans hB (Nat.le_of_lt HRy.out.s))))
        clear g0 g1 g2 g3 g4 g5
        have HN := Lib.hid (show k = m ∨ aheadB (l.getD m z59) (l.getD k z59) = true from Or.inr (by rw [HCp.out, HCq.out]; exact hab2))
        clear hab2
        go_wp2_with fail
        refine ⟨⟨i, k, rfl, rfl, hi, hk1, by omega, H1, HN, HRr, HBr⟩, by simp [intOf]; omega⟩
    · obtain rfl : i = j := by omega
      have HRi := HRy
      have HBi := HBy
      clear hlt HRy HBy
      go_wp2_with fail
      go_loopw [17] (fun v17 wx => ∃ n : Nat, v17 = .int .i64 ((m - n : Nat) : Int) ∧ i + n ≤ m ∧ Hid (Rw wx g (dnS z59 l m n)) ∧ Hid (Below B w wx)) (fun v17 _ => (intOf v17).toNat - i)
      case atStart => exact ⟨0, rfl, hj, HRi, HBi⟩
      case round =>
        obtain ⟨n, rfl, hn, HRy, HBy⟩ := hrel
        obtain ⟨k, hk⟩ : ∃ k, m - n = k := ⟨_, rfl⟩
        have hul := dnS_length z59 l m n
        have hus : dnS z59 l m (n + 1) = sw z59 (dnS z59 l m n) k (k - 1) := by rw [← hk]; rfl
        rw [hk]
        by_cases hlt : i < k
        · obtain ⟨k1, hk1⟩ : ∃ k1, k - 1 = k1 := ⟨_, rfl⟩
          have hkk : k1 + 1 = k := by omega
          have hkb : (k : Int) < 4398046511104 := by omega
          have ek : (k : Int) - 1 = (k1 : Int) := by omega
          have hww : IntKind.i64.wrap (k1 : Int) = (k1 : Int) := IntWalk.i64_in _ (by omega)
          have hw1 : IntKind.i64.wrap ((k : Int) - 1) = (k1 : Int) := by rw [ek]; exact hww
          rw [hk1] at hus
          have HUs := Lib.hid hus
          have HK := Lib.hid (show m - n = k ∧ k1 + 1 = k ∧ i < k from ⟨hk, hkk, hlt⟩)
          have hpl : k < (dnS z59 l m n).length := by omega
          have hql : k1 < (dnS z59 l m n).length := by omega
          have hpI : ((k : Nat) : Int) < (l.length : Int) := by omega
          have hqI : ((k1 : Nat) : Int) < (l.length : Int) := by omega
          have p0 := HRy.out.c0 k hpl
          have p1 := HRy.out.c1 k hpl
          have p2 := HRy.out.c2 k hpl
          have q0 := HRy.out.c0 k1 hql
          have q1 := HRy.out.c1 k1 hql
          have q2 := HRy.out.c2 k1 hql
          have e0 := HRy.out.f0 k hpl
          have e1 := HRy.out.f1 k hpl
          have e2 := HRy.out.f2 k hpl
          have e3 := HRy.out.f0 k1 hql
          have e4 := HRy.out.f1 k1 hql
          have e5 := HRy.out.f2 k1 hql
          have HSw := Lib.hid (HRy.out.sw hpl hql)
          obtain ⟨cp, hcpE⟩ : ∃ cp, (dnS z59 l m n).getD k z59 = cp := ⟨_, rfl⟩
          obtain ⟨cq, hcqE⟩ : ∃ cq, (dnS z59 l m n).getD k1 z59 = cq := ⟨_, rfl⟩
          rw [hcpE] at p0 p1 p2 HSw
          rw [hcqE] at q0 q1 q2 HSw
          clear hcpE hcqE
          obtain ⟨tp, np, vp⟩ := cp
          obtain ⟨tq, nq, vq⟩ := cq
          simp only at p0 p1 p2 q0 q1 q2
          have d0 : ¬ k1 = k := by omega
          have d1 : ¬ k = k1 := by omega
          have d2 : ¬ k1 * 3 = k * 3 + 1 := by omega
          have d3 : ¬ k1 * 3 = k * 3 + 2 := by omega
          have d4 : ¬ k1 * 3 + 1 = k * 3 := by omega
          have d5 : ¬ k1 * 3 + 1 = k * 3 + 2 := by omega
          have d6 : ¬ k1 * 3 + 2 = k * 3 := by omega
          have d7 : ¬ k1 * 3 + 2 = k * 3 + 1 := by omega
          clear hus ek hww hk1 hk hkk
          go_upto_region 23 with fail
          go_region
          clear p0 p1 p2 q0 q1 q2 e0 e1 e2 e3 e4 e5 d0 d1 d2 d3 d4 d5 d6 d7
          clear hw1
          have ek : (k : Int) - 1 = (k1 : Int) := by have := HK.out; omega
          go_wp2_with fail
          refine ⟨⟨n + 1, by rw [show m - (n + 1) = k1 from by have := HK.out; omega], by have := HK.out; omega, Lib.hid ?_, Lib.hid (below_setC hB (below_setC hB HBy.out)).drew⟩, by have := HK.out; simp [intOf]; omega⟩
          rw [HUs.out]
          exact HSw.out.below (Below.refl _ _).drew
        · have hf : Sym aheadB z59 a m b l (dnS z59 l m n) := by
            rw [HM.out]
            have := Sym.right (lt := aheadB) (z := z59) (a := a) (m := m) (i := i) (l := l) hi hj H1.out H2.out
            rwa [show m - i = n from by omega] at this
          have HF := Lib.hid hf
          clear hf hus
          go_wp2_with fail
          go_end0
          exact ⟨_, rfl, hul, HF.out, HRy.out, HBy.out⟩
end Go.Proofs.YtcbkgammlfjjoaaDoor
namespace Go.Proofs.YtcbkgammlfjjoaaDoor
set_option linter.unusedVariables false
set_option linter.unusedSimpArgs false
open Go.RowKit Go.Proofs.YtcbkgammlfjjoaaDoorW.PrintWords Go.Proofs.YtcbkgammlfjjoaaDoorW.PrintLast Go.Proofs.YtcbkgammlfjjoaaDoorW.PrintMore

attribute [local irreducible] wpQuiet
set_option maxRecDepth 100000 in
set_option maxHeartbeats 16000000 in
theorem sym_gen (B g cap a m b : Nat) (l : List S59) (w : World) (h : Rw w g l) (hB : B ≤ g) (ham : a < m) (hmb : m < b) (hb : b ≤ l.length) (hl : l.length ≤ 4398046511104) (h1 : a + 1 < m) (h2 : m + 1 < b)
    (hrec : ∀ (a' m' b' : Nat) (l' : List S59) (W : World), b' - a' < b - a → Rw W g l' → a' < m' → m' < b' → b' ≤ l'.length → l'.length = l.length → Calls Tryd.prog 88 #[.slice (some ⟨g, 0, none⟩) l.length cap, .int .i64 a', .int .i64 m', .int .i64 b', fA] W (RwE B g l' (Sym aheadB z59 a' m' b' l') W)) :
    Calls Tryd.prog 88 #[.slice (some ⟨g, 0, none⟩) l.length cap, .int .i64 a, .int .i64 m, .int .i64 b, fA] w (RwE B g l (Sym aheadB z59 a m b l) w) := by
  have HR := Lib.hid h
  have HRec := Lib.hid hrec
  have h3 : ((m : Int) - (a : Int) == 1) = false := beq_eq_false_iff_ne.2 (by omega)
  have h4 : ((b : Int) - (m : Int) == 1) = false := beq_eq_false_iff_ne.2 (by omega)
  clear h hrec
  obtain ⟨mid, hmid⟩ : ∃ mid, (a + b) / 2 = mid := ⟨_, rfl⟩
  obtain ⟨nn, hnn⟩ : ∃ nn, mid + m = nn := ⟨_, rfl⟩
  have hmI : (((a + b) / 2 : Nat) : Int) = (mid : Int) := by rw [hmid]
  have hmI2 : ((a : Int) + (b : Int)) / 2 = (mid : Int) := by omega
  have hnI : (mid : Int) + (m : Int) = (nn : Int) := by omega
  obtain ⟨pp, hpp⟩ : ∃ pp, nn = pp + 1 := ⟨nn - 1, by omega⟩
  have hpI' : (nn : Int) - 1 = (pp : Int) := by omega
  have HMid := Lib.hid hmid
  have HPp := Lib.hid hpp
  have HNn := Lib.hid hnn
  have hmidb : mid < b ∧ a < mid := by omega
  have HMb := Lib.hid hmidb
  have hnb : (nn : Int) ≤ 8796093022208 := by omega
  clear hmid hnn hpp hmidb
  by_cases hgt : mid < m
  · have hd : decide ((mid : Int) < (m : Int)) = true := decide_eq_true (by omega)
    obtain ⟨lo, hlo⟩ : ∃ lo : Nat, mid + m - b = lo := ⟨_, rfl⟩
    have hlI : (nn : Int) - (b : Int) = (lo : Int) := by have := HNn.out; have := HMid.out; omega
    have HLo := Lib.hid (show m ≤ mid ∧ lo = a ∧ mid = m ∨ mid < m ∧ lo = mid + m - b ∧ mid = mid from Or.inr ⟨hgt, hlo.symm, rfl⟩)
    have HBn := Lib.hid (show lo ≤ mid ∧ a ≤ lo ∧ mid ≤ m ∧ mid ≤ mid ∧ nn ≤ b + lo ∧ m + mid ≤ nn ∧ nn ≤ 2 * b by have := HNn.out; have := HMid.out; omega)
    clear hlo
    go_enter Tryd.func88, Tryd.ntmps88
    go_upto_region 33 with fail
    clear hgt hd hlI h3 h4 hmI hmI2 hnI hpI'
    go_loopw [20, 21] (fun v20 v21 wx => ∃ s r : Nat, v20 = .int .i64 s ∧ v21 = .int .i64 r ∧ lo ≤ s ∧ s ≤ r ∧ r ≤ mid ∧ Hid (s = lo ∨ aheadB (l.getD (nn - s) z59) (l.getD (s - 1) z59) = false) ∧ Hid (r = mid ∨ aheadB (l.getD (nn - r - 1) z59) (l.getD r z59) = true) ∧ Hid (Rw wx g l) ∧ Hid (Below B w wx)) (fun v20 v21 _ => (intOf v21).toNat - (intOf v20).toNat)
    case atStart => exact ⟨lo, mid, rfl, rfl, Nat.le_refl _, HBn.out.1, Nat.le_refl _, Lib.hid (Or.inl rfl), Lib.hid (Or.inl rfl), HR, Lib.hid (Below.refl _ _)⟩
    case round =>
      obtain ⟨s, r, rfl, rfl, hs1, hs2, hs3, H1, H2, HRy, HBy⟩ := hrel
      by_cases hlt : s < r
      · obtain ⟨k, hk, hk1, hk2⟩ : ∃ k : Nat, (s + r) / 2 = k ∧ s ≤ k ∧ k < r := ⟨_, rfl, by omega, by omega⟩
        have hkI : (((s + r) / 2 : Nat) : Int) = (k : Int) := by rw [hk]
        have hkI2 : ((s : Int) + (r : Int)) / 2 = (k : Int) := by omega
        have hkb : k < m ∧ pp - k < b ∧ k ≤ pp := by have := HBn.out; have := HPp.out; omega
        obtain ⟨q, hq⟩ : ∃ q, pp - k = q := ⟨_, rfl⟩
        have hqI' : (pp : Int) - (k : Int) = (q : Int) := by omega
        have hww : IntKind.i64.wrap (q : Int) = (q : Int) := IntWalk.i64_in _ (by omega)
        have hw1 : IntKind.i64.wrap ((pp : Int) - (k : Int)) = (q : Int) := by rw [hqI']; exact hww
        have HQ := Lib.hid (show nn = q + k + 1 by have := HPp.out; omega)
        have HKb := Lib.hid (show s ≤ k ∧ k < r from ⟨hk1, hk2⟩)
        have hqb : q < b := by omega
        have hkm : k < b := by omega
        clear hww hqI' hq
        have hpl : q < l.length := by omega
        have hql : k < l.length := by omega
        have p0 := HRy.out.c0 q hpl
        have p1 := HRy.out.c1 q hpl
        have p2 := HRy.out.c2 q hpl
        have q0 := HRy.out.c0 k hql
        have q1 := HRy.out.c1 k hql
        have q2 := HRy.out.c2 k hql
        have hpI : ((q : Nat) : Int) < (l.length : Int) := by omega
        have hqI : ((k : Nat) : Int) < (l.length : Int) := by omega
        obtain ⟨cp, hcpE⟩ : ∃ cp, l.getD q z59 = cp := ⟨_, rfl⟩
        obtain ⟨cq, hcqE⟩ : ∃ cq, l.getD k z59 = cq := ⟨_, rfl⟩
        rw [hcpE] at p0 p1 p2
        rw [hcqE] at q0 q1 q2
        have hcmp := fun W => ahead_any cp cq W
        have hord := aheadI_lt cp cq
        have HCp := Lib.hid hcpE
        have HCq := Lib.hid hcqE
        clear hcpE hcqE
        obtain ⟨tp, np, vp⟩ := cp
        obtain ⟨tq, nq, vq⟩ := cq
        simp only at p0 p1 p2 q0 q1 q2 hcmp
        generalize aheadI ⟨tp, np, vp⟩ ⟨tq, nq, vq⟩ = o at hcmp hord
        have HCm := Lib.hid hcmp
        have HOr := Lib.hid hord
        clear hcmp hord
        have g0 : ∀ r : BelowBy wr, r.W.cell? ⟨g, q * 3, none⟩ = some (.int .i64 tp) := fun r => r.cell p0
        have g1 : ∀ r : BelowBy wr, r.W.cell? ⟨g, q * 3 + 1, none⟩ = some (.int .i64 np) := fun r => r.cell p1
        have g2 : ∀ r : BelowBy wr, r.W.cell? ⟨g, q * 3 + 2, none⟩ = some (.string vp) := fun r => r.cell p2
        have g3 : ∀ r : BelowBy wr, r.W.cell? ⟨g, k * 3, none⟩ = some (.int .i64 tq) := fun r => r.cell q0
        have g4 : ∀ r : BelowBy wr, r.W.cell? ⟨g, k * 3 + 1, none⟩ = some (.int .i64 nq) := fun r => r.cell q1
        have g5 : ∀ r : BelowBy wr, r.W.cell? ⟨g, k * 3 + 2, none⟩ = some (.string vq) := fun r => r.cell q2
        clear p0 p1 p2 q0 q1 q2
        go_upto_region 35 with fail
        clear hkI hkI2 hk
        cases hab2 : aheadB ⟨tp, np, vp⟩ ⟨tq, nq, vq⟩
        · have ho : decide (o < 0) = false := HOr.out.trans hab2
          refine region_below (by kernel_rfl) (by kernel_rfl) ?_
          repeat (quiet_step (with_reducible first | exact call_below _ (HCm.out _) | fail))
          refine wpQuiet_nil ?_
          rintro _ ⟨r5, rfl⟩
          have HRr := Lib.hid (HRy.out.below r5.h)
          have HBr := Lib.hid (HBy.out.trans (r5.h.mono (Nat.le_trans hB (Nat.le_of_lt HRy.out.s))))
          clear g0 g1 g2 g3 g4 g5
          have HN := Lib.hid (show k + 1 = lo ∨ aheadB (l.getD (nn - (k + 1)) z59) (l.getD (k + 1 - 1) z59) = false from Or.inr (by rw [Nat.add_sub_cancel, show nn - (k + 1) = q from by have := HQ.out; omega, HCp.out, HCq.out]; exact hab2))
          clear hab2 hw1
          go_wp2_with fail
          refine ⟨⟨k + 1, r, by simp, rfl, by omega, by omega, hs3, HN, H2, HRr, HBr⟩, by simp [intOf]; omega⟩
        · have ho : decide (o < 0) = true := HOr.out.trans hab2
          refine region_below (by kernel_rfl) (by kernel_rfl) ?_
          repeat (quiet_step (with_reducible first | exact call_below _ (HCm.out _) | fail))
          refine wpQuiet_nil ?_
          rintro _ ⟨r5, rfl⟩
          have HRr := Lib.hid (HRy.out.below r5.h)
          have HBr := Lib.hid (HBy.out.trans (r5.h.mono (Nat.le_trans hB (Nat.le_of_lt HRy.out.s))))
          clear g0 g1 g2 g3 g4 g5
          have HN := Lib.hid (show k = mid ∨ aheadB (l.getD (nn - k - 1) z59) (l.getD k z59) = true from Or.inr (by rw [show nn - k - 1 = q from by have := HQ.out; omega, HCp.out, HCq.out]; exact hab2))
          clear hab2 hw1
          go_wp2_with fail
          refine ⟨⟨s, k, rfl, rfl, hs1, hk1, by omega, H1, HN, HRr, HBr⟩, by simp [intOf]; omega⟩
      · obtain rfl : s = r := by omega
        obtain ⟨e, he⟩ : ∃ e, nn - s = e := ⟨_, rfl⟩
        have hse : s ≤ m ∧ m ≤ e ∧ e ≤ b ∧ a ≤ s := by have := HBn.out; omega
        obtain ⟨hsm, hme, heb, has⟩ := hse
        have heI : (nn : Int) - (s : Int) = (e : Int) := by have := HBn.out; omega
        have HG := Lib.hid (show lo ≤ s ∧ s ≤ mid ∧ e = mid + m - s ∧ (s = lo ∨ aheadB (l.getD e z59) (l.getD (s - 1) z59) = false) ∧ (s = mid ∨ aheadB (l.getD (e - 1) z59) (l.getD s z59) = true) from ⟨hs1, hs3, by have := HNn.out; omega, by rw [← he]; exact H1.out, by rw [← he]; exact H2.out⟩)
        clear he hs1 hs2 hs3 hlt H1 H2
        go_upto_region 39 with fail
        clear heI
        rcases (show (s < m ∧ m < e) ∨ ¬ s < m ∨ (s < m ∧ ¬ m < e) by omega) with ⟨c11, c12⟩ | c11 | ⟨c11, c12⟩
        · have hc := fun W hW => rotate_any B g cap s m e l W hW hB c11 c12 (by omega) hl
          have hl1' := rotL_length l (a := s) (m := m) (b := e) (Nat.le_of_lt c11) (Nat.le_of_lt c12) (by omega)
          have hl1E' := Or.inl (b := ¬ (s < m ∧ m < e) ∧ rotL l s m e = l) (show s < m ∧ m < e ∧ rotL l s m e = rotL l s m e from ⟨c11, c12, rfl⟩)
          generalize hrt : rotL l s m e = l1 at *
          have HC9 := Lib.hid hc
          have hl1 := hl1'
          have HL1 := Lib.hid (show s < m ∧ m < e ∧ l1 = rotL l s m e ∨ ¬ (s < m ∧ m < e) ∧ l1 = l from Or.inl ⟨c11, c12, hrt.symm⟩)
          clear hc hl1' hl1E' hrt
          go_upto_region 41 with (first | fail | (go_at_call 93; refine (HC9.out _ HRy.out).mono ?_; rintro e9 w9 ⟨rfl, hR, hb9⟩; have HR1 := Lib.hid hR; have HB1 := Lib.hid (HBy.out.trans hb9); clear hR hb9))
          clear c11 c12
          rcases (show (a < s ∧ s < mid) ∨ ¬ a < s ∨ (a < s ∧ ¬ s < mid) by omega) with ⟨c31, c32⟩ | c31 | ⟨c31, c32⟩
          · have hc := fun W hW => HRec.out a s mid l1 W (by have := HMb.out; omega) hW c31 c32 (by rw [hl1]; have := HMb.out; omega) hl1
            have HC9 := Lib.hid hc
            clear hc
            go_upto_region 43 with (first | fail | (go_at_call 88; refine (HC9.out _ HR1.out).mono ?_; rintro e9 w9 ⟨l2, rfl, hlen, hS, hR, hb9⟩; have HR2 := Lib.hid hR; have HB2 := Lib.hid (HB1.out.trans hb9); have HS9 := Lib.hid hS; have hl9 := hlen.trans hl1; clear hlen hS hR hb9))
            have hl2 := hl9
            have HA := Lib.hid (show ¬ (a < s ∧ s < mid) → l2 = l1 from fun h => absurd ⟨c31, c32⟩ h)
            have HA2 := Lib.hid (show a < s ∧ s < mid → Sym aheadB z59 a s mid l1 l2 from fun _ => HS9.out)
            clear c31 c32 hl9 HS9
            rcases (show (mid < e ∧ e < b) ∨ ¬ mid < e ∨ (mid < e ∧ ¬ e < b) by omega) with ⟨c51, c52⟩ | c51 | ⟨c51, c52⟩
            · have hc := fun W hW => HRec.out mid e b l2 W (by have := HMb.out; omega) hW c51 c52 (by rw [hl2]; exact hb) hl2
              have HC9 := Lib.hid hc
              clear hc
              go_wp2_with (first | fail | (go_at_call 88; refine (HC9.out _ HR2.out).mono ?_; rintro e9 w9 ⟨l3, rfl, hlen, hS, hR, hb9⟩; have HR3 := Lib.hid hR; have HB3 := Lib.hid (HB2.out.trans hb9); have HS9 := Lib.hid hS; have hl9 := hlen.trans hl2; clear hlen hS hR hb9))
              have hl3 := hl9
              have HC := Lib.hid (show ¬ (mid < e ∧ e < b) → l3 = l2 from fun h => absurd ⟨c51, c52⟩ h)
              have HC2 := Lib.hid (show mid < e ∧ e < b → Sym aheadB z59 mid e b l2 l3 from fun _ => HS9.out)
              go_end0
              exact ⟨l3, rfl, hl3, Sym.gen (mid := mid) (lo := lo) (hi := mid) (s := s) (e := e) HMid.out.symm (by have h := HLo.out; simpa using h) HG.out.1 HG.out.2.1 HG.out.2.2.1 HG.out.2.2.2.1 HG.out.2.2.2.2 HL1.out HA.out HA2.out HC.out HC2.out, HR3.out, HB3.out⟩
            · obtain ⟨l3, hl3E⟩ : ∃ l3, l3 = l2 := ⟨_, rfl⟩
              have HR3 := HR2
              have HB3 := HB2
              have hl3 := hl2
              rw [← hl3E] at HR3 hl3
              have HC := Lib.hid (show ¬ (mid < e ∧ e < b) → l3 = l2 from fun _ => hl3E)
              have HC2 := Lib.hid (show mid < e ∧ e < b → Sym aheadB z59 mid e b l2 l3 from fun h => absurd h (fun h => c51 h.1))
              clear hl3E
              go_wp2_with fail
              go_end0
              exact ⟨l3, rfl, hl3, Sym.gen (mid := mid) (lo := lo) (hi := mid) (s := s) (e := e) HMid.out.symm (by have h := HLo.out; simpa using h) HG.out.1 HG.out.2.1 HG.out.2.2.1 HG.out.2.2.2.1 HG.out.2.2.2.2 HL1.out HA.out HA2.out HC.out HC2.out, HR3.out, HB3.out⟩
            · obtain ⟨l3, hl3E⟩ : ∃ l3, l3 = l2 := ⟨_, rfl⟩
              have HR3 := HR2
              have HB3 := HB2
              have hl3 := hl2
              rw [← hl3E] at HR3 hl3
              have HC := Lib.hid (show ¬ (mid < e ∧ e < b) → l3 = l2 from fun _ => hl3E)
              have HC2 := Lib.hid (show mid < e ∧ e < b → Sym aheadB z59 mid e b l2 l3 from fun h => absurd h (fun h => c52 h.2))
              clear hl3E
              go_wp2_with fail
              go_end0
              exact ⟨l3, rfl, hl3, Sym.gen (mid := mid) (lo := lo) (hi := mid) (s := s) (e := e) HMid.out.symm (by have h := HLo.out; simpa using h) HG.out.1 HG.out.2.1 HG.out.2.2.1 HG.out.2.2.2.1 HG.out.2.2.2.2 HL1.out HA.out HA2.out HC.out HC2.out, HR3.out, HB3.out⟩
          · obtain ⟨l2, hl2E⟩ : ∃ l2, l2 = l1 := ⟨_, rfl⟩
            have HR2 := HR1
            have HB2 := HB1
            have hl2 := hl1
            rw [← hl2E] at HR2 hl2
            have HA := Lib.hid (show ¬ (a < s ∧ s < mid) → l2 = l1 from fun _ => hl2E)
            have HA2 := Lib.hid (show a < s ∧ s < mid → Sym aheadB z59 a s mid l1 l2 from fun h => absurd h (fun h => c31 h.1))
            clear hl2E
            go_upto_region 43 with fail
            rcases (show (mid < e ∧ e < b) ∨ ¬ mid < e ∨ (mid < e ∧ ¬ e < b) by omega) with ⟨c51, c52⟩ | c51 | ⟨c51, c52⟩
            · have hc := fun W hW => HRec.out mid e b l2 W (by have := HMb.out; omega) hW c51 c52 (by rw [hl2]; exact hb) hl2
              have HC9 := Lib.hid hc
              clear hc
              go_wp2_with (first | fail | (go_at_call 88; refine (HC9.out _ HR2.out).mono ?_; rintro e9 w9 ⟨l3, rfl, hlen, hS, hR, hb9⟩; have HR3 := Lib.hid hR; have HB3 := Lib.hid (HB2.out.trans hb9); have HS9 := Lib.hid hS; have hl9 := hlen.trans hl2; clear hlen hS hR hb9))
              have hl3 := hl9
              have HC := Lib.hid (show ¬ (mid < e ∧ e < b) → l3 = l2 from fun h => absurd ⟨c51, c52⟩ h)
              have HC2 := Lib.hid (show mid < e ∧ e < b → Sym aheadB z59 mid e b l2 l3 from fun _ => HS9.out)
              go_end0
              exact ⟨l3, rfl, hl3, Sym.gen (mid := mid) (lo := lo) (hi := mid) (s := s) (e := e) HMid.out.symm (by have h := HLo.out; simpa using h) HG.out.1 HG.out.2.1 HG.out.2.2.1 HG.out.2.2.2.1 HG.out.2.2.2.2 HL1.out HA.out HA2.out HC.out HC2.out, HR3.out, HB3.out⟩
            · obtain ⟨l3, hl3E⟩ : ∃ l3, l3 = l2 := ⟨_, rfl⟩
              have HR3 := HR2
              have HB3 := HB2
              have hl3 := hl2
              rw [← hl3E] at HR3 hl3
              have HC := Lib.hid (show ¬ (mid < e ∧ e < b) → l3 = l2 from fun _ => hl3E)
              have HC2 := Lib.hid (show mid < e ∧ e < b → Sym aheadB z59 mid e b l2 l3 from fun h => absurd h (fun h => c51 h.1))
              clear hl3E
              go_wp2_with fail
              go_end0
              exact ⟨l3, rfl, hl3, Sym.gen (mid := mid) (lo := lo) (hi := mid) (s := s) (e := e) HMid.out.symm (by have h := HLo.out; simpa using h) HG.out.1 HG.out.2.1 HG.out.2.2.1 HG.out.2.2.2.1 HG.out.2.2.2.2 HL1.out HA.out HA2.out HC.out HC2.out, HR3.out, HB3.out⟩
            · obtain ⟨l3, hl3E⟩ : ∃ l3, l3 = l2 := ⟨_, rfl⟩
              have HR3 := HR2
              have HB3 := HB2
              have hl3 := hl2
              rw [← hl3E] at HR3 hl3
              have HC := Lib.hid (show ¬ (mid < e ∧ e < b) → l3 = l2 from fun _ => hl3E)
              have HC2 := Lib.hid (show mid < e ∧ e < b → Sym aheadB z59 mid e b l2 l3 from fun h => absurd h (fun h => c52 h.2))
              clear hl3E
              go_wp2_with fail
              go_end0
              exact ⟨l3, rfl, hl3, Sym.gen (mid := mid) (lo := lo) (hi := mid) (s := s) (e := e) HMid.out.symm (by have h := HLo.out; simpa using h) HG.out.1 HG.out.2.1 HG.out.2.2.1 HG.out.2.2.2.1 HG.out.2.2.2.2 HL1.out HA.out HA2.out HC.out HC2.out, HR3.out, HB3.out⟩
          · obtain ⟨l2, hl2E⟩ : ∃ l2, l2 = l1 := ⟨_, rfl⟩
            have HR2 := HR1
            have HB2 := HB1
            have hl2 := hl1
            rw [← hl2E] at HR2 hl2
            have HA := Lib.hid (show ¬ (a < s ∧ s < mid) → l2 = l1 from fun _ => hl2E)
            have HA2 := Lib.hid (show a < s ∧ s < mid → Sym aheadB z59 a s mid l1 l2 from fun h => absurd h (fun h => c32 h.2))
            clear hl2E
            go_upto_region 43 with fail
            rcases (show (mid < e ∧ e < b) ∨ ¬ mid < e ∨ (mid < e ∧ ¬ e < b) by omega) with ⟨c51, c52⟩ | c51 | ⟨c51, c52⟩
            · have hc := fun W hW => HRec.out mid e b l2 W (by have := HMb.out; omega) hW c51 c52 (by rw [hl2]; exact hb) hl2
              have HC9 := Lib.hid hc
              clear hc
              go_wp2_with (first | fail | (go_at_call 88; refine (HC9.out _ HR2.out).mono ?_; rintro e9 w9 ⟨l3, rfl, hlen, hS, hR, hb9⟩; have HR3 := Lib.hid hR; have HB3 := Lib.hid (HB2.out.trans hb9); have HS9 := Lib.hid hS; have hl9 := hlen.trans hl2; clear hlen hS hR hb9))
              have hl3 := hl9
              have HC := Lib.hid (show ¬ (mid < e ∧ e < b) → l3 = l2 from fun h => absurd ⟨c51, c52⟩ h)
              have HC2 := Lib.hid (show mid < e ∧ e < b → Sym aheadB z59 mid e b l2 l3 from fun _ => HS9.out)
              go_end0
              exact ⟨l3, rfl, hl3, Sym.gen (mid := mid) (lo := lo) (hi := mid) (s := s) (e := e) HMid.out.symm (by have h := HLo.out; simpa using h) HG.out.1 HG.out.2.1 HG.out.2.2.1 HG.out.2.2.2.1 HG.out.2.2.2.2 HL1.out HA.out HA2.out HC.out HC2.out, HR3.out, HB3.out⟩
            · obtain ⟨l3, hl3E⟩ : ∃ l3, l3 = l2 := ⟨_, rfl⟩
              have HR3 := HR2
              have HB3 := HB2
              have hl3 := hl2
              rw [← hl3E] at HR3 hl3
              have HC := Lib.hid (show ¬ (mid < e ∧ e < b) → l3 = l2 from fun _ => hl3E)
              have HC2 := Lib.hid (show mid < e ∧ e < b → Sym aheadB z59 mid e b l2 l3 from fun h => absurd h (fun h => c51 h.1))
              clear hl3E
              go_wp2_with fail
              go_end0
              exact ⟨l3, rfl, hl3, Sym.gen (mid := mid) (lo := lo) (hi := mid) (s := s) (e := e) HMid.out.symm (by have h := HLo.out; simpa using h) HG.out.1 HG.out.2.1 HG.out.2.2.1 HG.out.2.2.2.1 HG.out.2.2.2.2 HL1.out HA.out HA2.out HC.out HC2.out, HR3.out, HB3.out⟩
            · obtain ⟨l3, hl3E⟩ : ∃ l3, l3 = l2 := ⟨_, rfl⟩
              have HR3 := HR2
              have HB3 := HB2
              have hl3 := hl2
              rw [← hl3E] at HR3 hl3
              have HC := Lib.hid (show ¬ (mid < e ∧ e < b) → l3 = l2 from fun _ => hl3E)
              have HC2 := Lib.hid (show mid < e ∧ e < b → Sym aheadB z59 mid e b l2 l3 from fun h => absurd h (fun h => c52 h.2))
              clear hl3E
              go_wp2_with fail
              go_end0
              exact ⟨l3, rfl, hl3, Sym.gen (mid := mid) (lo := lo) (hi := mid) (s := s) (e := e) HMid.out.symm (by have h := HLo.out; simpa using h) HG.out.1 HG.out.2.1 HG.out.2.2.1 HG.out.2.2.2.1 HG.out.2.2.2.2 HL1.out HA.out HA2.out HC.out HC2.out, HR3.out, HB3.out⟩
        · obtain ⟨l1, hl1E⟩ : ∃ l1, l1 = l := ⟨_, rfl⟩
          have HR1 := HRy
          have HB1 := HBy
          have hl1 : l1.length = l.length := by rw [hl1E]
          have HL1 := Lib.hid (show s < m ∧ m < e ∧ l1 = rotL l s m e ∨ ¬ (s < m ∧ m < e) ∧ l1 = l from Or.inr ⟨(fun h => c11 h.1), hl1E⟩)
          rw [← hl1E] at HR1
          clear hl1E
          go_upto_region 41 with fail
          rcases (show (a < s ∧ s < mid) ∨ ¬ a < s ∨ (a < s ∧ ¬ s < mid) by omega) with ⟨c31, c32⟩ | c31 | ⟨c31, c32⟩
          · have hc := fun W hW => HRec.out a s mid l1 W (by have := HMb.out; omega) hW c31 c32 (by rw [hl1]; have := HMb.out; omega) hl1
            have HC9 := Lib.hid hc
            clear hc
            go_upto_region 43 with (first | fail | (go_at_call 88; refine (HC9.out _ HR1.out).mono ?_; rintro e9 w9 ⟨l2, rfl, hlen, hS, hR, hb9⟩; have HR2 := Lib.hid hR; have HB2 := Lib.hid (HB1.out.trans hb9); have HS9 := Lib.hid hS; have hl9 := hlen.trans hl1; clear hlen hS hR hb9))
            have hl2 := hl9
            have HA := Lib.hid (show ¬ (a < s ∧ s < mid) → l2 = l1 from fun h => absurd ⟨c31, c32⟩ h)
            have HA2 := Lib.hid (show a < s ∧ s < mid → Sym aheadB z59 a s mid l1 l2 from fun _ => HS9.out)
            clear c31 c32 hl9 HS9
            rcases (show (mid < e ∧ e < b) ∨ ¬ mid < e ∨ (mid < e ∧ ¬ e < b) by omega) with ⟨c51, c52⟩ | c51 | ⟨c51, c52⟩
            · have hc := fun W hW => HRec.out mid e b l2 W (by have := HMb.out; omega) hW c51 c52 (by rw [hl2]; exact hb) hl2
              have HC9 := Lib.hid hc
              clear hc
              go_wp2_with (first | fail | (go_at_call 88; refine (HC9.out _ HR2.out).mono ?_; rintro e9 w9 ⟨l3, rfl, hlen, hS, hR, hb9⟩; have HR3 := Lib.hid hR; have HB3 := Lib.hid (HB2.out.trans hb9); have HS9 := Lib.hid hS; have hl9 := hlen.trans hl2; clear hlen hS hR hb9))
              have hl3 := hl9
              have HC := Lib.hid (show ¬ (mid < e ∧ e < b) → l3 = l2 from fun h => absurd ⟨c51, c52⟩ h)
              have HC2 := Lib.hid (show mid < e ∧ e < b → Sym aheadB z59 mid e b l2 l3 from fun _ => HS9.out)
              go_end0
              exact ⟨l3, rfl, hl3, Sym.gen (mid := mid) (lo := lo) (hi := mid) (s := s) (e := e) HMid.out.symm (by have h := HLo.out; simpa using h) HG.out.1 HG.out.2.1 HG.out.2.2.1 HG.out.2.2.2.1 HG.out.2.2.2.2 HL1.out HA.out HA2.out HC.out HC2.out, HR3.out, HB3.out⟩
            · obtain ⟨l3, hl3E⟩ : ∃ l3, l3 = l2 := ⟨_, rfl⟩
              have HR3 := HR2
              have HB3 := HB2
              have hl3 := hl2
              rw [← hl3E] at HR3 hl3
              have HC := Lib.hid (show ¬ (mid < e ∧ e < b) → l3 = l2 from fun _ => hl3E)
              have HC2 := Lib.hid (show mid < e ∧ e < b → Sym aheadB z59 mid e b l2 l3 from fun h => absurd h (fun h => c51 h.1))
              clear hl3E
              go_wp2_with fail
              go_end0
              exact ⟨l3, rfl, hl3, Sym.gen (mid := mid) (lo := lo) (hi := mid) (s := s) (e := e) HMid.out.symm (by have h := HLo.out; simpa using h) HG.out.1 HG.out.2.1 HG.out.2.2.1 HG.out.2.2.2.1 HG.out.2.2.2.2 HL1.out HA.out HA2.out HC.out HC2.out, HR3.out, HB3.out⟩
            · obtain ⟨l3, hl3E⟩ : ∃ l3, l3 = l2 := ⟨_, rfl⟩
              have HR3 := HR2
              have HB3 := HB2
              have hl3 := hl2
              rw [← hl3E] at HR3 hl3
              have HC := Lib.hid (show ¬ (mid < e ∧ e < b) → l3 = l2 from fun _ => hl3E)
              have HC2 := Lib.hid (show mid < e ∧ e < b → Sym aheadB z59 mid e b l2 l3 from fun h => absurd h (fun h => c52 h.2))
              clear hl3E
              go_wp2_with fail
              go_end0
              exact ⟨l3, rfl, hl3, Sym.gen (mid := mid) (lo := lo) (hi := mid) (s := s) (e := e) HMid.out.symm (by have h := HLo.out; simpa using h) HG.out.1 HG.out.2.1 HG.out.2.2.1 HG.out.2.2.2.1 HG.out.2.2.2.2 HL1.out HA.out HA2.out HC.out HC2.out, HR3.out, HB3.out⟩
          · obtain ⟨l2, hl2E⟩ : ∃ l2, l2 = l1 := ⟨_, rfl⟩
            have HR2 := HR1
            have HB2 := HB1
            have hl2 := hl1
            rw [← hl2E] at HR2 hl2
            have HA := Lib.hid (show ¬ (a < s ∧ s < mid) → l2 = l1 from fun _ => hl2E)
            have HA2 := Lib.hid (show a < s ∧ s < mid → Sym aheadB z59 a s mid l1 l2 from fun h => absurd h (fun h => c31 h.1))
            clear hl2E
            go_upto_region 43 with fail
            rcases (show (mid < e ∧ e < b) ∨ ¬ mid < e ∨ (mid < e ∧ ¬ e < b) by omega) with ⟨c51, c52⟩ | c51 | ⟨c51, c52⟩
            · have hc := fun W hW => HRec.out mid e b l2 W (by have := HMb.out; omega) hW c51 c52 (by rw [hl2]; exact hb) hl2
              have HC9 := Lib.hid hc
              clear hc
              go_wp2_with (first | fail | (go_at_call 88; refine (HC9.out _ HR2.out).mono ?_; rintro e9 w9 ⟨l3, rfl, hlen, hS, hR, hb9⟩; have HR3 := Lib.hid hR; have HB3 := Lib.hid (HB2.out.trans hb9); have HS9 := Lib.hid hS; have hl9 := hlen.trans hl2; clear hlen hS hR hb9))
              have hl3 := hl9
              have HC := Lib.hid (show ¬ (mid < e ∧ e < b) → l3 = l2 from fun h => absurd ⟨c51, c52⟩ h)
              have HC2 := Lib.hid (show mid < e ∧ e < b → Sym aheadB z59 mid e b l2 l3 from fun _ => HS9.out)
              go_end0
              exact ⟨l3, rfl, hl3, Sym.gen (mid := mid) (lo := lo) (hi := mid) (s := s) (e := e) HMid.out.symm (by have h := HLo.out; simpa using h) HG.out.1 HG.out.2.1 HG.out.2.2.1 HG.out.2.2.2.1 HG.out.2.2.2.2 HL1.out HA.out HA2.out HC.out HC2.out, HR3.out, HB3.out⟩
            · obtain ⟨l3, hl3E⟩ : ∃ l3, l3 = l2 := ⟨_, rfl⟩
              have HR3 := HR2
              have HB3 := HB2
              have hl3 := hl2
              rw [← hl3E] at HR3 hl3
              have HC := Lib.hid (show ¬ (mid < e ∧ e < b) → l3 = l2 from fun _ => hl3E)
              have HC2 := Lib.hid (show mid < e ∧ e < b → Sym aheadB z59 mid e b l2 l3 from fun h => absurd h (fun h => c51 h.1))
              clear hl3E
              go_wp2_with fail
              go_end0
              exact ⟨l3, rfl, hl3, Sym.gen (mid := mid) (lo := lo) (hi := mid) (s := s) (e := e) HMid.out.symm (by have h := HLo.out; simpa using h) HG.out.1 HG.out.2.1 HG.out.2.2.1 HG.out.2.2.2.1 HG.out.2.2.2.2 HL1.out HA.out HA2.out HC.out HC2.out, HR3.out, HB3.out⟩
            · obtain ⟨l3, hl3E⟩ : ∃ l3, l3 = l2 := ⟨_, rfl⟩
              have HR3 := HR2
              have HB3 := HB2
              have hl3 := hl2
              rw [← hl3E] at HR3 hl3
              have HC := Lib.hid (show ¬ (mid < e ∧ e < b) → l3 = l2 from fun _ => hl3E)
              have HC2 := Lib.hid (show mid < e ∧ e < b → Sym aheadB z59 mid e b l2 l3 from fun h => absurd h (fun h => c52 h.2))
              clear hl3E
              go_wp2_with fail
              go_end0
              exact ⟨l3, rfl, hl3, Sym.gen (mid := mid) (lo := lo) (hi := mid) (s := s) (e := e) HMid.out.symm (by have h := HLo.out; simpa using h) HG.out.1 HG.out.2.1 HG.out.2.2.1 HG.out.2.2.2.1 HG.out.2.2.2.2 HL1.out HA.out HA2.out HC.out HC2.out, HR3.out, HB3.out⟩
          · obtain ⟨l2, hl2E⟩ : ∃ l2, l2 = l1 := ⟨_, rfl⟩
            have HR2 := HR1
            have HB2 := HB1
            have hl2 := hl1
            rw [← hl2E] at HR2 hl2
            have HA := Lib.hid (show ¬ (a < s ∧ s < mid) → l2 = l1 from fun _ => hl2E)
            have HA2 := Lib.hid (show a < s ∧ s < mid → Sym aheadB z59 a s mid l1 l2 from fun h => absurd h (fun h => c32 h.2))
            clear hl2E
            go_upto_region 43 with fail
            rcases (show (mid < e ∧ e < b) ∨ ¬ mid < e ∨ (mid < e ∧ ¬ e < b) by omega) with ⟨c51, c52⟩ | c51 | ⟨c51, c52⟩
            · have hc := fun W hW => HRec.out mid e b l2 W (by have := HMb.out; omega) hW c51 c52 (by rw [hl2]; exact hb) hl2
              have HC9 := Lib.hid hc
              clear hc
              go_wp2_with (first | fail | (go_at_call 88; refine (HC9.out _ HR2.out).mono ?_; rintro e9 w9 ⟨l3, rfl, hlen, hS, hR, hb9⟩; have HR3 := Lib.hid hR; have HB3 := Lib.hid (HB2.out.trans hb9); have HS9 := Lib.hid hS; have hl9 := hlen.trans hl2; clear hlen hS hR hb9))
              have hl3 := hl9
              have HC := Lib.hid (show ¬ (mid < e ∧ e < b) → l3 = l2 from fun h => absurd ⟨c51, c52⟩ h)
              have HC2 := Lib.hid (show mid < e ∧ e < b → Sym aheadB z59 mid e b l2 l3 from fun _ => HS9.out)
              go_end0
              exact ⟨l3, rfl, hl3, Sym.gen (mid := mid) (lo := lo) (hi := mid) (s := s) (e := e) HMid.out.symm (by have h := HLo.out; simpa using h) HG.out.1 HG.out.2.1 HG.out.2.2.1 HG.out.2.2.2.1 HG.out.2.2.2.2 HL1.out HA.out HA2.out HC.out HC2.out, HR3.out, HB3.out⟩
            · obtain ⟨l3, hl3E⟩ : ∃ l3, l3 = l2 := ⟨_, rfl⟩
              have HR3 := HR2
              have HB3 := HB2
              have hl3 := hl2
              rw [← hl3E] at HR3 hl3
              have HC := Lib.hid (show ¬ (mid < e ∧ e < b) → l3 = l2 from fun _ => hl3E)
              have HC2 := Lib.hid (show mid < e ∧ e < b → Sym aheadB z59 mid e b l2 l3 from fun h => absurd h (fun h => c51 h.1))
              clear hl3E
              go_wp2_with fail
              go_end0
              exact ⟨l3, rfl, hl3, Sym.gen (mid := mid) (lo := lo) (hi := mid) (s := s) (e := e) HMid.out.symm (by have h := HLo.out; simpa using h) HG.out.1 HG.out.2.1 HG.out.2.2.1 HG.out.2.2.2.1 HG.out.2.2.2.2 HL1.out HA.out HA2.out HC.out HC2.out, HR3.out, HB3.out⟩
            · obtain ⟨l3, hl3E⟩ : ∃ l3, l3 = l2 := ⟨_, rfl⟩
              have HR3 := HR2
              have HB3 := HB2
              have hl3 := hl2
              rw [← hl3E] at HR3 hl3
              have HC := Lib.hid (show ¬ (mid < e ∧ e < b) → l3 = l2 from fun _ => hl3E)
              have HC2 := Lib.hid (show mid < e ∧ e < b → Sym aheadB z59 mid e b l2 l3 from fun h => absurd h (fun h => c52 h.2))
              clear hl3E
              go_wp2_with fail
              go_end0
              exact ⟨l3, rfl, hl3, Sym.gen (mid := mid) (lo := lo) (hi := mid) (s := s) (e := e) HMid.out.symm (by have h := HLo.out; simpa using h) HG.out.1 HG.out.2.1 HG.out.2.2.1 HG.out.2.2.2.1 HG.out.2.2.2.2 HL1.out HA.out HA2.out HC.out HC2.out, HR3.out, HB3.out⟩
        · obtain ⟨l1, hl1E⟩ : ∃ l1, l1 = l := ⟨_, rfl⟩
          have HR1 := HRy
          have HB1 := HBy
          have hl1 : l1.length = l.length := by rw [hl1E]
          have HL1 := Lib.hid (show s < m ∧ m < e ∧ l1 = rotL l s m e ∨ ¬ (s < m ∧ m < e) ∧ l1 = l from Or.inr ⟨(fun h => c12 h.2), hl1E⟩)
          rw [← hl1E] at HR1
          clear hl1E
          go_upto_region 41 with fail
          rcases (show (a < s ∧ s < mid) ∨ ¬ a < s ∨ (a < s ∧ ¬ s < mid) by omega) with ⟨c31, c32⟩ | c31 | ⟨c31, c32⟩
          · have hc := fun W hW => HRec.out a s mid l1 W (by have := HMb.out; omega) hW c31 c32 (by rw [hl1]; have := HMb.out; omega) hl1
            have HC9 := Lib.hid hc
            clear hc
            go_upto_region 43 with (first | fail | (go_at_call 88; refine (HC9.out _ HR1.out).mono ?_; rintro e9 w9 ⟨l2, rfl, hlen, hS, hR, hb9⟩; have HR2 := Lib.hid hR; have HB2 := Lib.hid (HB1.out.trans hb9); have HS9 := Lib.hid hS; have hl9 := hlen.trans hl1; clear hlen hS hR hb9))
            have hl2 := hl9
            have HA := Lib.hid (show ¬ (a < s ∧ s < mid) → l2 = l1 from fun h => absurd ⟨c31, c32⟩ h)
            have HA2 := Lib.hid (show a < s ∧ s < mid → Sym aheadB z59 a s mid l1 l2 from fun _ => HS9.out)
            clear c31 c32 hl9 HS9
            rcases (show (mid < e ∧ e < b) ∨ ¬ mid < e ∨ (mid < e ∧ ¬ e < b) by omega) with ⟨c51, c52⟩ | c51 | ⟨c51, c52⟩
            · have hc := fun W hW => HRec.out mid e b l2 W (by have := HMb.out; omega) hW c51 c52 (by rw [hl2]; exact hb) hl2
              have HC9 := Lib.hid hc
              clear hc
              go_wp2_with (first | fail | (go_at_call 88; refine (HC9.out _ HR2.out).mono ?_; rintro e9 w9 ⟨l3, rfl, hlen, hS, hR, hb9⟩; have HR3 := Lib.hid hR; have HB3 := Lib.hid (HB2.out.trans hb9); have HS9 := Lib.hid hS; have hl9 := hlen.trans hl2; clear hlen hS hR hb9))
              have hl3 := hl9
              have HC := Lib.hid (show ¬ (mid < e ∧ e < b) → l3 = l2 from fun h => absurd ⟨c51, c52⟩ h)
              have HC2 := Lib.hid (show mid < e ∧ e < b → Sym aheadB z59 mid e b l2 l3 from fun _ => HS9.out)
              go_end0
              exact ⟨l3, rfl, hl3, Sym.gen (mid := mid) (lo := lo) (hi := mid) (s := s) (e := e) HMid.out.symm (by have h := HLo.out; simpa using h) HG.out.1 HG.out.2.1 HG.out.2.2.1 HG.out.2.2.2.1 HG.out.2.2.2.2 HL1.out HA.out HA2.out HC.out HC2.out, HR3.out, HB3.out⟩
            · obtain ⟨l3, hl3E⟩ : ∃ l3, l3 = l2 := ⟨_, rfl⟩
              have HR3 := HR2
              have HB3 := HB2
              have hl3 := hl2
              rw [← hl3E] at HR3 hl3
              have HC := Lib.hid (show ¬ (mid < e ∧ e < b) → l3 = l2 from fun _ => hl3E)
              have HC2 := Lib.hid (show mid < e ∧ e < b → Sym aheadB z59 mid e b l2 l3 from fun h => absurd h (fun h => c51 h.1))
              clear hl3E
              go_wp2_with fail
              go_end0
              exact ⟨l3, rfl, hl3, Sym.gen (mid := mid) (lo := lo) (hi := mid) (s := s) (e := e) HMid.out.symm (by have h := HLo.out; simpa using h) HG.out.1 HG.out.2.1 HG.out.2.2.1 HG.out.2.2.2.1 HG.out.2.2.2.2 HL1.out HA.out HA2.out HC.out HC2.out, HR3.out, HB3.out⟩
            · obtain ⟨l3, hl3E⟩ : ∃ l3, l3 = l2 := ⟨_, rfl⟩
              have HR3 := HR2
              have HB3 := HB2
              have hl3 := hl2
              rw [← hl3E] at HR3 hl3
              have HC := Lib.hid (show ¬ (mid < e ∧ e < b) → l3 = l2 from fun _ => hl3E)
              have HC2 := Lib.hid (show mid < e ∧ e < b → Sym aheadB z59 mid e b l2 l3 from fun h => absurd h (fun h => c52 h.2))
              clear hl3E
              go_wp2_with fail
              go_end0
              exact ⟨l3, rfl, hl3, Sym.gen (mid := mid) (lo := lo) (hi := mid) (s := s) (e := e) HMid.out.symm (by have h := HLo.out; simpa using h) HG.out.1 HG.out.2.1 HG.out.2.2.1 HG.out.2.2.2.1 HG.out.2.2.2.2 HL1.out HA.out HA2.out HC.out HC2.out, HR3.out, HB3.out⟩
          · obtain ⟨l2, hl2E⟩ : ∃ l2, l2 = l1 := ⟨_, rfl⟩
            have HR2 := HR1
            have HB2 := HB1
            have hl2 := hl1
            rw [← hl2E] at HR2 hl2
            have HA := Lib.hid (show ¬ (a < s ∧ s < mid) → l2 = l1 from fun _ => hl2E)
            have HA2 := Lib.hid (show a < s ∧ s < mid → Sym aheadB z59 a s mid l1 l2 from fun h => absurd h (fun h => c31 h.1))
            clear hl2E
            go_upto_region 43 with fail
            rcases (show (mid < e ∧ e < b) ∨ ¬ mid < e ∨ (mid < e ∧ ¬ e < b) by omega) with ⟨c51, c52⟩ | c51 | ⟨c51, c52⟩
            · have hc := fun W hW => HRec.out mid e b l2 W (by have := HMb.out; omega) hW c51 c52 (by rw [hl2]; exact hb) hl2
              have HC9 := Lib.hid hc
              clear hc
              go_wp2_with (first | fail | (go_at_call 88; refine (HC9.out _ HR2.out).mono ?_; rintro e9 w9 ⟨l3, rfl, hlen, hS, hR, hb9⟩; have HR3 := Lib.hid hR; have HB3 := Lib.hid (HB2.out.trans hb9); have HS9 := Lib.hid hS; have hl9 := hlen.trans hl2; clear hlen hS hR hb9))
              have hl3 := hl9
              have HC := Lib.hid (show ¬ (mid < e ∧ e < b) → l3 = l2 from fun h => absurd ⟨c51, c52⟩ h)
              have HC2 := Lib.hid (show mid < e ∧ e < b → Sym aheadB z59 mid e b l2 l3 from fun _ => HS9.out)
              go_end0
              exact ⟨l3, rfl, hl3, Sym.gen (mid := mid) (lo := lo) (hi := mid) (s := s) (e := e) HMid.out.symm (by have h := HLo.out; simpa using h) HG.out.1 HG.out.2.1 HG.out.2.2.1 HG.out.2.2.2.1 HG.out.2.2.2.2 HL1.out HA.out HA2.out HC.out HC2.out, HR3.out, HB3.out⟩
            · obtain ⟨l3, hl3E⟩ : ∃ l3, l3 = l2 := ⟨_, rfl⟩
              have HR3 := HR2
              have HB3 := HB2
              have hl3 := hl2
              rw [← hl3E] at HR3 hl3
              have HC := Lib.hid (show ¬ (mid < e ∧ e < b) → l3 = l2 from fun _ => hl3E)
              have HC2 := Lib.hid (show mid < e ∧ e < b → Sym aheadB z59 mid e b l2 l3 from fun h => absurd h (fun h => c51 h.1))
              clear hl3E
              go_wp2_with fail
              go_end0
              exact ⟨l3, rfl, hl3, Sym.gen (mid := mid) (lo := lo) (hi := mid) (s := s) (e := e) HMid.out.symm (by have h := HLo.out; simpa using h) HG.out.1 HG.out.2.1 HG.out.2.2.1 HG.out.2.2.2.1 HG.out.2.2.2.2 HL1.out HA.out HA2.out HC.out HC2.out, HR3.out, HB3.out⟩
            · obtain ⟨l3, hl3E⟩ : ∃ l3, l3 = l2 := ⟨_, rfl⟩
              have HR3 := HR2
              have HB3 := HB2
              have hl3 := hl2
              rw [← hl3E] at HR3 hl3
              have HC := Lib.hid (show ¬ (mid < e ∧ e < b) → l3 = l2 from fun _ => hl3E)
              have HC2 := Lib.hid (show mid < e ∧ e < b → Sym aheadB z59 mid e b l2 l3 from fun h => absurd h (fun h => c52 h.2))
              clear hl3E
              go_wp2_with fail
              go_end0
              exact ⟨l3, rfl, hl3, Sym.gen (mid := mid) (lo := lo) (hi := mid) (s := s) (e := e) HMid.out.symm (by have h := HLo.out; simpa using h) HG.out.1 HG.out.2.1 HG.out.2.2.1 HG.out.2.2.2.1 HG.out.2.2.2.2 HL1.out HA.out HA2.out HC.out HC2.out, HR3.out, HB3.out⟩
          · obtain ⟨l2, hl2E⟩ : ∃ l2, l2 = l1 := ⟨_, rfl⟩
            have HR2 := HR1
            have HB2 := HB1
            have hl2 := hl1
            rw [← hl2E] at HR2 hl2
            have HA := Lib.hid (show ¬ (a < s ∧ s < mid) → l2 = l1 from fun _ => hl2E)
            have HA2 := Lib.hid (show a < s ∧ s < mid → Sym aheadB z59 a s mid l1 l2 from fun h => absurd h (fun h => c32 h.2))
            clear hl2E
            go_upto_region 43 with fail
            rcases (show (mid < e ∧ e < b) ∨ ¬ mid < e ∨ (mid < e ∧ ¬ e < b) by omega) with ⟨c51, c52⟩ | c51 | ⟨c51, c52⟩
            · have hc := fun W hW => HRec.out mid e b l2 W (by have := HMb.out; omega) hW c51 c52 (by rw [hl2]; exact hb) hl2
              have HC9 := Lib.hid hc
              clear hc
              go_wp2_with (first | fail | (go_at_call 88; refine (HC9.out _ HR2.out).mono ?_; rintro e9 w9 ⟨l3, rfl, hlen, hS, hR, hb9⟩; have HR3 := Lib.hid hR; have HB3 := Lib.hid (HB2.out.trans hb9); have HS9 := Lib.hid hS; have hl9 := hlen.trans hl2; clear hlen hS hR hb9))
              have hl3 := hl9
              have HC := Lib.hid (show ¬ (mid < e ∧ e < b) → l3 = l2 from fun h => absurd ⟨c51, c52⟩ h)
              have HC2 := Lib.hid (show mid < e ∧ e < b → Sym aheadB z59 mid e b l2 l3 from fun _ => HS9.out)
              go_end0
              exact ⟨l3, rfl, hl3, Sym.gen (mid := mid) (lo := lo) (hi := mid) (s := s) (e := e) HMid.out.symm (by have h := HLo.out; simpa using h) HG.out.1 HG.out.2.1 HG.out.2.2.1 HG.out.2.2.2.1 HG.out.2.2.2.2 HL1.out HA.out HA2.out HC.out HC2.out, HR3.out, HB3.out⟩
            · obtain ⟨l3, hl3E⟩ : ∃ l3, l3 = l2 := ⟨_, rfl⟩
              have HR3 := HR2
              have HB3 := HB2
              have hl3 := hl2
              rw [← hl3E] at HR3 hl3
              have HC := Lib.hid (show ¬ (mid < e ∧ e < b) → l3 = l2 from fun _ => hl3E)
              have HC2 := Lib.hid (show mid < e ∧ e < b → Sym aheadB z59 mid e b l2 l3 from fun h => absurd h (fun h => c51 h.1))
              clear hl3E
              go_wp2_with fail
              go_end0
              exact ⟨l3, rfl, hl3, Sym.gen (mid := mid) (lo := lo) (hi := mid) (s := s) (e := e) HMid.out.symm (by have h := HLo.out; simpa using h) HG.out.1 HG.out.2.1 HG.out.2.2.1 HG.out.2.2.2.1 HG.out.2.2.2.2 HL1.out HA.out HA2.out HC.out HC2.out, HR3.out, HB3.out⟩
            · obtain ⟨l3, hl3E⟩ : ∃ l3, l3 = l2 := ⟨_, rfl⟩
              have HR3 := HR2
              have HB3 := HB2
              have hl3 := hl2
              rw [← hl3E] at HR3 hl3
              have HC := Lib.hid (show ¬ (mid < e ∧ e < b) → l3 = l2 from fun _ => hl3E)
              have HC2 := Lib.hid (show mid < e ∧ e < b → Sym aheadB z59 mid e b l2 l3 from fun h => absurd h (fun h => c52 h.2))
              clear hl3E
              go_wp2_with fail
              go_end0
              exact ⟨l3, rfl, hl3, Sym.gen (mid := mid) (lo := lo) (hi := mid) (s := s) (e := e) HMid.out.symm (by have h := HLo.out; simpa using h) HG.out.1 HG.out.2.1 HG.out.2.2.1 HG.out.2.2.2.1 HG.out.2.2.2.2 HL1.out HA.out HA2.out HC.out HC2.out, HR3.out, HB3.out⟩
  · have hd : decide ((mid : Int) < (m : Int)) = false := decide_eq_false (by omega)
    have HLo := Lib.hid (show m ≤ mid ∧ a = a ∧ m = m ∨ mid < m ∧ a = mid + m - b ∧ m = mid from Or.inl ⟨by omega, rfl, rfl⟩)
    have HBn := Lib.hid (show a ≤ m ∧ a ≤ a ∧ m ≤ m ∧ m ≤ mid ∧ nn ≤ b + a ∧ m + m ≤ nn ∧ nn ≤ 2 * b by have := HNn.out; have := HMid.out; omega)
    go_enter Tryd.func88, Tryd.ntmps88
    go_upto_region 33 with fail
    clear hgt hd h3 h4 hmI hmI2 hnI hpI'
    go_loopw [20, 21] (fun v20 v21 wx => ∃ s r : Nat, v20 = .int .i64 s ∧ v21 = .int .i64 r ∧ a ≤ s ∧ s ≤ r ∧ r ≤ m ∧ Hid (s = a ∨ aheadB (l.getD (nn - s) z59) (l.getD (s - 1) z59) = false) ∧ Hid (r = m ∨ aheadB (l.getD (nn - r - 1) z59) (l.getD r z59) = true) ∧ Hid (Rw wx g l) ∧ Hid (Below B w wx)) (fun v20 v21 _ => (intOf v21).toNat - (intOf v20).toNat)
    case atStart => exact ⟨a, m, rfl, rfl, Nat.le_refl _, HBn.out.1, Nat.le_refl _, Lib.hid (Or.inl rfl), Lib.hid (Or.inl rfl), HR, Lib.hid (Below.refl _ _)⟩
    case round =>
      obtain ⟨s, r, rfl, rfl, hs1, hs2, hs3, H1, H2, HRy, HBy⟩ := hrel
      by_cases hlt : s < r
      · obtain ⟨k, hk, hk1, hk2⟩ : ∃ k : Nat, (s + r) / 2 = k ∧ s ≤ k ∧ k < r := ⟨_, rfl, by omega, by omega⟩
        have hkI : (((s + r) / 2 : Nat) : Int) = (k : Int) := by rw [hk]
        have hkI2 : ((s : Int) + (r : Int)) / 2 = (k : Int) := by omega
        have hkb : k < m ∧ pp - k < b ∧ k ≤ pp := by have := HBn.out; have := HPp.out; omega
        obtain ⟨q, hq⟩ : ∃ q, pp - k = q := ⟨_, rfl⟩
        have hqI' : (pp : Int) - (k : Int) = (q : Int) := by omega
        have hww : IntKind.i64.wrap (q : Int) = (q : Int) := IntWalk.i64_in _ (by omega)
        have hw1 : IntKind.i64.wrap ((pp : Int) - (k : Int)) = (q : Int) := by rw [hqI']; exact hww
        have HQ := Lib.hid (show nn = q + k + 1 by have := HPp.out; omega)
        have HKb := Lib.hid (show s ≤ k ∧ k < r from ⟨hk1, hk2⟩)
        have hqb : q < b := by omega
        have hkm : k < b := by omega
        clear hww hqI' hq
        have hpl : q < l.length := by omega
        have hql : k < l.length := by omega
        have p0 := HRy.out.c0 q hpl
        have p1 := HRy.out.c1 q hpl
        have p2 := HRy.out.c2 q hpl
        have q0 := HRy.out.c0 k hql
        have q1 := HRy.out.c1 k hql
        have q2 := HRy.out.c2 k hql
        have hpI : ((q : Nat) : Int) < (l.length : Int) := by omega
        have hqI : ((k : Nat) : Int) < (l.length : Int) := by omega
        obtain ⟨cp, hcpE⟩ : ∃ cp, l.getD q z59 = cp := ⟨_, rfl⟩
        obtain ⟨cq, hcqE⟩ : ∃ cq, l.getD k z59 = cq := ⟨_, rfl⟩
        rw [hcpE] at p0 p1 p2
        rw [hcqE] at q0 q1 q2
        have hcmp := fun W => ahead_any cp cq W
        have hord := aheadI_lt cp cq
        have HCp := Lib.hid hcpE
        have HCq := Lib.hid hcqE
        clear hcpE hcqE
        obtain ⟨tp, np, vp⟩ := cp
        obtain ⟨tq, nq, vq⟩ := cq
        simp only at p0 p1 p2 q0 q1 q2 hcmp
        generalize aheadI ⟨tp, np, vp⟩ ⟨tq, nq, vq⟩ = o at hcmp hord
        have HCm := Lib.hid hcmp
        have HOr := Lib.hid hord
        clear hcmp hord
        have g0 : ∀ r : BelowBy wr, r.W.cell? ⟨g, q * 3, none⟩ = some (.int .i64 tp) := fun r => r.cell p0
        have g1 : ∀ r : BelowBy wr, r.W.cell? ⟨g, q * 3 + 1, none⟩ = some (.int .i64 np) := fun r => r.cell p1
        have g2 : ∀ r : BelowBy wr, r.W.cell? ⟨g, q * 3 + 2, none⟩ = some (.string vp) := fun r => r.cell p2
        have g3 : ∀ r : BelowBy wr, r.W.cell? ⟨g, k * 3, none⟩ = some (.int .i64 tq) := fun r => r.cell q0
        have g4 : ∀ r : BelowBy wr, r.W.cell? ⟨g, k * 3 + 1, none⟩ = some (.int .i64 nq) := fun r => r.cell q1
        have g5 : ∀ r : BelowBy wr, r.W.cell? ⟨g, k * 3 + 2, none⟩ = some (.string vq) := fun r => r.cell q2
        clear p0 p1 p2 q0 q1 q2
        go_upto_region 35 with fail
        clear hkI hkI2 hk
        cases hab2 : aheadB ⟨tp, np, vp⟩ ⟨tq, nq, vq⟩
        · have ho : decide (o < 0) = false := HOr.out.trans hab2
          refine region_below (by kernel_rfl) (by kernel_rfl) ?_
          repeat (quiet_step (with_reducible first | exact call_below _ (HCm.out _) | fail))
          refine wpQuiet_nil ?_
          rintro _ ⟨r5, rfl⟩
          have HRr := Lib.hid (HRy.out.below r5.h)
          have HBr := Lib.hid (HBy.out.trans (r5.h.mono (Nat.le_trans hB (Nat.le_of_lt HRy.out.s))))
          clear g0 g1 g2 g3 g4 g5
          have HN := Lib.hid (show k + 1 = a ∨ aheadB (l.getD (nn - (k + 1)) z59) (l.getD (k + 1 - 1) z59) = false from Or.inr (by rw [Nat.add_sub_cancel, show nn - (k + 1) = q from by have := HQ.out; omega, HCp.out, HCq.out]; exact hab2))
          clear hab2 hw1
          go_wp2_with fail
          refine ⟨⟨k + 1, r, by simp, rfl, by omega, by omega, hs3, HN, H2, HRr, HBr⟩, by simp [intOf]; omega⟩
        · have ho : decide (o < 0) = true := HOr.out.trans hab2
          refine region_below (by kernel_rfl) (by kernel_rfl) ?_
          repeat (quiet_step (with_reducible first | exact call_below _ (HCm.out _) | fail))
          refine wpQuiet_nil ?_
          rintro _ ⟨r5, rfl⟩
          have HRr := Lib.hid (HRy.out.below r5.h)
          have HBr := Lib.hid (HBy.out.trans (r5.h.mono (Nat.le_trans hB (Nat.le_of_lt HRy.out.s))))
          clear g0 g1 g2 g3 g4 g5
          have HN := Lib.hid (show k = m ∨ aheadB (l.getD (nn - k - 1) z59) (l.getD k z59) = true from Or.inr (by rw [show nn - k - 1 = q from by have := HQ.out; omega, HCp.out, HCq.out]; exact hab2))
          clear hab2 hw1
          go_wp2_with fail
          refine ⟨⟨s, k, rfl, rfl, hs1, hk1, by omega, H1, HN, HRr, HBr⟩, by simp [intOf]; omega⟩
      · obtain rfl : s = r := by omega
        obtain ⟨e, he⟩ : ∃ e, nn - s = e := ⟨_, rfl⟩
        have hse : s ≤ m ∧ m ≤ e ∧ e ≤ b ∧ a ≤ s := by have := HBn.out; omega
        obtain ⟨hsm, hme, heb, has⟩ := hse
        have heI : (nn : Int) - (s : Int) = (e : Int) := by have := HBn.out; omega
        have HG := Lib.hid (show a ≤ s ∧ s ≤ m ∧ e = mid + m - s ∧ (s = a ∨ aheadB (l.getD e z59) (l.getD (s - 1) z59) = false) ∧ (s = m ∨ aheadB (l.getD (e - 1) z59) (l.getD s z59) = true) from ⟨hs1, hs3, by have := HNn.out; omega, by rw [← he]; exact H1.out, by rw [← he]; exact H2.out⟩)
        clear he hs1 hs2 hs3 hlt H1 H2
        go_upto_region 39 with fail
        clear heI
        rcases (show (s < m ∧ m < e) ∨ ¬ s < m ∨ (s < m ∧ ¬ m < e) by omega) with ⟨c11, c12⟩ | c11 | ⟨c11, c12⟩
        · have hc := fun W hW => rotate_any B g cap s m e l W hW hB c11 c12 (by omega) hl
          have hl1' := rotL_length l (a := s) (m := m) (b := e) (Nat.le_of_lt c11) (Nat.le_of_lt c12) (by omega)
          have hl1E' := Or.inl (b := ¬ (s < m ∧ m < e) ∧ rotL l s m e = l) (show s < m ∧ m < e ∧ rotL l s m e = rotL l s m e from ⟨c11, c12, rfl⟩)
          generalize hrt : rotL l s m e = l1 at *
          have HC9 := Lib.hid hc
          have hl1 := hl1'
          have HL1 := Lib.hid (show s < m ∧ m < e ∧ l1 = rotL l s m e ∨ ¬ (s < m ∧ m < e) ∧ l1 = l from Or.inl ⟨c11, c12, hrt.symm⟩)
          clear hc hl1' hl1E' hrt
          go_upto_region 41 with (first | fail | (go_at_call 93; refine (HC9.out _ HRy.out).mono ?_; rintro e9 w9 ⟨rfl, hR, hb9⟩; have HR1 := Lib.hid hR; have HB1 := Lib.hid (HBy.out.trans hb9); clear hR hb9))
          clear c11 c12
          rcases (show (a < s ∧ s < mid) ∨ ¬ a < s ∨ (a < s ∧ ¬ s < mid) by omega) with ⟨c31, c32⟩ | c31 | ⟨c31, c32⟩
          · have hc := fun W hW => HRec.out a s mid l1 W (by have := HMb.out; omega) hW c31 c32 (by rw [hl1]; have := HMb.out; omega) hl1
            have HC9 := Lib.hid hc
            clear hc
            go_upto_region 43 with (first | fail | (go_at_call 88; refine (HC9.out _ HR1.out).mono ?_; rintro e9 w9 ⟨l2, rfl, hlen, hS, hR, hb9⟩; have HR2 := Lib.hid hR; have HB2 := Lib.hid (HB1.out.trans hb9); have HS9 := Lib.hid hS; have hl9 := hlen.trans hl1; clear hlen hS hR hb9))
            have hl2 := hl9
            have HA := Lib.hid (show ¬ (a < s ∧ s < mid) → l2 = l1 from fun h => absurd ⟨c31, c32⟩ h)
            have HA2 := Lib.hid (show a < s ∧ s < mid → Sym aheadB z59 a s mid l1 l2 from fun _ => HS9.out)
            clear c31 c32 hl9 HS9
            rcases (show (mid < e ∧ e < b) ∨ ¬ mid < e ∨ (mid < e ∧ ¬ e < b) by omega) with ⟨c51, c52⟩ | c51 | ⟨c51, c52⟩
            · have hc := fun W hW => HRec.out mid e b l2 W (by have := HMb.out; omega) hW c51 c52 (by rw [hl2]; exact hb) hl2
              have HC9 := Lib.hid hc
              clear hc
              go_wp2_with (first | fail | (go_at_call 88; refine (HC9.out _ HR2.out).mono ?_; rintro e9 w9 ⟨l3, rfl, hlen, hS, hR, hb9⟩; have HR3 := Lib.hid hR; have HB3 := Lib.hid (HB2.out.trans hb9); have HS9 := Lib.hid hS; have hl9 := hlen.trans hl2; clear hlen hS hR hb9))
              have hl3 := hl9
              have HC := Lib.hid (show ¬ (mid < e ∧ e < b) → l3 = l2 from fun h => absurd ⟨c51, c52⟩ h)
              have HC2 := Lib.hid (show mid < e ∧ e < b → Sym aheadB z59 mid e b l2 l3 from fun _ => HS9.out)
              go_end0
              exact ⟨l3, rfl, hl3, Sym.gen (mid := mid) (lo := a) (hi := m) (s := s) (e := e) HMid.out.symm (by have h := HLo.out; simpa using h) HG.out.1 HG.out.2.1 HG.out.2.2.1 HG.out.2.2.2.1 HG.out.2.2.2.2 HL1.out HA.out HA2.out HC.out HC2.out, HR3.out, HB3.out⟩
            · obtain ⟨l3, hl3E⟩ : ∃ l3, l3 = l2 := ⟨_, rfl⟩
              have HR3 := HR2
              have HB3 := HB2
              have hl3 := hl2
              rw [← hl3E] at HR3 hl3
              have HC := Lib.hid (show ¬ (mid < e ∧ e < b) → l3 = l2 from fun _ => hl3E)
              have HC2 := Lib.hid (show mid < e ∧ e < b → Sym aheadB z59 mid e b l2 l3 from fun h => absurd h (fun h => c51 h.1))
              clear hl3E
              go_wp2_with fail
              go_end0
              exact ⟨l3, rfl, hl3, Sym.gen (mid := mid) (lo := a) (hi := m) (s := s) (e := e) HMid.out.symm (by have h := HLo.out; simpa using h) HG.out.1 HG.out.2.1 HG.out.2.2.1 HG.out.2.2.2.1 HG.out.2.2.2.2 HL1.out HA.out HA2.out HC.out HC2.out, HR3.out, HB3.out⟩
            · obtain ⟨l3, hl3E⟩ : ∃ l3, l3 = l2 := ⟨_, rfl⟩
              have HR3 := HR2
              have HB3 := HB2
              have hl3 := hl2
              rw [← hl3E] at HR3 hl3
              have HC := Lib.hid (show ¬ (mid < e ∧ e < b) → l3 = l2 from fun _ => hl3E)
              have HC2 := Lib.hid (show mid < e ∧ e < b → Sym aheadB z59 mid e b l2 l3 from fun h => absurd h (fun h => c52 h.2))
              clear hl3E
              go_wp2_with fail
              go_end0
              exact ⟨l3, rfl, hl3, Sym.gen (mid := mid) (lo := a) (hi := m) (s := s) (e := e) HMid.out.symm (by have h := HLo.out; simpa using h) HG.out.1 HG.out.2.1 HG.out.2.2.1 HG.out.2.2.2.1 HG.out.2.2.2.2 HL1.out HA.out HA2.out HC.out HC2.out, HR3.out, HB3.out⟩
          · obtain ⟨l2, hl2E⟩ : ∃ l2, l2 = l1 := ⟨_, rfl⟩
            have HR2 := HR1
            have HB2 := HB1
            have hl2 := hl1
            rw [← hl2E] at HR2 hl2
            have HA := Lib.hid (show ¬ (a < s ∧ s < mid) → l2 = l1 from fun _ => hl2E)
            have HA2 := Lib.hid (show a < s ∧ s < mid → Sym aheadB z59 a s mid l1 l2 from fun h => absurd h (fun h => c31 h.1))
            clear hl2E
            go_upto_region 43 with fail
            rcases (show (mid < e ∧ e < b) ∨ ¬ mid < e ∨ (mid < e ∧ ¬ e < b) by omega) with ⟨c51, c52⟩ | c51 | ⟨c51, c52⟩
            · have hc := fun W hW => HRec.out mid e b l2 W (by have := HMb.out; omega) hW c51 c52 (by rw [hl2]; exact hb) hl2
              have HC9 := Lib.hid hc
              clear hc
              go_wp2_with (first | fail | (go_at_call 88; refine (HC9.out _ HR2.out).mono ?_; rintro e9 w9 ⟨l3, rfl, hlen, hS, hR, hb9⟩; have HR3 := Lib.hid hR; have HB3 := Lib.hid (HB2.out.trans hb9); have HS9 := Lib.hid hS; have hl9 := hlen.trans hl2; clear hlen hS hR hb9))
              have hl3 := hl9
              have HC := Lib.hid (show ¬ (mid < e ∧ e < b) → l3 = l2 from fun h => absurd ⟨c51, c52⟩ h)
              have HC2 := Lib.hid (show mid < e ∧ e < b → Sym aheadB z59 mid e b l2 l3 from fun _ => HS9.out)
              go_end0
              exact ⟨l3, rfl, hl3, Sym.gen (mid := mid) (lo := a) (hi := m) (s := s) (e := e) HMid.out.symm (by have h := HLo.out; simpa using h) HG.out.1 HG.out.2.1 HG.out.2.2.1 HG.out.2.2.2.1 HG.out.2.2.2.2 HL1.out HA.out HA2.out HC.out HC2.out, HR3.out, HB3.out⟩
            · obtain ⟨l3, hl3E⟩ : ∃ l3, l3 = l2 := ⟨_, rfl⟩
              have HR3 := HR2
              have HB3 := HB2
              have hl3 := hl2
              rw [← hl3E] at HR3 hl3
              have HC := Lib.hid (show ¬ (mid < e ∧ e < b) → l3 = l2 from fun _ => hl3E)
              have HC2 := Lib.hid (show mid < e ∧ e < b → Sym aheadB z59 mid e b l2 l3 from fun h => absurd h (fun h => c51 h.1))
              clear hl3E
              go_wp2_with fail
              go_end0
              exact ⟨l3, rfl, hl3, Sym.gen (mid := mid) (lo := a) (hi := m) (s := s) (e := e) HMid.out.symm (by have h := HLo.out; simpa using h) HG.out.1 HG.out.2.1 HG.out.2.2.1 HG.out.2.2.2.1 HG.out.2.2.2.2 HL1.out HA.out HA2.out HC.out HC2.out, HR3.out, HB3.out⟩
            · obtain ⟨l3, hl3E⟩ : ∃ l3, l3 = l2 := ⟨_, rfl⟩
              have HR3 := HR2
              have HB3 := HB2
              have hl3 := hl2
              rw [← hl3E] at HR3 hl3
              have HC := Lib.hid (show ¬ (mid < e ∧ e < b) → l3 = l2 from fun _ => hl3E)
              have HC2 := Lib.hid (show mid < e ∧ e < b → Sym aheadB z59 mid e b l2 l3 from fun h => absurd h (fun h => c52 h.2))
              clear hl3E
              go_wp2_with fail
              go_end0
              exact ⟨l3, rfl, hl3, Sym.gen (mid := mid) (lo := a) (hi := m) (s := s) (e := e) HMid.out.symm (by have h := HLo.out; simpa using h) HG.out.1 HG.out.2.1 HG.out.2.2.1 HG.out.2.2.2.1 HG.out.2.2.2.2 HL1.out HA.out HA2.out HC.out HC2.out, HR3.out, HB3.out⟩
          · obtain ⟨l2, hl2E⟩ : ∃ l2, l2 = l1 := ⟨_, rfl⟩
            have HR2 := HR1
            have HB2 := HB1
            have hl2 := hl1
            rw [← hl2E] at HR2 hl2
            have HA := Lib.hid (show ¬ (a < s ∧ s < mid) → l2 = l1 from fun _ => hl2E)
            have HA2 := Lib.hid (show a < s ∧ s < mid → Sym aheadB z59 a s mid l1 l2 from fun h => absurd h (fun h => c32 h.2))
            clear hl2E
            go_upto_region 43 with fail
            rcases (show (mid < e ∧ e < b) ∨ ¬ mid < e ∨ (mid < e ∧ ¬ e < b) by omega) with ⟨c51, c52⟩ | c51 | ⟨c51, c52⟩
            · have hc := fun W hW => HRec.out mid e b l2 W (by have := HMb.out; omega) hW c51 c52 (by rw [hl2]; exact hb) hl2
              have HC9 := Lib.hid hc
              clear hc
              go_wp2_with (first | fail | (go_at_call 88; refine (HC9.out _ HR2.out).mono ?_; rintro e9 w9 ⟨l3, rfl, hlen, hS, hR, hb9⟩; have HR3 := Lib.hid hR; have HB3 := Lib.hid (HB2.out.trans hb9); have HS9 := Lib.hid hS; have hl9 := hlen.trans hl2; clear hlen hS hR hb9))
              have hl3 := hl9
              have HC := Lib.hid (show ¬ (mid < e ∧ e < b) → l3 = l2 from fun h => absurd ⟨c51, c52⟩ h)
              have HC2 := Lib.hid (show mid < e ∧ e < b → Sym aheadB z59 mid e b l2 l3 from fun _ => HS9.out)
              go_end0
              exact ⟨l3, rfl, hl3, Sym.gen (mid := mid) (lo := a) (hi := m) (s := s) (e := e) HMid.out.symm (by have h := HLo.out; simpa using h) HG.out.1 HG.out.2.1 HG.out.2.2.1 HG.out.2.2.2.1 HG.out.2.2.2.2 HL1.out HA.out HA2.out HC.out HC2.out, HR3.out, HB3.out⟩
            · obtain ⟨l3, hl3E⟩ : ∃ l3, l3 = l2 := ⟨_, rfl⟩
              have HR3 := HR2
              have HB3 := HB2
              have hl3 := hl2
              rw [← hl3E] at HR3 hl3
              have HC := Lib.hid (show ¬ (mid < e ∧ e < b) → l3 = l2 from fun _ => hl3E)
              have HC2 := Lib.hid (show mid < e ∧ e < b → Sym aheadB z59 mid e b l2 l3 from fun h => absurd h (fun h => c51 h.1))
              clear hl3E
              go_wp2_with fail
              go_end0
              exact ⟨l3, rfl, hl3, Sym.gen (mid := mid) (lo := a) (hi := m) (s := s) (e := e) HMid.out.symm (by have h := HLo.out; simpa using h) HG.out.1 HG.out.2.1 HG.out.2.2.1 HG.out.2.2.2.1 HG.out.2.2.2.2 HL1.out HA.out HA2.out HC.out HC2.out, HR3.out, HB3.out⟩
            · obtain ⟨l3, hl3E⟩ : ∃ l3, l3 = l2 := ⟨_, rfl⟩
              have HR3 := HR2
              have HB3 := HB2
              have hl3 := hl2
              rw [← hl3E] at HR3 hl3
              have HC := Lib.hid (show ¬ (mid < e ∧ e < b) → l3 = l2 from fun _ => hl3E)
              have HC2 := Lib.hid (show mid < e ∧ e < b → Sym aheadB z59 mid e b l2 l3 from fun h => absurd h (fun h => c52 h.2))
              clear hl3E
              go_wp2_with fail
              go_end0
              exact ⟨l3, rfl, hl3, Sym.gen (mid := mid) (lo := a) (hi := m) (s := s) (e := e) HMid.out.symm (by have h := HLo.out; simpa using h) HG.out.1 HG.out.2.1 HG.out.2.2.1 HG.out.2.2.2.1 HG.out.2.2.2.2 HL1.out HA.out HA2.out HC.out HC2.out, HR3.out, HB3.out⟩
        · obtain ⟨l1, hl1E⟩ : ∃ l1, l1 = l := ⟨_, rfl⟩
          have HR1 := HRy
          have HB1 := HBy
          have hl1 : l1.length = l.length := by rw [hl1E]
          have HL1 := Lib.hid (show s < m ∧ m < e ∧ l1 = rotL l s m e ∨ ¬ (s < m ∧ m < e) ∧ l1 = l from Or.inr ⟨(fun h => c11 h.1), hl1E⟩)
          rw [← hl1E] at HR1
          clear hl1E
          go_upto_region 41 with fail
          rcases (show (a < s ∧ s < mid) ∨ ¬ a < s ∨ (a < s ∧ ¬ s < mid) by omega) with ⟨c31, c32⟩ | c31 | ⟨c31, c32⟩
          · have hc := fun W hW => HRec.out a s mid l1 W (by have := HMb.out; omega) hW c31 c32 (by rw [hl1]; have := HMb.out; omega) hl1
            have HC9 := Lib.hid hc
            clear hc
            go_upto_region 43 with (first | fail | (go_at_call 88; refine (HC9.out _ HR1.out).mono ?_; rintro e9 w9 ⟨l2, rfl, hlen, hS, hR, hb9⟩; have HR2 := Lib.hid hR; have HB2 := Lib.hid (HB1.out.trans hb9); have HS9 := Lib.hid hS; have hl9 := hlen.trans hl1; clear hlen hS hR hb9))
            have hl2 := hl9
            have HA := Lib.hid (show ¬ (a < s ∧ s < mid) → l2 = l1 from fun h => absurd ⟨c31, c32⟩ h)
            have HA2 := Lib.hid (show a < s ∧ s < mid → Sym aheadB z59 a s mid l1 l2 from fun _ => HS9.out)
            clear c31 c32 hl9 HS9
            rcases (show (mid < e ∧ e < b) ∨ ¬ mid < e ∨ (mid < e ∧ ¬ e < b) by omega) with ⟨c51, c52⟩ | c51 | ⟨c51, c52⟩
            · have hc := fun W hW => HRec.out mid e b l2 W (by have := HMb.out; omega) hW c51 c52 (by rw [hl2]; exact hb) hl2
              have HC9 := Lib.hid hc
              clear hc
              go_wp2_with (first | fail | (go_at_call 88; refine (HC9.out _ HR2.out).mono ?_; rintro e9 w9 ⟨l3, rfl, hlen, hS, hR, hb9⟩; have HR3 := Lib.hid hR; have HB3 := Lib.hid (HB2.out.trans hb9); have HS9 := Lib.hid hS; have hl9 := hlen.trans hl2; clear hlen hS hR hb9))
              have hl3 := hl9
              have HC := Lib.hid (show ¬ (mid < e ∧ e < b) → l3 = l2 from fun h => absurd ⟨c51, c52⟩ h)
              have HC2 := Lib.hid (show mid < e ∧ e < b → Sym aheadB z59 mid e b l2 l3 from fun _ => HS9.out)
              go_end0
              exact ⟨l3, rfl, hl3, Sym.gen (mid := mid) (lo := a) (hi := m) (s := s) (e := e) HMid.out.symm (by have h := HLo.out; simpa using h) HG.out.1 HG.out.2.1 HG.out.2.2.1 HG.out.2.2.2.1 HG.out.2.2.2.2 HL1.out HA.out HA2.out HC.out HC2.out, HR3.out, HB3.out⟩
            · obtain ⟨l3, hl3E⟩ : ∃ l3, l3 = l2 := ⟨_, rfl⟩
              have HR3 := HR2
              have HB3 := HB2
              have hl3 := hl2
              rw [← hl3E] at HR3 hl3
              have HC := Lib.hid (show ¬ (mid < e ∧ e < b) → l3 = l2 from fun _ => hl3E)
              have HC2 := Lib.hid (show mid < e ∧ e < b → Sym aheadB z59 mid e b l2 l3 from fun h => absurd h (fun h => c51 h.1))
              clear hl3E
              go_wp2_with fail
              go_end0
              exact ⟨l3, rfl, hl3, Sym.gen (mid := mid) (lo := a) (hi := m) (s := s) (e := e) HMid.out.symm (by have h := HLo.out; simpa using h) HG.out.1 HG.out.2.1 HG.out.2.2.1 HG.out.2.2.2.1 HG.out.2.2.2.2 HL1.out HA.out HA2.out HC.out HC2.out, HR3.out, HB3.out⟩
            · obtain ⟨l3, hl3E⟩ : ∃ l3, l3 = l2 := ⟨_, rfl⟩
              have HR3 := HR2
              have HB3 := HB2
              have hl3 := hl2
              rw [← hl3E] at HR3 hl3
              have HC := Lib.hid (show ¬ (mid < e ∧ e < b) → l3 = l2 from fun _ => hl3E)
              have HC2 := Lib.hid (show mid < e ∧ e < b → Sym aheadB z59 mid e b l2 l3 from fun h => absurd h (fun h => c52 h.2))
              clear hl3E
              go_wp2_with fail
              go_end0
              exact ⟨l3, rfl, hl3, Sym.gen (mid := mid) (lo := a) (hi := m) (s := s) (e := e) HMid.out.symm (by have h := HLo.out; simpa using h) HG.out.1 HG.out.2.1 HG.out.2.2.1 HG.out.2.2.2.1 HG.out.2.2.2.2 HL1.out HA.out HA2.out HC.out HC2.out, HR3.out, HB3.out⟩
          · obtain ⟨l2, hl2E⟩ : ∃ l2, l2 = l1 := ⟨_, rfl⟩
            have HR2 := HR1
            have HB2 := HB1
            have hl2 := hl1
            rw [← hl2E] at HR2 hl2
            have HA := Lib.hid (show ¬ (a < s ∧ s < mid) → l2 = l1 from fun _ => hl2E)
            have HA2 := Lib.hid (show a < s ∧ s < mid → Sym aheadB z59 a s mid l1 l2 from fun h => absurd h (fun h => c31 h.1))
            clear hl2E
            go_upto_region 43 with fail
            rcases (show (mid < e ∧ e < b) ∨ ¬ mid < e ∨ (mid < e ∧ ¬ e < b) by omega) with ⟨c51, c52⟩ | c51 | ⟨c51, c52⟩
            · have hc := fun W hW => HRec.out mid e b l2 W (by have := HMb.out; omega) hW c51 c52 (by rw [hl2]; exact hb) hl2
              have HC9 := Lib.hid hc
              clear hc
              go_wp2_with (first | fail | (go_at_call 88; refine (HC9.out _ HR2.out).mono ?_; rintro e9 w9 ⟨l3, rfl, hlen, hS, hR, hb9⟩; have HR3 := Lib.hid hR; have HB3 := Lib.hid (HB2.out.trans hb9); have HS9 := Lib.hid hS; have hl9 := hlen.trans hl2; clear hlen hS hR hb9))
              have hl3 := hl9
              have HC := Lib.hid (show ¬ (mid < e ∧ e < b) → l3 = l2 from fun h => absurd ⟨c51, c52⟩ h)
              have HC2 := Lib.hid (show mid < e ∧ e < b → Sym aheadB z59 mid e b l2 l3 from fun _ => HS9.out)
              go_end0
              exact ⟨l3, rfl, hl3, Sym.gen (mid := mid) (lo := a) (hi := m) (s := s) (e := e) HMid.out.symm (by have h := HLo.out; simpa using h) HG.out.1 HG.out.2.1 HG.out.2.2.1 HG.out.2.2.2.1 HG.out.2.2.2.2 HL1.out HA.out HA2.out HC.out HC2.out, HR3.out, HB3.out⟩
            · obtain ⟨l3, hl3E⟩ : ∃ l3, l3 = l2 := ⟨_, rfl⟩
              have HR3 := HR2
              have HB3 := HB2
              have hl3 := hl2
              rw [← hl3E] at HR3 hl3
              have HC := Lib.hid (show ¬ (mid < e ∧ e < b) → l3 = l2 from fun _ => hl3E)
              have HC2 := Lib.hid (show mid < e ∧ e < b → Sym aheadB z59 mid e b l2 l3 from fun h => absurd h (fun h => c51 h.1))
              clear hl3E
              go_wp2_with fail
              go_end0
              exact ⟨l3, rfl, hl3, Sym.gen (mid := mid) (lo := a) (hi := m) (s := s) (e := e) HMid.out.symm (by have h := HLo.out; simpa using h) HG.out.1 HG.out.2.1 HG.out.2.2.1 HG.out.2.2.2.1 HG.out.2.2.2.2 HL1.out HA.out HA2.out HC.out HC2.out, HR3.out, HB3.out⟩
            · obtain ⟨l3, hl3E⟩ : ∃ l3, l3 = l2 := ⟨_, rfl⟩
              have HR3 := HR2
              have HB3 := HB2
              have hl3 := hl2
              rw [← hl3E] at HR3 hl3
              have HC := Lib.hid (show ¬ (mid < e ∧ e < b) → l3 = l2 from fun _ => hl3E)
              have HC2 := Lib.hid (show mid < e ∧ e < b → Sym aheadB z59 mid e b l2 l3 from fun h => absurd h (fun h => c52 h.2))
              clear hl3E
              go_wp2_with fail
              go_end0
              exact ⟨l3, rfl, hl3, Sym.gen (mid := mid) (lo := a) (hi := m) (s := s) (e := e) HMid.out.symm (by have h := HLo.out; simpa using h) HG.out.1 HG.out.2.1 HG.out.2.2.1 HG.out.2.2.2.1 HG.out.2.2.2.2 HL1.out HA.out HA2.out HC.out HC2.out, HR3.out, HB3.out⟩
          · obtain ⟨l2, hl2E⟩ : ∃ l2, l2 = l1 := ⟨_, rfl⟩
            have HR2 := HR1
            have HB2 := HB1
            have hl2 := hl1
            rw [← hl2E] at HR2 hl2
            have HA := Lib.hid (show ¬ (a < s ∧ s < mid) → l2 = l1 from fun _ => hl2E)
            have HA2 := Lib.hid (show a < s ∧ s < mid → Sym aheadB z59 a s mid l1 l2 from fun h => absurd h (fun h => c32 h.2))
            clear hl2E
            go_upto_region 43 with fail
            rcases (show (mid < e ∧ e < b) ∨ ¬ mid < e ∨ (mid < e ∧ ¬ e < b) by omega) with ⟨c51, c52⟩ | c51 | ⟨c51, c52⟩
            · have hc := fun W hW => HRec.out mid e b l2 W (by have := HMb.out; omega) hW c51 c52 (by rw [hl2]; exact hb) hl2
              have HC9 := Lib.hid hc
              clear hc
              go_wp2_with (first | fail | (go_at_call 88; refine (HC9.out _ HR2.out).mono ?_; rintro e9 w9 ⟨l3, rfl, hlen, hS, hR, hb9⟩; have HR3 := Lib.hid hR; have HB3 := Lib.hid (HB2.out.trans hb9); have HS9 := Lib.hid hS; have hl9 := hlen.trans hl2; clear hlen hS hR hb9))
              have hl3 := hl9
              have HC := Lib.hid (show ¬ (mid < e ∧ e < b) → l3 = l2 from fun h => absurd ⟨c51, c52⟩ h)
              have HC2 := Lib.hid (show mid < e ∧ e < b → Sym aheadB z59 mid e b l2 l3 from fun _ => HS9.out)
              go_end0
              exact ⟨l3, rfl, hl3, Sym.gen (mid := mid) (lo := a) (hi := m) (s := s) (e := e) HMid.out.symm (by have h := HLo.out; simpa using h) HG.out.1 HG.out.2.1 HG.out.2.2.1 HG.out.2.2.2.1 HG.out.2.2.2.2 HL1.out HA.out HA2.out HC.out HC2.out, HR3.out, HB3.out⟩
            · obtain ⟨l3, hl3E⟩ : ∃ l3, l3 = l2 := ⟨_, rfl⟩
              have HR3 := HR2
              have HB3 := HB2
              have hl3 := hl2
              rw [← hl3E] at HR3 hl3
              have HC := Lib.hid (show ¬ (mid < e ∧ e < b) → l3 = l2 from fun _ => hl3E)
              have HC2 := Lib.hid (show mid < e ∧ e < b → Sym aheadB z59 mid e b l2 l3 from fun h => absurd h (fun h => c51 h.1))
              clear hl3E
              go_wp2_with fail
              go_end0
              exact ⟨l3, rfl, hl3, Sym.gen (mid := mid) (lo := a) (hi := m) (s := s) (e := e) HMid.out.symm (by have h := HLo.out; simpa using h) HG.out.1 HG.out.2.1 HG.out.2.2.1 HG.out.2.2.2.1 HG.out.2.2.2.2 HL1.out HA.out HA2.out HC.out HC2.out, HR3.out, HB3.out⟩
            · obtain ⟨l3, hl3E⟩ : ∃ l3, l3 = l2 := ⟨_, rfl⟩
              have HR3 := HR2
              have HB3 := HB2
              have hl3 := hl2
              rw [← hl3E] at HR3 hl3
              have HC := Lib.hid (show ¬ (mid < e ∧ e < b) → l3 = l2 from fun _ => hl3E)
              have HC2 := Lib.hid (show mid < e ∧ e < b → Sym aheadB z59 mid e b l2 l3 from fun h => absurd h (fun h => c52 h.2))
              clear hl3E
              go_wp2_with fail
              go_end0
              exact ⟨l3, rfl, hl3, Sym.gen (mid := mid) (lo := a) (hi := m) (s := s) (e := e) HMid.out.symm (by have h := HLo.out; simpa using h) HG.out.1 HG.out.2.1 HG.out.2.2.1 HG.out.2.2.2.1 HG.out.2.2.2.2 HL1.out HA.out HA2.out HC.out HC2.out, HR3.out, HB3.out⟩
        · obtain ⟨l1, hl1E⟩ : ∃ l1, l1 = l := ⟨_, rfl⟩
          have HR1 := HRy
          have HB1 := HBy
          have hl1 : l1.length = l.length := by rw [hl1E]
          have HL1 := Lib.hid (show s < m ∧ m < e ∧ l1 = rotL l s m e ∨ ¬ (s < m ∧ m < e) ∧ l1 = l from Or.inr ⟨(fun h => c12 h.2), hl1E⟩)
          rw [← hl1E] at HR1
          clear hl1E
          go_upto_region 41 with fail
          rcases (show (a < s ∧ s < mid) ∨ ¬ a < s ∨ (a < s ∧ ¬ s < mid) by omega) with ⟨c31, c32⟩ | c31 | ⟨c31, c32⟩
          · have hc := fun W hW => HRec.out a s mid l1 W (by have := HMb.out; omega) hW c31 c32 (by rw [hl1]; have := HMb.out; omega) hl1
            have HC9 := Lib.hid hc
            clear hc
            go_upto_region 43 with (first | fail | (go_at_call 88; refine (HC9.out _ HR1.out).mono ?_; rintro e9 w9 ⟨l2, rfl, hlen, hS, hR, hb9⟩; have HR2 := Lib.hid hR; have HB2 := Lib.hid (HB1.out.trans hb9); have HS9 := Lib.hid hS; have hl9 := hlen.trans hl1; clear hlen hS hR hb9))
            have hl2 := hl9
            have HA := Lib.hid (show ¬ (a < s ∧ s < mid) → l2 = l1 from fun h => absurd ⟨c31, c32⟩ h)
            have HA2 := Lib.hid (show a < s ∧ s < mid → Sym aheadB z59 a s mid l1 l2 from fun _ => HS9.out)
            clear c31 c32 hl9 HS9
            rcases (show (mid < e ∧ e < b) ∨ ¬ mid < e ∨ (mid < e ∧ ¬ e < b) by omega) with ⟨c51, c52⟩ | c51 | ⟨c51, c52⟩
            · have hc := fun W hW => HRec.out mid e b l2 W (by have := HMb.out; omega) hW c51 c52 (by rw [hl2]; exact hb) hl2
              have HC9 := Lib.hid hc
              clear hc
              go_wp2_with (first | fail | (go_at_call 88; refine (HC9.out _ HR2.out).mono ?_; rintro e9 w9 ⟨l3, rfl, hlen, hS, hR, hb9⟩; have HR3 := Lib.hid hR; have HB3 := Lib.hid (HB2.out.trans hb9); have HS9 := Lib.hid hS; have hl9 := hlen.trans hl2; clear hlen hS hR hb9))
              have hl3 := hl9
              have HC := Lib.hid (show ¬ (mid < e ∧ e < b) → l3 = l2 from fun h => absurd ⟨c51, c52⟩ h)
              have HC2 := Lib.hid (show mid < e ∧ e < b → Sym aheadB z59 mid e b l2 l3 from fun _ => HS9.out)
              go_end0
              exact ⟨l3, rfl, hl3, Sym.gen (mid := mid) (lo := a) (hi := m) (s := s) (e := e) HMid.out.symm (by have h := HLo.out; simpa using h) HG.out.1 HG.out.2.1 HG.out.2.2.1 HG.out.2.2.2.1 HG.out.2.2.2.2 HL1.out HA.out HA2.out HC.out HC2.out, HR3.out, HB3.out⟩
            · obtain ⟨l3, hl3E⟩ : ∃ l3, l3 = l2 := ⟨_, rfl⟩
              have HR3 := HR2
              have HB3 := HB2
              have hl3 := hl2
              rw [← hl3E] at HR3 hl3
              have HC := Lib.hid (show ¬ (mid < e ∧ e < b) → l3 = l2 from fun _ => hl3E)
              have HC2 := Lib.hid (show mid < e ∧ e < b → Sym aheadB z59 mid e b l2 l3 from fun h => absurd h (fun h => c51 h.1))
              clear hl3E
              go_wp2_with fail
              go_end0
              exact ⟨l3, rfl, hl3, Sym.gen (mid := mid) (lo := a) (hi := m) (s := s) (e := e) HMid.out.symm (by have h := HLo.out; simpa using h) HG.out.1 HG.out.2.1 HG.out.2.2.1 HG.out.2.2.2.1 HG.out.2.2.2.2 HL1.out HA.out HA2.out HC.out HC2.out, HR3.out, HB3.out⟩
            · obtain ⟨l3, hl3E⟩ : ∃ l3, l3 = l2 := ⟨_, rfl⟩
              have HR3 := HR2
              have HB3 := HB2
              have hl3 := hl2
              rw [← hl3E] at HR3 hl3
              have HC := Lib.hid (show ¬ (mid < e ∧ e < b) → l3 = l2 from fun _ => hl3E)
              have HC2 := Lib.hid (show mid < e ∧ e < b → Sym aheadB z59 mid e b l2 l3 from fun h => absurd h (fun h => c52 h.2))
              clear hl3E
              go_wp2_with fail
              go_end0
              exact ⟨l3, rfl, hl3, Sym.gen (mid := mid) (lo := a) (hi := m) (s := s) (e := e) HMid.out.symm (by have h := HLo.out; simpa using h) HG.out.1 HG.out.2.1 HG.out.2.2.1 HG.out.2.2.2.1 HG.out.2.2.2.2 HL1.out HA.out HA2.out HC.out HC2.out, HR3.out, HB3.out⟩
          · obtain ⟨l2, hl2E⟩ : ∃ l2, l2 = l1 := ⟨_, rfl⟩
            have HR2 := HR1
            have HB2 := HB1
            have hl2 := hl1
            rw [← hl2E] at HR2 hl2
            have HA := Lib.hid (show ¬ (a < s ∧ s < mid) → l2 = l1 from fun _ => hl2E)
            have HA2 := Lib.hid (show a < s ∧ s < mid → Sym aheadB z59 a s mid l1 l2 from fun h => absurd h (fun h => c31 h.1))
            clear hl2E
            go_upto_region 43 with fail
            rcases (show (mid < e ∧ e < b) ∨ ¬ mid < e ∨ (mid < e ∧ ¬ e < b) by omega) with ⟨c51, c52⟩ | c51 | ⟨c51, c52⟩
            · have hc := fun W hW => HRec.out mid e b l2 W (by have := HMb.out; omega) hW c51 c52 (by rw [hl2]; exact hb) hl2
              have HC9 := Lib.hid hc
              clear hc
              go_wp2_with (first | fail | (go_at_call 88; refine (HC9.out _ HR2.out).mono ?_; rintro e9 w9 ⟨l3, rfl, hlen, hS, hR, hb9⟩; have HR3 := Lib.hid hR; have HB3 := Lib.hid (HB2.out.trans hb9); have HS9 := Lib.hid hS; have hl9 := hlen.trans hl2; clear hlen hS hR hb9))
              have hl3 := hl9
              have HC := Lib.hid (show ¬ (mid < e ∧ e < b) → l3 = l2 from fun h => absurd ⟨c51, c52⟩ h)
              have HC2 := Lib.hid (show mid < e ∧ e < b → Sym aheadB z59 mid e b l2 l3 from fun _ => HS9.out)
              go_end0
              exact ⟨l3, rfl, hl3, Sym.gen (mid := mid) (lo := a) (hi := m) (s := s) (e := e) HMid.out.symm (by have h := HLo.out; simpa using h) HG.out.1 HG.out.2.1 HG.out.2.2.1 HG.out.2.2.2.1 HG.out.2.2.2.2 HL1.out HA.out HA2.out HC.out HC2.out, HR3.out, HB3.out⟩
            · obtain ⟨l3, hl3E⟩ : ∃ l3, l3 = l2 := ⟨_, rfl⟩
              have HR3 := HR2
              have HB3 := HB2
              have hl3 := hl2
              rw [← hl3E] at HR3 hl3
              have HC := Lib.hid (show ¬ (mid < e ∧ e < b) → l3 = l2 from fun _ => hl3E)
              have HC2 := Lib.hid (show mid < e ∧ e < b → Sym aheadB z59 mid e b l2 l3 from fun h => absurd h (fun h => c51 h.1))
              clear hl3E
              go_wp2_with fail
              go_end0
              exact ⟨l3, rfl, hl3, Sym.gen (mid := mid) (lo := a) (hi := m) (s := s) (e := e) HMid.out.symm (by have h := HLo.out; simpa using h) HG.out.1 HG.out.2.1 HG.out.2.2.1 HG.out.2.2.2.1 HG.out.2.2.2.2 HL1.out HA.out HA2.out HC.out HC2.out, HR3.out, HB3.out⟩
            · obtain ⟨l3, hl3E⟩ : ∃ l3, l3 = l2 := ⟨_, rfl⟩
              have HR3 := HR2
              have HB3 := HB2
              have hl3 := hl2
              rw [← hl3E] at HR3 hl3
              have HC := Lib.hid (show ¬ (mid < e ∧ e < b) → l3 = l2 from fun _ => hl3E)
              have HC2 := Lib.hid (show mid < e ∧ e < b → Sym aheadB z59 mid e b l2 l3 from fun h => absurd h (fun h => c52 h.2))
              clear hl3E
              go_wp2_with fail
              go_end0
              exact ⟨l3, rfl, hl3, Sym.gen (mid := mid) (lo := a) (hi := m) (s := s) (e := e) HMid.out.symm (by have h := HLo.out; simpa using h) HG.out.1 HG.out.2.1 HG.out.2.2.1 HG.out.2.2.2.1 HG.out.2.2.2.2 HL1.out HA.out HA2.out HC.out HC2.out, HR3.out, HB3.out⟩
          · obtain ⟨l2, hl2E⟩ : ∃ l2, l2 = l1 := ⟨_, rfl⟩
            have HR2 := HR1
            have HB2 := HB1
            have hl2 := hl1
            rw [← hl2E] at HR2 hl2
            have HA := Lib.hid (show ¬ (a < s ∧ s < mid) → l2 = l1 from fun _ => hl2E)
            have HA2 := Lib.hid (show a < s ∧ s < mid → Sym aheadB z59 a s mid l1 l2 from fun h => absurd h (fun h => c32 h.2))
            clear hl2E
            go_upto_region 43 with fail
            rcases (show (mid < e ∧ e < b) ∨ ¬ mid < e ∨ (mid < e ∧ ¬ e < b) by omega) with ⟨c51, c52⟩ | c51 | ⟨c51, c52⟩
            · have hc := fun W hW => HRec.out mid e b l2 W (by have := HMb.out; omega) hW c51 c52 (by rw [hl2]; exact hb) hl2
              have HC9 := Lib.hid hc
              clear hc
              go_wp2_with (first | fail | (go_at_call 88; refine (HC9.out _ HR2.out).mono ?_; rintro e9 w9 ⟨l3, rfl, hlen, hS, hR, hb9⟩; have HR3 := Lib.hid hR; have HB3 := Lib.hid (HB2.out.trans hb9); have HS9 := Lib.hid hS; have hl9 := hlen.trans hl2; clear hlen hS hR hb9))
              have hl3 := hl9
              have HC := Lib.hid (show ¬ (mid < e ∧ e < b) → l3 = l2 from fun h => absurd ⟨c51, c52⟩ h)
              have HC2 := Lib.hid (show mid < e ∧ e < b → Sym aheadB z59 mid e b l2 l3 from fun _ => HS9.out)
              go_end0
              exact ⟨l3, rfl, hl3, Sym.gen (mid := mid) (lo := a) (hi := m) (s := s) (e := e) HMid.out.symm (by have h := HLo.out; simpa using h) HG.out.1 HG.out.2.1 HG.out.2.2.1 HG.out.2.2.2.1 HG.out.2.2.2.2 HL1.out HA.out HA2.out HC.out HC2.out, HR3.out, HB3.out⟩
            · obtain ⟨l3, hl3E⟩ : ∃ l3, l3 = l2 := ⟨_, rfl⟩
              have HR3 := HR2
              have HB3 := HB2
              have hl3 := hl2
              rw [← hl3E] at HR3 hl3
              have HC := Lib.hid (show ¬ (mid < e ∧ e < b) → l3 = l2 from fun _ => hl3E)
              have HC2 := Lib.hid (show mid < e ∧ e < b → Sym aheadB z59 mid e b l2 l3 from fun h => absurd h (fun h => c51 h.1))
              clear hl3E
              go_wp2_with fail
              go_end0
              exact ⟨l3, rfl, hl3, Sym.gen (mid := mid) (lo := a) (hi := m) (s := s) (e := e) HMid.out.symm (by have h := HLo.out; simpa using h) HG.out.1 HG.out.2.1 HG.out.2.2.1 HG.out.2.2.2.1 HG.out.2.2.2.2 HL1.out HA.out HA2.out HC.out HC2.out, HR3.out, HB3.out⟩
            · obtain ⟨l3, hl3E⟩ : ∃ l3, l3 = l2 := ⟨_, rfl⟩
              have HR3 := HR2
              have HB3 := HB2
              have hl3 := hl2
              rw [← hl3E] at HR3 hl3
              have HC := Lib.hid (show ¬ (mid < e ∧ e < b) → l3 = l2 from fun _ => hl3E)
              have HC2 := Lib.hid (show mid < e ∧ e < b → Sym aheadB z59 mid e b l2 l3 from fun h => absurd h (fun h => c52 h.2))
              clear hl3E
              go_wp2_with fail
              go_end0
              exact ⟨l3, rfl, hl3, Sym.gen (mid := mid) (lo := a) (hi := m) (s := s) (e := e) HMid.out.symm (by have h := HLo.out; simpa using h) HG.out.1 HG.out.2.1 HG.out.2.2.1 HG.out.2.2.2.1 HG.out.2.2.2.2 HL1.out HA.out HA2.out HC.out HC2.out, HR3.out, HB3.out⟩
end Go.Proofs.YtcbkgammlfjjoaaDoor
