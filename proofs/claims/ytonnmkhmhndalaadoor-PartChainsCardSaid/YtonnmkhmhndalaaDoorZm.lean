/- Sorting: symmetric merging in place, walked: any ranges. -/
import Derived.Test.YtonnmkhmhndalaaDoorZl
section
namespace Go.Proofs.YtonnmkhmhndalaaDoor
set_option linter.unusedVariables false
set_option linter.unusedSimpArgs false
open Go.RowKit Go.Proofs.YtonnmkhmhndalaaDoorW.PrintWords Go.Proofs.YtonnmkhmhndalaaDoorW.PrintLast Go.Proofs.YtonnmkhmhndalaaDoorW.PrintMore
attribute [local irreducible] wpQuiet
set_option maxRecDepth 100000 in
set_option maxHeartbeats 16000000 in
theorem sym_gen (ev : SEnv) (B g cap a m b : Nat) (l : List Nat) (w : World) (h : Rw ev w g l) (hB : B ≤ g) (ham : a < m) (hmb : m < b) (hb : b ≤ l.length) (hl : l.length ≤ 4398046511104) (h1 : a + 1 < m) (h2 : m + 1 < b)
    (hrec : ∀ (a' m' b' : Nat) (l' : List Nat) (W : World), b' - a' < b - a → Rw ev W g l' → a' < m' → m' < b' → b' ≤ l'.length → l'.length = l.length → Calls Tryd.prog 56 #[.slice (some ⟨g, 0, none⟩) l.length cap, .int .i64 a', .int .i64 m', .int .i64 b', fA ev] W (RwE ev B g l' (Sym (aheadB ev) 0 a' m' b' l') W)) :
    Calls Tryd.prog 56 #[.slice (some ⟨g, 0, none⟩) l.length cap, .int .i64 a, .int .i64 m, .int .i64 b, fA ev] w (RwE ev B g l (Sym (aheadB ev) 0 a m b l) w) := by
  have HR := Lib.hid h
  have HRec := Lib.hid hrec
  have h3 : ((m : Int) - (a : Int) == 1) = false := beq_eq_false_iff_ne.2 (by omega)
  have h4 : ((b : Int) - (m : Int) == 1) = false := beq_eq_false_iff_ne.2 (by omega)
  clear h hrec
  obtain ⟨mid, hmid⟩ : ∃ mid, (a + b) / 2 = mid := ⟨_, rfl⟩
  obtain ⟨nn, hnn⟩ : ∃ nn, mid + m = nn := ⟨_, rfl⟩
  have hmI : (((a + b) / 2 : Nat) : Int) = (mid : Int) := by rw [hmid]
  have hmI2 : ((a : Int) + (b : Int)) / 2 = (mid : Int) := by omega
  have hnI : (mid : Int) + (m : Int) = (nn : Int) := by omega
  obtain ⟨pp, hpp⟩ : ∃ pp, nn = pp + 1 := ⟨nn - 1, by omega⟩
  have hpI' : (nn : Int) - 1 = (pp : Int) := by omega
  have HMid := Lib.hid hmid
  have HPp := Lib.hid hpp
  have HNn := Lib.hid hnn
  have hmidb : mid < b ∧ a < mid := by omega
  have HMb := Lib.hid hmidb
  have hnb : (nn : Int) ≤ 8796093022208 := by omega
  clear hmid hnn hpp hmidb
  by_cases hgt : mid < m
  · have hd : decide ((mid : Int) < (m : Int)) = true := decide_eq_true (by omega)
    obtain ⟨lo, hlo⟩ : ∃ lo : Nat, mid + m - b = lo := ⟨_, rfl⟩
    have hlI : (nn : Int) - (b : Int) = (lo : Int) := by have := HNn.out; have := HMid.out; omega
    have HLo := Lib.hid (show m ≤ mid ∧ lo = a ∧ mid = m ∨ mid < m ∧ lo = mid + m - b ∧ mid = mid from Or.inr ⟨hgt, hlo.symm, rfl⟩)
    have HBn := Lib.hid (show lo ≤ mid ∧ a ≤ lo ∧ mid ≤ m ∧ mid ≤ mid ∧ nn ≤ b + lo ∧ m + mid ≤ nn ∧ nn ≤ 2 * b by have := HNn.out; have := HMid.out; omega)
    clear hlo
    go_enter Tryd.func56, Tryd.ntmps56
    go_upto_region 33 with fail
    clear hgt hd hlI h3 h4 hmI hmI2 hnI hpI'
    go_loopw [20, 21] (fun v20 v21 wx => ∃ s r : Nat, v20 = .int .i64 s ∧ v21 = .int .i64 r ∧ lo ≤ s ∧ s ≤ r ∧ r ≤ mid ∧ Hid (s = lo ∨ (aheadB ev) (l.getD (nn - s) 0) (l.getD (s - 1) 0) = false) ∧ Hid (r = mid ∨ (aheadB ev) (l.getD (nn - r - 1) 0) (l.getD r 0) = true) ∧ Hid (Rw ev wx g l) ∧ Hid (Below B w wx)) (fun v20 v21 _ => (intOf v21).toNat - (intOf v20).toNat)
    case atStart => exact ⟨lo, mid, rfl, rfl, Nat.le_refl _, HBn.out.1, Nat.le_refl _, Lib.hid (Or.inl rfl), Lib.hid (Or.inl rfl), HR, Lib.hid (Below.refl _ _)⟩
    case round =>
      obtain ⟨s, r, rfl, rfl, hs1, hs2, hs3, H1, H2, HRy, HBy⟩ := hrel
      by_cases hlt : s < r
      · obtain ⟨k, hk, hk1, hk2⟩ : ∃ k : Nat, (s + r) / 2 = k ∧ s ≤ k ∧ k < r := ⟨_, rfl, by omega, by omega⟩
        have hkI : (((s + r) / 2 : Nat) : Int) = (k : Int) := by rw [hk]
        have hkI2 : ((s : Int) + (r : Int)) / 2 = (k : Int) := by omega
        have hkb : k < m ∧ pp - k < b ∧ k ≤ pp := by have := HBn.out; have := HPp.out; omega
        obtain ⟨q, hq⟩ : ∃ q, pp - k = q := ⟨_, rfl⟩
        have hqI' : (pp : Int) - (k : Int) = (q : Int) := by omega
        have hww : IntKind.i64.wrap (q : Int) = (q : Int) := IntWalk.i64_in _ (by omega)
        have hw1 : IntKind.i64.wrap ((pp : Int) - (k : Int)) = (q : Int) := by rw [hqI']; exact hww
        have HQ := Lib.hid (show nn = q + k + 1 by have := HPp.out; omega)
        have HKb := Lib.hid (show s ≤ k ∧ k < r from ⟨hk1, hk2⟩)
        have hqb : q < b := by omega
        have hkm : k < b := by omega
        clear hww hqI' hq
        have hpl : q < l.length := by omega
        have hql : k < l.length := by omega
        have p0 := HRy.out.c q hpl
        have q0 := HRy.out.c k hql
        have hpI : ((q : Nat) : Int) < (l.length : Int) := by omega
        have hqI : ((k : Nat) : Int) < (l.length : Int) := by omega
        obtain ⟨cp, hcpE⟩ : ∃ cp, l.getD q 0 = cp := ⟨_, rfl⟩
        obtain ⟨cq, hcqE⟩ : ∃ cq, l.getD k 0 = cq := ⟨_, rfl⟩
        rw [hcpE] at p0 
        rw [hcqE] at q0 
        have hcmp := fun r => ahead_row HRy.out hpl hql r
        rw [hcpE, hcqE] at hcmp
        have hord := aheadI_lt ev cp cq
        have HCp := Lib.hid hcpE
        have HCq := Lib.hid hcqE
        clear hcpE hcqE
        generalize aheadI ev cp cq = o at hcmp hord
        have HCm := Lib.hid hcmp
        have HOr := Lib.hid hord
        clear hcmp hord
        have g0 : ∀ r : BelowBy wr, r.W.cell? ⟨g, q, none⟩ = some (.int .i64 (cp : Nat)) := fun r => r.cell p0
        have g3 : ∀ r : BelowBy wr, r.W.cell? ⟨g, k, none⟩ = some (.int .i64 (cq : Nat)) := fun r => r.cell q0
        clear p0 q0 
        go_upto_region 35 with fail
        clear hkI hkI2 hk
        cases hab2 : (aheadB ev) cp cq
        · have ho : decide (o < 0) = false := HOr.out.trans hab2
          refine region_below (by kernel_rfl) (by kernel_rfl) ?_
          repeat (quiet_step (with_reducible first | exact HCm.out _ | fail))
          refine wpQuiet_nil ?_
          rintro _ ⟨r5, rfl⟩
          have HRr := Lib.hid (HRy.out.below r5.h)
          have HBr := Lib.hid (HBy.out.trans (r5.h.mono (Nat.le_trans hB (Nat.le_of_lt HRy.out.s))))
          clear g0 g3
          have HN := Lib.hid (show k + 1 = lo ∨ (aheadB ev) (l.getD (nn - (k + 1)) 0) (l.getD (k + 1 - 1) 0) = false from Or.inr (by rw [Nat.add_sub_cancel, show nn - (k + 1) = q from by have := HQ.out; omega, HCp.out, HCq.out]; exact hab2))
          clear hab2 hw1
          go_wp2_with fail
          refine ⟨⟨k + 1, r, by simp, rfl, by omega, by omega, hs3, HN, H2, HRr, HBr⟩, by simp [intOf]; omega⟩
        · have ho : decide (o < 0) = true := HOr.out.trans hab2
          refine region_below (by kernel_rfl) (by kernel_rfl) ?_
          repeat (quiet_step (with_reducible first | exact HCm.out _ | fail))
          refine wpQuiet_nil ?_
          rintro _ ⟨r5, rfl⟩
          have HRr := Lib.hid (HRy.out.below r5.h)
          have HBr := Lib.hid (HBy.out.trans (r5.h.mono (Nat.le_trans hB (Nat.le_of_lt HRy.out.s))))
          clear g0 g3
          have HN := Lib.hid (show k = mid ∨ (aheadB ev) (l.getD (nn - k - 1) 0) (l.getD k 0) = true from Or.inr (by rw [show nn - k - 1 = q from by have := HQ.out; omega, HCp.out, HCq.out]; exact hab2))
          clear hab2 hw1
          go_wp2_with fail
          refine ⟨⟨s, k, rfl, rfl, hs1, hk1, by omega, H1, HN, HRr, HBr⟩, by simp [intOf]; omega⟩
      · obtain rfl : s = r := by omega
        obtain ⟨e, he⟩ : ∃ e, nn - s = e := ⟨_, rfl⟩
        have hse : s ≤ m ∧ m ≤ e ∧ e ≤ b ∧ a ≤ s := by have := HBn.out; omega
        obtain ⟨hsm, hme, heb, has⟩ := hse
        have heI : (nn : Int) - (s : Int) = (e : Int) := by have := HBn.out; omega
        have HG := Lib.hid (show lo ≤ s ∧ s ≤ mid ∧ e = mid + m - s ∧ (s = lo ∨ (aheadB ev) (l.getD e 0) (l.getD (s - 1) 0) = false) ∧ (s = mid ∨ (aheadB ev) (l.getD (e - 1) 0) (l.getD s 0) = true) from ⟨hs1, hs3, by have := HNn.out; omega, by rw [← he]; exact H1.out, by rw [← he]; exact H2.out⟩)
        clear he hs1 hs2 hs3 hlt H1 H2
        go_upto_region 39 with fail
        clear heI
        rcases (show (s < m ∧ m < e) ∨ ¬ s < m ∨ (s < m ∧ ¬ m < e) by omega) with ⟨c11, c12⟩ | c11 | ⟨c11, c12⟩
        · have hc := fun W hW => rotate_any ev B g cap s m e l W hW hB c11 c12 (by omega) hl
          have hl1' := rotL_length l (a := s) (m := m) (b := e) (Nat.le_of_lt c11) (Nat.le_of_lt c12) (by omega)
          have hl1E' := Or.inl (b := ¬ (s < m ∧ m < e) ∧ rotL l s m e = l) (show s < m ∧ m < e ∧ rotL l s m e = rotL l s m e from ⟨c11, c12, rfl⟩)
          generalize hrt : rotL l s m e = l1 at *
          have HC9 := Lib.hid hc
          have hl1 := hl1'
          have HL1 := Lib.hid (show s < m ∧ m < e ∧ l1 = rotL l s m e ∨ ¬ (s < m ∧ m < e) ∧ l1 = l from Or.inl ⟨c11, c12, hrt.symm⟩)
          clear hc hl1' hl1E' hrt
          go_upto_region 41 with (first | fail | (go_at_call 59; refine (HC9.out _ HRy.out).mono ?_; rintro e9 w9 ⟨rfl, hR, hb9⟩; have HR1 := Lib.hid hR; have HB1 := Lib.hid (HBy.out.trans hb9); clear hR hb9))
          clear c11 c12
          rcases (show (a < s ∧ s < mid) ∨ ¬ a < s ∨ (a < s ∧ ¬ s < mid) by omega) with ⟨c31, c32⟩ | c31 | ⟨c31, c32⟩
          · have hc := fun W hW => HRec.out a s mid l1 W (by have := HMb.out; omega) hW c31 c32 (by rw [hl1]; have := HMb.out; omega) hl1
            have HC9 := Lib.hid hc
            clear hc
            go_upto_region 43 with (first | fail | (go_at_call 56; refine (HC9.out _ HR1.out).mono ?_; rintro e9 w9 ⟨l2, rfl, hlen, hS, hR, hb9⟩; have HR2 := Lib.hid hR; have HB2 := Lib.hid (HB1.out.trans hb9); have HS9 := Lib.hid hS; have hl9 := hlen.trans hl1; clear hlen hS hR hb9))
            have hl2 := hl9
            have HA := Lib.hid (show ¬ (a < s ∧ s < mid) → l2 = l1 from fun h => absurd ⟨c31, c32⟩ h)
            have HA2 := Lib.hid (show a < s ∧ s < mid → Sym (aheadB ev) 0 a s mid l1 l2 from fun _ => HS9.out)
            clear c31 c32 hl9 HS9
            rcases (show (mid < e ∧ e < b) ∨ ¬ mid < e ∨ (mid < e ∧ ¬ e < b) by omega) with ⟨c51, c52⟩ | c51 | ⟨c51, c52⟩
            · have hc := fun W hW => HRec.out mid e b l2 W (by have := HMb.out; omega) hW c51 c52 (by rw [hl2]; exact hb) hl2
              have HC9 := Lib.hid hc
              clear hc
              go_wp2_with (first | fail | (go_at_call 56; refine (HC9.out _ HR2.out).mono ?_; rintro e9 w9 ⟨l3, rfl, hlen, hS, hR, hb9⟩; have HR3 := Lib.hid hR; have HB3 := Lib.hid (HB2.out.trans hb9); have HS9 := Lib.hid hS; have hl9 := hlen.trans hl2; clear hlen hS hR hb9))
              have hl3 := hl9
              have HC := Lib.hid (show ¬ (mid < e ∧ e < b) → l3 = l2 from fun h => absurd ⟨c51, c52⟩ h)
              have HC2 := Lib.hid (show mid < e ∧ e < b → Sym (aheadB ev) 0 mid e b l2 l3 from fun _ => HS9.out)
              go_end0
              exact ⟨l3, rfl, hl3, Sym.gen (mid := mid) (lo := lo) (hi := mid) (s := s) (e := e) HMid.out.symm (by have h := HLo.out; simpa using h) HG.out.1 HG.out.2.1 HG.out.2.2.1 HG.out.2.2.2.1 HG.out.2.2.2.2 HL1.out HA.out HA2.out HC.out HC2.out, HR3.out, HB3.out⟩
            · obtain ⟨l3, hl3E⟩ : ∃ l3, l3 = l2 := ⟨_, rfl⟩
              have HR3 := HR2
              have HB3 := HB2
              have hl3 := hl2
              rw [← hl3E] at HR3 hl3
              have HC := Lib.hid (show ¬ (mid < e ∧ e < b) → l3 = l2 from fun _ => hl3E)
              have HC2 := Lib.hid (show mid < e ∧ e < b → Sym (aheadB ev) 0 mid e b l2 l3 from fun h => absurd h (fun h => c51 h.1))
              clear hl3E
              go_wp2_with fail
              go_end0
              exact ⟨l3, rfl, hl3, Sym.gen (mid := mid) (lo := lo) (hi := mid) (s := s) (e := e) HMid.out.symm (by have h := HLo.out; simpa using h) HG.out.1 HG.out.2.1 HG.out.2.2.1 HG.out.2.2.2.1 HG.out.2.2.2.2 HL1.out HA.out HA2.out HC.out HC2.out, HR3.out, HB3.out⟩
            · obtain ⟨l3, hl3E⟩ : ∃ l3, l3 = l2 := ⟨_, rfl⟩
              have HR3 := HR2
              have HB3 := HB2
              have hl3 := hl2
              rw [← hl3E] at HR3 hl3
              have HC := Lib.hid (show ¬ (mid < e ∧ e < b) → l3 = l2 from fun _ => hl3E)
              have HC2 := Lib.hid (show mid < e ∧ e < b → Sym (aheadB ev) 0 mid e b l2 l3 from fun h => absurd h (fun h => c52 h.2))
              clear hl3E
              go_wp2_with fail
              go_end0
              exact ⟨l3, rfl, hl3, Sym.gen (mid := mid) (lo := lo) (hi := mid) (s := s) (e := e) HMid.out.symm (by have h := HLo.out; simpa using h) HG.out.1 HG.out.2.1 HG.out.2.2.1 HG.out.2.2.2.1 HG.out.2.2.2.2 HL1.out HA.out HA2.out HC.out HC2.out, HR3.out, HB3.out⟩
          · obtain ⟨l2, hl2E⟩ : ∃ l2, l2 = l1 := ⟨_, rfl⟩
            have HR2 := HR1
            have HB2 := HB1
            have hl2 := hl1
            rw [← hl2E] at HR2 hl2
            have HA := Lib.hid (show ¬ (a < s ∧ s < mid) → l2 = l1 from fun _ => hl2E)
            have HA2 := Lib.hid (show a < s ∧ s < mid → Sym (aheadB ev) 0 a s mid l1 l2 from fun h => absurd h (fun h => c31 h.1))
            clear hl2E
            go_upto_region 43 with fail
            rcases (show (mid < e ∧ e < b) ∨ ¬ mid < e ∨ (mid < e ∧ ¬ e < b) by omega) with ⟨c51, c52⟩ | c51 | ⟨c51, c52⟩
            · have hc := fun W hW => HRec.out mid e b l2 W (by have := HMb.out; omega) hW c51 c52 (by rw [hl2]; exact hb) hl2
              have HC9 := Lib.hid hc
              clear hc
              go_wp2_with (first | fail | (go_at_call 56; refine (HC9.out _ HR2.out).mono ?_; rintro e9 w9 ⟨l3, rfl, hlen, hS, hR, hb9⟩; have HR3 := Lib.hid hR; have HB3 := Lib.hid (HB2.out.trans hb9); have HS9 := Lib.hid hS; have hl9 := hlen.trans hl2; clear hlen hS hR hb9))
              have hl3 := hl9
              have HC := Lib.hid (show ¬ (mid < e ∧ e < b) → l3 = l2 from fun h => absurd ⟨c51, c52⟩ h)
              have HC2 := Lib.hid (show mid < e ∧ e < b → Sym (aheadB ev) 0 mid e b l2 l3 from fun _ => HS9.out)
              go_end0
              exact ⟨l3, rfl, hl3, Sym.gen (mid := mid) (lo := lo) (hi := mid) (s := s) (e := e) HMid.out.symm (by have h := HLo.out; simpa using h) HG.out.1 HG.out.2.1 HG.out.2.2.1 HG.out.2.2.2.1 HG.out.2.2.2.2 HL1.out HA.out HA2.out HC.out HC2.out, HR3.out, HB3.out⟩
            · obtain ⟨l3, hl3E⟩ : ∃ l3, l3 = l2 := ⟨_, rfl⟩
              have HR3 := HR2
              have HB3 := HB2
              have hl3 := hl2
              rw [← hl3E] at HR3 hl3
              have HC := Lib.hid (show ¬ (mid < e ∧ e < b) → l3 = l2 from fun _ => hl3E)
              have HC2 := Lib.hid (show mid < e ∧ e < b → Sym (aheadB ev) 0 mid e b l2 l3 from fun h => absurd h (fun h => c51 h.1))
              clear hl3E
              go_wp2_with fail
              go_end0
              exact ⟨l3, rfl, hl3, Sym.gen (mid := mid) (lo := lo) (hi := mid) (s := s) (e := e) HMid.out.symm (by have h := HLo.out; simpa using h) HG.out.1 HG.out.2.1 HG.out.2.2.1 HG.out.2.2.2.1 HG.out.2.2.2.2 HL1.out HA.out HA2.out HC.out HC2.out, HR3.out, HB3.out⟩
            · obtain ⟨l3, hl3E⟩ : ∃ l3, l3 = l2 := ⟨_, rfl⟩
              have HR3 := HR2
              have HB3 := HB2
              have hl3 := hl2
              rw [← hl3E] at HR3 hl3
              have HC := Lib.hid (show ¬ (mid < e ∧ e < b) → l3 = l2 from fun _ => hl3E)
              have HC2 := Lib.hid (show mid < e ∧ e < b → Sym (aheadB ev) 0 mid e b l2 l3 from fun h => absurd h (fun h => c52 h.2))
              clear hl3E
              go_wp2_with fail
              go_end0
              exact ⟨l3, rfl, hl3, Sym.gen (mid := mid) (lo := lo) (hi := mid) (s := s) (e := e) HMid.out.symm (by have h := HLo.out; simpa using h) HG.out.1 HG.out.2.1 HG.out.2.2.1 HG.out.2.2.2.1 HG.out.2.2.2.2 HL1.out HA.out HA2.out HC.out HC2.out, HR3.out, HB3.out⟩
          · obtain ⟨l2, hl2E⟩ : ∃ l2, l2 = l1 := ⟨_, rfl⟩
            have HR2 := HR1
            have HB2 := HB1
            have hl2 := hl1
            rw [← hl2E] at HR2 hl2
            have HA := Lib.hid (show ¬ (a < s ∧ s < mid) → l2 = l1 from fun _ => hl2E)
            have HA2 := Lib.hid (show a < s ∧ s < mid → Sym (aheadB ev) 0 a s mid l1 l2 from fun h => absurd h (fun h => c32 h.2))
            clear hl2E
            go_upto_region 43 with fail
            rcases (show (mid < e ∧ e < b) ∨ ¬ mid < e ∨ (mid < e ∧ ¬ e < b) by omega) with ⟨c51, c52⟩ | c51 | ⟨c51, c52⟩
            · have hc := fun W hW => HRec.out mid e b l2 W (by have := HMb.out; omega) hW c51 c52 (by rw [hl2]; exact hb) hl2
              have HC9 := Lib.hid hc
              clear hc
              go_wp2_with (first | fail | (go_at_call 56; refine (HC9.out _ HR2.out).mono ?_; rintro e9 w9 ⟨l3, rfl, hlen, hS, hR, hb9⟩; have HR3 := Lib.hid hR; have HB3 := Lib.hid (HB2.out.trans hb9); have HS9 := Lib.hid hS; have hl9 := hlen.trans hl2; clear hlen hS hR hb9))
              have hl3 := hl9
              have HC := Lib.hid (show ¬ (mid < e ∧ e < b) → l3 = l2 from fun h => absurd ⟨c51, c52⟩ h)
              have HC2 := Lib.hid (show mid < e ∧ e < b → Sym (aheadB ev) 0 mid e b l2 l3 from fun _ => HS9.out)
              go_end0
              exact ⟨l3, rfl, hl3, Sym.gen (mid := mid) (lo := lo) (hi := mid) (s := s) (e := e) HMid.out.symm (by have h := HLo.out; simpa using h) HG.out.1 HG.out.2.1 HG.out.2.2.1 HG.out.2.2.2.1 HG.out.2.2.2.2 HL1.out HA.out HA2.out HC.out HC2.out, HR3.out, HB3.out⟩
            · obtain ⟨l3, hl3E⟩ : ∃ l3, l3 = l2 := ⟨_, rfl⟩
              have HR3 := HR2
              have HB3 := HB2
              have hl3 := hl2
              rw [← hl3E] at HR3 hl3
              have HC := Lib.hid (show ¬ (mid < e ∧ e < b) → l3 = l2 from fun _ => hl3E)
              have HC2 := Lib.hid (show mid < e ∧ e < b → Sym (aheadB ev) 0 mid e b l2 l3 from fun h => absurd h (fun h => c51 h.1))
              clear hl3E
              go_wp2_with fail
              go_end0
              exact ⟨l3, rfl, hl3, Sym.gen (mid := mid) (lo := lo) (hi := mid) (s := s) (e := e) HMid.out.symm (by have h := HLo.out; simpa using h) HG.out.1 HG.out.2.1 HG.out.2.2.1 HG.out.2.2.2.1 HG.out.2.2.2.2 HL1.out HA.out HA2.out HC.out HC2.out, HR3.out, HB3.out⟩
            · obtain ⟨l3, hl3E⟩ : ∃ l3, l3 = l2 := ⟨_, rfl⟩
              have HR3 := HR2
              have HB3 := HB2
              have hl3 := hl2
              rw [← hl3E] at HR3 hl3
              have HC := Lib.hid (show ¬ (mid < e ∧ e < b) → l3 = l2 from fun _ => hl3E)
              have HC2 := Lib.hid (show mid < e ∧ e < b → Sym (aheadB ev) 0 mid e b l2 l3 from fun h => absurd h (fun h => c52 h.2))
              clear hl3E
              go_wp2_with fail
              go_end0
              exact ⟨l3, rfl, hl3, Sym.gen (mid := mid) (lo := lo) (hi := mid) (s := s) (e := e) HMid.out.symm (by have h := HLo.out; simpa using h) HG.out.1 HG.out.2.1 HG.out.2.2.1 HG.out.2.2.2.1 HG.out.2.2.2.2 HL1.out HA.out HA2.out HC.out HC2.out, HR3.out, HB3.out⟩
        · obtain ⟨l1, hl1E⟩ : ∃ l1, l1 = l := ⟨_, rfl⟩
          have HR1 := HRy
          have HB1 := HBy
          have hl1 : l1.length = l.length := by rw [hl1E]
          have HL1 := Lib.hid (show s < m ∧ m < e ∧ l1 = rotL l s m e ∨ ¬ (s < m ∧ m < e) ∧ l1 = l from Or.inr ⟨(fun h => c11 h.1), hl1E⟩)
          rw [← hl1E] at HR1
          clear hl1E
          go_upto_region 41 with fail
          rcases (show (a < s ∧ s < mid) ∨ ¬ a < s ∨ (a < s ∧ ¬ s < mid) by omega) with ⟨c31, c32⟩ | c31 | ⟨c31, c32⟩
          · have hc := fun W hW => HRec.out a s mid l1 W (by have := HMb.out; omega) hW c31 c32 (by rw [hl1]; have := HMb.out; omega) hl1
            have HC9 := Lib.hid hc
            clear hc
            go_upto_region 43 with (first | fail | (go_at_call 56; refine (HC9.out _ HR1.out).mono ?_; rintro e9 w9 ⟨l2, rfl, hlen, hS, hR, hb9⟩; have HR2 := Lib.hid hR; have HB2 := Lib.hid (HB1.out.trans hb9); have HS9 := Lib.hid hS; have hl9 := hlen.trans hl1; clear hlen hS hR hb9))
            have hl2 := hl9
            have HA := Lib.hid (show ¬ (a < s ∧ s < mid) → l2 = l1 from fun h => absurd ⟨c31, c32⟩ h)
            have HA2 := Lib.hid (show a < s ∧ s < mid → Sym (aheadB ev) 0 a s mid l1 l2 from fun _ => HS9.out)
            clear c31 c32 hl9 HS9
            rcases (show (mid < e ∧ e < b) ∨ ¬ mid < e ∨ (mid < e ∧ ¬ e < b) by omega) with ⟨c51, c52⟩ | c51 | ⟨c51, c52⟩
            · have hc := fun W hW => HRec.out mid e b l2 W (by have := HMb.out; omega) hW c51 c52 (by rw [hl2]; exact hb) hl2
              have HC9 := Lib.hid hc
              clear hc
              go_wp2_with (first | fail | (go_at_call 56; refine (HC9.out _ HR2.out).mono ?_; rintro e9 w9 ⟨l3, rfl, hlen, hS, hR, hb9⟩; have HR3 := Lib.hid hR; have HB3 := Lib.hid (HB2.out.trans hb9); have HS9 := Lib.hid hS; have hl9 := hlen.trans hl2; clear hlen hS hR hb9))
              have hl3 := hl9
              have HC := Lib.hid (show ¬ (mid < e ∧ e < b) → l3 = l2 from fun h => absurd ⟨c51, c52⟩ h)
              have HC2 := Lib.hid (show mid < e ∧ e < b → Sym (aheadB ev) 0 mid e b l2 l3 from fun _ => HS9.out)
              go_end0
              exact ⟨l3, rfl, hl3, Sym.gen (mid := mid) (lo := lo) (hi := mid) (s := s) (e := e) HMid.out.symm (by have h := HLo.out; simpa using h) HG.out.1 HG.out.2.1 HG.out.2.2.1 HG.out.2.2.2.1 HG.out.2.2.2.2 HL1.out HA.out HA2.out HC.out HC2.out, HR3.out, HB3.out⟩
            · obtain ⟨l3, hl3E⟩ : ∃ l3, l3 = l2 := ⟨_, rfl⟩
              have HR3 := HR2
              have HB3 := HB2
              have hl3 := hl2
              rw [← hl3E] at HR3 hl3
              have HC := Lib.hid (show ¬ (mid < e ∧ e < b) → l3 = l2 from fun _ => hl3E)
              have HC2 := Lib.hid (show mid < e ∧ e < b → Sym (aheadB ev) 0 mid e b l2 l3 from fun h => absurd h (fun h => c51 h.1))
              clear hl3E
              go_wp2_with fail
              go_end0
              exact ⟨l3, rfl, hl3, Sym.gen (mid := mid) (lo := lo) (hi := mid) (s := s) (e := e) HMid.out.symm (by have h := HLo.out; simpa using h) HG.out.1 HG.out.2.1 HG.out.2.2.1 HG.out.2.2.2.1 HG.out.2.2.2.2 HL1.out HA.out HA2.out HC.out HC2.out, HR3.out, HB3.out⟩
            · obtain ⟨l3, hl3E⟩ : ∃ l3, l3 = l2 := ⟨_, rfl⟩
              have HR3 := HR2
              have HB3 := HB2
              have hl3 := hl2
              rw [← hl3E] at HR3 hl3
              have HC := Lib.hid (show ¬ (mid < e ∧ e < b) → l3 = l2 from fun _ => hl3E)
              have HC2 := Lib.hid (show mid < e ∧ e < b → Sym (aheadB ev) 0 mid e b l2 l3 from fun h => absurd h (fun h => c52 h.2))
              clear hl3E
              go_wp2_with fail
              go_end0
              exact ⟨l3, rfl, hl3, Sym.gen (mid := mid) (lo := lo) (hi := mid) (s := s) (e := e) HMid.out.symm (by have h := HLo.out; simpa using h) HG.out.1 HG.out.2.1 HG.out.2.2.1 HG.out.2.2.2.1 HG.out.2.2.2.2 HL1.out HA.out HA2.out HC.out HC2.out, HR3.out, HB3.out⟩
          · obtain ⟨l2, hl2E⟩ : ∃ l2, l2 = l1 := ⟨_, rfl⟩
            have HR2 := HR1
            have HB2 := HB1
            have hl2 := hl1
            rw [← hl2E] at HR2 hl2
            have HA := Lib.hid (show ¬ (a < s ∧ s < mid) → l2 = l1 from fun _ => hl2E)
            have HA2 := Lib.hid (show a < s ∧ s < mid → Sym (aheadB ev) 0 a s mid l1 l2 from fun h => absurd h (fun h => c31 h.1))
            clear hl2E
            go_upto_region 43 with fail
            rcases (show (mid < e ∧ e < b) ∨ ¬ mid < e ∨ (mid < e ∧ ¬ e < b) by omega) with ⟨c51, c52⟩ | c51 | ⟨c51, c52⟩
            · have hc := fun W hW => HRec.out mid e b l2 W (by have := HMb.out; omega) hW c51 c52 (by rw [hl2]; exact hb) hl2
              have HC9 := Lib.hid hc
              clear hc
              go_wp2_with (first | fail | (go_at_call 56; refine (HC9.out _ HR2.out).mono ?_; rintro e9 w9 ⟨l3, rfl, hlen, hS, hR, hb9⟩; have HR3 := Lib.hid hR; have HB3 := Lib.hid (HB2.out.trans hb9); have HS9 := Lib.hid hS; have hl9 := hlen.trans hl2; clear hlen hS hR hb9))
              have hl3 := hl9
              have HC := Lib.hid (show ¬ (mid < e ∧ e < b) → l3 = l2 from fun h => absurd ⟨c51, c52⟩ h)
              have HC2 := Lib.hid (show mid < e ∧ e < b → Sym (aheadB ev) 0 mid e b l2 l3 from fun _ => HS9.out)
              go_end0
              exact ⟨l3, rfl, hl3, Sym.gen (mid := mid) (lo := lo) (hi := mid) (s := s) (e := e) HMid.out.symm (by have h := HLo.out; simpa using h) HG.out.1 HG.out.2.1 HG.out.2.2.1 HG.out.2.2.2.1 HG.out.2.2.2.2 HL1.out HA.out HA2.out HC.out HC2.out, HR3.out, HB3.out⟩
            · obtain ⟨l3, hl3E⟩ : ∃ l3, l3 = l2 := ⟨_, rfl⟩
              have HR3 := HR2
              have HB3 := HB2
              have hl3 := hl2
              rw [← hl3E] at HR3 hl3
              have HC := Lib.hid (show ¬ (mid < e ∧ e < b) → l3 = l2 from fun _ => hl3E)
              have HC2 := Lib.hid (show mid < e ∧ e < b → Sym (aheadB ev) 0 mid e b l2 l3 from fun h => absurd h (fun h => c51 h.1))
              clear hl3E
              go_wp2_with fail
              go_end0
              exact ⟨l3, rfl, hl3, Sym.gen (mid := mid) (lo := lo) (hi := mid) (s := s) (e := e) HMid.out.symm (by have h := HLo.out; simpa using h) HG.out.1 HG.out.2.1 HG.out.2.2.1 HG.out.2.2.2.1 HG.out.2.2.2.2 HL1.out HA.out HA2.out HC.out HC2.out, HR3.out, HB3.out⟩
            · obtain ⟨l3, hl3E⟩ : ∃ l3, l3 = l2 := ⟨_, rfl⟩
              have HR3 := HR2
              have HB3 := HB2
              have hl3 := hl2
              rw [← hl3E] at HR3 hl3
              have HC := Lib.hid (show ¬ (mid < e ∧ e < b) → l3 = l2 from fun _ => hl3E)
              have HC2 := Lib.hid (show mid < e ∧ e < b → Sym (aheadB ev) 0 mid e b l2 l3 from fun h => absurd h (fun h => c52 h.2))
              clear hl3E
              go_wp2_with fail
              go_end0
              exact ⟨l3, rfl, hl3, Sym.gen (mid := mid) (lo := lo) (hi := mid) (s := s) (e := e) HMid.out.symm (by have h := HLo.out; simpa using h) HG.out.1 HG.out.2.1 HG.out.2.2.1 HG.out.2.2.2.1 HG.out.2.2.2.2 HL1.out HA.out HA2.out HC.out HC2.out, HR3.out, HB3.out⟩
          · obtain ⟨l2, hl2E⟩ : ∃ l2, l2 = l1 := ⟨_, rfl⟩
            have HR2 := HR1
            have HB2 := HB1
            have hl2 := hl1
            rw [← hl2E] at HR2 hl2
            have HA := Lib.hid (show ¬ (a < s ∧ s < mid) → l2 = l1 from fun _ => hl2E)
            have HA2 := Lib.hid (show a < s ∧ s < mid → Sym (aheadB ev) 0 a s mid l1 l2 from fun h => absurd h (fun h => c32 h.2))
            clear hl2E
            go_upto_region 43 with fail
            rcases (show (mid < e ∧ e < b) ∨ ¬ mid < e ∨ (mid < e ∧ ¬ e < b) by omega) with ⟨c51, c52⟩ | c51 | ⟨c51, c52⟩
            · have hc := fun W hW => HRec.out mid e b l2 W (by have := HMb.out; omega) hW c51 c52 (by rw [hl2]; exact hb) hl2
              have HC9 := Lib.hid hc
              clear hc
              go_wp2_with (first | fail | (go_at_call 56; refine (HC9.out _ HR2.out).mono ?_; rintro e9 w9 ⟨l3, rfl, hlen, hS, hR, hb9⟩; have HR3 := Lib.hid hR; have HB3 := Lib.hid (HB2.out.trans hb9); have HS9 := Lib.hid hS; have hl9 := hlen.trans hl2; clear hlen hS hR hb9))
              have hl3 := hl9
              have HC := Lib.hid (show ¬ (mid < e ∧ e < b) → l3 = l2 from fun h => absurd ⟨c51, c52⟩ h)
              have HC2 := Lib.hid (show mid < e ∧ e < b → Sym (aheadB ev) 0 mid e b l2 l3 from fun _ => HS9.out)
              go_end0
              exact ⟨l3, rfl, hl3, Sym.gen (mid := mid) (lo := lo) (hi := mid) (s := s) (e := e) HMid.out.symm (by have h := HLo.out; simpa using h) HG.out.1 HG.out.2.1 HG.out.2.2.1 HG.out.2.2.2.1 HG.out.2.2.2.2 HL1.out HA.out HA2.out HC.out HC2.out, HR3.out, HB3.out⟩
            · obtain ⟨l3, hl3E⟩ : ∃ l3, l3 = l2 := ⟨_, rfl⟩
              have HR3 := HR2
              have HB3 := HB2
              have hl3 := hl2
              rw [← hl3E] at HR3 hl3
              have HC := Lib.hid (show ¬ (mid < e ∧ e < b) → l3 = l2 from fun _ => hl3E)
              have HC2 := Lib.hid (show mid < e ∧ e < b → Sym (aheadB ev) 0 mid e b l2 l3 from fun h => absurd h (fun h => c51 h.1))
              clear hl3E
              go_wp2_with fail
              go_end0
              exact ⟨l3, rfl, hl3, Sym.gen (mid := mid) (lo := lo) (hi := mid) (s := s) (e := e) HMid.out.symm (by have h := HLo.out; simpa using h) HG.out.1 HG.out.2.1 HG.out.2.2.1 HG.out.2.2.2.1 HG.out.2.2.2.2 HL1.out HA.out HA2.out HC.out HC2.out, HR3.out, HB3.out⟩
            · obtain ⟨l3, hl3E⟩ : ∃ l3, l3 = l2 := ⟨_, rfl⟩
              have HR3 := HR2
              have HB3 := HB2
              have hl3 := hl2
              rw [← hl3E] at HR3 hl3
              have HC := Lib.hid (show ¬ (mid < e ∧ e < b) → l3 = l2 from fun _ => hl3E)
              have HC2 := Lib.hid (show mid < e ∧ e < b → Sym (aheadB ev) 0 mid e b l2 l3 from fun h => absurd h (fun h => c52 h.2))
              clear hl3E
              go_wp2_with fail
              go_end0
              exact ⟨l3, rfl, hl3, Sym.gen (mid := mid) (lo := lo) (hi := mid) (s := s) (e := e) HMid.out.symm (by have h := HLo.out; simpa using h) HG.out.1 HG.out.2.1 HG.out.2.2.1 HG.out.2.2.2.1 HG.out.2.2.2.2 HL1.out HA.out HA2.out HC.out HC2.out, HR3.out, HB3.out⟩
        · obtain ⟨l1, hl1E⟩ : ∃ l1, l1 = l := ⟨_, rfl⟩
          have HR1 := HRy
          have HB1 := HBy
          have hl1 : l1.length = l.length := by rw [hl1E]
          have HL1 := Lib.hid (show s < m ∧ m < e ∧ l1 = rotL l s m e ∨ ¬ (s < m ∧ m < e) ∧ l1 = l from Or.inr ⟨(fun h => c12 h.2), hl1E⟩)
          rw [← hl1E] at HR1
          clear hl1E
          go_upto_region 41 with fail
          rcases (show (a < s ∧ s < mid) ∨ ¬ a < s ∨ (a < s ∧ ¬ s < mid) by omega) with ⟨c31, c32⟩ | c31 | ⟨c31, c32⟩
          · have hc := fun W hW => HRec.out a s mid l1 W (by have := HMb.out; omega) hW c31 c32 (by rw [hl1]; have := HMb.out; omega) hl1
            have HC9 := Lib.hid hc
            clear hc
            go_upto_region 43 with (first | fail | (go_at_call 56; refine (HC9.out _ HR1.out).mono ?_; rintro e9 w9 ⟨l2, rfl, hlen, hS, hR, hb9⟩; have HR2 := Lib.hid hR; have HB2 := Lib.hid (HB1.out.trans hb9); have HS9 := Lib.hid hS; have hl9 := hlen.trans hl1; clear hlen hS hR hb9))
            have hl2 := hl9
            have HA := Lib.hid (show ¬ (a < s ∧ s < mid) → l2 = l1 from fun h => absurd ⟨c31, c32⟩ h)
            have HA2 := Lib.hid (show a < s ∧ s < mid → Sym (aheadB ev) 0 a s mid l1 l2 from fun _ => HS9.out)
            clear c31 c32 hl9 HS9
            rcases (show (mid < e ∧ e < b) ∨ ¬ mid < e ∨ (mid < e ∧ ¬ e < b) by omega) with ⟨c51, c52⟩ | c51 | ⟨c51, c52⟩
            · have hc := fun W hW => HRec.out mid e b l2 W (by have := HMb.out; omega) hW c51 c52 (by rw [hl2]; exact hb) hl2
              have HC9 := Lib.hid hc
              clear hc
              go_wp2_with (first | fail | (go_at_call 56; refine (HC9.out _ HR2.out).mono ?_; rintro e9 w9 ⟨l3, rfl, hlen, hS, hR, hb9⟩; have HR3 := Lib.hid hR; have HB3 := Lib.hid (HB2.out.trans hb9); have HS9 := Lib.hid hS; have hl9 := hlen.trans hl2; clear hlen hS hR hb9))
              have hl3 := hl9
              have HC := Lib.hid (show ¬ (mid < e ∧ e < b) → l3 = l2 from fun h => absurd ⟨c51, c52⟩ h)
              have HC2 := Lib.hid (show mid < e ∧ e < b → Sym (aheadB ev) 0 mid e b l2 l3 from fun _ => HS9.out)
              go_end0
              exact ⟨l3, rfl, hl3, Sym.gen (mid := mid) (lo := lo) (hi := mid) (s := s) (e := e) HMid.out.symm (by have h := HLo.out; simpa using h) HG.out.1 HG.out.2.1 HG.out.2.2.1 HG.out.2.2.2.1 HG.out.2.2.2.2 HL1.out HA.out HA2.out HC.out HC2.out, HR3.out, HB3.out⟩
            · obtain ⟨l3, hl3E⟩ : ∃ l3, l3 = l2 := ⟨_, rfl⟩
              have HR3 := HR2
              have HB3 := HB2
              have hl3 := hl2
              rw [← hl3E] at HR3 hl3
              have HC := Lib.hid (show ¬ (mid < e ∧ e < b) → l3 = l2 from fun _ => hl3E)
              have HC2 := Lib.hid (show mid < e ∧ e < b → Sym (aheadB ev) 0 mid e b l2 l3 from fun h => absurd h (fun h => c51 h.1))
              clear hl3E
              go_wp2_with fail
              go_end0
              exact ⟨l3, rfl, hl3, Sym.gen (mid := mid) (lo := lo) (hi := mid) (s := s) (e := e) HMid.out.symm (by have h := HLo.out; simpa using h) HG.out.1 HG.out.2.1 HG.out.2.2.1 HG.out.2.2.2.1 HG.out.2.2.2.2 HL1.out HA.out HA2.out HC.out HC2.out, HR3.out, HB3.out⟩
            · obtain ⟨l3, hl3E⟩ : ∃ l3, l3 = l2 := ⟨_, rfl⟩
              have HR3 := HR2
              have HB3 := HB2
              have hl3 := hl2
              rw [← hl3E] at HR3 hl3
              have HC := Lib.hid (show ¬ (mid < e ∧ e < b) → l3 = l2 from fun _ => hl3E)
              have HC2 := Lib.hid (show mid < e ∧ e < b → Sym (aheadB ev) 0 mid e b l2 l3 from fun h => absurd h (fun h => c52 h.2))
              clear hl3E
              go_wp2_with fail
              go_end0
              exact ⟨l3, rfl, hl3, Sym.gen (mid := mid) (lo := lo) (hi := mid) (s := s) (e := e) HMid.out.symm (by have h := HLo.out; simpa using h) HG.out.1 HG.out.2.1 HG.out.2.2.1 HG.out.2.2.2.1 HG.out.2.2.2.2 HL1.out HA.out HA2.out HC.out HC2.out, HR3.out, HB3.out⟩
          · obtain ⟨l2, hl2E⟩ : ∃ l2, l2 = l1 := ⟨_, rfl⟩
            have HR2 := HR1
            have HB2 := HB1
            have hl2 := hl1
            rw [← hl2E] at HR2 hl2
            have HA := Lib.hid (show ¬ (a < s ∧ s < mid) → l2 = l1 from fun _ => hl2E)
            have HA2 := Lib.hid (show a < s ∧ s < mid → Sym (aheadB ev) 0 a s mid l1 l2 from fun h => absurd h (fun h => c31 h.1))
            clear hl2E
            go_upto_region 43 with fail
            rcases (show (mid < e ∧ e < b) ∨ ¬ mid < e ∨ (mid < e ∧ ¬ e < b) by omega) with ⟨c51, c52⟩ | c51 | ⟨c51, c52⟩
            · have hc := fun W hW => HRec.out mid e b l2 W (by have := HMb.out; omega) hW c51 c52 (by rw [hl2]; exact hb) hl2
              have HC9 := Lib.hid hc
              clear hc
              go_wp2_with (first | fail | (go_at_call 56; refine (HC9.out _ HR2.out).mono ?_; rintro e9 w9 ⟨l3, rfl, hlen, hS, hR, hb9⟩; have HR3 := Lib.hid hR; have HB3 := Lib.hid (HB2.out.trans hb9); have HS9 := Lib.hid hS; have hl9 := hlen.trans hl2; clear hlen hS hR hb9))
              have hl3 := hl9
              have HC := Lib.hid (show ¬ (mid < e ∧ e < b) → l3 = l2 from fun h => absurd ⟨c51, c52⟩ h)
              have HC2 := Lib.hid (show mid < e ∧ e < b → Sym (aheadB ev) 0 mid e b l2 l3 from fun _ => HS9.out)
              go_end0
              exact ⟨l3, rfl, hl3, Sym.gen (mid := mid) (lo := lo) (hi := mid) (s := s) (e := e) HMid.out.symm (by have h := HLo.out; simpa using h) HG.out.1 HG.out.2.1 HG.out.2.2.1 HG.out.2.2.2.1 HG.out.2.2.2.2 HL1.out HA.out HA2.out HC.out HC2.out, HR3.out, HB3.out⟩
            · obtain ⟨l3, hl3E⟩ : ∃ l3, l3 = l2 := ⟨_, rfl⟩
              have HR3 := HR2
              have HB3 := HB2
              have hl3 := hl2
              rw [← hl3E] at HR3 hl3
              have HC := Lib.hid (show ¬ (mid < e ∧ e < b) → l3 = l2 from fun _ => hl3E)
              have HC2 := Lib.hid (show mid < e ∧ e < b → Sym (aheadB ev) 0 mid e b l2 l3 from fun h => absurd h (fun h => c51 h.1))
              clear hl3E
              go_wp2_with fail
              go_end0
              exact ⟨l3, rfl, hl3, Sym.gen (mid := mid) (lo := lo) (hi := mid) (s := s) (e := e) HMid.out.symm (by have h := HLo.out; simpa using h) HG.out.1 HG.out.2.1 HG.out.2.2.1 HG.out.2.2.2.1 HG.out.2.2.2.2 HL1.out HA.out HA2.out HC.out HC2.out, HR3.out, HB3.out⟩
            · obtain ⟨l3, hl3E⟩ : ∃ l3, l3 = l2 := ⟨_, rfl⟩
              have HR3 := HR2
              have HB3 := HB2
              have hl3 := hl2
              rw [← hl3E] at HR3 hl3
              have HC := Lib.hid (show ¬ (mid < e ∧ e < b) → l3 = l2 from fun _ => hl3E)
              have HC2 := Lib.hid (show mid < e ∧ e < b → Sym (aheadB ev) 0 mid e b l2 l3 from fun h => absurd h (fun h => c52 h.2))
              clear hl3E
              go_wp2_with fail
              go_end0
              exact ⟨l3, rfl, hl3, Sym.gen (mid := mid) (lo := lo) (hi := mid) (s := s) (e := e) HMid.out.symm (by have h := HLo.out; simpa using h) HG.out.1 HG.out.2.1 HG.out.2.2.1 HG.out.2.2.2.1 HG.out.2.2.2.2 HL1.out HA.out HA2.out HC.out HC2.out, HR3.out, HB3.out⟩
          · obtain ⟨l2, hl2E⟩ : ∃ l2, l2 = l1 := ⟨_, rfl⟩
            have HR2 := HR1
            have HB2 := HB1
            have hl2 := hl1
            rw [← hl2E] at HR2 hl2
            have HA := Lib.hid (show ¬ (a < s ∧ s < mid) → l2 = l1 from fun _ => hl2E)
            have HA2 := Lib.hid (show a < s ∧ s < mid → Sym (aheadB ev) 0 a s mid l1 l2 from fun h => absurd h (fun h => c32 h.2))
            clear hl2E
            go_upto_region 43 with fail
            rcases (show (mid < e ∧ e < b) ∨ ¬ mid < e ∨ (mid < e ∧ ¬ e < b) by omega) with ⟨c51, c52⟩ | c51 | ⟨c51, c52⟩
            · have hc := fun W hW => HRec.out mid e b l2 W (by have := HMb.out; omega) hW c51 c52 (by rw [hl2]; exact hb) hl2
              have HC9 := Lib.hid hc
              clear hc
              go_wp2_with (first | fail | (go_at_call 56; refine (HC9.out _ HR2.out).mono ?_; rintro e9 w9 ⟨l3, rfl, hlen, hS, hR, hb9⟩; have HR3 := Lib.hid hR; have HB3 := Lib.hid (HB2.out.trans hb9); have HS9 := Lib.hid hS; have hl9 := hlen.trans hl2; clear hlen hS hR hb9))
              have hl3 := hl9
              have HC := Lib.hid (show ¬ (mid < e ∧ e < b) → l3 = l2 from fun h => absurd ⟨c51, c52⟩ h)
              have HC2 := Lib.hid (show mid < e ∧ e < b → Sym (aheadB ev) 0 mid e b l2 l3 from fun _ => HS9.out)
              go_end0
              exact ⟨l3, rfl, hl3, Sym.gen (mid := mid) (lo := lo) (hi := mid) (s := s) (e := e) HMid.out.symm (by have h := HLo.out; simpa using h) HG.out.1 HG.out.2.1 HG.out.2.2.1 HG.out.2.2.2.1 HG.out.2.2.2.2 HL1.out HA.out HA2.out HC.out HC2.out, HR3.out, HB3.out⟩
            · obtain ⟨l3, hl3E⟩ : ∃ l3, l3 = l2 := ⟨_, rfl⟩
              have HR3 := HR2
              have HB3 := HB2
              have hl3 := hl2
              rw [← hl3E] at HR3 hl3
              have HC := Lib.hid (show ¬ (mid < e ∧ e < b) → l3 = l2 from fun _ => hl3E)
              have HC2 := Lib.hid (show mid < e ∧ e < b → Sym (aheadB ev) 0 mid e b l2 l3 from fun h => absurd h (fun h => c51 h.1))
              clear hl3E
              go_wp2_with fail
              go_end0
              exact ⟨l3, rfl, hl3, Sym.gen (mid := mid) (lo := lo) (hi := mid) (s := s) (e := e) HMid.out.symm (by have h := HLo.out; simpa using h) HG.out.1 HG.out.2.1 HG.out.2.2.1 HG.out.2.2.2.1 HG.out.2.2.2.2 HL1.out HA.out HA2.out HC.out HC2.out, HR3.out, HB3.out⟩
            · obtain ⟨l3, hl3E⟩ : ∃ l3, l3 = l2 := ⟨_, rfl⟩
              have HR3 := HR2
              have HB3 := HB2
              have hl3 := hl2
              rw [← hl3E] at HR3 hl3
              have HC := Lib.hid (show ¬ (mid < e ∧ e < b) → l3 = l2 from fun _ => hl3E)
              have HC2 := Lib.hid (show mid < e ∧ e < b → Sym (aheadB ev) 0 mid e b l2 l3 from fun h => absurd h (fun h => c52 h.2))
              clear hl3E
              go_wp2_with fail
              go_end0
              exact ⟨l3, rfl, hl3, Sym.gen (mid := mid) (lo := lo) (hi := mid) (s := s) (e := e) HMid.out.symm (by have h := HLo.out; simpa using h) HG.out.1 HG.out.2.1 HG.out.2.2.1 HG.out.2.2.2.1 HG.out.2.2.2.2 HL1.out HA.out HA2.out HC.out HC2.out, HR3.out, HB3.out⟩
  · have hd : decide ((mid : Int) < (m : Int)) = false := decide_eq_false (by omega)
    have HLo := Lib.hid (show m ≤ mid ∧ a = a ∧ m = m ∨ mid < m ∧ a = mid + m - b ∧ m = mid from Or.inl ⟨by omega, rfl, rfl⟩)
    have HBn := Lib.hid (show a ≤ m ∧ a ≤ a ∧ m ≤ m ∧ m ≤ mid ∧ nn ≤ b + a ∧ m + m ≤ nn ∧ nn ≤ 2 * b by have := HNn.out; have := HMid.out; omega)
    go_enter Tryd.func56, Tryd.ntmps56
    go_upto_region 33 with fail
    clear hgt hd h3 h4 hmI hmI2 hnI hpI'
    go_loopw [20, 21] (fun v20 v21 wx => ∃ s r : Nat, v20 = .int .i64 s ∧ v21 = .int .i64 r ∧ a ≤ s ∧ s ≤ r ∧ r ≤ m ∧ Hid (s = a ∨ (aheadB ev) (l.getD (nn - s) 0) (l.getD (s - 1) 0) = false) ∧ Hid (r = m ∨ (aheadB ev) (l.getD (nn - r - 1) 0) (l.getD r 0) = true) ∧ Hid (Rw ev wx g l) ∧ Hid (Below B w wx)) (fun v20 v21 _ => (intOf v21).toNat - (intOf v20).toNat)
    case atStart => exact ⟨a, m, rfl, rfl, Nat.le_refl _, HBn.out.1, Nat.le_refl _, Lib.hid (Or.inl rfl), Lib.hid (Or.inl rfl), HR, Lib.hid (Below.refl _ _)⟩
    case round =>
      obtain ⟨s, r, rfl, rfl, hs1, hs2, hs3, H1, H2, HRy, HBy⟩ := hrel
      by_cases hlt : s < r
      · obtain ⟨k, hk, hk1, hk2⟩ : ∃ k : Nat, (s + r) / 2 = k ∧ s ≤ k ∧ k < r := ⟨_, rfl, by omega, by omega⟩
        have hkI : (((s + r) / 2 : Nat) : Int) = (k : Int) := by rw [hk]
        have hkI2 : ((s : Int) + (r : Int)) / 2 = (k : Int) := by omega
        have hkb : k < m ∧ pp - k < b ∧ k ≤ pp := by have := HBn.out; have := HPp.out; omega
        obtain ⟨q, hq⟩ : ∃ q, pp - k = q := ⟨_, rfl⟩
        have hqI' : (pp : Int) - (k : Int) = (q : Int) := by omega
        have hww : IntKind.i64.wrap (q : Int) = (q : Int) := IntWalk.i64_in _ (by omega)
        have hw1 : IntKind.i64.wrap ((pp : Int) - (k : Int)) = (q : Int) := by rw [hqI']; exact hww
        have HQ := Lib.hid (show nn = q + k + 1 by have := HPp.out; omega)
        have HKb := Lib.hid (show s ≤ k ∧ k < r from ⟨hk1, hk2⟩)
        have hqb : q < b := by omega
        have hkm : k < b := by omega
        clear hww hqI' hq
        have hpl : q < l.length := by omega
        have hql : k < l.length := by omega
        have p0 := HRy.out.c q hpl
        have q0 := HRy.out.c k hql
        have hpI : ((q : Nat) : Int) < (l.length : Int) := by omega
        have hqI : ((k : Nat) : Int) < (l.length : Int) := by omega
        obtain ⟨cp, hcpE⟩ : ∃ cp, l.getD q 0 = cp := ⟨_, rfl⟩
        obtain ⟨cq, hcqE⟩ : ∃ cq, l.getD k 0 = cq := ⟨_, rfl⟩
        rw [hcpE] at p0 
        rw [hcqE] at q0 
        have hcmp := fun r => ahead_row HRy.out hpl hql r
        rw [hcpE, hcqE] at hcmp
        have hord := aheadI_lt ev cp cq
        have HCp := Lib.hid hcpE
        have HCq := Lib.hid hcqE
        clear hcpE hcqE
        generalize aheadI ev cp cq = o at hcmp hord
        have HCm := Lib.hid hcmp
        have HOr := Lib.hid hord
        clear hcmp hord
        have g0 : ∀ r : BelowBy wr, r.W.cell? ⟨g, q, none⟩ = some (.int .i64 (cp : Nat)) := fun r => r.cell p0
        have g3 : ∀ r : BelowBy wr, r.W.cell? ⟨g, k, none⟩ = some (.int .i64 (cq : Nat)) := fun r => r.cell q0
        clear p0 q0 
        go_upto_region 35 with fail
        clear hkI hkI2 hk
        cases hab2 : (aheadB ev) cp cq
        · have ho : decide (o < 0) = false := HOr.out.trans hab2
          refine region_below (by kernel_rfl) (by kernel_rfl) ?_
          repeat (quiet_step (with_reducible first | exact HCm.out _ | fail))
          refine wpQuiet_nil ?_
          rintro _ ⟨r5, rfl⟩
          have HRr := Lib.hid (HRy.out.below r5.h)
          have HBr := Lib.hid (HBy.out.trans (r5.h.mono (Nat.le_trans hB (Nat.le_of_lt HRy.out.s))))
          clear g0 g3
          have HN := Lib.hid (show k + 1 = a ∨ (aheadB ev) (l.getD (nn - (k + 1)) 0) (l.getD (k + 1 - 1) 0) = false from Or.inr (by rw [Nat.add_sub_cancel, show nn - (k + 1) = q from by have := HQ.out; omega, HCp.out, HCq.out]; exact hab2))
          clear hab2 hw1
          go_wp2_with fail
          refine ⟨⟨k + 1, r, by simp, rfl, by omega, by omega, hs3, HN, H2, HRr, HBr⟩, by simp [intOf]; omega⟩
        · have ho : decide (o < 0) = true := HOr.out.trans hab2
          refine region_below (by kernel_rfl) (by kernel_rfl) ?_
          repeat (quiet_step (with_reducible first | exact HCm.out _ | fail))
          refine wpQuiet_nil ?_
          rintro _ ⟨r5, rfl⟩
          have HRr := Lib.hid (HRy.out.below r5.h)
          have HBr := Lib.hid (HBy.out.trans (r5.h.mono (Nat.le_trans hB (Nat.le_of_lt HRy.out.s))))
          clear g0 g3
          have HN := Lib.hid (show k = m ∨ (aheadB ev) (l.getD (nn - k - 1) 0) (l.getD k 0) = true from Or.inr (by rw [show nn - k - 1 = q from by have := HQ.out; omega, HCp.out, HCq.out]; exact hab2))
          clear hab2 hw1
          go_wp2_with fail
          refine ⟨⟨s, k, rfl, rfl, hs1, hk1, by omega, H1, HN, HRr, HBr⟩, by simp [intOf]; omega⟩
      · obtain rfl : s = r := by omega
        obtain ⟨e, he⟩ : ∃ e, nn - s = e := ⟨_, rfl⟩
        have hse : s ≤ m ∧ m ≤ e ∧ e ≤ b ∧ a ≤ s := by have := HBn.out; omega
        obtain ⟨hsm, hme, heb, has⟩ := hse
        have heI : (nn : Int) - (s : Int) = (e : Int) := by have := HBn.out; omega
        have HG := Lib.hid (show a ≤ s ∧ s ≤ m ∧ e = mid + m - s ∧ (s = a ∨ (aheadB ev) (l.getD e 0) (l.getD (s - 1) 0) = false) ∧ (s = m ∨ (aheadB ev) (l.getD (e - 1) 0) (l.getD s 0) = true) from ⟨hs1, hs3, by have := HNn.out; omega, by rw [← he]; exact H1.out, by rw [← he]; exact H2.out⟩)
        clear he hs1 hs2 hs3 hlt H1 H2
        go_upto_region 39 with fail
        clear heI
        rcases (show (s < m ∧ m < e) ∨ ¬ s < m ∨ (s < m ∧ ¬ m < e) by omega) with ⟨c11, c12⟩ | c11 | ⟨c11, c12⟩
        · have hc := fun W hW => rotate_any ev B g cap s m e l W hW hB c11 c12 (by omega) hl
          have hl1' := rotL_length l (a := s) (m := m) (b := e) (Nat.le_of_lt c11) (Nat.le_of_lt c12) (by omega)
          have hl1E' := Or.inl (b := ¬ (s < m ∧ m < e) ∧ rotL l s m e = l) (show s < m ∧ m < e ∧ rotL l s m e = rotL l s m e from ⟨c11, c12, rfl⟩)
          generalize hrt : rotL l s m e = l1 at *
          have HC9 := Lib.hid hc
          have hl1 := hl1'
          have HL1 := Lib.hid (show s < m ∧ m < e ∧ l1 = rotL l s m e ∨ ¬ (s < m ∧ m < e) ∧ l1 = l from Or.inl ⟨c11, c12, hrt.symm⟩)
          clear hc hl1' hl1E' hrt
          go_upto_region 41 with (first | fail | (go_at_call 59; refine (HC9.out _ HRy.out).mono ?_; rintro e9 w9 ⟨rfl, hR, hb9⟩; have HR1 := Lib.hid hR; have HB1 := Lib.hid (HBy.out.trans hb9); clear hR hb9))
          clear c11 c12
          rcases (show (a < s ∧ s < mid) ∨ ¬ a < s ∨ (a < s ∧ ¬ s < mid) by omega) with ⟨c31, c32⟩ | c31 | ⟨c31, c32⟩
          · have hc := fun W hW => HRec.out a s mid l1 W (by have := HMb.out; omega) hW c31 c32 (by rw [hl1]; have := HMb.out; omega) hl1
            have HC9 := Lib.hid hc
            clear hc
            go_upto_region 43 with (first | fail | (go_at_call 56; refine (HC9.out _ HR1.out).mono ?_; rintro e9 w9 ⟨l2, rfl, hlen, hS, hR, hb9⟩; have HR2 := Lib.hid hR; have HB2 := Lib.hid (HB1.out.trans hb9); have HS9 := Lib.hid hS; have hl9 := hlen.trans hl1; clear hlen hS hR hb9))
            have hl2 := hl9
            have HA := Lib.hid (show ¬ (a < s ∧ s < mid) → l2 = l1 from fun h => absurd ⟨c31, c32⟩ h)
            have HA2 := Lib.hid (show a < s ∧ s < mid → Sym (aheadB ev) 0 a s mid l1 l2 from fun _ => HS9.out)
            clear c31 c32 hl9 HS9
            rcases (show (mid < e ∧ e < b) ∨ ¬ mid < e ∨ (mid < e ∧ ¬ e < b) by omega) with ⟨c51, c52⟩ | c51 | ⟨c51, c52⟩
            · have hc := fun W hW => HRec.out mid e b l2 W (by have := HMb.out; omega) hW c51 c52 (by rw [hl2]; exact hb) hl2
              have HC9 := Lib.hid hc
              clear hc
              go_wp2_with (first | fail | (go_at_call 56; refine (HC9.out _ HR2.out).mono ?_; rintro e9 w9 ⟨l3, rfl, hlen, hS, hR, hb9⟩; have HR3 := Lib.hid hR; have HB3 := Lib.hid (HB2.out.trans hb9); have HS9 := Lib.hid hS; have hl9 := hlen.trans hl2; clear hlen hS hR hb9))
              have hl3 := hl9
              have HC := Lib.hid (show ¬ (mid < e ∧ e < b) → l3 = l2 from fun h => absurd ⟨c51, c52⟩ h)
              have HC2 := Lib.hid (show mid < e ∧ e < b → Sym (aheadB ev) 0 mid e b l2 l3 from fun _ => HS9.out)
              go_end0
              exact ⟨l3, rfl, hl3, Sym.gen (mid := mid) (lo := a) (hi := m) (s := s) (e := e) HMid.out.symm (by have h := HLo.out; simpa using h) HG.out.1 HG.out.2.1 HG.out.2.2.1 HG.out.2.2.2.1 HG.out.2.2.2.2 HL1.out HA.out HA2.out HC.out HC2.out, HR3.out, HB3.out⟩
            · obtain ⟨l3, hl3E⟩ : ∃ l3, l3 = l2 := ⟨_, rfl⟩
              have HR3 := HR2
              have HB3 := HB2
              have hl3 := hl2
              rw [← hl3E] at HR3 hl3
              have HC := Lib.hid (show ¬ (mid < e ∧ e < b) → l3 = l2 from fun _ => hl3E)
              have HC2 := Lib.hid (show mid < e ∧ e < b → Sym (aheadB ev) 0 mid e b l2 l3 from fun h => absurd h (fun h => c51 h.1))
              clear hl3E
              go_wp2_with fail
              go_end0
              exact ⟨l3, rfl, hl3, Sym.gen (mid := mid) (lo := a) (hi := m) (s := s) (e := e) HMid.out.symm (by have h := HLo.out; simpa using h) HG.out.1 HG.out.2.1 HG.out.2.2.1 HG.out.2.2.2.1 HG.out.2.2.2.2 HL1.out HA.out HA2.out HC.out HC2.out, HR3.out, HB3.out⟩
            · obtain ⟨l3, hl3E⟩ : ∃ l3, l3 = l2 := ⟨_, rfl⟩
              have HR3 := HR2
              have HB3 := HB2
              have hl3 := hl2
              rw [← hl3E] at HR3 hl3
              have HC := Lib.hid (show ¬ (mid < e ∧ e < b) → l3 = l2 from fun _ => hl3E)
              have HC2 := Lib.hid (show mid < e ∧ e < b → Sym (aheadB ev) 0 mid e b l2 l3 from fun h => absurd h (fun h => c52 h.2))
              clear hl3E
              go_wp2_with fail
              go_end0
              exact ⟨l3, rfl, hl3, Sym.gen (mid := mid) (lo := a) (hi := m) (s := s) (e := e) HMid.out.symm (by have h := HLo.out; simpa using h) HG.out.1 HG.out.2.1 HG.out.2.2.1 HG.out.2.2.2.1 HG.out.2.2.2.2 HL1.out HA.out HA2.out HC.out HC2.out, HR3.out, HB3.out⟩
          · obtain ⟨l2, hl2E⟩ : ∃ l2, l2 = l1 := ⟨_, rfl⟩
            have HR2 := HR1
            have HB2 := HB1
            have hl2 := hl1
            rw [← hl2E] at HR2 hl2
            have HA := Lib.hid (show ¬ (a < s ∧ s < mid) → l2 = l1 from fun _ => hl2E)
            have HA2 := Lib.hid (show a < s ∧ s < mid → Sym (aheadB ev) 0 a s mid l1 l2 from fun h => absurd h (fun h => c31 h.1))
            clear hl2E
            go_upto_region 43 with fail
            rcases (show (mid < e ∧ e < b) ∨ ¬ mid < e ∨ (mid < e ∧ ¬ e < b) by omega) with ⟨c51, c52⟩ | c51 | ⟨c51, c52⟩
            · have hc := fun W hW => HRec.out mid e b l2 W (by have := HMb.out; omega) hW c51 c52 (by rw [hl2]; exact hb) hl2
              have HC9 := Lib.hid hc
              clear hc
              go_wp2_with (first | fail | (go_at_call 56; refine (HC9.out _ HR2.out).mono ?_; rintro e9 w9 ⟨l3, rfl, hlen, hS, hR, hb9⟩; have HR3 := Lib.hid hR; have HB3 := Lib.hid (HB2.out.trans hb9); have HS9 := Lib.hid hS; have hl9 := hlen.trans hl2; clear hlen hS hR hb9))
              have hl3 := hl9
              have HC := Lib.hid (show ¬ (mid < e ∧ e < b) → l3 = l2 from fun h => absurd ⟨c51, c52⟩ h)
              have HC2 := Lib.hid (show mid < e ∧ e < b → Sym (aheadB ev) 0 mid e b l2 l3 from fun _ => HS9.out)
              go_end0
              exact ⟨l3, rfl, hl3, Sym.gen (mid := mid) (lo := a) (hi := m) (s := s) (e := e) HMid.out.symm (by have h := HLo.out; simpa using h) HG.out.1 HG.out.2.1 HG.out.2.2.1 HG.out.2.2.2.1 HG.out.2.2.2.2 HL1.out HA.out HA2.out HC.out HC2.out, HR3.out, HB3.out⟩
            · obtain ⟨l3, hl3E⟩ : ∃ l3, l3 = l2 := ⟨_, rfl⟩
              have HR3 := HR2
              have HB3 := HB2
              have hl3 := hl2
              rw [← hl3E] at HR3 hl3
              have HC := Lib.hid (show ¬ (mid < e ∧ e < b) → l3 = l2 from fun _ => hl3E)
              have HC2 := Lib.hid (show mid < e ∧ e < b → Sym (aheadB ev) 0 mid e b l2 l3 from fun h => absurd h (fun h => c51 h.1))
              clear hl3E
              go_wp2_with fail
              go_end0
              exact ⟨l3, rfl, hl3, Sym.gen (mid := mid) (lo := a) (hi := m) (s := s) (e := e) HMid.out.symm (by have h := HLo.out; simpa using h) HG.out.1 HG.out.2.1 HG.out.2.2.1 HG.out.2.2.2.1 HG.out.2.2.2.2 HL1.out HA.out HA2.out HC.out HC2.out, HR3.out, HB3.out⟩
            · obtain ⟨l3, hl3E⟩ : ∃ l3, l3 = l2 := ⟨_, rfl⟩
              have HR3 := HR2
              have HB3 := HB2
              have hl3 := hl2
              rw [← hl3E] at HR3 hl3
              have HC := Lib.hid (show ¬ (mid < e ∧ e < b) → l3 = l2 from fun _ => hl3E)
              have HC2 := Lib.hid (show mid < e ∧ e < b → Sym (aheadB ev) 0 mid e b l2 l3 from fun h => absurd h (fun h => c52 h.2))
              clear hl3E
              go_wp2_with fail
              go_end0
              exact ⟨l3, rfl, hl3, Sym.gen (mid := mid) (lo := a) (hi := m) (s := s) (e := e) HMid.out.symm (by have h := HLo.out; simpa using h) HG.out.1 HG.out.2.1 HG.out.2.2.1 HG.out.2.2.2.1 HG.out.2.2.2.2 HL1.out HA.out HA2.out HC.out HC2.out, HR3.out, HB3.out⟩
          · obtain ⟨l2, hl2E⟩ : ∃ l2, l2 = l1 := ⟨_, rfl⟩
            have HR2 := HR1
            have HB2 := HB1
            have hl2 := hl1
            rw [← hl2E] at HR2 hl2
            have HA := Lib.hid (show ¬ (a < s ∧ s < mid) → l2 = l1 from fun _ => hl2E)
            have HA2 := Lib.hid (show a < s ∧ s < mid → Sym (aheadB ev) 0 a s mid l1 l2 from fun h => absurd h (fun h => c32 h.2))
            clear hl2E
            go_upto_region 43 with fail
            rcases (show (mid < e ∧ e < b) ∨ ¬ mid < e ∨ (mid < e ∧ ¬ e < b) by omega) with ⟨c51, c52⟩ | c51 | ⟨c51, c52⟩
            · have hc := fun W hW => HRec.out mid e b l2 W (by have := HMb.out; omega) hW c51 c52 (by rw [hl2]; exact hb) hl2
              have HC9 := Lib.hid hc
              clear hc
              go_wp2_with (first | fail | (go_at_call 56; refine (HC9.out _ HR2.out).mono ?_; rintro e9 w9 ⟨l3, rfl, hlen, hS, hR, hb9⟩; have HR3 := Lib.hid hR; have HB3 := Lib.hid (HB2.out.trans hb9); have HS9 := Lib.hid hS; have hl9 := hlen.trans hl2; clear hlen hS hR hb9))
              have hl3 := hl9
              have HC := Lib.hid (show ¬ (mid < e ∧ e < b) → l3 = l2 from fun h => absurd ⟨c51, c52⟩ h)
              have HC2 := Lib.hid (show mid < e ∧ e < b → Sym (aheadB ev) 0 mid e b l2 l3 from fun _ => HS9.out)
              go_end0
              exact ⟨l3, rfl, hl3, Sym.gen (mid := mid) (lo := a) (hi := m) (s := s) (e := e) HMid.out.symm (by have h := HLo.out; simpa using h) HG.out.1 HG.out.2.1 HG.out.2.2.1 HG.out.2.2.2.1 HG.out.2.2.2.2 HL1.out HA.out HA2.out HC.out HC2.out, HR3.out, HB3.out⟩
            · obtain ⟨l3, hl3E⟩ : ∃ l3, l3 = l2 := ⟨_, rfl⟩
              have HR3 := HR2
              have HB3 := HB2
              have hl3 := hl2
              rw [← hl3E] at HR3 hl3
              have HC := Lib.hid (show ¬ (mid < e ∧ e < b) → l3 = l2 from fun _ => hl3E)
              have HC2 := Lib.hid (show mid < e ∧ e < b → Sym (aheadB ev) 0 mid e b l2 l3 from fun h => absurd h (fun h => c51 h.1))
              clear hl3E
              go_wp2_with fail
              go_end0
              exact ⟨l3, rfl, hl3, Sym.gen (mid := mid) (lo := a) (hi := m) (s := s) (e := e) HMid.out.symm (by have h := HLo.out; simpa using h) HG.out.1 HG.out.2.1 HG.out.2.2.1 HG.out.2.2.2.1 HG.out.2.2.2.2 HL1.out HA.out HA2.out HC.out HC2.out, HR3.out, HB3.out⟩
            · obtain ⟨l3, hl3E⟩ : ∃ l3, l3 = l2 := ⟨_, rfl⟩
              have HR3 := HR2
              have HB3 := HB2
              have hl3 := hl2
              rw [← hl3E] at HR3 hl3
              have HC := Lib.hid (show ¬ (mid < e ∧ e < b) → l3 = l2 from fun _ => hl3E)
              have HC2 := Lib.hid (show mid < e ∧ e < b → Sym (aheadB ev) 0 mid e b l2 l3 from fun h => absurd h (fun h => c52 h.2))
              clear hl3E
              go_wp2_with fail
              go_end0
              exact ⟨l3, rfl, hl3, Sym.gen (mid := mid) (lo := a) (hi := m) (s := s) (e := e) HMid.out.symm (by have h := HLo.out; simpa using h) HG.out.1 HG.out.2.1 HG.out.2.2.1 HG.out.2.2.2.1 HG.out.2.2.2.2 HL1.out HA.out HA2.out HC.out HC2.out, HR3.out, HB3.out⟩
        · obtain ⟨l1, hl1E⟩ : ∃ l1, l1 = l := ⟨_, rfl⟩
          have HR1 := HRy
          have HB1 := HBy
          have hl1 : l1.length = l.length := by rw [hl1E]
          have HL1 := Lib.hid (show s < m ∧ m < e ∧ l1 = rotL l s m e ∨ ¬ (s < m ∧ m < e) ∧ l1 = l from Or.inr ⟨(fun h => c11 h.1), hl1E⟩)
          rw [← hl1E] at HR1
          clear hl1E
          go_upto_region 41 with fail
          rcases (show (a < s ∧ s < mid) ∨ ¬ a < s ∨ (a < s ∧ ¬ s < mid) by omega) with ⟨c31, c32⟩ | c31 | ⟨c31, c32⟩
          · have hc := fun W hW => HRec.out a s mid l1 W (by have := HMb.out; omega) hW c31 c32 (by rw [hl1]; have := HMb.out; omega) hl1
            have HC9 := Lib.hid hc
            clear hc
            go_upto_region 43 with (first | fail | (go_at_call 56; refine (HC9.out _ HR1.out).mono ?_; rintro e9 w9 ⟨l2, rfl, hlen, hS, hR, hb9⟩; have HR2 := Lib.hid hR; have HB2 := Lib.hid (HB1.out.trans hb9); have HS9 := Lib.hid hS; have hl9 := hlen.trans hl1; clear hlen hS hR hb9))
            have hl2 := hl9
            have HA := Lib.hid (show ¬ (a < s ∧ s < mid) → l2 = l1 from fun h => absurd ⟨c31, c32⟩ h)
            have HA2 := Lib.hid (show a < s ∧ s < mid → Sym (aheadB ev) 0 a s mid l1 l2 from fun _ => HS9.out)
            clear c31 c32 hl9 HS9
            rcases (show (mid < e ∧ e < b) ∨ ¬ mid < e ∨ (mid < e ∧ ¬ e < b) by omega) with ⟨c51, c52⟩ | c51 | ⟨c51, c52⟩
            · have hc := fun W hW => HRec.out mid e b l2 W (by have := HMb.out; omega) hW c51 c52 (by rw [hl2]; exact hb) hl2
              have HC9 := Lib.hid hc
              clear hc
              go_wp2_with (first | fail | (go_at_call 56; refine (HC9.out _ HR2.out).mono ?_; rintro e9 w9 ⟨l3, rfl, hlen, hS, hR, hb9⟩; have HR3 := Lib.hid hR; have HB3 := Lib.hid (HB2.out.trans hb9); have HS9 := Lib.hid hS; have hl9 := hlen.trans hl2; clear hlen hS hR hb9))
              have hl3 := hl9
              have HC := Lib.hid (show ¬ (mid < e ∧ e < b) → l3 = l2 from fun h => absurd ⟨c51, c52⟩ h)
              have HC2 := Lib.hid (show mid < e ∧ e < b → Sym (aheadB ev) 0 mid e b l2 l3 from fun _ => HS9.out)
              go_end0
              exact ⟨l3, rfl, hl3, Sym.gen (mid := mid) (lo := a) (hi := m) (s := s) (e := e) HMid.out.symm (by have h := HLo.out; simpa using h) HG.out.1 HG.out.2.1 HG.out.2.2.1 HG.out.2.2.2.1 HG.out.2.2.2.2 HL1.out HA.out HA2.out HC.out HC2.out, HR3.out, HB3.out⟩
            · obtain ⟨l3, hl3E⟩ : ∃ l3, l3 = l2 := ⟨_, rfl⟩
              have HR3 := HR2
              have HB3 := HB2
              have hl3 := hl2
              rw [← hl3E] at HR3 hl3
              have HC := Lib.hid (show ¬ (mid < e ∧ e < b) → l3 = l2 from fun _ => hl3E)
              have HC2 := Lib.hid (show mid < e ∧ e < b → Sym (aheadB ev) 0 mid e b l2 l3 from fun h => absurd h (fun h => c51 h.1))
              clear hl3E
              go_wp2_with fail
              go_end0
              exact ⟨l3, rfl, hl3, Sym.gen (mid := mid) (lo := a) (hi := m) (s := s) (e := e) HMid.out.symm (by have h := HLo.out; simpa using h) HG.out.1 HG.out.2.1 HG.out.2.2.1 HG.out.2.2.2.1 HG.out.2.2.2.2 HL1.out HA.out HA2.out HC.out HC2.out, HR3.out, HB3.out⟩
            · obtain ⟨l3, hl3E⟩ : ∃ l3, l3 = l2 := ⟨_, rfl⟩
              have HR3 := HR2
              have HB3 := HB2
              have hl3 := hl2
              rw [← hl3E] at HR3 hl3
              have HC := Lib.hid (show ¬ (mid < e ∧ e < b) → l3 = l2 from fun _ => hl3E)
              have HC2 := Lib.hid (show mid < e ∧ e < b → Sym (aheadB ev) 0 mid e b l2 l3 from fun h => absurd h (fun h => c52 h.2))
              clear hl3E
              go_wp2_with fail
              go_end0
              exact ⟨l3, rfl, hl3, Sym.gen (mid := mid) (lo := a) (hi := m) (s := s) (e := e) HMid.out.symm (by have h := HLo.out; simpa using h) HG.out.1 HG.out.2.1 HG.out.2.2.1 HG.out.2.2.2.1 HG.out.2.2.2.2 HL1.out HA.out HA2.out HC.out HC2.out, HR3.out, HB3.out⟩
          · obtain ⟨l2, hl2E⟩ : ∃ l2, l2 = l1 := ⟨_, rfl⟩
            have HR2 := HR1
            have HB2 := HB1
            have hl2 := hl1
            rw [← hl2E] at HR2 hl2
            have HA := Lib.hid (show ¬ (a < s ∧ s < mid) → l2 = l1 from fun _ => hl2E)
            have HA2 := Lib.hid (show a < s ∧ s < mid → Sym (aheadB ev) 0 a s mid l1 l2 from fun h => absurd h (fun h => c31 h.1))
            clear hl2E
            go_upto_region 43 with fail
            rcases (show (mid < e ∧ e < b) ∨ ¬ mid < e ∨ (mid < e ∧ ¬ e < b) by omega) with ⟨c51, c52⟩ | c51 | ⟨c51, c52⟩
            · have hc := fun W hW => HRec.out mid e b l2 W (by have := HMb.out; omega) hW c51 c52 (by rw [hl2]; exact hb) hl2
              have HC9 := Lib.hid hc
              clear hc
              go_wp2_with (first | fail | (go_at_call 56; refine (HC9.out _ HR2.out).mono ?_; rintro e9 w9 ⟨l3, rfl, hlen, hS, hR, hb9⟩; have HR3 := Lib.hid hR; have HB3 := Lib.hid (HB2.out.trans hb9); have HS9 := Lib.hid hS; have hl9 := hlen.trans hl2; clear hlen hS hR hb9))
              have hl3 := hl9
              have HC := Lib.hid (show ¬ (mid < e ∧ e < b) → l3 = l2 from fun h => absurd ⟨c51, c52⟩ h)
              have HC2 := Lib.hid (show mid < e ∧ e < b → Sym (aheadB ev) 0 mid e b l2 l3 from fun _ => HS9.out)
              go_end0
              exact ⟨l3, rfl, hl3, Sym.gen (mid := mid) (lo := a) (hi := m) (s := s) (e := e) HMid.out.symm (by have h := HLo.out; simpa using h) HG.out.1 HG.out.2.1 HG.out.2.2.1 HG.out.2.2.2.1 HG.out.2.2.2.2 HL1.out HA.out HA2.out HC.out HC2.out, HR3.out, HB3.out⟩
            · obtain ⟨l3, hl3E⟩ : ∃ l3, l3 = l2 := ⟨_, rfl⟩
              have HR3 := HR2
              have HB3 := HB2
              have hl3 := hl2
              rw [← hl3E] at HR3 hl3
              have HC := Lib.hid (show ¬ (mid < e ∧ e < b) → l3 = l2 from fun _ => hl3E)
              have HC2 := Lib.hid (show mid < e ∧ e < b → Sym (aheadB ev) 0 mid e b l2 l3 from fun h => absurd h (fun h => c51 h.1))
              clear hl3E
              go_wp2_with fail
              go_end0
              exact ⟨l3, rfl, hl3, Sym.gen (mid := mid) (lo := a) (hi := m) (s := s) (e := e) HMid.out.symm (by have h := HLo.out; simpa using h) HG.out.1 HG.out.2.1 HG.out.2.2.1 HG.out.2.2.2.1 HG.out.2.2.2.2 HL1.out HA.out HA2.out HC.out HC2.out, HR3.out, HB3.out⟩
            · obtain ⟨l3, hl3E⟩ : ∃ l3, l3 = l2 := ⟨_, rfl⟩
              have HR3 := HR2
              have HB3 := HB2
              have hl3 := hl2
              rw [← hl3E] at HR3 hl3
              have HC := Lib.hid (show ¬ (mid < e ∧ e < b) → l3 = l2 from fun _ => hl3E)
              have HC2 := Lib.hid (show mid < e ∧ e < b → Sym (aheadB ev) 0 mid e b l2 l3 from fun h => absurd h (fun h => c52 h.2))
              clear hl3E
              go_wp2_with fail
              go_end0
              exact ⟨l3, rfl, hl3, Sym.gen (mid := mid) (lo := a) (hi := m) (s := s) (e := e) HMid.out.symm (by have h := HLo.out; simpa using h) HG.out.1 HG.out.2.1 HG.out.2.2.1 HG.out.2.2.2.1 HG.out.2.2.2.2 HL1.out HA.out HA2.out HC.out HC2.out, HR3.out, HB3.out⟩
          · obtain ⟨l2, hl2E⟩ : ∃ l2, l2 = l1 := ⟨_, rfl⟩
            have HR2 := HR1
            have HB2 := HB1
            have hl2 := hl1
            rw [← hl2E] at HR2 hl2
            have HA := Lib.hid (show ¬ (a < s ∧ s < mid) → l2 = l1 from fun _ => hl2E)
            have HA2 := Lib.hid (show a < s ∧ s < mid → Sym (aheadB ev) 0 a s mid l1 l2 from fun h => absurd h (fun h => c32 h.2))
            clear hl2E
            go_upto_region 43 with fail
            rcases (show (mid < e ∧ e < b) ∨ ¬ mid < e ∨ (mid < e ∧ ¬ e < b) by omega) with ⟨c51, c52⟩ | c51 | ⟨c51, c52⟩
            · have hc := fun W hW => HRec.out mid e b l2 W (by have := HMb.out; omega) hW c51 c52 (by rw [hl2]; exact hb) hl2
              have HC9 := Lib.hid hc
              clear hc
              go_wp2_with (first | fail | (go_at_call 56; refine (HC9.out _ HR2.out).mono ?_; rintro e9 w9 ⟨l3, rfl, hlen, hS, hR, hb9⟩; have HR3 := Lib.hid hR; have HB3 := Lib.hid (HB2.out.trans hb9); have HS9 := Lib.hid hS; have hl9 := hlen.trans hl2; clear hlen hS hR hb9))
              have hl3 := hl9
              have HC := Lib.hid (show ¬ (mid < e ∧ e < b) → l3 = l2 from fun h => absurd ⟨c51, c52⟩ h)
              have HC2 := Lib.hid (show mid < e ∧ e < b → Sym (aheadB ev) 0 mid e b l2 l3 from fun _ => HS9.out)
              go_end0
              exact ⟨l3, rfl, hl3, Sym.gen (mid := mid) (lo := a) (hi := m) (s := s) (e := e) HMid.out.symm (by have h := HLo.out; simpa using h) HG.out.1 HG.out.2.1 HG.out.2.2.1 HG.out.2.2.2.1 HG.out.2.2.2.2 HL1.out HA.out HA2.out HC.out HC2.out, HR3.out, HB3.out⟩
            · obtain ⟨l3, hl3E⟩ : ∃ l3, l3 = l2 := ⟨_, rfl⟩
              have HR3 := HR2
              have HB3 := HB2
              have hl3 := hl2
              rw [← hl3E] at HR3 hl3
              have HC := Lib.hid (show ¬ (mid < e ∧ e < b) → l3 = l2 from fun _ => hl3E)
              have HC2 := Lib.hid (show mid < e ∧ e < b → Sym (aheadB ev) 0 mid e b l2 l3 from fun h => absurd h (fun h => c51 h.1))
              clear hl3E
              go_wp2_with fail
              go_end0
              exact ⟨l3, rfl, hl3, Sym.gen (mid := mid) (lo := a) (hi := m) (s := s) (e := e) HMid.out.symm (by have h := HLo.out; simpa using h) HG.out.1 HG.out.2.1 HG.out.2.2.1 HG.out.2.2.2.1 HG.out.2.2.2.2 HL1.out HA.out HA2.out HC.out HC2.out, HR3.out, HB3.out⟩
            · obtain ⟨l3, hl3E⟩ : ∃ l3, l3 = l2 := ⟨_, rfl⟩
              have HR3 := HR2
              have HB3 := HB2
              have hl3 := hl2
              rw [← hl3E] at HR3 hl3
              have HC := Lib.hid (show ¬ (mid < e ∧ e < b) → l3 = l2 from fun _ => hl3E)
              have HC2 := Lib.hid (show mid < e ∧ e < b → Sym (aheadB ev) 0 mid e b l2 l3 from fun h => absurd h (fun h => c52 h.2))
              clear hl3E
              go_wp2_with fail
              go_end0
              exact ⟨l3, rfl, hl3, Sym.gen (mid := mid) (lo := a) (hi := m) (s := s) (e := e) HMid.out.symm (by have h := HLo.out; simpa using h) HG.out.1 HG.out.2.1 HG.out.2.2.1 HG.out.2.2.2.1 HG.out.2.2.2.2 HL1.out HA.out HA2.out HC.out HC2.out, HR3.out, HB3.out⟩
        · obtain ⟨l1, hl1E⟩ : ∃ l1, l1 = l := ⟨_, rfl⟩
          have HR1 := HRy
          have HB1 := HBy
          have hl1 : l1.length = l.length := by rw [hl1E]
          have HL1 := Lib.hid (show s < m ∧ m < e ∧ l1 = rotL l s m e ∨ ¬ (s < m ∧ m < e) ∧ l1 = l from Or.inr ⟨(fun h => c12 h.2), hl1E⟩)
          rw [← hl1E] at HR1
          clear hl1E
          go_upto_region 41 with fail
          rcases (show (a < s ∧ s < mid) ∨ ¬ a < s ∨ (a < s ∧ ¬ s < mid) by omega) with ⟨c31, c32⟩ | c31 | ⟨c31, c32⟩
          · have hc := fun W hW => HRec.out a s mid l1 W (by have := HMb.out; omega) hW c31 c32 (by rw [hl1]; have := HMb.out; omega) hl1
            have HC9 := Lib.hid hc
            clear hc
            go_upto_region 43 with (first | fail | (go_at_call 56; refine (HC9.out _ HR1.out).mono ?_; rintro e9 w9 ⟨l2, rfl, hlen, hS, hR, hb9⟩; have HR2 := Lib.hid hR; have HB2 := Lib.hid (HB1.out.trans hb9); have HS9 := Lib.hid hS; have hl9 := hlen.trans hl1; clear hlen hS hR hb9))
            have hl2 := hl9
            have HA := Lib.hid (show ¬ (a < s ∧ s < mid) → l2 = l1 from fun h => absurd ⟨c31, c32⟩ h)
            have HA2 := Lib.hid (show a < s ∧ s < mid → Sym (aheadB ev) 0 a s mid l1 l2 from fun _ => HS9.out)
            clear c31 c32 hl9 HS9
            rcases (show (mid < e ∧ e < b) ∨ ¬ mid < e ∨ (mid < e ∧ ¬ e < b) by omega) with ⟨c51, c52⟩ | c51 | ⟨c51, c52⟩
            · have hc := fun W hW => HRec.out mid e b l2 W (by have := HMb.out; omega) hW c51 c52 (by rw [hl2]; exact hb) hl2
              have HC9 := Lib.hid hc
              clear hc
              go_wp2_with (first | fail | (go_at_call 56; refine (HC9.out _ HR2.out).mono ?_; rintro e9 w9 ⟨l3, rfl, hlen, hS, hR, hb9⟩; have HR3 := Lib.hid hR; have HB3 := Lib.hid (HB2.out.trans hb9); have HS9 := Lib.hid hS; have hl9 := hlen.trans hl2; clear hlen hS hR hb9))
              have hl3 := hl9
              have HC := Lib.hid (show ¬ (mid < e ∧ e < b) → l3 = l2 from fun h => absurd ⟨c51, c52⟩ h)
              have HC2 := Lib.hid (show mid < e ∧ e < b → Sym (aheadB ev) 0 mid e b l2 l3 from fun _ => HS9.out)
              go_end0
              exact ⟨l3, rfl, hl3, Sym.gen (mid := mid) (lo := a) (hi := m) (s := s) (e := e) HMid.out.symm (by have h := HLo.out; simpa using h) HG.out.1 HG.out.2.1 HG.out.2.2.1 HG.out.2.2.2.1 HG.out.2.2.2.2 HL1.out HA.out HA2.out HC.out HC2.out, HR3.out, HB3.out⟩
            · obtain ⟨l3, hl3E⟩ : ∃ l3, l3 = l2 := ⟨_, rfl⟩
              have HR3 := HR2
              have HB3 := HB2
              have hl3 := hl2
              rw [← hl3E] at HR3 hl3
              have HC := Lib.hid (show ¬ (mid < e ∧ e < b) → l3 = l2 from fun _ => hl3E)
              have HC2 := Lib.hid (show mid < e ∧ e < b → Sym (aheadB ev) 0 mid e b l2 l3 from fun h => absurd h (fun h => c51 h.1))
              clear hl3E
              go_wp2_with fail
              go_end0
              exact ⟨l3, rfl, hl3, Sym.gen (mid := mid) (lo := a) (hi := m) (s := s) (e := e) HMid.out.symm (by have h := HLo.out; simpa using h) HG.out.1 HG.out.2.1 HG.out.2.2.1 HG.out.2.2.2.1 HG.out.2.2.2.2 HL1.out HA.out HA2.out HC.out HC2.out, HR3.out, HB3.out⟩
            · obtain ⟨l3, hl3E⟩ : ∃ l3, l3 = l2 := ⟨_, rfl⟩
              have HR3 := HR2
              have HB3 := HB2
              have hl3 := hl2
              rw [← hl3E] at HR3 hl3
              have HC := Lib.hid (show ¬ (mid < e ∧ e < b) → l3 = l2 from fun _ => hl3E)
              have HC2 := Lib.hid (show mid < e ∧ e < b → Sym (aheadB ev) 0 mid e b l2 l3 from fun h => absurd h (fun h => c52 h.2))
              clear hl3E
              go_wp2_with fail
              go_end0
              exact ⟨l3, rfl, hl3, Sym.gen (mid := mid) (lo := a) (hi := m) (s := s) (e := e) HMid.out.symm (by have h := HLo.out; simpa using h) HG.out.1 HG.out.2.1 HG.out.2.2.1 HG.out.2.2.2.1 HG.out.2.2.2.2 HL1.out HA.out HA2.out HC.out HC2.out, HR3.out, HB3.out⟩
          · obtain ⟨l2, hl2E⟩ : ∃ l2, l2 = l1 := ⟨_, rfl⟩
            have HR2 := HR1
            have HB2 := HB1
            have hl2 := hl1
            rw [← hl2E] at HR2 hl2
            have HA := Lib.hid (show ¬ (a < s ∧ s < mid) → l2 = l1 from fun _ => hl2E)
            have HA2 := Lib.hid (show a < s ∧ s < mid → Sym (aheadB ev) 0 a s mid l1 l2 from fun h => absurd h (fun h => c31 h.1))
            clear hl2E
            go_upto_region 43 with fail
            rcases (show (mid < e ∧ e < b) ∨ ¬ mid < e ∨ (mid < e ∧ ¬ e < b) by omega) with ⟨c51, c52⟩ | c51 | ⟨c51, c52⟩
            · have hc := fun W hW => HRec.out mid e b l2 W (by have := HMb.out; omega) hW c51 c52 (by rw [hl2]; exact hb) hl2
              have HC9 := Lib.hid hc
              clear hc
              go_wp2_with (first | fail | (go_at_call 56; refine (HC9.out _ HR2.out).mono ?_; rintro e9 w9 ⟨l3, rfl, hlen, hS, hR, hb9⟩; have HR3 := Lib.hid hR; have HB3 := Lib.hid (HB2.out.trans hb9); have HS9 := Lib.hid hS; have hl9 := hlen.trans hl2; clear hlen hS hR hb9))
              have hl3 := hl9
              have HC := Lib.hid (show ¬ (mid < e ∧ e < b) → l3 = l2 from fun h => absurd ⟨c51, c52⟩ h)
              have HC2 := Lib.hid (show mid < e ∧ e < b → Sym (aheadB ev) 0 mid e b l2 l3 from fun _ => HS9.out)
              go_end0
              exact ⟨l3, rfl, hl3, Sym.gen (mid := mid) (lo := a) (hi := m) (s := s) (e := e) HMid.out.symm (by have h := HLo.out; simpa using h) HG.out.1 HG.out.2.1 HG.out.2.2.1 HG.out.2.2.2.1 HG.out.2.2.2.2 HL1.out HA.out HA2.out HC.out HC2.out, HR3.out, HB3.out⟩
            · obtain ⟨l3, hl3E⟩ : ∃ l3, l3 = l2 := ⟨_, rfl⟩
              have HR3 := HR2
              have HB3 := HB2
              have hl3 := hl2
              rw [← hl3E] at HR3 hl3
              have HC := Lib.hid (show ¬ (mid < e ∧ e < b) → l3 = l2 from fun _ => hl3E)
              have HC2 := Lib.hid (show mid < e ∧ e < b → Sym (aheadB ev) 0 mid e b l2 l3 from fun h => absurd h (fun h => c51 h.1))
              clear hl3E
              go_wp2_with fail
              go_end0
              exact ⟨l3, rfl, hl3, Sym.gen (mid := mid) (lo := a) (hi := m) (s := s) (e := e) HMid.out.symm (by have h := HLo.out; simpa using h) HG.out.1 HG.out.2.1 HG.out.2.2.1 HG.out.2.2.2.1 HG.out.2.2.2.2 HL1.out HA.out HA2.out HC.out HC2.out, HR3.out, HB3.out⟩
            · obtain ⟨l3, hl3E⟩ : ∃ l3, l3 = l2 := ⟨_, rfl⟩
              have HR3 := HR2
              have HB3 := HB2
              have hl3 := hl2
              rw [← hl3E] at HR3 hl3
              have HC := Lib.hid (show ¬ (mid < e ∧ e < b) → l3 = l2 from fun _ => hl3E)
              have HC2 := Lib.hid (show mid < e ∧ e < b → Sym (aheadB ev) 0 mid e b l2 l3 from fun h => absurd h (fun h => c52 h.2))
              clear hl3E
              go_wp2_with fail
              go_end0
              exact ⟨l3, rfl, hl3, Sym.gen (mid := mid) (lo := a) (hi := m) (s := s) (e := e) HMid.out.symm (by have h := HLo.out; simpa using h) HG.out.1 HG.out.2.1 HG.out.2.2.1 HG.out.2.2.2.1 HG.out.2.2.2.2 HL1.out HA.out HA2.out HC.out HC2.out, HR3.out, HB3.out⟩
          · obtain ⟨l2, hl2E⟩ : ∃ l2, l2 = l1 := ⟨_, rfl⟩
            have HR2 := HR1
            have HB2 := HB1
            have hl2 := hl1
            rw [← hl2E] at HR2 hl2
            have HA := Lib.hid (show ¬ (a < s ∧ s < mid) → l2 = l1 from fun _ => hl2E)
            have HA2 := Lib.hid (show a < s ∧ s < mid → Sym (aheadB ev) 0 a s mid l1 l2 from fun h => absurd h (fun h => c32 h.2))
            clear hl2E
            go_upto_region 43 with fail
            rcases (show (mid < e ∧ e < b) ∨ ¬ mid < e ∨ (mid < e ∧ ¬ e < b) by omega) with ⟨c51, c52⟩ | c51 | ⟨c51, c52⟩
            · have hc := fun W hW => HRec.out mid e b l2 W (by have := HMb.out; omega) hW c51 c52 (by rw [hl2]; exact hb) hl2
              have HC9 := Lib.hid hc
              clear hc
              go_wp2_with (first | fail | (go_at_call 56; refine (HC9.out _ HR2.out).mono ?_; rintro e9 w9 ⟨l3, rfl, hlen, hS, hR, hb9⟩; have HR3 := Lib.hid hR; have HB3 := Lib.hid (HB2.out.trans hb9); have HS9 := Lib.hid hS; have hl9 := hlen.trans hl2; clear hlen hS hR hb9))
              have hl3 := hl9
              have HC := Lib.hid (show ¬ (mid < e ∧ e < b) → l3 = l2 from fun h => absurd ⟨c51, c52⟩ h)
              have HC2 := Lib.hid (show mid < e ∧ e < b → Sym (aheadB ev) 0 mid e b l2 l3 from fun _ => HS9.out)
              go_end0
              exact ⟨l3, rfl, hl3, Sym.gen (mid := mid) (lo := a) (hi := m) (s := s) (e := e) HMid.out.symm (by have h := HLo.out; simpa using h) HG.out.1 HG.out.2.1 HG.out.2.2.1 HG.out.2.2.2.1 HG.out.2.2.2.2 HL1.out HA.out HA2.out HC.out HC2.out, HR3.out, HB3.out⟩
            · obtain ⟨l3, hl3E⟩ : ∃ l3, l3 = l2 := ⟨_, rfl⟩
              have HR3 := HR2
              have HB3 := HB2
              have hl3 := hl2
              rw [← hl3E] at HR3 hl3
              have HC := Lib.hid (show ¬ (mid < e ∧ e < b) → l3 = l2 from fun _ => hl3E)
              have HC2 := Lib.hid (show mid < e ∧ e < b → Sym (aheadB ev) 0 mid e b l2 l3 from fun h => absurd h (fun h => c51 h.1))
              clear hl3E
              go_wp2_with fail
              go_end0
              exact ⟨l3, rfl, hl3, Sym.gen (mid := mid) (lo := a) (hi := m) (s := s) (e := e) HMid.out.symm (by have h := HLo.out; simpa using h) HG.out.1 HG.out.2.1 HG.out.2.2.1 HG.out.2.2.2.1 HG.out.2.2.2.2 HL1.out HA.out HA2.out HC.out HC2.out, HR3.out, HB3.out⟩
            · obtain ⟨l3, hl3E⟩ : ∃ l3, l3 = l2 := ⟨_, rfl⟩
              have HR3 := HR2
              have HB3 := HB2
              have hl3 := hl2
              rw [← hl3E] at HR3 hl3
              have HC := Lib.hid (show ¬ (mid < e ∧ e < b) → l3 = l2 from fun _ => hl3E)
              have HC2 := Lib.hid (show mid < e ∧ e < b → Sym (aheadB ev) 0 mid e b l2 l3 from fun h => absurd h (fun h => c52 h.2))
              clear hl3E
              go_wp2_with fail
              go_end0
              exact ⟨l3, rfl, hl3, Sym.gen (mid := mid) (lo := a) (hi := m) (s := s) (e := e) HMid.out.symm (by have h := HLo.out; simpa using h) HG.out.1 HG.out.2.1 HG.out.2.2.1 HG.out.2.2.2.1 HG.out.2.2.2.2 HL1.out HA.out HA2.out HC.out HC2.out, HR3.out, HB3.out⟩
end Go.Proofs.YtonnmkhmhndalaaDoor
end
