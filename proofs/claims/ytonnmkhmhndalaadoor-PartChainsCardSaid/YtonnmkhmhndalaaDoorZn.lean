/- find: the node that stands for a node's group, walked. Sorting: stable sorting in place, walked. Sorting: SortStableFunc, walked. -/
import Derived.Test.YtonnmkhmhndalaaDoorZa
import Derived.Test.YtonnmkhmhndalaaDoorZk
import Derived.Test.YtonnmkhmhndalaaDoorZl
import Derived.Test.YtonnmkhmhndalaaDoorZm
section
namespace Go.Proofs.YtonnmkhmhndalaaDoor
set_option linter.unusedVariables false
set_option linter.unusedSimpArgs false
open Go.RowKit Go.Proofs.YtonnmkhmhndalaaDoorW.PrintWords Go.Proofs.YtonnmkhmhndalaaDoorW.PrintLast Go.Proofs.YtonnmkhmhndalaaDoorW.PrintMore
theorem grown_set {w W : World} {b k : Nat} (h : w.grownBy W (some b)) (v : Value) : w.grownBy (W.setCell ⟨b, k, none⟩ v) (some b) :=
  ⟨h.os, h.tape, h.output, by simpa [World.setCell] using h.size, fun i hi hne => (Below.heap_setCell W _ v i (fun e => hne (by rw [e]))).trans (h.block i hi hne)⟩
structure GSt (w W : World) (n b : Nat) (root d : Nat → Nat) : Prop where
  g : ∃ g, Uf n g root d ∧ Cl eI W b n g
  h : w.grownBy W (some b)
set_option maxRecDepth 100000 in
set_option maxHeartbeats 4000000 in
theorem find_any (n b : Nat) (root d : Nat → Nat) (k0 : Nat) (w : World) (hn : n ≤ 4096) (hk : k0 < n) (hG : GSt w w n b root d) :
    Calls Tryd.prog 36 #[.slice (some ⟨b, 0, none⟩) n n, .int .i64 k0] w fun e w' => e = .returned (.int .i64 (root k0)) ∧ GSt w w' n b root d := by
  have HG := Lib.hid hG
  clear hG
  go_enter Tryd.func36, Tryd.ntmps36
  go_wp2_with fail
  go_loopw [1] (fun v1 wx => ∃ k : Nat, v1 = .int .i64 k ∧ k < n ∧ Hid (root k = root k0 ∧ GSt w wx n b root d)) (fun v1 _ => d (intOf v1).toNat)
  case atStart => exact ⟨k0, rfl, hk, Lib.hid ⟨rfl, HG.out⟩⟩
  case round =>
    obtain ⟨k, rfl, hk, HS⟩ := hrel
    obtain ⟨hr, ⟨g, hU, hC⟩, hw⟩ := HS.out
    obtain ⟨p, hp⟩ : ∃ p, g k = p := ⟨_, rfl⟩
    obtain ⟨q, hq⟩ : ∃ q, g p = q := ⟨_, rfl⟩
    have hpn : p < n := by rw [← hp]; exact hU.gl k hk
    have hqn : q < n := by rw [← hq]; exact hU.gl p hpn
    have c1 := hC.c k hk
    have c2 := hC.c p hpn
    rw [hp] at c1
    rw [hq] at c2
    by_cases e : p = k
    · have hx : root k0 = k := by rw [← hr]; exact hU.fx k hk (by rw [hp, e])
      have HE := Lib.hid (And.intro hx hw)
      have HGS : Hid (GSt w wr n b root d) := Lib.hid ⟨⟨g, hU, hC⟩, hw⟩
      subst e
      clear hr hU hC hw c2 hq hp hx
      go_wp2_with fail
      go_ret
      exact ⟨by rw [HE.out.1]; try rfl, HGS.out⟩
    · have f1 := hC.f k hk
      have hnr := hU.near hk (by rw [hp]; exact e)
      rw [hp, hq] at hnr
      have hU2 := hU.half hk
      rw [hp, hq] at hU2
      have hC2 := hC.set k q
      have hr2 : root q = root k0 := by rw [← hr, ← hU.rg k hk, hp, ← hU.rg p hpn, hq]
      have hw2 := grown_set hw (k := k) (eI q)
      have HGS : Hid (GSt w (wr.setCell ⟨b, k, none⟩ (eI q)) n b root d) := Lib.hid ⟨⟨_, hU2, hC2⟩, hw2⟩
      have HR2 := Lib.hid hr2
      have HNr := Lib.hid hnr
      have hne : (p : Int) ≠ (k : Int) := by omega
      clear hr hU hC hw hU2 hC2 hr2 hw2 hnr hp hq
      go_wp2_with fail
      exact ⟨⟨q, rfl, hqn, Lib.hid ⟨HR2.out, HGS.out⟩⟩, by simpa [intOf] using HNr.out⟩
end Go.Proofs.YtonnmkhmhndalaaDoor
end
section
namespace Go.Proofs.YtonnmkhmhndalaaDoor
set_option linter.unusedVariables false
set_option linter.unusedSimpArgs false
open Go.RowKit Go.Proofs.YtonnmkhmhndalaaDoorW.PrintWords Go.Proofs.YtonnmkhmhndalaaDoorW.PrintLast Go.Proofs.YtonnmkhmhndalaaDoorW.PrintMore
theorem sym_any (ev : SEnv) (B g cap : Nat) (hB : B ≤ g) (n : Nat) (hl : n ≤ 4398046511104) : ∀ (D a m b : Nat) (l : List Nat) (w : World), b - a ≤ D → Rw ev w g l → a < m → m < b → b ≤ l.length → l.length = n →
    Calls Tryd.prog 56 #[.slice (some ⟨g, 0, none⟩) n cap, .int .i64 a, .int .i64 m, .int .i64 b, fA ev] w (RwE ev B g l (Sym (aheadB ev) 0 a m b l) w) := by
  intro D
  induction D with
  | zero => intro a m b l w h1 h2 h3 h4 h5 h6; omega
  | succ D ih =>
    intro a m b l w h1 h2 h3 h4 h5 h6
    subst h6
    by_cases c1 : m = a + 1
    · exact sym_left ev B g cap a m b l w h2 hB h3 h4 h5 hl c1
    · by_cases c2 : b = m + 1
      · exact sym_right ev B g cap a m b l w h2 hB h3 h4 h5 hl (by omega) c2
      · exact sym_gen ev B g cap a m b l w h2 hB h3 h4 h5 hl (by omega) (by omega) (fun a' m' b' l' W hlt hR h7 h8 h9 h10 => ih a' m' b' l' W (by omega) hR h7 h8 h9 h10)
set_option maxRecDepth 100000 in
set_option maxHeartbeats 4000000 in
theorem stable_any (ev : SEnv) (B g cap : Nat) (l : List Nat) (w : World) (h : Rw ev w g l) (hB : B ≤ g) (hl : l.length ≤ 4398046511104) :
    Calls Tryd.prog 50 #[.slice (some ⟨g, 0, none⟩) l.length cap, .int .i64 l.length, fA ev] w (RwE ev B g l (fun l' => l'.Perm l ∧ Srt (aheadB ev) l') w) := by
  have HR := Lib.hid h
  clear h
  obtain ⟨n, hn⟩ : ∃ n, l.length = n := ⟨_, rfl⟩
  rw [hn] at hl
  have hsym := fun (a m b : Nat) (l' : List Nat) (W : World) (h1 : Rw ev W g l') (h2 : a < m) (h3 : m < b) (h4 : b ≤ l'.length) (h5 : l'.length = n) => sym_any ev B g cap hB n (by omega) (b - a) a m b l' W (Nat.le_refl _) h1 h2 h3 h4 h5
  have hins := fun (a b : Nat) (l' : List Nat) (W : World) (h1 : Rw ev W g l') (h2 : a ≤ b) (h3 : b ≤ l'.length) (h4 : l'.length = n) => insSort_any ev B g cap a b l' W h1 hB h2 h3 (by omega)
  have HSy := Lib.hid hsym
  have HIn := Lib.hid hins
  clear hsym hins
  rw [hn]
  go_enter Tryd.func50, Tryd.ntmps50
  go_upto_region 2 with fail
  go_loopw [7, 8] (fun v7 v8 wx => ∃ (k : Nat) (cur : List Nat), v7 = .int .i64 ((k * 20 : Nat) : Int) ∧ v8 = .int .i64 (((k + 1) * 20 : Nat) : Int) ∧ k * 20 ≤ n ∧ cur.length = n ∧ Hid (cur.Perm l) ∧ Hid (Fst (aheadB ev) 20 k cur) ∧ Hid (Rw ev wx g cur) ∧ Hid (Below B w wx)) (fun v7 _ _ => n + 1 - (intOf v7).toNat)
  case atStart => exact ⟨0, l, rfl, rfl, Nat.zero_le _, hn, Lib.hid (List.Perm.refl _), Lib.hid (fun j hj => absurd hj (Nat.not_lt_zero j)), HR, Lib.hid (Below.refl _ _)⟩
  case round =>
    obtain ⟨k, cur, rfl, rfl, hk, hcl, HPm, HFs, HRx, HBx⟩ := hrel
    obtain ⟨a, ha⟩ : ∃ a, k * 20 = a := ⟨_, rfl⟩
    obtain ⟨b, hb⟩ : ∃ b, (k + 1) * 20 = b := ⟨_, rfl⟩
    rw [ha, hb]
    have hab : a + 20 = b := by omega
    by_cases hlt : b ≤ n
    · have hc := fun W hW => HIn.out a b cur W hW (by omega) (by omega) hcl
      rw [hcl] at hc
      have HC := Lib.hid hc
      have HK := Lib.hid (show k * 20 = a ∧ (k + 1) * 20 = b ∧ a + 20 = b from ⟨ha, hb, hab⟩)
      clear hc ha hb hab
      go_wp2_with (first | fail | (go_at_call 55; refine (HC.out _ HRx.out).mono ?_; rintro e9 w9 ⟨l2, rfl, hlen, hS, hR, hb9⟩; have HR9 := Lib.hid hR; have HB9 := Lib.hid (HBx.out.trans hb9); have HS9 := Lib.hid hS; have hl9 := hlen.trans hcl; clear hlen hS hR hb9))
      have hst := ins_block (ahead_ord ev) (k := k) HFs.out (by have := HK.out; omega) (by have := HS9.out; have hk := HK.out; rw [hk.1, hk.2.1]; exact this)
      refine ⟨⟨k + 1, l2, by have := HK.out; congr 2; omega, by have := HK.out; simp; omega, by have := HK.out; omega, hl9, Lib.hid (hst.2.trans HPm.out), Lib.hid hst.1, HR9, HB9⟩, by have := HK.out; simp [intOf]; omega⟩
    · have hbn : n < b := by omega
      have hc := fun W hW => HIn.out a n cur W hW (by omega) (by omega) hcl
      rw [hcl] at hc
      have HC := Lib.hid hc
      have HK := Lib.hid (show k * 20 = a ∧ (k + 1) * 20 = b ∧ a + 20 = b ∧ n < b ∧ a ≤ n from ⟨ha, hb, hab, hbn, by omega⟩)
      clear hc ha hb hab hbn hk
      go_upto_region 7 with (first | fail | (go_at_call 55; refine (HC.out _ HRx.out).mono ?_; rintro e9 w9 ⟨l2, rfl, hlen, hS, hR, hb9⟩; have HR9 := Lib.hid hR; have HB9 := Lib.hid (HBx.out.trans hb9); have HS9 := Lib.hid hS; have hl9 := hlen.trans hcl; clear hlen hS hR hb9))
      have hst := ins_last (ahead_ord ev) (k := k) HFs.out (by have := HK.out; omega) (by have := HK.out; omega) (by have := HS9.out; have hk := HK.out; rw [hk.1, hcl]; exact this)
      have HBk := Lib.hid hst.1
      have HP9 := Lib.hid (hst.2.trans HPm.out)
      clear hst hlt
      go_loopw [6, 7, 8] (fun v6 v7 v8 wx => ∃ (s : Nat) (cur : List Nat), v6 = .int .i64 s ∧ 20 ≤ s ∧ (s ≤ 2 * n ∨ s = 20) ∧ cur.length = n ∧ Hid (cur.Perm l) ∧ Hid (Blk (aheadB ev) s cur) ∧ Hid (Rw ev wx g cur) ∧ Hid (Below B w wx)) (fun v6 _ _ _ => n - (intOf v6).toNat)
      case atStart => exact ⟨20, l2, rfl, Nat.le_refl _, Or.inr rfl, hl9, HP9, HBk, HR9, HB9⟩
      case round =>
        obtain ⟨s, cur2, rfl, hs1, hs2, hcl2, HPm2, HBl, HRy, HBy⟩ := hrel
        by_cases hlt : s < n
        · have HS := Lib.hid (show 20 ≤ s ∧ s < n from ⟨hs1, hlt⟩)
          have hsb : (s : Int) ≤ 4398046511104 := by omega
          obtain ⟨s2, hs2E⟩ : ∃ s2, 2 * s = s2 := ⟨_, rfl⟩
          have es : (2 : Int) * (s : Int) = (s2 : Int) := by omega
          have es' : (s : Int) * 2 = (s2 : Int) := by omega
          go_upto_region 9 with fail
          go_loopw [7, 8] (fun v7 v8 wx => ∃ (k : Nat) (cur : List Nat), v7 = .int .i64 ((k * s2 : Nat) : Int) ∧ v8 = .int .i64 (((k + 1) * s2 : Nat) : Int) ∧ k * s2 ≤ n ∧ cur.length = n ∧ Hid (cur.Perm l) ∧ Hid (Two (aheadB ev) s k cur) ∧ Hid (Rw ev wx g cur) ∧ Hid (Below B w wx)) (fun v7 _ _ => n + 1 - (intOf v7).toNat)
          case atStart => exact ⟨0, cur2, by rw [Nat.zero_mul]; rfl, by rw [Nat.zero_add, Nat.one_mul], by rw [Nat.zero_mul]; exact Nat.zero_le _, hcl2, HPm2, Lib.hid (Two.start HBl.out), HRy, HBy⟩
          case round =>
            obtain ⟨k, cur, rfl, rfl, hk, hcl3, HPm3, HTw, HRz, HBz⟩ := hrel
            have hk1 : (k + 1) * s2 = k * s2 + s2 := Nat.succ_mul k s2
            have hk2 : (k + 1 + 1) * s2 = (k + 1) * s2 + s2 := Nat.succ_mul (k + 1) s2
            obtain ⟨a, ha⟩ : ∃ a, k * s2 = a := ⟨_, rfl⟩
            obtain ⟨b, hb⟩ : ∃ b, (k + 1) * s2 = b := ⟨_, rfl⟩
            rw [ha, hb] at hk1
            rw [hb] at hk2
            rw [ha] at hk
            rw [ha, hb]
            have ham : (a : Int) + (s : Int) = ((a + s : Nat) : Int) := by omega
            obtain ⟨m, hm⟩ : ∃ m, a + s = m := ⟨_, rfl⟩
            rw [hm] at ham
            have hab : (a : Int) ≤ 4398046511104 := by omega
            have hs2b : (s2 : Int) ≤ 8796093022208 := by omega
            have HK := Lib.hid (show k * s2 = a ∧ (k + 1) * s2 = b ∧ b = a + s2 ∧ (k + 1 + 1) * s2 = b + s2 ∧ a ≤ n ∧ a + s = m ∧ 2 * s = s2 from ⟨ha, hb, hk1, hk2, hk, hm, hs2E⟩)
            by_cases hlt3 : b ≤ n
            · have hc := fun W hW => HSy.out a m b cur W hW (by omega) (by omega) (by omega) hcl3
              have HC := Lib.hid hc
              obtain ⟨b2, hb2⟩ : ∃ b2, b + s2 = b2 := ⟨_, rfl⟩
              have hbs : (b : Int) + (s2 : Int) = (b2 : Int) := by omega
              have HB2 := Lib.hid hb2
              clear hc ha hb hk1 hk2 hm hb2
              go_wp2_with (first | fail | (go_at_call 56; refine (HC.out _ HRz.out).mono ?_; rintro e9 w9 ⟨l3, rfl, hlen, hS, hR, hb9⟩; have HR3 := Lib.hid hR; have HB3 := Lib.hid (HBz.out.trans hb9); have HS3 := Lib.hid hS; have hl3 := hlen.trans hcl3; clear hlen hS hR hb9))
              have hst := two_step (ahead_ord ev) (k := k) (B := s) (by have := HS.out; omega) HTw.out (by have := HK.out; rw [this.2.2.2.2.2.2, this.2.1, hcl3]; exact hlt3) (by have := HS3.out; have hk := HK.out; rw [hk.2.2.2.2.2.2, hk.1, hk.2.1, hk.2.2.2.2.2.1]; exact this)
              refine ⟨⟨k + 1, l3, by have := HK.out; rw [this.2.1], by have := HK.out; rw [this.2.2.2.1, HB2.out], by have := HK.out; omega, hl3, Lib.hid (hst.2.trans HPm3.out), Lib.hid hst.1, HR3, HB3⟩, by have := HK.out; have := HS.out; simp [intOf]; omega⟩
            · by_cases hmn : m < n
              · have hc := fun W hW => HSy.out a m n cur W hW (by omega) hmn (by omega) hcl3
                have HC := Lib.hid hc
                clear hc ha hb hk1 hk2 hm
                go_wp2_with (first | fail | (go_at_call 56; refine (HC.out _ HRz.out).mono ?_; rintro e9 w9 ⟨l3, rfl, hlen, hS, hR, hb9⟩; have HR3 := Lib.hid hR; have HB3 := Lib.hid (HBz.out.trans hb9); have HS3 := Lib.hid hS; have hl3 := hlen.trans hcl3; clear hlen hS hR hb9))
                have hst := two_last (ahead_ord ev) (k := k) (B := s) (by have := HS.out; omega) HTw.out (by have := HK.out; rw [this.2.2.2.2.2.2, this.1, hcl3]; exact this.2.2.2.2.1) (by have := HK.out; rw [this.2.2.2.2.2.2, this.2.1, hcl3]; omega) (Or.inl ⟨by have := HK.out; rw [this.2.2.2.2.2.2, this.1, this.2.2.2.2.2.1, hcl3]; exact hmn, by have := HS3.out; have hk := HK.out; rw [hk.2.2.2.2.2.2, hk.1, hk.2.2.2.2.2.1, hcl3]; exact this⟩)
                rw [hs2E] at hst
                refine ⟨⟨s2, l3, rfl, by omega, by left; omega, hl3, Lib.hid (hst.2.trans HPm3.out), Lib.hid hst.1, HR3, HB3⟩, by have := HS.out; simp [intOf]; omega⟩
              · clear ha hb hk1 hk2 hm
                go_wp2_with fail
                have hst := two_last (z := 0) (ahead_ord ev) (k := k) (B := s) (l' := cur) (by have := HS.out; omega) HTw.out (by have := HK.out; rw [this.2.2.2.2.2.2, this.1, hcl3]; exact this.2.2.2.2.1) (by have := HK.out; rw [this.2.2.2.2.2.2, this.2.1, hcl3]; omega) (Or.inr ⟨by have := HK.out; rw [this.2.2.2.2.2.2, this.1, this.2.2.2.2.2.1, hcl3]; omega, rfl⟩)
                rw [hs2E] at hst
                refine ⟨⟨s2, cur, rfl, by omega, by left; omega, hcl3, HPm3, Lib.hid hst.1, HRz, HBz⟩, by have := HS.out; simp [intOf]; omega⟩
        · go_wp2_with fail
          go_end0
          exact ⟨_, rfl, hcl2.trans hn.symm, ⟨HPm2.out, blk_whole HBl.out (by omega)⟩, HRy.out, HBy.out⟩
end Go.Proofs.YtonnmkhmhndalaaDoor
end
section
namespace Go.Proofs.YtonnmkhmhndalaaDoor
set_option linter.unusedVariables false
set_option linter.unusedSimpArgs false
open Go.RowKit Go.Proofs.YtonnmkhmhndalaaDoorW.PrintWords Go.Proofs.YtonnmkhmhndalaaDoorW.PrintLast Go.Proofs.YtonnmkhmhndalaaDoorW.PrintMore
theorem rw_of_R {ev : SEnv} {W : World} {base g c : Nat} {ok : Nat → Prop} {l : List Nat} (h : Kd.R (Kd.int .i64) 3 W base ok (.slice (some ⟨g, 0, none⟩) l.length c) (ints l)) (hg : g < W.heap.size) (he : EnvAt ev W) (h1 : ev.S ≠ g) (h2 : ev.mb ≠ g) (hb : ∀ x ∈ l, x ≤ 1000000) : Rw ev W g l := by
  have key : ∀ j, j < l.length → W.cell? ⟨g, j, none⟩ = some (.int .i64 (l.getD j 0 : Nat)) ∧ W.frozen? ⟨g, j, none⟩ = false := by
    intro j hj
    have h3 := Kd.R_celln (0 : Int) h (j : Int) (by omega) (by omega)
    rw [Int.toNat_natCast] at h3
    have e : rdOf (0 : Int) (ints l) (j : Int) = ((l.getD j 0 : Nat) : Int) := by
      unfold rdOf
      rw [Int.toNat_natCast, ints_getD l j hj]
    rw [e] at h3
    exact h3
  refine ⟨fun j hj => (key j hj).1, fun j hj => (key j hj).2, hg, he, h1, h2, fun j hj => hb _ ?_⟩
  rw [List.getD_eq_getElem?_getD, List.getElem?_eq_getElem hj]
  exact List.getElem_mem hj
set_option maxRecDepth 100000 in
set_option maxHeartbeats 4000000 in
theorem sort_any (ev : SEnv) (B g cap : Nat) (l : List Nat) (w : World) (h : Rw ev w g l) (hB : B ≤ g) (hl : l.length ≤ 4398046511104) :
    Calls Tryd.prog 37 #[.slice (some ⟨g, 0, none⟩) l.length cap, fA ev] w (RwE ev B g l (fun l' => l'.Perm l ∧ Srt (aheadB ev) l') w) := by
  have hst := fun W hW => stable_any ev B g cap l W hW hB hl
  have HRw := Lib.hid h
  have HSt := Lib.hid hst
  clear h hst
  go_enter Tryd.func37, Tryd.ntmps37
  go_wp2_with (first | fail | (go_at_call 50; refine (HSt.out _ HRw.out).mono ?_; rintro e9 w9 ⟨l2, rfl, hlen, hS, hR, hb9⟩; have HR9 := Lib.hid hR; have HB9 := Lib.hid hb9; have HS9 := Lib.hid hS; have HL9 := Lib.hid hlen; clear hlen hS hR hb9))
  go_end0
  exact ⟨l2, rfl, HL9.out, HS9.out, HR9.out, HB9.out⟩
end Go.Proofs.YtonnmkhmhndalaaDoor
end
