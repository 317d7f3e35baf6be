/- WaveMerges: stable sorting in place, walked. WaveMerges: Grow and Concat, walked. WaveMerges: SortStableFunc and Merge, walked. WaveMerges: Merge, walked. WaveParts, plainly: parts together are the whole; what is sorted strictly is sorted in one way. WaveParts: the statement's own function, walked. -/
import Derived.Test.YtcbkgammlfjjoaaDoorMgU
import Derived.Test.YtcbkgammlfjjoaaDoorSt2
import Derived.Test.YtcbkgammlfjjoaaDoorMgR
import Derived.Test.YtcbkgammlfjjoaaDoorWc
import Derived.Test.YtcbkgammlfjjoaaDoorCs
namespace Go.Proofs.YtcbkgammlfjjoaaDoor
set_option linter.unusedVariables false
set_option linter.unusedSimpArgs false
open Go.RowKit Go.Proofs.YtcbkgammlfjjoaaDoorW.PrintWords Go.Proofs.YtcbkgammlfjjoaaDoorW.PrintLast Go.Proofs.YtcbkgammlfjjoaaDoorW.PrintMore

theorem sym_any (B g cap : Nat) (hB : B ≤ g) (n : Nat) (hl : n ≤ 4398046511104) : ∀ (D a m b : Nat) (l : List S59) (w : World), b - a ≤ D → Rw w g l → a < m → m < b → b ≤ l.length → l.length = n →
    Calls Tryd.prog 88 #[.slice (some ⟨g, 0, none⟩) n cap, .int .i64 a, .int .i64 m, .int .i64 b, fA] w (RwE B g l (Sym aheadB z59 a m b l) w) := by
  intro D
  induction D with
  | zero => intro a m b l w h1 h2 h3 h4 h5 h6; omega
  | succ D ih =>
    intro a m b l w h1 h2 h3 h4 h5 h6
    subst h6
    by_cases c1 : m = a + 1
    · exact sym_left B g cap a m b l w h2 hB h3 h4 h5 hl c1
    · by_cases c2 : b = m + 1
      · exact sym_right B g cap a m b l w h2 hB h3 h4 h5 hl (by omega) c2
      · exact sym_gen B g cap a m b l w h2 hB h3 h4 h5 hl (by omega) (by omega) (fun a' m' b' l' W hlt hR h7 h8 h9 h10 => ih a' m' b' l' W (by omega) hR h7 h8 h9 h10)
set_option maxRecDepth 100000 in
set_option maxHeartbeats 4000000 in
theorem stable_any (B g cap : Nat) (l : List S59) (w : World) (h : Rw w g l) (hB : B ≤ g) (hl : l.length ≤ 4398046511104) :
    Calls Tryd.prog 78 #[.slice (some ⟨g, 0, none⟩) l.length cap, .int .i64 l.length, fA] w (RwE B g l (fun l' => l'.Perm l ∧ Srt aheadB l') w) := by
  have HR := Lib.hid h
  clear h
  obtain ⟨n, hn⟩ : ∃ n, l.length = n := ⟨_, rfl⟩
  rw [hn] at hl
  have hsym := fun (a m b : Nat) (l' : List S59) (W : World) (h1 : Rw W g l') (h2 : a < m) (h3 : m < b) (h4 : b ≤ l'.length) (h5 : l'.length = n) => sym_any B g cap hB n (by omega) (b - a) a m b l' W (Nat.le_refl _) h1 h2 h3 h4 h5
  have hins := fun (a b : Nat) (l' : List S59) (W : World) (h1 : Rw W g l') (h2 : a ≤ b) (h3 : b ≤ l'.length) (h4 : l'.length = n) => insSort_any B g cap a b l' W h1 hB h2 h3 (by omega)
  have HSy := Lib.hid hsym
  have HIn := Lib.hid hins
  clear hsym hins
  rw [hn]
  go_enter Tryd.func78, Tryd.ntmps78
  go_upto_region 2 with fail
  go_loopw [7, 8] (fun v7 v8 wx => ∃ (k : Nat) (cur : List S59), v7 = .int .i64 ((k * 20 : Nat) : Int) ∧ v8 = .int .i64 (((k + 1) * 20 : Nat) : Int) ∧ k * 20 ≤ n ∧ cur.length = n ∧ Hid (cur.Perm l) ∧ Hid (Fst aheadB 20 k cur) ∧ Hid (Rw wx g cur) ∧ Hid (Below B w wx)) (fun v7 _ _ => n + 1 - (intOf v7).toNat)
  case atStart => exact ⟨0, l, rfl, rfl, Nat.zero_le _, hn, Lib.hid (List.Perm.refl _), Lib.hid (fun j hj => absurd hj (Nat.not_lt_zero j)), HR, Lib.hid (Below.refl _ _)⟩
  case round =>
    obtain ⟨k, cur, rfl, rfl, hk, hcl, HPm, HFs, HRx, HBx⟩ := hrel
    obtain ⟨a, ha⟩ : ∃ a, k * 20 = a := ⟨_, rfl⟩
    obtain ⟨b, hb⟩ : ∃ b, (k + 1) * 20 = b := ⟨_, rfl⟩
    rw [ha, hb]
    have hab : a + 20 = b := by omega
    by_cases hlt : b ≤ n
    · have hc := fun W hW => HIn.out a b cur W hW (by omega) (by omega) hcl
      rw [hcl] at hc
      have HC := Lib.hid hc
      have HK := Lib.hid (show k * 20 = a ∧ (k + 1) * 20 = b ∧ a + 20 = b from ⟨ha, hb, hab⟩)
      clear hc ha hb hab
      go_wp2_with (first | fail | (go_at_call 87; refine (HC.out _ HRx.out).mono ?_; rintro e9 w9 ⟨l2, rfl, hlen, hS, hR, hb9⟩; have HR9 := Lib.hid hR; have HB9 := Lib.hid (HBx.out.trans hb9); have HS9 := Lib.hid hS; have hl9 := hlen.trans hcl; clear hlen hS hR hb9))
      have hst := ins_block ahead_ord (k := k) HFs.out (by have := HK.out; omega) (by have := HS9.out; have hk := HK.out; rw [hk.1, hk.2.1]; exact this)
      refine ⟨⟨k + 1, l2, by have := HK.out; congr 2; omega, by have := HK.out; simp; omega, by have := HK.out; omega, hl9, Lib.hid (hst.2.trans HPm.out), Lib.hid hst.1, HR9, HB9⟩, by have := HK.out; simp [intOf]; omega⟩
    · have hbn : n < b := by omega
      have hc := fun W hW => HIn.out a n cur W hW (by omega) (by omega) hcl
      rw [hcl] at hc
      have HC := Lib.hid hc
      have HK := Lib.hid (show k * 20 = a ∧ (k + 1) * 20 = b ∧ a + 20 = b ∧ n < b ∧ a ≤ n from ⟨ha, hb, hab, hbn, by omega⟩)
      clear hc ha hb hab hbn hk
      go_upto_region 7 with (first | fail | (go_at_call 87; refine (HC.out _ HRx.out).mono ?_; rintro e9 w9 ⟨l2, rfl, hlen, hS, hR, hb9⟩; have HR9 := Lib.hid hR; have HB9 := Lib.hid (HBx.out.trans hb9); have HS9 := Lib.hid hS; have hl9 := hlen.trans hcl; clear hlen hS hR hb9))
      have hst := ins_last ahead_ord (k := k) HFs.out (by have := HK.out; omega) (by have := HK.out; omega) (by have := HS9.out; have hk := HK.out; rw [hk.1, hcl]; exact this)
      have HBk := Lib.hid hst.1
      have HP9 := Lib.hid (hst.2.trans HPm.out)
      clear hst hlt
      go_loopw [6, 7, 8] (fun v6 v7 v8 wx => ∃ (s : Nat) (cur : List S59), v6 = .int .i64 s ∧ 20 ≤ s ∧ (s ≤ 2 * n ∨ s = 20) ∧ cur.length = n ∧ Hid (cur.Perm l) ∧ Hid (Blk aheadB s cur) ∧ Hid (Rw wx g cur) ∧ Hid (Below B w wx)) (fun v6 _ _ _ => n - (intOf v6).toNat)
      case atStart => exact ⟨20, l2, rfl, Nat.le_refl _, Or.inr rfl, hl9, HP9, HBk, HR9, HB9⟩
      case round =>
        obtain ⟨s, cur2, rfl, hs1, hs2, hcl2, HPm2, HBl, HRy, HBy⟩ := hrel
        by_cases hlt : s < n
        · have HS := Lib.hid (show 20 ≤ s ∧ s < n from ⟨hs1, hlt⟩)
          have hsb : (s : Int) ≤ 4398046511104 := by omega
          obtain ⟨s2, hs2E⟩ : ∃ s2, 2 * s = s2 := ⟨_, rfl⟩
          have es : (2 : Int) * (s : Int) = (s2 : Int) := by omega
          have es' : (s : Int) * 2 = (s2 : Int) := by omega
          go_upto_region 9 with fail
          go_loopw [7, 8] (fun v7 v8 wx => ∃ (k : Nat) (cur : List S59), v7 = .int .i64 ((k * s2 : Nat) : Int) ∧ v8 = .int .i64 (((k + 1) * s2 : Nat) : Int) ∧ k * s2 ≤ n ∧ cur.length = n ∧ Hid (cur.Perm l) ∧ Hid (Two aheadB s k cur) ∧ Hid (Rw wx g cur) ∧ Hid (Below B w wx)) (fun v7 _ _ => n + 1 - (intOf v7).toNat)
          case atStart => exact ⟨0, cur2, by rw [Nat.zero_mul]; rfl, by rw [Nat.zero_add, Nat.one_mul], by rw [Nat.zero_mul]; exact Nat.zero_le _, hcl2, HPm2, Lib.hid (Two.start HBl.out), HRy, HBy⟩
          case round =>
            obtain ⟨k, cur, rfl, rfl, hk, hcl3, HPm3, HTw, HRz, HBz⟩ := hrel
            have hk1 : (k + 1) * s2 = k * s2 + s2 := Nat.succ_mul k s2
            have hk2 : (k + 1 + 1) * s2 = (k + 1) * s2 + s2 := Nat.succ_mul (k + 1) s2
            obtain ⟨a, ha⟩ : ∃ a, k * s2 = a := ⟨_, rfl⟩
            obtain ⟨b, hb⟩ : ∃ b, (k + 1) * s2 = b := ⟨_, rfl⟩
            rw [ha, hb] at hk1
            rw [hb] at hk2
            rw [ha] at hk
            rw [ha, hb]
            have ham : (a : Int) + (s : Int) = ((a + s : Nat) : Int) := by omega
            obtain ⟨m, hm⟩ : ∃ m, a + s = m := ⟨_, rfl⟩
            rw [hm] at ham
            have hab : (a : Int) ≤ 4398046511104 := by omega
            have hs2b : (s2 : Int) ≤ 8796093022208 := by omega
            have HK := Lib.hid (show k * s2 = a ∧ (k + 1) * s2 = b ∧ b = a + s2 ∧ (k + 1 + 1) * s2 = b + s2 ∧ a ≤ n ∧ a + s = m ∧ 2 * s = s2 from ⟨ha, hb, hk1, hk2, hk, hm, hs2E⟩)
            by_cases hlt3 : b ≤ n
            · have hc := fun W hW => HSy.out a m b cur W hW (by omega) (by omega) (by omega) hcl3
              have HC := Lib.hid hc
              obtain ⟨b2, hb2⟩ : ∃ b2, b + s2 = b2 := ⟨_, rfl⟩
              have hbs : (b : Int) + (s2 : Int) = (b2 : Int) := by omega
              have HB2 := Lib.hid hb2
              clear hc ha hb hk1 hk2 hm hb2
              go_wp2_with (first | fail | (go_at_call 88; refine (HC.out _ HRz.out).mono ?_; rintro e9 w9 ⟨l3, rfl, hlen, hS, hR, hb9⟩; have HR3 := Lib.hid hR; have HB3 := Lib.hid (HBz.out.trans hb9); have HS3 := Lib.hid hS; have hl3 := hlen.trans hcl3; clear hlen hS hR hb9))
              have hst := two_step ahead_ord (k := k) (B := s) (by have := HS.out; omega) HTw.out (by have := HK.out; rw [this.2.2.2.2.2.2, this.2.1, hcl3]; exact hlt3) (by have := HS3.out; have hk := HK.out; rw [hk.2.2.2.2.2.2, hk.1, hk.2.1, hk.2.2.2.2.2.1]; exact this)
              refine ⟨⟨k + 1, l3, by have := HK.out; rw [this.2.1], by have := HK.out; rw [this.2.2.2.1, HB2.out], by have := HK.out; omega, hl3, Lib.hid (hst.2.trans HPm3.out), Lib.hid hst.1, HR3, HB3⟩, by have := HK.out; have := HS.out; simp [intOf]; omega⟩
            · by_cases hmn : m < n
              · have hc := fun W hW => HSy.out a m n cur W hW (by omega) hmn (by omega) hcl3
                have HC := Lib.hid hc
                clear hc ha hb hk1 hk2 hm
                go_wp2_with (first | fail | (go_at_call 88; refine (HC.out _ HRz.out).mono ?_; rintro e9 w9 ⟨l3, rfl, hlen, hS, hR, hb9⟩; have HR3 := Lib.hid hR; have HB3 := Lib.hid (HBz.out.trans hb9); have HS3 := Lib.hid hS; have hl3 := hlen.trans hcl3; clear hlen hS hR hb9))
                have hst := two_last ahead_ord (k := k) (B := s) (by have := HS.out; omega) HTw.out (by have := HK.out; rw [this.2.2.2.2.2.2, this.1, hcl3]; exact this.2.2.2.2.1) (by have := HK.out; rw [this.2.2.2.2.2.2, this.2.1, hcl3]; omega) (Or.inl ⟨by have := HK.out; rw [this.2.2.2.2.2.2, this.1, this.2.2.2.2.2.1, hcl3]; exact hmn, by have := HS3.out; have hk := HK.out; rw [hk.2.2.2.2.2.2, hk.1, hk.2.2.2.2.2.1, hcl3]; exact this⟩)
                rw [hs2E] at hst
                refine ⟨⟨s2, l3, rfl, by omega, by left; omega, hl3, Lib.hid (hst.2.trans HPm3.out), Lib.hid hst.1, HR3, HB3⟩, by have := HS.out; simp [intOf]; omega⟩
              · clear ha hb hk1 hk2 hm
                go_wp2_with fail
                have hst := two_last (z := z59) ahead_ord (k := k) (B := s) (l' := cur) (by have := HS.out; omega) HTw.out (by have := HK.out; rw [this.2.2.2.2.2.2, this.1, hcl3]; exact this.2.2.2.2.1) (by have := HK.out; rw [this.2.2.2.2.2.2, this.2.1, hcl3]; omega) (Or.inr ⟨by have := HK.out; rw [this.2.2.2.2.2.2, this.1, this.2.2.2.2.2.1, hcl3]; omega, rfl⟩)
                rw [hs2E] at hst
                refine ⟨⟨s2, cur, rfl, by omega, by left; omega, hcl3, HPm3, Lib.hid hst.1, HRz, HBz⟩, by have := HS.out; simp [intOf]; omega⟩
        · go_wp2_with fail
          go_end0
          exact ⟨_, rfl, hcl2.trans hn.symm, ⟨HPm2.out, blk_whole HBl.out (by omega)⟩, HRy.out, HBy.out⟩
end Go.Proofs.YtcbkgammlfjjoaaDoor
namespace Go.Proofs.YtcbkgammlfjjoaaDoor
set_option linter.unusedVariables false
set_option linter.unusedSimpArgs false
open Go.RowKit Go.Proofs.YtcbkgammlfjjoaaDoorW.PrintWords Go.Proofs.YtcbkgammlfjjoaaDoorW.PrintLast Go.Proofs.YtcbkgammlfjjoaaDoorW.PrintMore

theorem undI : Tryd.prog.underlying 3 = some (.int .i64) := by kernel_rfl
def RowP (l : List S59) (w : World) (e : Ending) (w' : World) : Prop := ∃ A c, e = .returned (.slice A l.length c) ∧ Kd.R k59 59 w' w.heap.size (fun _ => True) (.slice A l.length c) l ∧ Below w.heap.size w w'
set_option maxRecDepth 100000 in
set_option maxHeartbeats 4000000 in
theorem growNil_any (n : Nat) (w : World) (hn : n * 32 ≤ 140737488355328) : Calls Tryd.prog 77 #[.slice none 0 0, .int .i64 n] w (RowP [] w) := by
  by_cases h0 : n = 0
  · subst h0
    go_enter Tryd.func77, Tryd.ntmps77
    go_wp2_with fail
    go_ret
    exact ⟨none, 0, rfl, Kd.R_nil _ _ _ _ _, Below.refl _ _⟩
  · have hpos : 0 < n := Nat.pos_of_ne_zero h0
    have hnb : (n : Int) ≤ 4398046511104 := by omega
    go_enter Tryd.func77, Tryd.ntmps77
    go_wp2_with (first | fail | ((with_reducible refine gate_builtin (b := .append) (xs := #[.tmp 20, .tmp 21]) rfl ?_); at_builtin; refine Kd.R_append_zeros k59 (w0 := w) w.heap.size rfl (.tmp 20) (.tmp 21) 24 3 59 (.agg #[(.int .i64 0), (.int .i64 0), (.string ⟨#[]⟩)]) 32 rfl Tryd.underlying24 undI info59 rfl (by decide) (by decide) (.slice none 0 0) ([] : List S59) z59 (n : Int) (fun _ => True) rfl rfl ?zz (fun _ _ => trivial) ?aO ?a0 ?aB ?aS ?aL ?_; (case zz => exact k59_mkM _ _ _ z59); (case aO => exact Kd.R_nil _ _ _ _ _); (case a0 => omega); (case aB => exact Below.refl _ _); (case aS => exact Nat.le_refl _); (case aL => simp only [List.length_nil, Int.toNat_natCast]; omega); intro v1 w1 hr hb hg hat; rw [List.nil_append] at hr; obtain ⟨A, c, he⟩ := Kd.R_slice hr; subst he; have HR := Lib.hid hr; have HB := Lib.hid hb; clear hr hb hg hat))
    go_ret
    exact ⟨A, c, rfl, Kd.R_take (m := 0) HR.out (Nat.zero_le _), HB.out⟩
theorem row_cell {w : World} {A : Option Addr} {L : List (List S59)} (h : Kd.C (Kd.slice 59 k59) w A L.length L) (ha : AF A) (i : Nat) (hi : i < L.length) : ∃ b o A0 c0, A = some ⟨b, o, none⟩ ∧ w.cell? ⟨b, o + i, none⟩ = some (.slice A0 (L.getD i []).length c0) ∧ (L.getD i []).length ≤ c0 ∧ Kd.C k59 w A0 (L.getD i []).length (L.getD i []) ∧ b < w.heap.size := by
  obtain ⟨ad, A0, c0, e, hc, hl, hC⟩ := at_L3 h (i : Int) (by omega) (by omega)
  rcases ha with rfl | ⟨b, o, rfl⟩
  · cases e
  · injection e with e
    subst e
    rw [Int.toNat_natCast, add_plain] at hc
    have er : rd_L3 L (i : Int) = L.getD i [] := rfl
    rw [er] at hc hl hC
    exact ⟨b, o, A0, c0, rfl, hc, hl, hC, World.block_lt_of_cell? w _ hc⟩
def flat (L : List (List S59)) (k : Nat) : List S59 := (L.take k).flatten
theorem flat_succ (L : List (List S59)) {k : Nat} (hk : k < L.length) : flat L (k + 1) = flat L k ++ L.getD k [] := by
  unfold flat
  rw [List.take_succ_eq_append_getElem hk, List.flatten_append, List.getD_eq_getElem?_getD, List.getElem?_eq_getElem hk]
  simp
theorem flat_le (L : List (List S59)) : ∀ k, (flat L k).length ≤ L.flatten.length := by
  intro k
  have e : L.flatten = flat L k ++ (L.drop k).flatten := by
    unfold flat
    rw [← List.flatten_append, List.take_append_drop]
  rw [e, List.length_append]
  omega
set_option maxRecDepth 100000 in
set_option maxHeartbeats 4000000 in
theorem concat_any (A : Option Addr) (c : Nat) (L : List (List S59)) (w : World) (hC : Kd.C (Kd.slice 59 k59) w A L.length L) (hA : AF A) (hT : L.flatten.length * 32 ≤ 140737488355328) (hL : L.length ≤ 140737488355328) :
    Calls Tryd.prog 64 #[.slice A L.length c] w (RowP L.flatten w) := by
  have HC := Lib.hid hC
  have HA := Lib.hid hA
  clear hC hA
  have hfl0 := flat_le L
  have hfe : flat L L.length = L.flatten := by unfold flat; rw [List.take_length]
  obtain ⟨F, hF⟩ : ∃ F, L.flatten = F := ⟨_, rfl⟩
  rw [hF] at hT hfl0 hfe ⊢
  have HFl := Lib.hid hfl0
  have HFe := Lib.hid hfe
  clear hfl0 hfe hF
  go_enter Tryd.func64, Tryd.ntmps64
  go_upto_region 3 with fail
  go_loopw [3, 11] (fun v3 v11 wx => ∃ k : Nat, v11 = .int .i64 k ∧ k ≤ L.length ∧ v3 = .int .i64 (flat L k).length ∧ Hid (Below w.heap.size w wx)) (fun _ v11 _ => L.length - (intOf v11).toNat)
  case atStart => exact ⟨0, rfl, Nat.zero_le _, rfl, Lib.hid (Below.refl _ _)⟩
  case round =>
    obtain ⟨k, rfl, hk, rfl, HBx⟩ := hrel
    by_cases hlt : k < L.length
    · obtain ⟨b, o, A0, c0, hAe, hcell, hlc, hC0, hbs⟩ := row_cell (Kd.C_below HC.out HBx.out) HA.out k hlt
      subst hAe
      have hfs := flat_succ L hlt
      have hf1 := HFl.out (k + 1)
      rw [hfs, List.length_append] at hf1
      have HFs := Lib.hid hfs
      generalize L.getD k [] = row at *
      have hfl : ((flat L k).length : Int) + (row.length : Int) ≤ 4398046511104 := by omega
      have hkb : (k : Int) ≤ 140737488355328 := by omega
      clear hfs hC0
      go_wp2_with fail
      refine ⟨⟨k + 1, by simp, hlt, by rw [HFs.out, List.length_append]; simp, HBx⟩, by simp [intOf]; omega⟩
    · obtain rfl : k = L.length := by omega
      rw [HFe.out]
      have hnn : (F.length : Int) ≤ 4398046511104 := by omega
      go_upto_region 11 with (first | fail | (go_at_call 77; refine (growNil_any F.length wr hT).mono ?_; rintro e9 w9 ⟨A9, c9, rfl, hr, hb9⟩; have HR9 := Lib.hid (Kd.R_lower hr HBx.out.size); have HB9 := Lib.hid (HBx.out.trans (hb9.mono HBx.out.size)); clear hr hb9))
      go_loopw [6, 27] (fun v6 v27 wx => ∃ k : Nat, v27 = .int .i64 k ∧ k ≤ L.length ∧ Hid (Kd.R k59 59 wx w.heap.size (fun _ => True) v6 (flat L k)) ∧ Hid (Below w.heap.size w wx)) (fun _ v27 _ => L.length - (intOf v27).toNat)
      case atStart => exact ⟨0, rfl, Nat.zero_le _, HR9, HB9⟩
      case round =>
        obtain ⟨k, rfl, hk, HRy, HBy⟩ := hrel
        by_cases hlt : k < L.length
        · obtain ⟨b, o, A0, c0, hAe, hcell, hlc, hC0, hbs⟩ := row_cell (Kd.C_below HC.out HBy.out) HA.out k hlt
          subst hAe
          have hfs := flat_succ L hlt
          have hf1 := HFl.out (k + 1)
          rw [hfs, List.length_append] at hf1
          have HFs := Lib.hid hfs
          have HC0 := Lib.hid hC0
          generalize L.getD k [] = row at *
          have HF1 := Lib.hid hf1
          have hkb : (k : Int) ≤ 140737488355328 := by omega
          obtain ⟨fl, hfl⟩ : ∃ fl, flat L k = fl := ⟨_, rfl⟩
          rw [hfl] at HRy HFs HF1
          obtain ⟨Av, cv, rfl⟩ := Kd.R_slice HRy.out
          clear hfs hC0 hf1 hfl
          go_wp2_with (first | fail | ((with_reducible refine gate_builtin (b := .append) (xs := #[.tmp 31, .tmp 32]) rfl ?_); at_builtin; refine Kd.R_append_rows k59 (w0 := w) w.heap.size rfl (.tmp 31) (.tmp 32) 24 59 (.agg #[(.int .i64 0), (.int .i64 0), (.string ⟨#[]⟩)]) 32 rfl Tryd.underlying24 info59 rfl (by decide) (by decide) (.slice Av fl.length cv) fl row A0 row.length c0 (fun _ => True) (fun _ => False) rfl rfl ?aO ?aR (fun _ _ h => h) (fun _ h => h.elim) (fun _ _ => trivial) ?aB ?aS ?aL ?_; (case aO => exact HRy.out); (case aR => exact HC0.out); (case aB => exact HBy.out); (case aS => exact HBy.out.size); (case aL => have := HF1.out; omega); intro v1 w1 hr hb hg hat; have HR1 := Lib.hid hr; have HB1 := Lib.hid hb; clear hr hb hg hat))
          refine ⟨⟨k + 1, by simp, hlt, Lib.hid (by rw [HFs.out]; exact HR1.out), HB1⟩, by simp [intOf]; omega⟩
        · obtain rfl : k = L.length := by omega
          rw [HFe.out] at HRy
          obtain ⟨Av, cv, rfl⟩ := Kd.R_slice HRy.out
          go_wp2_with fail
          go_ret
          exact ⟨Av, cv, rfl, HRy.out, HBy.out⟩
end Go.Proofs.YtcbkgammlfjjoaaDoor
namespace Go.Proofs.YtcbkgammlfjjoaaDoor
set_option linter.unusedVariables false
set_option linter.unusedSimpArgs false
open Go.RowKit Go.Proofs.YtcbkgammlfjjoaaDoorW.PrintWords Go.Proofs.YtcbkgammlfjjoaaDoorW.PrintLast Go.Proofs.YtcbkgammlfjjoaaDoorW.PrintMore

theorem rw_of_R {W : World} {base g c : Nat} {ok : Nat → Prop} {l : List S59} (h : Kd.R k59 59 W base ok (.slice (some ⟨g, 0, none⟩) l.length c) l) (hg : g < W.heap.size) : Rw W g l := by
  have key : ∀ j, j < l.length → (W.cell? ⟨g, j * 3, none⟩ = some (.int .i64 (l.getD j z59).f0) ∧ W.cell? ⟨g, j * 3 + 1, none⟩ = some (.int .i64 (l.getD j z59).f1) ∧ W.cell? ⟨g, j * 3 + 2, none⟩ = some (.string (l.getD j z59).f2)) ∧ (∀ i, W.frozen? ⟨g, j * 3 + i, none⟩ = false) := by
    intro j hj
    obtain ⟨cs, hcl, hM, hcells, hfr⟩ := Kd.R_elem h z59 (j : Int) (by omega) (by omega)
    rw [Int.toNat_natCast] at hM hcells hfr
    obtain rfl := k59_openM hM
    have e : k59.sz = 3 := rfl
    rw [e] at hcells hfr
    exact ⟨⟨hcells 0 _ rfl, hcells 1 _ rfl, hcells 2 _ rfl⟩, hfr⟩
  exact ⟨fun j hj => (key j hj).1.1, fun j hj => (key j hj).1.2.1, fun j hj => (key j hj).1.2.2, fun j hj => (key j hj).2 0, fun j hj => (key j hj).2 1, fun j hj => (key j hj).2 2, hg⟩
theorem C_of_rw {W : World} {g : Nat} {l : List S59} (h : Rw W g l) (hl : l.length ≤ 9223372036854775807) : Kd.C k59 W (some ⟨g, 0, none⟩) l.length l := by
  refine ⟨rfl, hl, fun _ => ⟨_, rfl, fun j p hj => ?_⟩⟩
  have hlt : j < l.length := by
    rcases Nat.lt_or_ge j l.length with h1 | h1
    · exact h1
    · rw [List.getElem?_eq_none h1] at hj; cases hj
  have hp : l.getD j z59 = p := by rw [List.getD_eq_getElem?_getD, hj]; rfl
  have h0 := h.c0 j hlt
  have h1 := h.c1 j hlt
  have h2 := h.c2 j hlt
  rw [hp] at h0 h1 h2
  refine ⟨_, rfl, k59_mk W p, fun i u hu => ?_⟩
  have ea : ∀ k, (⟨g, 0, none⟩ : Addr).add k = ⟨g, k, none⟩ := fun k => by rw [add_plain, Nat.zero_add]
  rw [ea]
  match i, hu with
  | 0, hu => injection hu with hu; subst hu; exact h0
  | 1, hu => injection hu with hu; subst hu; exact h1
  | 2, hu => injection hu with hu; subst hu; exact h2
set_option maxRecDepth 100000 in
theorem insSort_zero (A : Option Addr) (c : Nat) (w : World) : Calls Tryd.prog 87 #[.slice A 0 c, .int .i64 0, .int .i64 0, fA] w fun e w' => e = .returned (.tuple #[]) ∧ w = w' := by
  go_enter Tryd.func87, Tryd.ntmps87
  go_upto_region 1 with fail
  go_loop [8] (fun v => v = .int .i64 1) (fun _ => 0)
  case atStart => rfl
  case round =>
    obtain rfl := hrel
    go_wp2_with fail
    go_end0
    exact ⟨rfl, rfl⟩
set_option maxRecDepth 100000 in
theorem stable_zero (A : Option Addr) (c : Nat) (w : World) : Calls Tryd.prog 78 #[.slice A 0 c, .int .i64 0, fA] w fun e w' => e = .returned (.tuple #[]) ∧ w = w' := by
  go_enter Tryd.func78, Tryd.ntmps78
  go_upto_region 2 with fail
  go_loop [7, 8] (fun v u => v = .int .i64 0 ∧ u = .int .i64 20) (fun _ _ => 0)
  case atStart => exact ⟨rfl, rfl⟩
  case round =>
    obtain ⟨rfl, rfl⟩ := hrel
    go_upto_region 7 with (first | fail | (go_at_call 87; refine (insSort_zero _ _ _).mono ?_; rintro e w' ⟨rfl, rfl⟩))
    go_loop [6] (fun v => v = .int .i64 20) (fun _ => 0)
    case atStart => rfl
    case round =>
      obtain rfl := hrel
      go_wp2_with fail
      go_end0
      exact ⟨rfl, rfl⟩
/-- a sorted row behind the call -/
def SortP (base : Nat) (l : List S59) (A : Option Addr) (w : World) (e : Ending) (w' : World) : Prop := ∃ l', e = .returned (.tuple #[]) ∧ l'.length = l.length ∧ l'.Perm l ∧ Srt aheadB l' ∧ Kd.C k59 w' A l'.length l' ∧ Below base w w'
set_option maxRecDepth 100000 in
theorem sort_any (A : Option Addr) (c base : Nat) (l : List S59) (w : World) (h : Kd.R k59 59 w base (fun _ => True) (.slice A l.length c) l) (hl : l.length ≤ 4398046511104) :
    Calls Tryd.prog 65 #[.slice A l.length c, fA] w (SortP base l A w) := by
  by_cases h0 : l = []
  · subst h0
    go_enter Tryd.func65, Tryd.ntmps65
    go_wp2_with (first | fail | (go_at_call 78; refine (stable_zero _ _ _).mono ?_; rintro e w' ⟨rfl, rfl⟩))
    go_end0
    exact ⟨[], rfl, rfl, List.Perm.refl _, Srt.nil _, ⟨rfl, by decide, fun h => absurd h (Nat.lt_irrefl _)⟩, Below.refl _ _⟩
  · have hpos : 0 < l.length := List.length_pos_iff.2 h0
    obtain ⟨g, cap, hA, hg0, hg1, -⟩ := Kd.R_form h hpos
    cases hA
    have hrw := rw_of_R h hg1
    have hst := fun W hW => stable_any base g c l W hW hg0 hl
    have HRw := Lib.hid hrw
    have HSt := Lib.hid hst
    clear h hrw hst
    go_enter Tryd.func65, Tryd.ntmps65
    go_wp2_with (first | fail | (go_at_call 78; refine (HSt.out _ HRw.out).mono ?_; rintro e9 w9 ⟨l2, rfl, hlen, hS, hR, hb9⟩; have HR9 := Lib.hid hR; have HB9 := Lib.hid hb9; have HS9 := Lib.hid hS; have HL9 := Lib.hid hlen; clear hlen hS hR hb9))
    go_end0
    exact ⟨l2, rfl, HL9.out, HS9.out.1, HS9.out.2, C_of_rw HR9.out (by have := HL9.out; omega), HB9.out⟩
end Go.Proofs.YtcbkgammlfjjoaaDoor
namespace Go.Proofs.YtcbkgammlfjjoaaDoor
set_option linter.unusedVariables false
set_option linter.unusedSimpArgs false
open Go.RowKit Go.Proofs.YtcbkgammlfjjoaaDoorW.PrintWords Go.Proofs.YtcbkgammlfjjoaaDoorW.PrintLast Go.Proofs.YtcbkgammlfjjoaaDoorW.PrintMore

/-- four slices in a box -/
structure Fx (W : World) (g : Nat) (v0 v1 v2 v3 : Value) : Prop where
  k0 : W.cell? ⟨g, 0, none⟩ = some v0
  k1 : W.cell? ⟨g, 1, none⟩ = some v1
  k2 : W.cell? ⟨g, 2, none⟩ = some v2
  k3 : W.cell? ⟨g, 3, none⟩ = some v3
  f0 : W.frozen? ⟨g, 0, none⟩ = false
  f1 : W.frozen? ⟨g, 1, none⟩ = false
  f2 : W.frozen? ⟨g, 2, none⟩ = false
  f3 : W.frozen? ⟨g, 3, none⟩ = false
  s : g < W.heap.size
theorem Fx.low {B : Nat} {W W' : World} {g : Nat} {v0 v1 v2 v3 : Value} (h : Fx W g v0 v1 v2 v3) (hg : g < B) (hb : Below B W W') : Fx W' g v0 v1 v2 v3 :=
  ⟨(hb.cell (p := ⟨g, 0, none⟩) hg).trans h.k0, (hb.cell (p := ⟨g, 1, none⟩) hg).trans h.k1, (hb.cell (p := ⟨g, 2, none⟩) hg).trans h.k2, (hb.cell (p := ⟨g, 3, none⟩) hg).trans h.k3, (hb.frozen (p := ⟨g, 0, none⟩) hg).trans h.f0, (hb.frozen (p := ⟨g, 1, none⟩) hg).trans h.f1, (hb.frozen (p := ⟨g, 2, none⟩) hg).trans h.f2, (hb.frozen (p := ⟨g, 3, none⟩) hg).trans h.f3, Nat.lt_of_lt_of_le h.s hb.size⟩
theorem fx_alloc (w : World) (A0 A1 A2 A3 : Option Addr) (n0 n1 n2 n3 c0 c1 c2 c3 : Nat) {W : World} (hW : w.alloc (.cells #[.slice A0 n0 c0, .slice A1 n1 c1, .slice A2 n2 c2, .slice A3 n3 c3] 26) = W) : Fx W w.heap.size (.slice A0 n0 c0) (.slice A1 n1 c1) (.slice A2 n2 c2) (.slice A3 n3 c3) ∧ Below w.heap.size w W := by
  refine ⟨⟨?_, ?_, ?_, ?_, ?_, ?_, ?_, ?_, ?_⟩, ?_⟩
  all_goals first | (rw [← hW]; exact below_alloc (Below.refl _ _) _) | (rw [← hW]; simp; done) | (rw [← hW]; simp [go_sem])
abbrev wvZ : Value := .agg #[.slice none 0 0, .slice none 0 0, .slice none 0 0, .slice none 0 0]
def MergeP (x : WV) (L : List (List S59)) (w : World) (e : Ending) (w' : World) : Prop := ∃ l', l'.Perm L.flatten ∧ Srt aheadB l' ∧ Below w.heap.size w w' ∧
  ((mayB { x with li := l' } = true ∧ ∃ A0 c0 A1 c1 A2 c2 A3 c3, e = .returned (.tuple #[wvV { x with li := l' } A0 c0 A1 c1 A2 c2 A3 c3, .int .i64 0]) ∧ WIn w' { x with li := l' } A0 c0 A1 c1 A2 c2 A3 c3) ∨ (mayB { x with li := l' } = false ∧ e = .returned (.tuple #[wvZ, .int .i64 1])))
set_option maxRecDepth 100000 in
set_option maxHeartbeats 4000000 in
theorem merge_bad (x : WV) (A0 : Option Addr) (c0 : Nat) (A1 : Option Addr) (c1 : Nat) (A2 : Option Addr) (c2 : Nat) (A3 : Option Addr) (c3 : Nat) (v : Value) (w : World) (hI : WIn w x A0 c0 A1 c1 A2 c2 A3 c3) (hbad : mayB x = false ∨ (mayB x = true ∧ decide (0 < x.li.length) = true)) :
    Calls Tryd.prog 38 #[wvV x A0 c0 A1 c1 A2 c2 A3 c3, v] w fun e w' => e = .returned (.tuple #[wvZ, .int .i64 1]) ∧ Below w.heap.size w w' := by
  have HI := Lib.hid hI
  have HBad := Lib.hid hbad
  have HCk := Lib.hid (fun W => fun h => check_any x A0 c0 A1 c1 A2 c2 A3 c3 W h)
  clear hI hbad
  go_enter Tryd.func38, Tryd.ntmps38
  go_upto_region 1 with fail
  obtain ⟨W1, hW1⟩ : ∃ W, w.alloc (Obj.cells #[Value.slice A0 x.nm.length c0, Value.slice A1 x.wd.length c1, Value.slice A2 x.fi.length c2, Value.slice A3 x.li.length c3] 26) = W := ⟨_, rfl⟩
  rw [hW1]
  obtain ⟨hx, hb⟩ := bx_alloc w x A0 c0 A1 c1 A2 c2 A3 c3 hW1
  obtain ⟨W, hW⟩ : ∃ W, W1.alloc (.cells #[.slice none 0 0, .slice none 0 0, .slice none 0 0, .slice none 0 0] 26) = W := ⟨_, rfl⟩
  rw [hW]
  obtain ⟨hf, hb2⟩ := fx_alloc W1 none none none none 0 0 0 0 0 0 0 0 hW
  rw [show W1.heap.size = w.heap.size + 1 by rw [← hW1]; simp] at hf
  have HB := Lib.hid (hb.trans (hb2.mono hb.size))
  have HX := Lib.hid (hx.below hb2)
  have HF := Lib.hid hf
  clear hb hb2 hx hf hW hW1
  have a0 := HX.out.k0
  have a1 := HX.out.k1
  have a2 := HX.out.k2
  have a3 := HX.out.k3
  go_wp2_with fail
  clear a0 a1 a2 a3
  refine (HCk.out W (HI.out.below HB.out)).mono ?_
  rintro e w1 ⟨rfl, hb⟩
  have HB1 := Lib.hid (HB.out.trans (hb.mono HB.out.size))
  have a3 := (HX.out.below hb).k3
  obtain ⟨p0, p1, p2, p3, f0, f1, f2, f3, hsz⟩ := HF.out.low HF.out.s hb
  clear hb
  rcases HBad.out with h | ⟨h, h1⟩
  all_goals
    rw [h]
    clear h
    go_wp2_with fail
    refine bodyPost_ret (v := .tuple #[wvZ, .int .i64 1]) (by simp [results, Tryd.results38, go_sem, p0, p1, p2, p3, hsz]) rfl ⟨rfl, ?_⟩
    repeat (with_reducible first | exact HB1.out | (refine below_set2 ?_ ?_; (· omega)))
set_option maxRecDepth 100000 in
set_option maxHeartbeats 4000000 in
theorem merge_any (x : WV) (A0 : Option Addr) (c0 : Nat) (A1 : Option Addr) (c1 : Nat) (A2 : Option Addr) (c2 : Nat) (A3 : Option Addr) (c3 : Nat) (A : Option Addr) (c : Nat) (L : List (List S59)) (w : World) (hI : WIn w x A0 c0 A1 c1 A2 c2 A3 c3) (hmx : mayB x = true) (hx0 : x.li.length = 0)
    (hC : Kd.C (Kd.slice 59 k59) w A L.length L) (hA : AF A) (hT : L.flatten.length ≤ 4398046511104) (hL : L.length ≤ 140737488355328) (hz : ∀ c ∈ L.flatten, c.f2.size ≤ 9223372036854775807) :
    Calls Tryd.prog 38 #[wvV x A0 c0 A1 c1 A2 c2 A3 c3, .slice A L.length c] w (MergeP x L w) := by
  have HI := Lib.hid hI
  have HM := Lib.hid ((may_iff x).1 hmx)
  have hck := fun W => fun h => check_any x A0 c0 A1 c1 A2 c2 A3 c3 W h
  rw [hmx] at hck
  have HCk := Lib.hid hck
  have HC := Lib.hid hC
  have HA := Lib.hid hA
  have HL := Lib.hid hL
  have hlz : decide (0 < x.li.length) = false := decide_eq_false (by omega)
  unfold MergeP
  have hcc := fun W h => concat_any A c L W h hA (by omega) hL
  obtain ⟨F, hF⟩ : ∃ F, L.flatten = F := ⟨_, rfl⟩
  rw [hF] at hcc hT hz ⊢
  have HCc := Lib.hid hcc
  have HT := Lib.hid hT
  have HZ := Lib.hid hz
  clear hck hI hmx hC hA hL hcc hF hT hz hx0
  go_enter Tryd.func38, Tryd.ntmps38
  go_upto_region 1 with fail
  obtain ⟨W1, hW1⟩ : ∃ W, w.alloc (Obj.cells #[Value.slice A0 x.nm.length c0, Value.slice A1 x.wd.length c1, Value.slice A2 x.fi.length c2, Value.slice A3 x.li.length c3] 26) = W := ⟨_, rfl⟩
  rw [hW1]
  obtain ⟨hx, hb⟩ := bx_alloc w x A0 c0 A1 c1 A2 c2 A3 c3 hW1
  obtain ⟨W, hW⟩ : ∃ W, W1.alloc (.cells #[.slice none 0 0, .slice none 0 0, .slice none 0 0, .slice none 0 0] 26) = W := ⟨_, rfl⟩
  rw [hW]
  obtain ⟨hf, hb2⟩ := fx_alloc W1 none none none none 0 0 0 0 0 0 0 0 hW
  rw [show W1.heap.size = w.heap.size + 1 by rw [← hW1]; simp] at hf
  have HB := Lib.hid (hb.trans (hb2.mono hb.size))
  have HX := Lib.hid (hx.below hb2)
  have HF := Lib.hid hf
  clear hb hb2 hx hf hW hW1
  have a0 := HX.out.k0
  have a1 := HX.out.k1
  have a2 := HX.out.k2
  have a3 := HX.out.k3
  go_wp2_with fail
  clear a0 a1 a2 a3
  refine (HCk.out W (HI.out.below HB.out)).mono ?_
  rintro e w1 ⟨rfl, hb⟩
  have HB1 := Lib.hid (HB.out.trans (hb.mono HB.out.size))
  have HX1 := Lib.hid (HX.out.below hb)
  have HF1 := Lib.hid (HF.out.low HF.out.s hb)
  clear hb
  have a3 := HX1.out.k3
  go_upto_region 4 with (first | fail | (go_at_call 64; refine (HCc.out _ (Kd.C_below HC.out HB1.out)).mono ?_; rintro e9 w2 ⟨A9, c9, rfl, hr, hb9⟩; have HR2 := Lib.hid hr; have HB2 := Lib.hid hb9; clear hr hb9))
  clear a3
  have hso := fun W h => sort_any A9 c9 w1.heap.size F W h HT.out
  have HSo := Lib.hid hso
  obtain ⟨A9', c9', he9, -, -, haf⟩ := R_in HR2.out
  have haf' : AF A9 := by injection he9 with h; rw [h]; exact haf
  have HAf := Lib.hid haf'
  clear hso haf haf' he9
  go_upto_region 5 with (first | fail | (go_at_call 65; refine (HSo.out _ HR2.out).mono ?_; rintro e9 w3 ⟨l', rfl, hlen, hpm, hst, hcl, hb9⟩; have HL3 := Lib.hid hlen; have HP3 := Lib.hid hpm; have HS3 := Lib.hid hst; have HC3 := Lib.hid hcl; have HB3 := Lib.hid (HB2.out.trans hb9); clear hlen hpm hst hcl hb9))
  have HX3 := Lib.hid (HX1.out.below HB3.out)
  have HF3 := Lib.hid (HF1.out.low HF1.out.s HB3.out)
  have HW3 := Lib.hid (HB1.out.trans (HB3.out.mono HB1.out.size))
  have a0 := HX3.out.k0
  have a1 := HX3.out.k1
  have a2 := HX3.out.k2
  have a3 := HX3.out.k3
  go_upto_region 6 with (first | fail | (go_at_call 48; refine (own_any' x A0 c0 A1 c1 A2 c2 A3 c3 A9 F.length c9 l' w3 HL3.out (HI.out.below HW3.out) HAf.out HC3.out (by have := HL3.out; have := HT.out; omega) HM.out.n (by rw [HM.out.wd]; exact HM.out.n) (by rw [HM.out.fi]; exact HM.out.n)).mono ?_; rintro e9 w4 ⟨v0, v1, v2, v3, rfl, hb9, ho9⟩; obtain ⟨G0, g0, G1, g1, G2, g2, G3, g3, rfl, rfl, rfl, rfl, hy⟩ := ho9.win (y := { x with li := l' }) rfl HI.out.z0 HI.out.z2 (fun c hc => HZ.out c (HP3.out.mem_iff.1 hc)) (by have := HL3.out; have := HT.out; omega); have HY4 := Lib.hid hy; have HO4 := Lib.hid ho9; have HB4 := Lib.hid hb9; clear hb9 ho9 hy a0 a1 a2 a3))
  obtain ⟨W5, hW5⟩ : ∃ W, w4.alloc (.cells #[.slice G0 x.nm.length g0, .slice G1 x.wd.length g1, .slice G2 x.fi.length g2, .slice G3 l'.length g3] 26) = W := ⟨_, rfl⟩
  rw [hW5]
  obtain ⟨hf5, hb5⟩ := fx_alloc w4 G0 G1 G2 G3 x.nm.length x.wd.length x.fi.length l'.length g0 g1 g2 g3 hW5
  have HW5 := Lib.hid (HW3.out.trans ((HB4.out.trans (hb5.mono HB4.out.size)).mono HW3.out.size))
  have HB5 := Lib.hid (HB4.out.trans (hb5.mono HB4.out.size))
  have HF5 := Lib.hid (HF3.out.low HF3.out.s HB5.out)
  have HG5 := Lib.hid hf5
  have HY5 := Lib.hid (HY4.out.below hb5)
  have HO5 := Lib.hid (OwnIn.mk (Kd.R_below HO4.out.r0 hb5) (Kd.R_below HO4.out.r1 hb5) (Kd.R_below HO4.out.r2 hb5) (Kd.R_below HO4.out.r3 hb5) : OwnIn w3 W5 x l' _ _ _ _)
  clear hW5 hf5 hb5
  have a0 := HG5.out.k0
  have a1 := HG5.out.k1
  have a2 := HG5.out.k2
  have a3 := HG5.out.k3
  go_wp2_with fail
  clear a0 a1 a2 a3
  refine (check_any { x with li := l' } G0 g0 G1 g1 G2 g2 G3 g3 W5 HY5.out).mono ?_
  rintro e w6 ⟨rfl, hb⟩
  have HW6 := Lib.hid (HW5.out.trans (hb.mono HW5.out.size))
  obtain ⟨p0, p1, p2, p3, f0, f1, f2, f3, hsz⟩ := HF5.out.low HF5.out.s hb
  obtain ⟨q0, q1, q2, q3, -, -, -, -, hsz2⟩ := HG5.out.low HG5.out.s hb
  have HO6 := Lib.hid (OwnIn.mk (Kd.R_below HO5.out.r0 hb) (Kd.R_below HO5.out.r1 hb) (Kd.R_below HO5.out.r2 hb) (Kd.R_below HO5.out.r3 hb) : OwnIn w3 w6 x l' _ _ _ _)
  have HZs := Lib.hid (show w.heap.size + 1 < w3.heap.size from HF3.out.s)
  clear hb
  cases hmy : mayB { x with li := l' }
  · clear q0 q1 q2 q3
    go_wp2_with fail
    refine bodyPost_ret (v := .tuple #[wvZ, .int .i64 1]) (by simp [results, Tryd.results38, go_sem, p0, p1, p2, p3, hsz]) rfl ⟨l', HP3.out, HS3.out, ?_, Or.inr ⟨hmy, rfl⟩⟩
    repeat (with_reducible first | exact HW6.out | (refine below_set2 ?_ ?_; (· omega)))
  · go_wp2_with fail
    have hz := HZs.out
    obtain ⟨D0, d0, D1, d1, D2, d2, D3, d3, e0, e1, e2, e3, hwin⟩ := (((((HO6.out.off (u := .slice G0 x.nm.length g0) (o := 0) hz).off (u := .slice G1 x.wd.length g1) (o := 1) hz).off (u := .slice G2 x.fi.length g2) (o := 2) hz).off (u := .slice G3 l'.length g3) (o := 3) hz)).win (y := { x with li := l' }) rfl HI.out.z0 HI.out.z2 (fun c hc => HZ.out c (HP3.out.mem_iff.1 hc)) (by have := HL3.out; have := HT.out; omega)
    cases e0
    cases e1
    cases e2
    cases e3
    refine bodyPost_ret (v := .tuple #[wvV { x with li := l' } G0 g0 G1 g1 G2 g2 G3 g3, .int .i64 0]) (by simp [results, Tryd.results38, go_sem, p0, p1, p2, p3, hsz]) rfl ⟨l', HP3.out, HS3.out, ?_, Or.inl ⟨hmy, G0, g0, G1, g1, G2, g2, G3, g3, rfl, hwin⟩⟩
    repeat (with_reducible first | exact HW6.out | (refine below_set2 ?_ ?_; (· omega)))
end Go.Proofs.YtcbkgammlfjjoaaDoor
namespace Go.Proofs.YtcbkgammlfjjoaaDoor
set_option linter.unusedVariables false
set_option linter.unusedSimpArgs false
open Go.RowKit Go.Proofs.YtcbkgammlfjjoaaDoorW.PrintWords Go.Proofs.YtcbkgammlfjjoaaDoorW.PrintLast Go.Proofs.YtcbkgammlfjjoaaDoorW.PrintMore

theorem ahead_trans {a b c : S59} (h1 : aheadB a b = true) (h2 : aheadB b c = true) : aheadB a c = true := by
  unfold aheadB at *
  simp at *
  omega
theorem ahead_irr (a : S59) : aheadB a a = false := ahead_ord.refl a
/-- what may be stands strictly in order -/
theorem May.strict {x : WV} (h : May x) : x.li.Pairwise (fun a b => aheadB a b = true) := by
  have key : ∀ d i, i + d + 1 < x.li.length → aheadB (cAt x i) (cAt x (i + d + 1)) = true := by
    intro d
    induction d with
    | zero =>
      intro i hi
      rcases (h.place hi).2.2.2.2 with h1 | h1
      · omega
      · exact h1
    | succ d ih =>
      intro i hi
      have h1 := ih i (by omega)
      rcases (h.place hi).2.2.2.2 with h2 | h2
      · omega
      · exact ahead_trans h1 h2
  rw [List.pairwise_iff_getElem]
  intro i j hi hj hij
  have hk := key (j - i - 1) i (by omega)
  rw [show i + (j - i - 1) + 1 = j from by omega] at hk
  unfold cAt at hk
  rwa [List.getD_eq_getElem?_getD, List.getElem?_eq_getElem hi, List.getD_eq_getElem?_getD, List.getElem?_eq_getElem hj] at hk
theorem strict_srt {l : List S59} (h : l.Pairwise (fun a b => aheadB a b = true)) : Srt aheadB l := h.imp (fun hab => ahead_ord.asym _ _ hab)
/-- sorted in one way -/
theorem srt_uniq : ∀ (l l' : List S59), l.Pairwise (fun a b => aheadB a b = true) → Srt aheadB l' → l'.Perm l → l' = l
  | [], l', _, _, hp => List.perm_nil.1 hp
  | a :: t, l', hs, hs', hp => by
    cases l' with
    | nil => exact absurd hp.symm (by simp)
    | cons b t' =>
      have hab : b = a := by
        have h1 : b ∈ a :: t := hp.mem_iff.1 List.mem_cons_self
        have h2 : a ∈ b :: t' := hp.mem_iff.2 List.mem_cons_self
        rcases List.mem_cons.1 h1 with h1 | h1
        · exact h1
        · have h3 := (List.pairwise_cons.1 hs).1 b h1
          rcases List.mem_cons.1 h2 with h2 | h2
          · exact h2.symm
          · have h4 := (List.pairwise_cons.1 hs').1 a h2
            rw [h3] at h4; cases h4
      subst hab
      rw [srt_uniq t t' (List.pairwise_cons.1 hs).2 (List.pairwise_cons.1 hs').2 hp.cons_inv]
section
variable {α : Type}
theorem flat_cons (f g : Nat → List α) (c : α) (k : Nat) (hk : g k = c :: f k) (hn : ∀ j, j ≠ k → g j = f j) : ∀ js : List Nat, js.Nodup → k ∈ js → ((js.map g).flatten).Perm (c :: (js.map f).flatten)
  | [], _, h => by cases h
  | j :: js, hd, h => by
    have hd' := List.nodup_cons.1 hd
    by_cases e : j = k
    · subst e
      have : js.map g = js.map f := List.map_congr_left (fun i hi => hn i (fun e => hd'.1 (e ▸ hi)))
      simp only [List.map_cons, List.flatten_cons, hk, this, List.cons_append]
      exact List.Perm.refl _
    · have hm : k ∈ js := by
        rcases List.mem_cons.1 h with h | h
        · exact absurd h.symm e
        · exact h
      simp only [List.map_cons, List.flatten_cons, hn j e]
      exact ((flat_cons f g c k hk hn js hd'.2 hm).append_left (f j)).trans List.perm_middle
/-- the parts by a key -/
def partL (key : α → Nat) (n : Nat) (l : List α) : List (List α) := (List.range n).map (fun j => l.filter (fun c => decide (key c = j)))
theorem partL_perm (key : α → Nat) (n : Nat) : ∀ l : List α, (∀ c ∈ l, key c < n) → (partL key n l).flatten.Perm l
  | [], _ => by
    unfold partL
    have : (List.range n).map (fun j => ([] : List α).filter (fun c => decide (key c = j))) = (List.range n).map (fun _ => ([] : List α)) := rfl
    rw [this]
    have e : ∀ m : List Nat, (m.map (fun _ => ([] : List α))).flatten = [] := by
      intro m
      induction m with
      | nil => rfl
      | cons a m ih => simp only [List.map_cons, List.flatten_cons, ih, List.append_nil]
    rw [e]
  | c :: t, h => by
    have ih := partL_perm key n t (fun d hd => h d (List.mem_cons_of_mem _ hd))
    have hk := h c List.mem_cons_self
    have hf := flat_cons (fun j => t.filter (fun c => decide (key c = j))) (fun j => (c :: t).filter (fun c => decide (key c = j))) c (key c)
      (by simp) (fun j hj => by rw [List.filter_cons_of_neg]; simpa using fun e => hj e.symm) (List.range n) List.nodup_range (List.mem_range.2 hk)
    exact hf.trans (ih.cons c)
theorem filter_take_succ [Inhabited α] (p : α → Bool) (l : List α) {i : Nat} (hi : i < l.length) : (l.take (i + 1)).filter p = (l.take i).filter p ++ (if p l[i] then [l[i]] else []) := by
  rw [List.take_succ_eq_append_getElem hi, List.filter_append]
  congr 1
  cases h : p l[i] <;> simp [h]
end
end Go.Proofs.YtcbkgammlfjjoaaDoor
namespace Go.Proofs.YtcbkgammlfjjoaaDoor
set_option linter.unusedVariables false
set_option linter.unusedSimpArgs false
open Go.RowKit Go.Proofs.YtcbkgammlfjjoaaDoorW.PrintWords Go.Proofs.YtcbkgammlfjjoaaDoorW.PrintLast Go.Proofs.YtcbkgammlfjjoaaDoorW.PrintMore

theorem mask7 (n : Int) : 0 ≤ bits .and .i64 n 7 ∧ bits .and .i64 n 7 ≤ 7 := by
  have e : (BitVec.ofInt 64 n &&& BitVec.ofInt 64 7).toNat ≤ 7 := by
    rw [BitVec.toNat_and, show (BitVec.ofInt 64 7).toNat = 2 ^ 3 - 1 from by decide, Nat.and_two_pow_sub_one_eq_mod]
    omega
  have e2 : bits .and .i64 n 7 = ((BitVec.ofInt 64 n &&& BitVec.ofInt 64 7).toNat : Int) := by
    show IntKind.i64.wrap ((BitVec.ofInt 64 n &&& BitVec.ofInt 64 7).toNat : Int) = _
    exact IntWalk.i64_in _ ⟨by omega, by omega⟩
  rw [e2]
  omega
theorem info24 : (Tryd.prog.info? 24).map (fun i => (i.zero, i.size, i.bytes)) = some (some (.slice none 0 0), 1, 24) := by kernel_rfl
theorem und61 : Tryd.prog.underlying 61 = some (.slice 24) := by kernel_rfl
theorem make61 (n : Nat) (hn : n ≤ 8) (W : World) : ∃ W', (Instr.makeSlice 61 (.int .i64 n) (.int .i64 n)).run Tryd.prog W = .ok (.slice (some ⟨W.heap.size, 0, none⟩) n n) W' ∧ Below W.heap.size W W' ∧ W'.heap.size = W.heap.size + 1 ∧ (∀ j, j < n → W'.cell? ⟨W.heap.size, j, none⟩ = some (.slice none 0 0)) ∧ (∀ j, W'.frozen? ⟨W.heap.size, j, none⟩ = false) := by
  obtain ⟨i0, hi, hzz⟩ := Option.map_eq_some_iff.1 info24
  simp only [Prod.mk.injEq] at hzz
  obtain ⟨hz0, hz1, hz2⟩ := hzz
  have h := run_make (P := Tryd.prog) W 61 24 i0 (.slice none 0 0) und61 hi hz0 .i64 .i64 (n : Int) (n : Int) (by omega) (by omega) (by rw [hz2]; omega) (by omega)
  rw [Int.toNat_natCast, hz1, Nat.mul_one] at h
  refine ⟨_, h, below_alloc (Below.refl _ _) _, by simp, ?_, ?_⟩
  · intro j hj
    simp [go_sem, madeCells, hj]
    rw [Nat.mod_one]
    rfl
  · intro j
    simp [go_sem]
theorem C_chg1 {W : World} {b : Nat} {c : S59} (h0 : W.cell? ⟨b, 0, none⟩ = some (.int .i64 c.f0)) (h1 : W.cell? ⟨b, 1, none⟩ = some (.int .i64 c.f1)) (h2 : W.cell? ⟨b, 2, none⟩ = some (.string c.f2)) : Kd.C k59 W (some ⟨b, 0, none⟩) 1 [c] := by
  refine ⟨rfl, by decide, fun _ => ⟨_, rfl, fun j p hj => ?_⟩⟩
  cases j with
  | zero =>
    injection hj with hj
    subst hj
    exact ⟨_, rfl, k59_mk W c, fun i u hu => by
      match i, hu with
      | 0, hu => injection hu with hu; subst hu; exact h0
      | 1, hu => injection hu with hu; subst hu; exact h1
      | 2, hu => injection hu with hu; subst hu; exact h2⟩
  | succ j => cases hj
def upd {β : Type} (f : Nat → β) (k : Nat) (v : β) : Nat → β := fun j => if j = k then v else f j
/-- parts in a block, each a row of its own -/
structure Pt (wx : World) (P base n : Nat) (vs : Nat → Value) (ps : Nat → List S59) : Prop where
  c : ∀ j, j < n → wx.cell? ⟨P, j, none⟩ = some (vs j)
  f : ∀ j, j < n → wx.frozen? ⟨P, j, none⟩ = false
  r : ∀ j, j < n → Kd.R k59 59 wx base (fun b => ∀ i, i < n → i ≠ j → some b ≠ (vs i).ownBlock) (vs j) (ps j)
  s : P < base
  t : base ≤ wx.heap.size
theorem Pt.below {wx w' : World} {P base n : Nat} {vs : Nat → Value} {ps : Nat → List S59} (h : Pt wx P base n vs ps) (hb : Below wx.heap.size wx w') : Pt w' P base n vs ps :=
  ⟨fun j hj => (hb.cell (p := ⟨P, j, none⟩) (Nat.lt_of_lt_of_le h.s h.t)).trans (h.c j hj), fun j hj => (hb.frozen (p := ⟨P, j, none⟩) (Nat.lt_of_lt_of_le h.s h.t)).trans (h.f j hj), fun j hj => Kd.R_below (h.r j hj) hb, h.s, Nat.le_trans h.t hb.size⟩
theorem R_off2 {e base b o : Nat} {ok : Nat → Prop} {w : World} {v u : Value} {xs : List S59} (h : Kd.R k59 e w base ok v xs) (hb : b < base) : Kd.R k59 e (w.setCell ⟨b, o, none⟩ u) base ok v xs :=
  Kd.R_mono (Kd.R_far (Kd.R_bound h) (fun k hk => by have := hk.2.1; show k ≠ b; omega) u) (fun _ hk => hk.1)
theorem Pt.fresh {wx : World} {P base n : Nat} {vs : Nat → Value} {ps : Nat → List S59} (h : Pt wx P base n vs ps) (k : Nat) : ∀ b, wx.heap.size ≤ b → ∀ i, i < n → i ≠ k → some b ≠ (vs i).ownBlock := by
  intro b hb i hi _ e
  have := Kd.R_lt (h.r i hi) b e.symm
  omega
theorem Pt.step {wx w9 : World} {P base n k : Nat} {vs : Nat → Value} {ps : Nat → List S59} {v1 : Value} {p : S59} (h : Pt wx P base n vs ps) (hk : k < n)
    (ho : Kd.R k59 59 w9 base (fun b => ∀ i, i < n → i ≠ k → some b ≠ (vs i).ownBlock) v1 (ps k ++ [p])) (hb : Below base wx w9) (hg : wx.grownBy w9 (vs k).ownBlock) (hat : v1.ownBlock = (vs k).ownBlock ∨ ∃ b, v1.ownBlock = some b ∧ wx.heap.size ≤ b) :
    Pt (w9.setCell ⟨P, k, none⟩ v1) P base n (upd vs k v1) (upd ps k (ps k ++ [p])) := by
  have hc : ∀ j, j < n → w9.cell? ⟨P, j, none⟩ = some (vs j) := fun j hj => (hb.cell (p := ⟨P, j, none⟩) h.s).trans (h.c j hj)
  have hf : ∀ j, j < n → w9.frozen? ⟨P, j, none⟩ = false := fun j hj => (hb.frozen (p := ⟨P, j, none⟩) h.s).trans (h.f j hj)
  refine ⟨fun j hj => ?_, fun j hj => ?_, fun j hj => ?_, h.s, ?_⟩
  · unfold upd
    by_cases e : j = k
    · subst e
      rw [if_pos rfl]
      exact cell_eq (hc j hj)
    · rw [if_neg e, cell_ne e]
      exact hc j hj
  · rw [froz_set]
    exact hf j hj
  · refine R_off2 ?_ h.s
    by_cases e : j = k
    · subst e
      unfold upd
      rw [if_pos rfl, if_pos rfl]
      refine Kd.R_mono ho (fun b hb' i hi hne => ?_)
      rw [if_neg hne]
      exact hb' i hi hne
    · have h1 : Kd.R k59 59 wx base (fun b => (∀ i, i < n → i ≠ j → i ≠ k → some b ≠ (vs i).ownBlock) ∧ some b ≠ (vs k).ownBlock) (vs j) (ps j) :=
        Kd.R_mono (h.r j hj) (fun b hb' => ⟨fun i hi hne _ => hb' i hi hne, hb' k hk (fun e' => e e'.symm)⟩)
      have h2 := Kd.R_after h1 hg hat
      unfold upd
      rw [if_neg e, if_neg e]
      refine Kd.R_mono h2 (fun b hb' i hi hne => ?_)
      by_cases e2 : i = k
      · rw [if_pos e2]; exact hb'.2
      · rw [if_neg e2]; exact hb'.1 i hi hne e2
  · have := h.t
    have := hb.size
    simpa using (show base ≤ w9.heap.size by omega)
theorem Pt.toC {wx : World} {P base n : Nat} {vs : Nat → Value} {ps : Nat → List S59} (h : Pt wx P base n vs ps) (hn : n ≤ 8) : Kd.C (Kd.slice 59 k59) wx (some ⟨P, 0, none⟩) n ((List.range n).map ps) := by
  refine ⟨by rw [List.length_map, List.length_range], by omega, fun _ => ⟨_, rfl, fun j p hj => ?_⟩⟩
  have hlt : j < n := by
    rcases Nat.lt_or_ge j n with h1 | h1
    · exact h1
    · rw [List.getElem?_eq_none (by rw [List.length_map, List.length_range]; exact h1)] at hj; cases hj
  have hp : p = ps j := by
    rw [List.getElem?_map, List.getElem?_range hlt] at hj
    injection hj with hj
    exact hj.symm
  subst hp
  obtain ⟨A, c, hv, hl, hC, -⟩ := R_in (h.r j hlt)
  have hcell := h.c j hlt
  rw [hv] at hcell
  refine ⟨[.slice A (ps j).length c], rfl, ⟨A, c, rfl, hl, hC⟩, fun i u hu => ?_⟩
  have ea : ∀ k, (⟨P, 0, none⟩ : Addr).add k = ⟨P, k, none⟩ := fun k => by rw [add_plain, Nat.zero_add]
  rw [ea]
  cases i with
  | zero =>
    injection hu with hu
    subst hu
    show wx.cell? ⟨P, j * 1 + 0, none⟩ = _
    rw [Nat.mul_one, Nat.add_zero]
    exact hcell
  | succ i => cases hu
set_option maxRecDepth 100000 in
set_option maxHeartbeats 4000000 in
theorem wparts_bad (x : WV) (A0 : Option Addr) (c0 : Nat) (A1 : Option Addr) (c1 : Nat) (A2 : Option Addr) (c2 : Nat) (A3 : Option Addr) (c3 : Nat) (many : Int) (w : World) (hI : WIn w x A0 c0 A1 c1 A2 c2 A3 c3) (hmx : mayB x = false) :
    Calls Tryd.prog 15 #[wvV x A0 c0 A1 c1 A2 c2 A3 c3, .int .i64 many] w fun e w' => e = .returned (.bool true) ∧ Below w.heap.size w w' := by
  have HI := Lib.hid hI
  have hck := fun W => fun h => check_any x A0 c0 A1 c1 A2 c2 A3 c3 W h
  have hmr := fun W => fun h => mayR_any x A0 c0 A1 c1 A2 c2 A3 c3 W h
  rw [hmx] at hck hmr
  have HCk := Lib.hid hck
  have HMr := Lib.hid hmr
  clear hI hck hmr hmx
  go_enter Tryd.func15, Tryd.ntmps15
  go_upto_region 1 with fail
  obtain ⟨W, hW⟩ : ∃ W, w.alloc (Obj.cells #[Value.slice A0 x.nm.length c0, Value.slice A1 x.wd.length c1, Value.slice A2 x.fi.length c2, Value.slice A3 x.li.length c3] 26) = W := ⟨_, rfl⟩
  rw [hW]
  obtain ⟨hx, hb⟩ := bx_alloc w x A0 c0 A1 c1 A2 c2 A3 c3 hW
  have HB := Lib.hid hb
  have HX := Lib.hid hx
  clear hb hx hW
  have a0 := HX.out.k0
  have a1 := HX.out.k1
  have a2 := HX.out.k2
  have a3 := HX.out.k3
  go_wp2_with fail
  clear a0 a1 a2 a3
  refine (HMr.out W (HI.out.below HB.out)).mono ?_
  rintro e w1 ⟨rfl, hb⟩
  have HB1 := Lib.hid (HB.out.trans (hb.mono HB.out.size))
  have HX1 := Lib.hid (HX.out.below hb)
  clear hb
  have a0 := HX1.out.k0
  have a1 := HX1.out.k1
  have a2 := HX1.out.k2
  have a3 := HX1.out.k3
  go_wp2_with fail
  clear a0 a1 a2 a3
  refine (HCk.out w1 (HI.out.below HB1.out)).mono ?_
  rintro e w2 ⟨rfl, hb⟩
  have HB2 := Lib.hid (HB1.out.trans (hb.mono HB1.out.size))
  clear hb
  go_wp2_with fail
  refine (awakeW_any _).mono ?_
  rintro e w3 ⟨rfl, hb⟩
  have HB3 := Lib.hid (HB2.out.trans (hb.mono HB2.out.size))
  clear hb
  go_wp2_with fail
  go_ret
  exact ⟨rfl, HB3.out⟩
set_option maxRecDepth 100000 in
set_option maxHeartbeats 4000000 in
theorem wparts_good (x : WV) (A0 : Option Addr) (c0 : Nat) (A1 : Option Addr) (c1 : Nat) (A2 : Option Addr) (c2 : Nat) (A3 : Option Addr) (c3 : Nat) (many : Int) (w : World) (hI : WIn w x A0 c0 A1 c1 A2 c2 A3 c3) (hmx : mayB x = true) :
    Calls Tryd.prog 15 #[wvV x A0 c0 A1 c1 A2 c2 A3 c3, .int .i64 many] w fun e w' => e = .returned (.bool true) ∧ Below w.heap.size w w' := by
  obtain ⟨q7, hq, hq2⟩ : ∃ q : Nat, bits .and .i64 many 7 = (q : Int) ∧ q ≤ 7 := by
    have h := mask7 many
    exact ⟨(bits .and .i64 many 7).toNat, by have := h.1; omega, by have := h.1; have := h.2; omega⟩
  obtain ⟨n, hn⟩ : ∃ n : Nat, n = 1 + q7 := ⟨_, rfl⟩
  have en : (1 : Int) + (q7 : Int) = (n : Int) := by omega
  have HN := Lib.hid (show 1 ≤ n ∧ n ≤ 8 by omega)
  have HI := Lib.hid hI
  have HM := Lib.hid ((may_iff x).1 hmx)
  have hmr := fun W => fun h => mayR_any x A0 c0 A1 c1 A2 c2 A3 c3 W h
  rw [hmx] at hmr
  have HMr := Lib.hid hmr
  have HMx := Lib.hid hmx
  clear hI hmr hmx
  go_enter Tryd.func15, Tryd.ntmps15
  go_upto_region 1 with fail
  obtain ⟨W, hW⟩ : ∃ W, w.alloc (Obj.cells #[Value.slice A0 x.nm.length c0, Value.slice A1 x.wd.length c1, Value.slice A2 x.fi.length c2, Value.slice A3 x.li.length c3] 26) = W := ⟨_, rfl⟩
  rw [hW]
  obtain ⟨hx, hb⟩ := bx_alloc w x A0 c0 A1 c1 A2 c2 A3 c3 hW
  have HB := Lib.hid hb
  have HX := Lib.hid hx
  clear hb hx hW
  have a0 := HX.out.k0
  have a1 := HX.out.k1
  have a2 := HX.out.k2
  have a3 := HX.out.k3
  go_wp2_with fail
  clear a0 a1 a2 a3
  refine (HMr.out W (HI.out.below HB.out)).mono ?_
  rintro e w1 ⟨rfl, hb⟩
  have HB1 := Lib.hid (HB.out.trans (hb.mono HB.out.size))
  have HX1 := Lib.hid (HX.out.below hb)
  clear hb
  have hn1 := HN.out.1
  have hn2 := HN.out.2
  clear hn
  obtain ⟨W2, hmk, hb2, hs2, hc2, hf2⟩ := make61 n HN.out.2 w1
  go_upto_region 5 with fail
  have HPt := Lib.hid (Pt.mk (wx := W2) (P := w1.heap.size) (base := W2.heap.size) (n := n) (vs := fun _ => .slice none 0 0) (ps := fun _ => []) hc2 (fun j _ => hf2 j) (fun j _ => Kd.R_nil _ _ _ _ _) (by rw [hs2]; exact Nat.lt_succ_self _) (Nat.le_refl _))
  have HB2 := Lib.hid hb2
  have HZ2 := Lib.hid hs2
  have hlb := HI.out.b3
  clear hmk hb2 hs2 hc2 hf2
  go_upto_region 6 with fail
  go_loopw [7] (fun v7 wx => ∃ (i : Nat) (vs : Nat → Value), v7 = .int .i64 i ∧ i ≤ x.li.length ∧ Hid (Pt wx w1.heap.size W2.heap.size n vs (fun j => (x.li.take i).filter (fun c => decide (n - 1 - c.f1.toNat % n = j)))) ∧ Hid (Below w1.heap.size w1 wx)) (fun v7 _ => x.li.length - (intOf v7).toNat)
  case atStart => exact ⟨0, _, rfl, Nat.zero_le _, HPt, HB2⟩
  case round =>
    obtain ⟨i, vs, rfl, hi, HPx, HBx⟩ := hrel
    have HXx := Lib.hid (HX1.out.below HBx.out)
    have a3 := HXx.out.k3
    by_cases hlt : i < x.li.length
    · have hI2 := HI.out.below (HB1.out.trans (HBx.out.mono HB1.out.size))
      obtain ⟨b3, o3, hA3, hs30, hs31, hs32, hb3⟩ := chg_cell hI2.h3 hI2.a3 i hlt
      subst hA3
      have hp := HM.out.place hlt
      have hfs : ∀ j, (x.li.take (i + 1)).filter (fun c => decide (n - 1 - c.f1.toNat % n = j)) = (x.li.take i).filter (fun c => decide (n - 1 - c.f1.toNat % n = j)) ++ (if decide (n - 1 - (cAt x i).f1.toNat % n = j) then [cAt x i] else []) := by
        intro j
        have e : cAt x i = x.li[i] := by unfold cAt; rw [List.getD_eq_getElem?_getD, List.getElem?_eq_getElem hlt]; rfl
        haveI : Inhabited S59 := ⟨z59⟩
        rw [filter_take_succ _ x.li hlt, ← e]
      rw [show x.li.getD i z59 = cAt x i from rfl] at hs30 hs31 hs32
      generalize cAt x i = c at hs30 hs31 hs32 hfs hp
      obtain ⟨tm, nt, vl⟩ := c
      simp only at hs30 hs31 hs32 hfs hp
      obtain ⟨t, rfl⟩ : ∃ t : Nat, nt = t := ⟨nt.toNat, by omega⟩
      obtain ⟨r, hr⟩ : ∃ r, t % n = r := ⟨_, rfl⟩
      have hrn : r < n := by rw [← hr]; exact Nat.mod_lt _ (by omega)
      obtain ⟨k, hk⟩ : ∃ k, n - 1 - r = k := ⟨_, rfl⟩
      have hkn : k < n := by omega
      rw [Int.toNat_natCast, hr, hk] at hfs
      have HFs := Lib.hid hfs
      have HK := Lib.hid hkn
      have htb : (t : Int) < 4096 := by have := HM.out.n; omega
      have hrI : ((t % n : Nat) : Int) = (r : Int) := by rw [hr]
      have hrI2 : Int.tmod (t : Int) (n : Int) = (r : Int) := by rw [← hr]; rfl
      have hrI3 : (t : Int) % (n : Int) = (r : Int) := by rw [← hr]; rfl
      have hkI : (n : Int) - 1 - (r : Int) = (k : Int) := by omega
      have HLt := Lib.hid hlt
      clear hI2 hb3 hfs hp hk
      go_upto_region 9 with fail
      obtain ⟨ps, hps⟩ : ∃ ps : Nat → List S59, (fun j => (x.li.take i).filter (fun c => decide (n - 1 - c.f1.toNat % n = j))) = ps := ⟨_, rfl⟩
      rw [hps] at HPx
      have HPs := Lib.hid (fun j => congrFun hps j)
      have hrk := HPx.out.r k hkn
      obtain ⟨Av, cv, hvk⟩ := Kd.R_slice hrk
      rw [hvk] at hrk
      obtain ⟨xs, hxs⟩ : ∃ xs, ps k = xs := ⟨_, rfl⟩
      rw [hxs] at hrk hvk
      have hxl : xs.length ≤ i := by
        rw [← hxs, ← congrFun hps k]
        exact Nat.le_trans (List.length_filter_le _ _) (by rw [List.length_take]; omega)
      have pc := HPx.out.c k hkn
      have pf := HPx.out.f k hkn
      have hz1 : w1.heap.size < wr.heap.size := Nat.lt_of_lt_of_le HPx.out.s HPx.out.t
      have hz2 : ¬ wr.heap.size = w1.heap.size := by omega
      have hz3 : ¬ w1.heap.size = wr.heap.size := by omega
      rw [hvk] at pc
      have HRk := Lib.hid hrk
      have HXl := Lib.hid hxl
      have HVk := Lib.hid hvk
      have HXs := Lib.hid hxs
      have hkI2 : (k : Int) < (n : Int) := by omega
      have hiI : (i : Int) < (x.li.length : Int) := by omega
      clear hrk hxl hvk hxs hps hr hrI hrI2 hrI3 hkI
      go_region_law (refine Kd.R_append_rows_step k59 (w0 := (wr.alloc (Obj.cells #[Value.int IntKind.i64 tm, Value.int IntKind.i64 t, Value.string vl] 59)).drew) W2.heap.size rfl (.tmp 49) (.tmp 55) 24 59 (.agg #[(.int .i64 0), (.int .i64 0), (.string ⟨#[]⟩)]) 32 rfl Tryd.underlying24 info59 rfl (by decide) (by decide) (.slice Av xs.length cv) xs [(⟨tm, t, vl⟩ : S59)] (some ⟨wr.heap.size, 0, none⟩) 1 1 (fun b => ∀ i, i < n → i ≠ k → some b ≠ (vs i).ownBlock) (fun _ => False) rfl rfl ?aO ?aR (fun _ _ h => h) (fun _ hk => hk.elim) ?aF ?aB ?aS ?aL ?_; (case aR => exact C_chg1 (by simp [go_sem]) (by simp [go_sem]) (by simp [go_sem])); (case aO => exact Kd.R_below HRk.out (by first | exact (below_alloc (Below.refl _ _) _).drew | exact below_alloc (Below.refl _ _).drew _)); (case aB => exact Below.refl _ _); (case aF => exact (HPx.out.below (by first | exact (below_alloc (Below.refl _ _) _).drew | exact below_alloc (Below.refl _ _).drew _)).fresh k); (case aS => exact (HPx.out.below (by first | exact (below_alloc (Below.refl _ _) _).drew | exact below_alloc (Below.refl _ _).drew _)).t); (case aL => have := HXl.out; have := HLt.out; omega); intro v1 w9 ho hb hg hat; obtain ⟨A9, c9, he9⟩ := Kd.R_slice ho; subst he9; rw [show (xs ++ [(⟨tm, t, vl⟩ : S59)]).length = xs.length + 1 from by simp] at ho hat; have HSt := Lib.hid (Pt.step (p := ⟨tm, t, vl⟩) (HPx.out.below (by first | exact (below_alloc (Below.refl _ _) _).drew | exact below_alloc (Below.refl _ _).drew _)) HK.out (by rw [HXs.out]; exact ho) hb (by rw [HVk.out]; exact hg) (by rw [HVk.out]; exact hat)); have HBo := Lib.hid hb; have hPW : Pt (wr.alloc (Obj.cells #[Value.int IntKind.i64 tm, Value.int IntKind.i64 t, Value.string vl] 59)).drew _ _ _ _ _ := HPx.out.below (by first | exact (below_alloc (Below.refl _ _) _).drew | exact below_alloc (Below.refl _ _).drew _); have pc9 := (hb.cell (p := ⟨w1.heap.size, k, none⟩) hPW.s).trans (hPW.c k HK.out); rw [HVk.out] at pc9; have pf9 := (hb.frozen (p := ⟨w1.heap.size, k, none⟩) hPW.s).trans (hPW.f k HK.out); clear ho hb hg hat hPW)
      all_goals
        clear pc9 pf9 pc pf hz1 hz2 hz3
        go_wp2_with fail
        refine ⟨⟨i + 1, upd vs k (.slice A9 (xs.length + 1) c9), by simp, HLt.out, Lib.hid ?_, Lib.hid ?_⟩, by have := HLt.out; simp [intOf]; omega⟩
        · have e : (fun j => (x.li.take (i + 1)).filter (fun c => decide (n - 1 - c.f1.toNat % n = j))) = upd ps k (ps k ++ [⟨tm, t, vl⟩]) := by
            funext j
            rw [HFs.out j, HPs.out j]
            unfold upd
            by_cases ejk : j = k
            · subst ejk
              rw [if_pos rfl, if_pos (decide_eq_true rfl)]
            · rw [if_neg ejk, if_neg (by rw [decide_eq_true_iff]; exact fun e => ejk e.symm), List.append_nil]
          rw [e]
          exact HSt.out
        · refine below_set2 (Nat.le_refl _) ?_
          have hb1 : Below w1.heap.size w1 (wr.alloc (Obj.cells #[Value.int IntKind.i64 tm, Value.int IntKind.i64 t, Value.string vl] 59)).drew := (below_alloc HBx.out _).drew
          exact hb1.trans (HBo.out.mono (by rw [HZ2.out]; exact Nat.le_succ _))
    · obtain rfl : i = x.li.length := by omega
      have hz1 : w1.heap.size < wr.heap.size := Nat.lt_of_lt_of_le HPx.out.s HPx.out.t
      have hpt := HPx.out
      rw [List.take_length] at hpt
      have HPt2 := Lib.hid hpt
      have HWr := Lib.hid (HB1.out.trans (HBx.out.mono HB1.out.size))
      have a0 := HXx.out.k0
      have a1 := HXx.out.k1
      have a2 := HXx.out.k2
      clear hpt hlt hi
      go_upto_region 11 with fail
      clear a0 a1 a2 a3
      obtain ⟨W4, hW4⟩ : ∃ W, wr.alloc (Obj.cells #[Value.slice A0 x.nm.length c0, Value.slice A1 x.wd.length c1, Value.slice A2 x.fi.length c2, Value.slice A3 x.li.length c3] 26) = W := ⟨_, rfl⟩
      rw [hW4]
      obtain ⟨hf4, hb4⟩ := fx_alloc wr A0 A1 A2 A3 x.nm.length x.wd.length x.fi.length x.li.length c0 c1 c2 c3 hW4
      have HF4 := Lib.hid hf4
      have HB4 := Lib.hid hb4
      clear hW4 hf4 hb4
      have a3 := HF4.out.k3
      have f3 := HF4.out.f3
      go_upto_region 12 with fail
      clear a3 f3
      obtain ⟨W5, hW5⟩ : ∃ W, W4.setCell ⟨wr.heap.size, 3, none⟩ (.slice none 0 0) = W := ⟨_, rfl⟩
      rw [hW5]
      have hb5 : Below wr.heap.size wr W5 := by rw [← hW5]; exact below_set2 (Nat.le_refl _) HB4.out
      have a0 : W5.cell? ⟨wr.heap.size, 0, none⟩ = some (.slice A0 x.nm.length c0) := by rw [← hW5, cell_ne (by decide)]; exact HF4.out.k0
      have a1 : W5.cell? ⟨wr.heap.size, 1, none⟩ = some (.slice A1 x.wd.length c1) := by rw [← hW5, cell_ne (by decide)]; exact HF4.out.k1
      have a2 : W5.cell? ⟨wr.heap.size, 2, none⟩ = some (.slice A2 x.fi.length c2) := by rw [← hW5, cell_ne (by decide)]; exact HF4.out.k2
      have a3 : W5.cell? ⟨wr.heap.size, 3, none⟩ = some (.slice none 0 0) := by rw [← hW5]; exact cell_eq HF4.out.k3
      have HB5 := Lib.hid hb5
      have HW5 := Lib.hid (HWr.out.trans (hb5.mono HWr.out.size))
      have hmo := HM.out.cut 0
      have HI5 := Lib.hid (HI.out.below HW5.out)
      have hx0 : WIn W5 { x with li := [] } A0 c0 A1 c1 A2 c2 none 0 := ⟨HI5.out.h0, HI5.out.h1, HI5.out.h2, ⟨rfl, Nat.zero_le _, fun h => absurd h (Nat.lt_irrefl _)⟩, HI5.out.l0, HI5.out.l1, HI5.out.l2, Nat.le_refl _, HI5.out.a0, HI5.out.a1, HI5.out.a2, Or.inl rfl, HI5.out.z0, HI5.out.z2, (fun c hc => by cases hc), Nat.zero_le _⟩
      obtain ⟨L, hL⟩ : ∃ L, partL (fun c : S59 => n - 1 - c.f1.toNat % n) n x.li = L := ⟨_, rfl⟩
      have hLp : L.flatten.Perm x.li := by rw [← hL]; exact partL_perm _ n x.li (fun c _ => by omega)
      have hLn : L.length = n := by rw [← hL]; unfold partL; rw [List.length_map, List.length_range]
      have hLC : Kd.C (Kd.slice 59 k59) W5 (some ⟨w1.heap.size, 0, none⟩) L.length L := by
        rw [hLn, ← hL]
        exact (HPt2.out.below hb5).toC hn2
      have hmg := merge_any { x with li := [] } A0 c0 A1 c1 A2 c2 none 0 (some ⟨w1.heap.size, 0, none⟩) n L W5 hx0 ((may_iff _).2 hmo) rfl hLC (Or.inr ⟨_, _, rfl⟩) (by rw [hLp.length_eq]; omega) (by omega) (fun c hc => HI.out.z3 c (hLp.mem_iff.1 hc))
      rw [hLn] at hmg
      have HMg := Lib.hid hmg
      have HLp := Lib.hid hLp
      clear hmg hLp hLC hLn hL hx0 hmo hb5 hW5
      go_wp2_with fail
      clear a0 a1 a2 a3
      refine HMg.out.mono ?_
      rintro e w6 ⟨l', hpm, hst, hb6, hres⟩
      have hl' : l' = x.li := srt_uniq x.li l' HM.out.strict hst (hpm.trans HLp.out)
      subst hl'
      rcases hres with ⟨-, D0, d0, D1, d1, D2, d2, D3, d3, rfl, hwin⟩ | ⟨hfalse, -⟩
      · have HW6 := Lib.hid (HW5.out.trans (hb6.mono HW5.out.size))
        have HWin := Lib.hid hwin
        have HX6 := Lib.hid ((HXx.out.below HB5.out).below hb6)
        clear hpm hst hb6 hwin
        go_upto_region 13 with fail
        obtain ⟨W7, hW7⟩ : ∃ W, w6.alloc (.cells #[.slice D0 x.nm.length d0, .slice D1 x.wd.length d1, .slice D2 x.fi.length d2, .slice D3 x.li.length d3] 26) = W := ⟨_, rfl⟩
        rw [hW7]
        obtain ⟨hf7, hb7⟩ := fx_alloc w6 D0 D1 D2 D3 x.nm.length x.wd.length x.fi.length x.li.length d0 d1 d2 d3 hW7
        have HW7 := Lib.hid (HW6.out.trans (hb7.mono HW6.out.size))
        have hs := fun W (h1 : WIn W x D0 d0 D1 d1 D2 d2 D3 d3) (h2 : WIn W x A0 c0 A1 c1 A2 c2 A3 c3) => same_any x D0 d0 D1 d1 D2 d2 D3 d3 A0 c0 A1 c1 A2 c2 A3 c3 W h1 h2 HM.out
        have HSm := Lib.hid (hs W7 (HWin.out.below hb7) (HI.out.below HW7.out))
        have hx7 := HX6.out.below hb7
        have a0 := hx7.k0
        have a1 := hx7.k1
        have a2 := hx7.k2
        have a3 := hx7.k3
        obtain ⟨p0, p1, p2, p3, -, -, -, -, -⟩ := hf7
        clear hs hx7 hb7 hW7
        go_wp2_with fail
        clear a0 a1 a2 a3 p0 p1 p2 p3
        refine HSm.out.mono ?_
        rintro e w8 ⟨rfl, hb8⟩
        have HW8 := Lib.hid (HW7.out.trans (hb8.mono HW7.out.size))
        clear hb8
        go_wp2_with fail
        refine (awakeW_any _).mono ?_
        rintro e w9 ⟨rfl, hb9⟩
        have HW9 := Lib.hid (HW8.out.trans (hb9.mono HW8.out.size))
        clear hb9
        go_wp2_with fail
        go_ret
        exact ⟨rfl, HW9.out⟩
      · exfalso
        rw [show ({ x with li := x.li } : WV) = x from rfl, HMx.out] at hfalse
        cases hfalse
theorem wparts_any (x : WV) (A0 : Option Addr) (c0 : Nat) (A1 : Option Addr) (c1 : Nat) (A2 : Option Addr) (c2 : Nat) (A3 : Option Addr) (c3 : Nat) (many : Int) (w : World) (hI : WIn w x A0 c0 A1 c1 A2 c2 A3 c3) (_ : (Lit.int .i64 many).wf = true) :
    Calls Tryd.prog 15 #[wvV x A0 c0 A1 c1 A2 c2 A3 c3, .int .i64 many] w fun e w' => e = .returned (.bool true) ∧ Below w.heap.size w w' := by
  cases h : mayB x
  · exact wparts_bad x A0 c0 A1 c1 A2 c2 A3 c3 many w hI h
  · exact wparts_good x A0 c0 A1 c1 A2 c2 A3 c3 many w hI h
end Go.Proofs.YtcbkgammlfjjoaaDoor
