/- The walk of define. -/
import Derived.Test.YtimcmhfcmnooeaaPr8
namespace Go.Proofs.Ytimcmhfcmnooeaa
set_option linter.unusedVariables false
set_option linter.unusedSimpArgs false
open Go.RowKit Go.Maps Go.Proofs.YtimcmhfcmnooeaaW.PrintWords Go.Proofs.YtimcmhfcmnooeaaW.PrintLast Go.Proofs.YtimcmhfcmnooeaaW.PrintMore

theorem PS.defined {L0 : List S35} {b c0 base g : Nat} {w1 w2 : World} {s1 s2 : St} {j B n : Nat} {D : DataW Value} {pv ov : Value} (H : PS L0 b c0 base g w1 s1 j B n D pv ov) (nm : ByteArray) (k : Nat) (hk : k < L0.length - j) (hn : n + 1 ≤ j)
    (h3 : (L0.drop j).takeWhile notEnd = (L0.drop j).take k) (h4 : (L0.drop j).dropWhile notEnd = (L0.drop j).drop k)
    (hown : w2.ownsMap Try.prog 9 RV B (n + 1) (D.put (.string nm.data.toList) (.held (.slice (some ⟨b, j * 3, none⟩) k k)))) (hg : w1.drew.grownBy w2 (some B))
    (hblk : w2.heap[g]? = some (.cells #[.slice (some ⟨b, j * 3, none⟩) (L0.length - j) (c0 - j), .map (some B), pv, ov, .int .i64 s1.fuel] 46 (0, 0)))
    (hs : ({ s1 with words := (nm, s1.l.takeWhile notEnd) :: s1.words, l := s1.l.dropWhile notEnd } : St) = s2) :
    PSx L0 b c0 base g (w2.setCell ⟨g, 0, none⟩ (.slice (some ⟨b, j * 3 + k * 3, none⟩) (L0.length - j - k) (c0 - j - k))) s2 ∧ Below base w1 (w2.setCell ⟨g, 0, none⟩ (.slice (some ⟨b, j * 3 + k * 3, none⟩) (L0.length - j - k) (c0 - j - k))) := by
  have hbel : Below base w1 w2 := (below_drew (Below.refl base w1)).grown hg H.base_le (fun q hq => by injection hq with hq; rw [← hq]; exact H.bB)
  have hbel2 : Below base w1 (w2.setCell ⟨g, 0, none⟩ (.slice (some ⟨b, j * 3 + k * 3, none⟩) (L0.length - j - k) (c0 - j - k))) := hbel.setCell (p := ⟨g, 0, none⟩) H.bg _
  have hpB : pv.ownBlock = none ∨ pv.ownBlock ≠ some B := .inr (fun e => by
    obtain ⟨es, clock, hb, _⟩ := H.map
    obtain ⟨cells, hc⟩ := own_typed H.parts B e
    rw [hb] at hc
    injection hc with hc
    cases hc)
  have hoB : ov.ownBlock = none ∨ ov.ownBlock ≠ some B := .inr (fun e => by
    obtain ⟨es, clock, hb, _⟩ := H.map
    obtain ⟨cells, hc⟩ := own_typed H.out B e
    rw [hb] at hc
    injection hc with hc
    cases hc)
  have hp2 := H.parts.drew.kept hg hpB
  have ho2 := H.out.drew.kept hg hoB
  subst hs
  refine ⟨⟨j + k, B, n + 1, D.put (.string nm.data.toList) (.held (.slice (some ⟨b, j * 3, none⟩) k k)), pv, ov, ?_⟩, hbel2⟩
  refine ⟨by omega, ?_, H.hc, H.hm, ?_, H.src.below hbel2 H.low, H.low, hown.setCell H.gB _, by omega, ?_, ?_, ?_, H.bg, H.bB⟩
  · show s1.l.dropWhile notEnd = _
    rw [H.hl, h4, List.drop_drop]
  · rw [blk_set hblk 0, show (j + k) * 3 = j * 3 + k * 3 from by omega, show L0.length - (j + k) = L0.length - j - k from by omega, show c0 - (j + k) = c0 - j - k from by omega]
    rfl
  · show WRel L0 b _ ((nm, s1.l.takeWhile notEnd) :: s1.words)
    rw [H.hl, h3]
    exact H.wrel.put H.map.isMap nm j k (by omega)
  · exact own_setCell' hp2 (own_ne_blk hp2 hblk (by decide)) _
  · exact own_setCell' ho2 (own_ne_blk ho2 hblk (by decide)) _

theorem define_no (L0 : List S35) (b c0 base g : Nat) (w : World) (s : St) (a : Int) (hG : Good L0) (i B n : Nat) (D : DataW Value) (pv ov : Value) (H : PS L0 b c0 base g w s i B n D pv ov) (e2 : Int × Int) (hm : defineF a s = .error e2) :
    Calls Try.prog 24 #[.pointer (some ⟨g, 0, none⟩), .int .i64 a] w fun e w' => e = pan e2.1 e2.2 ∧ w = w' := by
  unfold defineF at hm
  split at hm
  · rename_i e3 hnm
    injection hm with hm
    subst hm
    have HN := Lib.hid hnm
    have HH := Lib.hid H
    clear hnm H
    go_enter Try.func24, Try.ntmps24
    go_wp2_with fail
    with_reducible refine (name_no L0 b c0 base g _ s a hG.len i B n D pv ov HH.out e3 HN.out).mono ?_
    rintro e w' ⟨rfl, rfl⟩
    go_wp2
    exact ⟨rfl, rfl, rfl⟩
  · cases hm

set_option maxRecDepth 100000 in
set_option maxHeartbeats 1000000 in
theorem define_ok (L0 : List S35) (b c0 base g : Nat) (w : World) (s : St) (a : Int) (hG : Good L0) (i B n : Nat) (D : DataW Value) (pv ov : Value) (H : PS L0 b c0 base g w s i B n D pv ov) (s2 : St) (hm : defineF a s = .ok s2) :
    Calls Try.prog 24 #[.pointer (some ⟨g, 0, none⟩), .int .i64 a] w fun e w' => e = .returned (.tuple #[]) ∧ PSx L0 b c0 base g w' s2 ∧ Below base w w' := by
  unfold defineF at hm
  split at hm
  · cases hm
  · rename_i nm s1 hnm
    injection hm with hm
    obtain ⟨hns, hs1⟩ := name_text hG H hnm
    have HN := Lib.hid hnm
    have HH := Lib.hid H
    have HM := Lib.hid hm
    have HG := Lib.hid hG
    clear hm hnm H hs1 hG
    go_enter Try.func24, Try.ntmps24
    go_wp2_with fail
    with_reducible refine (name_ok L0 b c0 base g w s a HG.out.len HG.out.ends i B n D pv ov HH.out nm s1 HN.out).mono ?_
    rintro e w1 ⟨rfl, hps, hw1⟩
    have hbel : Below base w w1 := by rw [hw1]; exact (Below.refl base w).setCell (p := ⟨g, 0, none⟩) HH.out.bg _
    have HP := Lib.hid hps
    have HB := Lib.hid hbel
    clear hps hw1 hbel
    have hj := HP.out.hi
    have hjc := HP.out.hc
    have hjm := HP.out.hm
    unfold maxLen at hjm
    have hstop := HG.out.ends.stops hj
    have c0' := blk_cell HP.out.blk 0
    have f0' := blk_frozen HP.out.blk 0
    have c1' := blk_cell HP.out.blk 1
    generalize hkn : ((L0.drop (i + 1)).takeWhile notEnd).length = kn at hstop
    have HK := Lib.hid hkn
    clear hkn
    generalize hjj : i + 1 = j at *
    have HJ := Lib.hid hjj
    clear hjj
    go_wp2
    go_loop [5] (fun v => ∃ k : Nat, v = .int .i64 k ∧ k ≤ kn) (fun v => kn - (intOf v).toNat)
    case atStart => exact ⟨0, rfl, Nat.zero_le _⟩
    case round =>
      obtain ⟨k, rfl, hk⟩ := hrel
      obtain ⟨x, hx⟩ : ∃ x, L0[j + k]? = some x := ⟨_, List.getElem?_eq_getElem (by omega)⟩
      have hxd : (L0.drop j)[k]? = some x := by rw [List.getElem?_drop]; exact hx
      obtain ⟨h1, h2, h3, h4⟩ := takeWhile_facts notEnd _ HK.out
      obtain ⟨x0, _, _⟩ := HP.out.src _ _ hx
      rw [show (j + k) * 3 = j * 3 + k * 3 from by omega] at x0
      by_cases hlt : k < kn
      · have hne := h1 k x hlt hxd
        simp only [notEnd, Bool.and_eq_true] at hne
        obtain ⟨n5, n6⟩ := hne
        clear h1 h2 h3 h4 hx hxd
        go_wp2
        exact ⟨⟨k + 1, by go_num, by omega⟩, by simp [intOf]; omega⟩
      · obtain rfl : k = kn := by omega
        have hse := h2 x hxd
        have hkey : keyOf Try.prog 9 (.string nm) = some (.string nm.data.toList) := WideMaps.keyOf_string_mk (P := Try.prog) Try.underlying9 hns
        have hnn := HP.out.hn
        have hlen := HG.out.len
        obtain ⟨w2, hrun, hown2, hg2⟩ := HP.out.map.drew.update law9 Try.underlying43 (by unfold maxLen; omega) hkey (val := .slice (some ⟨b, j * 3, none⟩) k k) (d := .held (.slice (some ⟨b, j * 3, none⟩) k k)) (ps := []) rfl
        have hblk2 : w2.heap[g]? = some (.cells #[.slice (some ⟨b, j * 3, none⟩) (L0.length - j) (c0 - j), .map (some B), pv, ov, .int .i64 s1.fuel] 46 (0, 0)) :=
          (hg2.block g HP.out.glt (fun e => HP.out.gB (by injection e with e; exact e.symm))).trans HP.out.blk
        have c20 := blk_cell hblk2 0
        have f20 := blk_frozen hblk2 0
        have Hown2 := Lib.hid hown2
        have Hg2 := Lib.hid hg2
        have Hblk2 := Lib.hid hblk2
        have H34 := Lib.hid (show (L0.drop j).takeWhile notEnd = (L0.drop j).take k ∧ (L0.drop j).dropWhile notEnd = (L0.drop j).drop k from ⟨h3, h4⟩)
        have hkc : ¬ c0 - j = k := by omega
        clear h1 h2 h3 h4 hx hxd hown2 hg2 hblk2 hkey hlt
        by_cases h5 : x.f0 = 5
        · rw [h5] at x0
          clear h5 hse
          go_wp2
          go_region
          go_wp2
          go_end0
          have hjn : n + 1 ≤ j := by
            have e1 := HH.out.hn
            have e2 := HJ.out
            omega
          obtain ⟨k1, k2⟩ := HP.out.defined nm k hstop hjn H34.out.1 H34.out.2 Hown2.out Hg2.out Hblk2.out HM.out
          exact ⟨rfl, k1, HB.out.trans k2⟩
        · have h6 : x.f0 = 6 := by
            simp only [notEnd] at hse
            have : (x.f0 != 5) = true := by simpa using h5
            rw [this] at hse
            simpa using hse
          rw [h6] at x0
          clear h5 h6 hse
          go_wp2
          go_region
          go_wp2
          go_end0
          have hjn : n + 1 ≤ j := by
            have e1 := HH.out.hn
            have e2 := HJ.out
            omega
          obtain ⟨k1, k2⟩ := HP.out.defined nm k hstop hjn H34.out.1 H34.out.2 Hown2.out Hg2.out Hblk2.out HM.out
          exact ⟨rfl, k1, HB.out.trans k2⟩
end Go.Proofs.Ytimcmhfcmnooeaa
