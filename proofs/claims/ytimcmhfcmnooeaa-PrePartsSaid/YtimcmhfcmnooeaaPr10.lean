/- The contract of use: what a name stands for is put in its place. -/
import Derived.Test.YtimcmhfcmnooeaaPr7
import Derived.Test.YtimcmhfcmnooeaaPr8
namespace Go.Proofs.Ytimcmhfcmnooeaa
set_option linter.unusedVariables false
set_option linter.unusedSimpArgs false
open Go.RowKit Go.Maps Go.Proofs.YtimcmhfcmnooeaaW.PrintWords Go.Proofs.YtimcmhfcmnooeaaW.PrintLast Go.Proofs.YtimcmhfcmnooeaaW.PrintMore

theorem loop_eq (bs : ByteArray) : ∀ (n i : Nat) (r : List UInt8), bs.size - i = n → i ≤ bs.size → ByteArray.toList.loop bs i r = r.reverse ++ bs.data.toList.drop i := by
  intro n
  induction n with
  | zero =>
    intro i r h hi
    unfold ByteArray.toList.loop
    have : ¬ i < bs.size := by omega
    rw [if_neg this, List.drop_eq_nil_of_le (by simp; show bs.size ≤ i; omega)]
    simp
  | succ n ih =>
    intro i r h hi
    unfold ByteArray.toList.loop
    have hlt : i < bs.size := by omega
    rw [if_pos hlt, ih (i + 1) _ (by omega) (by omega)]
    have hl : i < bs.data.toList.length := by simpa using hlt
    rw [List.drop_eq_getElem_cons hl]
    simp only [List.reverse_cons, List.append_assoc, List.singleton_append]
    congr 2
    simp [ByteArray.get!, getElem!_pos, hlt]
theorem toList_data (bs : ByteArray) : bs.toList = bs.data.toList := by
  unfold ByteArray.toList
  rw [loop_eq bs bs.size 0 [] (by omega) (by omega)]
  simp
theorem tol_false {x : ByteArray} {l : List UInt8} (h : x ≠ ⟨l.toArray⟩) : (x.toList == l) = false := by
  rw [toList_data]
  apply beq_eq_false_iff_ne.2
  intro e
  apply h
  obtain ⟨x⟩ := x
  simp at e
  rw [← e]
theorem tol_true {x : ByteArray} {l : List UInt8} (h : x = ⟨l.toArray⟩) : (x.toList == l) = true := by
  subst h; rw [toList_data]; simp

theorem isDir_no {x : ByteArray} (h : ¬ isDir x = true) : (x.toList == [100, 101, 102, 105, 110, 101]) = false ∧ (x.toList == [117, 110, 100, 101, 102]) = false ∧ (x.toList == [105, 102, 100, 101, 102]) = false ∧ (x.toList == [105, 102, 110, 100, 101, 102]) = false ∧ (x.toList == [101, 108, 115, 101]) = false ∧ (x.toList == [101, 110, 100, 105, 102]) = false := by
  simp only [isDir, Bool.or_eq_true, beq_iff_eq, not_or] at h
  obtain ⟨⟨⟨⟨⟨h1, h2⟩, h3⟩, h4⟩, h5⟩, h6⟩ := h
  exact ⟨tol_false h1, tol_false h2, tol_false h3, tol_false h4, tol_false h5, tol_false h6⟩

theorem useL_keeps (rec : ByteArray → St → Res St) (a : Int) (hr : ∀ nm s s2, rec nm s = .ok s2 → s.fuel ≤ 4096 → s.fuel ≤ s2.fuel ∧ s2.fuel ≤ 4096 ∧ s2.words = s.words ∧ s2.l = s.l ∧ s2.parts = s.parts) :
    ∀ (L : List S35) (s s2 : St), useL rec a L s = .ok s2 → s.fuel ≤ 4096 → s.fuel ≤ s2.fuel ∧ s2.fuel ≤ 4096 ∧ s2.words = s.words ∧ s2.l = s.l ∧ s2.parts = s.parts := by
  intro L
  induction L with
  | nil =>
    intro s s2 h hf
    simp only [useL] at h
    injection h with h
    subst h
    exact ⟨by omega, hf, rfl, rfl, rfl⟩
  | cons t r ih =>
    intro s s2 h hf
    rw [useL] at h
    by_cases h1 : s.fuel + 1 > 4096
    · rw [if_pos h1] at h; cases h
    · rw [if_neg h1] at h
      by_cases h2 : t.f0 = 4
      · rw [if_pos h2] at h
        by_cases h3 : isDir t.f1 = true
        · rw [if_pos h3] at h; cases h
        · rw [if_neg h3] at h
          split at h
          · cases h
          · rename_i s1 hs1
            obtain ⟨a1, a2, a3, a4, a5⟩ := hr _ _ _ hs1 (by show s.fuel + 1 ≤ 4096; omega)
            obtain ⟨b1, b2, b3, b4, b5⟩ := ih _ _ h a2
            refine ⟨?_, b2, b3.trans a3, b4.trans a4, b5.trans a5⟩
            have : s.fuel + 1 ≤ s1.fuel := a1
            omega
      · rw [if_neg h2] at h
        split at h
        · cases h
        · rename_i s1 hs1
          unfold putF at hs1
          split at hs1
          · cases hs1
          · injection hs1 with hs1
            subst hs1
            obtain ⟨b1, b2, b3, b4, b5⟩ := ih _ _ h (by show s.fuel + 1 ≤ 4096; omega)
            have : s.fuel + 1 ≤ s2.fuel := b1
            exact ⟨by omega, b2, b3, b4, b5⟩
theorem useF_keeps (a : Int) : ∀ (k : Nat) nm s s2, useF k a nm s = .ok s2 → s.fuel ≤ 4096 → s.fuel ≤ s2.fuel ∧ s2.fuel ≤ 4096 ∧ s2.words = s.words ∧ s2.l = s.l ∧ s2.parts = s.parts := by
  intro k
  induction k with
  | zero => intro nm s s2 h; cases h
  | succ k ih =>
    intro nm s s2 h hf
    rw [useF] at h
    split at h
    · cases h
    · exact useL_keeps (useF k a) a ih _ _ _ h hf

/-- What a call comes to. -/
def Ends2 (L0 : List S35) (b c0 base g : Nat) (w : World) (r : Res St) (e : Ending) (w' : World) : Prop :=
  match r with
  | .error x => e = pan x.1 x.2 ∧ Below base w w'
  | .ok s2 => e = .returned (.tuple #[]) ∧ PSx L0 b c0 base g w' s2 ∧ Below base w w'

theorem Ends2.err {L0 : List S35} {b c0 base g : Nat} {w w' : World} {r : Res St} {x : Int × Int} (h : r = .error x) (hb : Below base w w') : Ends2 L0 b c0 base g w r (pan x.1 x.2) w' := by rw [h]; exact ⟨rfl, hb⟩
theorem Ends2.fine {L0 : List S35} {b c0 base g : Nat} {w w' : World} {r : Res St} {s2 : St} (h : r = .ok s2) (hp : PSx L0 b c0 base g w' s2) (hb : Below base w w') : Ends2 L0 b c0 base g w r (.returned (.tuple #[])) w' := by rw [h]; exact ⟨rfl, hp, hb⟩

theorem wtext {L0 : List S35} (hG : Good L0) {j k q : Nat} {x : S35} (h : ((L0.drop j).take k)[q]? = some x) : L0[j + q]? = some x ∧ q < k ∧ x.f1.size ≤ 65536 := by
  rw [List.getElem?_take] at h
  split at h
  · rename_i hq
    rw [List.getElem?_drop] at h
    exact ⟨h, hq, hG.texts _ _ h⟩
  · cases h

set_option maxRecDepth 100000 in
set_option maxHeartbeats 1000000 in
theorem use_any (L0 : List S35) (b c0 base g : Nat) (a : Int) (hG : Good L0) : ∀ (k : Nat) (nm : ByteArray) (w : World) (s : St), PSx L0 b c0 base g w s → nm.size ≤ 65536 → 0 ≤ s.fuel → s.fuel ≤ 4096 → 4097 ≤ (k : Int) + s.fuel →
    Calls Try.prog 26 #[.pointer (some ⟨g, 0, none⟩), .string nm, .int .i64 a] w (Ends2 L0 b c0 base g w (useF k a nm s)) := by
  intro k
  induction k with
  | zero => intro nm w s _ _ _ h1 h2; omega
  | succ k ih =>
    intro nm w s hx hnm hf0 hf1 hk
    obtain ⟨i, B, n, D, pv, ov, H⟩ := hx
    obtain ⟨v, hlook, hval⟩ := look_run H nm (by unfold maxLen; omega)
    have hlk := hlook w rfl
    have c1 := blk_cell H.blk 1
    have HI := Lib.hid ih
    have HG := Lib.hid hG
    have HH := Lib.hid H
    clear ih hG H hlook
    cases hw : lookW s.words nm with
    | none =>
      have hR : useF (k + 1) a nm s = .error (a, 30) := by rw [useF, hw]
      rw [hw] at hlk
      have HR := Lib.hid hR
      clear hR hw hval
      go_enter Try.func26, Try.ntmps26
      go_wp2_with fail
      with_reducible refine (no_any a 30 _).mono ?_
      rintro e w' ⟨rfl, rfl⟩
      go_wp2
      exact ⟨rfl, Ends2.err HR.out (Below.refl _ _)⟩
    | some body =>
      have hR : useF (k + 1) a nm s = useL (useF k a) a body s := by rw [useF, hw]
      obtain ⟨j, q, hjq, hbody, hv⟩ := hval body hw
      rw [hw] at hlk
      subst hv
      have hbl : body.length = q := by rw [hbody]; simp; omega
      have HR := Lib.hid hR
      have HBd := Lib.hid hbody
      have HBl := Lib.hid hbl
      clear hR hw hval hbody hbl
      generalize useF (k + 1) a nm s = R at HR ⊢
      have hlen := HG.out.len
      go_enter Try.func26, Try.ntmps26
      go_wp2
      go_loopw [25] (fun iv wr => ∃ (m : Nat) (s1 : St), iv = .int .i64 m ∧ m ≤ q ∧ PSx L0 b c0 base g wr s1 ∧ Below base w wr ∧ Aside0 (useL (useF k a) a (body.drop m) s1 = R) ∧ s.fuel ≤ s1.fuel ∧ s1.fuel ≤ 4096) (fun iv _ => q - (intOf iv).toNat)
      case atStart => exact ⟨0, s, rfl, Nat.zero_le _, ⟨i, B, n, D, pv, ov, HH.out⟩, Below.refl _ _, ⟨by rw [HR.out]; rfl⟩, by omega, hf1⟩
      case round =>
        obtain ⟨m, s1, rfl, hm, ⟨i1, B1, n1, D1, pv1, ov1, hps⟩, hbel, hrest, hfm, hfx⟩ := hrel
        have HP := Lib.hid hps
        have HB := Lib.hid hbel
        clear hps hbel
        by_cases hlt : m < q
        · obtain ⟨x, hx⟩ : ∃ x, body[m]? = some x := ⟨_, List.getElem?_eq_getElem (by rw [HBl.out]; exact hlt)⟩
          have hdr : body.drop m = x :: body.drop (m + 1) := by
            obtain ⟨hmb, hxe⟩ := List.getElem?_eq_some_iff.1 hx
            rw [List.drop_eq_getElem_cons hmb, hxe]
          have hx2 := hx
          rw [HBd.out] at hx2
          obtain ⟨hx0, _, hxs⟩ := wtext HG.out hx2
          obtain ⟨x0, x1, x2⟩ := HP.out.src _ _ hx0
          rw [show (j + m) * 3 = j * 3 + m * 3 from by omega] at x0 x1 x2
          have hrest2 := hrest.out
          rw [hdr, useL] at hrest2
          have c4 := blk_cell HP.out.blk 4
          have f4 := blk_frozen HP.out.blk 4
          have hgl := HP.out.glt
          have hp4 : PS L0 b c0 base g (wr.setCell ⟨g, 4, none⟩ (.int .i64 (s1.fuel + 1))) { s1 with fuel := s1.fuel + 1 } i1 B1 n1 D1 pv1 ov1 :=
            HP.out.upd 4 _ _ i1 (Nat.le_refl _) HP.out.hi HP.out.hl rfl rfl rfl rfl
          have hb4 : Below base w (wr.setCell ⟨g, 4, none⟩ (.int .i64 (s1.fuel + 1))) := HB.out.setCell (p := ⟨g, 4, none⟩) HP.out.bg _
          have HP4 := Lib.hid hp4
          have HB4 := Lib.hid hb4
          clear hx hx2 hdr hx0 hrest hp4 hb4
          by_cases hA : s1.fuel + 1 > 4096
          · rw [if_pos hA] at hrest2
            have HE := Lib.hid hrest2.symm
            clear hrest2
            go_wp2_with fail
            with_reducible refine (no_any a 31 _).mono ?_
            rintro e w' ⟨rfl, rfl⟩
            go_wp2
            exact ⟨rfl, Ends2.err HE.out (HB4.out.alloc HP4.out.base_le _)⟩
          · rw [if_neg hA] at hrest2
            have hA' : s1.fuel + 1 ≤ 4096 := by omega
            clear hA
            by_cases h4 : x.f0 = 4
            · rw [if_pos h4] at hrest2
              rw [h4] at x0
              by_cases hD : isDir x.f1 = true
              · rw [if_pos hD] at hrest2
                have HE := Lib.hid hrest2.symm
                clear hrest2 h4
                simp only [isDir, Bool.or_eq_true, beq_iff_eq] at hD
                have hp5 : PS L0 b c0 base g ((wr.setCell ⟨g, 4, none⟩ (.int .i64 (s1.fuel + 1))).alloc (.cells #[.int .i64 4, .string x.f1, .int .i64 a] 35)) { s1 with fuel := s1.fuel + 1 } i1 B1 n1 D1 pv1 ov1 := HP4.out.kept ((Below.refl _ _).alloc (Nat.le_refl _) _)
                have hb5 := HB4.out.alloc HP4.out.base_le (.cells #[.int .i64 4, .string x.f1, .int .i64 a] 35)
                have HB5 := Lib.hid hb5
                clear hp5 hb5
                rcases hD with ((((hD | hD) | hD) | hD) | hD) | hD
                all_goals
                  rw [hD] at x1 HB5
                  simp only [sDefine, sUndef, sIfdef, sIfndef, sElse, sEndif] at x1 HB5
                  clear hD
                  go_wp2_with fail
                  with_reducible refine (no_any a 30 _).mono ?_
                  rintro e w' ⟨rfl, rfl⟩
                  go_wp2
                  exact ⟨rfl, Ends2.err HE.out HB5.out⟩
              · rw [if_neg hD] at hrest2
                have HE := Lib.hid hrest2
                clear hrest2 h4
                have hp5 : PS L0 b c0 base g ((wr.setCell ⟨g, 4, none⟩ (.int .i64 (s1.fuel + 1))).alloc (.cells #[.int .i64 4, .string x.f1, .int .i64 a] 35)) { s1 with fuel := s1.fuel + 1 } i1 B1 n1 D1 pv1 ov1 := HP4.out.kept ((Below.refl _ _).alloc (Nat.le_refl _) _)
                have hb5 := HB4.out.alloc HP4.out.base_le (.cells #[.int .i64 4, .string x.f1, .int .i64 a] 35)
                have HP5 := Lib.hid hp5
                have HB5 := Lib.hid hb5
                clear hp5 hb5
                obtain ⟨d1, d2, d3, d4, d5, d6⟩ := isDir_no hD
                clear hD
                have hX := HI.out x.f1 ((wr.setCell ⟨g, 4, none⟩ (.int .i64 (s1.fuel + 1))).alloc (.cells #[.int .i64 4, .string x.f1, .int .i64 a] 35)) { s1 with fuel := s1.fuel + 1 } ⟨i1, B1, n1, D1, pv1, ov1, HP5.out⟩ hxs (by show 0 ≤ s1.fuel + 1; omega) hA' (by show 4097 ≤ (k : Int) + (s1.fuel + 1); omega)
                have HX := Lib.hid hX
                clear hX
                cases hr : useF k a x.f1 { s1 with fuel := s1.fuel + 1 } with
                | error e2 =>
                  have he := HE.out
                  rw [hr] at he
                  have HE2 := Lib.hid he.symm
                  have HRr := Lib.hid hr
                  clear he hr
                  go_wp2_with fail
                  have hX2 := HX.out
                  rw [HRr.out] at hX2
                  with_reducible refine hX2.mono ?_
                  clear hX2
                  rintro e w' ⟨rfl, hb6⟩
                  have HB6 := Lib.hid hb6
                  clear hb6
                  go_wp2
                  exact ⟨rfl, Ends2.err HE2.out (HB5.out.trans HB6.out)⟩
                | ok s2 =>
                  have he := HE.out
                  rw [hr] at he
                  have HE2 := Lib.hid he
                  have HRr := Lib.hid hr
                  obtain ⟨g1, g2, _, _, _⟩ := useF_keeps a k _ _ _ hr hA'
                  have g1' : s1.fuel + 1 ≤ s2.fuel := g1
                  clear he hr g1
                  go_wp2_with fail
                  have hX2 := HX.out
                  rw [HRr.out] at hX2
                  with_reducible refine hX2.mono ?_
                  clear hX2
                  rintro e w' ⟨rfl, hp6, hb6⟩
                  have HP6 := Lib.hid hp6
                  have HB6 := Lib.hid hb6
                  clear hb6 hp6
                  go_wp2
                  go_roundw
                  case rel => exact ⟨m + 1, s2, by go_num, by omega, HP6.out, HB5.out.trans HB6.out, ⟨HE2.out⟩, by omega, g2⟩
                  case measure => simp [intOf]; omega
            · rw [if_neg h4] at hrest2
              have n4 : (x.f0 != 4) = true := by simpa using h4
              have hp5 : PS L0 b c0 base g ((wr.setCell ⟨g, 4, none⟩ (.int .i64 (s1.fuel + 1))).alloc (.cells #[.int .i64 x.f0, .string x.f1, .int .i64 a] 35)) { s1 with fuel := s1.fuel + 1 } i1 B1 n1 D1 pv1 ov1 := HP4.out.kept ((Below.refl _ _).alloc (Nat.le_refl _) _)
              have hb5 := HB4.out.alloc HP4.out.base_le (.cells #[.int .i64 x.f0, .string x.f1, .int .i64 a] 35)
              have HP5 := Lib.hid hp5
              have HB5 := Lib.hid hb5
              clear hp5 hb5 h4
              by_cases hO : 16384 ≤ s1.out.length
              · have hpt : putF ⟨x.f0, x.f1, a⟩ { s1 with fuel := s1.fuel + 1 } = .error (a, 2) := by unfold putF; rw [if_pos hO]
                rw [hpt] at hrest2
                have HE := Lib.hid hrest2.symm
                clear hrest2 hpt
                go_wp2_with fail
                with_reducible refine (put_no L0 b c0 base g _ { s1 with fuel := s1.fuel + 1 } ⟨x.f0, x.f1, a⟩ i1 B1 n1 D1 pv1 ov1 HP5.out hO).mono ?_
                rintro e w' ⟨rfl, hb6⟩
                have HB6 := Lib.hid hb6
                clear hb6
                go_wp2
                exact ⟨rfl, Ends2.err HE.out (HB5.out.trans HB6.out)⟩
              · have hpt : putF ⟨x.f0, x.f1, a⟩ { s1 with fuel := s1.fuel + 1 } = .ok { s1 with fuel := s1.fuel + 1, out := s1.out ++ [⟨x.f0, x.f1, a⟩] } := by unfold putF; rw [if_neg hO]
                rw [hpt] at hrest2
                have HE := Lib.hid hrest2
                have hO' : s1.out.length < 16384 := by omega
                clear hrest2 hpt hO
                go_wp2_with fail
                with_reducible refine (put_ok L0 b c0 base g _ { s1 with fuel := s1.fuel + 1 } ⟨x.f0, x.f1, a⟩ i1 B1 n1 D1 pv1 ov1 HP5.out hO').mono ?_
                rintro e w' ⟨rfl, ⟨ov2, hp6⟩, hb6⟩
                have HP6 := Lib.hid hp6
                have HB6 := Lib.hid hb6
                clear hb6 hp6
                go_wp2
                go_roundw
                case rel => exact ⟨m + 1, _, by go_num, by omega, ⟨i1, B1, n1, D1, pv1, ov2, HP6.out⟩, HB5.out.trans HB6.out, ⟨HE.out⟩, by show s.fuel ≤ s1.fuel + 1; omega, hA'⟩
                case measure => simp [intOf]; omega
        · obtain rfl : m = q := by omega
          have hrest2 := hrest.out
          rw [List.drop_eq_nil_of_le (by rw [HBl.out]; exact Nat.le_refl _), useL] at hrest2
          have HE := Lib.hid hrest2.symm
          clear hrest2 hrest
          go_wp2
          go_end0
          exact Ends2.fine HE.out ⟨i1, B1, n1, D1, pv1, ov1, HP.out⟩ HB.out
end Go.Proofs.Ytimcmhfcmnooeaa
