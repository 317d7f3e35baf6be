/- The contract of tick, where a tick begins, turns or ends a part. -/
import Derived.Test.YtimcmhfcmnooeaaPrA
import Derived.Test.YtimcmhfcmnooeaaPr9
import Derived.Test.YtimcmhfcmnooeaaPr10
namespace Go.Proofs.Ytimcmhfcmnooeaa
set_option linter.unusedVariables false
set_option linter.unusedSimpArgs false
open Go.RowKit Go.Maps Go.Proofs.YtimcmhfcmnooeaaW.PrintWords Go.Proofs.YtimcmhfcmnooeaaW.PrintLast Go.Proofs.YtimcmhfcmnooeaaW.PrintMore

theorem own_take {w : World} {base b c n : Nat} {e : TypeId} {size : Nat} {xs : List Value} (h : w.ownsRow base e size (.slice (some ⟨b, 0, none⟩) n c) n xs) (m : Nat) (hm : m ≤ n) :
    w.ownsRow base e size (.slice (some ⟨b, 0, none⟩) m c) m (xs.take (m * size)) := by
  obtain ⟨h1, h2⟩ := h
  have hms : m * size ≤ n * size := Nat.mul_le_mul_right _ hm
  rcases h2 with ⟨h2, _⟩ | ⟨g', cap, cur, he, hg, hh, r1, r2, r3, r4⟩
  · cases h2
  · injection he with e1 e2 e3
    subst e3
    refine ⟨by rw [List.length_take, h1]; omega, .inr ⟨g', c, cur, by rw [e1], hg, hh, by omega, r2, r3, ?_⟩⟩
    rw [← r4, List.take_take]
    congr 1
    omega

theorem tick_text (x : ByteArray) : (x.toList == [105, 102, 100, 101, 102]) = (x == sIfdef) ∧ (x.toList == [105, 102, 110, 100, 101, 102]) = (x == sIfndef) ∧ (x.toList == [101, 108, 115, 101]) = (x == sElse) ∧ (x.toList == [101, 110, 100, 105, 102]) = (x == sEndif) ∧ (x.toList == [100, 101, 102, 105, 110, 101]) = (x == sDefine) ∧ (x.toList == [117, 110, 100, 101, 102]) = (x == sUndef) := by
  have key : ∀ (l : List UInt8), (x.toList == l) = (x == ⟨l.toArray⟩) := by
    intro l
    by_cases h : x = ⟨l.toArray⟩
    · rw [tol_true h, h]; simp
    · rw [tol_false h]; exact (beq_eq_false_iff_ne.2 h).symm
  exact ⟨key _, key _, key _, key _, key _, key _⟩

section
variable (L0 : List S35) (b c0 base g : Nat) (w : World) (s : St) (t : S35)
set_option maxRecDepth 100000 in
set_option maxHeartbeats 1000000 in
theorem tick_ifdef (hG : Good L0) (h : PSx L0 b c0 base g w s) (hfew : s.parts.length ≤ 1000000) (ht : t.f1 = sIfdef) :
    Calls Try.prog 13 #[.pointer (some ⟨g, 0, none⟩), .agg #[.int .i64 t.f0, .string t.f1, .int .i64 t.f2]] w (Ends2 L0 b c0 base g w (tickF t s)) := by
  obtain ⟨i, B, n, D, pv, ov, H⟩ := h
  have hR : tickF t s = beginsF t true s := by simp [tickF, ht]
  have H1 := H.kept ((Below.refl w.heap.size w).alloc (Nat.le_refl _) (.cells #[.int .i64 t.f0, .string t.f1, .int .i64 t.f2] 35))
  have hb1 := (Below.refl base w).alloc H.base_le (.cells #[.int .i64 t.f0, .string t.f1, .int .i64 t.f2] 35)
  obtain ⟨t0, t1, t2⟩ := t
  dsimp only at ht H1 hb1 hR
  subst ht
  have HR := Lib.hid hR
  have HH1 := Lib.hid H1
  have HB1 := Lib.hid hb1
  clear hR H1 hb1 H
  cases hr : beginsF ⟨t0, sIfdef, t2⟩ true s with
  | error e2 =>
    have hX := begins_no L0 b c0 base g (w.alloc (.cells #[.int .i64 t0, .string sIfdef, .int .i64 t2] 35)) s ⟨t0, sIfdef, t2⟩ true hG i B n D pv ov HH1.out e2 hr
    have HE := Lib.hid (HR.out.trans hr)
    have HX := Lib.hid hX
    clear hr hX HR
    unfold sIfdef at HX ⊢
    go_enter Try.func13, Try.ntmps13
    go_wp2_with fail
    have hX := HX.out
    with_reducible refine hX.mono ?_
    clear hX
    rintro e w' ⟨rfl, hb6⟩
    have HB6 := Lib.hid hb6
    clear hb6
    go_wp2
    exact ⟨rfl, Ends2.err HE.out (HB1.out.trans HB6.out)⟩
  | ok s2 =>
    have hX := begins_ok L0 b c0 base g (w.alloc (.cells #[.int .i64 t0, .string sIfdef, .int .i64 t2] 35)) s ⟨t0, sIfdef, t2⟩ true hG i B n D pv ov HH1.out hfew s2 hr
    have HE := Lib.hid (HR.out.trans hr)
    have HX := Lib.hid hX
    clear hr hX HR
    unfold sIfdef at HX ⊢
    go_enter Try.func13, Try.ntmps13
    go_wp2_with fail
    have hX := HX.out
    with_reducible refine hX.mono ?_
    clear hX
    rintro e w' ⟨rfl, hp6, hb6⟩
    have HB6 := Lib.hid hb6
    have HP6 := Lib.hid hp6
    clear hb6 hp6
    go_wp2
    refine bodyPost_ret (results_none rfl _ _ _) rfl ?_
    exact Ends2.fine HE.out HP6.out (HB1.out.trans HB6.out)
set_option maxRecDepth 100000 in
set_option maxHeartbeats 1000000 in
theorem tick_ifndef (hG : Good L0) (h : PSx L0 b c0 base g w s) (hfew : s.parts.length ≤ 1000000) (ht : t.f1 = sIfndef) :
    Calls Try.prog 13 #[.pointer (some ⟨g, 0, none⟩), .agg #[.int .i64 t.f0, .string t.f1, .int .i64 t.f2]] w (Ends2 L0 b c0 base g w (tickF t s)) := by
  obtain ⟨i, B, n, D, pv, ov, H⟩ := h
  have hR : tickF t s = beginsF t false s := by simp [tickF, ht, show (sIfndef == sIfdef) = false from by decide]
  have H1 := H.kept ((Below.refl w.heap.size w).alloc (Nat.le_refl _) (.cells #[.int .i64 t.f0, .string t.f1, .int .i64 t.f2] 35))
  have hb1 := (Below.refl base w).alloc H.base_le (.cells #[.int .i64 t.f0, .string t.f1, .int .i64 t.f2] 35)
  obtain ⟨t0, t1, t2⟩ := t
  dsimp only at ht H1 hb1 hR
  subst ht
  have HR := Lib.hid hR
  have HH1 := Lib.hid H1
  have HB1 := Lib.hid hb1
  clear hR H1 hb1 H
  cases hr : beginsF ⟨t0, sIfndef, t2⟩ false s with
  | error e2 =>
    have hX := begins_no L0 b c0 base g (w.alloc (.cells #[.int .i64 t0, .string sIfndef, .int .i64 t2] 35)) s ⟨t0, sIfndef, t2⟩ false hG i B n D pv ov HH1.out e2 hr
    have HE := Lib.hid (HR.out.trans hr)
    have HX := Lib.hid hX
    clear hr hX HR
    unfold sIfndef at HX ⊢
    go_enter Try.func13, Try.ntmps13
    go_wp2_with fail
    have hX := HX.out
    with_reducible refine hX.mono ?_
    clear hX
    rintro e w' ⟨rfl, hb6⟩
    have HB6 := Lib.hid hb6
    clear hb6
    go_wp2
    exact ⟨rfl, Ends2.err HE.out (HB1.out.trans HB6.out)⟩
  | ok s2 =>
    have hX := begins_ok L0 b c0 base g (w.alloc (.cells #[.int .i64 t0, .string sIfndef, .int .i64 t2] 35)) s ⟨t0, sIfndef, t2⟩ false hG i B n D pv ov HH1.out hfew s2 hr
    have HE := Lib.hid (HR.out.trans hr)
    have HX := Lib.hid hX
    clear hr hX HR
    unfold sIfndef at HX ⊢
    go_enter Try.func13, Try.ntmps13
    go_wp2_with fail
    have hX := HX.out
    with_reducible refine hX.mono ?_
    clear hX
    rintro e w' ⟨rfl, hp6, hb6⟩
    have HB6 := Lib.hid hb6
    have HP6 := Lib.hid hp6
    clear hb6 hp6
    go_wp2
    refine bodyPost_ret (results_none rfl _ _ _) rfl ?_
    exact Ends2.fine HE.out HP6.out (HB1.out.trans HB6.out)
set_option maxRecDepth 100000 in
set_option maxHeartbeats 1000000 in
theorem tick_else (hG : Good L0) (h : PSx L0 b c0 base g w s) (hfew : s.parts.length ≤ 1000000) (ht : t.f1 = sElse) :
    Calls Try.prog 13 #[.pointer (some ⟨g, 0, none⟩), .agg #[.int .i64 t.f0, .string t.f1, .int .i64 t.f2]] w (Ends2 L0 b c0 base g w (tickF t s)) := by
  obtain ⟨i, B, n, D, pv, ov, H⟩ := h
  have hR : tickF t s = turnsF t.f2 s := by simp [tickF, ht, show (sElse == sIfdef) = false from by decide, show (sElse == sIfndef) = false from by decide]
  have H1 := H.kept ((Below.refl w.heap.size w).alloc (Nat.le_refl _) (.cells #[.int .i64 t.f0, .string t.f1, .int .i64 t.f2] 35))
  have hb1 := (Below.refl base w).alloc H.base_le (.cells #[.int .i64 t.f0, .string t.f1, .int .i64 t.f2] 35)
  obtain ⟨t0, t1, t2⟩ := t
  dsimp only at ht H1 hb1 hR
  subst ht
  have HR := Lib.hid hR
  have HH1 := Lib.hid H1
  have HB1 := Lib.hid hb1
  clear hR H1 hb1 H
  cases hr : turnsF t2 s with
  | error e2 =>
    have hX : Calls Try.prog 22 #[.pointer (some ⟨g, 0, none⟩), .int .i64 t2] (w.alloc (.cells #[.int .i64 t0, .string sElse, .int .i64 t2] 35)) fun e w' => e = pan e2.1 e2.2 ∧ Below base (w.alloc (.cells #[.int .i64 t0, .string sElse, .int .i64 t2] 35)) w' := by
      unfold turnsF at hr
      split at hr
      · rename_i hn
        injection hr with hr
        subst hr
        exact (turns_none L0 b c0 base g _ s t2 i B n D pv ov HH1.out (by simpa using hn)).mono fun e w' ⟨h1, h2⟩ => ⟨h1, h2 ▸ Below.refl _ _⟩
      · rename_i p hp
        split at hr
        · rename_i hb
          injection hr with hr
          subst hr
          exact (turns_behind L0 b c0 base g _ s t2 i B n D pv ov HH1.out p hp hb).mono fun e w' ⟨h1, m, h2⟩ => ⟨h1, h2 ▸ pw_below_drewN (Below.refl _ _) m⟩
        · cases hr
    have HE := Lib.hid (HR.out.trans hr)
    have HX := Lib.hid hX
    clear hr hX HR
    unfold sElse at HX ⊢
    go_enter Try.func13, Try.ntmps13
    go_wp2_with fail
    have hX := HX.out
    with_reducible refine hX.mono ?_
    clear hX
    rintro e w' ⟨rfl, hb6⟩
    have HB6 := Lib.hid hb6
    clear hb6
    go_wp2
    exact ⟨rfl, Ends2.err HE.out (HB1.out.trans HB6.out)⟩
  | ok s2 =>
    have hX : Calls Try.prog 22 #[.pointer (some ⟨g, 0, none⟩), .int .i64 t2] (w.alloc (.cells #[.int .i64 t0, .string sElse, .int .i64 t2] 35)) fun e w' => e = .returned (.tuple #[]) ∧ PSx L0 b c0 base g w' s2 ∧ Below base (w.alloc (.cells #[.int .i64 t0, .string sElse, .int .i64 t2] 35)) w' := by
      unfold turnsF at hr
      split at hr
      · cases hr
      · rename_i p hp
        split at hr
        · cases hr
        · rename_i hb
          injection hr with hr
          subst hr
          exact (turns_ok L0 b c0 base g _ s t2 i B n D pv ov HH1.out p hp (by simpa using hb)).mono fun e w' ⟨h1, h2, h3⟩ => ⟨h1, ⟨i, B, n, D, pv, ov, h2⟩, h3⟩
    have HE := Lib.hid (HR.out.trans hr)
    have HX := Lib.hid hX
    clear hr hX HR
    unfold sElse at HX ⊢
    go_enter Try.func13, Try.ntmps13
    go_wp2_with fail
    have hX := HX.out
    with_reducible refine hX.mono ?_
    clear hX
    rintro e w' ⟨rfl, hp6, hb6⟩
    have HB6 := Lib.hid hb6
    have HP6 := Lib.hid hp6
    clear hb6 hp6
    go_wp2
    refine bodyPost_ret (results_none rfl _ _ _) rfl ?_
    exact Ends2.fine HE.out HP6.out (HB1.out.trans HB6.out)
end
end Go.Proofs.Ytimcmhfcmnooeaa
