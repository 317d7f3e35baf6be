/- The contract of tick, where a part ends, nothing is kept, or a name is taken. -/
import Derived.Test.YtimcmhfcmnooeaaPr11
namespace Go.Proofs.Ytimcmhfcmnooeaa
set_option linter.unusedVariables false
set_option linter.unusedSimpArgs false
open Go.RowKit Go.Maps Go.Proofs.YtimcmhfcmnooeaaW.PrintWords Go.Proofs.YtimcmhfcmnooeaaW.PrintLast Go.Proofs.YtimcmhfcmnooeaaW.PrintMore

theorem PS.popped {L0 : List S35} {b c0 base g : Nat} {w : World} {s : St} {i B n : Nat} {D : DataW Value} {ov : Value} {pb ln c : Nat} (H : PS L0 b c0 base g w s i B n D (.slice (some ⟨pb, 0, none⟩) (ln + 1) c) ov) (hl : s.parts.length = ln + 1) :
    PS L0 b c0 base g (w.setCell ⟨g, 2, none⟩ (.slice (some ⟨pb, 0, none⟩) ln c)) { s with parts := s.parts.dropLast } i B n D (.slice (some ⟨pb, 0, none⟩) ln c) ov := by
  have hp := H.parts
  rw [hl] at hp
  have hp2 := own_take hp ln (by omega)
  refine ⟨H.hi, H.hl, H.hc, H.hm, ?_, H.src.below ((Below.refl base w).setCell (p := ⟨g, 2, none⟩) H.bg _) H.low, H.low, H.map.setCell H.gB _, H.hn, H.wrel, ?_, own_setCell' H.out (own_ne_blk H.out H.blk (by decide)) _, H.bg, H.bB⟩
  · rw [blk_set H.blk 2]; rfl
  · have e1 : s.parts.dropLast.length = ln := by simp [hl]
    have e2 : pflat s.parts.dropLast = (pflat s.parts).take (ln * 4) := by
      have hne : s.parts ≠ [] := by intro e; rw [e] at hl; simp at hl
      have h2 := List.dropLast_concat_getLast hne
      have h3 : pflat s.parts = pflat s.parts.dropLast ++ (s.parts.getLast hne).cl := by
        conv => lhs; rw [← h2]
        rw [pflat_snoc]
      rw [h3, List.take_append_of_le_length (by rw [pflat_len, e1]; exact Nat.le_refl _), List.take_of_length_le (by rw [pflat_len, e1]; exact Nat.le_refl _)]
    show World.ownsRow _ _ _ _ _ s.parts.dropLast.length (pflat s.parts.dropLast)
    rw [e1, e2]
    exact own_setCell' hp2 (own_ne_blk hp2 H.blk (by decide)) _

section
variable (L0 : List S35) (b c0 base g : Nat) (w : World) (s : St) (t : S35)
set_option maxRecDepth 100000 in
set_option maxHeartbeats 1000000 in
theorem tick_endif (h : PSx L0 b c0 base g w s) (ht : t.f1 = sEndif) :
    Calls Try.prog 13 #[.pointer (some ⟨g, 0, none⟩), .agg #[.int .i64 t.f0, .string t.f1, .int .i64 t.f2]] w (Ends2 L0 b c0 base g w (tickF t s)) := by
  obtain ⟨i, B, n, D, pv, ov, H⟩ := h
  have hR : tickF t s = (match s.parts with
    | [] => .error (t.f2, 30)
    | _ => .ok { s with parts := s.parts.dropLast }) := by simp [tickF, ht, show (sEndif == sIfdef) = false from by decide, show (sEndif == sIfndef) = false from by decide, show (sEndif == sElse) = false from by decide]; cases s.parts <;> rfl
  have H1 := H.kept ((Below.refl w.heap.size w).alloc (Nat.le_refl _) (.cells #[.int .i64 t.f0, .string t.f1, .int .i64 t.f2] 35))
  have hb1 := (Below.refl base w).alloc H.base_le (.cells #[.int .i64 t.f0, .string t.f1, .int .i64 t.f2] 35)
  obtain ⟨t0, t1, t2⟩ := t
  dsimp only at ht H1 hb1 hR
  subst ht
  have HR := Lib.hid hR
  have HH1 := Lib.hid H1
  have HB1 := Lib.hid hb1
  clear hR H1 hb1 H
  cases hr : s.parts.getLast? with
  | none =>
    have hp0 : s.parts = [] := by simpa using hr
    have hE : tickF ⟨t0, sEndif, t2⟩ s = .error (t2, 30) := by rw [HR.out, hp0]
    have hX := last_no L0 b c0 base g (w.alloc (.cells #[.int .i64 t0, .string sEndif, .int .i64 t2] 35)) s t2 i B n D pv ov HH1.out hp0
    have HE := Lib.hid hE
    have HX := Lib.hid hX
    clear hr hX HR hE hp0
    unfold sEndif at HX ⊢
    go_enter Try.func13, Try.ntmps13
    go_wp2_with fail
    have hX := HX.out
    with_reducible refine hX.mono ?_
    clear hX
    rintro e w' ⟨rfl, rfl⟩
    go_wp2
    exact ⟨rfl, Ends2.err HE.out HB1.out⟩
  | some p =>
    obtain ⟨pb, c, ln, hln, rfl, hlc, hcm, hpb, hpl, hpg, hf, h0, h1, h2, h3⟩ := parts_last HH1.out hr
    have hE : tickF ⟨t0, sEndif, t2⟩ s = .ok { s with parts := s.parts.dropLast } := by
      rw [HR.out]
      split
      · rename_i e
        rw [e] at hr
        simp at hr
      · rfl
    have hX := last_ok L0 b c0 base g (w.alloc (.cells #[.int .i64 t0, .string sEndif, .int .i64 t2] 35)) s t2 i B n D ov pb c ln HH1.out hlc hcm
    have hp6 := HH1.out.popped hln
    have hb6 := HB1.out.setCell (p := ⟨g, 2, none⟩) HH1.out.bg (.slice (some ⟨pb, 0, none⟩) ln c)
    have c2 := blk_cell HH1.out.blk 2
    have f2 := blk_frozen HH1.out.blk 2
    have HE := Lib.hid hE
    have HX := Lib.hid hX
    have HP6 := Lib.hid hp6
    have HB6 := Lib.hid hb6
    clear hr hX HR hE hp6 hb6 hf h0 h1 h2 h3 hln
    unfold maxLen at hcm
    unfold sEndif at HX HP6 HB6 c2 f2 ⊢
    go_enter Try.func13, Try.ntmps13
    go_wp2_with fail
    have hX := HX.out
    with_reducible refine hX.mono ?_
    clear hX
    rintro e w' ⟨rfl, m, rfl⟩
    go_wp2
    go_region
    all_goals
      go_wp2
      refine bodyPost_ret (results_none rfl _ _ _) rfl ?_
      exact Ends2.fine HE.out ⟨_, _, _, _, _, _, (HP6.out.drewN m).drew⟩ (below_drew (pw_below_drewN HB6.out m))

/-- none of the four that choose -/
structure Plain (t : S35) : Prop where
  a : (t.f1 == sIfdef) = false
  b : (t.f1 == sIfndef) = false
  c : (t.f1 == sElse) = false
  d : (t.f1 == sEndif) = false

set_option maxRecDepth 100000 in
set_option maxHeartbeats 1000000 in
theorem tick_idle (h : PSx L0 b c0 base g w s) (hp : Plain t) (hk : keptF s = false) :
    Calls Try.prog 13 #[.pointer (some ⟨g, 0, none⟩), .agg #[.int .i64 t.f0, .string t.f1, .int .i64 t.f2]] w (Ends2 L0 b c0 base g w (tickF t s)) := by
  obtain ⟨i, B, n, D, pv, ov, H⟩ := h
  have hR : tickF t s = .ok s := by simp [tickF, hp.a, hp.b, hp.c, hp.d, hk]
  have H1 := H.kept ((Below.refl w.heap.size w).alloc (Nat.le_refl _) (.cells #[.int .i64 t.f0, .string t.f1, .int .i64 t.f2] 35))
  have hb1 := (Below.refl base w).alloc H.base_le (.cells #[.int .i64 t.f0, .string t.f1, .int .i64 t.f2] 35)
  obtain ⟨x1, x2, x3, x4, x5, x6⟩ := tick_text t.f1
  rw [hp.a] at x1
  rw [hp.b] at x2
  rw [hp.c] at x3
  rw [hp.d] at x4
  have hX := kept_any L0 b c0 base g (w.alloc (.cells #[.int .i64 t.f0, .string t.f1, .int .i64 t.f2] 35)) s i B n D pv ov H1
  rw [hk] at hX
  have HX := Lib.hid hX
  have HR := Lib.hid hR
  have HH1 := Lib.hid H1
  have HB1 := Lib.hid hb1
  clear hR H1 hb1 H hX hp hk x5 x6
  go_enter Try.func13, Try.ntmps13
  go_wp2_with fail
  have hX := HX.out
  with_reducible refine hX.mono ?_
  clear hX
  rintro e w' ⟨rfl, m, rfl⟩
  go_wp2
  refine bodyPost_ret (results_none rfl _ _ _) rfl ?_
  exact Ends2.fine HR.out ⟨_, _, _, _, _, _, HH1.out.drewN m⟩ (pw_below_drewN HB1.out m)

set_option maxRecDepth 100000 in
set_option maxHeartbeats 1000000 in
theorem tick_define (hG : Good L0) (h : PSx L0 b c0 base g w s) (hp : Plain t) (hk : keptF s = true) (hd : (t.f1 == sDefine) = true) :
    Calls Try.prog 13 #[.pointer (some ⟨g, 0, none⟩), .agg #[.int .i64 t.f0, .string t.f1, .int .i64 t.f2]] w (Ends2 L0 b c0 base g w (tickF t s)) := by
  obtain ⟨i, B, n, D, pv, ov, H⟩ := h
  have hR : tickF t s = defineF t.f2 s := by simp [tickF, hp.a, hp.b, hp.c, hp.d, hk, hd]
  have H1 := H.kept ((Below.refl w.heap.size w).alloc (Nat.le_refl _) (.cells #[.int .i64 t.f0, .string t.f1, .int .i64 t.f2] 35))
  have hb1 := (Below.refl base w).alloc H.base_le (.cells #[.int .i64 t.f0, .string t.f1, .int .i64 t.f2] 35)
  obtain ⟨x1, x2, x3, x4, x5, x6⟩ := tick_text t.f1
  rw [hp.a] at x1
  rw [hp.b] at x2
  rw [hp.c] at x3
  rw [hp.d] at x4
  rw [hd] at x5
  have hX := kept_any L0 b c0 base g (w.alloc (.cells #[.int .i64 t.f0, .string t.f1, .int .i64 t.f2] 35)) s i B n D pv ov H1
  rw [hk] at hX
  have HX := Lib.hid hX
  have HR := Lib.hid hR
  have HH1 := Lib.hid H1
  have HB1 := Lib.hid hb1
  clear hR H1 hb1 H hX hp hk x6 hd
  cases hr : defineF t.f2 s with
  | error e2 =>
    have hY := fun m => define_no L0 b c0 base g ((w.alloc (.cells #[.int .i64 t.f0, .string t.f1, .int .i64 t.f2] 35)).drewN m) s t.f2 hG i B n D pv ov (HH1.out.drewN m) e2 hr
    have HY := Lib.hid hY
    have HE := Lib.hid (HR.out.trans hr)
    clear hr hY
    go_enter Try.func13, Try.ntmps13
    go_wp2_with fail
    have hX := HX.out
    with_reducible refine hX.mono ?_
    clear hX
    rintro e w' ⟨rfl, m, rfl⟩
    go_wp2_with fail
    have hY := HY.out m
    with_reducible refine hY.mono ?_
    clear hY
    rintro e w' ⟨rfl, rfl⟩
    go_wp2
    exact ⟨rfl, Ends2.err HE.out (pw_below_drewN HB1.out m)⟩
  | ok s2 =>
    have hY := fun m => define_ok L0 b c0 base g ((w.alloc (.cells #[.int .i64 t.f0, .string t.f1, .int .i64 t.f2] 35)).drewN m) s t.f2 hG i B n D pv ov (HH1.out.drewN m) s2 hr
    have HY := Lib.hid hY
    have HE := Lib.hid (HR.out.trans hr)
    clear hr hY
    go_enter Try.func13, Try.ntmps13
    go_wp2_with fail
    have hX := HX.out
    with_reducible refine hX.mono ?_
    clear hX
    rintro e w' ⟨rfl, m, rfl⟩
    go_wp2_with fail
    have hY := HY.out m
    with_reducible refine hY.mono ?_
    clear hY
    rintro e w' ⟨rfl, hp6, hb6⟩
    have HB6 := Lib.hid hb6
    have HP6 := Lib.hid hp6
    clear hb6 hp6
    go_wp2
    go_end0
    exact Ends2.fine HE.out HP6.out ((pw_below_drewN HB1.out m).trans HB6.out)

set_option maxRecDepth 100000 in
set_option maxHeartbeats 1000000 in
theorem tick_use (hG : Good L0) (h : PSx L0 b c0 base g w s) (hp : Plain t) (hk : keptF s = true) (hd : (t.f1 == sDefine) = false) (hu : (t.f1 == sUndef) = false) (hts : t.f1.size ≤ 65536) :
    Calls Try.prog 13 #[.pointer (some ⟨g, 0, none⟩), .agg #[.int .i64 t.f0, .string t.f1, .int .i64 t.f2]] w (Ends2 L0 b c0 base g w (tickF t s)) := by
  obtain ⟨i, B, n, D, pv, ov, H⟩ := h
  have hR : tickF t s = useF 4097 t.f2 t.f1 { s with fuel := 0 } := by simp [tickF, hp.a, hp.b, hp.c, hp.d, hk, hd, hu]
  have H1 := H.kept ((Below.refl w.heap.size w).alloc (Nat.le_refl _) (.cells #[.int .i64 t.f0, .string t.f1, .int .i64 t.f2] 35))
  have hb1 := (Below.refl base w).alloc H.base_le (.cells #[.int .i64 t.f0, .string t.f1, .int .i64 t.f2] 35)
  obtain ⟨x1, x2, x3, x4, x5, x6⟩ := tick_text t.f1
  rw [hp.a] at x1
  rw [hp.b] at x2
  rw [hp.c] at x3
  rw [hp.d] at x4
  rw [hd] at x5
  rw [hu] at x6
  have hX := kept_any L0 b c0 base g (w.alloc (.cells #[.int .i64 t.f0, .string t.f1, .int .i64 t.f2] 35)) s i B n D pv ov H1
  rw [hk] at hX
  have c4 := blk_cell H1.blk 4
  have f4 := blk_frozen H1.blk 4
  have hp4 : PS L0 b c0 base g ((w.alloc (.cells #[.int .i64 t.f0, .string t.f1, .int .i64 t.f2] 35)).setCell ⟨g, 4, none⟩ (.int .i64 0)) { s with fuel := 0 } i B n D pv ov :=
    H1.upd 4 _ _ i (Nat.le_refl _) H1.hi H1.hl rfl rfl rfl rfl
  have hb4 := hb1.setCell (p := ⟨g, 4, none⟩) H1.bg (.int .i64 0)
  have hY := fun m => use_any L0 b c0 base g t.f2 hG 4097 t.f1 (((w.alloc (.cells #[.int .i64 t.f0, .string t.f1, .int .i64 t.f2] 35)).setCell ⟨g, 4, none⟩ (.int .i64 0)).drewN m) { s with fuel := 0 } ⟨_, _, _, _, _, _, hp4.drewN m⟩ hts (Int.le_refl 0) (by show (0 : Int) ≤ 4096; omega) (by show (4097 : Int) ≤ 4097 + 0; omega)
  rw [← hR] at hY
  have HX := Lib.hid hX
  have HY := Lib.hid hY
  have HH1 := Lib.hid H1
  have HB4 := Lib.hid hb4
  have hgl := H.glt
  clear hR H1 hb1 H hX hp hk hd hu hp4 hb4 hY
  cases hr : tickF t s with
  | error e2 =>
    have hY2 := HY.out
    rw [hr] at hY2
    have HE := Lib.hid hr
    have HY2 := Lib.hid hY2
    clear hr hY2
    go_enter Try.func13, Try.ntmps13
    go_wp2_with fail
    have hX := HX.out
    with_reducible refine hX.mono ?_
    clear hX
    rintro e w' ⟨rfl, m, rfl⟩
    go_wp2_with fail
    have hY := HY2.out m
    refine hY.mono ?_
    clear hY
    rintro e w' ⟨rfl, hb6⟩
    have HB6 := Lib.hid hb6
    clear hb6
    go_wp2
    exact ⟨rfl, Ends2.err rfl ((pw_below_drewN HB4.out m).trans HB6.out)⟩
  | ok s2 =>
    have hY2 := HY.out
    rw [hr] at hY2
    have HE := Lib.hid hr
    have HY2 := Lib.hid hY2
    clear hr hY2
    go_enter Try.func13, Try.ntmps13
    go_wp2_with fail
    have hX := HX.out
    with_reducible refine hX.mono ?_
    clear hX
    rintro e w' ⟨rfl, m, rfl⟩
    go_wp2_with fail
    have hY := HY2.out m
    refine hY.mono ?_
    clear hY
    rintro e w' ⟨rfl, hp6, hb6⟩
    have HB6 := Lib.hid hb6
    have HP6 := Lib.hid hp6
    clear hb6 hp6
    go_wp2
    go_end0
    exact Ends2.fine rfl HP6.out ((pw_below_drewN HB4.out m).trans HB6.out)
end
end Go.Proofs.Ytimcmhfcmnooeaa
