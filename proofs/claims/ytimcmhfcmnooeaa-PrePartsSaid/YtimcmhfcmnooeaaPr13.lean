/- The contract of tick, where a name is let go; tick as a whole. -/
import Derived.Test.YtimcmhfcmnooeaaPr12
namespace Go.Proofs.Ytimcmhfcmnooeaa
set_option linter.unusedVariables false
set_option linter.unusedSimpArgs false
open Go.RowKit Go.Maps Go.Proofs.YtimcmhfcmnooeaaW.PrintWords Go.Proofs.YtimcmhfcmnooeaaW.PrintLast Go.Proofs.YtimcmhfcmnooeaaW.PrintMore

theorem step_delete_mine {P : Program} {ops : Array Oper} {o : Oper} {a : Act} {w w' : World} {K : Act → World → Prop} {Q : Exit → Act → World → Prop} {E : Prop}
    (hgd : o.guard = none) (s x : Operand) (t k : TypeId) (ho : o.op = .call { callee := .builtin .delete, args := #[s, x], argTypes := #[t, k] })
    (B : Nat) (key : Value) (hs : a.eval s = .map (some B)) (hx : a.eval x = key)
    (hrun : ∀ ty, (Builtin.delete_ #[t, k] ty #[.map (some B), key]).run P w = .ok (.tuple #[]) w')
    (h : K (a.put o.dst (.tuple #[])) w') :
    if Region.wanted o (yielded ops a.tmps) = true then Oper.wp P o a w K Q else E := by
  have hw : Region.wanted o (yielded ops a.tmps) = true := by simp [Region.wanted, hgd]
  rw [if_pos hw]
  unfold Oper.wp execOp
  simp only [ho, resolve, invoke, builtin, Sem.run_bind, Sem.run_pure, Result.andThen_ok, List.map_toArray, List.map_cons, List.map_nil, hs, hx, hrun]
  exact h

theorem PS.undefd {L0 : List S35} {b c0 base g : Nat} {w1 w2 : World} {s1 s2 : St} {j B n : Nat} {D : DataW Value} {pv ov : Value} (H : PS L0 b c0 base g w1 s1 j B n D pv ov) (nm : ByteArray)
    (hown : w2.ownsMap Try.prog 9 RV B n (D.del (.string nm.data.toList))) (hg : w1.grownBy w2 (some B))
    (hs : ({ s1 with words := s1.words.filter (fun p => !(p.1 == nm)) } : St) = s2) :
    PSx L0 b c0 base g w2 s2 ∧ Below base w1 w2 := by
  have hbel : Below base w1 w2 := (Below.refl base w1).grown hg H.base_le (fun q hq => by injection hq with hq; rw [← hq]; exact H.bB)
  have hpB : pv.ownBlock = none ∨ pv.ownBlock ≠ some B := .inr (fun e => by
    obtain ⟨es, clock, hb, _⟩ := H.map
    obtain ⟨cells, hc⟩ := own_typed H.parts B e
    rw [hb] at hc
    injection hc with hc
    cases hc)
  have hoB : ov.ownBlock = none ∨ ov.ownBlock ≠ some B := .inr (fun e => by
    obtain ⟨es, clock, hb, _⟩ := H.map
    obtain ⟨cells, hc⟩ := own_typed H.out B e
    rw [hb] at hc
    injection hc with hc
    cases hc)
  subst hs
  refine ⟨⟨j, B, n, D.del (.string nm.data.toList), pv, ov, ?_⟩, hbel⟩
  exact ⟨H.hi, H.hl, H.hc, H.hm, (hg.block g H.glt (fun e => H.gB (by injection e with e; exact e.symm))).trans H.blk, H.src.below hbel H.low, H.low, hown, H.hn, H.wrel.del nm, H.parts.kept hg hpB, H.out.kept hg hoB, H.bg, H.bB⟩

section
variable (L0 : List S35) (b c0 base g : Nat) (w : World) (s : St) (t : S35)
set_option maxRecDepth 100000 in
set_option maxHeartbeats 1000000 in
theorem tick_undef (hG : Good L0) (h : PSx L0 b c0 base g w s) (hp : Plain t) (hk : keptF s = true) (hd : (t.f1 == sDefine) = false) (hu : (t.f1 == sUndef) = true) :
    Calls Try.prog 13 #[.pointer (some ⟨g, 0, none⟩), .agg #[.int .i64 t.f0, .string t.f1, .int .i64 t.f2]] w (Ends2 L0 b c0 base g w (tickF t s)) := by
  obtain ⟨i, B, n, D, pv, ov, H⟩ := h
  have hR : tickF t s = undefF t.f2 s := by simp [tickF, hp.a, hp.b, hp.c, hp.d, hk, hd, hu]
  have H1 := H.kept ((Below.refl w.heap.size w).alloc (Nat.le_refl _) (.cells #[.int .i64 t.f0, .string t.f1, .int .i64 t.f2] 35))
  have hb1 := (Below.refl base w).alloc H.base_le (.cells #[.int .i64 t.f0, .string t.f1, .int .i64 t.f2] 35)
  obtain ⟨x1, x2, x3, x4, x5, x6⟩ := tick_text t.f1
  rw [hp.a] at x1
  rw [hp.b] at x2
  rw [hp.c] at x3
  rw [hp.d] at x4
  rw [hd] at x5
  rw [hu] at x6
  have hX := kept_any L0 b c0 base g (w.alloc (.cells #[.int .i64 t.f0, .string t.f1, .int .i64 t.f2] 35)) s i B n D pv ov H1
  rw [hk] at hX
  have g1 := blk_cell H1.blk 1
  have hgl := H.glt
  have HX := Lib.hid hX
  have HR := Lib.hid hR
  have HH1 := Lib.hid H1
  have HB1 := Lib.hid hb1
  have HG := Lib.hid hG
  clear hR H1 hb1 hX hp hk hd hu hG
  cases hr : nameF t.f2 s with
  | error e2 =>
    have hE : tickF t s = .error e2 := by rw [HR.out, undefF, hr]
    have HE := Lib.hid hE
    have HN := Lib.hid hr
    clear hr hE H
    go_enter Try.func13, Try.ntmps13
    go_wp2_with fail
    have hX := HX.out
    with_reducible refine hX.mono ?_
    clear hX
    rintro e w' ⟨rfl, m, rfl⟩
    go_wp2_with fail
    refine wp_region_any (by kernel_rfl) ?_
    try (change wpAny _ _ _ _ _ _ _ (World.drew _))
    refine wpAny_take (i := 0) (v := ?_) rfl (by kernel_rfl) (by kernel_rfl) (by kernel_rfl) (fun _ _ _ h => h) (Or.inl ⟨by rfl, ?_⟩) ?_
    rotate_left 1
    · (intro w; go_simp; first | done | with_reducible rfl)
    refine wpAny_take (i := 1) (v := ?_) rfl (by kernel_rfl) (by kernel_rfl) (by kernel_rfl) (fun _ _ _ h => h) (Or.inl ⟨by rfl, ?_⟩) ?_
    rotate_left 1
    · (intro w; go_simp; first | done | with_reducible rfl)
    refine wpAny_take (i := 2) (v := ?_) rfl (by kernel_rfl) (by kernel_rfl) (by kernel_rfl) (fun _ _ _ h => h) (Or.inl ⟨by rfl, ?_⟩) ?_
    rotate_left 1
    · (intro w; go_simp; first | done | with_reducible rfl)
    refine wpAny_take (i := 4) (v := ?_) rfl (by kernel_rfl) (by kernel_rfl) (by kernel_rfl) (fun _ _ _ h => h) (Or.inl ⟨by rfl, ?_⟩) ?_
    rotate_left 1
    · (intro w; go_simp; first | done | with_reducible rfl)
    refine wpAny_take (i := 5) (v := ?_) rfl (by kernel_rfl) (by kernel_rfl) (by kernel_rfl) (fun _ _ _ h => h) (Or.inl ⟨by rfl, ?_⟩) ?_
    rotate_left 1
    · (intro w; go_simp; first | done | with_reducible rfl)
    refine wpAny_ready (rs := [3, 6]) (by kernel_rfl) (by simp) ?_
    refine AllReady.cons rfl (fun K hK => ?_) ?_
    · go_simp
      refine hK _ _ ?_
      clear hK K
      refine wpAny_ready (rs := [6]) (by kernel_rfl) (by simp) ?_
      refine AllReady.cons rfl (fun K hK => ?_) ?_
      · go_simp
        refine hK _ _ ?_
        clear hK K
        refine wpAny_ready (rs := [7]) (by kernel_rfl) (by simp) ?_
        refine AllReady.cons rfl (fun K hK => ?_) ?_
        · go_simp
          go_wp2_with (first | (go_at_call 25; refine (name_no L0 b c0 base g _ s t.f2 HG.out.len i B n D pv ov ?_ e2 HN.out).mono ?_; exact (HH1.out.drewN m).drew; rintro e w1 ⟨rfl, rfl⟩))
          exact ⟨rfl, Ends2.err HE.out (pw_below_drewN HB1.out (m + 1))⟩
        exact AllReady.nil
      exact AllReady.nil
    refine AllReady.cons rfl (fun K hK => ?_) ?_
    · go_simp
      refine hK _ _ ?_
      clear hK K
      refine wpAny_ready (rs := [3, 7]) (by kernel_rfl) (by simp) ?_
      refine AllReady.cons rfl (fun K hK => ?_) ?_
      · go_simp
        refine hK _ _ ?_
        clear hK K
        refine wpAny_ready (rs := [7]) (by kernel_rfl) (by simp) ?_
        refine AllReady.cons rfl (fun K hK => ?_) ?_
        · go_simp
          go_wp2_with (first | (go_at_call 25; refine (name_no L0 b c0 base g _ s t.f2 HG.out.len i B n D pv ov ?_ e2 HN.out).mono ?_; exact (HH1.out.drewN m).drew; rintro e w1 ⟨rfl, rfl⟩))
          exact ⟨rfl, Ends2.err HE.out (pw_below_drewN HB1.out (m + 1))⟩
        exact AllReady.nil
      refine AllReady.cons rfl (fun K hK => ?_) ?_
      · go_simp
        go_wp2_with (first | (go_at_call 25; refine (name_no L0 b c0 base g _ s t.f2 HG.out.len i B n D pv ov ?_ e2 HN.out).mono ?_; exact (HH1.out.drewN m).drew; rintro e w1 ⟨rfl, rfl⟩))
        exact ⟨rfl, Ends2.err HE.out (pw_below_drewN HB1.out (m + 1))⟩
      exact AllReady.nil
    exact AllReady.nil
  | ok p =>
    obtain ⟨nm, s1⟩ := p
    obtain ⟨hns, hs1⟩ := name_text HG.out H hr
    have hE : tickF t s = .ok { s1 with words := s1.words.filter (fun p => !(p.1 == nm)) } := by rw [HR.out, undefF, hr]
    have HE := Lib.hid hE
    have HN := Lib.hid hr
    clear hr hE H hs1
    go_enter Try.func13, Try.ntmps13
    go_wp2_with fail
    have hX := HX.out
    with_reducible refine hX.mono ?_
    clear hX
    rintro e w' ⟨rfl, m, rfl⟩
    have hmap := ((HH1.out.drewN (m + 1)).map.setCell (a := ⟨g, 0, none⟩) HH1.out.gB (.slice (some ⟨b, i * 3 + 3, none⟩) (L0.length - i - 1) (c0 - i - 1)))
    have hkey : keyOf Try.prog 9 (.string nm) = some (.string nm.data.toList) := WideMaps.keyOf_string_mk (P := Try.prog) Try.underlying9 hns
    obtain ⟨w2, hrun2, hown2, htur2⟩ := hmap.drop law9 Try.underlying43 hkey 0
    have hrun : ∀ ty, (Builtin.delete_ #[43, 9] ty #[.map (some B), .string nm]).run Try.prog (((w.alloc (Obj.cells #[Value.int IntKind.i64 t.f0, Value.string t.f1, Value.int IntKind.i64 t.f2] 35)).drewN (m + 1)).setCell ⟨g, 0, none⟩ (.slice (some ⟨b, i * 3 + 3, none⟩) (L0.length - i - 1) (c0 - i - 1))) = .ok (.tuple #[]) w2 := fun ty => hrun2
    have Hrun := Lib.hid hrun
    have Hown2 := Lib.hid hown2
    have Hg2 := Lib.hid htur2.grown
    clear hmap hkey hrun2 hown2 htur2 hrun
    go_wp2_with fail
    refine wp_region_any (by kernel_rfl) ?_
    try (change wpAny _ _ _ _ _ _ _ (World.drew _))
    refine wpAny_take (i := 0) (v := ?_) rfl (by kernel_rfl) (by kernel_rfl) (by kernel_rfl) (fun _ _ _ h => h) (Or.inl ⟨by rfl, ?_⟩) ?_
    rotate_left 1
    · (intro w; go_simp; first | done | with_reducible rfl)
    refine wpAny_take (i := 1) (v := ?_) rfl (by kernel_rfl) (by kernel_rfl) (by kernel_rfl) (fun _ _ _ h => h) (Or.inl ⟨by rfl, ?_⟩) ?_
    rotate_left 1
    · (intro w; go_simp; first | done | with_reducible rfl)
    refine wpAny_take (i := 2) (v := ?_) rfl (by kernel_rfl) (by kernel_rfl) (by kernel_rfl) (fun _ _ _ h => h) (Or.inl ⟨by rfl, ?_⟩) ?_
    rotate_left 1
    · (intro w; go_simp; first | done | with_reducible rfl)
    refine wpAny_take (i := 4) (v := ?_) rfl (by kernel_rfl) (by kernel_rfl) (by kernel_rfl) (fun _ _ _ h => h) (Or.inl ⟨by rfl, ?_⟩) ?_
    rotate_left 1
    · (intro w; go_simp; first | done | with_reducible rfl)
    refine wpAny_take (i := 5) (v := ?_) rfl (by kernel_rfl) (by kernel_rfl) (by kernel_rfl) (fun _ _ _ h => h) (Or.inl ⟨by rfl, ?_⟩) ?_
    rotate_left 1
    · (intro w; go_simp; first | done | with_reducible rfl)
    refine wpAny_ready (rs := [3, 6]) (by kernel_rfl) (by simp) ?_
    refine AllReady.cons rfl (fun K hK => ?_) ?_
    · go_simp
      try (refine hK _ _ ?_)
      try clear hK K
      refine wpAny_ready (rs := [6]) (by kernel_rfl) (by simp) ?_
      refine AllReady.cons rfl (fun K hK => ?_) ?_
      · go_simp
        try (refine hK _ _ ?_)
        try clear hK K
        refine wpAny_ready (rs := [7]) (by kernel_rfl) (by simp) ?_
        refine AllReady.cons rfl (fun K hK => ?_) ?_
        · go_simp
          go_wp2_with (first | (go_at_call 25; refine (name_ok L0 b c0 base g _ s t.f2 HG.out.len HG.out.ends i B n D pv ov ?_ nm s1 HN.out).mono ?_; exact (HH1.out.drewN m).drew; rintro e w1 ⟨rfl, hps, rfl⟩; have Hps := Lib.hid hps; clear hps))
          try (refine hK _ _ ?_)
          try clear hK K
          refine wpAny_ready (rs := [8]) (by kernel_rfl) (by simp) ?_
          refine AllReady.cons rfl (fun K hK => ?_) ?_
          · refine step_delete_mine rfl (.tmp 67) (.tmp 71) 43 9 rfl B (.string nm) (by simp [Act.eval, Act.put]) (by simp [Act.eval, Act.put]) Hrun.out ?_
            try (refine hK _ _ ?_)
            try clear hK K
            refine wpAny_done (by kernel_rfl) ?_ _
            go_end0
            obtain ⟨k1, k2⟩ := Hps.out.undefd nm Hown2.out Hg2.out rfl
            exact Ends2.fine HE.out k1 (((pw_below_drewN HB1.out (m + 1)).setCell (p := ⟨g, 0, none⟩) HH1.out.bg _).trans k2)
          exact AllReady.nil
        exact AllReady.nil
      exact AllReady.nil
    refine AllReady.cons rfl (fun K hK => ?_) ?_
    · go_simp
      try (refine hK _ _ ?_)
      try clear hK K
      refine wpAny_ready (rs := [3, 7]) (by kernel_rfl) (by simp) ?_
      refine AllReady.cons rfl (fun K hK => ?_) ?_
      · go_simp
        try (refine hK _ _ ?_)
        try clear hK K
        refine wpAny_ready (rs := [7]) (by kernel_rfl) (by simp) ?_
        refine AllReady.cons rfl (fun K hK => ?_) ?_
        · go_simp
          go_wp2_with (first | (go_at_call 25; refine (name_ok L0 b c0 base g _ s t.f2 HG.out.len HG.out.ends i B n D pv ov ?_ nm s1 HN.out).mono ?_; exact (HH1.out.drewN m).drew; rintro e w1 ⟨rfl, hps, rfl⟩; have Hps := Lib.hid hps; clear hps))
          try (refine hK _ _ ?_)
          try clear hK K
          refine wpAny_ready (rs := [8]) (by kernel_rfl) (by simp) ?_
          refine AllReady.cons rfl (fun K hK => ?_) ?_
          · refine step_delete_mine rfl (.tmp 67) (.tmp 71) 43 9 rfl B (.string nm) (by simp [Act.eval, Act.put]) (by simp [Act.eval, Act.put]) Hrun.out ?_
            try (refine hK _ _ ?_)
            try clear hK K
            refine wpAny_done (by kernel_rfl) ?_ _
            go_end0
            obtain ⟨k1, k2⟩ := Hps.out.undefd nm Hown2.out Hg2.out rfl
            exact Ends2.fine HE.out k1 (((pw_below_drewN HB1.out (m + 1)).setCell (p := ⟨g, 0, none⟩) HH1.out.bg _).trans k2)
          exact AllReady.nil
        exact AllReady.nil
      refine AllReady.cons rfl (fun K hK => ?_) ?_
      · go_simp
        go_wp2_with (first | (go_at_call 25; refine (name_ok L0 b c0 base g _ s t.f2 HG.out.len HG.out.ends i B n D pv ov ?_ nm s1 HN.out).mono ?_; exact (HH1.out.drewN m).drew; rintro e w1 ⟨rfl, hps, rfl⟩; have Hps := Lib.hid hps; clear hps))
        try (refine hK _ _ ?_)
        try clear hK K
        refine wpAny_ready (rs := [3]) (by kernel_rfl) (by simp) ?_
        refine AllReady.cons rfl (fun K hK => ?_) ?_
        · go_simp
          try (refine hK _ _ ?_)
          try clear hK K
          refine wpAny_ready (rs := [8]) (by kernel_rfl) (by simp) ?_
          refine AllReady.cons rfl (fun K hK => ?_) ?_
          · refine step_delete_mine rfl (.tmp 67) (.tmp 71) 43 9 rfl B (.string nm) (by simp [Act.eval, Act.put]) (by simp [Act.eval, Act.put]) Hrun.out ?_
            try (refine hK _ _ ?_)
            try clear hK K
            refine wpAny_done (by kernel_rfl) ?_ _
            go_end0
            obtain ⟨k1, k2⟩ := Hps.out.undefd nm Hown2.out Hg2.out rfl
            exact Ends2.fine HE.out k1 (((pw_below_drewN HB1.out (m + 1)).setCell (p := ⟨g, 0, none⟩) HH1.out.bg _).trans k2)
          exact AllReady.nil
        exact AllReady.nil
      exact AllReady.nil
    exact AllReady.nil
end
end Go.Proofs.Ytimcmhfcmnooeaa
