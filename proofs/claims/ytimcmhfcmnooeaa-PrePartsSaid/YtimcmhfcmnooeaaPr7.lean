/- begins, where no name follows; the contract of define. -/
import Derived.Test.YtimcmhfcmnooeaaPr6
namespace Go.Proofs.Ytimcmhfcmnooeaa
set_option linter.unusedVariables false
set_option linter.unusedSimpArgs false
open Go.RowKit Go.Maps Go.Proofs.YtimcmhfcmnooeaaW.PrintWords Go.Proofs.YtimcmhfcmnooeaaW.PrintLast Go.Proofs.YtimcmhfcmnooeaaW.PrintMore

set_option maxRecDepth 100000 in
set_option maxHeartbeats 1000000 in
theorem begins_no (L0 : List S35) (b c0 base g : Nat) (w : World) (s : St) (t : S35) (there : Bool) (hG : Good L0) (i B n : Nat) (D : DataW Value) (pv ov : Value) (H : PS L0 b c0 base g w s i B n D pv ov) (e2 : Int × Int) (hm : beginsF t there s = .error e2) :
    Calls Try.prog 21 #[.pointer (some ⟨g, 0, none⟩), .agg #[.int .i64 t.f0, .string t.f1, .int .i64 t.f2], .bool there] w fun e w' => e = pan e2.1 e2.2 ∧ Below base w w' := by
  unfold beginsF at hm
  split at hm
  · rename_i e3 hnm
    injection hm with hm
    subst hm
    have H1 := H.kept ((Below.refl w.heap.size w).alloc (Nat.le_refl _) (.cells #[.int .i64 t.f0, .string t.f1, .int .i64 t.f2] 35))
    have HG := Lib.hid hG
    have HH1 := Lib.hid H1
    have HN := Lib.hid hnm
    have HH := Lib.hid H
    clear hnm hG H H1
    go_enter Try.func21, Try.ntmps21
    go_wp2_with fail
    with_reducible refine (kept_any L0 b c0 base g _ s i B n D pv ov HH1.out).mono ?_
    rintro e w' ⟨rfl, m, rfl⟩
    go_wp2
    have g1 := blk_cell HH1.out.blk 1
    have hgl := HH.out.glt
    generalize hkk : keptF s = kk at *
    refine wp_region_any (by kernel_rfl) ?_
    try (change wpAny _ _ _ _ _ _ _ (World.drew _))
    refine wpAny_take (i := 0) (v := ?_) rfl (by kernel_rfl) (by kernel_rfl) (by kernel_rfl) (fun _ _ _ h => h) (Or.inl ⟨by rfl, ?_⟩) ?_
    rotate_left 1
    · (intro w; go_simp; first | done | with_reducible rfl)
    refine wpAny_take (i := 1) (v := ?_) rfl (by kernel_rfl) (by kernel_rfl) (by kernel_rfl) (fun _ _ _ h => h) (Or.inl ⟨by rfl, ?_⟩) ?_
    rotate_left 1
    · (intro w; go_simp; first | done | with_reducible rfl)
    refine wpAny_take (i := 2) (v := ?_) rfl (by kernel_rfl) (by kernel_rfl) (by kernel_rfl) (fun _ _ _ h => h) (Or.inl ⟨by rfl, ?_⟩) ?_
    rotate_left 1
    · (intro w; go_simp; first | done | with_reducible rfl)
    refine wpAny_take (i := 4) (v := ?_) rfl (by kernel_rfl) (by kernel_rfl) (by kernel_rfl) (fun _ _ _ h => h) (Or.inl ⟨by rfl, ?_⟩) ?_
    rotate_left 1
    · (intro w; go_simp; first | done | with_reducible rfl)
    refine wpAny_take (i := 5) (v := ?_) rfl (by kernel_rfl) (by kernel_rfl) (by kernel_rfl) (fun _ _ _ h => h) (Or.inl ⟨by rfl, ?_⟩) ?_
    rotate_left 1
    · (intro w; go_simp; first | done | with_reducible rfl)
    refine wpAny_ready (rs := [3, 6]) (by kernel_rfl) (by simp) ?_
    refine AllReady.cons rfl (fun K hK => ?_) ?_
    · go_simp
      refine hK _ _ ?_
      clear hK K
      refine wpAny_ready (rs := [6]) (by kernel_rfl) (by simp) ?_
      refine AllReady.cons rfl (fun K hK => ?_) ?_
      · go_simp
        refine hK _ _ ?_
        clear hK K
        refine wpAny_ready (rs := [7]) (by kernel_rfl) (by simp) ?_
        refine AllReady.cons rfl (fun K hK => ?_) ?_
        · go_simp
          go_wp2_with (first | (go_at_call 25; refine (name_no L0 b c0 base g _ s t.f2 HG.out.len i B n D pv ov ?_ e3 HN.out).mono ?_; exact (HH1.out.drewN m).drew; rintro e w1 ⟨rfl, rfl⟩))
          exact ⟨rfl, rfl, pw_below_drewN ((Below.refl base w).alloc HH.out.base_le _) (m + 1)⟩
        exact AllReady.nil
      exact AllReady.nil
    refine AllReady.cons rfl (fun K hK => ?_) ?_
    · go_simp
      refine hK _ _ ?_
      clear hK K
      refine wpAny_ready (rs := [3, 7]) (by kernel_rfl) (by simp) ?_
      refine AllReady.cons rfl (fun K hK => ?_) ?_
      · go_simp
        refine hK _ _ ?_
        clear hK K
        refine wpAny_ready (rs := [7]) (by kernel_rfl) (by simp) ?_
        refine AllReady.cons rfl (fun K hK => ?_) ?_
        · go_simp
          go_wp2_with (first | (go_at_call 25; refine (name_no L0 b c0 base g _ s t.f2 HG.out.len i B n D pv ov ?_ e3 HN.out).mono ?_; exact (HH1.out.drewN m).drew; rintro e w1 ⟨rfl, rfl⟩))
          exact ⟨rfl, rfl, pw_below_drewN ((Below.refl base w).alloc HH.out.base_le _) (m + 1)⟩
        exact AllReady.nil
      refine AllReady.cons rfl (fun K hK => ?_) ?_
      · go_simp
        go_wp2_with (first | (go_at_call 25; refine (name_no L0 b c0 base g _ s t.f2 HG.out.len i B n D pv ov ?_ e3 HN.out).mono ?_; exact (HH1.out.drewN m).drew; rintro e w1 ⟨rfl, rfl⟩))
        exact ⟨rfl, rfl, pw_below_drewN ((Below.refl base w).alloc HH.out.base_le _) (m + 1)⟩
      exact AllReady.nil
    exact AllReady.nil
  · cases hm
end Go.Proofs.Ytimcmhfcmnooeaa
