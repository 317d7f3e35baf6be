/- The contract of begins (an ifdef). -/
import Derived.Test.YtimcmhfcmnooeaaPrA
import Derived.Deep.DeepCutAuto
namespace Go.Proofs.Ytimcmhfcmnooeaa
set_option linter.unusedVariables false
set_option linter.unusedSimpArgs false
open Go.RowKit Go.Maps Go.Proofs.YtimcmhfcmnooeaaW.PrintWords Go.Proofs.YtimcmhfcmnooeaaW.PrintLast Go.Proofs.YtimcmhfcmnooeaaW.PrintMore

theorem law9 : Keyed Try.prog 9 := string_keyed Try.underlying9
theorem zero22 (w : World) : (zeroValue 22).run Try.prog w = .ok (.slice none 0 0) w := by kernel_rfl

theorem look_run {L0 : List S35} {b c0 base g : Nat} {w : World} {s : St} {i B n : Nat} {D : DataW Value} {pv ov : Value} (H : PS L0 b c0 base g w s i B n D pv ov) (nm : ByteArray) (hs : nm.size ≤ maxLen) :
    ∃ v, (∀ w2 : World, w2.heap[B]? = w.heap[B]? → (Instr.lookup 43 (.map (some B)) (.string nm) true).run Try.prog w2 = .ok (.tuple #[v, .bool (lookW s.words nm).isSome]) w2) ∧
      (∀ body, lookW s.words nm = some body → ∃ j k, j + k < L0.length ∧ body = (L0.drop j).take k ∧ v = .slice (some ⟨b, j * 3, none⟩) k k) := by
  have hkey : keyOf Try.prog 9 (.string nm) = some (.string nm.data.toList) := WideMaps.keyOf_string_mk (P := Try.prog) Try.underlying9 hs
  have hw := H.wrel nm
  obtain ⟨v, ps, hrun, hv⟩ := H.map.look_ok law9 Try.underlying43 (zero22 w) (zd := .held (.slice none 0 0)) (zp := []) rfl hkey
  have hh : Maps.has D (.string nm.data.toList) = (lookW s.words nm).isSome := by
    cases hb : lookW s.words nm with
    | none => rw [hb] at hw; simpa using hw
    | some body => rw [hb] at hw; simpa using hw.1
  refine ⟨v, fun w2 h2 => ?_, fun body hb => ?_⟩
  · obtain ⟨es, clock, e1, F, hs2, e2⟩ := H.map
    have H2 : w2.ownsMap Try.prog 9 RV B n D := ⟨es, clock, h2.trans e1, F, hs2, e2⟩
    obtain ⟨v2, ps2, hrun2, hv2⟩ := H2.look_ok law9 Try.underlying43 (zero22 w2) (zd := .held (.slice none 0 0)) (zp := []) rfl hkey
    have : v2 = v := by
      simp [RV] at hv hv2
      have := hv.1.trans hv2.1.symm
      injection this with this
      exact this.symm
    rw [hrun2, this, hh]
  · rw [hb] at hw
    obtain ⟨_, j, k, h1, h2, h3⟩ := hw
    rw [h3] at hv
    simp [RV] at hv
    exact ⟨j, k, h1, h2, hv.1⟩

/-- The tokens that a run is over: not too many, none too long, an end at the end alone. -/
structure Good (L0 : List S35) : Prop where
  len : L0.length ≤ 20000
  ends : Ends L0
  texts : ∀ (i : Nat) (x : S35), L0[i]? = some x → x.f1.size ≤ 65536

theorem name_text {L0 : List S35} (hG : Good L0) {b c0 base g : Nat} {w : World} {s : St} {i B n : Nat} {D : DataW Value} {pv ov : Value} (H : PS L0 b c0 base g w s i B n D pv ov) {a : Int} {nm : ByteArray} {s1 : St} (hm : nameF a s = .ok (nm, s1)) :
    nm.size ≤ maxLen ∧ s1 = { s with l := s.l.tail } := by
  obtain ⟨x, hx, hd⟩ := drop_head H.hi
  have hl := H.hl
  rw [hd] at hl
  simp only [nameF, hl] at hm
  split at hm
  · injection hm with hm
    injection hm with e1 e2
    subst e1
    have := hG.texts i x hx
    exact ⟨by unfold maxLen; omega, by rw [← e2, hl]; rfl⟩
  · cases hm

theorem info50 : (Try.prog.info? 50).map (fun i => (i.zero, i.size, i.bytes)) = some (some (.agg #[(.int .i64 0), (.bool false), (.bool false), (.bool false)]), 4, 16) := by kernel_rfl

theorem pflat_snoc' (L : List Part) (p : Part) : pflat (L ++ [p]) = pflat L ++ p.cl := by simp [pflat]

section
variable {L0 : List S35} {b c0 base g : Nat} {w w1 : World} {s : St} {i B n : Nat} {D : DataW Value} {pv pv' ov : Value}
/-- The parts' row has been written, and its place laid anew. -/
theorem PS.parted (H : PS L0 b c0 base g w s i B n D pv ov) {p : Part} (hg : w.grownBy w1 pv.ownBlock) (ho : w1.ownsRow base 50 4 pv' (s.parts.length + 1) (pflat s.parts ++ p.cl))
    (hat : pv'.ownBlock = pv.ownBlock ∨ ∃ k, pv'.ownBlock = some k ∧ w.heap.size ≤ k) : PS L0 b c0 base g (w1.setCell ⟨g, 2, none⟩ pv') { s with parts := s.parts ++ [p] } i B n D pv' ov ∧ Below base w (w1.setCell ⟨g, 2, none⟩ pv') := by
  have hgl := H.glt
  have hne : some g ≠ pv.ownBlock := own_ne_blk H.parts H.blk (by decide)
  have hgk : w1.heap[g]? = some (.cells #[.slice (some ⟨b, i * 3, none⟩) (L0.length - i) (c0 - i), .map (some B), pv, ov, .int .i64 s.fuel] 46 (0, 0)) := (hg.block g hgl hne).trans H.blk
  have hbel : Below base w w1 := (Below.refl base w).grown hg H.base_le (fun k hk => own_base H.parts k hk)
  have hBne : some B ≠ pv.ownBlock := by
    intro e
    obtain ⟨es, clock, hb, _⟩ := H.map
    obtain ⟨cells, hc⟩ := own_typed H.parts B e.symm
    rw [hb] at hc
    injection hc with hc
    cases hc
  have hpne : ov.ownBlock = none ∨ ov.ownBlock ≠ pv.ownBlock := own_type_ne H.out H.parts (by decide)
  refine ⟨⟨H.hi, H.hl, H.hc, H.hm, ?_, ?_, H.low, ?_, H.hn, H.wrel, ?_, ?_, H.bg, H.bB⟩, hbel.setCell (p := ⟨g, 2, none⟩) H.bg _⟩
  · rw [blk_set hgk 2]; rfl
  · exact H.src.below (hbel.setCell (p := ⟨g, 2, none⟩) H.bg pv') H.low
  · exact (H.map.kept hg hBne).setCell H.gB _
  · have e1 : (s.parts ++ [p]).length = s.parts.length + 1 := by simp
    show World.ownsRow _ _ _ _ _ (s.parts ++ [p]).length (pflat (s.parts ++ [p]))
    rw [e1, pflat_snoc']
    exact own_setCell' ho (own_ne_blk ho hgk (by decide)) _
  · exact own_setCell' (H.out.kept hg hpne) (own_ne_blk (H.out.kept hg hpne) hgk (by decide)) _
end

/-- how many parts there are: no more than tokens -/
def Few (s : St) : Prop := s.parts.length ≤ 20000

set_option maxRecDepth 100000 in
set_option maxHeartbeats 1000000 in
theorem begins_ok (L0 : List S35) (b c0 base g : Nat) (w : World) (s : St) (t : S35) (there : Bool) (hG : Good L0) (i B n : Nat) (D : DataW Value) (pv ov : Value) (H : PS L0 b c0 base g w s i B n D pv ov) (hfew : s.parts.length ≤ 1000000) (s2 : St) (hm : beginsF t there s = .ok s2) :
    Calls Try.prog 21 #[.pointer (some ⟨g, 0, none⟩), .agg #[.int .i64 t.f0, .string t.f1, .int .i64 t.f2], .bool there] w fun e w' => e = .returned (.tuple #[]) ∧ PSx L0 b c0 base g w' s2 ∧ Below base w w' := by
  unfold beginsF at hm
  split at hm
  · cases hm
  · rename_i nm s1 hnm
    injection hm with hm
    obtain ⟨hns, hs1⟩ := name_text hG H hnm
    obtain ⟨v, hlook, hval⟩ := look_run H nm hns
    have hw1 : s1.words = s.words := by rw [hs1]
    rw [hw1] at hm
    generalize hp : (lookW s.words nm).isSome = pres at hm hlook
    have H1 := H.kept ((Below.refl w.heap.size w).alloc (Nat.le_refl _) (.cells #[.int .i64 t.f0, .string t.f1, .int .i64 t.f2] 35))
    have HG := Lib.hid hG
    have HM := Lib.hid hm
    have HH1 := Lib.hid H1
    have HN := Lib.hid hnm
    have HH := Lib.hid H
    have HLk := Lib.hid hlook
    clear hm hnm hval hp hs1 hw1 hlook hG H H1
    go_enter Try.func21, Try.ntmps21
    go_wp2_with fail
    with_reducible refine (kept_any L0 b c0 base g _ s i B n D pv ov HH1.out).mono ?_
    rintro e w' ⟨rfl, m, rfl⟩
    go_wp2
    have g1 := blk_cell HH1.out.blk 1
    have hgl := HH.out.glt
    have hgB : B ≠ g := HH.out.gB
    have hlk := HLk.out (((w.alloc (Obj.cells #[Value.int IntKind.i64 t.f0, Value.string t.f1, Value.int IntKind.i64 t.f2] 35)).drewN (m + 1)).setCell ⟨g, 0, none⟩ (.slice (some ⟨b, i * 3 + 3, none⟩) (L0.length - i - 1) (c0 - i - 1)))
      (by rw [Below.heap_setCell _ _ _ _ hgB]; exact Below.heap_alloc _ _ _ HH.out.map.lt)
    clear hgB
    generalize hkk : keptF s = kk at *
    have Hkk := Lib.hid hkk
    clear hkk
    have Hlk := Lib.hid hlk
    have Hg1 := Lib.hid g1
    clear hlk g1
    go_upto_region 2 with fail
    go_cut [8] (fun s8 wx => s8 = .bool pres ∧ PS L0 b c0 base g wx s1 (i + 1) B n D pv ov ∧ wx.cell? ⟨w.heap.size, 2, none⟩ = some (.int .i64 t.f2) ∧ Below base w wx)
    case first =>
      have hlk := Hlk.out
      have g1 := Hg1.out
      go_region_with (first | (go_at_call 25; refine (name_ok L0 b c0 base g _ s t.f2 HG.out.len HG.out.ends i B n D pv ov ?_ nm s1 HN.out).mono ?_; exact (HH1.out.drewN m).drew; rintro e w1 ⟨rfl, hps, rfl⟩; have Hps := Lib.hid hps; clear hps))
      all_goals
        have hW := Hps.out
        have hx2 : (((w.alloc (Obj.cells #[Value.int IntKind.i64 t.f0, Value.string t.f1, Value.int IntKind.i64 t.f2] 35)).drewN (m + 1)).setCell ⟨g, 0, none⟩ (.slice (some ⟨b, i * 3 + 3, none⟩) (L0.length - i - 1) (c0 - i - 1))).cell? ⟨w.heap.size, 2, none⟩ = some (.int .i64 t.f2) := by simp [go_sem]
        have hbel : Below base w (((w.alloc (Obj.cells #[Value.int IntKind.i64 t.f0, Value.string t.f1, Value.int IntKind.i64 t.f2] 35)).drewN (m + 1)).setCell ⟨g, 0, none⟩ (.slice (some ⟨b, i * 3 + 3, none⟩) (L0.length - i - 1) (c0 - i - 1))) :=
          (pw_below_drewN ((Below.refl base w).alloc HH.out.base_le _) (m + 1)).setCell (p := ⟨g, 0, none⟩) HH.out.bg _
        clear hlk Hps
        have HW := Lib.hid hW
        have Hx2 := Lib.hid hx2
        have HBel := Lib.hid hbel
        clear hW hx2 hbel
        go_wp2_with fail
        go_meet
        case rel => exact ⟨rfl, HW.out, Hx2.out, HBel.out⟩
    case rest =>
      obtain ⟨rfl, hW, hx2, hbel⟩ := hcut
      have HW := Lib.hid hW
      have HBel := Lib.hid hbel
      clear hW hbel
      obtain ⟨A, c, hsl⟩ := own_slice HW.out.parts
      subst hsl
      have hpl : s1.parts.length ≤ 1000000 := by
        have := (name_text HG.out HH.out HN.out).2
        rw [this]
        exact hfew
      have c2 := blk_cell HW.out.blk 2
      have c2' : ∀ o, (wc.alloc o).cell? ⟨g, 2, none⟩ = some (.slice A s1.parts.length c) := fun o => (World.cell?_alloc_lt wc o _ HW.out.glt).trans c2
      cases kk
      · have hn1 : ∀ (j : Nat) (u : Value), ([.int .i64 t.f2, .bool false, .bool false, .bool false] : List Value)[j]? = some u → (wc.alloc (.cells #[.int .i64 t.f2, .bool false, .bool false, .bool false] 50)).drew.cell? ((⟨wc.heap.size, 0, none⟩ : Addr).add j) = some u := by
          intro j u hu
          have hz := World.news_of_block (w := (wc.alloc (.cells #[.int .i64 t.f2, .bool false, .bool false, .bool false] 50)).drew) (cs := #[.int .i64 t.f2, .bool false, .bool false, .bool false]) (t := 50) (fr := (0, 0)) (heap_alloc_new wc _)
          exact hz j u hu
        have H2 := (HW.out.kept ((Below.refl _ _).alloc (Nat.le_refl _) (.cells #[.int .i64 t.f2, .bool false, .bool false, .bool false] 50))).drew
        have hgk : ∀ w1 : World, (wc.alloc (.cells #[.int .i64 t.f2, .bool false, .bool false, .bool false] 50)).drew.grownBy w1 (Value.slice A s1.parts.length c).ownBlock → w1.heap[g]? = some (.cells #[.slice (some ⟨b, (i + 1) * 3, none⟩) (L0.length - (i + 1)) (c0 - (i + 1)), .map (some B), .slice A s1.parts.length c, ov, .int .i64 s1.fuel] 46 (0, 0)) := by
          intro w1 hg
          exact (hg.block g H2.glt (own_ne_blk H2.parts H2.blk (by decide))).trans H2.blk
        have HH2 := Lib.hid H2
        have Hgk := Lib.hid hgk
        have Hn1 := Lib.hid hn1
        clear H2 hgk hn1
        have hown := HH2.out.parts
        have Hown := Lib.hid hown
        clear hown
        generalize hmm : s1.parts.length = mm at c2' c2 hpl
        have Hmm := Lib.hid hmm
        clear hmm
        have Hkp : Hid ((false && (pres == there)) = false) := Lib.hid (by simp)
        go_wp2
        refine wp_region_any (by kernel_rfl) ?_
        try (change wpAny _ _ _ _ _ _ _ (World.drew _))
        refine wpAny_take (i := 0) (v := ?_) rfl (by kernel_rfl) (by kernel_rfl) (by kernel_rfl) (fun _ _ _ h => h) (Or.inl ⟨by rfl, ?_⟩) ?_
        rotate_left 1
        · (intro w; go_simp; first | done | with_reducible rfl)
        refine wpAny_take (i := 1) (v := ?_) rfl (by kernel_rfl) (by kernel_rfl) (by kernel_rfl) (fun _ _ _ h => h) (Or.inl ⟨by rfl, ?_⟩) ?_
        rotate_left 1
        · (intro w; go_simp; first | done | with_reducible rfl)
        refine wpAny_take (i := 2) (v := ?_) rfl (by kernel_rfl) (by kernel_rfl) (by kernel_rfl) (fun _ _ _ h => h) (Or.inl ⟨by rfl, ?_⟩) ?_
        rotate_left 1
        · (intro w; go_simp; first | done | with_reducible rfl)
        refine wpAny_take (i := 3) (v := ?_) rfl (by kernel_rfl) (by kernel_rfl) (by kernel_rfl) (fun _ _ _ h => h) (Or.inl ⟨by rfl, ?_⟩) ?_
        rotate_left 1
        · (intro w; go_simp; first | done | with_reducible rfl)
        refine wpAny_take (i := 5) (v := ?_) rfl (by kernel_rfl) (by kernel_rfl) (by kernel_rfl) (fun _ _ _ h => h) (Or.inl ⟨by rfl, ?_⟩) ?_
        rotate_left 1
        · (intro w; go_simp; first | done | with_reducible rfl)
        refine wpAny_take (i := 7) (v := ?_) rfl (by kernel_rfl) (by kernel_rfl) (by kernel_rfl) (fun _ _ _ h => h) (Or.inl ⟨by rfl, ?_⟩) ?_
        rotate_left 1
        · (intro w; go_simp; first | done | with_reducible rfl)
        refine wpAny_take (i := 8) (v := ?_) rfl (by kernel_rfl) (by kernel_rfl) (by kernel_rfl) (fun _ _ _ h => h) (Or.inl ⟨by rfl, ?_⟩) ?_
        rotate_left 1
        · (intro w; go_simp; first | done | with_reducible rfl)
        simp only [Act.put, List.setIfInBounds_toArray, List.set_cons_succ, List.set_cons_zero, List.getElem_toArray, List.getElem_cons_succ, List.getElem_cons_zero]
        refine wpAny_take (i := 9) (v := undef) rfl (by kernel_rfl) (by kernel_rfl) (by kernel_rfl) (fun _ _ _ h => h) (Or.inr ⟨by rfl, rfl⟩) ?_
        simp only [Act.put, List.setIfInBounds_toArray, List.set_cons_succ, List.set_cons_zero, List.getElem_toArray, List.getElem_cons_succ, List.getElem_cons_zero]
        refine wpAny_take (i := 10) (v := undef) rfl (by kernel_rfl) (by kernel_rfl) (by kernel_rfl) (fun _ _ _ h => h) (Or.inr ⟨by rfl, rfl⟩) ?_
        simp only [Act.put, List.setIfInBounds_toArray, List.set_cons_succ, List.set_cons_zero, List.getElem_toArray, List.getElem_cons_succ, List.getElem_cons_zero]
        refine wpAny_take (i := 11) (v := undef) rfl (by kernel_rfl) (by kernel_rfl) (by kernel_rfl) (fun _ _ _ h => h) (Or.inr ⟨by rfl, rfl⟩) ?_
        simp only [Act.put, List.setIfInBounds_toArray, List.set_cons_succ, List.set_cons_zero, List.getElem_toArray, List.getElem_cons_succ, List.getElem_cons_zero]
        refine wpAny_take (i := 12) (v := ?_) rfl (by kernel_rfl) (by kernel_rfl) (by kernel_rfl) (fun _ _ _ h => h) (Or.inl ⟨by rfl, ?_⟩) ?_
        rotate_left 1
        · (intro w; go_simp; first | done | with_reducible rfl)
        refine wpAny_take (i := 13) (v := ?_) rfl (by kernel_rfl) (by kernel_rfl) (by kernel_rfl) (fun _ _ _ h => h) (Or.inl ⟨by rfl, ?_⟩) ?_
        rotate_left 1
        · (intro w; go_simp; first | done | with_reducible rfl)
        refine wpAny_ready (rs := [4, 6]) (by kernel_rfl) (by simp) ?_
        refine AllReady.cons rfl (fun K hK => ?_) ?_
        · go_simp
          refine hK _ _ ?_
          clear hK K
          refine wpAny_ready (rs := [6]) (by kernel_rfl) (by simp) ?_
          refine AllReady.cons rfl (fun K hK => ?_) ?_
          · go_simp
            refine hK _ _ ?_
            clear hK K
            refine wpAny_take (i := 14) (v := ?_) rfl (by kernel_rfl) (by kernel_rfl) (by kernel_rfl) (fun _ _ _ h => h) (Or.inl ⟨by rfl, ?_⟩) ?_
            rotate_left 1
            · (intro w; go_simp; first | done | with_reducible rfl)
            refine wpAny_ready (rs := [15]) (by kernel_rfl) (by simp) ?_
            refine AllReady.cons rfl (fun K hK => ?_) ?_
            · go_simp
              refine hK _ _ ?_
              clear hK K
              refine wpAny_ready (rs := [16]) (by kernel_rfl) (by simp) ?_
              refine AllReady.cons rfl (fun K hK => ?_) ?_
              · refine step_append_mine rfl (.tmp 27) (.tmp 38) 44 rfl base 50 _ 4 16 Try.underlying44 info50 rfl (by decide) (.slice A mm c) mm (pflat s1.parts) (by simp [Act.eval, Act.put]) (by have := Hown.out; rw [Hmm.out] at this; exact this) ⟨wc.heap.size, 0, none⟩ 1 1 [.int .i64 t.f2, .bool false, .bool false, .bool false] (by simp [Act.eval, Act.put]) rfl (by exact Hn1.out) (by simp [Value.oneCell']) (by unfold maxLen; omega) (by omega) (by exact HH2.out.base_le) ?_
                (intro sv1 w1 hown1 hg1 hat1; obtain ⟨b1, c1, hv1, _, _⟩ := hown1.form (by omega); subst hv1; have hgb := Hgk.out w1 (by rw [Hmm.out]; exact hg1); have hcell := blk_cell hgb 2; have hfro := blk_frozen hgb 2; have Hgb := Lib.hid hgb; have Hown1 := Lib.hid hown1; have Hg1 := Lib.hid hg1; have Hat1 := Lib.hid hat1; clear hgb hown1 hg1 hat1)
                try go_simp
                refine hK _ _ ?_
                clear hK K
                refine wpAny_take (i := 17) (v := ?_) rfl (by kernel_rfl) (by kernel_rfl) (by kernel_rfl) (fun _ _ _ h => h) (Or.inl ⟨by rfl, ?_⟩) ?_
                rotate_left 1
                · (intro w; go_simp; first | done | with_reducible rfl)
                refine wpAny_take (i := 18) (v := ?_) rfl (by kernel_rfl) (by kernel_rfl) (by kernel_rfl) (fun _ _ _ h => h) (Or.inl ⟨by rfl, ?_⟩) ?_
                rotate_left 1
                · (intro w; go_simp; first | done | with_reducible rfl)
                refine wpAny_ready (rs := [19]) (by kernel_rfl) (by simp) ?_
                refine AllReady.cons rfl (fun K hK => ?_) ?_
                · go_simp
                  refine hK _ _ ?_
                  clear hK K
                  refine wpAny_done (by kernel_rfl) ?_ _
                  go_end0
                  have e := Hmm.out
                  subst e
                  obtain ⟨k1, k2⟩ := HH2.out.parted (p := ⟨t.f2, false, false, false⟩) Hg1.out Hown1.out (by
                    rcases Hat1.out with h | h
                    · exact .inl h
                    · exact .inr ⟨_, h, Nat.le_refl _⟩)
                  have hM := HM.out
                  rw [Hkp.out] at hM
                  have hs1 := (name_text HG.out HH.out HN.out).2
                  have ew : s1.words = s.words := by rw [hs1]
                  rw [← ew] at hM
                  rw [← hM]
                  exact ⟨rfl, ⟨_, _, _, _, _, _, k1⟩, Below.trans (below_drew (HBel.out.alloc HW.out.base_le _)) k2⟩
                exact AllReady.nil
              exact AllReady.nil
            exact AllReady.nil
          exact AllReady.nil
        refine AllReady.cons rfl (fun K hK => ?_) ?_
        · go_simp
          refine hK _ _ ?_
          clear hK K
          refine wpAny_take (i := 14) (v := ?_) rfl (by kernel_rfl) (by kernel_rfl) (by kernel_rfl) (fun _ _ _ h => h) (Or.inl ⟨by rfl, ?_⟩) ?_
          rotate_left 1
          · (intro w; go_simp; first | done | with_reducible rfl)
          refine wpAny_ready (rs := [4, 15]) (by kernel_rfl) (by simp) ?_
          refine AllReady.cons rfl (fun K hK => ?_) ?_
          · go_simp
            refine hK _ _ ?_
            clear hK K
            refine wpAny_ready (rs := [15]) (by kernel_rfl) (by simp) ?_
            refine AllReady.cons rfl (fun K hK => ?_) ?_
            · go_simp
              refine hK _ _ ?_
              clear hK K
              refine wpAny_ready (rs := [16]) (by kernel_rfl) (by simp) ?_
              refine AllReady.cons rfl (fun K hK => ?_) ?_
              · refine step_append_mine rfl (.tmp 27) (.tmp 38) 44 rfl base 50 _ 4 16 Try.underlying44 info50 rfl (by decide) (.slice A mm c) mm (pflat s1.parts) (by simp [Act.eval, Act.put]) (by have := Hown.out; rw [Hmm.out] at this; exact this) ⟨wc.heap.size, 0, none⟩ 1 1 [.int .i64 t.f2, .bool false, .bool false, .bool false] (by simp [Act.eval, Act.put]) rfl (by exact Hn1.out) (by simp [Value.oneCell']) (by unfold maxLen; omega) (by omega) (by exact HH2.out.base_le) ?_
                (intro sv1 w1 hown1 hg1 hat1; obtain ⟨b1, c1, hv1, _, _⟩ := hown1.form (by omega); subst hv1; have hgb := Hgk.out w1 (by rw [Hmm.out]; exact hg1); have hcell := blk_cell hgb 2; have hfro := blk_frozen hgb 2; have Hgb := Lib.hid hgb; have Hown1 := Lib.hid hown1; have Hg1 := Lib.hid hg1; have Hat1 := Lib.hid hat1; clear hgb hown1 hg1 hat1)
                try go_simp
                refine hK _ _ ?_
                clear hK K
                refine wpAny_take (i := 17) (v := ?_) rfl (by kernel_rfl) (by kernel_rfl) (by kernel_rfl) (fun _ _ _ h => h) (Or.inl ⟨by rfl, ?_⟩) ?_
                rotate_left 1
                · (intro w; go_simp; first | done | with_reducible rfl)
                refine wpAny_take (i := 18) (v := ?_) rfl (by kernel_rfl) (by kernel_rfl) (by kernel_rfl) (fun _ _ _ h => h) (Or.inl ⟨by rfl, ?_⟩) ?_
                rotate_left 1
                · (intro w; go_simp; first | done | with_reducible rfl)
                refine wpAny_ready (rs := [19]) (by kernel_rfl) (by simp) ?_
                refine AllReady.cons rfl (fun K hK => ?_) ?_
                · go_simp
                  refine hK _ _ ?_
                  clear hK K
                  refine wpAny_done (by kernel_rfl) ?_ _
                  go_end0
                  have e := Hmm.out
                  subst e
                  obtain ⟨k1, k2⟩ := HH2.out.parted (p := ⟨t.f2, false, false, false⟩) Hg1.out Hown1.out (by
                    rcases Hat1.out with h | h
                    · exact .inl h
                    · exact .inr ⟨_, h, Nat.le_refl _⟩)
                  have hM := HM.out
                  rw [Hkp.out] at hM
                  have hs1 := (name_text HG.out HH.out HN.out).2
                  have ew : s1.words = s.words := by rw [hs1]
                  rw [← ew] at hM
                  rw [← hM]
                  exact ⟨rfl, ⟨_, _, _, _, _, _, k1⟩, Below.trans (below_drew (HBel.out.alloc HW.out.base_le _)) k2⟩
                exact AllReady.nil
              exact AllReady.nil
            exact AllReady.nil
          refine AllReady.cons rfl (fun K hK => ?_) ?_
          · go_simp
            refine hK _ _ ?_
            clear hK K
            refine wpAny_ready (rs := [4]) (by kernel_rfl) (by simp) ?_
            refine AllReady.cons rfl (fun K hK => ?_) ?_
            · go_simp
              refine hK _ _ ?_
              clear hK K
              refine wpAny_ready (rs := [16]) (by kernel_rfl) (by simp) ?_
              refine AllReady.cons rfl (fun K hK => ?_) ?_
              · refine step_append_mine rfl (.tmp 27) (.tmp 38) 44 rfl base 50 _ 4 16 Try.underlying44 info50 rfl (by decide) (.slice A mm c) mm (pflat s1.parts) (by simp [Act.eval, Act.put]) (by have := Hown.out; rw [Hmm.out] at this; exact this) ⟨wc.heap.size, 0, none⟩ 1 1 [.int .i64 t.f2, .bool false, .bool false, .bool false] (by simp [Act.eval, Act.put]) rfl (by exact Hn1.out) (by simp [Value.oneCell']) (by unfold maxLen; omega) (by omega) (by exact HH2.out.base_le) ?_
                (intro sv1 w1 hown1 hg1 hat1; obtain ⟨b1, c1, hv1, _, _⟩ := hown1.form (by omega); subst hv1; have hgb := Hgk.out w1 (by rw [Hmm.out]; exact hg1); have hcell := blk_cell hgb 2; have hfro := blk_frozen hgb 2; have Hgb := Lib.hid hgb; have Hown1 := Lib.hid hown1; have Hg1 := Lib.hid hg1; have Hat1 := Lib.hid hat1; clear hgb hown1 hg1 hat1)
                try go_simp
                refine hK _ _ ?_
                clear hK K
                refine wpAny_take (i := 17) (v := ?_) rfl (by kernel_rfl) (by kernel_rfl) (by kernel_rfl) (fun _ _ _ h => h) (Or.inl ⟨by rfl, ?_⟩) ?_
                rotate_left 1
                · (intro w; go_simp; first | done | with_reducible rfl)
                refine wpAny_take (i := 18) (v := ?_) rfl (by kernel_rfl) (by kernel_rfl) (by kernel_rfl) (fun _ _ _ h => h) (Or.inl ⟨by rfl, ?_⟩) ?_
                rotate_left 1
                · (intro w; go_simp; first | done | with_reducible rfl)
                refine wpAny_ready (rs := [19]) (by kernel_rfl) (by simp) ?_
                refine AllReady.cons rfl (fun K hK => ?_) ?_
                · go_simp
                  refine hK _ _ ?_
                  clear hK K
                  refine wpAny_done (by kernel_rfl) ?_ _
                  go_end0
                  have e := Hmm.out
                  subst e
                  obtain ⟨k1, k2⟩ := HH2.out.parted (p := ⟨t.f2, false, false, false⟩) Hg1.out Hown1.out (by
                    rcases Hat1.out with h | h
                    · exact .inl h
                    · exact .inr ⟨_, h, Nat.le_refl _⟩)
                  have hM := HM.out
                  rw [Hkp.out] at hM
                  have hs1 := (name_text HG.out HH.out HN.out).2
                  have ew : s1.words = s.words := by rw [hs1]
                  rw [← ew] at hM
                  rw [← hM]
                  exact ⟨rfl, ⟨_, _, _, _, _, _, k1⟩, Below.trans (below_drew (HBel.out.alloc HW.out.base_le _)) k2⟩
                exact AllReady.nil
              exact AllReady.nil
            exact AllReady.nil
          exact AllReady.nil
        exact AllReady.nil
      · have hn1 : ∀ (j : Nat) (u : Value), ([.int .i64 t.f2, .bool (pres == there), .bool false, .bool true] : List Value)[j]? = some u → (wc.alloc (.cells #[.int .i64 t.f2, .bool (pres == there), .bool false, .bool true] 50)).drew.cell? ((⟨wc.heap.size, 0, none⟩ : Addr).add j) = some u := by
          intro j u hu
          have hz := World.news_of_block (w := (wc.alloc (.cells #[.int .i64 t.f2, .bool (pres == there), .bool false, .bool true] 50)).drew) (cs := #[.int .i64 t.f2, .bool (pres == there), .bool false, .bool true]) (t := 50) (fr := (0, 0)) (heap_alloc_new wc _)
          exact hz j u hu
        have H2 := (HW.out.kept ((Below.refl _ _).alloc (Nat.le_refl _) (.cells #[.int .i64 t.f2, .bool (pres == there), .bool false, .bool true] 50))).drew
        have hgk : ∀ w1 : World, (wc.alloc (.cells #[.int .i64 t.f2, .bool (pres == there), .bool false, .bool true] 50)).drew.grownBy w1 (Value.slice A s1.parts.length c).ownBlock → w1.heap[g]? = some (.cells #[.slice (some ⟨b, (i + 1) * 3, none⟩) (L0.length - (i + 1)) (c0 - (i + 1)), .map (some B), .slice A s1.parts.length c, ov, .int .i64 s1.fuel] 46 (0, 0)) := by
          intro w1 hg
          exact (hg.block g H2.glt (own_ne_blk H2.parts H2.blk (by decide))).trans H2.blk
        have HH2 := Lib.hid H2
        have Hgk := Lib.hid hgk
        have Hn1 := Lib.hid hn1
        clear H2 hgk hn1
        have hown := HH2.out.parts
        have Hown := Lib.hid hown
        clear hown
        generalize hmm : s1.parts.length = mm at c2' c2 hpl
        have Hmm := Lib.hid hmm
        clear hmm
        have Hkp : Hid ((true && (pres == there)) = (pres == there)) := Lib.hid (by simp)
        go_wp2
        refine wp_region_any (by kernel_rfl) ?_
        try (change wpAny _ _ _ _ _ _ _ (World.drew _))
        refine wpAny_take (i := 0) (v := ?_) rfl (by kernel_rfl) (by kernel_rfl) (by kernel_rfl) (fun _ _ _ h => h) (Or.inl ⟨by rfl, ?_⟩) ?_
        rotate_left 1
        · (intro w; go_simp; first | done | with_reducible rfl)
        refine wpAny_take (i := 1) (v := ?_) rfl (by kernel_rfl) (by kernel_rfl) (by kernel_rfl) (fun _ _ _ h => h) (Or.inl ⟨by rfl, ?_⟩) ?_
        rotate_left 1
        · (intro w; go_simp; first | done | with_reducible rfl)
        refine wpAny_take (i := 2) (v := ?_) rfl (by kernel_rfl) (by kernel_rfl) (by kernel_rfl) (fun _ _ _ h => h) (Or.inl ⟨by rfl, ?_⟩) ?_
        rotate_left 1
        · (intro w; go_simp; first | done | with_reducible rfl)
        refine wpAny_take (i := 3) (v := ?_) rfl (by kernel_rfl) (by kernel_rfl) (by kernel_rfl) (fun _ _ _ h => h) (Or.inl ⟨by rfl, ?_⟩) ?_
        rotate_left 1
        · (intro w; go_simp; first | done | with_reducible rfl)
        refine wpAny_take (i := 5) (v := ?_) rfl (by kernel_rfl) (by kernel_rfl) (by kernel_rfl) (fun _ _ _ h => h) (Or.inl ⟨by rfl, ?_⟩) ?_
        rotate_left 1
        · (intro w; go_simp; first | done | with_reducible rfl)
        refine wpAny_take (i := 7) (v := ?_) rfl (by kernel_rfl) (by kernel_rfl) (by kernel_rfl) (fun _ _ _ h => h) (Or.inl ⟨by rfl, ?_⟩) ?_
        rotate_left 1
        · (intro w; go_simp; first | done | with_reducible rfl)
        refine wpAny_take (i := 8) (v := ?_) rfl (by kernel_rfl) (by kernel_rfl) (by kernel_rfl) (fun _ _ _ h => h) (Or.inl ⟨by rfl, ?_⟩) ?_
        rotate_left 1
        · (intro w; go_simp; first | done | with_reducible rfl)
        simp only [Act.put, List.setIfInBounds_toArray, List.set_cons_succ, List.set_cons_zero, List.getElem_toArray, List.getElem_cons_succ, List.getElem_cons_zero]
        refine wpAny_take (i := 9) (v := ?_) rfl (by kernel_rfl) (by kernel_rfl) (by kernel_rfl) (fun _ _ _ h => h) (Or.inl ⟨by rfl, ?_⟩) ?_
        rotate_left 1
        · (intro w; go_simp; first | done | with_reducible rfl)
        simp only [Act.put, List.setIfInBounds_toArray, List.set_cons_succ, List.set_cons_zero, List.getElem_toArray, List.getElem_cons_succ, List.getElem_cons_zero]
        refine wpAny_take (i := 10) (v := ?_) rfl (by kernel_rfl) (by kernel_rfl) (by kernel_rfl) (fun _ _ _ h => h) (Or.inl ⟨by rfl, ?_⟩) ?_
        rotate_left 1
        · (intro w; go_simp; first | done | with_reducible rfl)
        simp only [Act.put, List.setIfInBounds_toArray, List.set_cons_succ, List.set_cons_zero, List.getElem_toArray, List.getElem_cons_succ, List.getElem_cons_zero]
        refine wpAny_take (i := 11) (v := ?_) rfl (by kernel_rfl) (by kernel_rfl) (by kernel_rfl) (fun _ _ _ h => h) (Or.inl ⟨by rfl, ?_⟩) ?_
        rotate_left 1
        · (intro w; go_simp; first | done | with_reducible rfl)
        simp only [Act.put, List.setIfInBounds_toArray, List.set_cons_succ, List.set_cons_zero, List.getElem_toArray, List.getElem_cons_succ, List.getElem_cons_zero]
        refine wpAny_take (i := 12) (v := ?_) rfl (by kernel_rfl) (by kernel_rfl) (by kernel_rfl) (fun _ _ _ h => h) (Or.inl ⟨by rfl, ?_⟩) ?_
        rotate_left 1
        · (intro w; go_simp; first | done | with_reducible rfl)
        refine wpAny_take (i := 13) (v := ?_) rfl (by kernel_rfl) (by kernel_rfl) (by kernel_rfl) (fun _ _ _ h => h) (Or.inl ⟨by rfl, ?_⟩) ?_
        rotate_left 1
        · (intro w; go_simp; first | done | with_reducible rfl)
        refine wpAny_ready (rs := [4, 6]) (by kernel_rfl) (by simp) ?_
        refine AllReady.cons rfl (fun K hK => ?_) ?_
        · go_simp
          refine hK _ _ ?_
          clear hK K
          refine wpAny_ready (rs := [6]) (by kernel_rfl) (by simp) ?_
          refine AllReady.cons rfl (fun K hK => ?_) ?_
          · go_simp
            refine hK _ _ ?_
            clear hK K
            refine wpAny_take (i := 14) (v := ?_) rfl (by kernel_rfl) (by kernel_rfl) (by kernel_rfl) (fun _ _ _ h => h) (Or.inl ⟨by rfl, ?_⟩) ?_
            rotate_left 1
            · (intro w; go_simp; first | done | with_reducible rfl)
            refine wpAny_ready (rs := [15]) (by kernel_rfl) (by simp) ?_
            refine AllReady.cons rfl (fun K hK => ?_) ?_
            · go_simp
              refine hK _ _ ?_
              clear hK K
              refine wpAny_ready (rs := [16]) (by kernel_rfl) (by simp) ?_
              refine AllReady.cons rfl (fun K hK => ?_) ?_
              · refine step_append_mine rfl (.tmp 27) (.tmp 38) 44 rfl base 50 _ 4 16 Try.underlying44 info50 rfl (by decide) (.slice A mm c) mm (pflat s1.parts) (by simp [Act.eval, Act.put]) (by have := Hown.out; rw [Hmm.out] at this; exact this) ⟨wc.heap.size, 0, none⟩ 1 1 [.int .i64 t.f2, .bool (pres == there), .bool false, .bool true] (by simp [Act.eval, Act.put]) rfl (by exact Hn1.out) (by simp [Value.oneCell']) (by unfold maxLen; omega) (by omega) (by exact HH2.out.base_le) ?_
                (intro sv1 w1 hown1 hg1 hat1; obtain ⟨b1, c1, hv1, _, _⟩ := hown1.form (by omega); subst hv1; have hgb := Hgk.out w1 (by rw [Hmm.out]; exact hg1); have hcell := blk_cell hgb 2; have hfro := blk_frozen hgb 2; have Hgb := Lib.hid hgb; have Hown1 := Lib.hid hown1; have Hg1 := Lib.hid hg1; have Hat1 := Lib.hid hat1; clear hgb hown1 hg1 hat1)
                try go_simp
                refine hK _ _ ?_
                clear hK K
                refine wpAny_take (i := 17) (v := ?_) rfl (by kernel_rfl) (by kernel_rfl) (by kernel_rfl) (fun _ _ _ h => h) (Or.inl ⟨by rfl, ?_⟩) ?_
                rotate_left 1
                · (intro w; go_simp; first | done | with_reducible rfl)
                refine wpAny_take (i := 18) (v := ?_) rfl (by kernel_rfl) (by kernel_rfl) (by kernel_rfl) (fun _ _ _ h => h) (Or.inl ⟨by rfl, ?_⟩) ?_
                rotate_left 1
                · (intro w; go_simp; first | done | with_reducible rfl)
                refine wpAny_ready (rs := [19]) (by kernel_rfl) (by simp) ?_
                refine AllReady.cons rfl (fun K hK => ?_) ?_
                · go_simp
                  refine hK _ _ ?_
                  clear hK K
                  refine wpAny_done (by kernel_rfl) ?_ _
                  go_end0
                  have e := Hmm.out
                  subst e
                  obtain ⟨k1, k2⟩ := HH2.out.parted (p := ⟨t.f2, (pres == there), false, true⟩) Hg1.out Hown1.out (by
                    rcases Hat1.out with h | h
                    · exact .inl h
                    · exact .inr ⟨_, h, Nat.le_refl _⟩)
                  have hM := HM.out
                  rw [Hkp.out] at hM
                  have hs1 := (name_text HG.out HH.out HN.out).2
                  have ew : s1.words = s.words := by rw [hs1]
                  rw [← ew] at hM
                  rw [← hM]
                  exact ⟨rfl, ⟨_, _, _, _, _, _, k1⟩, Below.trans (below_drew (HBel.out.alloc HW.out.base_le _)) k2⟩
                exact AllReady.nil
              exact AllReady.nil
            exact AllReady.nil
          exact AllReady.nil
        refine AllReady.cons rfl (fun K hK => ?_) ?_
        · go_simp
          refine hK _ _ ?_
          clear hK K
          refine wpAny_take (i := 14) (v := ?_) rfl (by kernel_rfl) (by kernel_rfl) (by kernel_rfl) (fun _ _ _ h => h) (Or.inl ⟨by rfl, ?_⟩) ?_
          rotate_left 1
          · (intro w; go_simp; first | done | with_reducible rfl)
          refine wpAny_ready (rs := [4, 15]) (by kernel_rfl) (by simp) ?_
          refine AllReady.cons rfl (fun K hK => ?_) ?_
          · go_simp
            refine hK _ _ ?_
            clear hK K
            refine wpAny_ready (rs := [15]) (by kernel_rfl) (by simp) ?_
            refine AllReady.cons rfl (fun K hK => ?_) ?_
            · go_simp
              refine hK _ _ ?_
              clear hK K
              refine wpAny_ready (rs := [16]) (by kernel_rfl) (by simp) ?_
              refine AllReady.cons rfl (fun K hK => ?_) ?_
              · refine step_append_mine rfl (.tmp 27) (.tmp 38) 44 rfl base 50 _ 4 16 Try.underlying44 info50 rfl (by decide) (.slice A mm c) mm (pflat s1.parts) (by simp [Act.eval, Act.put]) (by have := Hown.out; rw [Hmm.out] at this; exact this) ⟨wc.heap.size, 0, none⟩ 1 1 [.int .i64 t.f2, .bool (pres == there), .bool false, .bool true] (by simp [Act.eval, Act.put]) rfl (by exact Hn1.out) (by simp [Value.oneCell']) (by unfold maxLen; omega) (by omega) (by exact HH2.out.base_le) ?_
                (intro sv1 w1 hown1 hg1 hat1; obtain ⟨b1, c1, hv1, _, _⟩ := hown1.form (by omega); subst hv1; have hgb := Hgk.out w1 (by rw [Hmm.out]; exact hg1); have hcell := blk_cell hgb 2; have hfro := blk_frozen hgb 2; have Hgb := Lib.hid hgb; have Hown1 := Lib.hid hown1; have Hg1 := Lib.hid hg1; have Hat1 := Lib.hid hat1; clear hgb hown1 hg1 hat1)
                try go_simp
                refine hK _ _ ?_
                clear hK K
                refine wpAny_take (i := 17) (v := ?_) rfl (by kernel_rfl) (by kernel_rfl) (by kernel_rfl) (fun _ _ _ h => h) (Or.inl ⟨by rfl, ?_⟩) ?_
                rotate_left 1
                · (intro w; go_simp; first | done | with_reducible rfl)
                refine wpAny_take (i := 18) (v := ?_) rfl (by kernel_rfl) (by kernel_rfl) (by kernel_rfl) (fun _ _ _ h => h) (Or.inl ⟨by rfl, ?_⟩) ?_
                rotate_left 1
                · (intro w; go_simp; first | done | with_reducible rfl)
                refine wpAny_ready (rs := [19]) (by kernel_rfl) (by simp) ?_
                refine AllReady.cons rfl (fun K hK => ?_) ?_
                · go_simp
                  refine hK _ _ ?_
                  clear hK K
                  refine wpAny_done (by kernel_rfl) ?_ _
                  go_end0
                  have e := Hmm.out
                  subst e
                  obtain ⟨k1, k2⟩ := HH2.out.parted (p := ⟨t.f2, (pres == there), false, true⟩) Hg1.out Hown1.out (by
                    rcases Hat1.out with h | h
                    · exact .inl h
                    · exact .inr ⟨_, h, Nat.le_refl _⟩)
                  have hM := HM.out
                  rw [Hkp.out] at hM
                  have hs1 := (name_text HG.out HH.out HN.out).2
                  have ew : s1.words = s.words := by rw [hs1]
                  rw [← ew] at hM
                  rw [← hM]
                  exact ⟨rfl, ⟨_, _, _, _, _, _, k1⟩, Below.trans (below_drew (HBel.out.alloc HW.out.base_le _)) k2⟩
                exact AllReady.nil
              exact AllReady.nil
            exact AllReady.nil
          refine AllReady.cons rfl (fun K hK => ?_) ?_
          · go_simp
            refine hK _ _ ?_
            clear hK K
            refine wpAny_ready (rs := [4]) (by kernel_rfl) (by simp) ?_
            refine AllReady.cons rfl (fun K hK => ?_) ?_
            · go_simp
              refine hK _ _ ?_
              clear hK K
              refine wpAny_ready (rs := [16]) (by kernel_rfl) (by simp) ?_
              refine AllReady.cons rfl (fun K hK => ?_) ?_
              · refine step_append_mine rfl (.tmp 27) (.tmp 38) 44 rfl base 50 _ 4 16 Try.underlying44 info50 rfl (by decide) (.slice A mm c) mm (pflat s1.parts) (by simp [Act.eval, Act.put]) (by have := Hown.out; rw [Hmm.out] at this; exact this) ⟨wc.heap.size, 0, none⟩ 1 1 [.int .i64 t.f2, .bool (pres == there), .bool false, .bool true] (by simp [Act.eval, Act.put]) rfl (by exact Hn1.out) (by simp [Value.oneCell']) (by unfold maxLen; omega) (by omega) (by exact HH2.out.base_le) ?_
                (intro sv1 w1 hown1 hg1 hat1; obtain ⟨b1, c1, hv1, _, _⟩ := hown1.form (by omega); subst hv1; have hgb := Hgk.out w1 (by rw [Hmm.out]; exact hg1); have hcell := blk_cell hgb 2; have hfro := blk_frozen hgb 2; have Hgb := Lib.hid hgb; have Hown1 := Lib.hid hown1; have Hg1 := Lib.hid hg1; have Hat1 := Lib.hid hat1; clear hgb hown1 hg1 hat1)
                try go_simp
                refine hK _ _ ?_
                clear hK K
                refine wpAny_take (i := 17) (v := ?_) rfl (by kernel_rfl) (by kernel_rfl) (by kernel_rfl) (fun _ _ _ h => h) (Or.inl ⟨by rfl, ?_⟩) ?_
                rotate_left 1
                · (intro w; go_simp; first | done | with_reducible rfl)
                refine wpAny_take (i := 18) (v := ?_) rfl (by kernel_rfl) (by kernel_rfl) (by kernel_rfl) (fun _ _ _ h => h) (Or.inl ⟨by rfl, ?_⟩) ?_
                rotate_left 1
                · (intro w; go_simp; first | done | with_reducible rfl)
                refine wpAny_ready (rs := [19]) (by kernel_rfl) (by simp) ?_
                refine AllReady.cons rfl (fun K hK => ?_) ?_
                · go_simp
                  refine hK _ _ ?_
                  clear hK K
                  refine wpAny_done (by kernel_rfl) ?_ _
                  go_end0
                  have e := Hmm.out
                  subst e
                  obtain ⟨k1, k2⟩ := HH2.out.parted (p := ⟨t.f2, (pres == there), false, true⟩) Hg1.out Hown1.out (by
                    rcases Hat1.out with h | h
                    · exact .inl h
                    · exact .inr ⟨_, h, Nat.le_refl _⟩)
                  have hM := HM.out
                  rw [Hkp.out] at hM
                  have hs1 := (name_text HG.out HH.out HN.out).2
                  have ew : s1.words = s.words := by rw [hs1]
                  rw [← ew] at hM
                  rw [← hM]
                  exact ⟨rfl, ⟨_, _, _, _, _, _, k1⟩, Below.trans (below_drew (HBel.out.alloc HW.out.base_le _)) k2⟩
                exact AllReady.nil
              exact AllReady.nil
            exact AllReady.nil
          exact AllReady.nil
        exact AllReady.nil
end Go.Proofs.Ytimcmhfcmnooeaa
