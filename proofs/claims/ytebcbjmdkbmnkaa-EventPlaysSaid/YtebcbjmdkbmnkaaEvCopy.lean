/- The contracts of Clone, Copy and New. -/
import Derived.Test.YtebcbjmdkbmnkaaEvCancel
import Derived.WalkSpells
namespace Go.Proofs.Ytebcbjmdkbmnkaa
set_option linter.unusedVariables false
set_option linter.unusedSimpArgs false
open Go.RowKit

set_option maxHeartbeats 1000000 in
theorem clone_nil (w : World) :
    Calls Try.prog 24 #[.slice none 0 0] w fun e w' => e = .returned (.slice none 0 0) ∧ w = w' := by
  have hne := fun (w : World) => Lib.run_eql_slice_nil (P := Try.prog) w 51 30 none 0 0 0 0 Try.underlying51
  go_enter Try.func24, Try.ntmps24
  go_wp2
  go_ret
  exact ⟨rfl, rfl⟩

set_option maxHeartbeats 1000000 in
theorem clone_any (b n c : Nat) (L : List Ev) (w : World) (hL : L.length = n) (hn : n ≤ 4096) (hR : Rw w b c L) :
    Calls Try.prog 24 #[.slice (some ⟨b, 0, none⟩) n c] w fun e w' => ∃ sv', e = .returned sv' ∧ w'.ownsRow w.heap.size 30 6 sv' n (flat L) ∧ Below w.heap.size w w' := by
  have hne := fun (w : World) => Lib.run_eql_slice_nil (P := Try.prog) w 51 30 (some ⟨b, 0, none⟩) n c 0 0 Try.underlying51
  go_enter Try.func24, Try.ntmps24
  obtain ⟨i0, hi0, hzz⟩ := Option.map_eq_some_iff.1 info30
  simp only [Prod.mk.injEq] at hzz
  obtain ⟨hz0, hz1, hz2⟩ := hzz
  have hcells : ∀ j u, (flat L)[j]? = some u → (w.alloc (.cells #[] 30)).cell? ((⟨b, 0, none⟩ : Addr).add j) = some u := by
    intro j u hu
    rw [World.cell?_alloc_lt w _ _ (by rw [show ((⟨b, 0, none⟩ : Addr).add j).block = b from by unfold Addr.add; split <;> rfl]; exact hR.lt)]
    exact hR.own.cells rfl j u hu
  have Hcells := Lib.hid hcells
  have HL := Lib.hid hL
  have Hone : Hid (∀ u ∈ flat L, u.oneCell' = true) := by
    intro u hu
    simp only [flat, List.mem_flatMap] at hu
    obtain ⟨x, _, hx⟩ := hu
    simp only [Ev.cl, List.mem_cons, List.not_mem_nil, or_false] at hx
    rcases hx with rfl | rfl | rfl | rfl | rfl | rfl <;> rfl
  have H1 : Hid ((w.alloc (.cells #[] 30)).ownsRow w.heap.size 30 6 (.slice (some ⟨w.heap.size, 0, none⟩) 0 0) 0 []) := ⟨rfl, .inr ⟨w.heap.size, 0, #[], rfl, Nat.le_refl _, heap_alloc_new w _, Nat.le_refl _, Nat.zero_le _, rfl, rfl⟩⟩
  have H2 : Hid ((flat L).length = n * 6) := by rw [flat_len, HL.out]; rfl
  have H3 : Hid (0 + n ≤ maxLen) := by unfold maxLen; show _ ≤ _; omega
  have H4 : Hid ((0 + n) * 56 ≤ 140737488355328) := by show _ ≤ _; omega
  have H5 : Hid (w.heap.size ≤ (w.alloc (.cells #[] 30)).heap.size) := by show _ ≤ _; simp
  clear hcells hL hR
  go_wp2_with (at_builtin; refine wpList_append_own_at _ rfl (.tmp 5) (.tmp 6) 51 rfl w.heap.size 30 i0 _ 6 56 Try.underlying51 hi0 hz0 hz1 hz2 rfl (by decide) (.slice (some ⟨w.heap.size, 0, none⟩) 0 0) 0 [] rfl H1.out ⟨b, 0, none⟩ n c (flat L) rfl H2.out Hcells.out Hone.out H3.out H4.out H5.out ?_; intro sv1 w1 hown1 hg1 _ hat1)
  go_ret
  rw [Nat.zero_add, List.nil_append] at hown1
  refine ⟨sv1, rfl, hown1, ((Below.refl _ w).alloc (Nat.le_refl _) _).grown hg1 (by simp) (fun k hk => ?_)⟩
  simp [Value.ownBlock] at hk
  omega

theorem own_lower {w : World} {base base' : Nat} {e : TypeId} {size n : Nat} {v : Value} {xs : List Value} (h : w.ownsRow base e size v n xs) (hb : base' ≤ base) : w.ownsRow base' e size v n xs := by
  obtain ⟨h1, h2⟩ := h
  refine ⟨h1, ?_⟩
  rcases h2 with h2 | ⟨g, cap, cur, rfl, hg, r⟩
  · exact .inl h2
  · exact .inr ⟨g, cap, cur, rfl, Nat.le_trans hb hg, r⟩

theorem clone_q (A : Option Addr) (n c g : Nat) (lim : Int) (L : List Ev) (w : World) (hL : L.length = n) (hn : n ≤ 4096) (hQ : QS w g lim L (.slice A n c)) :
    Calls Try.prog 24 #[.slice A n c] w fun e w' => ∃ sv', e = .returned sv' ∧ w'.ownsRow w.heap.size 30 6 sv' n (flat L) ∧ Below w.heap.size w w' := by
  rcases hQ.2.2 with ⟨h1, h2⟩ | ⟨b, cap, cur, h1, h2, h3, h4, h5, h6, h7⟩
  · injection h1 with e1 e2 e3
    subst e1 e2 e3
    exact (clone_nil w).mono fun e w' ⟨he, hw⟩ => ⟨_, he, ⟨by rw [flat_len, hL], .inl ⟨rfl, rfl⟩⟩, by subst hw; exact Below.refl _ _⟩
  · injection h1 with e1 e2 e3
    subst e1 e3
    have := hQ.2
    rw [hL] at this
    exact clone_any b n c L w hL hn (Rw.of_own this).2

theorem own_slice' {w : World} {base n size : Nat} {e : TypeId} {v : Value} {xs : List Value} (h : w.ownsRow base e size v n xs) : ∃ A c, v = .slice A n c := by
  rcases h.2 with ⟨rfl, rfl⟩ | ⟨g', cap, cur, rfl, _⟩
  · exact ⟨none, 0, rfl⟩
  · exact ⟨_, _, rfl⟩

theorem copy_done {w w1 : World} {A1 : Option Addr} {c1 : Nat} {lim : Int} {L : List Ev} (hown : w1.ownsRow w.heap.size 30 6 (.slice A1 L.length c1) L.length (flat L)) (hb : Below w.heap.size w w1) :
    ∃ g' sv', Ending.returned (.pointer (some ⟨w1.heap.size, 0, none⟩)) = .returned (.pointer (some ⟨g', 0, none⟩)) ∧ w.heap.size ≤ g' ∧ QS (w1.alloc (.cells #[.slice A1 L.length c1, .int .i64 lim] 53)) g' lim L sv' ∧ (∀ k, sv'.ownBlock = some k → w.heap.size ≤ k) ∧ Below w.heap.size w (w1.alloc (.cells #[.slice A1 L.length c1, .int .i64 lim] 53)) :=
  ⟨_, _, rfl, hb.size, ⟨heap_alloc_new _ _, own_lower (hown.alloc _) (Nat.zero_le _)⟩, fun k hk => (hown.lt k hk).1, hb.alloc hb.size _⟩

set_option maxHeartbeats 2000000 in
theorem copy_any (g : Nat) (lim : Int) (L : List Ev) (sv : Value) (w : World) (hp : 0 < lim) (hn : L.length ≤ lim) (hm : lim ≤ 4096) (hQ : QS w g lim L sv) :
    Calls Try.prog 13 #[.pointer (some ⟨g, 0, none⟩)] w fun e w' => ∃ g' sv', e = .returned (.pointer (some ⟨g', 0, none⟩)) ∧ w.heap.size ≤ g' ∧ QS w' g' lim L sv' ∧ (∀ k, sv'.ownBlock = some k → w.heap.size ≤ k) ∧ Below w.heap.size w w' := by
  obtain ⟨A, c, rfl⟩ := hQ.slice
  have hdp : decide (0 < lim) = true := by simpa using hp
  have hc0 := blk_cell hQ.1 0
  have hc1 := blk_cell hQ.1 1
  have hcl : Calls Try.prog 24 #[.slice A L.length c] w.drew fun e w' => ∃ A1 c1, e = .returned (.slice A1 L.length c1) ∧ w'.ownsRow w.heap.size 30 6 (.slice A1 L.length c1) L.length (flat L) ∧ Below w.heap.size w w' :=
    (clone_q A L.length c g lim L w.drew rfl (by omega) hQ).mono fun e w' ⟨sv', he, ho, hb⟩ => by
      obtain ⟨A1, c1, rfl⟩ := own_slice' ho
      exact ⟨A1, c1, he, ho, ⟨hb.os, hb.tape, hb.output, hb.size, hb.block⟩⟩
  have Hcl := Lib.hid hcl
  have HQ0 := Lib.hid hQ
  clear hcl hQ
  go_enter Try.func13, Try.ntmps13
  go_wp2_with fail
  have hgv := given_ptr g lim _ hc1 hdp
  with_reducible refine hgv.mono ?_
  clear hgv
  rintro e w1 ⟨rfl, rfl⟩
  go_wp2
  go_region_with (go_at_call 24; refine (Hcl.out).mono ?_; rintro e w1 ⟨A1, c1, rfl, hown, hb⟩; have hq1 := HQ0.out.below hb; have hc1 := blk_cell hq1.1 1; have Hq1 := Lib.hid hq1; have Hown := Lib.hid hown; clear hq1 hown)
  all_goals
    go_wp2
    go_ret
    exact copy_done Hown.out hb

set_option maxHeartbeats 1000000 in
theorem new_bad (n : Int) (w : World) (h : n < 1 ∨ 4096 < n) :
    Calls Try.prog 8 #[.int .i64 n] w fun e w' => e = .returned (.tuple #[.pointer none, .int .i64 1]) ∧ Below w.heap.size w w' := by
  rcases h with h | h
  · go_enter Try.func8, Try.ntmps8
    go_wp2
    go_ret2
    exact ⟨rfl, Below.refl _ _⟩
  · have h2 : decide (n < 1) = false := by simp; omega
    go_enter Try.func8, Try.ntmps8
    go_wp2
    go_ret2
    exact ⟨rfl, Below.refl _ _⟩

set_option maxHeartbeats 1000000 in
theorem new_any (n : Int) (w : World) (h1 : 1 ≤ n) (h2 : n ≤ 4096) :
    Calls Try.prog 8 #[.int .i64 n] w fun e w' => ∃ g, e = .returned (.tuple #[.pointer (some ⟨g, 0, none⟩), .int .i64 0]) ∧ w.heap.size ≤ g ∧ QS w' g n [] (.slice none 0 0) ∧ Below w.heap.size w w' := by
  have h3 : decide (n < 1) = false := by simp; omega
  have h4 : decide (4096 < n) = false := by simp; omega
  go_enter Try.func8, Try.ntmps8
  go_wp2
  go_ret2
  exact ⟨w.heap.size, rfl, Nat.le_refl _, ⟨heap_alloc_new _ _, rfl, .inl ⟨rfl, rfl⟩⟩, by go_grown⟩
end Go.Proofs.Ytebcbjmdkbmnkaa
