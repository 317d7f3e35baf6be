/- The contract of a queue's Put, for every event. -/
import Derived.Test.YtebcbjmdkbmnkaaEvFind
namespace Go.Proofs.Ytebcbjmdkbmnkaa
set_option linter.unusedVariables false
set_option linter.unusedSimpArgs false
open Go.RowKit

set_option maxHeartbeats 400000 in
theorem given_nil (w : World) :
    Calls Try.prog 19 #[.pointer none] w fun e w' => e = .returned (.bool false) ∧ w = w' := by
  go_enter Try.func19, Try.ntmps19
  go_wp2
  go_ret
  exact ⟨rfl, rfl⟩

set_option maxHeartbeats 400000 in
theorem given_ptr (g : Nat) (lim : Int) (w : World) (hc : w.cell? ⟨g, 1, none⟩ = some (.int .i64 lim)) (hp : decide (0 < lim) = true) :
    Calls Try.prog 19 #[.pointer (some ⟨g, 0, none⟩)] w fun e w' => e = .returned (.bool true) ∧ w = w' := by
  go_enter Try.func19, Try.ntmps19
  go_wp2
  go_ret
  exact ⟨rfl, rfl⟩

set_option maxHeartbeats 400000 in
theorem given_zero (g : Nat) (w : World) (hc : w.cell? ⟨g, 1, none⟩ = some (.int .i64 0)) :
    Calls Try.prog 19 #[.pointer (some ⟨g, 0, none⟩)] w fun e w' => e = .returned (.bool false) ∧ w = w' := by
  go_enter Try.func19, Try.ntmps19
  go_wp2
  go_ret
  exact ⟨rfl, rfl⟩

theorem QS.below {w w' : World} {g : Nat} {lim : Int} {L : List Ev} {sv : Value} (h : QS w g lim L sv) (hb : Below w.heap.size w w') : QS w' g lim L sv := by
  obtain ⟨h1, h2⟩ := h
  refine ⟨(hb.block g (Array.getElem?_eq_some_iff.1 h1).1).trans h1, h2.1, ?_⟩
  rcases h2.2 with h3 | ⟨g', cap, cur, rfl, hb', hh, r⟩
  · exact .inl h3
  · exact .inr ⟨g', cap, cur, rfl, hb', (hb.block g' (Array.getElem?_eq_some_iff.1 hh).1).trans hh, r⟩
theorem QS.kp {w w' : World} {g : Nat} {lim : Int} {L : List Ev} {sv : Value} {S : Nat → Prop} (h : QS w g lim L sv) (hb : Kp S w w') (hg : ¬ S g) (hs : ∀ k, sv.ownBlock = some k → ¬ S k) : QS w' g lim L sv := by
  obtain ⟨h1, h2⟩ := h
  refine ⟨(hb.block g (Array.getElem?_eq_some_iff.1 h1).1 hg).trans h1, h2.1, ?_⟩
  rcases h2.2 with h3 | ⟨g', cap, cur, rfl, hb', hh, r⟩
  · exact .inl h3
  · exact .inr ⟨g', cap, cur, rfl, hb', (hb.block g' (Array.getElem?_eq_some_iff.1 hh).1 (hs g' rfl)).trans hh, r⟩
theorem QS.lt {w : World} {g : Nat} {lim : Int} {L : List Ev} {sv : Value} (h : QS w g lim L sv) : g < w.heap.size := (Array.getElem?_eq_some_iff.1 h.1).1
theorem QS.own_lt {w : World} {g : Nat} {lim : Int} {L : List Ev} {sv : Value} (h : QS w g lim L sv) {k : Nat} (hk : sv.ownBlock = some k) : k < w.heap.size := (h.2.lt k hk).2

theorem below_drewN {B : Nat} {a w : World} (h : Below B a w) (n : Nat) : Below B a (w.drewN n) := ⟨h.os, h.tape, h.output, h.size, h.block⟩

def putE (lim : Int) (L : List Ev) (x : Ev) : Int × List Ev :=
  if x.t < 0 ∨ x.a = true then (1, L) else if 0 ≤ idxP (sameNo x.f x.s) L then (1, L) else if 4611686018427387903 < x.t then (140, L) else if lim ≤ L.length then (141, L) else (0, pushL L x)

/-- What a method leaves of a queue. -/
def QPost (w : World) (g : Nat) (lim : Int) (sv : Value) (L : List Ev) (w' : World) : Prop :=
  ∃ sv', QS w' g lim L sv' ∧ (sv'.ownBlock = sv.ownBlock ∨ ∃ k, sv'.ownBlock = some k ∧ w.heap.size ≤ k) ∧ Kp (qb g sv) w w'
theorem QPost.below {w w' : World} {g : Nat} {lim : Int} {L : List Ev} {sv : Value} (h : QS w g lim L sv) (hb : Below w.heap.size w w') : QPost w g lim sv L w' := ⟨sv, h.below hb, .inl rfl, Kp.of_below hb _⟩
theorem QPost.after {w w1 w' : World} {g : Nat} {lim : Int} {L : List Ev} {sv : Value} (hb : Below w.heap.size w w1) (h : QPost w1 g lim sv L w') : QPost w g lim sv L w' := by
  obtain ⟨sv', h1, h2, h3⟩ := h
  refine ⟨sv', h1, ?_, (Kp.of_below hb _).trans h3⟩
  rcases h2 with h2 | ⟨k, h2, h4⟩
  · exact .inl h2
  · exact .inr ⟨k, h2, Nat.le_trans hb.size h4⟩

set_option maxHeartbeats 2000000 in
theorem put_any (g : Nat) (lim : Int) (L : List Ev) (x : Ev) (sv : Value) (w : World) (hp : 0 < lim) (hn : L.length ≤ lim) (hm : lim ≤ 4096) (hQ : QS w g lim L sv) :
    Calls Try.prog 10 #[.pointer (some ⟨g, 0, none⟩), .agg x.cs] w fun e w' => e = .returned (.int .i64 (putE lim L x).1) ∧ QPost w g lim sv (putE lim L x).2 w' := by
  obtain ⟨A, c, rfl⟩ := hQ.slice
  have hglt := hQ.lt
  have hdp : decide (0 < lim) = true := by simpa using hp
  have hq1 := fun o => hQ.below ((Below.refl _ _).alloc (Nat.le_refl _) o)
  have hc1 := fun o => blk_cell (hq1 o).1 1
  have hc0 := fun o => blk_cell (hq1 o).1 0
  have HQ0 := Lib.hid hQ
  have Hq1 := Lib.hid hq1
  clear hQ hq1
  by_cases hA : x.t < 0
  · have he : putE lim L x = (1, L) := by unfold putE; rw [if_pos (.inl hA)]
    rw [he]
    clear he
    have hdA : decide (x.t < 0) = true := by simpa using hA
    obtain ⟨xt, xn, xv, xf, xs, xa⟩ := x
    unfold Ev.cs
    dsimp only at *
    go_enter Try.func10, Try.ntmps10
    go_wp2_with fail
    have hgv := given_ptr g lim _ (hc1 (.cells #[.int .i64 xt, .int .i64 xn, .string xv, .int .i64 xf, .int .i64 xs, .bool xa] 30)) hdp
    with_reducible refine hgv.mono ?_
    clear hgv
    rintro e w1 ⟨rfl, rfl⟩
    go_wp2
    go_ret
    exact ⟨rfl, QPost.below HQ0.out (by go_grown)⟩
  · have hdA : decide (x.t < 0) = false := by simpa using hA
    by_cases hB : x.a = true
    · have he : putE lim L x = (1, L) := by unfold putE; rw [if_pos (.inr hB)]
      rw [he]
      clear he hA
      obtain ⟨xt, xn, xv, xf, xs, xa⟩ := x
      unfold Ev.cs
      dsimp only at *
      subst hB
      go_enter Try.func10, Try.ntmps10
      go_wp2_with fail
      have hgv := given_ptr g lim _ (hc1 (.cells #[.int .i64 xt, .int .i64 xn, .string xv, .int .i64 xf, .int .i64 xs, .bool true] 30)) hdp
      with_reducible refine hgv.mono ?_
      clear hgv
      rintro e w1 ⟨rfl, rfl⟩
      go_wp2
      go_ret
      exact ⟨rfl, QPost.below HQ0.out (by go_grown)⟩
    · have hB2 : x.a = false := by simpa using hB
      have hnot : ¬ (x.t < 0 ∨ x.a = true) := by simp [hA, hB]
      have hput : putE lim L x = if 0 ≤ idxP (sameNo x.f x.s) L then (1, L) else if 4611686018427387903 < x.t then (140, L) else if lim ≤ L.length then (141, L) else (0, pushL L x) := by unfold putE; rw [if_neg hnot]
      have Hput := Lib.hid hput
      clear hput hnot hB hA
      obtain ⟨xt, xn, xv, xf, xs, xa⟩ := x
      dsimp only at hB2 hdA Hput
      subst hB2
      go_enter Try.func10, Try.ntmps10
      unfold Ev.cs
      dsimp only
      go_wp2_with fail
      have hgv := given_ptr g lim _ (hc1 (.cells #[.int .i64 xt, .int .i64 xn, .string xv, .int .i64 xf, .int .i64 xs, .bool false] 30)) hdp
      with_reducible refine hgv.mono ?_
      clear hgv
      rintro e w1 ⟨rfl, rfl⟩
      have hb0 : Below w.heap.size w (w.alloc (.cells #[.int .i64 xt, .int .i64 xn, .string xv, .int .i64 xf, .int .i64 xs, .bool false] 30)) := by go_grown
      have hbox := heap_alloc_new w (.cells #[.int .i64 xt, .int .i64 xn, .string xv, .int .i64 xf, .int .i64 xs, .bool false] 30)
      have hsz : w.heap.size < (w.alloc (.cells #[.int .i64 xt, .int .i64 xn, .string xv, .int .i64 xf, .int .i64 xs, .bool false] 30)).heap.size := by simp
      generalize (w.alloc (.cells #[.int .i64 xt, .int .i64 xn, .string xv, .int .i64 xf, .int .i64 xs, .bool false] 30)) = w0 at hb0 hbox hsz ⊢
      clear hc0 hc1
      have hq0 := HQ0.out.below hb0
      have hc0 := blk_cell hq0.1 0
      have hx0 := blk_cell hbox 0
      have hx5 := blk_cell hbox 5
      have hx3 := blk_cell hbox 3
      have hx4 := blk_cell hbox 4
      have hcon := containsFunc_any 21 #[.pointer (some ⟨w.heap.size, 0, none⟩)] (sameNo xf xs) A L.length c L w0 rfl (by omega) hq0.rd call21 (fun y w' hb => clo21 y ⟨xt, xn, xv, xf, xs, false⟩ w.heap.size w' ((hb.cell hsz).trans hx3) ((hb.cell hsz).trans hx4) (Nat.lt_of_lt_of_le hsz hb.size))
      have Hcon := Lib.hid hcon
      have Hbox := Lib.hid hbox
      clear hcon hbox hx3 hx4 hq0
      go_wp2_with fail
      have hcon := Hcon.out
      with_reducible refine hcon.mono ?_
      clear hcon
      rintro e w1 ⟨rfl, hb1⟩
      have hb01 := hb0.trans (hb1.mono hb0.size)
      have hq1 := HQ0.out.below hb01
      have hbox1 : w1.heap[w.heap.size]? = some (.cells #[.int .i64 xt, .int .i64 xn, .string xv, .int .i64 xf, .int .i64 xs, .bool false] 30 (0, 0)) := (hb1.block _ hsz).trans Hbox.out
      have hc0 := blk_cell hq1.1 0
      have hc1 := blk_cell hq1.1 1
      have hx0 := blk_cell hbox1 0
      have hx1 := blk_cell hbox1 1
      have hx2 := blk_cell hbox1 2
      have hx3 := blk_cell hbox1 3
      have hx4 := blk_cell hbox1 4
      have hx5 := blk_cell hbox1 5
      have Hbox1 := Lib.hid hbox1
      have Hq1 := Lib.hid hq1
      clear Hbox Hcon hq1 hbox1
      by_cases hC : 0 ≤ idxP (sameNo xf xs) L
      · have he := Hput.out
        rw [if_pos hC] at he
        have He := Lib.hid he
        have hdC : decide (0 ≤ idxP (sameNo xf xs) L) = true := by simpa using hC
        rw [hdC]
        clear he hC hdC
        go_wp2
        go_ret
        rw [He.out]
        exact ⟨rfl, QPost.below HQ0.out hb01⟩
      · have hdC : decide (0 ≤ idxP (sameNo xf xs) L) = false := by simpa using hC
        rw [hdC]
        have he := Hput.out
        rw [if_neg hC] at he
        clear hC hdC
        by_cases hD : 4611686018427387903 < xt
        · rw [if_pos hD] at he
          have He := Lib.hid he
          clear he
          go_wp2
          go_ret
          rw [He.out]
          exact ⟨rfl, QPost.below HQ0.out hb01⟩
        · rw [if_neg hD] at he
          have hD' : decide (4611686018427387903 < xt) = false := by simpa using hD
          by_cases hE : lim ≤ L.length
          · rw [if_pos hE] at he
            have He := Lib.hid he
            clear he
            go_wp2
            go_quiet (fail)
            go_wp2
            go_ret
            rw [He.out]
            exact ⟨rfl, QPost.below HQ0.out (below_drewN hb01 _)⟩
          · rw [if_neg hE] at he
            have He := Lib.hid he
            clear he
            go_wp2
            go_quiet (fail)
            go_wp2
            refine still_tail_of 6 (by kernel_rfl) (by kernel_rfl) (fun w3 => w3.heap = w1.heap ∧ Below w.heap.size w w3) ⟨rfl, (below_drewN hb01 _).drew⟩ ?_
            rintro w3 ⟨heq, hb3⟩
            simp only [List.take_succ_cons, List.take_zero, List.drop_succ_cons, List.drop_zero]
            have hbox3 : w3.heap[w.heap.size]? = some (.cells #[.int .i64 xt, .int .i64 xn, .string xv, .int .i64 xf, .int .i64 xs, .bool false] 30 (0, 0)) := by rw [heq]; exact Hbox1.out
            have hq3 := HQ0.out.below hb3
            clear heq hc0 hc1 hx0 hx1 hx2 hx3 hx4 hx5 hb1 hb01
            have hx0 := blk_cell hbox3 0
            have hx1 := blk_cell hbox3 1
            have hx2 := blk_cell hbox3 2
            have hx3 := blk_cell hbox3 3
            have hx4 := blk_cell hbox3 4
            have hx5 := blk_cell hbox3 5
            have Hq3 := Lib.hid hq3
            clear hbox3 hq3
            repeat still_step
            refine wpStill_nil ?_
            clear hx0 hx1 hx2 hx3 hx4 hx5
            go_wp2_with fail
            have hpu := heap_push g lim L ⟨xt, xn, xv, xf, xs, false⟩ (.slice A L.length c) w3 (by omega) Hq3.out
            unfold Ev.cs at hpu
            dsimp only at hpu
            with_reducible refine hpu.mono ?_
            clear hpu
            rintro e w4 ⟨rfl, hpost⟩
            have Hpost := Lib.hid hpost
            clear hpost
            go_wp2
            go_ret
            rw [He.out]
            exact ⟨rfl, QPost.after hb3 Hpost.out⟩
end Go.Proofs.Ytebcbjmdkbmnkaa
