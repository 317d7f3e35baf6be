/- The walk of drained: a queue holds the document's events, in their order. -/
import Derived.Test.YtebcbjmdkbmnkaaEvCpl
import Derived.Test.YtebcbjmdkbmnkaaEvCopies
namespace Go.Proofs.Ytebcbjmdkbmnkaa
set_option linter.unusedVariables false
set_option linter.unusedSimpArgs false
open Go.RowKit

theorem RR.kp {w w' : World} {v : Value} {L : List Ev} {S : Nat → Prop} (h : RR w v L) (hb : Kp S w w') (hs : ∀ k, v.ownBlock = some k → ¬ S k) : RR w' v L := by
  refine ⟨h.1, ?_⟩
  rcases h.2 with h3 | ⟨g', cap, cur, rfl, hb', hh, r⟩
  · exact .inl h3
  · exact .inr ⟨g', cap, cur, rfl, hb', (hb.block g' (Array.getElem?_eq_some_iff.1 hh).1 (hs g' rfl)).trans hh, r⟩
theorem RR.below {w w' : World} {v : Value} {L : List Ev} (h : RR w v L) (hb : Below w.heap.size w w') : RR w' v L := h.kp (Kp.of_below hb (fun _ => False)) (fun _ _ h => h)
theorem RR.lt {w : World} {v : Value} {L : List Ev} (h : RR w v L) : ∀ k, v.ownBlock = some k → k < w.heap.size := fun k hk => (World.ownsRow.lt h k hk).2
theorem RR.far {w : World} {v sv : Value} {L M : List Ev} {g : Nat} {lim : Int} (h : RR w v L) (hQ : QS w g lim M sv) (hne : NeOwn sv v) : ∀ k, v.ownBlock = some k → ¬ qb g sv k := by
  rintro k hk (e | e)
  · subst e
    exact own_ne_blk h hQ.1 (by decide) hk.symm
  · exact hne k e hk
theorem drop_erase (R : List Ev) (i : Nat) : (R.drop i).eraseIdx 0 = R.drop (i + 1) := by
  rw [List.eraseIdx_zero, List.tail_drop]
theorem evAt_drop (R : List Ev) (i : Nat) : evAt (R.drop i) 0 = evAt R i := by
  unfold evAt
  rw [List.getD_eq_getElem?_getD, List.getD_eq_getElem?_getD, List.getElem?_drop]
  rfl

theorem take_kp {w : World} {g : Nat} {lim : Int} {M R : List Ev} {sv s0 : Value} {m : Nat} (hp : 0 < lim) (hm : lim ≤ 4096) (hl : M.length = m + 1) (hn : M.length ≤ lim) (hQ : QS w g lim M sv) (h0 : sv.ownBlock = s0.ownBlock) (hC : Cpl M R) (x : Ev) (hx : evAt R 0 = x) :
    Calls Try.prog 11 #[.pointer (some ⟨g, 0, none⟩)] w fun e w' => e = .returned (.tuple #[.agg #[.int .i64 x.t, .int .i64 x.n, .string x.v, .int .i64 x.f, .int .i64 x.s, .bool x.a], .bool true]) ∧
      (∃ sv', QS w' g lim (popL M).dropLast sv' ∧ sv'.ownBlock = s0.ownBlock) ∧ Kp (qb g s0) w w' := by
  obtain ⟨b, c, rfl, hh⟩ := hQ.hq (by omega)
  have ht := hC.take hl
  refine (take_any g b c m lim M w hl (by omega) hp hh).mono ?_
  rintro e w' ⟨rfl, hq', hk⟩
  refine ⟨by rw [ht.1, hx]; rfl, ⟨_, hq'.qs, h0⟩, hk.mono ?_⟩
  rintro i (rfl | rfl)
  · exact .inl rfl
  · exact .inr h0.symm

set_option maxRecDepth 100000 in
set_option maxHeartbeats 2000000 in
theorem drained_any (g : Nat) (lim lim' : Int) (L R : List Ev) (sv : Value) (A : Option Addr) (n c : Nat) (w : World) (hp : 0 < lim) (hn : L.length ≤ lim) (hm : lim ≤ 4096) (hQ : QS w g lim L sv) (hC : Cpl L R) (hR : RR w (.slice A n c) R) (hL : R.length = n)
    (hne : NeOwn sv (.slice A n c)) :
    Calls Try.prog 17 #[.pointer (some ⟨g, 0, none⟩), .agg #[.int .i64 lim', .slice A n c]] w fun e w' => e = .returned (.bool true) ∧ Kp (qb g sv) w w' := by
  have HC := Lib.hid hC
  have HL := Lib.hid hL
  have hfar := hR.far hQ hne
  have hb0 : Below w.heap.size w (w.alloc (.cells #[.int .i64 lim', .slice A n c] 42)) := by go_grown
  have hx0 := heap_alloc_new w (.cells #[.int .i64 lim', .slice A n c] 42)
  have hqlt : g < w.heap.size := hQ.lt
  have hB : ¬ qb g sv w.heap.size := by
    rintro (e | e)
    · omega
    · have := hQ.own_lt e; omega
  have hq0 := hQ.below hb0
  have hr0 := hR.below hb0
  have hk0 : Kp (qb g sv) w (w.alloc (.cells #[.int .i64 lim', .slice A n c] 42)) := Kp.of_below hb0 _
  have hlen := hC.len
  have hnb : n ≤ 4096 := by omega
  have HQ0 := Lib.hid hq0
  have HR0 := Lib.hid hr0
  have HK0 := Lib.hid hk0
  have HX0 := Lib.hid hx0
  have HF := Lib.hid hfar
  have HBn := Lib.hid hB
  clear hC hL hQ hR hne hfar hb0 hx0 hB hq0 hr0 hk0
  go_enter Try.func17, Try.ntmps17
  go_wp2
  have hs1 : w.heap.size < (w.alloc (.cells #[.int .i64 lim', .slice A n c] 42)).heap.size := by simp
  generalize (w.alloc (.cells #[.int .i64 lim', .slice A n c] 42)) = W at *
  go_loopw [5] (fun iv wr => ∃ (i : Nat) (M : List Ev) (sv' : Value), iv = .int .i64 i ∧ i ≤ n ∧ Hid (Cpl M (R.drop i)) ∧ Hid (QS wr g lim M sv') ∧ Hid (sv'.ownBlock = sv.ownBlock) ∧ Hid (Kp (qb g sv) W wr)) (fun iv _ => n - (intOf iv).toNat)
  case atStart => exact ⟨0, L, sv, rfl, Nat.zero_le _, HC, HQ0, rfl, Kp.refl _ _⟩
  case round =>
    obtain ⟨i, M, sv', rfl, hi, HM, HQ, HS, HK⟩ := hrel
    have hbx := HK.out.blk HX0.out HBn.out
    have y0 := blk_cell hbx 0
    have y1 := blk_cell hbx 1
    have hmlen : M.length = n - i := by have := HM.out.len; rw [List.length_drop, HL.out] at this; omega
    have hn0 := HL.out
    by_cases hlt : i < n
    · obtain ⟨x, hx⟩ : ∃ x, evAt R i = x := ⟨_, rfl⟩
      have hc2 := HM.out.take (m := n - i - 1) (by omega)
      rw [drop_erase] at hc2
      have HC2 := Lib.hid hc2.2.1
      have htk := take_kp (s0 := sv) hp hm (m := n - i - 1) (by omega) (by omega) HQ.out HS.out HM.out x (by rw [evAt_drop]; exact hx)
      have Htk := Lib.hid htk
      have Hx := Lib.hid hx
      have hneq := neq30 x
      obtain ⟨xt, xn, xv, xf, xs, xa⟩ := x
      unfold Ev.cs at hneq
      dsimp only at hneq
      clear htk hx hc2 hn0
      go_wp2_with fail
      have htk := Htk.out
      with_reducible refine htk.mono ?_
      clear htk Htk y0 y1 hbx
      rintro e w2 ⟨rfl, ⟨sv2, hq2, hs2⟩, hk2⟩
      have hK2 := HK.out.trans hk2
      have hbx := hK2.blk HX0.out HBn.out
      have hr2 := HR0.out.kp hK2 HF.out
      have hbA : Below w2.heap.size w2 (w2.alloc (.cells #[.int .i64 xt, .int .i64 xn, .string xv, .int .i64 xf, .int .i64 xs, .bool xa] 30)) := (Below.refl _ _).alloc (Nat.le_refl _) _
      have hbx3 := (hbA.block _ (Array.getElem?_eq_some_iff.1 hbx).1).trans hbx
      have hr3 := hr2.below hbA
      have hq3 := hq2.below hbA
      have hK3 := hK2.trans (Kp.of_below hbA (qb g sv))
      have hX3 := heap_alloc_new w2 (.cells #[.int .i64 xt, .int .i64 xn, .string xv, .int .i64 xf, .int .i64 xs, .bool xa] 30)
      have Hbx3 := Lib.hid hbx3
      have Hr3 := Lib.hid hr3
      have Hq3 := Lib.hid hq3
      have HK3 := Lib.hid hK3
      have HX3 := Lib.hid hX3
      have Hs2 := Lib.hid hs2
      clear hbx hbx3 hr2 hr3 hq2 hq3 hK2 hK3 hX3 hk2 hbA hs2
      go_wp2_with fail
      generalize (w2.alloc (.cells #[.int .i64 xt, .int .i64 xn, .string xv, .int .i64 xf, .int .i64 xs, .bool xa] 30)) = w3 at *
      have y0 := blk_cell Hbx3.out 0
      have y1 := blk_cell Hbx3.out 1
      have z0 := blk_cell HX3.out 0
      have z1 := blk_cell HX3.out 1
      have z2 := blk_cell HX3.out 2
      have z3 := blk_cell HX3.out 3
      have z4 := blk_cell HX3.out 4
      have z5 := blk_cell HX3.out 5
      obtain ⟨A', c', hA, hrd⟩ := Hr3.out.rd
      injection hA with hA1 hA2 hA3
      subst hA1
      obtain ⟨b, rfl, hbl, hx⟩ := hrd (by have := HL.out; omega)
      have hx5 := hx i _ (evAt_some (by rw [HL.out]; exact hlt))
      rw [Hx.out] at hx5
      obtain ⟨x0, x1, x2, x3, x4, x5⟩ := hx5
      dsimp only at x0 x1 x2 x3 x4 x5
      clear hx hrd hA2 hA3
      go_quiet (fail)
      have hq9 : Hid (QS (w3.drewN nq) g lim (popL M).dropLast sv2) := Hq3.out
      have hk9 : Hid (Kp (qb g sv) W (w3.drewN nq)) := HK3.out.drewN nq
      clear x0 x1 x2 x3 x4 x5 y0 y1 z0 z1 z2 z3 z4 z5
      go_wp2
      go_roundw
      case rel => exact ⟨i + 1, _, sv2, by go_num, by omega, HC2, hq9, Hs2, hk9⟩
      case measure => simp [intOf]; omega
    · have hM0 : M = [] := List.eq_nil_of_length_eq_zero (by omega)
      subst hM0
      have hql := qlen_any g lim [] sv' wr hp HQ.out
      have Hql := Lib.hid hql
      clear hql
      go_wp2_with fail
      have hql := Hql.out
      with_reducible refine hql.mono ?_
      clear hql Hql
      rintro e w4 ⟨rfl, rfl⟩
      rw [show (([] : List Ev).length : Int) = 0 from rfl]
      go_wp2
      go_ret
      exact ⟨rfl, HK0.out.trans HK.out⟩
end Go.Proofs.Ytebcbjmdkbmnkaa
