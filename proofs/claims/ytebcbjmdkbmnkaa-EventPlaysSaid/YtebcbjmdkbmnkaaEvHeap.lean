/- The contracts of Pop, and of the heap's Push, Pop and Remove. -/
import Derived.Test.YtebcbjmdkbmnkaaEvPush
namespace Go.Proofs.Ytebcbjmdkbmnkaa
set_option linter.unusedVariables false
set_option linter.unusedSimpArgs false
open Go.RowKit

theorem Rw.len_le {w : World} {b c : Nat} {L : List Ev} (h : Rw w b c L) : L.length ≤ c := h.1
theorem Rw.init {w : World} {b c : Nat} {L M : List Ev} (h : Rw w b c (L ++ M)) : Rw w b c L := by
  obtain ⟨h1, h2, cur, h3, h4, h5⟩ := h
  rw [List.length_append] at h1
  exact ⟨by omega, h2, cur, h3, h4, fun i x hx => h5 i x (by rw [List.getElem?_append_left (List.getElem?_eq_some_iff.1 hx).1]; exact hx)⟩

theorem set0_q {w : World} {g c b n : Nat} {lim : Int} {sv u : Value} (hg : w.heap[g]? = some (.cells #[sv, .int .i64 lim] 53 (0, 0))) : (w.setCell ⟨g, 0, none⟩ u).heap[g]? = some (.cells #[u, .int .i64 lim] 53 (0, 0)) := by
  rw [blk_set hg 0]; rfl

set_option maxHeartbeats 1000000 in
theorem pop_ev (g b c : Nat) (lim : Int) (L : List Ev) (x : Ev) (w : World) (hn : L.length < 4096) (hQ : HQ w g b c lim (L ++ [x])) :
    Calls Try.prog 58 #[.pointer (some ⟨g, 0, none⟩)] w fun e w' => e = .returned (.iface 30 (.agg x.cs)) ∧ HQ w' g b c lim L ∧ Kp (· = g) w w' := by
  obtain ⟨hg, hr⟩ := hQ
  have hne : g ≠ b := HQ.ne ⟨hg, hr⟩
  have hlen := hr.len_le
  have hlt := hr.lt
  have hglt : g < w.heap.size := (Array.getElem?_eq_some_iff.1 hg).1
  obtain ⟨x0, x1, x2, x3, x4, x5⟩ := hr.at_ (i := L.length) (x := x) (by simp)
  rw [List.length_append, List.length_singleton] at hg hlen
  generalize hn' : L.length = n at *
  have Hn := Lib.hid hn'
  clear hn'
  have hc := blk_cell hg 0
  have hf := blk_frozen hg 0
  have Hg := Lib.hid hg
  have Hr := Lib.hid hr
  clear hg hr
  unfold Ev.cs
  obtain ⟨t, n', v, f, s, a⟩ := x
  dsimp only at *
  go_enter Try.func58, Try.ntmps58
  go_wp2
  go_ret
  refine ⟨rfl, ⟨?_, ?_⟩, ?_⟩
  · rw [Hn.out]; exact (Below.heap_alloc _ _ g (by simpa [World.setCell] using hglt)).trans (set0_q (c := 0) (b := 0) (n := 0) (sv := .slice (some ⟨b, 0, none⟩) (n + 1) c) Hg.out)
  · exact (Hr.out.init).blk_eq ((Below.heap_alloc _ _ b (by simpa [World.setCell] using hlt)).trans (Below.heap_setCell w _ _ b (fun h => hne h.symm)))
  · exact ((Kp.refl (· = g) w).setCell (p := ⟨g, 0, none⟩) (.inl rfl) _).alloc _

set_option maxHeartbeats 1000000 in
theorem len_ev (A : Option Addr) (n c : Nat) (w : World) :
    Calls Try.prog 51 #[.slice A n c] w fun e w' => e = .returned (.int .i64 n) ∧ w = w' := by
  go_enter Try.func51, Try.ntmps51
  go_wp2
  go_ret
  exact ⟨rfl, rfl⟩

theorem HQ.qs {w : World} {g b c : Nat} {lim : Int} {L : List Ev} (h : HQ w g b c lim L) : QS w g lim L (.slice (some ⟨b, 0, none⟩) L.length c) := ⟨h.1, h.2.own⟩
theorem QS.hq {w : World} {g : Nat} {lim : Int} {L : List Ev} {sv : Value} (h : QS w g lim L sv) (hL : 0 < L.length) : ∃ b c, sv = .slice (some ⟨b, 0, none⟩) L.length c ∧ HQ w g b c lim L := by
  obtain ⟨h1, h2⟩ := h
  obtain ⟨b, c, rfl, _, _⟩ := h2.form hL
  obtain ⟨_, hr⟩ := Rw.of_own h2
  exact ⟨b, c, rfl, h1, hr⟩
theorem QS.slice {w : World} {g : Nat} {lim : Int} {L : List Ev} {sv : Value} (h : QS w g lim L sv) : ∃ A c, sv = .slice A L.length c := by
  rcases h.2.2 with ⟨rfl, h0⟩ | ⟨g', cap, cur, rfl, _⟩
  · have : L.length = 0 := by
      have := flat_len L; rw [h0] at this; simp at this; omega
    exact ⟨none, 0, by rw [this]⟩
  · exact ⟨_, _, rfl⟩

theorem upL_len (L : List Ev) (j : Nat) : (upL L j).length = L.length := by
  induction L, j using upL.induct with
  | case1 L => rw [upL]; simp
  | case2 L j h hl ih => rw [upL, dif_neg h, if_pos hl, ih, swapL_len]
  | case3 L j h hl => rw [upL, dif_neg h, if_neg hl]
theorem downL_len (L : List Ev) (i n : Nat) : (downL L i n).1.length = L.length := by
  induction L, i using downL.induct (n := n) with
  | case1 L i h hl ih => rw [downL, if_pos h, if_pos hl, ih, swapL_len]
  | case2 L i h hl => rw [downL, if_pos h, if_neg hl]
  | case3 L i h => rw [downL, if_neg h]

def pushL (L : List Ev) (x : Ev) : List Ev := upL (L ++ [x]) L.length
theorem pushL_len (L : List Ev) (x : Ev) : (pushL L x).length = L.length + 1 := by simp [pushL, upL_len]

set_option maxHeartbeats 1000000 in
theorem heap_push (g : Nat) (lim : Int) (L : List Ev) (x : Ev) (sv : Value) (w : World) (hn : L.length < 4096) (hQ : QS w g lim L sv) :
    Calls Try.prog 22 #[.iface 58 (.pointer (some ⟨g, 0, none⟩)), .iface 30 (.agg x.cs)] w fun e w' => e = .returned (.tuple #[]) ∧
      ∃ sv', QS w' g lim (pushL L x) sv' ∧ (sv'.ownBlock = sv.ownBlock ∨ ∃ k, sv'.ownBlock = some k ∧ w.heap.size ≤ k) ∧ Kp (qb g sv) w w' := by
  obtain ⟨A, c, rfl⟩ := hQ.slice
  have hm1 := meth_push (w := w) (g := g)
  have HQ0 := Lib.hid hQ
  clear hQ
  go_enter Try.func22, Try.ntmps22
  go_wp2_with fail
  have hp := push_ev g lim A L.length c L x w (by omega) HQ0.out rfl
  with_reducible refine hp.mono ?_
  clear hp hm1
  rintro e w1 ⟨rfl, sv1, hq1, hat1, hk1⟩
  obtain ⟨b, c1, rfl, hh1⟩ := hq1.hq (by simp)
  rw [List.length_append, List.length_singleton] at hat1
  have hc1 := blk_cell hh1.1 0
  rw [List.length_append, List.length_singleton] at hc1
  have hm2 := meth_len hc1
  have Hh1 := Lib.hid hh1
  have Hat1 := Lib.hid hat1
  clear hq1 hh1 hc1 hat1
  go_wp2_with fail
  have hl := len_ev (some ⟨b, 0, none⟩) (L.length + 1) c1 w1
  with_reducible refine hl.mono ?_
  clear hl hm2
  rintro e w2 ⟨rfl, rfl⟩
  go_wp2_with fail
  have hu := up_any g b c1 L.length lim (L ++ [x]) w1 (by simp) (by simp; omega) Hh1.out
  with_reducible refine hu.mono ?_
  clear hu
  rintro e w3 ⟨rfl, hk3, hq3⟩
  have Hq3 := Lib.hid hq3
  clear hq3
  go_wp2
  go_end0
  refine ⟨rfl, _, Hq3.out.qs, ?_, hk1.trans' hk3 ?_⟩
  · exact Hat1.out
  · intro i hi
    subst hi
    rcases Hat1.out with h | ⟨k, h, hk⟩
    · exact .inl (.inr (h.symm.trans rfl))
    · simp [Value.ownBlock] at h; subst h; exact .inr hk

theorem down_int (g b c : Nat) (i0 n : Int) (lim : Int) (L : List Ev) (w : World) (h0 : 0 ≤ i0) (hi : i0 < L.length) (h1 : 0 ≤ n) (hnl : n ≤ L.length) (hn : L.length ≤ 4096) (hQ : HQ w g b c lim L) :
    Calls Try.prog 32 #[.iface 58 (.pointer (some ⟨g, 0, none⟩)), .int .i64 i0, .int .i64 n] w fun e w' => e = .returned (.bool (decide (i0.toNat < (downL L i0.toNat n.toNat).2))) ∧ Kp (· = b) w w' ∧ HQ w' g b c lim (downL L i0.toNat n.toNat).1 := by
  obtain ⟨i, rfl⟩ := Int.eq_ofNat_of_zero_le h0
  obtain ⟨n, rfl⟩ := Int.eq_ofNat_of_zero_le h1
  exact down_any g b c i n lim L w (by omega) (by omega) hn hQ

def popL (L : List Ev) : List Ev := (downL (swapL L 0 (L.length - 1)) 0 (L.length - 1)).1

theorem last_split {L : List Ev} {n : Nat} (h : L.length = n + 1) : L = L.dropLast ++ [evAt L n] := by
  have h2 : L ≠ [] := by intro h0; rw [h0] at h; simp at h
  have h3 := (List.dropLast_concat_getLast h2).symm
  have h4 : L.getLast h2 = evAt L n := by
    simp [evAt, List.getD_eq_getElem?_getD, List.getLast_eq_getElem, h]
  rw [h4] at h3
  exact h3

set_option maxHeartbeats 1000000 in
theorem heap_pop (g b c n : Nat) (lim : Int) (L : List Ev) (w : World) (hL : L.length = n + 1) (hn : n < 4096) (hQ : HQ w g b c lim L) :
    Calls Try.prog 23 #[.iface 58 (.pointer (some ⟨g, 0, none⟩))] w fun e w' => e = .returned (.iface 30 (.agg (evAt (popL L) n).cs)) ∧
      HQ w' g b c lim (popL L).dropLast ∧ Kp (fun k => k = g ∨ k = b) w w' := by
  have hc := blk_cell hQ.1 0
  rw [hL] at hc
  have hm1 := meth_len hc
  have hs1 := meth_swap hc
  have HQ0 := Lib.hid hQ
  have HL := Lib.hid hL
  clear hQ hc hL
  go_enter Try.func23, Try.ntmps23
  go_wp2_with fail
  have hl := len_ev (some ⟨b, 0, none⟩) (n + 1) c w
  with_reducible refine hl.mono ?_
  clear hl hm1
  rintro e w2 ⟨rfl, rfl⟩
  go_wp2_with fail
  have hsw := swap_int b c (n + 1) 0 (n : Int) L w HL.out (by omega) (by omega) (by omega) (by omega) (by omega) HQ0.out.2
  with_reducible refine hsw.mono ?_
  clear hsw hs1
  rintro e w2 ⟨rfl, hk2, hr2⟩
  have hq2 := HQ0.out.step hk2 hr2 (swapL_len _ _ _)
  have Hq2 := Lib.hid hq2
  clear hq2 hr2
  go_wp2_with fail
  have hd := down_int g b c 0 n lim (swapL L 0 n) w2 (by omega) (by rw [swapL_len, HL.out]; omega) (by omega) (by rw [swapL_len, HL.out]; omega) (by rw [swapL_len, HL.out]; omega) Hq2.out
  with_reducible refine hd.mono ?_
  clear hd
  rintro e w3 ⟨rfl, hk3, hq3⟩
  have hp : (downL (swapL L 0 n) 0 n).1 = popL L := by unfold popL; rw [HL.out]; rfl
  simp only [Int.toNat_natCast, Int.toNat_zero] at hq3
  rw [hp] at hq3
  have hlp : (popL L).length = n + 1 := by rw [← hp, downL_len, swapL_len, HL.out]
  rw [last_split hlp] at hq3
  have Hq3 := Lib.hid hq3
  have Hlp := Lib.hid hlp
  clear hq3 hp hlp
  have hm3 := meth_pop (w := w3) (g := g)
  go_wp2_with fail
  have hpo := pop_ev g b c lim (popL L).dropLast (evAt (popL L) n) w3 (by rw [List.length_dropLast, Hlp.out]; omega) Hq3.out
  with_reducible refine hpo.mono ?_
  clear hpo hm3
  rintro e w4 ⟨rfl, hq4, hk4⟩
  have Hq4 := Lib.hid hq4
  clear hq4
  go_wp2
  go_ret
  refine ⟨rfl, Hq4.out, ?_⟩
  exact ((hk2.mono (fun i h => .inr h)).trans (hk3.mono (fun i h => .inr h))).trans (hk4.mono (fun i h => .inl h))

def removeL (L : List Ev) (i : Nat) : List Ev :=
  if L.length - 1 = i then L else
    if i < (downL (swapL L i (L.length - 1)) i (L.length - 1)).2 then (downL (swapL L i (L.length - 1)) i (L.length - 1)).1 else upL (downL (swapL L i (L.length - 1)) i (L.length - 1)).1 i


set_option maxHeartbeats 2000000 in
theorem heap_remove (g b c n i : Nat) (lim : Int) (L : List Ev) (w : World) (hL : L.length = n + 1) (hi : i ≤ n) (hn : n < 4096) (hQ : HQ w g b c lim L) :
    Calls Try.prog 27 #[.iface 58 (.pointer (some ⟨g, 0, none⟩)), .int .i64 i] w fun e w' => e = .returned (.iface 30 (.agg (evAt (removeL L i) n).cs)) ∧
      HQ w' g b c lim (removeL L i).dropLast ∧ Kp (fun k => k = g ∨ k = b) w w' := by
  have hc := blk_cell hQ.1 0
  rw [hL] at hc
  have hm1 := meth_len hc
  have hs1 := meth_swap hc
  have HQ0 := Lib.hid hQ
  have HL := Lib.hid hL
  clear hQ hc hL
  by_cases hin : i = n
  · subst hin
    have hb1 : (((i : Nat) : Int) != (i : Int)) = false := by simp
    have hrm : removeL L i = L := by unfold removeL; rw [HL.out, if_pos (by omega)]
    have hlp : (removeL L i).length = i + 1 := by rw [hrm, HL.out]
    have hq3 := HQ0.out
    rw [← hrm, last_split hlp] at hq3
    have Hq3 := Lib.hid hq3
    have Hlp := Lib.hid hlp
    clear hq3 hlp hrm
    go_enter Try.func27, Try.ntmps27
    go_wp2_with fail
    have hl := len_ev (some ⟨b, 0, none⟩) (i + 1) c w
    with_reducible refine hl.mono ?_
    clear hl hm1
    rintro e w2 ⟨rfl, rfl⟩
    have hm3 := meth_pop (w := w) (g := g)
    go_wp2_with fail
    have hpo := pop_ev g b c lim (removeL L i).dropLast (evAt (removeL L i) i) w (by rw [List.length_dropLast, Hlp.out]; omega) Hq3.out
    with_reducible refine hpo.mono ?_
    clear hpo hm3
    rintro e w4 ⟨rfl, hq4, hk4⟩
    have Hq4 := Lib.hid hq4
    clear hq4
    go_wp2
    go_ret
    exact ⟨rfl, Hq4.out, hk4.mono (fun i h => .inl h)⟩
  · have hb1 : ((n : Int) != (i : Int)) = true := by rw [bne_iff_ne]; omega
    have hb2 : ¬ ((n : Int) = (i : Int)) := by omega
    have hi2 : i < n := by omega
    clear hin hi
    go_enter Try.func27, Try.ntmps27
    go_wp2_with fail
    have hl := len_ev (some ⟨b, 0, none⟩) (n + 1) c w
    with_reducible refine hl.mono ?_
    clear hl hm1
    rintro e w2 ⟨rfl, rfl⟩
    go_wp2_with fail
    have hsw := swap_int b c (n + 1) (i : Int) (n : Int) L w HL.out (by omega) (by omega) (by omega) (by omega) (by omega) HQ0.out.2
    with_reducible refine hsw.mono ?_
    clear hsw hs1
    rintro e w2 ⟨rfl, hk2, hr2⟩
    have hq2 := HQ0.out.step hk2 hr2 (swapL_len _ _ _)
    have Hq2 := Lib.hid hq2
    clear hq2 hr2
    simp only [Int.toNat_natCast] at Hq2
    go_wp2_with fail
    have hd := down_int g b c (i : Int) (n : Int) lim (swapL L i n) w2 (by omega) (by rw [swapL_len, HL.out]; omega) (by omega) (by rw [swapL_len, HL.out]; omega) (by rw [swapL_len, HL.out]; omega) Hq2.out
    with_reducible refine hd.mono ?_
    clear hd
    rintro e w3 ⟨rfl, hk3, hq3⟩
    simp only [Int.toNat_natCast] at hq3 ⊢
    have hlD : (downL (swapL L i n) i n).1.length = n + 1 := by rw [downL_len, swapL_len, HL.out]
    cases hlt : decide (i < (downL (swapL L i n) i n).2) with
    | true =>
      have hrm : removeL L i = (downL (swapL L i n) i n).1 := by unfold removeL; rw [HL.out, if_neg (by omega), show n + 1 - 1 = n from by omega, if_pos (by simpa using hlt)]
      have hlp : (removeL L i).length = n + 1 := by rw [hrm, hlD]
      rw [← hrm, last_split hlp] at hq3
      have Hq3 := Lib.hid hq3
      have Hlp := Lib.hid hlp
      clear hq3 hlp hrm hlD hlt
      have hm3 := meth_pop (w := w3) (g := g)
      go_wp2_with fail
      have hpo := pop_ev g b c lim (removeL L i).dropLast (evAt (removeL L i) n) w3 (by rw [List.length_dropLast, Hlp.out]; omega) Hq3.out
      with_reducible refine hpo.mono ?_
      clear hpo hm3
      rintro e w4 ⟨rfl, hq4, hk4⟩
      have Hq4 := Lib.hid hq4
      clear hq4
      go_wp2
      go_ret
      refine ⟨rfl, Hq4.out, ?_⟩
      exact ((hk2.mono (fun i h => .inr h)).trans (hk3.mono (fun i h => .inr h))).trans (hk4.mono (fun i h => .inl h))
    | false =>
      have Hq3 := Lib.hid hq3
      have HlD := Lib.hid hlD
      have Hlt := Lib.hid hlt
      clear hq3 hlD hlt
      go_wp2_with fail
      have hup := up_any g b c i lim (downL (swapL L i n) i n).1 w3 (by rw [HlD.out]; omega) (by rw [HlD.out]; omega) Hq3.out
      with_reducible refine hup.mono ?_
      clear hup
      rintro e w4 ⟨rfl, hk4, hq4⟩
      have hrm : removeL L i = upL (downL (swapL L i n) i n).1 i := by
        have := Hlt.out
        unfold removeL; rw [HL.out, if_neg (by omega), show n + 1 - 1 = n from by omega, if_neg (by simpa using this)]
      have hlp : (removeL L i).length = n + 1 := by rw [hrm, upL_len, HlD.out]
      rw [← hrm, last_split hlp] at hq4
      have Hq4 := Lib.hid hq4
      have Hlp := Lib.hid hlp
      clear hq4 hlp hrm
      have hm3 := meth_pop (w := w4) (g := g)
      go_wp2_with fail
      have hpo := pop_ev g b c lim (removeL L i).dropLast (evAt (removeL L i) n) w4 (by rw [List.length_dropLast, Hlp.out]; omega) Hq4.out
      with_reducible refine hpo.mono ?_
      clear hpo hm3
      rintro e w5 ⟨rfl, hq5, hk5⟩
      have Hq5 := Lib.hid hq5
      clear hq5
      go_wp2
      go_ret
      refine ⟨rfl, Hq5.out, ?_⟩
      exact (((hk2.mono (fun i h => .inr h)).trans (hk3.mono (fun i h => .inr h))).trans (hk4.mono (fun i h => .inr h))).trans (hk5.mono (fun i h => .inl h))
end Go.Proofs.Ytebcbjmdkbmnkaa
