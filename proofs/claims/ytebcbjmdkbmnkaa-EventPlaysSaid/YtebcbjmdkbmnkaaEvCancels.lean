/- The walk of EventCancels: it returns true for every list of times and every number. -/
import Derived.Test.YtebcbjmdkbmnkaaEvMine
import Derived.Test.YtebcbjmdkbmnkaaEvRow2
namespace Go.Proofs.Ytebcbjmdkbmnkaa
set_option linter.unusedVariables false
set_option linter.unusedSimpArgs false
open Go.RowKit

theorem filter_out {α : Type} [DecidableEq α] (keep keep' : α → Bool) (i : α) : ∀ (l : List α), l.Nodup → i ∈ l → keep i = true → keep' i = false → (∀ j, j ≠ i → keep' j = keep j) → (l.filter keep).Perm (i :: l.filter keep') := by
  intro l
  induction l with
  | nil => intro _ h; cases h
  | cons x l ih =>
    intro hn hi hk hk' hj
    obtain ⟨hx, hn'⟩ := List.nodup_cons.1 hn
    by_cases e : x = i
    · subst e
      rw [List.filter_cons_of_pos hk, List.filter_cons_of_neg (by simp [hk'])]
      have : l.filter keep' = l.filter keep := List.filter_congr (fun j hjl => hj j (fun e => hx (e ▸ hjl)))
      rw [this]
    · have hil : i ∈ l := by
        rcases List.mem_cons.1 hi with h | h
        · exact absurd h.symm e
        · exact h
      have h1 := ih hn' hil hk hk' hj
      by_cases hkx : keep x = true
      · rw [List.filter_cons_of_pos hkx, List.filter_cons_of_pos (by rw [hj x e]; exact hkx)]
        exact (List.Perm.cons x h1).trans (List.Perm.swap _ _ _)
      · rw [List.filter_cons_of_neg hkx, List.filter_cons_of_neg (by rw [hj x e]; exact hkx)]
        exact h1

/-- Of the n first events that 'mk' makes those that are kept, as a heap. -/
def Kept (mk : Nat → Ev) (n : Nat) (keep : Nat → Bool) (L : List Ev) : Prop := Inv L ∧ L.Perm (((List.range n).filter keep).map mk)
theorem Kept.start {mk : Nat → Ev} {n : Nat} {L : List Ev} {keep : Nat → Bool} (h : Filled mk n L) (hk : ∀ i, keep i = true) : Kept mk n keep L := by
  refine ⟨h.1, ?_⟩
  rw [List.filter_eq_self.2 (fun i _ => hk i)]
  exact h.2
theorem Kept.congr {mk : Nat → Ev} {n : Nat} {L : List Ev} {keep keep' : Nat → Bool} (h : Kept mk n keep L) (hk : ∀ i, i < n → keep' i = keep i) : Kept mk n keep' L := by
  refine ⟨h.1, ?_⟩
  rw [List.filter_congr (q := keep) (fun i hi => hk i (List.mem_range.1 hi))]
  exact h.2
theorem Kept.mem {mk : Nat → Ev} {n : Nat} {L : List Ev} {keep : Nat → Bool} (h : Kept mk n keep L) {y : Ev} : y ∈ L ↔ ∃ i, i < n ∧ keep i = true ∧ y = mk i := by
  rw [h.2.mem_iff]
  simp only [List.mem_map, List.mem_filter, List.mem_range]
  constructor
  · rintro ⟨i, ⟨h1, h2⟩, rfl⟩; exact ⟨i, h1, h2, rfl⟩
  · rintro ⟨i, h1, h2, rfl⟩; exact ⟨i, ⟨h1, h2⟩, rfl⟩

theorem evAt_eq {L : List Ev} {i : Nat} (h : i < L.length) : evAt L i = L[i] := by simp [evAt, List.getD_eq_getElem?_getD, List.getElem?_eq_getElem h]

theorem idxP_hit {p : Ev → Bool} {L : List Ev} {y : Ev} (hy : y ∈ L) (hp : p y = true) : ∃ i : Nat, idxP p L = i ∧ i < L.length ∧ p (evAt L i) = true := by
  unfold idxP
  cases h : L.findIdx? p with
  | none =>
    rw [List.findIdx?_eq_none_iff] at h
    rw [h y hy] at hp
    cases hp
  | some i =>
    obtain ⟨h1, h2, _⟩ := List.findIdx?_eq_some_iff_getElem.1 h
    exact ⟨i, rfl, h1, by rw [evAt_eq h1]; exact h2⟩
theorem idxP_miss {p : Ev → Bool} {L : List Ev} (h : ∀ y ∈ L, p y = false) : idxP p L = -1 := idxP_none (fun i hi => h _ (evAt_mem hi))

theorem Kept.hit {mk : Nat → Ev} {n i : Nat} {L : List Ev} {keep keep' : Nat → Bool} (hm : ∀ i : Nat, (mk i).s = (i : Int) ∧ (mk i).f = 1) (h : Kept mk n keep L) (hi : i < n) (hk : keep i = true)
    (hk' : keep' i = false) (hj : ∀ j, j ≠ i → keep' j = keep j) : ∃ L', cancelE L 1 i = (true, L') ∧ Kept mk n keep' L' := by
  have hin : mk i ∈ L := h.mem.2 ⟨i, hi, hk, rfl⟩
  obtain ⟨k, e, hkl, hp⟩ := idxP_hit (p := sameNo 1 i) hin (by simp [sameNo, (hm i).1, (hm i).2])
  obtain ⟨j, hjn, hjk, ej⟩ := h.mem.1 (evAt_mem hkl)
  have hji : j = i := by
    rw [ej] at hp
    simp only [sameNo, Bool.and_eq_true, beq_iff_eq] at hp
    have := hp.2
    rw [(hm j).1] at this
    omega
  subst hji
  obtain ⟨h1, h2, h3, h4⟩ := removeL_facts (i := k) (n := L.length - 1) h.1 (by omega) (by omega)
  refine ⟨_, by unfold cancelE; rw [e, if_neg (by omega), Int.toNat_natCast], h3, ?_⟩
  have h5 := (filter_out keep keep' j (List.range n) List.nodup_range (List.mem_range.2 hjn) hk hk' hj).map mk
  have h6 := (h4.symm.trans h.2).trans h5
  rw [ej] at h6
  exact List.Perm.cons_inv h6
theorem Kept.miss {mk : Nat → Ev} {n : Nat} {f s : Int} {L : List Ev} {keep : Nat → Bool} (h : Kept mk n keep L) (hm : ∀ i, i < n → keep i = true → sameNo f s (mk i) = false) : cancelE L f s = (false, L) := by
  unfold cancelE
  rw [idxP_miss (fun y hy => by obtain ⟨i, hi, hk, rfl⟩ := h.mem.1 hy; exact hm i hi hk), if_pos (by omega)]

def evC (zs : List Int) (k : Nat) : Ev := ⟨bits .and .i64 (zs.getD k 0) 255, 0, ⟨#[]⟩, 1, k, false⟩
theorem evC_ok (zs : List Int) (i : Nat) : (evC zs i).s = (i : Int) ∧ 0 ≤ (evC zs i).t ∧ (evC zs i).t ≤ 4611686018427387903 ∧ (evC zs i).a = false := by
  have := mask_range (zs.getD i 0) 255 (by omega) (by omega)
  refine ⟨rfl, this.1, ?_, rfl⟩
  show bits .and .i64 (zs.getD i 0) 255 ≤ _
  have h2 := this.2
  omega

theorem cancel_mine {w0 w : World} {g : Nat} {lim : Int} {L : List Ev} (f s : Int) (hp : 0 < lim) (hn : L.length ≤ lim) (hm : lim ≤ 4096) (hq : MyQ w0.heap.size w g lim L) (hb : Below w0.heap.size w0 w) (r : Bool) (M : List Ev)
    (he : cancelE L f s = (r, M)) :
    Calls Try.prog 14 #[.pointer (some ⟨g, 0, none⟩), .int .i64 f, .int .i64 s] w fun e w' => e = .returned (.bool r) ∧ MyQ w0.heap.size w' g lim M ∧ Below w0.heap.size w0 w' := by
  obtain ⟨hg, sv, h1, h2⟩ := hq
  refine (cancel_any g lim L f s sv w hp hn hm h1).mono ?_
  rintro e w' ⟨rfl, hpost⟩
  rw [he] at hpost ⊢
  obtain ⟨sv', h3, h4, h5⟩ := hpost.fresh hb hg h2
  exact ⟨rfl, ⟨hg, sv', h3, h4⟩, h5⟩

theorem take_mine1 {w0 w : World} {g m : Nat} {lim : Int} {M : List Ev} (hp : 0 < lim) (hl : M.length = m + 1) (hm : m < 4096) (hq : MyQ w0.heap.size w g lim M) (hb : Below w0.heap.size w0 w) (hi : Inv M) (x : Ev) (hx : evAt M 0 = x) :
    Calls Try.prog 11 #[.pointer (some ⟨g, 0, none⟩)] w fun e w' => e = .returned (.tuple #[.agg #[.int .i64 x.t, .int .i64 x.n, .string x.v, .int .i64 x.f, .int .i64 x.s, .bool x.a], .bool true]) ∧
      MyQ w0.heap.size w' g lim (popL M).dropLast ∧ Below w0.heap.size w0 w' := by
  obtain ⟨hg, sv, h1, h2⟩ := hq
  obtain ⟨T, hT⟩ : ∃ T, sv.ownBlock ≠ some T := by
    cases sv.ownBlock with
    | none => exact ⟨0, by simp⟩
    | some k => exact ⟨k + 1, by simp⟩
  refine (take_mine hp hl hm ⟨hg, sv, h1, h2, hT⟩ hb hi x hx).mono ?_
  rintro e w' ⟨he, ⟨h3, sv', h4, h5, _⟩, h6, _⟩
  exact ⟨he, ⟨h3, sv', h4, h5⟩, h6⟩
theorem MyQ.below {H : Nat} {w w' : World} {g : Nat} {lim : Int} {L : List Ev} (h : MyQ H w g lim L) (hb : Below w.heap.size w w') : MyQ H w' g lim L := by
  obtain ⟨h1, sv, h2, h3⟩ := h
  exact ⟨h1, sv, h2.below hb, h3⟩

def bitC (wh : Int) (q : Nat) : Bool := bits .and .i64 (wh / 2 ^ q) 1 == 1
def keepC (wh : Int) (q : Nat) (i : Nat) : Bool := !(decide (i < q) && bitC wh i)
def cntC (wh : Int) (q : Nat) : Nat := ((List.range q).filter (fun i => !bitC wh i)).length
theorem cntC_le (wh : Int) (q : Nat) : cntC wh q ≤ q := by
  unfold cntC; exact Nat.le_trans (List.length_filter_le _ _) (by simp)
theorem cntC_succ_hit (wh : Int) (q : Nat) (h : bitC wh q = true) : cntC wh (q + 1) = cntC wh q := by
  unfold cntC; rw [List.range_succ, List.filter_append]; simp [h]
theorem cntC_succ_miss (wh : Int) (q : Nat) (h : bitC wh q = false) : cntC wh (q + 1) = cntC wh q + 1 := by
  unfold cntC; rw [List.range_succ, List.filter_append]; simp [h]
theorem Kept.cnt {mk : Nat → Ev} {wh : Int} {k : Nat} {L : List Ev} (h : Kept mk k (keepC wh k) L) : L.length = cntC wh k := by
  have := h.2.length_eq
  rw [List.length_map] at this
  rw [this]
  unfold cntC
  rw [List.filter_congr (q := fun i => !bitC wh i)]
  intro i hi
  simp [keepC, List.mem_range.1 hi]

/-- what is left while the kept ones are taken out -/
def LeftC (mk : Nat → Ev) (wh : Int) (k : Nat) (last : Int) (M : List Ev) : Prop :=
  Inv M ∧ ∀ y ∈ M, last ≤ y.t ∧ ∃ i, i < k ∧ y = mk i ∧ bitC wh i = false
theorem LeftC.start {zs : List Int} {wh : Int} {k : Nat} {M : List Ev} (h : Kept (evC zs) k (keepC wh k) M) : LeftC (evC zs) wh k (-1) M := by
  refine ⟨h.1, fun y hy => ?_⟩
  obtain ⟨i, hi, hk, rfl⟩ := h.mem.1 hy
  have := (evC_ok zs i).2.1
  refine ⟨by omega, i, hi, rfl, ?_⟩
  simpa [keepC, hi] using hk
theorem LeftC.take {mk : Nat → Ev} {wh : Int} {k m : Nat} {last : Int} {M : List Ev} (h : LeftC mk wh k last M) (hl : M.length = m + 1) :
    ∃ i, i < k ∧ evAt M 0 = mk i ∧ bitC wh i = false ∧ last ≤ (mk i).t ∧ LeftC mk wh k (mk i).t (popL M).dropLast := by
  obtain ⟨t1, t2, t3, t4, t5, t6⟩ := take_step h.1 hl
  obtain ⟨h1, i, hi, e, hb⟩ := h.2 _ t6
  refine ⟨i, hi, e, hb, e ▸ h1, t2, fun y hy => ⟨?_, (h.2 y (t3.mem_iff.2 (List.mem_cons_of_mem _ hy))).2⟩⟩
  have := t5 y hy
  rw [e] at this
  unfold LeE LtE at this
  omega

set_option maxRecDepth 100000 in
set_option maxHeartbeats 4000000 in
theorem cancels_any (A : Option Addr) (n c : Nat) (zs : List Int) (wh : Int) (w : World) (hz : zs.length = n) (hA : IntsAt w A zs) :
    Calls Try.prog 5 #[.slice A n c, .int .i64 wh] w fun e w' => e = .returned (.bool true) ∧ Below w.heap.size w w' := by
  by_cases hbig : 60 < n
  · have hd : decide (60 < n) = true := by simpa using hbig
    go_enter Try.func5, Try.ntmps5
    go_wp2_with fail
    have h1 := new_any 4096 w (by omega) (by omega)
    with_reducible refine h1.mono ?_
    clear h1
    rintro e w1 ⟨g, rfl, hg, hq1, hb1⟩
    have Hq1 := Lib.hid hq1
    clear hq1
    go_wp2_with fail
    have haw := awake_any w1
    with_reducible refine haw.mono ?_
    clear haw
    rintro e w2 ⟨rfl, hb2⟩
    go_wp2
    go_ret
    exact ⟨rfl, hb1.trans (hb2.mono hb1.size)⟩
  · have hn : n ≤ 60 := by omega
    have hd : decide (60 < n) = false := by simpa using hbig
    clear hbig
    have Hz := Lib.hid hz
    have HA := Lib.hid hA
    clear hz hA
    go_enter Try.func5, Try.ntmps5
    go_wp2_with fail
    have h1 := new_any 4096 w (by omega) (by omega)
    with_reducible refine h1.mono ?_
    clear h1
    rintro e w1 ⟨g, rfl, hg, hq1, hb1⟩
    have hm1 : MyQ w.heap.size w1 g 4096 [] := ⟨hg, _, hq1, by simp [Value.ownBlock]⟩
    have Hm1 := Lib.hid hm1
    clear hq1 hm1
    go_wp2
    go_loopw [8] (fun iv wr => ∃ (k : Nat) (L : List Ev), iv = .int .i64 k ∧ k ≤ n ∧ Hid (Filled (evC zs) k L) ∧ Hid (MyQ w.heap.size wr g 4096 L) ∧ Below w.heap.size w wr) (fun iv _ => n - (intOf iv).toNat)
    case atStart => exact ⟨0, [], rfl, by omega, Filled.nil _, Hm1.out, hb1⟩
    case round =>
      clear Hm1
      obtain ⟨k, L, rfl, hk, HF, HQ, hB⟩ := hrel
      by_cases hlt : k < n
      · obtain ⟨b, o, rfl, hbl, hcell⟩ := (HA.out.below hB) (by rw [Hz.out]; omega)
        have hc1 := hcell k (by rw [Hz.out]; exact hlt)
        have hf := HF.out.put (evC_ok zs) (by omega)
        have hlen : (L.length : Int) ≤ 4096 := by have := HF.out.len; omega
        have hpu := put_mine (w0 := w) (bits .and .i64 (zs[k]?.getD 0) 255) 0 1 k ⟨#[]⟩ false (by omega) hlen (by omega) HQ.out hB 0 (pushL L (evC zs k)) hf.1
        have Hpu := Lib.hid hpu
        have Hf := Lib.hid hf.2
        clear hcell hf hpu hlen
        go_wp2_with fail
        have hpu := Hpu.out
        with_reducible refine hpu.mono ?_
        clear hpu Hpu hc1
        rintro e w2 ⟨rfl, hq2, hb2⟩
        have HQ2 := Lib.hid hq2
        clear hq2
        go_wp2
        go_roundw
        case rel => exact ⟨k + 1, _, by go_num, by omega, Hf, HQ2, hb2⟩
        case measure => simp [intOf]; omega
      · have hkn : k = n := by omega
        subst hkn
        clear hlt hk
        go_wp2
        have hK0 : Kept (evC zs) k (keepC wh 0) L := Kept.start HF.out (fun i => by simp [keepC])
        have HK0 := Lib.hid hK0
        clear hK0
        go_loopw [9, 7] (fun iv lv wr => ∃ (q : Nat) (M : List Ev) (r : Nat), iv = .int .i64 q ∧ lv = .int .i64 r ∧ q ≤ k ∧ r ≤ q ∧ Hid (r = cntC wh q) ∧ Hid (Kept (evC zs) k (keepC wh q) M) ∧ Hid (M.length ≤ 4096) ∧ Hid (MyQ w.heap.size wr g 4096 M) ∧ Below w.heap.size w wr) (fun iv _ _ => k - (intOf iv).toNat)
        case atStart => exact ⟨0, L, 0, rfl, rfl, by omega, by omega, rfl, HK0, by have := HF.out.len; show L.length ≤ _; omega, HQ, hB⟩
        case round =>
          clear HQ hB HK0 HF
          obtain ⟨q, M, r, rfl, rfl, hq, hr, HR, HK, HM, HQ, hB⟩ := hrel
          by_cases hlt : q < k
          · cases hbit : bitC wh q with
            | true =>
              obtain ⟨M', he1, hk1⟩ := HK.out.hit (keep' := keepC wh (q + 1)) (fun i => ⟨rfl, rfl⟩) hlt (by simp [keepC]) (by simp [keepC, hbit]) (fun j hj => by
                unfold keepC
                by_cases h1 : j < q
                · simp [h1, show j < q + 1 by omega]
                · simp [h1, show ¬ j < q + 1 by omega])
              have hl1 : M'.length ≤ 4096 := by
                have := hk1.2.length_eq
                rw [List.length_map] at this
                have h2 := List.length_filter_le (keepC wh (q + 1)) (List.range k)
                rw [List.length_range] at h2
                omega
              have he2 : cancelE M' 1 q = (false, M') := hk1.miss (fun i hi hk => by
                have : i ≠ q := by rintro rfl; simp [keepC, hbit] at hk
                simp only [sameNo, evC, Bool.and_eq_false_iff, beq_eq_false_iff_ne]
                right; omega)
              have he3 : cancelE M' 2 q = (false, M') := hk1.miss (fun i hi hk => by simp [sameNo, evC])
              have hc1 := cancel_mine (w0 := w) (w := wr) 1 (q : Int) (by omega) (by have := HM.out; omega) (by omega) HQ.out hB true M' he1
              have He2 := Lib.hid he2
              have He3 := Lib.hid he3
              have Hk1 := Lib.hid hk1
              have Hl1 := Lib.hid hl1
              have Hc1 := Lib.hid hc1
              have hR2 : Hid (r = cntC wh (q + 1)) := by rw [cntC_succ_hit wh q hbit]; exact HR
              have hb1 : (bits .and .i64 (wh / 2 ^ q) 1 == 1) = true := hbit
              clear he2 he3 hk1 hl1 hc1 hbit he1
              go_wp2_with fail
              have hc1 := Hc1.out
              with_reducible refine hc1.mono ?_
              clear hc1 Hc1
              rintro e w2 ⟨rfl, hq2, hb2⟩
              have hc2 := cancel_mine (w0 := w) (w := w2) 1 (q : Int) (by omega) (by have := Hl1.out; omega) (by omega) hq2 hb2 false M' He2.out
              have Hc2 := Lib.hid hc2
              clear hc2 hq2
              go_wp2_with fail
              have hc2 := Hc2.out
              with_reducible refine hc2.mono ?_
              clear hc2 Hc2
              rintro e w3 ⟨rfl, hq3, hb3⟩
              have hc3 := cancel_mine (w0 := w) (w := w3) 2 (q : Int) (by omega) (by have := Hl1.out; omega) (by omega) hq3 hb3 false M' He3.out
              have Hc3 := Lib.hid hc3
              clear hc3 hq3
              go_wp2_with fail
              have hc3 := Hc3.out
              with_reducible refine hc3.mono ?_
              clear hc3 Hc3
              rintro e w4 ⟨rfl, hq4, hb4⟩
              have Hq4 := Lib.hid hq4
              clear hq4
              go_wp2
              go_roundw
              case rel => exact ⟨q + 1, M', r, by go_num, rfl, by omega, by omega, hR2, Hk1, Hl1, Hq4, hb4⟩
              case measure => simp [intOf]; omega
            | false =>
              have hk1 : Hid (Kept (evC zs) k (keepC wh (q + 1)) M) := HK.out.congr (fun j hj => by
                unfold keepC
                by_cases h1 : j = q
                · subst h1; simp [hbit]
                · by_cases h2 : j < q
                  · simp [h2, show j < q + 1 by omega]
                  · simp [h2, show ¬ j < q + 1 by omega])
              have hR2 : Hid (r + 1 = cntC wh (q + 1)) := by rw [cntC_succ_miss wh q hbit, ← HR.out]; rfl
              have hb1 : (bits .and .i64 (wh / 2 ^ q) 1 == 1) = false := hbit
              clear hbit
              go_wp2
              go_roundw
              case rel => exact ⟨q + 1, M, r + 1, by go_num, by go_num, by omega, by omega, hR2, hk1, HM, HQ, hB⟩
              case measure => simp [intOf]; omega
          · have hqk : q = k := by omega
            subst hqk
            have hL0 := LeftC.start HK.out
            have hlen : M.length = r := by rw [HK.out.cnt, HR.out]
            have HL0 := Lib.hid hL0
            have Hlen := Lib.hid hlen
            clear hL0 hlen hq hlt
            go_wp2
            go_loopw [11, 10] (fun iv lv wr => ∃ (p : Nat) (M : List Ev) (la : Int), iv = .int .i64 p ∧ lv = .int .i64 la ∧ p ≤ r ∧ Hid (M.length + p = r) ∧ Hid (LeftC (evC zs) wh q la M) ∧ Hid (MyQ w.heap.size wr g 4096 M) ∧ Below w.heap.size w wr) (fun iv _ _ => r - (intOf iv).toNat)
            case atStart => exact ⟨0, M, -1, rfl, rfl, by omega, by have := Hlen.out; show M.length + 0 = r; omega, HL0, HQ, hB⟩
            case round =>
              clear HQ hB HL0 HK HM HR Hlen
              obtain ⟨p, M, la, rfl, rfl, hp, HM, HL, HQ, hB⟩ := hrel
              by_cases hlt : p < r
              · have hml : M.length = (r - p - 1) + 1 := by have := HM.out; omega
                obtain ⟨j, hj, hje, hbj, hlaj, hleft⟩ := HL.out.take hml
                obtain ⟨z, hz⟩ : ∃ z, zs.getD j 0 = z := ⟨_, rfl⟩
                have hxe : evC zs j = ⟨bits .and .i64 z 255, 0, ⟨#[]⟩, 1, j, false⟩ := by unfold evC; rw [hz]
                rw [hxe] at hje hlaj hleft
                dsimp only at hlaj hleft
                have htk := take_mine1 (w0 := w) (by omega) hml (by omega) HQ.out hB HL.out.1 _ hje
                have hlen2 : (popL M).dropLast.length + (p + 1) = r := by have := (take_step HL.out.1 hml).2.2.2.1; omega
                have Htk := Lib.hid htk
                have Hleft := Lib.hid hleft
                have Hlen2 := Lib.hid hlen2
                have hb1 : (bits .and .i64 (wh / 2 ^ j) 1 == 1) = false := hbj
                have hd1 : decide (bits .and .i64 z 255 < la) = false := by simpa using hlaj
                have hj0 : (0 : Int) ≤ (j : Int) := by omega
                have hj6 : (j : Int) < 64 := by omega
                clear htk hleft hlen2 hml hje hz hxe hbj hlaj HM HL HQ
                go_wp2_with fail
                have htk := Htk.out
                with_reducible refine htk.mono ?_
                clear htk Htk
                rintro e w3 ⟨rfl, hq3, hb3⟩
                dsimp only
                have hbA : Below w3.heap.size w3 (w3.alloc (.cells #[.int .i64 (bits .and .i64 z 255), .int .i64 0, .string ⟨#[]⟩, .int .i64 1, .int .i64 (j : Int), .bool false] 30)) := (Below.refl _ _).alloc (Nat.le_refl _) _
                have hq4 := hq3.below hbA
                have hb4 : Below w.heap.size w _ := hb3.trans (hbA.mono hb3.size)
                have Hq4 := Lib.hid hq4
                clear hbA hq3 hq4 hb3
                go_wp2
                go_roundw
                case rel => exact ⟨p + 1, _, _, by go_num, rfl, by omega, Hlen2, Hleft, Hq4, hb4⟩
                case measure => simp [intOf]; omega
              · have hpr : p = r := by omega
                subst hpr
                have hM0 : M = [] := List.eq_nil_of_length_eq_zero (by have := HM.out; omega)
                subst hM0
                obtain ⟨hg1, sv, hq1, _⟩ := HQ.out
                have Hq1 := Lib.hid hq1
                clear hq1
                go_wp2_with fail
                have hln := qlen_any g 4096 [] sv wr (by omega) Hq1.out
                with_reducible refine hln.mono ?_
                clear hln
                rintro e w4 ⟨rfl, rfl⟩
                rw [show (([] : List Ev).length : Int) = 0 from rfl]
                go_wp2_with fail
                have haw := awake_any wr
                with_reducible refine haw.mono ?_
                clear haw
                rintro e w5 ⟨rfl, hb5⟩
                go_wp2
                go_ret
                exact ⟨rfl, hB.trans (hb5.mono hB.size)⟩
end Go.Proofs.Ytebcbjmdkbmnkaa
