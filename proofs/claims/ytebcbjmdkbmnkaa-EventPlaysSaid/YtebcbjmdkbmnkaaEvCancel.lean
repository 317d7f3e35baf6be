/- The contracts of a queue's Len and Cancel. -/
import Derived.Test.YtebcbjmdkbmnkaaEvTake
namespace Go.Proofs.Ytebcbjmdkbmnkaa
set_option linter.unusedVariables false
set_option linter.unusedSimpArgs false
open Go.RowKit

set_option maxHeartbeats 1000000 in
theorem qlen_any (g : Nat) (lim : Int) (L : List Ev) (sv : Value) (w : World) (hp : 0 < lim) (hQ : QS w g lim L sv) :
    Calls Try.prog 12 #[.pointer (some ⟨g, 0, none⟩)] w fun e w' => e = .returned (.int .i64 L.length) ∧ w = w' := by
  obtain ⟨A, c, rfl⟩ := hQ.slice
  have hdp : decide (0 < lim) = true := by simpa using hp
  have hc0 := blk_cell hQ.1 0
  have hc1 := blk_cell hQ.1 1
  clear hQ
  go_enter Try.func12, Try.ntmps12
  go_wp2_with fail
  have hgv := given_ptr g lim _ hc1 hdp
  with_reducible refine hgv.mono ?_
  clear hgv
  rintro e w1 ⟨rfl, rfl⟩
  go_wp2
  go_ret
  exact ⟨rfl, rfl⟩

set_option maxHeartbeats 1000000 in
theorem qlen_bad (q : Value) (w : World) (hg : Calls Try.prog 19 #[q] w fun e w'' => e = .returned (.bool false) ∧ w = w'') :
    Calls Try.prog 12 #[q] w fun e w' => e = .returned (.int .i64 0) ∧ w = w' := by
  have HG := Lib.hid hg
  clear hg
  go_enter Try.func12, Try.ntmps12
  go_wp2_with fail
  have h1 := HG.out
  with_reducible refine h1.mono ?_
  clear h1
  rintro e w1 ⟨rfl, rfl⟩
  go_wp2
  go_ret
  exact ⟨rfl, rfl⟩

set_option maxHeartbeats 1000000 in
theorem copy_bad (q : Value) (w : World) (hg : Calls Try.prog 19 #[q] w fun e w'' => e = .returned (.bool false) ∧ w = w'') :
    Calls Try.prog 13 #[q] w fun e w' => e = .returned (.pointer none) ∧ w = w' := by
  have HG := Lib.hid hg
  clear hg
  go_enter Try.func13, Try.ntmps13
  go_wp2_with fail
  have h1 := HG.out
  with_reducible refine h1.mono ?_
  clear h1
  rintro e w1 ⟨rfl, rfl⟩
  go_wp2
  go_ret
  exact ⟨rfl, rfl⟩

set_option maxHeartbeats 1000000 in
theorem cancel_bad (q : Value) (f s : Int) (w : World) (hg : ∀ w', Below w.heap.size w w' → Calls Try.prog 19 #[q] w' fun e w'' => e = .returned (.bool false) ∧ w' = w'') :
    Calls Try.prog 14 #[q, .int .i64 f, .int .i64 s] w fun e w' => e = .returned (.bool false) ∧ Below w.heap.size w w' := by
  have HG := Lib.hid hg
  clear hg
  go_enter Try.func14, Try.ntmps14
  go_wp2_with fail
  have h1 := HG.out ((w.alloc (.cells #[.int .i64 f] 3)).alloc (.cells #[.int .i64 s] 3)) (by go_grown)
  with_reducible refine h1.mono ?_
  clear h1
  rintro e w1 ⟨rfl, rfl⟩
  go_wp2
  go_ret
  exact ⟨rfl, by go_grown⟩

def cancelE (L : List Ev) (f s : Int) : Bool × List Ev :=
  if idxP (sameNo f s) L < 0 then (false, L) else (true, (removeL L (idxP (sameNo f s) L).toNat).dropLast)

theorem idxP_range (p : Ev → Bool) (L : List Ev) : idxP p L < L.length ∧ -1 ≤ idxP p L := by
  unfold idxP
  split
  · rename_i i h
    have := (List.findIdx?_eq_some_iff_getElem.1 h).1
    omega
  · omega

set_option maxHeartbeats 2000000 in
theorem cancel_any (g : Nat) (lim : Int) (L : List Ev) (f s : Int) (sv : Value) (w : World) (hp : 0 < lim) (hn : L.length ≤ lim) (hm : lim ≤ 4096) (hQ : QS w g lim L sv) :
    Calls Try.prog 14 #[.pointer (some ⟨g, 0, none⟩), .int .i64 f, .int .i64 s] w fun e w' => e = .returned (.bool (cancelE L f s).1) ∧ QPost w g lim sv (cancelE L f s).2 w' := by
  obtain ⟨A, c, rfl⟩ := hQ.slice
  have hdp : decide (0 < lim) = true := by simpa using hp
  have hb0 : Below w.heap.size w ((w.alloc (.cells #[.int .i64 f] 3)).alloc (.cells #[.int .i64 s] 3)) := by go_grown
  have hz : w.heap.size + 1 < ((w.alloc (.cells #[.int .i64 f] 3)).alloc (.cells #[.int .i64 s] 3)).heap.size := by simp
  have hx1 : ((w.alloc (.cells #[.int .i64 f] 3)).alloc (.cells #[.int .i64 s] 3)).cell? ⟨w.heap.size, 0, none⟩ = some (.int .i64 f) := by simp [go_sem]
  have hx2 : ((w.alloc (.cells #[.int .i64 f] 3)).alloc (.cells #[.int .i64 s] 3)).cell? ⟨w.heap.size + 1, 0, none⟩ = some (.int .i64 s) := by simp [go_sem]
  have hq0 := hQ.below hb0
  have hr := idxP_range (sameNo f s) L
  go_enter Try.func14, Try.ntmps14
  go_wp2_with fail
  generalize ((w.alloc (.cells #[.int .i64 f] 3)).alloc (.cells #[.int .i64 s] 3)) = w1 at *
  have hc0 := blk_cell hq0.1 0
  have hc1 := blk_cell hq0.1 1
  have hcon := indexFunc_any 26 #[.pointer (some ⟨w.heap.size, 0, none⟩), .pointer (some ⟨w.heap.size + 1, 0, none⟩)] (sameNo f s) A L.length c L w1 rfl (by omega) hq0.rd call26
    (fun y w' hb => clo26 y f s w.heap.size (w.heap.size + 1) w' ((hb.cell (p := ⟨w.heap.size, 0, none⟩) (by show w.heap.size < w1.heap.size; omega)).trans hx1) ((hb.cell (p := ⟨w.heap.size + 1, 0, none⟩) hz).trans hx2) (by have := hb.size; omega) (by have := hb.size; omega))
  have Hcon := Lib.hid hcon
  have HQ0 := Lib.hid hQ
  clear hcon hx1 hx2 hq0 hQ
  have hgv := given_ptr g lim _ hc1 hdp
  with_reducible refine hgv.mono ?_
  clear hgv
  rintro e w1 ⟨rfl, rfl⟩
  go_wp2_with fail
  have hcon := Hcon.out
  with_reducible refine hcon.mono ?_
  clear hcon hc0 hc1 Hcon
  rintro e w2 ⟨rfl, hb2⟩
  have hb02 := hb0.trans (hb2.mono hb0.size)
  obtain ⟨k, hk⟩ : ∃ k, idxP (sameNo f s) L = k := ⟨_, rfl⟩
  rw [hk] at hr ⊢
  have Hk := Lib.hid hk
  clear hk
  by_cases h0 : k < 0
  · go_wp2
    go_ret
    have he : cancelE L f s = (false, L) := by unfold cancelE; rw [Hk.out, if_pos h0]
    rw [he]
    exact ⟨rfl, QPost.below HQ0.out hb02⟩
  · obtain ⟨i, rfl⟩ := Int.eq_ofNat_of_zero_le (show 0 ≤ k by omega)
    have hq2 := HQ0.out.below hb02
    obtain ⟨b, c2, hsv, hh2⟩ := hq2.hq (by omega)
    have hc0 := blk_cell hq2.1 0
    have Hh2 := Lib.hid hh2
    have Hsv := Lib.hid hsv
    clear hh2 hq2 hsv
    go_wp2_with fail
    have hrm := heap_remove g b c2 (L.length - 1) i lim L w2 (by omega) (by omega) (by omega) Hh2.out
    with_reducible refine hrm.mono ?_
    clear hrm
    rintro e w3 ⟨rfl, hq3, hk3⟩
    have he : cancelE L f s = (true, (removeL L i).dropLast) := by unfold cancelE; rw [Hk.out, if_neg (by omega)]; rfl
    have He := Lib.hid he
    have Hq3 := Lib.hid hq3
    clear he hq3
    go_wp2
    go_ret
    rw [He.out]
    have hs := Hsv.out
    refine ⟨rfl, _, Hq3.out.qs, .inl ?_, (Kp.of_below hb02 _).trans (hk3.mono ?_)⟩
    · rw [hs]; rfl
    · rintro j (rfl | rfl)
      · exact .inl rfl
      · right; rw [hs]; rfl
end Go.Proofs.Ytebcbjmdkbmnkaa
