/- The walk of EventNobody: it returns true for every event. -/
import Derived.Test.YtebcbjmdkbmnkaaEvAwake
import Derived.Deep.RegionHeld3
namespace Go.Proofs.Ytebcbjmdkbmnkaa
set_option linter.unusedVariables false
set_option linter.unusedSimpArgs false
open Go.RowKit

set_option maxHeartbeats 1000000 in
theorem put_bad (q : Value) (x : Ev) (w : World) (hg : ∀ w', Below w.heap.size w w' → Calls Try.prog 19 #[q] w' fun e w'' => e = .returned (.bool false) ∧ w' = w'') :
    Calls Try.prog 10 #[q, .agg x.cs] w fun e w' => e = .returned (.int .i64 1) ∧ Below w.heap.size w w' := by
  obtain ⟨t, n, v, f, s, a⟩ := x
  unfold Ev.cs
  dsimp only
  have HG := Lib.hid hg
  clear hg
  go_enter Try.func10, Try.ntmps10
  go_wp2_with fail
  have h1 := HG.out _ ((Below.refl _ w).alloc (Nat.le_refl _) (.cells #[.int .i64 t, .int .i64 n, .string v, .int .i64 f, .int .i64 s, .bool a] 30))
  with_reducible refine h1.mono ?_
  clear h1
  rintro e w1 ⟨rfl, rfl⟩
  go_wp2
  go_ret
  exact ⟨rfl, by go_grown⟩

def BadQ (w : World) (q : Value) : Prop := ∀ w', Below w.heap.size w w' → Calls Try.prog 19 #[q] w' fun e w'' => e = .returned (.bool false) ∧ w' = w''
theorem BadQ.below {w w1 : World} {q : Value} (h : BadQ w q) (hb : Below w.heap.size w w1) : BadQ w1 q := fun w' hb' => h w' (hb.trans (hb'.mono hb.size))
theorem badq_nil (w : World) : BadQ w (.pointer none) := fun w' _ => given_nil w'
theorem badq_zero (w : World) (g : Nat) (h : w.heap[g]? = some (.cells #[.slice none 0 0, .int .i64 0] 53 (0, 0))) : BadQ w (.pointer (some ⟨g, 0, none⟩)) := fun w' hb =>
  given_zero g w' (blk_cell ((hb.block g (Array.getElem?_eq_some_iff.1 h).1).trans h) 1)

theorem hn0 (w : World) (a b c : Obj) : (((w.alloc a).alloc b).alloc c).heap[w.heap.size]? = some a := by
  rw [Below.heap_alloc _ _ _ (by simp; omega), Below.heap_alloc _ _ _ (by simp), heap_alloc_new]
theorem hn1 (w : World) (a b c : Obj) : (((w.alloc a).alloc b).alloc c).heap[w.heap.size + 1]? = some b := by
  have := heap_alloc_new (w.alloc a) b
  rw [World.size_alloc] at this
  rw [Below.heap_alloc _ _ _ (by simp), this]
theorem hn2 (w : World) (a b c : Obj) : (((w.alloc a).alloc b).alloc c).heap[w.heap.size + 1 + 1]? = some c := by
  have := heap_alloc_new ((w.alloc a).alloc b) c
  rwa [World.size_alloc, World.size_alloc] at this

set_option maxRecDepth 100000 in
set_option maxHeartbeats 2000000 in
theorem nobody_any (x : Ev) (w : World) : Calls Try.prog 7 #[.agg x.cs] w fun e w' => e = .returned (.bool true) ∧ Below w.heap.size w w' := by
  obtain ⟨t, n, v, f, s, a⟩ := x
  unfold Ev.cs
  dsimp only
  go_enter Try.func7, Try.ntmps7
  go_wp2
  have hb0 : Below w.heap.size w (((w.alloc (Obj.cells #[.int .i64 t, .int .i64 n, .string v, .int .i64 f, .int .i64 s, .bool a] 30)).alloc (Obj.cells #[.slice none 0 0, .int .i64 0] 53)).alloc (Obj.cells #[.pointer none, .pointer (some ⟨w.heap.size + 1, 0, none⟩)] 23)) := by go_grown
  have hE : (((w.alloc (Obj.cells #[.int .i64 t, .int .i64 n, .string v, .int .i64 f, .int .i64 s, .bool a] 30)).alloc (Obj.cells #[.slice none 0 0, .int .i64 0] 53)).alloc (Obj.cells #[.pointer none, .pointer (some ⟨w.heap.size + 1, 0, none⟩)] 23)).heap[w.heap.size]? = some (.cells #[.int .i64 t, .int .i64 n, .string v, .int .i64 f, .int .i64 s, .bool a] 30 (0, 0)) := hn0 _ _ _ _
  have hz : (((w.alloc (Obj.cells #[.int .i64 t, .int .i64 n, .string v, .int .i64 f, .int .i64 s, .bool a] 30)).alloc (Obj.cells #[.slice none 0 0, .int .i64 0] 53)).alloc (Obj.cells #[.pointer none, .pointer (some ⟨w.heap.size + 1, 0, none⟩)] 23)).heap[w.heap.size + 1]? = some (.cells #[.slice none 0 0, .int .i64 0] 53 (0, 0)) := hn1 _ _ _ _
  have hl : (((w.alloc (Obj.cells #[.int .i64 t, .int .i64 n, .string v, .int .i64 f, .int .i64 s, .bool a] 30)).alloc (Obj.cells #[.slice none 0 0, .int .i64 0] 53)).alloc (Obj.cells #[.pointer none, .pointer (some ⟨w.heap.size + 1, 0, none⟩)] 23)).heap[w.heap.size + 1 + 1]? = some (.cells #[.pointer none, .pointer (some ⟨w.heap.size + 1, 0, none⟩)] 23 (0, 0)) := hn2 _ _ _ _
  generalize (((w.alloc (Obj.cells #[.int .i64 t, .int .i64 n, .string v, .int .i64 f, .int .i64 s, .bool a] 30)).alloc (Obj.cells #[.slice none 0 0, .int .i64 0] 53)).alloc (Obj.cells #[.pointer none, .pointer (some ⟨w.heap.size + 1, 0, none⟩)] 23)) = w3 at hb0 hE hz hl ⊢
  have HB0 := Lib.hid hb0
  have HE := Lib.hid hE
  have HZ := Lib.hid hz
  have HL := Lib.hid hl
  clear hb0 hE hz hl
  go_loopw [4] (fun iv wr => ∃ k : Nat, iv = .int .i64 k ∧ k ≤ 2 ∧ Below w3.heap.size w3 wr) (fun iv _ => 2 - (intOf iv).toNat)
  case atStart => exact ⟨0, rfl, by omega, Below.refl _ _⟩
  case round =>
    obtain ⟨k, rfl, hk, hB⟩ := hrel
    have HB := Lib.hid hB
    clear hB
    by_cases hlt : k < 2
    · obtain ⟨q, hq, hbad⟩ : ∃ q, wr.cell? ⟨w.heap.size + 1 + 1, k, none⟩ = some q ∧ BadQ wr q := by
        have hl2 := (HB.out.block _ (Array.getElem?_eq_some_iff.1 HL.out).1).trans HL.out
        have hz2 := (HB.out.block _ (Array.getElem?_eq_some_iff.1 HZ.out).1).trans HZ.out
        rcases (by omega : k = 0 ∨ k = 1) with rfl | rfl
        · exact ⟨_, blk_cell hl2 0, badq_nil _⟩
        · exact ⟨_, blk_cell hl2 1, badq_zero _ _ hz2⟩
      have hlr : w.heap.size + 1 + 1 < wr.heap.size := Nat.lt_of_lt_of_le (Array.getElem?_eq_some_iff.1 HL.out).1 HB.out.size
      have hEr := (HB.out.block _ (Array.getElem?_eq_some_iff.1 HE.out).1).trans HE.out
      have Hbad := Lib.hid hbad
      have Hq := Lib.hid hq
      have HEr := Lib.hid hEr
      clear hbad hEr
      go_wp2_with fail
      have hmi := min_bad q wr Hbad.out
      unfold Ev.cs at hmi
      dsimp only [ev0] at hmi
      with_reducible refine hmi.mono ?_
      clear hmi
      rintro e w4 ⟨rfl, hb4⟩
      have hq4 : (w4.alloc (.cells #[.int .i64 0, .int .i64 0, .string ⟨#[]⟩, .int .i64 0, .int .i64 0, .bool false] 30)).cell? ⟨w.heap.size + 1 + 1, k, none⟩ = some q := by rw [World.cell?_alloc_lt _ _ _ (Nat.lt_of_lt_of_le hlr hb4.size), hb4.cell hlr]; exact Hq.out
      have Hb4 := Lib.hid hb4
      have Hq4 := Lib.hid hq4
      clear hq hb4
      go_wp2_with fail
      have hbw4 : Below wr.heap.size wr (w4.alloc (.cells #[.int .i64 0, .int .i64 0, .string ⟨#[]⟩, .int .i64 0, .int .i64 0, .bool false] 30)) := Hb4.out.alloc Hb4.out.size _
      have hA := heap_alloc_new w4 (.cells #[.int .i64 0, .int .i64 0, .string ⟨#[]⟩, .int .i64 0, .int .i64 0, .bool false] 30)
      have hszA : w4.heap.size < (w4.alloc (.cells #[.int .i64 0, .int .i64 0, .string ⟨#[]⟩, .int .i64 0, .int .i64 0, .bool false] 30)).heap.size := by simp
      generalize hgen : w4.heap.size = A at hA hszA ⊢
      have hrA : wr.heap.size ≤ A := by rw [← hgen]; exact Hb4.out.size
      clear hgen
      generalize (w4.alloc (.cells #[.int .i64 0, .int .i64 0, .string ⟨#[]⟩, .int .i64 0, .int .i64 0, .bool false] 30)) = w5 at *
      clear Hb4 hq4
      have htk := take_bad q w5 (Hbad.out.below hbw4)
      unfold Ev.cs at htk
      dsimp only [ev0] at htk
      with_reducible refine htk.mono ?_
      clear htk
      rintro e w6 ⟨rfl, hb6⟩
      have hbw6 : Below wr.heap.size wr (w6.alloc (.cells #[.int .i64 0, .int .i64 0, .string ⟨#[]⟩, .int .i64 0, .int .i64 0, .bool false] 30)) := (hbw4.trans (hb6.mono hbw4.size)).alloc (Nat.le_trans hbw4.size hb6.size) _
      have hA6 := (Below.heap_alloc w6 (.cells #[.int .i64 0, .int .i64 0, .string ⟨#[]⟩, .int .i64 0, .int .i64 0, .bool false] 30) A (Nat.lt_of_lt_of_le hszA hb6.size)).trans ((hb6.block A hszA).trans hA)
      have hBx := heap_alloc_new w6 (.cells #[.int .i64 0, .int .i64 0, .string ⟨#[]⟩, .int .i64 0, .int .i64 0, .bool false] 30)
      have hszB : w6.heap.size < (w6.alloc (.cells #[.int .i64 0, .int .i64 0, .string ⟨#[]⟩, .int .i64 0, .int .i64 0, .bool false] 30)).heap.size := by simp
      have hszA6 : A < (w6.alloc (.cells #[.int .i64 0, .int .i64 0, .string ⟨#[]⟩, .int .i64 0, .int .i64 0, .bool false] 30)).heap.size := by have := hb6.size; simp; omega
      go_wp2_with fail
      generalize w6.heap.size = Bx at hBx hszB ⊢
      generalize (w6.alloc (.cells #[.int .i64 0, .int .i64 0, .string ⟨#[]⟩, .int .i64 0, .int .i64 0, .bool false] 30)) = w7 at *
      have hE7 := (hbw6.block _ (Array.getElem?_eq_some_iff.1 HEr.out).1).trans HEr.out
      have hq7 := (hbw6.cell (p := ⟨w.heap.size + 1 + 1, k, none⟩) hlr).trans Hq.out
      have h1 : w.heap.size + 1 + 1 < w7.heap.size := Nat.lt_of_lt_of_le hlr hbw6.size
      have hbad7 := Hbad.out.below hbw6
      have mkS : ∀ w' : World, Below w7.heap.size w7 w' → Below w7.heap.size w7 w' ∧ w'.cell? ⟨w.heap.size + 1 + 1, k, none⟩ = some q ∧ w'.cell? ⟨w.heap.size, 0, none⟩ = some (.int .i64 t) ∧ w'.cell? ⟨w.heap.size, 1, none⟩ = some (.int .i64 n) ∧ w'.cell? ⟨w.heap.size, 2, none⟩ = some (.string v) ∧ w'.cell? ⟨w.heap.size, 3, none⟩ = some (.int .i64 f) ∧ w'.cell? ⟨w.heap.size, 4, none⟩ = some (.int .i64 s) ∧ w'.cell? ⟨w.heap.size, 5, none⟩ = some (.bool a) ∧ w'.cell? ⟨A, 0, none⟩ = some (.int .i64 0) ∧ w'.cell? ⟨A, 1, none⟩ = some (.int .i64 0) ∧ w'.cell? ⟨A, 2, none⟩ = some (.string ⟨#[]⟩) ∧ w'.cell? ⟨A, 3, none⟩ = some (.int .i64 0) ∧ w'.cell? ⟨A, 4, none⟩ = some (.int .i64 0) ∧ w'.cell? ⟨A, 5, none⟩ = some (.bool false) ∧ w'.cell? ⟨Bx, 0, none⟩ = some (.int .i64 0) ∧ w'.cell? ⟨Bx, 1, none⟩ = some (.int .i64 0) ∧ w'.cell? ⟨Bx, 2, none⟩ = some (.string ⟨#[]⟩) ∧ w'.cell? ⟨Bx, 3, none⟩ = some (.int .i64 0) ∧ w'.cell? ⟨Bx, 4, none⟩ = some (.int .i64 0) ∧ w'.cell? ⟨Bx, 5, none⟩ = some (.bool false) := by
        intro w' hb
        have hE' := (hb.block _ (Array.getElem?_eq_some_iff.1 hE7).1).trans hE7
        have hA' := (hb.block _ hszA6).trans hA6
        have hB' := (hb.block _ hszB).trans hBx
        exact ⟨hb, (hb.cell h1).trans hq7, (blk_cell hE' 0), (blk_cell hE' 1), (blk_cell hE' 2), (blk_cell hE' 3), (blk_cell hE' 4), (blk_cell hE' 5), (blk_cell hA' 0), (blk_cell hA' 1), (blk_cell hA' 2), (blk_cell hA' 3), (blk_cell hA' 4), (blk_cell hA' 5), (blk_cell hB' 0), (blk_cell hB' 1), (blk_cell hB' 2), (blk_cell hB' 3), (blk_cell hB' 4), (blk_cell hB' 5)⟩
      have MkS := Lib.hid mkS
      have Hbad7 := Lib.hid hbad7
      have Hbw6 := Lib.hid hbw6
      clear mkS hbad7 hbw6 hA6 hBx hE7 hq7 h1 hszA6 hszB hb6 hszA hrA hA hbw4 Hq4 hlr
      have hk0 : (0 : Int) ≤ (k : Int) := by omega
      have hk1 : (k : Int) < 2 := by omega
      have hne30 : ∀ w, (binOp .neq 30 (.agg #[.int .i64 0, .int .i64 0, .string ⟨#[]⟩, .int .i64 0, .int .i64 0, .bool false]) (.agg #[.int .i64 0, .int .i64 0, .string ⟨#[]⟩, .int .i64 0, .int .i64 0, .bool false])).run Try.prog w = .ok (.bool false) w := fun w => by kernel_rfl
      go_region_held3 (fun w' => Below w7.heap.size w7 w' ∧ w'.cell? ⟨w.heap.size + 1 + 1, k, none⟩ = some q ∧ w'.cell? ⟨w.heap.size, 0, none⟩ = some (.int .i64 t) ∧ w'.cell? ⟨w.heap.size, 1, none⟩ = some (.int .i64 n) ∧ w'.cell? ⟨w.heap.size, 2, none⟩ = some (.string v) ∧ w'.cell? ⟨w.heap.size, 3, none⟩ = some (.int .i64 f) ∧ w'.cell? ⟨w.heap.size, 4, none⟩ = some (.int .i64 s) ∧ w'.cell? ⟨w.heap.size, 5, none⟩ = some (.bool a) ∧ w'.cell? ⟨A, 0, none⟩ = some (.int .i64 0) ∧ w'.cell? ⟨A, 1, none⟩ = some (.int .i64 0) ∧ w'.cell? ⟨A, 2, none⟩ = some (.string ⟨#[]⟩) ∧ w'.cell? ⟨A, 3, none⟩ = some (.int .i64 0) ∧ w'.cell? ⟨A, 4, none⟩ = some (.int .i64 0) ∧ w'.cell? ⟨A, 5, none⟩ = some (.bool false) ∧ w'.cell? ⟨Bx, 0, none⟩ = some (.int .i64 0) ∧ w'.cell? ⟨Bx, 1, none⟩ = some (.int .i64 0) ∧ w'.cell? ⟨Bx, 2, none⟩ = some (.string ⟨#[]⟩) ∧ w'.cell? ⟨Bx, 3, none⟩ = some (.int .i64 0) ∧ w'.cell? ⟨Bx, 4, none⟩ = some (.int .i64 0) ∧ w'.cell? ⟨Bx, 5, none⟩ = some (.bool false))
        (first | exact MkS.out _ (Below.refl _ _).drew | exact MkS.out _ hnew)
        (first
          | (go_at_call 10; go_split_ands; refine (put_bad q ⟨t, n, v, f, s, a⟩ _ ?_).mono ?_; exact Hbad7.out.below (by assumption); rintro e w8 ⟨rfl, hb8⟩; have hnew := Below.trans (a := w7) (by assumption) (hb8.mono (Below.size (w := w7) (by assumption))); clear hb8)
          | (go_at_call 14; go_split_ands; refine (cancel_bad q f s _ ?_).mono ?_; exact Hbad7.out.below (by assumption); rintro e w8 ⟨rfl, hb8⟩; have hnew := Below.trans (a := w7) (by assumption) (hb8.mono (Below.size (w := w7) (by assumption))); clear hb8)
          | (go_at_call 12; go_split_ands; refine (qlen_bad q _ ?_).mono ?_; exact (Hbad7.out.below (by assumption)) _ (Below.refl _ _); rintro e w8 ⟨rfl, rfl⟩; have hnew : Below w7.heap.size w7 _ := (by assumption))
          | (go_at_call 13; go_split_ands; refine (copy_bad q _ ?_).mono ?_; exact (Hbad7.out.below (by assumption)) _ (Below.refl _ _); rintro e w8 ⟨rfl, rfl⟩; have hnew : Below w7.heap.size w7 _ := (by assumption)))
      have hfin : Below w3.heap.size w3 _ := HB.out.trans ((Hbw6.out.trans (hnew.mono Hbw6.out.size)).mono HB.out.size)
      have Hfin := Lib.hid hfin
      clear hfin
      clear hne30
      go_wp2
      go_roundw
      case rel => exact ⟨k + 1, by go_num, by omega, Hfin.out⟩
      case measure => simp [intOf]; omega
    · have hk2 : k = 2 := by omega
      subst hk2
      go_wp2_with fail
      have haw := awake_any wr
      with_reducible refine haw.mono ?_
      clear haw
      rintro e w8 ⟨rfl, hb8⟩
      go_wp2
      go_ret
      exact ⟨rfl, (HB0.out.trans (HB.out.mono HB0.out.size)).trans (hb8.mono (Nat.le_trans HB0.out.size HB.out.size))⟩
end Go.Proofs.Ytebcbjmdkbmnkaa
