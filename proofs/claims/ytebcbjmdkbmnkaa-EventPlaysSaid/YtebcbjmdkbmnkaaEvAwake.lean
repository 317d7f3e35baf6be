/- The contract of awake: it returns true. -/
import Derived.Test.YtebcbjmdkbmnkaaEvCopy
namespace Go.Proofs.Ytebcbjmdkbmnkaa
set_option linter.unusedVariables false
set_option linter.unusedSimpArgs false
open Go.RowKit

def aw1 : Ev := ⟨5, 0, ⟨#[]⟩, 0, 1, false⟩
def aw2 : Ev := ⟨3, 0, ⟨#[]⟩, 0, 2, false⟩
def aw3 : Ev := ⟨4, 0, ⟨#[]⟩, 0, 3, false⟩
theorem less21 : lessE aw2 aw1 = true := by decide
theorem put1 : putE 2 [] aw1 = (0, [aw1]) := by
  unfold putE pushL; rw [upL]; simp [aw1, idxP]
theorem put2 : putE 2 [aw1] aw2 = (0, [aw2, aw1]) := by
  unfold putE pushL
  have h : upL ([aw1] ++ [aw2]) 1 = [aw2, aw1] := by
    rw [upL, dif_neg (by omega)]
    rw [show evAt ([aw1] ++ [aw2]) 1 = aw2 from rfl, show evAt ([aw1] ++ [aw2]) ((1 - 1) / 2) = aw1 from rfl, if_pos less21, upL, dif_pos (by omega)]
    rfl
  rw [show ([aw1] : List Ev).length = 1 from rfl, h]
  simp [aw1, aw2, idxP, sameNo, List.findIdx?, List.findIdx?.go]
theorem put3 : putE 2 [aw2, aw1] aw3 = (141, [aw2, aw1]) := by
  unfold putE
  simp [aw1, aw2, aw3, idxP, sameNo, List.findIdx?, List.findIdx?.go]
theorem pop1 : popL [aw2, aw1] = [aw1, aw2] := by
  unfold popL
  rw [downL, if_neg (by simp)]
  rfl

theorem put_lit (g : Nat) (lim : Int) (L : List Ev) (t n f s : Int) (v : ByteArray) (a : Bool) (sv : Value) (w : World) (hp : 0 < lim) (hn : L.length ≤ lim) (hm : lim ≤ 4096) (hQ : QS w g lim L sv) :
    Calls Try.prog 10 #[.pointer (some ⟨g, 0, none⟩), .agg #[.int .i64 t, .int .i64 n, .string v, .int .i64 f, .int .i64 s, .bool a]] w fun e w' => e = .returned (.int .i64 (putE lim L ⟨t, n, v, f, s, a⟩).1) ∧ QPost w g lim sv (putE lim L ⟨t, n, v, f, s, a⟩).2 w' :=
  put_any g lim L ⟨t, n, v, f, s, a⟩ sv w hp hn hm hQ

/-- What a call on a queue of one's own leaves: nothing that was there ahead has turned. -/
theorem QPost.fresh {w0 w w' : World} {g : Nat} {lim : Int} {sv : Value} {L : List Ev} (h : QPost w g lim sv L w') (hb : Below w0.heap.size w0 w) (hg : w0.heap.size ≤ g) (hs : ∀ k, sv.ownBlock = some k → w0.heap.size ≤ k) :
    ∃ sv', QS w' g lim L sv' ∧ (∀ k, sv'.ownBlock = some k → w0.heap.size ≤ k) ∧ Below w0.heap.size w0 w' := by
  obtain ⟨sv', h1, h2, h3⟩ := h
  refine ⟨sv', h1, ?_, ?_⟩
  · intro k hk
    rcases h2 with h2 | ⟨k', h2, h4⟩
    · exact hs k (h2.symm.trans hk)
    · rw [h2] at hk; injection hk with hk; have := hb.size; omega
  · refine Kp.below (S := fun k => w0.heap.size ≤ k) ((Kp.of_below hb _).trans (h3.mono ?_)) (fun _ h => h)
    rintro i (rfl | hi)
    · exact hg
    · exact hs i hi

set_option maxHeartbeats 1000000 in
theorem awake_any (w : World) : Calls Try.prog 9 #[] w fun e w' => e = .returned (.bool true) ∧ Below w.heap.size w w' := by
  go_enter Try.func9, Try.ntmps9
  go_wp2_with fail
  have h1 := new_any 2 w (by omega) (by omega)
  with_reducible refine h1.mono ?_
  clear h1
  rintro e w1 ⟨g, rfl, hg, hq1, hb1⟩
  have Hq1 := Lib.hid hq1
  clear hq1
  go_wp2_with fail
  have hpu := put_lit g 2 [] 5 0 0 1 ⟨#[]⟩ false _ w1 (by omega) (by simp) (by omega) Hq1.out
  rw [show putE 2 [] ⟨5, 0, ⟨#[]⟩, 0, 1, false⟩ = _ from put1] at hpu
  with_reducible refine hpu.mono ?_
  clear hpu
  rintro e w2 ⟨rfl, hp2⟩
  obtain ⟨sv2, hq2, ho2, hb2⟩ := hp2.fresh hb1 hg (by simp [Value.ownBlock])
  have Hq2 := Lib.hid hq2
  have Ho2 := Lib.hid ho2
  clear hq2 hp2 ho2
  go_wp2_with fail
  have hpu := put_lit g 2 [aw1] 3 0 0 2 ⟨#[]⟩ false _ w2 (by omega) (by simp) (by omega) Hq2.out
  rw [show putE 2 [aw1] ⟨3, 0, ⟨#[]⟩, 0, 2, false⟩ = _ from put2] at hpu
  with_reducible refine hpu.mono ?_
  clear hpu
  rintro e w3 ⟨rfl, hp3⟩
  obtain ⟨sv3, hq3, ho3, hb3⟩ := hp3.fresh hb2 hg Ho2.out
  have Hq3 := Lib.hid hq3
  have Ho3 := Lib.hid ho3
  clear hq3 hp3 ho3
  go_wp2_with fail
  have hpu := put_lit g 2 [aw2, aw1] 4 0 0 3 ⟨#[]⟩ false _ w3 (by omega) (by simp) (by omega) Hq3.out
  rw [show putE 2 [aw2, aw1] ⟨4, 0, ⟨#[]⟩, 0, 3, false⟩ = _ from put3] at hpu
  with_reducible refine hpu.mono ?_
  clear hpu
  rintro e w4 ⟨rfl, hp4⟩
  obtain ⟨sv4, hq4, ho4, hb4⟩ := hp4.fresh hb3 hg Ho3.out
  obtain ⟨b, c, rfl, hh4⟩ := hq4.hq (by simp)
  have Hh4 := Lib.hid hh4
  have hbb := ho4 b rfl
  clear hq4 hp4 ho4 hh4
  go_wp2_with fail
  have htk := take_any g b c 1 2 [aw2, aw1] w4 rfl (by omega) (by omega) Hh4.out
  rw [show (evAt (popL [aw2, aw1]) 1).cs = aw2.cs from by rw [pop1]; rfl, show (popL [aw2, aw1]).dropLast = [aw1] from by rw [pop1]; rfl] at htk
  unfold Ev.cs at htk
  dsimp only [aw2] at htk
  with_reducible refine htk.mono ?_
  clear htk
  rintro e w5 ⟨rfl, hh5, hk5⟩
  have hb5 : Below w.heap.size w w5 := Kp.below (S := fun k => w.heap.size ≤ k) ((Kp.of_below hb4 _).trans (hk5.mono (by rintro i (rfl | rfl) <;> assumption))) (fun _ h => h)
  have Hh5 := Lib.hid hh5.qs
  clear hh5 hk5
  go_wp2_with fail
  have hq6 := Hh5.out.below ((Below.refl _ w5).alloc (Nat.le_refl _) (.cells #[.int .i64 3, .int .i64 0, .string ⟨#[]⟩, .int .i64 0, .int .i64 2, .bool false] 30))
  have hln := qlen_any g 2 [aw1] _ _ (by omega) hq6
  with_reducible refine hln.mono ?_
  clear hln hq6
  rintro e w6 ⟨rfl, rfl⟩
  rw [show (([aw1] : List Ev).length : Int) = 1 from rfl]
  go_wp2
  go_ret
  exact ⟨rfl, hb5.alloc hb5.size _⟩
end Go.Proofs.Ytebcbjmdkbmnkaa
