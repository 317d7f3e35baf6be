/- The walk of EventOrders: it returns true for every list of times. -/
import Derived.Test.YtebcbjmdkbmnkaaEvMine
namespace Go.Proofs.Ytebcbjmdkbmnkaa
set_option linter.unusedVariables false
set_option linter.unusedSimpArgs false
open Go.RowKit

def evO (zs : List Int) (k : Nat) : Ev := ⟨bits .and .i64 (zs.getD k 0) 65535, bits .and .i64 (k : Int) 3, ⟨#[]⟩, 0, k, false⟩
theorem evO_ok (zs : List Int) (i : Nat) : (evO zs i).s = (i : Int) ∧ 0 ≤ (evO zs i).t ∧ (evO zs i).t ≤ 4611686018427387903 ∧ (evO zs i).a = false := by
  have := mask_range (zs.getD i 0) 65535 (by omega) (by omega)
  refine ⟨rfl, this.1, ?_, rfl⟩
  show bits .and .i64 (zs.getD i 0) 65535 ≤ _
  have h2 := this.2
  omega

theorem bcells_set (l : List Bool) (j : Nat) (b : Bool) : (bcells l).setIfInBounds j (.bool b) = bcells (l.set j b) := by
  simp [bcells, List.map_set]
def storeLast (w : World) (T : Nat) (x : Ev) : World :=
  (((((w.setCell ⟨T, 0, none⟩ (.int .i64 x.t)).setCell ⟨T, 1, none⟩ (.int .i64 x.n)).setCell ⟨T, 2, none⟩ (.string x.v)).setCell ⟨T, 3, none⟩ (.int .i64 x.f)).setCell ⟨T, 4, none⟩ (.int .i64 x.s)).setCell ⟨T, 5, none⟩ (.bool x.a)
theorem orders_close {w0 w : World} {S T g j : Nat} {L : List Ev} {seen : List Bool} {la x : Ev} (hST : S ≠ T) (hlS : w0.heap.size ≤ S) (hlT : w0.heap.size ≤ T) (hq : MyQ2 w0.heap.size T w g 4096 L) (hb : Below w0.heap.size w0 w)
    (hS : w.heap[S]? = some (.cells (bcells seen) 4 (0, 0))) (hT : w.heap[T]? = some (.cells la.cs 30 (0, 0))) (nq : Nat) :
    MyQ2 w0.heap.size T (storeLast ((w.drewN nq).setCell ⟨S, j, none⟩ (.bool true)) T x) g 4096 L ∧ Below w0.heap.size w0 (storeLast ((w.drewN nq).setCell ⟨S, j, none⟩ (.bool true)) T x) ∧
      (storeLast ((w.drewN nq).setCell ⟨S, j, none⟩ (.bool true)) T x).heap[S]? = some (.cells (bcells (seen.set j true)) 4 (0, 0)) ∧ (storeLast ((w.drewN nq).setCell ⟨S, j, none⟩ (.bool true)) T x).heap[T]? = some (.cells x.cs 30 (0, 0)) := by
  have hk : Kp (fun k => k = S ∨ k = T) w (storeLast ((w.drewN nq).setCell ⟨S, j, none⟩ (.bool true)) T x) :=
    ((((((((Kp.refl _ w).drewN nq).setCell (.inl (.inl rfl)) _).setCell (.inl (.inr rfl)) _).setCell (.inl (.inr rfl)) _).setCell (.inl (.inr rfl)) _).setCell (.inl (.inr rfl)) _).setCell (.inl (.inr rfl)) _).setCell (.inl (.inr rfl)) _
  refine ⟨?_, ?_, ?_, ?_⟩
  · obtain ⟨h1, sv, h2, h3, h4⟩ := hq
    refine ⟨h1, sv, h2.kp hk ?_ ?_, h3, h4⟩
    · rintro (rfl | rfl)
      · rw [h2.1] at hS; injection hS with hS; injection hS with _ hS; cases hS
      · rw [h2.1] at hT; injection hT with hT; injection hT with _ hT; cases hT
    · rintro k hk' (rfl | rfl)
      · exact own_ne_blk h2.2 hS (by decide) hk'.symm
      · exact h4 hk'
  · refine Kp.below (S := fun k => w0.heap.size ≤ k) ((Kp.of_below hb _).trans (hk.mono ?_)) (fun _ h => h)
    rintro i (rfl | rfl) <;> assumption
  · have h0 : ((w.drewN nq).setCell ⟨S, j, none⟩ (.bool true)).heap[S]? = some (.cells (bcells (seen.set j true)) 4 (0, 0)) := by
      rw [blk_set (w := w.drewN nq) hS j, bcells_set]
    have hk2 : Kp (· = T) ((w.drewN nq).setCell ⟨S, j, none⟩ (.bool true)) (storeLast ((w.drewN nq).setCell ⟨S, j, none⟩ (.bool true)) T x) :=
      ((((((Kp.refl (· = T) _).setCell (.inl rfl) _).setCell (.inl rfl) _).setCell (.inl rfl) _).setCell (.inl rfl) _).setCell (.inl rfl) _).setCell (.inl rfl) _
    exact hk2.blk h0 hST
  · have h0 : ((w.drewN nq).setCell ⟨S, j, none⟩ (.bool true)).heap[T]? = some (.cells la.cs 30 (0, 0)) := (Below.heap_setCell _ _ _ _ (Ne.symm hST)).trans hT
    exact blk_set (blk_set (blk_set (blk_set (blk_set (blk_set h0 0 (.int .i64 x.t)) 1 (.int .i64 x.n)) 2 (.string x.v)) 3 (.int .i64 x.f)) 4 (.int .i64 x.s)) 5 (.bool x.a)

set_option maxRecDepth 100000 in
set_option maxHeartbeats 4000000 in
theorem orders_any (A : Option Addr) (n c : Nat) (zs : List Int) (w : World) (hz : zs.length = n) (hA : IntsAt w A zs) :
    Calls Try.prog 3 #[.slice A n c] w fun e w' => e = .returned (.bool true) ∧ Below w.heap.size w w' := by
  by_cases hbig : 300 < n
  · have hd : decide (300 < n) = true := by simpa using hbig
    go_enter Try.func3, Try.ntmps3
    go_wp2_with fail
    have h1 := new_any 4096 w (by omega) (by omega)
    with_reducible refine h1.mono ?_
    clear h1
    rintro e w1 ⟨g, rfl, hg, hq1, hb1⟩
    have Hq1 := Lib.hid hq1
    clear hq1
    go_wp2_with fail
    have haw := awake_any w1
    with_reducible refine haw.mono ?_
    clear haw
    rintro e w2 ⟨rfl, hb2⟩
    go_wp2
    go_ret
    exact ⟨rfl, hb1.trans (hb2.mono hb1.size)⟩
  · have hn : n ≤ 300 := by omega
    have hd : decide (300 < n) = false := by simpa using hbig
    clear hbig
    have Hz := Lib.hid hz
    have HA := Lib.hid hA
    clear hz hA
    go_enter Try.func3, Try.ntmps3
    go_wp2_with fail
    have h1 := new_any 4096 w (by omega) (by omega)
    with_reducible refine h1.mono ?_
    clear h1
    rintro e w1 ⟨g, rfl, hg, hq1, hb1⟩
    have hm1 : MyQ w.heap.size w1 g 4096 [] := ⟨hg, _, hq1, by simp [Value.ownBlock]⟩
    have Hm1 := Lib.hid hm1
    clear hq1 hm1
    go_wp2
    go_loopw [5] (fun iv wr => ∃ (k : Nat) (L : List Ev), iv = .int .i64 k ∧ k ≤ n ∧ Hid (Filled (evO zs) k L) ∧ Hid (MyQ w.heap.size wr g 4096 L) ∧ Below w.heap.size w wr) (fun iv _ => n - (intOf iv).toNat)
    case atStart => exact ⟨0, [], rfl, by omega, Filled.nil _, Hm1.out, hb1⟩
    case round =>
      clear Hm1
      obtain ⟨k, L, rfl, hk, HF, HQ, hB⟩ := hrel
      by_cases hlt : k < n
      · obtain ⟨b, o, rfl, hbl, hcell⟩ := (HA.out.below hB) (by rw [Hz.out]; omega)
        have hc1 := hcell k (by rw [Hz.out]; exact hlt)
        have hf := HF.out.put (evO_ok zs) (by omega)
        have hlen : (L.length : Int) ≤ 4096 := by have := HF.out.len; omega
        have hpu := put_mine (w0 := w) (bits .and .i64 (zs[k]?.getD 0) 65535) (bits .and .i64 (k : Int) 3) 0 k ⟨#[]⟩ false (by omega) hlen (by omega) HQ.out hB 0 (pushL L (evO zs k)) hf.1
        have Hpu := Lib.hid hpu
        have Hf := Lib.hid hf.2
        clear hcell hf hpu hlen
        go_wp2_with fail
        have hpu := Hpu.out
        with_reducible refine hpu.mono ?_
        clear hpu Hpu hc1
        rintro e w2 ⟨rfl, hq2, hb2⟩
        have HQ2 := Lib.hid hq2
        clear hq2
        go_wp2
        go_roundw
        case rel => exact ⟨k + 1, _, by go_num, by omega, Hf, HQ2, hb2⟩
        case measure => simp [intOf]; omega
      · have hkn : k = n := by omega
        subst hkn
        clear hlt hk
        have hmk := make_bools k (by omega)
        go_wp2
        have hb2 : Below w.heap.size w ((wr.alloc (.cells (bcells (List.replicate k false)) 4)).alloc (.cells #[.int .i64 0, .int .i64 0, .string ⟨#[]⟩, .int .i64 0, .int .i64 0, .bool false] 30)) := (hB.alloc hB.size _).alloc (Nat.le_trans hB.size (by simp)) _
        have hS : ((wr.alloc (.cells (bcells (List.replicate k false)) 4)).alloc (.cells #[.int .i64 0, .int .i64 0, .string ⟨#[]⟩, .int .i64 0, .int .i64 0, .bool false] 30)).heap[wr.heap.size]? = some (.cells (bcells (List.replicate k false)) 4 (0, 0)) := by rw [Below.heap_alloc _ _ _ (by simp), heap_alloc_new]
        have hT : ((wr.alloc (.cells (bcells (List.replicate k false)) 4)).alloc (.cells #[.int .i64 0, .int .i64 0, .string ⟨#[]⟩, .int .i64 0, .int .i64 0, .bool false] 30)).heap[wr.heap.size + 1]? = some (.cells #[.int .i64 0, .int .i64 0, .string ⟨#[]⟩, .int .i64 0, .int .i64 0, .bool false] 30 (0, 0)) := by
          have := heap_alloc_new (wr.alloc (.cells (bcells (List.replicate k false)) 4)) (.cells #[.int .i64 0, .int .i64 0, .string ⟨#[]⟩, .int .i64 0, .int .i64 0, .bool false] 30)
          rwa [World.size_alloc] at this
        have hq2 : MyQ2 w.heap.size (wr.heap.size + 1) ((wr.alloc (.cells (bcells (List.replicate k false)) 4)).alloc (.cells #[.int .i64 0, .int .i64 0, .string ⟨#[]⟩, .int .i64 0, .int .i64 0, .bool false] 30)) g 4096 L := by
          obtain ⟨h1, sv, h2, h3⟩ := HQ.out
          have hbb : Below wr.heap.size wr ((wr.alloc (.cells (bcells (List.replicate k false)) 4)).alloc (.cells #[.int .i64 0, .int .i64 0, .string ⟨#[]⟩, .int .i64 0, .int .i64 0, .bool false] 30)) := ((Below.refl _ wr).alloc (Nat.le_refl _) _).alloc (by simp) _
          exact ⟨h1, sv, h2.below hbb, h3, fun h => by have := h2.own_lt h; omega⟩
        have hle : w.heap.size ≤ wr.heap.size := hB.size
        have HL := Lib.hid (Left.start (fun i => rfl) HF.out)
        have hLn := HF.out.len
        clear hmk HQ HF hB
        generalize hSS : wr.heap.size = S at *
        generalize ((wr.alloc (.cells (bcells (List.replicate k false)) 4)).alloc (.cells #[.int .i64 0, .int .i64 0, .string ⟨#[]⟩, .int .i64 0, .int .i64 0, .bool false] 30)) = w2 at *
        clear hSS
        have HS := Lib.hid hS
        have HT := Lib.hid hT
        have HQ2 := Lib.hid hq2
        have HLn := Lib.hid hLn
        clear hS hT hq2 hLn
        go_loopw [8] (fun iv wr => ∃ (q : Nat) (M : List Ev) (seen : List Bool) (la : Ev), iv = .int .i64 q ∧ q ≤ k ∧ M.length + q = k ∧ Hid (Left (evO zs) k M seen) ∧ Hid (MyQ2 w.heap.size (S + 1) wr g 4096 M) ∧ Below w.heap.size w wr ∧
          Hid (wr.heap[S]? = some (.cells (bcells seen) 4 (0, 0))) ∧ Hid (wr.heap[S + 1]? = some (.cells la.cs 30 (0, 0))) ∧ Hid (0 < q → ∀ y ∈ M, LeE la y)) (fun iv _ => k - (intOf iv).toNat)
        case atStart => exact ⟨0, L, _, ev0, rfl, by omega, by rw [HLn.out]; omega, HL, HQ2, hb2, HS, HT, fun h => by omega⟩
        case round =>
          clear HL HQ2 hb2 HS HT HLn
          obtain ⟨q, M, seen, la, rfl, hq, hMq, HL, HQ, hB, HS, HT, HLa⟩ := hrel
          by_cases hlt : q < k
          · obtain ⟨j, hj, hje, hjs, hleft⟩ := HL.out.take (fun i => rfl) (show M.length = (k - q - 1) + 1 by omega)
            have hts := take_step HL.out.1 (show M.length = (k - q - 1) + 1 by omega)
            have hla2 : 0 < q → LeE la (evO zs j) := fun h0 => by rw [← hje]; exact HLa.out h0 _ hts.2.2.2.2.2
            have htk := take_mine (w0 := w) (by omega) (show M.length = (k - q - 1) + 1 by omega) (by omega) HQ.out hB HL.out.1 (evO zs j) hje
            have Htk := Lib.hid htk
            have Hleft := Lib.hid hleft
            have Hjs := Lib.hid hjs
            have Hla2 := Lib.hid hla2
            have Hnew : Hid (0 < q + 1 → ∀ y ∈ (popL M).dropLast, LeE (evO zs j) y) := fun _ y hy => by rw [← hje]; exact hts.2.2.2.2.1 y hy
            have Hlen : Hid ((popL M).dropLast.length = k - q - 1) := hts.2.2.2.1
            clear htk hleft hjs hla2 hts hje HLa HL HQ
            go_wp2_with fail
            have htk := Htk.out
            with_reducible refine htk.mono ?_
            clear htk Htk
            rintro e w3 ⟨rfl, hq3, hb3, hst⟩
            obtain ⟨z, hz⟩ : ∃ z, zs.getD j 0 = z := ⟨_, rfl⟩
            have hxe : evO zs j = ⟨bits .and .i64 z 65535, bits .and .i64 (j : Int) 3, ⟨#[]⟩, 0, j, false⟩ := by unfold evO; rw [hz]
            rw [hxe]
            dsimp only
            rw [hxe] at Hla2
            have Hz2 := Lib.hid hz
            have Hxe := Lib.hid hxe
            clear hz hxe
            have hS3 := hst.2 _ _ _ HS.out (.inr (by decide)) (by decide)
            have hT3 := hst.2 _ _ _ HT.out (.inl rfl) (by decide)
            have hbA : Below w3.heap.size w3 (w3.alloc (.cells #[.int .i64 (bits .and .i64 z 65535), .int .i64 (bits .and .i64 (j : Int) 3), .string ⟨#[]⟩, .int .i64 0, .int .i64 (j : Int), .bool false] 30)) := (Below.refl _ _).alloc (Nat.le_refl _) _
            have hX := heap_alloc_new w3 (.cells #[.int .i64 (bits .and .i64 z 65535), .int .i64 (bits .and .i64 (j : Int) 3), .string ⟨#[]⟩, .int .i64 0, .int .i64 (j : Int), .bool false] 30)
            have hS4 := (hbA.block _ (Array.getElem?_eq_some_iff.1 hS3).1).trans hS3
            have hT4 := (hbA.block _ (Array.getElem?_eq_some_iff.1 hT3).1).trans hT3
            have hq4 := hq3.below hbA
            have hb4 : Below w.heap.size w _ := hb3.trans (hbA.mono hb3.size)
            have hI4 := HA.out.below hb4
            have hSX : S < w3.heap.size := (Array.getElem?_eq_some_iff.1 hS3).1
            have hTX : S + 1 < w3.heap.size := (Array.getElem?_eq_some_iff.1 hT3).1
            clear hS3 hT3 hq3 hb3 hst HS HT hbA
            go_wp2_with fail
            generalize w3.heap.size = X at *
            generalize (w3.alloc (.cells #[.int .i64 (bits .and .i64 z 65535), .int .i64 (bits .and .i64 (j : Int) 3), .string ⟨#[]⟩, .int .i64 0, .int .i64 (j : Int), .bool false] 30)) = w4 at *
            have Hq4 := Lib.hid hq4
            have Hb4 := Lib.hid hb4
            have HS4 := Lib.hid hS4
            have HT4 := Lib.hid hT4
            have HX := Lib.hid hX
            obtain ⟨b, o, rfl, hbl, hcell⟩ := hI4 (by rw [Hz.out]; omega)
            have hcj : w4.cell? ⟨b, o + j, none⟩ = some (.int .i64 z) := by rw [hcell j (by rw [Hz.out]; exact hj), Hz2.out]
            have hsj : w4.cell? ⟨S, j, none⟩ = some (.bool false) := by rw [blk_cell hS4]; simp [bcells, Hjs.out]
            have hx0 := blk_cell hX 0
            have hx1 := blk_cell hX 1
            have hx2 := blk_cell hX 2
            have hx3 := blk_cell hX 3
            have hx4 := blk_cell hX 4
            have hx5 := blk_cell hX 5
            clear hcell hI4 hq4 hb4 hS4 hT4 hX
            have hj0 : (0 : Int) ≤ (j : Int) := by omega
            have hj1 : (j : Int) < (k : Int) := by omega
            have hd1 : decide ((j : Int) < 0) = false := by simp
            have hd2 : decide ((k : Int) ≤ (j : Int)) = false := by simp; omega
            obtain ⟨lt, ln, lv, lf, ls, lb⟩ := la
            have ht0 := blk_cell HT4.out 0
            have ht1 := blk_cell HT4.out 1
            have ht2 := blk_cell HT4.out 2
            have ht3 := blk_cell HT4.out 3
            have ht4 := blk_cell HT4.out 4
            have ht5 := blk_cell HT4.out 5
            have hft := blk_frozen HT4.out
            have hfs := blk_frozen HS4.out
            simp only [Ev.cs] at ht0 ht1 ht2 ht3 ht4 ht5
            have hne1 : ¬ X = S := by omega
            have hne2 : ¬ S = X := by omega
            have hne3 : ¬ X = S + 1 := by omega
            have hne4 : ¬ S + 1 = X := by omega
            go_quiet (fail)
            rcases Nat.eq_zero_or_pos q with h0 | h0
            · subst h0
              go_wp2
              go_roundw
              case rel =>
                have hcl := orders_close (j := j) (x := ⟨bits .and .i64 z 65535, bits .and .i64 (j : Int) 3, ⟨#[]⟩, 0, j, false⟩) (by omega) (by omega) (by omega) Hq4.out Hb4.out HS4.out HT4.out nq
                exact ⟨1, _, seen.set j true, ⟨bits .and .i64 z 65535, bits .and .i64 (j : Int) 3, ⟨#[]⟩, 0, j, false⟩, by first | rfl | go_num, by omega, by rw [Hlen.out]; omega, Hleft, hcl.1, hcl.2.1, hcl.2.2.1, hcl.2.2.2, by rw [← Hxe.out]; exact Hnew⟩
              case measure => simp [intOf]; omega
            · have hq1 : decide (0 < q) = true := by simpa using h0
              have hla := Hla2.out h0
              by_cases hteq : lt = bits .and .i64 z 65535
              · have hd3 : decide (bits .and .i64 z 65535 < lt) = false := by simp; omega
                have hd4 : (lt == bits .and .i64 z 65535) = true := by simpa using hteq
                have hd5 : decide (bits .and .i64 (j : Int) 3 < ln) = false := by
                  unfold LeE LtE at hla
                  dsimp only at hla
                  simp only [decide_eq_false_iff_not]
                  omega
                have Hteq := Lib.hid hteq
                have Hla3 := Lib.hid hla
                clear hteq hla
                go_wp2
                go_roundw
                case rel =>
                  have hcl := orders_close (j := j) (x := ⟨bits .and .i64 z 65535, bits .and .i64 (j : Int) 3, ⟨#[]⟩, 0, j, false⟩) (by omega) (by omega) (by omega) Hq4.out Hb4.out HS4.out HT4.out nq
                  exact ⟨q + 1, _, seen.set j true, ⟨bits .and .i64 z 65535, bits .and .i64 (j : Int) 3, ⟨#[]⟩, 0, j, false⟩, by first | rfl | go_num, by omega, by rw [Hlen.out]; omega, Hleft, hcl.1, hcl.2.1, hcl.2.2.1, hcl.2.2.2, by rw [← Hxe.out]; exact Hnew⟩
                case measure => simp [intOf]; omega
              · have hd3 : decide (bits .and .i64 z 65535 < lt) = false := by
                  unfold LeE LtE at hla
                  dsimp only at hla
                  simp only [decide_eq_false_iff_not]
                  omega
                have hd4 : (lt == bits .and .i64 z 65535) = false := by simpa using hteq
                have Hteq := Lib.hid hteq
                have Hla3 := Lib.hid hla
                clear hteq hla
                go_wp2
                go_roundw
                case rel =>
                  have hcl := orders_close (j := j) (x := ⟨bits .and .i64 z 65535, bits .and .i64 (j : Int) 3, ⟨#[]⟩, 0, j, false⟩) (by omega) (by omega) (by omega) Hq4.out Hb4.out HS4.out HT4.out nq
                  exact ⟨q + 1, _, seen.set j true, ⟨bits .and .i64 z 65535, bits .and .i64 (j : Int) 3, ⟨#[]⟩, 0, j, false⟩, by first | rfl | go_num, by omega, by rw [Hlen.out]; omega, Hleft, hcl.1, hcl.2.1, hcl.2.2.1, hcl.2.2.2, by rw [← Hxe.out]; exact Hnew⟩
                case measure => simp [intOf]; omega
          · have hqk : q = k := by omega
            subst hqk
            have hM0 : M = [] := List.eq_nil_of_length_eq_zero (by omega)
            subst hM0
            obtain ⟨hg1, sv, hq1, _, _⟩ := HQ.out
            have Hq1 := Lib.hid hq1
            clear hq1
            go_wp2_with fail
            have hln := qlen_any g 4096 [] sv wr (by omega) Hq1.out
            with_reducible refine hln.mono ?_
            clear hln
            rintro e w4 ⟨rfl, rfl⟩
            rw [show (([] : List Ev).length : Int) = 0 from rfl]
            go_wp2_with fail
            have haw := awake_any wr
            with_reducible refine haw.mono ?_
            clear haw
            rintro e w5 ⟨rfl, hb5⟩
            go_wp2
            go_ret
            exact ⟨rfl, hB.trans (hb5.mono hB.size)⟩
end Go.Proofs.Ytebcbjmdkbmnkaa
