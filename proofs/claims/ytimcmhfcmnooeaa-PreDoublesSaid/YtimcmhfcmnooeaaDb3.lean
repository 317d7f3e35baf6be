/- The walk of PreDoubles. -/
import Derived.Test.YtimcmhfcmnooeaaDb2
import Derived.Test.YtimcmhfcmnooeaaWk1
import Derived.BigRegion
namespace Go.Proofs.Ytimcmhfcmnooeaa
set_option linter.unusedVariables false
set_option linter.unusedSimpArgs false
open Go.RowKit Go.Proofs.YtimcmhfcmnooeaaW.PrintWords Go.Proofs.YtimcmhfcmnooeaaW.PrintLast Go.Proofs.YtimcmhfcmnooeaaW.PrintMore
theorem mask_range (z d : Int) (hd : 0 ≤ d) (hc : d < 9223372036854775808) : 0 ≤ bits .and .i64 z d ∧ bits .and .i64 z d ≤ d := by
  obtain ⟨c, rfl⟩ := Int.eq_ofNat_of_zero_le hd
  have h1 : (BitVec.ofInt 64 (c : Int)).toNat = c := by rw [BitVec.ofInt_natCast, BitVec.toNat_ofNat]; exact Nat.mod_eq_of_lt (by omega)
  have h2 : bits .and .i64 z (c : Int) = IntKind.i64.wrap (((BitVec.ofInt 64 z).toNat &&& c : Nat) : Int) := by
    show IntKind.i64.wrap ((BitVec.ofInt 64 z &&& BitVec.ofInt 64 (c : Int)).toNat : Int) = _
    rw [BitVec.toNat_and, h1]
  have h3 : (BitVec.ofInt 64 z).toNat &&& c ≤ c := Nat.and_le_right
  rw [h2, IntKind.wrap_i64]
  omega
theorem and31 (m : Int) : ∃ n : Nat, n < 32 ∧ bits BinOp.and IntKind.i64 m 31 = n := by
  have := mask_range m 31 (by omega) (by omega)
  exact ⟨(bits BinOp.and IntKind.i64 m 31).toNat, by omega, by omega⟩
theorem name_of (i : Nat) : strOfNums [97, 48 + (i : Int) / 10, 48 + (i : Int) % 10] = q2 i := by
  have e1 : (48 + (i : Int) / 10).toNat = 48 + i / 10 := by omega
  have e2 : (48 + (i : Int) % 10).toNat = 48 + i % 10 := by omega
  show (⟨_⟩ : ByteArray) = _
  simp only [List.map_cons, List.map_nil, e1, e2]
  rfl
theorem at_last0 (w : World) (o : Obj) : (w.alloc o).heap[w.heap.size]? = some o := by
  show (w.heap.push o)[w.heap.size]? = some o
  simp
theorem conv3 (W : World) (b : Nat) (x y z : Int) (T : TypeId) (h : W.heap[b]? = some (Obj.cells #[.int .u8 x, .int .u8 y, .int .u8 z] T)) (s : ByteArray) (hs : strOfNums [x, y, z] = s) :
    Sem.run Try.prog (convert 37 9 (Value.slice (some { block := b, off := 0 }) 3 3)) W = .ok (.string s) W := by
  rw [← hs]
  refine run_convert_bytes_arg W 37 5 rfl rfl b 0 3 3 [x, y, z] rfl ?_ 9 rfl
  intro i hi
  have : W.cell? ⟨b, i, none⟩ = (#[Value.int .u8 x, .int .u8 y, .int .u8 z] : Array Value)[i]? := by simp [World.cell?, h]
  rw [Nat.zero_add, this]
  rcases (by omega : i = 0 ∨ i = 1 ∨ i = 2) with rfl | rfl | rfl <;> rfl
theorem at_last (w : World) (o : Obj) : (w.alloc o).drew.heap[w.heap.size]? = some o := by
  show (w.heap.push o)[w.heap.size]? = some o
  simp
theorem at_two (w : World) (o o' : Obj) : ((w.alloc o).alloc o').drew.heap[w.heap.size]? = some o := by
  show ((w.heap.push o).push o')[w.heap.size]? = some o
  rw [Array.getElem?_push, if_neg (by simp)]
  simp
theorem at_two' (w : World) (o o' : Obj) : ((w.alloc o).alloc o').drew.heap[w.heap.size + 1]? = some o' := by
  show ((w.heap.push o).push o')[w.heap.size + 1]? = some o'
  rw [Array.getElem?_push, if_pos (by simp)]
theorem toks_fn {a : ByteArray} {L L' : List S35} (h : Toks a L) (h' : Toks a L') : L = L' := by
  obtain ⟨k, h⟩ := h
  obtain ⟨k', h'⟩ := h'
  have h1 := at_rounds (g := fun k => silkwormlaw03_lexed.f k a) (fun k => silkwormlaw03_lexed.mono _ k) (show k ≤ k + k' by omega) h
  have h2 := at_rounds (g := fun k => silkwormlaw03_lexed.f k a) (fun k => silkwormlaw03_lexed.mono _ k) (show k' ≤ k + k' by omega) h'
  rw [show silkwormlaw03_lexed.f (k + k') a = some L' from h2] at h1
  injection h1 with h1
  exact h1.symm
theorem dRun_good (n : Nat) (hn : n < 32) : Good (dRun n) := by
  obtain ⟨k, l, hl, hor⟩ := lexed_some (dT n)
  have : dRun n = l := toks_fn (toks_all n hn) ⟨k, hl⟩
  rcases hor with rfl | ⟨l', hle, hll, hin⟩
  · simp [dRun] at this
  · rw [this, hle]
    exact good_of l' hin hll
theorem pow_le10 (i : Nat) (h : i ≤ 10) : ∃ c : Int, (2 : Int) ^ i = c ∧ 1 ≤ c ∧ c ≤ 1024 := by
  have h1 : 2 ^ i ≤ 2 ^ 10 := Nat.pow_le_pow_right (by omega) h
  have h2 := two_pos i
  exact ⟨((2 ^ i : Nat) : Int), by simp, by omega, by omega⟩
theorem dS_small (i : Nat) (h : i < 32) : (dS i).size ≤ 1000 := by
  have h1 := off_le i h
  have h2 := dW_size i h
  rw [dS_size]
  omega
set_option maxRecDepth 100000 in
set_option maxHeartbeats 2000000 in
theorem doubles_any (m : Int) (w : World) : Calls Try.prog 5 #[.int .i64 m] w fun e w' => e = .returned (.bool true) ∧ Below w.heap.size w w' := by
  obtain ⟨n, hn, hm⟩ := and31 m
  have HM := Lib.hid hm
  clear hm
  go_enter Try.func5, Try.ntmps5
  go_wp2
  rw [HM.out]
  go_loopw [4, 5] (fun v4 v5 w' => ∃ i : Nat, i ≤ n ∧ v5 = .int .i64 ((i : Int) + 1) ∧ v4 = .string (dS i) ∧ Below w.heap.size w w') (fun _ v5 _ => 40 - (intOf v5).toNat)
  case atStart => exact ⟨0, Nat.zero_le _, rfl, rfl, Below.refl _ _⟩
  case round =>
    obtain ⟨i, hi, rfl, rfl, hb⟩ := hrel
    have HB := Lib.hid hb
    clear hb
    by_cases hlt : i < n
    · go_wp2_with fail
      have a1 : Sem.run Try.prog (convert 37 9 (Value.slice (some { block := wr.heap.size, off := 0 }) 3 3)) (wr.alloc (Obj.cells #[Value.int IntKind.u8 97, Value.int IntKind.u8 (48 + (i : Int) / 10), Value.int IntKind.u8 (48 + (i : Int) % 10)] 5)).drew = .ok (.string (q2 i)) (wr.alloc (Obj.cells #[Value.int IntKind.u8 97, Value.int IntKind.u8 (48 + (i : Int) / 10), Value.int IntKind.u8 (48 + (i : Int) % 10)] 5)).drew := conv3 _ _ _ _ _ 5 (at_last _ _) _ (name_of i)
      have a2 : Sem.run Try.prog (convert 37 9 (Value.slice (some { block := wr.heap.size, off := 0 }) 3 3)) (wr.alloc (Obj.cells #[Value.int IntKind.u8 97, Value.int IntKind.u8 (48 + ((i : Int) + 1) / 10), Value.int IntKind.u8 (48 + ((i : Int) + 1) % 10)] 5)).drew = .ok (.string (q2 (i + 1))) (wr.alloc (Obj.cells #[Value.int IntKind.u8 97, Value.int IntKind.u8 (48 + ((i : Int) + 1) / 10), Value.int IntKind.u8 (48 + ((i : Int) + 1) % 10)] 5)).drew := conv3 _ _ _ _ _ 5 (at_last _ _) _ (name_of (i + 1))
      have a3 : Sem.run Try.prog (convert 37 9 (Value.slice (some { block := wr.heap.size, off := 0 }) 3 3)) ((wr.alloc (Obj.cells #[Value.int IntKind.u8 97, Value.int IntKind.u8 (48 + (i : Int) / 10), Value.int IntKind.u8 (48 + (i : Int) % 10)] 5)).alloc (Obj.cells #[Value.int IntKind.u8 97, Value.int IntKind.u8 (48 + ((i : Int) + 1) / 10), Value.int IntKind.u8 (48 + ((i : Int) + 1) % 10)] 5)).drew = .ok (.string (q2 i)) ((wr.alloc (Obj.cells #[Value.int IntKind.u8 97, Value.int IntKind.u8 (48 + (i : Int) / 10), Value.int IntKind.u8 (48 + (i : Int) % 10)] 5)).alloc (Obj.cells #[Value.int IntKind.u8 97, Value.int IntKind.u8 (48 + ((i : Int) + 1) / 10), Value.int IntKind.u8 (48 + ((i : Int) + 1) % 10)] 5)).drew := conv3 _ _ _ _ _ 5 (at_two _ _ _) _ (name_of i)
      have a4 : Sem.run Try.prog (convert 37 9 (Value.slice (some { block := wr.heap.size + 1, off := 0 }) 3 3)) ((wr.alloc (Obj.cells #[Value.int IntKind.u8 97, Value.int IntKind.u8 (48 + (i : Int) / 10), Value.int IntKind.u8 (48 + (i : Int) % 10)] 5)).alloc (Obj.cells #[Value.int IntKind.u8 97, Value.int IntKind.u8 (48 + ((i : Int) + 1) / 10), Value.int IntKind.u8 (48 + ((i : Int) + 1) % 10)] 5)).drew = .ok (.string (q2 (i + 1))) ((wr.alloc (Obj.cells #[Value.int IntKind.u8 97, Value.int IntKind.u8 (48 + (i : Int) / 10), Value.int IntKind.u8 (48 + (i : Int) % 10)] 5)).alloc (Obj.cells #[Value.int IntKind.u8 97, Value.int IntKind.u8 (48 + ((i : Int) + 1) / 10), Value.int IntKind.u8 (48 + ((i : Int) + 1) % 10)] 5)).drew := conv3 _ _ _ _ _ 5 (at_two' _ _ _) _ (name_of (i + 1))
      have a5 : Sem.run Try.prog (convert 37 9 (Value.slice (some { block := wr.heap.size, off := 0 }) 3 3)) ((wr.alloc (Obj.cells #[Value.int IntKind.u8 97, Value.int IntKind.u8 (48 + ((i : Int) + 1) / 10), Value.int IntKind.u8 (48 + ((i : Int) + 1) % 10)] 5)).alloc (Obj.cells #[Value.int IntKind.u8 97, Value.int IntKind.u8 (48 + (i : Int) / 10), Value.int IntKind.u8 (48 + (i : Int) % 10)] 5)).drew = .ok (.string (q2 (i + 1))) ((wr.alloc (Obj.cells #[Value.int IntKind.u8 97, Value.int IntKind.u8 (48 + ((i : Int) + 1) / 10), Value.int IntKind.u8 (48 + ((i : Int) + 1) % 10)] 5)).alloc (Obj.cells #[Value.int IntKind.u8 97, Value.int IntKind.u8 (48 + (i : Int) / 10), Value.int IntKind.u8 (48 + (i : Int) % 10)] 5)).drew := conv3 _ _ _ _ _ 5 (at_two _ _ _) _ (name_of (i + 1))
      have a6 : Sem.run Try.prog (convert 37 9 (Value.slice (some { block := wr.heap.size + 1, off := 0 }) 3 3)) ((wr.alloc (Obj.cells #[Value.int IntKind.u8 97, Value.int IntKind.u8 (48 + ((i : Int) + 1) / 10), Value.int IntKind.u8 (48 + ((i : Int) + 1) % 10)] 5)).alloc (Obj.cells #[Value.int IntKind.u8 97, Value.int IntKind.u8 (48 + (i : Int) / 10), Value.int IntKind.u8 (48 + (i : Int) % 10)] 5)).drew = .ok (.string (q2 i)) ((wr.alloc (Obj.cells #[Value.int IntKind.u8 97, Value.int IntKind.u8 (48 + ((i : Int) + 1) / 10), Value.int IntKind.u8 (48 + ((i : Int) + 1) % 10)] 5)).alloc (Obj.cells #[Value.int IntKind.u8 97, Value.int IntKind.u8 (48 + (i : Int) / 10), Value.int IntKind.u8 (48 + (i : Int) % 10)] 5)).drew := conv3 _ _ _ _ _ 5 (at_two' _ _ _) _ (name_of i)
      go_region
      all_goals clear a1 a2 a3 a4 a5 a6
      all_goals
        have hb2 : Below w.heap.size w ((wr.alloc (Obj.cells #[Value.int IntKind.u8 97, Value.int IntKind.u8 (48 + (i : Int) / 10), Value.int IntKind.u8 (48 + (i : Int) % 10)] 5)).alloc (Obj.cells #[Value.int IntKind.u8 97, Value.int IntKind.u8 (48 + ((i : Int) + 1) / 10), Value.int IntKind.u8 (48 + ((i : Int) + 1) % 10)] 5)).drew := by repeat (first | (with_reducible first | exact HB.out | apply below_alloc | apply pw_below_drewN | apply below_drew1) | exact HB.out)
        have hb3 : Below w.heap.size w ((wr.alloc (Obj.cells #[Value.int IntKind.u8 97, Value.int IntKind.u8 (48 + ((i : Int) + 1) / 10), Value.int IntKind.u8 (48 + ((i : Int) + 1) % 10)] 5)).alloc (Obj.cells #[Value.int IntKind.u8 97, Value.int IntKind.u8 (48 + (i : Int) / 10), Value.int IntKind.u8 (48 + (i : Int) % 10)] 5)).drew := by repeat (first | (with_reducible first | exact HB.out | apply below_alloc | apply pw_below_drewN | apply below_drew1) | exact HB.out)
        obtain ⟨w2, hw2⟩ : ∃ w2, ((wr.alloc (Obj.cells #[Value.int IntKind.u8 97, Value.int IntKind.u8 (48 + (i : Int) / 10), Value.int IntKind.u8 (48 + (i : Int) % 10)] 5)).alloc (Obj.cells #[Value.int IntKind.u8 97, Value.int IntKind.u8 (48 + ((i : Int) + 1) / 10), Value.int IntKind.u8 (48 + ((i : Int) + 1) % 10)] 5)).drew = w2 := ⟨_, rfl⟩
        obtain ⟨w3, hw3⟩ : ∃ w3, ((wr.alloc (Obj.cells #[Value.int IntKind.u8 97, Value.int IntKind.u8 (48 + ((i : Int) + 1) / 10), Value.int IntKind.u8 (48 + ((i : Int) + 1) % 10)] 5)).alloc (Obj.cells #[Value.int IntKind.u8 97, Value.int IntKind.u8 (48 + (i : Int) / 10), Value.int IntKind.u8 (48 + (i : Int) % 10)] 5)).drew = w3 := ⟨_, rfl⟩
        rw [hw2] at hb2
        rw [hw3] at hb3
        have HB2 := Lib.hid hb2
        have HB3 := Lib.hid hb3
        clear hb2 hb3
        first | rw [hw2] | rw [hw3]
        clear hw2 hw3
        have hz := dS_small i (by omega)
        by_cases h1 : i = 0
        · subst h1
          go_wp2
          exact ⟨⟨1, by omega, rfl, rfl, by first | exact HB2.out | exact HB3.out⟩, by simp [intOf]⟩
        · have h2 : (((i : Int) + 1) == 1) = false := by rw [beq_eq_false_iff_ne]; omega
          have hq1 : (q2 i).size = 3 := rfl
          have hq2 : (q2 (i + 1)).size = 3 := rfl
          go_wp2
          exact ⟨⟨i + 1, by omega, by simp, by rw [dS, p2, if_neg h1], by first | exact HB2.out | exact HB3.out⟩, by simp [intOf]; omega⟩
    · obtain rfl : i = n := by omega
      have hz := dS_small i (by omega)
      have hq : strOfNums [97, 48 + (i : Int) / 10, 48 + (i : Int) % 10] = q2 i := name_of i
      have hq1 : (q2 i).size = 3 := rfl
      have a7 : Sem.run Try.prog (convert 37 9 (Value.slice (some { block := wr.heap.size, off := 0 }) 3 3)) (wr.alloc (Obj.cells #[Value.int IntKind.u8 97, Value.int IntKind.u8 (48 + (i : Int) / 10), Value.int IntKind.u8 (48 + (i : Int) % 10)] 5)) = .ok (.string (q2 i)) (wr.alloc (Obj.cells #[Value.int IntKind.u8 97, Value.int IntKind.u8 (48 + (i : Int) / 10), Value.int IntKind.u8 (48 + (i : Int) % 10)] 5)) := conv3 _ _ _ _ _ 5 (at_last0 _ _) _ (name_of i)
      have hb2 : Below w.heap.size w (wr.alloc (Obj.cells #[Value.int IntKind.u8 97, Value.int IntKind.u8 (48 + (i : Int) / 10), Value.int IntKind.u8 (48 + (i : Int) % 10)] 5)) := by repeat (first | (with_reducible first | exact HB.out | apply below_alloc | apply pw_below_drewN | apply below_drew1) | exact HB.out)
      have HB2 := Lib.hid hb2
      clear hb2
      have hz3 := p2_size i (by omega)
      have hor : (((i : Int) == 0) = true ∧ (⟨#[97, 48]⟩ : ByteArray) = p2 i) ∨ (((i : Int) == 0) = false ∧ q2 i = p2 i) := by
        by_cases h0 : i = 0
        · exact .inl ⟨by rw [h0]; rfl, by rw [p2, if_pos h0]⟩
        · exact .inr ⟨by rw [beq_eq_false_iff_ne]; omega, by rw [p2, if_neg h0]⟩
      obtain ⟨k, hk⟩ := toks_all i hn
      have hT : dS i ++ ⟨#[96]⟩ ++ p2 i = dT i := by rw [dT, dU, ByteArray.append_assoc]
      have hL := fun w => silkwormlaw03_lexed.calls k (dS i ++ ⟨#[96]⟩ ++ p2 i) (dRun i) w (by rw [hT]; exact hk)
      have HL := Lib.hid hL
      clear hL hk hT
      have hrr := dRun_run i hn
      have HG := Lib.hid (dRun_good i hn)
      have hin : dRun i ≠ [] := by simp [dRun]
      have HNe := Lib.hid hin
      clear hin
      have hcost : cost i ≤ 4096 ↔ i ≤ 10 := by
        constructor
        · intro h
          rcases Nat.lt_or_ge 10 i with h1 | h1
          · have : 2 ^ 11 ≤ 2 ^ i := Nat.pow_le_pow_right (by omega) h1
            simp only [cost] at h
            omega
          · exact h1
        · intro h
          have : 2 ^ i ≤ 2 ^ 10 := Nat.pow_le_pow_right (by omega) h
          simp only [cost]
          omega
      have HRR := Lib.hid hrr
      clear hrr
      rcases hor with ⟨h0b, hp⟩ | ⟨h0b, hp⟩ <;> go_wp2_with fail
      all_goals
        have h := HL.out (wr.alloc (Obj.cells #[Value.int IntKind.u8 97, Value.int IntKind.u8 (48 + (i : Int) / 10), Value.int IntKind.u8 (48 + (i : Int) % 10)] 5))
        refine h.mono ?_
        clear h
        rintro e w1 ⟨v, rfl, hr, hb1⟩
        have HR := Lib.hid hr
        have HB1 := Lib.hid hb1
        clear hr hb1 a7
        go_wp2_with fail
        have h := run_own HG.out HNe.out HR.out
        refine h.mono ?_
        clear h
        rintro e w2 ⟨v1, v2, rfl, hr1, hr2, hb2⟩
        have hfin : Below w.heap.size w w2 := HB2.out.trans ((HB1.out.trans (hb2.mono HB1.out.size)).mono HB2.out.size)
        have Hfin := Lib.hid hfin
        clear hb2 hfin
        have hrr := HRR.out
        by_cases h10 : i ≤ 10
        · rw [if_pos (hcost.2 h10)] at hrr
          rw [hrr.1] at hr2
          obtain ⟨A1, c1, rfl⟩ := Kd.R_slice hr1
          obtain ⟨A2, c2, rfl⟩ := Kd.R_slice hr2
          rw [hrr.2]
          clear hr1 hr2 hrr
          obtain ⟨c, hc, hc0, hc1⟩ := pow_le10 i h10
          have h12 : decide ((i : Int) ≥ 12) = false := by rw [decide_eq_false_iff_not]; omega
          go_wp2_with fail
          have h := awake_any w2
          with_reducible refine h.mono ?_
          clear h
          rintro e w3 ⟨rfl, hb3⟩
          have HB3 := Lib.hid hb3
          clear hb3
          go_wp2
          go_ret
          exact ⟨rfl, Hfin.out.trans (HB3.out.mono Hfin.out.size)⟩
        · rw [if_neg (fun h => h10 (hcost.1 h))] at hrr
          rw [hrr] at hr1 hr2
          obtain ⟨A1, c1, rfl⟩ := Kd.R_slice hr1
          obtain ⟨b2, c2, rfl, hc2, d0, d1⟩ := R_one hr2
          clear hr1 hr2 hrr
          by_cases h11 : i = 11
          · have hc : (2 : Int) ^ i = 2048 := by rw [h11]; rfl
            have h12 : decide ((i : Int) ≥ 12) = false := by rw [decide_eq_false_iff_not]; omega
            go_wp2_with fail
            have h := awake_any w2
            with_reducible refine h.mono ?_
            clear h
            rintro e w3 ⟨rfl, hb3⟩
            have HB3 := Lib.hid hb3
            clear hb3
            go_wp2
            go_ret
            exact ⟨rfl, Hfin.out.trans (HB3.out.mono Hfin.out.size)⟩
          · have h12 : decide ((i : Int) ≥ 12) = true := by rw [decide_eq_true_iff]; omega
            go_wp2_with fail
            have h := awake_any w2
            with_reducible refine h.mono ?_
            clear h
            rintro e w3 ⟨rfl, hb3⟩
            have HB3 := Lib.hid hb3
            clear hb3
            go_wp2
            go_ret
            exact ⟨rfl, Hfin.out.trans (HB3.out.mono Hfin.out.size)⟩
end Go.Proofs.Ytimcmhfcmnooeaa
