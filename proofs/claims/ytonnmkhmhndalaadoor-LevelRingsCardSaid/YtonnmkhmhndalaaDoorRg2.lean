/- LevelRings: the statement's own function, walked. -/
import Derived.Test.YtonnmkhmhndalaaDoorMgH
namespace Go.Proofs.YtonnmkhmhndalaaDoor
set_option linter.unusedVariables false
set_option linter.unusedSimpArgs false
open Go.RowKit Go.Proofs.YtonnmkhmhndalaaDoorW.PrintWords Go.Proofs.YtonnmkhmhndalaaDoorW.PrintLast Go.Proofs.YtonnmkhmhndalaaDoorW.PrintMore

theorem mask_le (n : Int) (m : Nat) (j : Nat) (hm : (BitVec.ofInt 64 (m : Int)).toNat = 2 ^ j - 1) (hj : 2 ^ j ≤ 65536) : ∃ q : Nat, bits .and .i64 n (m : Int) = (q : Int) ∧ q < 2 ^ j := by
  have e : (BitVec.ofInt 64 n &&& BitVec.ofInt 64 (m : Int)).toNat < 2 ^ j := by
    rw [BitVec.toNat_and, hm, Nat.and_two_pow_sub_one_eq_mod]
    exact Nat.mod_lt _ (Nat.two_pow_pos j)
  refine ⟨(BitVec.ofInt 64 n &&& BitVec.ofInt 64 (m : Int)).toNat, ?_, e⟩
  show IntKind.i64.wrap ((BitVec.ofInt 64 n &&& BitVec.ofInt 64 (m : Int)).toNat : Int) = _
  exact IntWalk.i64_in _ ⟨by omega, by omega⟩
theorem info39 : (Tryd.prog.info? 39).map (fun i => (i.zero, i.size, i.bytes)) = some (some (.agg #[.int .i64 0, .int .i64 0, .int .i64 0, .slice none 0 0, .string ⟨#[]⟩, .int .i64 0, .int .i64 0, .int .i64 0]), 8, 88) := by kernel_rfl
theorem ringL_succ (n i : Nat) : ringL n (i + 1) = ringL n i ++ [notN (((i + 1) % n : Nat) : Int)] := by
  unfold ringL
  rw [List.range_succ, List.map_append]
  rfl
theorem ringL_len (n i : Nat) : (ringL n i).length = i := by unfold ringL; simp

theorem nin_of_R {W : World} {base m c : Nat} {ok : Nat → Prop} {A : Option Addr} {l : List S39} (h : Kd.R k39 39 W base ok (.slice A m c) l) (hl : ∀ s ∈ l, s.f3.length ≤ 2 ∧ s.f4.size ≤ 1) : m = l.length ∧ NIn W ⟨l, [], 0⟩ A c none 0 := by
  obtain ⟨h1, h2, h3⟩ := Kd.R_reads' h
  exact ⟨h1, ⟨h3, Kd.C_nil _ _, by rw [← h1]; exact h2, Nat.le_refl _, fun s hs => by have := (hl s hs).2; omega, fun s hs => by have := (hl s hs).1; omega, Nat.zero_le _⟩⟩
theorem ring_sm (n : Nat) : ∀ s ∈ (ringN n).nd, s.f3.length ≤ 2 ∧ s.f4.size ≤ 1 := by
  intro s hs
  unfold ringN ringL at hs
  rcases List.mem_append.1 hs with h | h
  · obtain ⟨i, -, rfl⟩ := List.mem_map.1 h
    exact ⟨by show 1 ≤ 2; omega, by show 0 ≤ 1; omega⟩
  · rw [List.mem_singleton.1 h]
    exact ⟨by show 0 ≤ 2; omega, by show 1 ≤ 1; omega⟩
theorem ringS_sm (n k : Nat) (y : S39) (hy : y.f3.length ≤ 2 ∧ y.f4.size ≤ 1) : ∀ s ∈ (ringS n k y).nd, s.f3.length ≤ 2 ∧ s.f4.size ≤ 1 := by
  intro s hs
  rcases List.mem_or_eq_of_mem_set hs with h | rfl
  · exact ring_sm n s h
  · exact hy
theorem LBx.grown {W W' : World} {P n m : Nat} {pt : Int} {A : Option Addr} {c : Nat} {B : Option Addr} {d : Nat} {row : Option Nat} (h : LBx W P n m pt A c B d) (hg : W.grownBy W' row) (hne : some P ≠ row) : LBx W' P n m pt A c B d := by
  have hb := hg.block P (World.block_lt_of_cell? W _ h.k0) hne
  exact ⟨(World.cell?_of_block (w := W) (a := ⟨P, 0, none⟩) hb).trans h.k0, (World.cell?_of_block (w := W) (a := ⟨P, 1, none⟩) hb).trans h.k1, (World.cell?_of_block (w := W) (a := ⟨P, 2, none⟩) hb).trans h.k2⟩

theorem put39 {ops : Array Oper} {rest : List Oper} {o : Oper} {a : Act} {Q : Exit → Act → World → Prop} {w0 W : World} {base : Nat} (hN : o.dst = none) (hgd : o.guard = none) (p x : Operand) (ho : o.op = .store 39 p x) {g n cap : Nat} (k : Nat) (xs : List S39) (x' : S39) (v3 : Value)
    (haddr : a.eval p = .pointer (some ⟨g, k * 8, none⟩)) (hx : a.eval x = .agg #[.int .i64 x'.f0, .int .i64 x'.f1, .int .i64 x'.f2, v3, .string x'.f4, .int .i64 x'.f5, .int .i64 x'.f6, .int .i64 x'.f7])
    (hc : (Value.agg #[.int .i64 x'.f0, .int .i64 x'.f1, .int .i64 x'.f2, v3, .string x'.f4, .int .i64 x'.f5, .int .i64 x'.f6, .int .i64 x'.f7]).cells.toList = [.int .i64 x'.f0, .int .i64 x'.f1, .int .i64 x'.f2, v3, .string x'.f4, .int .i64 x'.f5, .int .i64 x'.f6, .int .i64 x'.f7]) (h1 : v3.oneCell' = true)
    (HO : Kd.R k39 39 W base (fun _ => True) (.slice (some ⟨g, 0, none⟩) n cap) xs) (hk : k < n) (h3 : (Kd.int .i64).R 3 W base (fun b => b ≠ g) v3 x'.f3) (HB : Below base w0 W)
    (h : ∀ w1, Kd.R k39 39 w1 base (fun _ => True) (.slice (some ⟨g, 0, none⟩) n cap) (xs.set k x') → Below base w0 w1 → W.grownBy w1 (some g) → wpList Tryd.prog ops Q rest a w1) : wpList Tryd.prog ops Q (o :: rest) a W := by
  obtain ⟨c, hc1, hc2, hc3, hc4⟩ := Kd.R_elem HO z39 (k : Int) (by omega) (by omega)
  have hs : k39.sz = 8 := rfl
  refine Kd.R_store k39 base hN hgd 39 p x ho 39 (k : Int) 0 xs x' _ _ c (fun _ => True) (fun b => b ≠ g) haddr (by rw [hs]; rfl) hx hc (by kernel_rfl) ?_ HO (by omega) (by omega) hc1 hc3 (by rw [hs]; exact Nat.le_refl _) ?_ (fun b hb => ⟨trivial, hb⟩) HB h
  · intro q hq
    simp only [List.mem_cons, List.not_mem_nil, or_false] at hq
    rcases hq with rfl | rfl | rfl | rfl | rfl | rfl | rfl | rfl <;> first | rfl | exact h1
  · rw [List.take_zero, List.nil_append, List.drop_eq_nil_of_le (by rw [hc1]; exact Nat.le_refl _), List.append_nil]
    exact k39_mkM W base _ x' h3

theorem R_head {α : Type} {d : Kd α} {e base : Nat} {ok : Nat → Prop} {w : World} {v : Value} {xs : List α} (h : d.R e w base ok v xs) (hn : 0 < xs.length) : ∃ g c, v = .slice (some ⟨g, 0, none⟩) xs.length c ∧ base ≤ g ∧ g < w.heap.size := by
  obtain ⟨_, inner, hown, hr⟩ := h
  rcases hown.2 with ⟨rfl, h0⟩ | ⟨g, cap, cur, rfl, hb, hcur, -⟩
  · omega
  · refine ⟨g, cap, rfl, hb, ?_⟩
    rcases Nat.lt_or_ge g w.heap.size with h1 | h1
    · exact h1
    · rw [Array.getElem?_eq_none h1] at hcur; cases hcur

theorem RunP.looped {w w' : World} {x : NL} {e : Ending} (h : RunP w x e w') (hm : mayL x = true) (hn : ∀ out done cnt, LRes x.nd.length (hs x.nd) out done cnt → cnt < x.nd.length) :
    e = .returned (.tuple #[.slice none 0 0, .int .i64 110]) ∧ Below w.heap.size w w' := by
  obtain ⟨hb, hc⟩ := h
  rcases hc with ⟨h1, -⟩ | ⟨-, out, done, cnt, hres, hc⟩
  · rw [hm] at h1; cases h1
  · have := hn out done cnt hres
    rcases hc with ⟨-, rfl⟩ | ⟨h1, -⟩
    · exact ⟨rfl, hb⟩
    · omega
theorem RunP.free {w w' : World} {x : NL} {e : Ending} (h : RunP w x e w') (hm : mayL x = true) (hn : ∀ out done cnt, LRes x.nd.length (hs x.nd) out done cnt → cnt = x.nd.length) :
    ∃ D, e = .returned (.tuple #[.slice (some ⟨D, 0, none⟩) x.nd.length x.nd.length, .int .i64 0]) ∧ Below w.heap.size w w' := by
  obtain ⟨hb, hc⟩ := h
  rcases hc with ⟨h1, -⟩ | ⟨-, out, done, cnt, hres, hc⟩
  · rw [hm] at h1; cases h1
  · have := hn out done cnt hres
    rcases hc with ⟨h1, -⟩ | ⟨-, D, -, rfl, -⟩
    · omega
    · exact ⟨D, rfl, hb⟩

set_option maxRecDepth 100000 in
set_option maxHeartbeats 8000000 in
theorem levelRings_any (many where_ : Int) (w : World) (_ : (Lit.int .i64 many).wf = true) (_ : (Lit.int .i64 where_).wf = true) :
    Calls Tryd.prog 5 #[.int .i64 many, .int .i64 where_] w fun e w' => e = .returned (.bool true) ∧ Below w.heap.size w w' := by
  obtain ⟨q, hq, hq2⟩ := mask_le many 31 5 (by decide) (by decide)
  obtain ⟨r, hr, hr2⟩ := mask_le where_ 255 8 (by decide) (by decide)
  have hq3 : bits .and .i64 many 31 = (q : Int) := hq
  have hr3 : bits .and .i64 where_ 255 = (r : Int) := hr
  obtain ⟨n, hn⟩ : ∃ n : Nat, n = 2 + q := ⟨_, rfl⟩
  have en : (2 : Int) + (q : Int) = (n : Int) := by omega
  have h2 : 2 ≤ n := by omega
  have h34 : n < 34 := by omega
  obtain ⟨k, hk⟩ : ∃ k, r % n = k := ⟨_, rfl⟩
  have hkn : k < n := by rw [← hk]; exact Nat.mod_lt _ (by omega)
  have e1 : Int.tmod (r : Int) (n : Int) = (k : Int) := by rw [← hk]; rfl
  have e2 : (r : Int) % (n : Int) = (k : Int) := by rw [← hk]; rfl
  have ne0 : ¬ (n : Int) = 0 := by omega
  clear hn hq hr hq2 hk
  go_enter Tryd.func5, Tryd.ntmps5
  go_upto_region 3 with fail
  clear hq3 hr3 en e1 e2 hr2
  go_wp2_with fail
  go_loopw [7, 8] (fun v7 v8 wx => ∃ i : Nat, v8 = .int .i64 i ∧ i ≤ n ∧ Hid (Kd.R k39 39 wx w.heap.size (fun _ => True) v7 (ringL n i)) ∧ Hid (Below w.heap.size w wx)) (fun _ v8 _ => n - (intOf v8).toNat)
  case atStart => exact ⟨0, rfl, Nat.zero_le _, Lib.hid (Kd.R_nil _ _ _ _ _), Lib.hid (Below.refl _ _)⟩
  case round =>
    obtain ⟨i, rfl, hi, HRx, HBx⟩ := hrel
    by_cases hlt : i < n
    · obtain ⟨t, ht⟩ : ∃ t, (i + 1) % n = t := ⟨_, rfl⟩
      have htn : t < n := by rw [← ht]; exact Nat.mod_lt _ (by omega)
      have e0 : ((i + 1 : Nat) : Int) % (n : Int) = (t : Int) := by rw [← ht]; rfl
      have e1 : Int.tmod ((i : Int) + 1) (n : Int) = (t : Int) := by rw [Int.tmod_eq_emod_of_nonneg (by omega)]; exact e0
      have e2 : ((i : Int) + 1) % (n : Int) = (t : Int) := e0
      have hrs := ringL_succ n i
      rw [ht] at hrs
      have hrl := ringL_len n i
      obtain ⟨Av, cv, hvk⟩ := Kd.R_slice HRx.out
      rw [hrl] at hvk
      subst hvk
      have HRs := Lib.hid hrs
      have HLt := Lib.hid hlt
      have HRl := Lib.hid hrl
      generalize ringL n i = rl at *
      clear hrs hrl ht htn e0
      go_upto_region 7 with fail
      go_wp2_with fail
      refine (silkwormlaw11_not.calls (t : Int) 3 7 1 [(t : Int)] ⟨#[]⟩ 0 0 0 wr rfl).mono ?_
      rintro e w1 ⟨v3, rfl, hR3, hb1⟩
      obtain ⟨A3, c3, rfl⟩ := Kd.R_slice hR3
      have HR3 := Lib.hid hR3
      have HB1 := Lib.hid (HBx.out.trans (hb1.mono HBx.out.size))
      have HR1 := Lib.hid (Kd.R_below HRx.out hb1)
      have HS1 := Lib.hid hb1.size
      clear hR3 hb1 e1 e2
      go_wp2_with (first | fail | ((with_reducible refine gate_builtin (b := .append) (xs := #[.tmp 30, .tmp 36]) rfl ?_); at_builtin; refine Kd.R_append k39 (w0 := w1) w.heap.size rfl (.tmp 30) (.tmp 36) 22 39 (.agg #[.int .i64 0, .int .i64 0, .int .i64 0, .slice none 0 0, .string ⟨#[]⟩, .int .i64 0, .int .i64 0, .int .i64 0]) 88 rfl Tryd.underlying22 info39 rfl (by decide) (by decide) (.slice Av i cv) rl (notN (t : Int)) [.int .i64 3, .int .i64 7, .int .i64 1, .slice A3 1 c3, .string ⟨#[]⟩, .int .i64 0, .int .i64 0, .int .i64 0] (fun _ => True) (fun b => wr.heap.size ≤ b) rfl rfl ?aP ?aK (fun _ _ => trivial) ?aO ?aB ?aS ?aL ?_; (case aP => exact k39_mkM w1 _ _ (notN (t : Int)) (Kd.R_lower (Kd.R_mono (Kd.R_bound HR3.out) (fun _ h => h.2.1)) HBx.out.size)); (case aK => exact fun b hb => ⟨trivial, fun e => by have := Kd.R_lt HRx.out b e.symm; omega⟩); (case aO => exact HR1.out); (case aB => exact Below.refl _ _); (case aS => exact HB1.out.size); (case aL => have := HRl.out; omega); intro v1 w9 ho hb hg hat; have HO := Lib.hid ho; have HBo := Lib.hid hb; clear ho hb hg hat))
      refine ⟨⟨i + 1, by simp, HLt.out, by rw [HRs.out]; exact HO, Lib.hid (HB1.out.trans HBo.out)⟩, by have := HLt.out; simp [intOf]; omega⟩
    · obtain rfl : i = n := by omega
      have hrl := ringL_len i i
      obtain ⟨Av, cv, hvk⟩ := Kd.R_slice HRx.out
      rw [hrl] at hvk
      subst hvk
      have HRl := Lib.hid hrl
      clear hrl
      go_upto_region 9 with (first | fail | ((with_reducible refine gate_builtin (b := .append) (xs := #[.tmp 38, .tmp 40]) rfl ?_); at_builtin; refine Kd.R_append k39 (w0 := wr) w.heap.size rfl (.tmp 38) (.tmp 40) 22 39 (.agg #[.int .i64 0, .int .i64 0, .int .i64 0, .slice none 0 0, .string ⟨#[]⟩, .int .i64 0, .int .i64 0, .int .i64 0]) 88 rfl Tryd.underlying22 info39 rfl (by decide) (by decide) (.slice Av i cv) (ringL i i) constN [.int .i64 1, .int .i64 0, .int .i64 1, .slice none 0 0, .string ⟨#[48]⟩, .int .i64 0, .int .i64 0, .int .i64 0] (fun _ => True) (fun b => wr.heap.size ≤ b) rfl rfl ?aP ?aK (fun _ _ => trivial) ?aO ?aB ?aS ?aL ?_; (case aP => exact k39_mkM wr _ _ constN (Kd.R_nil _ _ _ _ _)); (case aK => exact fun b hb => ⟨trivial, fun e => by have := Kd.R_lt HRx.out b e.symm; omega⟩); (case aO => exact HRx.out); (case aB => exact Below.refl _ _); (case aS => exact HBx.out.size); (case aL => have := HRl.out; omega); intro v1 w9 ho hb hg hat; have HO := Lib.hid ho; have HBo := Lib.hid hb; clear ho hb hg hat))
      have hl1 : (ringL i i ++ [constN]).length = i + 1 := ring_len i
      obtain ⟨g, c4, hv4, hg1, hg2⟩ := R_head HO.out (by rw [hl1]; exact Nat.succ_pos _)
      rw [hl1] at hv4
      subst hv4
      have HR4 : Hid (Kd.R k39 39 w9 w.heap.size (fun _ => True) (.slice (some ⟨g, 0, none⟩) (i + 1) c4) (ringN i).nd) := HO
      have HB4 := Lib.hid (HBx.out.trans HBo.out)
      obtain ⟨-, hnin⟩ := nin_of_R HR4.out (ring_sm i)
      have hrm := ring_may i h34 h2
      have hrg : Ring i (hs (ringN i).nd) := ⟨h2, (ring_hs i).1, (ring_hs i).2⟩
      have HN4 := Lib.hid hnin
      have HRm := Lib.hid hrm
      have HRg := Lib.hid hrg
      have HG := Lib.hid hg1
      have HG2 := Lib.hid hg2
      have HWR := Lib.hid HBx.out.size
      clear hl1 HO HBo hnin hrm hrg hg1 hg2 HRl HRx HBx
      have hms : ∀ (W : World), NIn W (ringN i) (some ⟨g, 0, none⟩) c4 none 0 → Calls Tryd.prog 13 #[.agg #[.slice (some ⟨g, 0, none⟩) (i + 1) c4, .slice none 0 0, .int .i64 0]] W fun e w' => e = .returned (.tuple #[.slice none 0 0, .int .i64 110]) ∧ Below W.heap.size W w' := fun W hN => by
        have h := run_any (ringN i) _ _ _ _ W hN
        rw [nlV, ring_len] at h
        exact h.mono fun e w' h => RunP.looped h HRm.out (by rw [ring_len]; exact fun out done cnt hr => HRg.out.cnt hr)
      have hlp : ∀ (W : World), NIn W (ringN i) (some ⟨g, 0, none⟩) c4 none 0 → Calls Tryd.prog 15 #[.agg #[.slice (some ⟨g, 0, none⟩) (i + 1) c4, .slice none 0 0, .int .i64 0]] W fun e w' => ∃ p A c, e = .returned (.slice A i c) ∧ p.length = i ∧ Looped (i + 1) (hs (ringN i).nd) p ∧ Kd.C (Kd.int .i64) w' A p.length (ints p) ∧ Below W.heap.size W w' := fun W hN => by
        have h := loop_any (ringN i) _ _ _ _ W hN
        rw [nlV, ring_len] at h
        refine h.mono fun e w' h => ?_
        obtain ⟨p, A, c, he, hlo, hC, hb⟩ := LoopP.path h HRm.out (by rw [ring_len]; exact fun out done cnt hr => HRg.out.cnt hr)
        rw [ring_len] at hlo
        have hpl := HRg.out.loop hlo
        exact ⟨p, A, c, by rw [he, hpl], hpl, hlo, hC, hb⟩
      have hlo : ∀ (W : World), NIn W (ringN i) (some ⟨g, 0, none⟩) c4 none 0 → ∀ p Ap cp, p.length = i → Looped (i + 1) (hs (ringN i).nd) p → Kd.C (Kd.int .i64) W Ap p.length (ints p) → Calls Tryd.prog 17 #[.agg #[.slice (some ⟨g, 0, none⟩) (i + 1) c4, .slice none 0 0, .int .i64 0], .slice Ap i cp] W fun e w' => e = .returned (.bool true) ∧ Below W.heap.size W w' := fun W hN p Ap cp hpl hlo hC => by
        have h := looped_any (ringN i) _ _ _ _ p Ap cp W hN ((may_iff _).1 HRm.out).lok hC (by rw [ring_len]; exact hlo)
        rw [nlV, ring_len, hpl] at h
        exact h
      have HMs := Lib.hid hms
      have HLp := Lib.hid hlp
      have HLo := Lib.hid hlo
      clear hms hlp hlo
      go_upto_region 10 with fail
      obtain ⟨W0, hW0⟩ : ∃ W, w9.alloc (Obj.cells #[.slice (some ⟨g, 0, none⟩) (i + 1) c4, .slice none 0 0, .int .i64 0] 25) = W := ⟨_, rfl⟩
      rw [hW0]
      obtain ⟨hx0, hb0, hz0⟩ := box_list hW0
      have HX0 := Lib.hid hx0
      have HB0 := Lib.hid hb0
      have HBB0 := Lib.hid (HB4.out.trans (hb0.mono HB4.out.size))
      obtain ⟨P, hP⟩ : ∃ P, w9.heap.size = P := ⟨_, rfl⟩
      have HN0 := Lib.hid (HN4.out.below hb0)
      have HR0 := Lib.hid (Kd.R_below HR4.out hb0)
      rw [hP] at HX0 HG2 ⊢
      obtain ⟨q0, q1, q2⟩ := HX0.out
      clear hx0 hb0 hz0 hW0
      go_upto_region 11 with (first | fail | (go_at_call 13; refine (HMs.out _ HN0.out).mono ?_; rintro e w1 ⟨rfl, hb1⟩; have HB1 := Lib.hid hb1; clear hb1))
      have HX1 := Lib.hid (HX0.out.below HB1.out)
      have HBB1 := Lib.hid (HBB0.out.trans (HB1.out.mono HBB0.out.size))
      have HN1 := Lib.hid (HN0.out.below HB1.out)
      have HR1 := Lib.hid (Kd.R_below HR0.out HB1.out)
      have mkS : ∀ W, Below w1.heap.size w1 W → Below w1.heap.size w1 W ∧ W.cell? ⟨P, 0, none⟩ = some (.slice (some ⟨g, 0, none⟩) (i + 1) c4) ∧ W.cell? ⟨P, 1, none⟩ = some (.slice none 0 0) ∧ W.cell? ⟨P, 2, none⟩ = some (.int .i64 0) := fun W hW => by
        obtain ⟨a, b, c⟩ := HX1.out.below hW
        exact ⟨hW, a, b, c⟩
      have MkS := Lib.hid mkS
      have HPS := Lib.hid (World.block_lt_of_cell? W0 _ HX0.out.k0)
      clear mkS q0 q1 q2
      go_region_held3 (fun w' => Below w1.heap.size w1 w' ∧ w'.cell? ⟨P, 0, none⟩ = some (.slice (some ⟨g, 0, none⟩) (i + 1) c4) ∧ w'.cell? ⟨P, 1, none⟩ = some (.slice none 0 0) ∧ w'.cell? ⟨P, 2, none⟩ = some (.int .i64 0))
        (first | exact MkS.out _ (Below.refl _ _).drew | exact MkS.out _ hnew)
        (first
          | (go_at_call 15; go_split_ands; refine (HLp.out _ (HN1.out.below ?_)).mono ?_; assumption; rintro e w9 ⟨p, Ap, cp, rfl, hpl9, hlo9, hC9, hb9⟩; have HPl9 := Lib.hid hpl9; have HLo9 := Lib.hid hlo9; have HC9 := Lib.hid hC9; have hnew := Below.trans (a := w1) (by assumption) (hb9.mono (Below.size (w := w1) (by assumption))); clear hb9 hlo9 hC9 hpl9)
          | (go_at_call 17; go_split_ands; refine (HLo.out _ (HN1.out.below ?_) p _ _ HPl9.out HLo9.out HC9.out).mono ?_; assumption; rintro e w10 ⟨rfl, hb10⟩; have hnew := Below.trans (a := w1) (by assumption) (hb10.mono (Below.size (w := w1) (by assumption))); clear hb10))
      try clear q0 q1 q2
      rename World => wa
      have HX2 := Lib.hid (HX1.out.below hnew)
      have HBB2 := Lib.hid (HBB1.out.trans (hnew.mono HBB1.out.size))
      have HR2 := Lib.hid (Kd.R_below HR1.out hnew)
      have HGa := Lib.hid (Kd.R_lt HR2.out g rfl)
      clear hnew
      obtain ⟨t, ht⟩ : ∃ t, (k + 1) % i = t := ⟨_, rfl⟩
      have htn : t < i := by rw [← ht]; exact Nat.mod_lt _ (by omega)
      have e0 : ((k + 1 : Nat) : Int) % (i : Int) = (t : Int) := by rw [← ht]; rfl
      have e1 : Int.tmod ((k : Int) + 1) (i : Int) = (t : Int) := by rw [Int.tmod_eq_emod_of_nonneg (by omega)]; exact e0
      have e2 : ((k : Int) + 1) % (i : Int) = (t : Int) := e0
      have ey1 : (⟨8, 0, 1, [(t : Int)], ⟨#[]⟩, 0, 0, 1⟩ : S39) = delayN i k := by unfold delayN; rw [ht]
      have ey2 : (⟨7, 0, 1, [(i : Int), (t : Int)], ⟨#[]⟩, 0, 0, 0⟩ : S39) = flipA i k := by unfold flipA; rw [ht]
      have ey3 : (⟨7, 0, 1, [(t : Int), (i : Int)], ⟨#[]⟩, 0, 0, 0⟩ : S39) = flipB i k := by unfold flipB; rw [ht]
      have HE1 := Lib.hid ey1
      have HE2 := Lib.hid ey2
      have HE3 := Lib.hid ey3
      clear ey1 ey2 ey3
      have hsl := (ringS_hs i k · hkn)
      have hr1 : ∀ W, NIn W (ringS i k (delayN i k)) (some ⟨g, 0, none⟩) c4 none 0 → Calls Tryd.prog 13 #[.agg #[.slice (some ⟨g, 0, none⟩) (i + 1) c4, .slice none 0 0, .int .i64 0]] W fun e w' => ∃ D, e = .returned (.tuple #[.slice (some ⟨D, 0, none⟩) (i + 1) (i + 1), .int .i64 0]) ∧ Below W.heap.size W w' := fun W hN => by
        have h := run_any (ringS i k (delayN i k)) _ _ _ _ W hN
        rw [nlV, ringS_len] at h
        refine h.mono fun e w' h => ?_
        have h1 := RunP.free h (chk2_may chkD_ok i k h34 h2 hkn) (by rw [ringS_len]; exact fun out done cnt hr => ring_open h2 hkn (hsl _).1 (hsl _).2.2 (Or.inl ((hsl _).2.1.trans rfl)) hr)
        rw [ringS_len] at h1
        exact h1
      have hr2 : ∀ W, NIn W (ringS i k (flipA i k)) (some ⟨g, 0, none⟩) c4 none 0 → Calls Tryd.prog 13 #[.agg #[.slice (some ⟨g, 0, none⟩) (i + 1) c4, .slice none 0 0, .int .i64 0]] W fun e w' => ∃ D, e = .returned (.tuple #[.slice (some ⟨D, 0, none⟩) (i + 1) (i + 1), .int .i64 0]) ∧ Below W.heap.size W w' := fun W hN => by
        have h := run_any (ringS i k (flipA i k)) _ _ _ _ W hN
        rw [nlV, ringS_len] at h
        refine h.mono fun e w' h => ?_
        have h1 := RunP.free h (chk2_may chkA_ok i k h34 h2 hkn) (by rw [ringS_len]; exact fun out done cnt hr => ring_open h2 hkn (hsl _).1 (hsl _).2.2 (Or.inr ((hsl _).2.1.trans rfl)) hr)
        rw [ringS_len] at h1
        exact h1
      have hrgB : Ring i (hs (ringS i k (flipB i k)).nd) := ⟨h2, (hsl _).1, fun u hu => by
        by_cases e : u = k
        · subst e; exact (hsl _).2.1.trans rfl
        · exact (hsl _).2.2 u hu e⟩
      have hr3 : ∀ W, NIn W (ringS i k (flipB i k)) (some ⟨g, 0, none⟩) c4 none 0 → Calls Tryd.prog 13 #[.agg #[.slice (some ⟨g, 0, none⟩) (i + 1) c4, .slice none 0 0, .int .i64 0]] W fun e w' => e = .returned (.tuple #[.slice none 0 0, .int .i64 110]) ∧ Below W.heap.size W w' := fun W hN => by
        have h := run_any (ringS i k (flipB i k)) _ _ _ _ W hN
        rw [nlV, ringS_len] at h
        exact h.mono fun e w' h => RunP.looped h (chk2_may chkB_ok i k h34 h2 hkn) (by rw [ringS_len]; exact fun out done cnt hr => hrgB.cnt hr)
      have hl3 : ∀ W, NIn W (ringS i k (flipB i k)) (some ⟨g, 0, none⟩) c4 none 0 → Calls Tryd.prog 15 #[.agg #[.slice (some ⟨g, 0, none⟩) (i + 1) c4, .slice none 0 0, .int .i64 0]] W fun e w' => ∃ A c, e = .returned (.slice A i c) ∧ Below W.heap.size W w' := fun W hN => by
        have h := loop_any (ringS i k (flipB i k)) _ _ _ _ W hN
        rw [nlV, ringS_len] at h
        refine h.mono fun e w' h => ?_
        obtain ⟨p, A, c, he, hlo, hC, hb⟩ := LoopP.path h (chk2_may chkB_ok i k h34 h2 hkn) (by rw [ringS_len]; exact fun out done cnt hr => hrgB.cnt hr)
        rw [ringS_len] at hlo
        exact ⟨A, c, by rw [he, hrgB.loop hlo], hb⟩
      have HR1r := Lib.hid hr1
      have HR2r := Lib.hid hr2
      have HR3r := Lib.hid hr3
      have HL3r := Lib.hid hl3
      clear hr1 hr2 hr3 hl3 hrgB hsl HMs HLp HLo HN4 HN0 HN1 MkS HRm HRg
      go_upto_region 14 with (first
        | fail
        | ((with_reducible refine gate_dst (N := 71) rfl ?_); refine Kd.R_lit (Kd.int .i64) (w0 := w) w.heap.size 3 ?hg (N := 71) ?hd (xs := [(t : Int)]) (inner := [.int .i64 (t)]) (ok := fun b => wa.heap.size ≤ b) (okp := fun _ => False) ?hr ?hp (fun _ hk => hk.elim) (Nat.le_refl _) HBB2.out HBB2.out.size (by simp) ?_; (case hd => rfl); (case hg => rfl); (case hr => first | (go_simp; done) | (go_simp; rfl)); (case hp => exact (Reps.one (show Kd.M (Kd.int .i64) _ _ _ (t : Int) [.int .i64 (t)] from rfl) (Reps.none _ _))); intro vl wl1 ho hb hg _; obtain ⟨Al, cl, hvl⟩ := Kd.R_slice ho; subst hvl; have HOl := Lib.hid ho; have HBBl := Lib.hid hb; have HXl := Lib.hid (HX2.out.grown hg (fun e => by cases e)); have HRl := Lib.hid (Kd.R_grown HR2.out hg (fun _ _ e => by cases e)); clear ho hb hg)
        | ((with_reducible refine gate_store (t := 39) (p := 73) (v := .tmp 72) rfl ?_); refine put39 (w0 := w) (base := w.heap.size) rfl rfl (.tmp 73) (.tmp 72) rfl k (ringN i).nd (⟨8, 0, 1, [(t : Int)], ⟨#[]⟩, 0, 0, 1⟩ : S39) (.slice Al 1 cl) ?hA rfl rfl rfl HRl.out ?hK ?h3 HBBl.out ?_; (case hA => first | rfl | (go_simp; done) | (go_simp; omega)); (case hK => omega); (case h3 => exact Kd.R_mono HOl.out (fun b hb e => by have := HGa.out; omega)); intro ws1 ho hb hg; have HRn := Lib.hid ho; have HBBn := Lib.hid hb; have HXn := Lib.hid (HXl.out.grown hg (fun e => by have := HG2.out; cases e; omega)); clear ho hb hg))
      have hrn := HRn.out
      rw [HE1.out] at hrn
      have hnin := (nin_of_R (l := (ringS i k (delayN i k)).nd) hrn (ringS_sm i k _ (by exact ⟨by simp [delayN, flipA, flipB], Nat.zero_le 1⟩))).2
      have HRm1 := Lib.hid hrn
      have HNm1 := Lib.hid hnin
      have HBm1 := Lib.hid HBBn.out
      have HXm1 := Lib.hid HXn.out
      clear hrn hnin HRn HBBn HXn HX2 HBB2 HR2 HGa HOl HBBl HXl HRl
      obtain ⟨q0, q1, q2⟩ := HXm1.out
      go_upto_region 15 with (first | fail | (go_at_call 13; refine (HR1r.out _ HNm1.out).mono ?_; rintro e wr1 ⟨D1, rfl, hb1⟩; have HB1 := Lib.hid hb1; clear hb1))
      clear q0 q1 q2
      have HX2 := Lib.hid (HXm1.out.below HB1.out)
      have HBB2 := Lib.hid (HBm1.out.trans (HB1.out.mono HBm1.out.size))
      have HR2 := Lib.hid (Kd.R_below HRm1.out HB1.out)
      have HGa := Lib.hid (Kd.R_lt HR2.out g rfl)
      have HN1 := Lib.hid (HNm1.out.below HB1.out)
      clear HXm1 HBm1 HRm1 HNm1 HB1
      go_upto_region 16 with (first
        | fail
        | ((with_reducible refine gate_dst (N := 86) rfl ?_); refine Kd.R_lit (Kd.int .i64) (w0 := w) w.heap.size 3 ?hg (N := 86) ?hd (xs := [(i : Int), (t : Int)]) (inner := [.int .i64 (i), .int .i64 (t)]) (ok := fun b => wr1.heap.size ≤ b) (okp := fun _ => False) ?hr ?hp (fun _ hk => hk.elim) (Nat.le_refl _) HBB2.out HBB2.out.size (by simp) ?_; (case hd => rfl); (case hg => rfl); (case hr => first | (go_simp; done) | (go_simp; rfl)); (case hp => exact (Reps.one (show Kd.M (Kd.int .i64) _ _ _ (i : Int) [.int .i64 (i)] from rfl) (Reps.one (show Kd.M (Kd.int .i64) _ _ _ (t : Int) [.int .i64 (t)] from rfl) (Reps.none _ _)))); intro vl wl2 ho hb hg _; obtain ⟨Al, cl, hvl⟩ := Kd.R_slice ho; subst hvl; have HOl := Lib.hid ho; have HBBl := Lib.hid hb; have HXl := Lib.hid (HX2.out.grown hg (fun e => by cases e)); have HRl := Lib.hid (Kd.R_grown HR2.out hg (fun _ _ e => by cases e)); clear ho hb hg)
        | ((with_reducible refine gate_store (t := 39) (p := 88) (v := .tmp 87) rfl ?_); refine put39 (w0 := w) (base := w.heap.size) rfl rfl (.tmp 88) (.tmp 87) rfl k ((ringN i).nd.set k (delayN i k)) (⟨7, 0, 1, [(i : Int), (t : Int)], ⟨#[]⟩, 0, 0, 0⟩ : S39) (.slice Al 2 cl) ?hA rfl rfl rfl HRl.out ?hK ?h3 HBBl.out ?_; (case hA => first | rfl | (go_simp; done) | (go_simp; omega)); (case hK => omega); (case h3 => exact Kd.R_mono HOl.out (fun b hb e => by have := HGa.out; omega)); intro ws2 ho hb hg; have HRn := Lib.hid ho; have HBBn := Lib.hid hb; have HXn := Lib.hid (HXl.out.grown hg (fun e => by have := HG2.out; cases e; omega)); clear ho hb hg))
      have hrn := HRn.out
      rw [HE2.out, List.set_set] at hrn
      have hnin := (nin_of_R (l := (ringS i k (flipA i k)).nd) hrn (ringS_sm i k _ (by exact ⟨by simp [delayN, flipA, flipB], Nat.zero_le 1⟩))).2
      have HRm2 := Lib.hid hrn
      have HNm2 := Lib.hid hnin
      have HBm2 := Lib.hid HBBn.out
      have HXm2 := Lib.hid HXn.out
      clear hrn hnin HRn HBBn HXn HX2 HBB2 HR2 HGa HOl HBBl HXl HRl
      obtain ⟨q0, q1, q2⟩ := HXm2.out
      go_upto_region 17 with (first | fail | (go_at_call 13; refine (HR2r.out _ HNm2.out).mono ?_; rintro e wr2 ⟨D2, rfl, hb1⟩; have HB1 := Lib.hid hb1; clear hb1))
      clear q0 q1 q2
      have HX2 := Lib.hid (HXm2.out.below HB1.out)
      have HBB2 := Lib.hid (HBm2.out.trans (HB1.out.mono HBm2.out.size))
      have HR2 := Lib.hid (Kd.R_below HRm2.out HB1.out)
      have HGa := Lib.hid (Kd.R_lt HR2.out g rfl)
      have HN2 := Lib.hid (HNm2.out.below HB1.out)
      clear HXm2 HBm2 HRm2 HNm2 HB1
      go_upto_region 18 with (first
        | fail
        | ((with_reducible refine gate_dst (N := 101) rfl ?_); refine Kd.R_lit (Kd.int .i64) (w0 := w) w.heap.size 3 ?hg (N := 101) ?hd (xs := [(t : Int), (i : Int)]) (inner := [.int .i64 (t), .int .i64 (i)]) (ok := fun b => wr2.heap.size ≤ b) (okp := fun _ => False) ?hr ?hp (fun _ hk => hk.elim) (Nat.le_refl _) HBB2.out HBB2.out.size (by simp) ?_; (case hd => rfl); (case hg => rfl); (case hr => first | (go_simp; done) | (go_simp; rfl)); (case hp => exact (Reps.one (show Kd.M (Kd.int .i64) _ _ _ (t : Int) [.int .i64 (t)] from rfl) (Reps.one (show Kd.M (Kd.int .i64) _ _ _ (i : Int) [.int .i64 (i)] from rfl) (Reps.none _ _)))); intro vl wl3 ho hb hg _; obtain ⟨Al, cl, hvl⟩ := Kd.R_slice ho; subst hvl; have HOl := Lib.hid ho; have HBBl := Lib.hid hb; have HXl := Lib.hid (HX2.out.grown hg (fun e => by cases e)); have HRl := Lib.hid (Kd.R_grown HR2.out hg (fun _ _ e => by cases e)); clear ho hb hg)
        | ((with_reducible refine gate_store (t := 39) (p := 103) (v := .tmp 102) rfl ?_); refine put39 (w0 := w) (base := w.heap.size) rfl rfl (.tmp 103) (.tmp 102) rfl k ((ringN i).nd.set k (flipA i k)) (⟨7, 0, 1, [(t : Int), (i : Int)], ⟨#[]⟩, 0, 0, 0⟩ : S39) (.slice Al 2 cl) ?hA rfl rfl rfl HRl.out ?hK ?h3 HBBl.out ?_; (case hA => first | rfl | (go_simp; done) | (go_simp; omega)); (case hK => omega); (case h3 => exact Kd.R_mono HOl.out (fun b hb e => by have := HGa.out; omega)); intro ws3 ho hb hg; have HRn := Lib.hid ho; have HBBn := Lib.hid hb; have HXn := Lib.hid (HXl.out.grown hg (fun e => by have := HG2.out; cases e; omega)); clear ho hb hg))
      have hrn := HRn.out
      rw [HE3.out, List.set_set] at hrn
      have hnin := (nin_of_R (l := (ringS i k (flipB i k)).nd) hrn (ringS_sm i k _ (by exact ⟨by simp [delayN, flipA, flipB], Nat.zero_le 1⟩))).2
      have HRm3 := Lib.hid hrn
      have HNm3 := Lib.hid hnin
      have HBm3 := Lib.hid HBBn.out
      have HXm3 := Lib.hid HXn.out
      clear hrn hnin HRn HBBn HXn HX2 HBB2 HR2 HGa HOl HBBl HXl HRl
      obtain ⟨q0, q1, q2⟩ := HXm3.out
      go_upto_region 19 with (first | fail | (go_at_call 13; refine (HR3r.out _ HNm3.out).mono ?_; rintro e wr3 ⟨rfl, hb1⟩; have HB1 := Lib.hid hb1; clear hb1))
      clear q0 q1 q2
      have HX2 := Lib.hid (HXm3.out.below HB1.out)
      have HBB2 := Lib.hid (HBm3.out.trans (HB1.out.mono HBm3.out.size))
      have HR2 := Lib.hid (Kd.R_below HRm3.out HB1.out)
      have HGa := Lib.hid (Kd.R_lt HR2.out g rfl)
      have HN3 := Lib.hid (HNm3.out.below HB1.out)
      clear HXm3 HBm3 HRm3 HNm3 HB1
      have haw := awake_any
      have HAw := Lib.hid haw
      clear haw
      obtain ⟨q0, q1, q2⟩ := HX2.out
      go_wp2_with (first
        | fail
        | (go_at_call 15; refine (HL3r.out _ HN3.out).mono ?_; rintro e w9 ⟨Ap, cp, rfl, hb9⟩; have HBe := Lib.hid (HBB2.out.trans (hb9.mono HBB2.out.size)); clear hb9)
        | (go_at_call 12; refine (HAw.out _).mono ?_; rintro e w10 ⟨rfl, hb10⟩; have HBf := Lib.hid (HBe.out.trans (hb10.mono HBe.out.size)); clear hb10))
      go_ret
      exact ⟨by try rfl, HBf.out⟩
end Go.Proofs.YtonnmkhmhndalaaDoor
