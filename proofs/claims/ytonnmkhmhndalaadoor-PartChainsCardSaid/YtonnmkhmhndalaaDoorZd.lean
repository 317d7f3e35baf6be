/- Levels, walked. level.Run, walked. -/
import Derived.Test.YtonnmkhmhndalaaDoorZa
import Derived.Test.YtonnmkhmhndalaaDoorZc
section
namespace Go.Proofs.YtonnmkhmhndalaaDoor
set_option linter.unusedVariables false
set_option linter.unusedSimpArgs false
open Go.RowKit Go.Proofs.YtonnmkhmhndalaaDoorW.PrintWords Go.Proofs.YtonnmkhmhndalaaDoorW.PrintLast Go.Proofs.YtonnmkhmhndalaaDoorW.PrintMore
theorem nodup_len (l : List Nat) (n : Nat) (h : l.Nodup) (hl : ∀ x ∈ l, x < n) : l.length ≤ n := by
  have hs : l ⊆ List.range n := fun x hx => List.mem_range.2 (hl x hx)
  have := h.length_le_of_subset hs
  rwa [List.length_range] at this
theorem LInv.rlen {n : Nat} {hs : Nat → List Nat} {s : LSt} (h : LInv n hs s) : s.ready.length ≤ n := nodup_len _ _ h.rn (fun x hx => (h.rl x hx).1)
theorem LMid.rlen {n : Nat} {hs us : Nat → List Nat} {k : Nat} {p : List Nat} {s : LSt} (h : LMid n hs us k p s) : s.ready.length ≤ n := nodup_len _ _ h.rn (fun x hx => (h.rl x hx).1)
def LevP (w : World) (l : List S39) (e : Ending) (w' : World) : Prop :=
  ∃ (D cnt : Nat) (out : Nat → Nat) (done : Nat → Bool), e = .returned (.tuple #[.slice (some ⟨D, 0, none⟩) l.length l.length, .slice (some ⟨D + 2, 0, none⟩) l.length l.length, .int .i64 (cnt : Int)]) ∧ w.heap.size ≤ D ∧ Cl eI w' D l.length out ∧ Cl Value.bool w' (D + 2) l.length done ∧ LRes l.length (hs l) out done cnt ∧ Below w.heap.size w w'
theorem max_nat (ats : Array TypeId) (ty : TypeId) (a b : Nat) : Builtin.max_ ats ty #[.int .i64 (a : Int), .int .i64 ((b : Int) + 1)] = pure (.int .i64 ((max a (b + 1) : Nat) : Int)) := by
  simp only [max_two, max2_int]
  by_cases h : (a : Int) < (b : Int) + 1
  · rw [if_pos h, Nat.max_eq_right (by omega)]
    rfl
  · rw [if_neg h, Nat.max_eq_left (by omega)]
    rfl
theorem rd_at {W : World} {base g n cap : Nat} {ok : Nat → Prop} {l : List Nat} (h : Kd.R (Kd.int .i64) 3 W base ok (.slice (some ⟨g, 0, none⟩) n cap) (ints l)) (i : Nat) (hi : i < l.length) : W.cell? ⟨g, i, none⟩ = some (.int .i64 (l[i] : Int)) := by
  have hn := (Kd.R_reads' h).1
  rw [ints_len] at hn
  subst hn
  have h1 := (Kd.R_celln (0 : Int) h (i : Int) (by omega) (by omega)).1
  rw [Int.toNat_natCast] at h1
  rw [h1]
  have : rdOf (0 : Int) (ints l) (i : Int) = (l[i] : Int) := by
    unfold rdOf
    rw [Int.toNat_natCast, ints_getD l i hi, List.getD_eq_getElem?_getD, List.getElem?_eq_getElem hi]
    rfl
  rw [this]
set_option maxRecDepth 100000 in
set_option maxHeartbeats 4000000 in
theorem levels_any (x : NL) (A : Option Addr) (c : Nat) (B : Option Addr) (d : Nat) (w : World) (hI : NIn w x A c B d) (hL : LOk x.nd) :
    Calls Tryd.prog 26 #[nlV x A c B d] w (LevP w x.nd) := by
  obtain ⟨n, hn⟩ : ∃ n, x.nd.length = n := ⟨_, rfl⟩
  have hn4 : n ≤ 4096 := by rw [← hn]; exact hL.n
  have HI := Lib.hid hI
  have HL := Lib.hid hL
  have HN := Lib.hid hn
  clear hI hL
  go_enter Tryd.func26, Tryd.ntmps26
  go_upto_region 1 with fail
  obtain ⟨W0, hW0⟩ : ∃ W, w.alloc (Obj.cells #[.slice A n c, .slice B x.nt.length d, .int .i64 x.pt] 25) = W := ⟨_, rfl⟩
  rw [hW0]
  obtain ⟨hx0, hb0, hz0⟩ := box_list hW0
  have q0 := hx0.k0
  obtain ⟨W1, m1, hb1, hz1, ho1⟩ := make23 n (by omega) W0
  obtain ⟨W2, m2, hb2, hz2, ho2⟩ := make23 n (by omega) W1
  obtain ⟨W3, m3, hb3, hz3, ho3⟩ := make59 n (by omega) W2
  obtain ⟨W4, m4, hb4, hz4, ho4⟩ := make44 n (by omega) W3
  have q1 := (hx0.below hb1).k0
  have q2 := ((hx0.below hb1).below hb2).k0
  have q3 := (((hx0.below hb1).below hb2).below hb3).k0
  have q4 := ((((hx0.below hb1).below hb2).below hb3).below hb4).k0
  have hb04 : Below W0.heap.size W0 W4 := ((hb1.trans (hb2.mono (by omega))).trans (hb3.mono (by omega))).trans (hb4.mono (by omega))
  have e1 : W1.heap.size = W0.heap.size + 1 := hz1
  have e2 : W2.heap.size = W0.heap.size + 2 := by omega
  have e3 : W3.heap.size = W0.heap.size + 3 := by omega
  have e4 : W4.heap.size = W0.heap.size + 4 := by omega
  have HM : LMem W4 W0.heap.size W4.heap.size n (fun _ => 0) (leftN (hs x.nd) 0) (fun _ => false) (fun _ => .slice none 0 0) (fun _ => []) (.slice none 0 0) (rdN (hs x.nd) 0) := by
    refine ⟨((ho1.below hb2 (by omega)).below hb3 (by omega)).below hb4 (by omega), ?_, ?_, ?_, fun j hj => Kd.R_nil _ _ _ _ _, Kd.R_nil _ _ _ _ _, by omega, Nat.le_refl _⟩
    · rw [← e1]
      exact ((ho2.size (fun j _ => by unfold leftN; rw [if_neg (Nat.not_lt_zero _)])).below hb3 (by omega)).below hb4 (by omega)
    · rw [← e2]; exact ho3.below hb4 (by omega)
    · rw [← e3]; exact ho4
  rw [e1] at m2
  rw [e2] at m3
  rw [e3] at m4
  have HM0 := Lib.hid HM
  have HB0 := Lib.hid hb0
  have HB4 := Lib.hid hb04
  have HZ0 := Lib.hid hz0
  have HE4 := Lib.hid e4
  clear HM hb0 hb04 hz0 e1 e2 e3 e4 hb1 hb2 hb3 hb4 hz1 hz2 hz3 hz4 ho1 ho2 ho3 ho4 hW0 hn hx0
  go_upto_region 6 with fail
  clear q0 q1 q2 q3 m1 m2 m3 m4
  go_wp2_with fail
  go_loopw [9, 38] (fun v9 v38 wx => ∃ (k : Nat) (vs : Nat → Value) (us : Nat → List Nat), v38 = .int .i64 k ∧ k ≤ n ∧ Hid (L1 (hs x.nd) k [] us) ∧ Hid (LMem wx W0.heap.size W4.heap.size n (fun _ => 0) (leftN (hs x.nd) k) (fun _ => false) vs us v9 (rdN (hs x.nd) k)) ∧ Hid (Below W0.heap.size W0 wx)) (fun _ v38 _ => n - (intOf v38).toNat)
  case atStart => exact ⟨0, _, _, rfl, Nat.zero_le _, Lib.hid (L1.start _), HM0, HB4⟩
  case round =>
    obtain ⟨k, vs, us, rfl, hk, H1, HMx, HBx⟩ := hrel
    by_cases hlt : k < n
    · have hW0le : w.heap.size ≤ W0.heap.size := by have := HZ0.out; omega
      have hW := HB0.out.trans (HBx.out.mono hW0le)
      have hk' : k < x.nd.length := by rw [HN.out]; exact hlt
      obtain ⟨b, o, A3, c3, hA, hl3, hbs, hND⟩ := nodes_in HI.out.h0 k hk'
      subst hA
      have hq7 := HL.out.f k hk'
      have HC := Lib.hid (HL.out.cast k hk')
      have HLe := Lib.hid (HL.out.le k hk')
      have HAt := Lib.hid (HL.out.at_ k hk')
      have HLn := Lib.hid (hs_len x.nd k)
      generalize x.nd.getD k z39 = y at *
      have hh := fun W hW => hangs_any y A3 c3 W hW hl3 hq7
      have HH := Lib.hid hh
      have HND := Lib.hid hND
      have HLt := Lib.hid hlt
      obtain ⟨h0, h1, h2, h3, h4, h5, h6, h7, hC3⟩ := hND _ hW
      have HC3 := Lib.hid hC3
      clear hk' hl3 hC3 hbs hq7 hh hND hW
      go_upto_region 9 with fail
      obtain ⟨W5, hW5⟩ : ∃ W, wr.alloc (Obj.cells #[Value.int IntKind.i64 y.f0, Value.int IntKind.i64 y.f1, Value.int IntKind.i64 y.f2, Value.slice A3 y.f3.length c3, Value.string y.f4, Value.int IntKind.i64 y.f5, Value.int IntKind.i64 y.f6, Value.int IntKind.i64 y.f7] 39) = W := ⟨_, rfl⟩
      rw [hW5]
      obtain ⟨⟨z0, z1, z2, z3, z4, z5, z6, z7, hC5⟩, hb5⟩ := box_node HC3.out hW5
      have HB5 := Lib.hid (HBx.out.trans (hb5.mono HBx.out.size))
      have HM5 := Lib.hid (HMx.out.below hb5)
      have HC5 := Lib.hid hC5
      clear hW5 hb5 h0 h1 h2 h3 h4 h5 h6 h7 hC5
      go_wp2_with fail
      refine (HH.out W5 HC5.out).mono ?_
      rintro e w6 ⟨A6, c6, rfl, hl6, hC6, hb6⟩
      obtain ⟨m, hm⟩ : ∃ m, (hg y).length = m := ⟨_, rfl⟩
      have HB6 := Lib.hid (HB5.out.trans (hb6.mono HB5.out.size))
      have HM6 := Lib.hid (HM5.out.below hb6)
      have HC6 := Lib.hid hC6
      have HL6 := Lib.hid hl6
      have hmm := HLn.out.trans hm
      have hm256 : m ≤ 256 := by rw [← hm]; exact HLe.out
      have s1 := HM6.out.l.c k hlt
      have s2 := HM6.out.l.f k hlt
      have HMm := Lib.hid hmm
      have HMM := Lib.hid hm
      clear hC6 hl6 hb6 hmm z0 z1 z2 z3 z4 z5 z6 z7
      go_upto_region 11 with fail
      obtain ⟨W7, hW7⟩ : ∃ W, w6.setCell ⟨W0.heap.size + 1, k, none⟩ (.int .i64 m) = W := ⟨_, rfl⟩
      rw [hW7]
      have HM7 : Hid (LMem W7 W0.heap.size W4.heap.size n (fun _ => 0) (leftN (hs x.nd) (k + 1)) (fun _ => false) vs us u9 (rdN (hs x.nd) k)) := Lib.hid (by rw [← hW7, ← leftN_succ, HMm.out]; exact HM6.out.setL k m)
      have HB7 : Hid (Below W0.heap.size W0 W7) := Lib.hid (by rw [← hW7]; exact below_set2 (Nat.le_succ _) HB6.out)
      clear hW7 s1 s2 hm
      go_wp2_with fail
      go_loopw [52] (fun v52 wy => ∃ (j : Nat) (vs : Nat → Value) (us : Nat → List Nat), v52 = .int .i64 j ∧ j ≤ m ∧ Hid (L1 (hs x.nd) k ((hs x.nd k).take j) us) ∧ Hid (LMem wy W0.heap.size W4.heap.size n (fun _ => 0) (leftN (hs x.nd) (k + 1)) (fun _ => false) vs us u9 (rdN (hs x.nd) k)) ∧ Hid (Below W0.heap.size W0 wy)) (fun v52 _ => m - (intOf v52).toNat)
      case atStart => exact ⟨0, vs, us, rfl, Nat.zero_le _, by rw [List.take_zero]; exact H1, HM7, HB7⟩
      case round =>
        obtain ⟨j, vs, us, rfl, hj, H1y, HMy, HBy⟩ := hrel
        by_cases hjl : j < m
        · have hCy := HC6.out _ (HND.out _ (HB0.out.trans (HBy.out.mono (by have := HZ0.out; omega)))).hC
          obtain ⟨b6, o6, hA6, g6, -⟩ := ints_at hCy j (by rw [HMM.out]; exact hjl)
          subst hA6
          have hjg : j < (hg y).length := by rw [HMM.out]; exact hjl
          have hjs : j < (hs x.nd k).length := by rw [HMm.out]; exact hjl
          have hmem : (hg y).getD j 0 ∈ hg y := by rw [List.getD_eq_getElem?_getD, List.getElem?_eq_getElem hjg]; exact List.getElem_mem _
          have hat0 := HAt.out _ hmem
          obtain ⟨a, ha⟩ : ∃ a : Nat, (hg y).getD j 0 = (a : Int) := ⟨((hg y).getD j 0).toNat, by omega⟩
          have han : a < n := by rw [ha] at hat0; rw [← HN.out]; omega
          have htk : (hs x.nd k).take (j + 1) = (hs x.nd k).take j ++ [a] := by
            rw [List.take_succ_eq_append_getElem hjs]
            congr 1
            have h1 := ints_getD (hs x.nd k) j hjs
            rw [HC.out, ha, List.getD_eq_getElem?_getD, List.getElem?_eq_getElem hjs] at h1
            have h2 : (a : Int) = (((hs x.nd k)[j] : Nat) : Int) := h1
            rw [show (hs x.nd k)[j] = a by omega]
          rw [ha] at g6
          have hrk := HMy.out.u a han
          obtain ⟨Av, cv, hvk⟩ := Kd.R_slice hrk
          rw [hvk] at hrk
          rw [ints_len] at hvk hrk
          have hul : (us a).length ≤ 1048576 + 256 := by
            have := H1y.out.l a
            have h3 : ((hs x.nd k).take j).length ≤ j := List.length_take_le _ _
            omega
          have pc : wr.cell? ⟨W0.heap.size + 3, a, none⟩ = _ := HMy.out.p.c a han
          have pf := HMy.out.p.f a han
          rw [hvk] at pc
          have HRk := Lib.hid hrk
          have HVk := Lib.hid hvk
          have HUl := Lib.hid hul
          have HTk := Lib.hid htk
          have HA9 := Lib.hid han
          have HJ := Lib.hid hjl
          clear hmem hat0 ha hjg hjs hCy hul hrk hvk htk
          go_upto_region 14 with fail
          go_wp2_with (first | fail | ((with_reducible refine gate_builtin (b := .append) (xs := #[.tmp 61, .tmp 63]) rfl ?_); at_builtin; refine Kd.R_append (Kd.int .i64) (w0 := wr) W4.heap.size rfl (.tmp 61) (.tmp 63) 23 3 (.int .i64 0) 8 rfl Tryd.underlying23 info3 rfl (by decide) (by decide) (.slice Av (us a).length cv) (ints (us a)) (k : Int) [.int .i64 (k : Int)] (fun b => (∀ i, i < n → i ≠ a → some b ≠ (vs i).ownBlock) ∧ some b ≠ u9.ownBlock) (fun _ => False) rfl rfl ?aP (fun _ hk => hk.elim) ?aF ?aO ?aB ?aS ?aL ?_; (case aP => exact kI_mkM _ _ _ _); (case aF => exact fun b hb => HMy.out.freshU a b hb); (case aO => exact HRk.out); (case aB => exact Below.refl _ _); (case aS => exact HMy.out.t); (case aL => rw [ints_len]; have := HUl.out; omega); intro v1 w9 ho hb hg hat; obtain ⟨A9, c9, rfl⟩ := Kd.R_slice ho; have pc9 : w9.cell? ⟨W0.heap.size + 3, a, none⟩ = some (.slice Av (us a).length cv) := (hb.cell (p := ⟨W0.heap.size + 3, a, none⟩) HMy.out.s).trans pc; have pf9 : w9.frozen? ⟨W0.heap.size + 3, a, none⟩ = false := (hb.frozen (p := ⟨W0.heap.size + 3, a, none⟩) HMy.out.s).trans pf; have HO := Lib.hid ho; have HBo := Lib.hid hb; have HG := Lib.hid hg; have HAt9 := Lib.hid hat; clear ho hb hg hat))
          refine ⟨⟨j + 1, upd vs a (.slice A9 ((ints (us a)).length + 1) c9), upd us a (us a ++ [k]), by simp, HJ.out, ?_, ?_, ?_⟩, by have := HJ.out; simp [intOf]; omega⟩
          · rw [HTk.out]
            exact Lib.hid (H1y.out.step a)
          · have hx := HMy.out.appU (k := a) (p := k) (v1 := .slice A9 (ints (us a) ++ [(k : Int)]).length c9) HA9.out HO.out HBo.out (by rw [HVk.out]; exact HG.out) (by rw [HVk.out]; exact HAt9.out)
            rw [List.length_append, List.length_singleton] at hx
            exact Lib.hid hx
          · exact Lib.hid (below_set2 (by omega) (HBy.out.trans (HBo.out.mono (by have := HE4.out; omega))))
        · obtain rfl : j = m := by omega
          have hL1 : L1 (hs x.nd) (k + 1) [] us := by
            have h1 := H1y.out
            rw [List.take_of_length_le (by rw [HMm.out]; exact Nat.le_refl _)] at h1
            exact h1.next (by rw [HMm.out]; exact hm256)
          have HL1 := Lib.hid hL1
          have hrs := rdN_succ (hs x.nd) k
          rw [HMm.out] at hrs
          have hrl := rdN_len (hs x.nd) k
          have HRs := Lib.hid hrs
          have HRl := Lib.hid hrl
          clear hL1 hrs hrl hjl hj
          by_cases h0 : j = 0
          · subst h0
            have hR := HMy.out.r
            obtain ⟨Av, cv, hvk⟩ := Kd.R_slice hR
            rw [ints_len] at hvk
            subst hvk
            have HR := Lib.hid hR
            clear hR
            go_upto_region 17 with fail
            go_wp2_with (first | fail | ((with_reducible refine gate_builtin (b := .append) (xs := #[.tmp 70, .tmp 72]) rfl ?_); at_builtin; refine Kd.R_append (Kd.int .i64) (w0 := wr) W4.heap.size rfl (.tmp 70) (.tmp 72) 23 3 (.int .i64 0) 8 rfl Tryd.underlying23 info3 rfl (by decide) (by decide) (.slice Av (rdN (hs x.nd) k).length cv) (ints (rdN (hs x.nd) k)) (k : Int) [.int .i64 (k : Int)] (fun b => ∀ i, i < n → some b ≠ (vs i).ownBlock) (fun _ => False) rfl rfl ?aP (fun _ hk => hk.elim) ?aF ?aO ?aB ?aS ?aL ?_; (case aP => exact kI_mkM _ _ _ _); (case aF => exact fun b hb => HMy.out.freshR b hb); (case aO => exact HR.out); (case aB => exact Below.refl _ _); (case aS => exact HMy.out.t); (case aL => rw [ints_len]; have := HRl.out; omega); intro v1 w9 ho hb hg hat; have HM9 := Lib.hid (HMy.out.appR ho hb hg hat); have HBo := Lib.hid hb; clear ho hb hg hat))
            refine ⟨⟨k + 1, vs, us, by simp, HLt.out, HL1, by rw [HRs.out, if_pos rfl]; exact HM9, Lib.hid (HBy.out.trans (HBo.out.mono (by have := HE4.out; omega)))⟩, by have := HLt.out; simp [intOf]; omega⟩
          · have h0' : ((j : Int) == 0) = false := by simpa using h0
            go_wp2_with fail
            refine ⟨⟨k + 1, vs, us, by simp, HLt.out, HL1, by rw [HRs.out, if_neg h0]; exact HMy, HBy⟩, by have := HLt.out; simp [intOf]; omega⟩
    · obtain rfl : k = n := by omega
      have HU := Lib.hid (H1.out.users (fun i hi => by have := HL.out.hsl i (by rw [HN.out]; exact hi); rw [HN.out] at this; exact this))
      have HInv := Lib.hid (L1.inv (hs := hs x.nd) (n := k))
      go_wp2_with fail
      go_loopw [9, 15] (fun v9 v15 wx => ∃ s : LSt, v15 = .int .i64 s.cnt ∧ Hid (LInv k (hs x.nd) s) ∧ Hid (LMem wx W0.heap.size W4.heap.size k s.out s.left s.done vs us v9 s.ready) ∧ Hid (Below W0.heap.size W0 wx)) (fun _ v15 _ => k - (intOf v15).toNat)
      case atStart => exact ⟨_, rfl, HInv, HMx, HBx⟩
      case round =>
        obtain ⟨s, rfl, HIn, HMs, HBs⟩ := hrel
        have hR := HMs.out.r
        obtain ⟨Av, cv, hvk⟩ := Kd.R_slice hR
        rw [ints_len] at hvk
        subst hvk
        by_cases he : s.ready = []
        · have hres := HIn.out.res he
          have hl0 : s.ready.length = 0 := by rw [he]; rfl
          have HRes := Lib.hid hres
          clear hR he hres
          go_wp2_with fail
          refine bodyPost_ret (v := .tuple #[.slice (some ⟨W0.heap.size, 0, none⟩) k k, .slice (some ⟨W0.heap.size + 2, 0, none⟩) k k, .int .i64 (s.cnt : Int)]) (by simp [results, Tryd.results26, go_sem]) rfl ?_
          rw [LevP, HN.out]
          exact ⟨W0.heap.size, s.cnt, s.out, s.done, rfl, by have := HZ0.out; omega, HMs.out.o, HMs.out.d, HRes.out, HB0.out.trans (HBs.out.mono (by have := HZ0.out; omega))⟩
        · obtain ⟨r, kk, hr⟩ : ∃ r kk, s.ready = r ++ [kk] := ⟨s.ready.dropLast, s.ready.getLast he, (List.dropLast_concat_getLast he).symm⟩
          have hlen : s.ready.length = r.length + 1 := by rw [hr, List.length_append]; rfl
          obtain ⟨g, cap, hA, hg0, hg1, -⟩ := Kd.R_form hR (by rw [ints_len]; omega)
          rw [ints_len] at hA
          injection hA with hA1 _ hA2
          subst hA1
          subst hA2
          have hck := rd_at hR r.length (by omega)
          have hkk : s.ready[r.length]'(by omega) = kk := by
            simp only [hr]
            rw [List.getElem_append_right (Nat.le_refl _)]
            simp
          rw [hkk] at hck
          have hkn := (HIn.out.rl kk (by rw [hr]; simp)).1
          have HMid := Lib.hid (HIn.out.pop (us := us) hr)
          have d1 := HMs.out.d.c kk hkn
          have d2 := HMs.out.d.f kk hkn
          have hcn := HMid.out.le
          have hcl : s.cnt + 1 ≤ k := hcn
          have HKn := Lib.hid hkn
          have HKr := Lib.hid hr
          have hrk : r.length + 1 ≤ k := by rw [← hlen]; exact HIn.out.rlen
          have hrc : r.length ≤ cv := by have := (Kd.R_reads' hR).2.1; omega
          have hle1 : ((s.ready.length : Nat) : Int) = (r.length : Int) + 1 := by omega
          clear hkk hR he hcn hkn hr
          rw [hlen] at HMs
          rw [hlen]
          clear hlen hle1
          go_upto_region 25 with fail
          obtain ⟨W5, hW5⟩ : ∃ W, wr.setCell ⟨W0.heap.size + 2, kk, none⟩ (.bool true) = W := ⟨_, rfl⟩
          rw [hW5]
          have hm5 : LMem W5 W0.heap.size W4.heap.size k s.out s.left (upd s.done kk true) vs us (.slice (some ⟨g, 0, none⟩) r.length cv) r := by
            rw [← hW5]
            have h1 := (HMs.out.popR r.length (by rw [HKr.out, List.length_append]; omega)).setD kk true
            rw [HKr.out, List.take_left' rfl] at h1
            exact h1
          have hb5 : Below W0.heap.size W0 W5 := by rw [← hW5]; exact below_set2 (by omega) HBs.out
          have HM5 := Lib.hid hm5
          have HB5 := Lib.hid hb5
          have hrk5 := hm5.u kk HKn.out
          obtain ⟨Au, cu, hvu⟩ := Kd.R_slice hrk5
          rw [ints_len] at hvu
          have pk := hm5.p.c kk HKn.out
          have pk' : W5.cell? ⟨W0.heap.size + 3, kk, none⟩ = some (vs kk) := pk
          rw [hvu] at pk'
          have hul : (us kk).length ≤ 1048576 := by
            have := H1.out.l kk
            rw [List.length_nil] at this
            omega
          obtain ⟨m, hm⟩ : ∃ m, (us kk).length = m := ⟨_, rfl⟩
          rw [hm] at pk' hvu hul
          have HVu := Lib.hid hvu
          have HUm := Lib.hid hm
          have hknk := HKn.out
          clear hW5 hm5 hb5 hrk5 pk hck d1 d2 hvu hm hg0 hg1
          go_wp2_with fail
          go_loopw [9, 99] (fun v9 v99 wy => ∃ (j : Nat) (t : LSt), v99 = .int .i64 j ∧ j ≤ m ∧ t.cnt = s.cnt + 1 ∧ Hid (LMid k (hs x.nd) us kk ((us kk).take j) t) ∧ Hid (LMem wy W0.heap.size W4.heap.size k t.out t.left t.done vs us v9 t.ready) ∧ Hid (Below W0.heap.size W0 wy)) (fun _ v99 _ => m - (intOf v99).toNat)
          case atStart => exact ⟨0, _, rfl, Nat.zero_le _, rfl, by rw [List.take_zero]; exact HMid, HM5, HB5⟩
          case round =>
            obtain ⟨j, t, rfl, hj, htc, HMt, HMy, HBy⟩ := hrel
            by_cases hjm : j < m
            · have hju : j < (us kk).length := by rw [HUm.out]; exact hjm
              obtain ⟨a, ha⟩ : ∃ a, (us kk)[j] = a := ⟨_, rfl⟩
              have hsp : us kk = (us kk).take j ++ a :: (us kk).drop (j + 1) := by
                conv => lhs; rw [← List.take_append_drop j (us kk)]
                rw [List.drop_eq_getElem_cons hju, ha]
              have htk : (us kk).take (j + 1) = (us kk).take j ++ [a] := by
                rw [List.take_succ_eq_append_getElem hju, ha]
              obtain ⟨han, hl1, hnd, hne, hou, hok, hmid⟩ := HMt.out.user HU.out hsp
              have hrlen := HMt.out.rlen
              have hru := HMy.out.u kk HKn.out
              rw [HVu.out] at hru
              obtain ⟨gu, cu2, hAu, -, -, -⟩ := Kd.R_form hru (by rw [ints_len]; omega)
              injection hAu with hA1 hAm hA2
              subst hA1
              clear hAm
              have hcu := rd_at hru j hju
              rw [ha] at hcu
              have c1 := HMy.out.o.c a han
              have c2 := HMy.out.o.f a han
              have c3 := HMy.out.o.c kk HKn.out
              have HMid' := Lib.hid hmid
              have HTk := Lib.hid htk
              have HJ := Lib.hid hjm
              have hcl2 := HMt.out.le
              have HTc := Lib.hid htc
              have hmx := fun ats ty => max_nat ats ty (t.out a) (t.out kk)
              clear hju ha hsp htk hru hA2 hmid htc
              go_upto_region 28 with fail
              go_region
              obtain ⟨W6, hW6⟩ : ∃ W, (wr.setCell ⟨W0.heap.size, a, none⟩ (.int .i64 ((max (t.out a) (t.out kk + 1) : Nat) : Int))).drew = W := ⟨_, rfl⟩
              rw [hW6]
              have hm6 : LMem W6 W0.heap.size W4.heap.size k (upd t.out a (max (t.out a) (t.out kk + 1))) t.left t.done vs us u9 t.ready := by
                rw [← hW6]; exact (HMy.out.setO a _).below (below_drew (Below.refl _ _))
              have hb6 : Below W0.heap.size W0 W6 := by rw [← hW6]; exact (below_set2 (Nat.le_refl _) HBy.out).drew
              have l1 := hm6.l.c a han
              have l2 := hm6.l.f a han
              obtain ⟨q, hq⟩ : ∃ q, t.left a = q + 1 := ⟨t.left a - 1, by omega⟩
              have hq1 : t.left a - 1 = q := by omega
              have l1' : W6.cell? ⟨W0.heap.size + 1, a, none⟩ = some (.int .i64 ((q : Int) + 1)) := by rw [l1, hq]; rfl
              have hqb : (q : Int) + 1 ≤ 4096 := by
                have h1 := HMt.out.lf a han
                have h2 := List.countP_le_length (p := fun h => !t.done h) (l := hs x.nd a)
                have h3 := List.count_le_length (a := kk) (l := hs x.nd a)
                have h4 := hs_len x.nd a
                have h5 := HL.out.le a (by rw [HN.out]; exact han)
                omega
              have HM6 := Lib.hid hm6
              have HB6 := Lib.hid hb6
              have HQ1 := Lib.hid hq1
              have HAn := Lib.hid han
              clear hW6 hm6 hb6 l1 hq hq1 hl1 c1 c2 c3 hmx hcu
              go_upto_region 30 with fail
              obtain ⟨W7, hW7⟩ : ∃ W, W6.setCell ⟨W0.heap.size + 1, a, none⟩ (.int .i64 (q : Int)) = W := ⟨_, rfl⟩
              rw [hW7]
              have hm7 : LMem W7 W0.heap.size W4.heap.size k (upd t.out a (max (t.out a) (t.out kk + 1))) (upd t.left a (t.left a - 1)) t.done vs us u9 t.ready := by
                rw [← hW7, HQ1.out]; exact HM6.out.setL a q
              have hb7 : Below W0.heap.size W0 W7 := by rw [← hW7]; exact below_set2 (Nat.le_succ _) HB6.out
              have l7 : W7.cell? ⟨W0.heap.size + 1, a, none⟩ = some (.int .i64 (q : Int)) := by rw [← hW7]; exact cell_eq l1'
              have HM7 := Lib.hid hm7
              have HB7 := Lib.hid hb7
              clear hW7 hm7 hb7 l1' l2
              by_cases h0 : q = 0
              · subst h0
                have hR := HM7.out.r
                obtain ⟨Ar, cr, hvr⟩ := Kd.R_slice hR
                rw [ints_len] at hvr
                subst hvr
                have HR := Lib.hid hR
                clear hR
                go_upto_region 31 with fail
                go_wp2_with (first | fail | ((with_reducible refine gate_builtin (b := .append) (xs := #[.tmp 127, .tmp 129]) rfl ?_); at_builtin; refine Kd.R_append (Kd.int .i64) (w0 := W7) W4.heap.size rfl (.tmp 127) (.tmp 129) 23 3 (.int .i64 0) 8 rfl Tryd.underlying23 info3 rfl (by decide) (by decide) (.slice Ar t.ready.length cr) (ints t.ready) (a : Int) [.int .i64 (a : Int)] (fun b => ∀ i, i < k → some b ≠ (vs i).ownBlock) (fun _ => False) rfl rfl ?aP (fun _ hk => hk.elim) ?aF ?aO ?aB ?aS ?aL ?_; (case aP => exact kI_mkM _ _ _ _); (case aF => exact fun b hb => HM7.out.freshR b hb); (case aO => exact HR.out); (case aB => exact Below.refl _ _); (case aS => exact HM7.out.t); (case aL => rw [ints_len]; omega); intro v1 w9 ho hb hg hat; have HM9 := Lib.hid (HM7.out.appR ho hb hg hat); have HBo := Lib.hid hb; clear ho hb hg hat))
                refine ⟨⟨j + 1, userSt t kk a, by simp, HJ.out, HTc.out, by rw [HTk.out]; exact HMid', ?_, Lib.hid (HB7.out.trans (HBo.out.mono (by have := HE4.out; omega)))⟩, by have := HJ.out; simp [intOf]; omega⟩
                have e : (userSt t kk a).ready = t.ready ++ [a] := if_pos HQ1.out
                rw [e]
                exact HM9
              · have h0' : ((q : Int) == 0) = false := by simpa using h0
                go_wp2_with fail
                refine ⟨⟨j + 1, userSt t kk a, by simp, HJ.out, HTc.out, by rw [HTk.out]; exact HMid', ?_, HB7⟩, by have := HJ.out; simp [intOf]; omega⟩
                have e : (userSt t kk a).ready = t.ready := if_neg (by rw [HQ1.out]; exact h0)
                rw [e]
                exact HM7
            · obtain rfl : j = m := by omega
              have hfin : LInv k (hs x.nd) t := by
                have h1 := HMt.out
                rw [List.take_of_length_le (by rw [HUm.out]; exact Nat.le_refl _)] at h1
                exact h1.fin HU.out
              have HF := Lib.hid hfin
              have HTc := Lib.hid htc
              have hcl2 := HMt.out.le
              clear hfin htc
              go_wp2_with fail
              refine ⟨⟨t, by rw [HTc.out]; simp, HF, HMy, HBy⟩, by have := HTc.out; simp [intOf]; omega⟩
end Go.Proofs.YtonnmkhmhndalaaDoor
end
section
namespace Go.Proofs.YtonnmkhmhndalaaDoor
set_option linter.unusedVariables false
set_option linter.unusedSimpArgs false
open Go.RowKit Go.Proofs.YtonnmkhmhndalaaDoorW.PrintWords Go.Proofs.YtonnmkhmhndalaaDoorW.PrintLast Go.Proofs.YtonnmkhmhndalaaDoorW.PrintMore
def RunP (w : World) (x : NL) (e : Ending) (w' : World) : Prop :=
  Below w.heap.size w w' ∧ ((mayL x = false ∧ e = .returned (.tuple #[.slice none 0 0, .int .i64 1])) ∨
    (mayL x = true ∧ ∃ (out : Nat → Nat) (done : Nat → Bool) (cnt : Nat), LRes x.nd.length (hs x.nd) out done cnt ∧
      ((cnt < x.nd.length ∧ e = .returned (.tuple #[.slice none 0 0, .int .i64 110])) ∨
       (cnt = x.nd.length ∧ ∃ D, w.heap.size ≤ D ∧ e = .returned (.tuple #[.slice (some ⟨D, 0, none⟩) x.nd.length x.nd.length, .int .i64 0]) ∧ Cl eI w' D x.nd.length out))))
set_option maxRecDepth 100000 in
set_option maxHeartbeats 4000000 in
theorem run_any (x : NL) (A : Option Addr) (c : Nat) (B : Option Addr) (d : Nat) (w : World) (hI : NIn w x A c B d) :
    Calls Tryd.prog 13 #[nlV x A c B d] w (RunP w x) := by
  have hck := fun W hW => check_any x A c B d W (hI.below hW)
  have HCk := Lib.hid hck
  have HI := Lib.hid hI
  clear hI hck
  go_enter Tryd.func13, Tryd.ntmps13
  go_upto_region 1 with fail
  obtain ⟨W0, hW0⟩ : ∃ W, w.alloc (Obj.cells #[.slice A x.nd.length c, .slice B x.nt.length d, .int .i64 x.pt] 25) = W := ⟨_, rfl⟩
  rw [hW0]
  obtain ⟨hx0, hb0, hz0⟩ := box_list hW0
  have HX0 := Lib.hid hx0
  have HB0 := Lib.hid hb0
  obtain ⟨q0, q1, q2⟩ := HX0.out
  clear hx0 hb0 hz0 hW0
  go_wp2_with fail
  refine (HCk.out W0 HB0.out).mono ?_
  rintro e w1 ⟨rfl, hb1⟩
  have HX1 := Lib.hid (HX0.out.below hb1)
  have HB1 := Lib.hid (HB0.out.trans (hb1.mono HB0.out.size))
  clear hb1 q0 q1 q2
  obtain ⟨q0, q1, q2⟩ := HX1.out
  cases hm : mayL x
  · have hc : chkI x = 1 := by unfold chkI; rw [hm]; rfl
    rw [hc]
    have HMx := Lib.hid hm
    clear hm hc
    go_wp2_with fail
    refine bodyPost_ret (v := .tuple #[.slice none 0 0, .int .i64 1]) (by simp [results, Tryd.results13, go_sem]) rfl ⟨HB1.out, Or.inl ⟨HMx.out, rfl⟩⟩
  · have hc : chkI x = 0 := by unfold chkI; rw [hm]; rfl
    rw [hc]
    have HMx := Lib.hid hm
    have hlv := levels_any x A c B d w1 (HI.out.below HB1.out) ((may_iff x).1 hm).lok
    have HLv := Lib.hid hlv
    clear hm hc hlv
    go_wp2_with fail
    refine HLv.out.mono ?_
    rintro e w2 ⟨D, cnt, out, done, rfl, hD, hO, hDn, hres, hb2⟩
    have HB2 := Lib.hid (HB1.out.trans (hb2.mono HB1.out.size))
    have HX2 := Lib.hid (HX1.out.below hb2)
    have HO := Lib.hid hO
    have HR := Lib.hid hres
    have HD := Lib.hid (Nat.le_trans HB1.out.size hD)
    have hle := hres.le
    clear hD hO hDn hres hb2 q0 q1 q2
    obtain ⟨q0, q1, q2⟩ := HX2.out
    by_cases hlt : cnt < x.nd.length
    · have HLt := Lib.hid hlt
      go_wp2_with fail
      refine bodyPost_ret (v := .tuple #[.slice none 0 0, .int .i64 110]) (by simp [results, Tryd.results13, go_sem]) rfl ⟨HB2.out, Or.inr ⟨HMx.out, out, done, cnt, HR.out, Or.inl ⟨HLt.out, rfl⟩⟩⟩
    · have HLt := Lib.hid (show cnt = x.nd.length by omega)
      go_wp2_with fail
      refine bodyPost_ret (v := .tuple #[.slice (some ⟨D, 0, none⟩) x.nd.length x.nd.length, .int .i64 0]) (by simp [results, Tryd.results13, go_sem]) rfl ⟨HB2.out, Or.inr ⟨HMx.out, out, done, cnt, HR.out, Or.inr ⟨HLt.out, D, HD.out, rfl, HO.out⟩⟩⟩
end Go.Proofs.YtonnmkhmhndalaaDoor
end
