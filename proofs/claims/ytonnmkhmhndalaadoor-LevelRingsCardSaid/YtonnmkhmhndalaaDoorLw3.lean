/- Levels as the document has them, walked: each node is put behind those that it hangs on, again and again. -/
import Derived.Test.YtonnmkhmhndalaaDoorMgB
namespace Go.Proofs.YtonnmkhmhndalaaDoor
set_option linter.unusedVariables false
set_option linter.unusedSimpArgs false
open Go.RowKit Go.Proofs.YtonnmkhmhndalaaDoorW.PrintWords Go.Proofs.YtonnmkhmhndalaaDoorW.PrintLast Go.Proofs.YtonnmkhmhndalaaDoorW.PrintMore

/-- what the document's levels come to -/
def LvrP (w : World) (l : List S39) (e : Ending) (w' : World) : Prop :=
  Below w.heap.size w w' ∧ ((∃ (D : Nat) (out : Nat → Nat), e = .returned (.tuple #[.slice (some ⟨D, 0, none⟩) l.length l.length, .bool true]) ∧ w.heap.size ≤ D ∧ Cl eI w' D l.length out ∧ (∀ u, u < l.length → ∀ h ∈ hs l u, out h + 1 ≤ out u) ∧ (∀ L, IsLev l.length (hs l) L → ∀ u, u < l.length → out u = L u)) ∨
    (e = .returned (.tuple #[.slice none 0 0, .bool false]) ∧ ∀ L, ¬ IsLev l.length (hs l) L))

set_option maxRecDepth 100000 in
set_option maxHeartbeats 4000000 in
theorem lvr_any (x : NL) (A : Option Addr) (c : Nat) (B : Option Addr) (d : Nat) (w : World) (hI : NIn w x A c B d) (hL : LOk x.nd) :
    Calls Tryd.prog 16 #[nlV x A c B d] w (LvrP w x.nd) := by
  obtain ⟨n, hn⟩ : ∃ n, x.nd.length = n := ⟨_, rfl⟩
  have hn4 : n ≤ 4096 := by rw [← hn]; exact hL.n
  have HI := Lib.hid hI
  have HL := Lib.hid hL
  have HN := Lib.hid hn
  have hhs : ∀ k, k < n → ∀ h ∈ hs x.nd k, h < n := by rw [← hn]; exact hL.hsl
  have HHs := Lib.hid hhs
  clear hI hL hhs
  go_enter Tryd.func16, Tryd.ntmps16
  go_upto_region 1 with fail
  obtain ⟨W0, hW0⟩ : ∃ W, w.alloc (Obj.cells #[.slice A n c, .slice B x.nt.length d, .int .i64 x.pt] 25) = W := ⟨_, rfl⟩
  rw [hW0]
  obtain ⟨hx0, hb0, hz0⟩ := box_list hW0
  have q0 := hx0.k0
  obtain ⟨W1, m1, hb1, hz1, ho1⟩ := make23 n (by omega) W0
  have HX0 := Lib.hid hx0
  have HB0 := Lib.hid hb0
  have HZ0 := Lib.hid hz0
  have HB1 := Lib.hid hb1
  have HO1 := Lib.hid ho1
  clear hx0 hb0 hz0 hb1 hz1 ho1 hW0 hn
  go_upto_region 3 with fail
  clear q0 m1
  go_wp2_with fail
  go_loopw [6] (fun v6 wx => ∃ (r : Nat) (out : Nat → Nat), v6 = .int .i64 r ∧ r ≤ n + 1 ∧ Hid (r = n + 1 → ∀ L, ¬ IsLev n (hs x.nd) L) ∧ Hid (BInv n (hs x.nd) r 0 [] out false) ∧ Hid (Cl eI wx W0.heap.size n out) ∧ Hid (Below W0.heap.size W0 wx)) (fun v6 _ => n + 1 - (intOf v6).toNat)
  case atStart => exact ⟨0, _, rfl, Nat.zero_le _, Lib.hid (fun h => by omega), Lib.hid (BInv.start _ _), HO1, HB1⟩
  case round =>
    obtain ⟨r, out, rfl, hr, HNo, HBi, HO, HBx⟩ := hrel
    have hzz : w.heap.size < W0.heap.size := by have := HZ0.out; omega
    by_cases hlt : r ≤ n
    · go_wp2_with fail
      go_loopw [7, 8] (fun v7 v8 wx => ∃ (i : Nat) (ch : Bool) (out : Nat → Nat), v7 = .bool ch ∧ v8 = .int .i64 i ∧ i ≤ n ∧ Hid (BInv n (hs x.nd) r i [] out ch) ∧ Hid (Cl eI wx W0.heap.size n out) ∧ Hid (Below W0.heap.size W0 wx)) (fun _ v8 _ => n - (intOf v8).toNat)
      case atStart => exact ⟨0, false, out, rfl, rfl, Nat.zero_le _, HBi, HO, HBx⟩
      case round =>
        obtain ⟨i, ch, out, rfl, rfl, hi, HBi, HO, HBx⟩ := hrel
        have q0 := (HX0.out.belowB HBx.out hzz).k0
        by_cases hil : i < n
        · have hk' : i < x.nd.length := by rw [HN.out]; exact hil
          obtain ⟨b, o, A3, c3, hA, hl3, hbs, hND⟩ := nodes_in HI.out.h0 i hk'
          subst hA
          have hq7 := HL.out.f i hk'
          have HC := Lib.hid (HL.out.cast i hk')
          have HLe := Lib.hid (HL.out.le i hk')
          have HAt := Lib.hid (HL.out.at_ i hk')
          have HLn := Lib.hid (hs_len x.nd i)
          generalize x.nd.getD i z39 = y at *
          have hh := fun W hW => hangsR_any y A3 c3 W hW hl3 hq7
          have HH := Lib.hid hh
          have HND := Lib.hid hND
          have HIl := Lib.hid hil
          have hW := HB0.out.trans (HBx.out.mono (Nat.le_of_lt hzz))
          obtain ⟨h0, h1, h2, h3, h4, h5, h6, h7, hC3⟩ := hND _ hW
          have HC3 := Lib.hid hC3
          clear hk' hl3 hC3 hbs hq7 hh hND hW
          go_upto_region 10 with fail
          go_wp2_with fail
          refine (HH.out _ HC3.out).mono ?_
          rintro e w6 ⟨A6, c6, rfl, hl6, hC6, hb6⟩
          obtain ⟨m, hm⟩ : ∃ m, (hg y).length = m := ⟨_, rfl⟩
          have HB6 := Lib.hid (HBx.out.trans (hb6.mono HBx.out.size))
          have HO6 := Lib.hid (HO.out.below hb6 HO.out.s)
          have HC6 := Lib.hid hC6
          have hmm := HLn.out.trans hm
          have hm256 : m ≤ 256 := by rw [← hm]; exact HLe.out
          have HMm := Lib.hid hmm
          have HMM := Lib.hid hm
          clear hC6 hl6 hb6 hmm h0 h1 h2 h3 h4 h5 h6 h7 q0
          go_wp2_with fail
          clear hm
          go_loopw [7, 10] (fun v7 v10 wy => ∃ (j : Nat) (ch : Bool) (out : Nat → Nat), v7 = .bool ch ∧ v10 = .int .i64 j ∧ j ≤ m ∧ Hid (BInv n (hs x.nd) r i ((hs x.nd i).take j) out ch) ∧ Hid (Cl eI wy W0.heap.size n out) ∧ Hid (Below W0.heap.size W0 wy)) (fun _ v10 _ => m - (intOf v10).toNat)
          case atStart => exact ⟨0, ch, out, rfl, rfl, Nat.zero_le _, by rw [List.take_zero]; exact HBi, HO6, HB6⟩
          case round =>
            obtain ⟨j, ch, out, rfl, rfl, hj, HBj, HOy, HBy⟩ := hrel
            by_cases hjl : j < m
            · have hjg : j < (hg y).length := by rw [HMM.out]; exact hjl
              have hjs : j < (hs x.nd i).length := by rw [HMm.out]; exact hjl
              have hCy := HC6.out _ (HND.out _ (HB0.out.trans (HBy.out.mono (Nat.le_of_lt hzz)))).hC
              obtain ⟨b6, o6, hA6, g6, -⟩ := ints_at hCy j hjg
              subst hA6
              obtain ⟨a, ha⟩ : ∃ a, (hs x.nd i)[j] = a := ⟨_, rfl⟩
              have hg0 : (hg y).getD j 0 = (a : Int) := by
                rw [← HC.out, ints_getD _ _ hjs, List.getD_eq_getElem?_getD, List.getElem?_eq_getElem hjs]
                show (((hs x.nd i)[j] : Nat) : Int) = a
                rw [ha]
              have han : a < n := HHs.out i hil a (by rw [← ha]; exact List.getElem_mem _)
              have htk : (hs x.nd i).take (j + 1) = (hs x.nd i).take j ++ [a] := by
                rw [List.take_succ_eq_append_getElem hjs, ha]
              have hsp : hs x.nd i = (hs x.nd i).take j ++ a :: (hs x.nd i).drop (j + 1) := by
                conv => lhs; rw [← List.take_append_drop j (hs x.nd i)]
                rw [List.drop_eq_getElem_cons hjs, ha]
              rw [hg0] at g6
              have c1 := HOy.out.c a han
              have c2 := HOy.out.c i hil
              have c3 := HOy.out.f i hil
              have hb4 := HBj.out.b4 a han
              have hlim := lim_le r i (by omega) (by omega)
              have htl : ((hs x.nd i).take j).length ≤ j := List.length_take_le _ _
              have hout : out a ≤ 8589934592 + 4096 := by omega
              have HTk := Lib.hid htk
              have HSp := Lib.hid hsp
              have HJ := Lib.hid hjl
              clear htk hsp hb4 hlim htl hCy hjg hjs ha hg0
              by_cases hgt : out i < out a + 1
              · have hgt1 : (out i : Int) < (out a : Int) + 1 := by omega
                have HR := Lib.hid (HBj.out.relax hil HSp.out HHs.out hgt)
                clear hgt
                go_upto_region 14 with fail
                go_region
                go_wp2_with fail
                refine ⟨⟨j + 1, true, upd out i (out a + 1), rfl, by simp, HJ.out, by rw [HTk.out]; exact HR, Lib.hid ?_, Lib.hid ?_⟩, by have := HJ.out; simp [intOf]; omega⟩
                · exact Cl.set (HOy.out.below (below_drew (Below.refl _ _)) HOy.out.s) i (out a + 1)
                · exact below_set2 (Nat.le_refl _) HBy.out.drew
              · have hgt1 : (out a : Int) + 1 ≤ (out i : Int) := by omega
                have HR := Lib.hid (HBj.out.stay (h := a) hgt)
                clear hgt
                go_upto_region 14 with fail
                go_region
                go_wp2_with fail
                refine ⟨⟨j + 1, ch, out, rfl, by simp, HJ.out, by rw [HTk.out]; exact HR, Lib.hid ?_, Lib.hid ?_⟩, by have := HJ.out; simp [intOf]; omega⟩
                · exact HOy.out.below (below_drew (Below.refl _ _)) HOy.out.s
                · exact HBy.out.drew
            · obtain rfl : j = m := by omega
              have hnx : BInv n (hs x.nd) r (i + 1) [] out ch := by
                have h1 := HBj.out
                rw [List.take_of_length_le (by rw [HMm.out]; exact Nat.le_refl _)] at h1
                exact h1.next hil (by rw [HMm.out]; exact hm256) HHs.out
              have HNx := Lib.hid hnx
              clear hnx
              go_wp2_with fail
              refine ⟨⟨i + 1, ch, out, rfl, by simp, HIl.out, HNx, HOy, HBy⟩, by have := HIl.out; simp [intOf]; omega⟩
        · obtain rfl : i = n := by omega
          cases ch
          · obtain ⟨hf1, hf2⟩ := HBi.out.fixed
            have HF1 := Lib.hid hf1
            have HF2 := Lib.hid hf2
            clear hf1 hf2
            go_wp2_with fail
            refine bodyPost_ret (v := .tuple #[.slice (some ⟨W0.heap.size, 0, none⟩) i i, .bool true]) (by simp [results, Tryd.results16, go_sem]) rfl ⟨HB0.out.trans (HBx.out.mono (Nat.le_of_lt hzz)), Or.inl ?_⟩
            rw [HN.out]
            exact ⟨W0.heap.size, out, rfl, Nat.le_of_lt hzz, HO.out, HF1.out, fun L hL => HF2.out L hL HHs.out⟩
          · have HRd := Lib.hid (HBi.out.round hn4)
            have HB3 := Lib.hid HBi.out.b3
            go_wp2_with fail
            refine ⟨⟨r + 1, out, by simp, by omega, Lib.hid (fun h L hL => ?_), HRd, HO, HBx⟩, by simp [intOf]; omega⟩
            have := HB3.out L hL (by omega)
            cases this
    · obtain rfl : r = n + 1 := by omega
      have hno := HNo.out rfl
      go_wp2_with fail
      refine bodyPost_ret (v := .tuple #[.slice none 0 0, .bool false]) (by simp [results, Tryd.results16, go_sem]) rfl ⟨HB0.out.trans (HBx.out.mono (Nat.le_of_lt hzz)), Or.inr ⟨rfl, ?_⟩⟩
      rw [HN.out]
      exact hno
end Go.Proofs.YtonnmkhmhndalaaDoor
