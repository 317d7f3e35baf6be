/- LevelOrders: the statement's own function, walked. -/
import Derived.Test.YtonnmkhmhndalaaDoorMd7
import Derived.Test.YtonnmkhmhndalaaDoorAw1
import Derived.Test.YtonnmkhmhndalaaDoorLr0
namespace Go.Proofs.YtonnmkhmhndalaaDoor
set_option linter.unusedVariables false
set_option linter.unusedSimpArgs false
open Go.RowKit Go.Proofs.YtonnmkhmhndalaaDoorW.PrintWords Go.Proofs.YtonnmkhmhndalaaDoorW.PrintLast Go.Proofs.YtonnmkhmhndalaaDoorW.PrintMore

theorem snoc_ind {α : Type} {P : List α → Prop} (h0 : P []) (hs : ∀ l a, P l → P (l ++ [a])) (l : List α) : P l := by
  have key : ∀ r : List α, P r.reverse := by
    intro r
    induction r with
    | nil => exact h0
    | cons a r ih => rw [List.reverse_cons]; exact hs _ _ ih
  have := key l.reverse
  rwa [List.reverse_reverse] at this
/-- the greatest of what stands at some places -/
def mostI (out : Nat → Nat) (l : List Nat) : Int := l.foldl (fun m a => max m (out a : Int)) (-1)
theorem mostI_snoc (out : Nat → Nat) (l : List Nat) (a : Nat) : mostI out (l ++ [a]) = max (mostI out l) (out a : Int) := by
  unfold mostI; rw [List.foldl_append]; rfl
theorem mostI_key (out : Nat → Nat) (l : List Nat) : -1 ≤ mostI out l ∧ (∀ h ∈ l, (out h : Int) ≤ mostI out l) ∧ (mostI out l = -1 ∨ ∃ h ∈ l, mostI out l = (out h : Int)) := by
  refine snoc_ind (P := fun l => -1 ≤ mostI out l ∧ (∀ h ∈ l, (out h : Int) ≤ mostI out l) ∧ (mostI out l = -1 ∨ ∃ h ∈ l, mostI out l = (out h : Int))) ?_ ?_ l
  · exact ⟨Int.le_refl _, fun h hh => (by cases hh), Or.inl rfl⟩
  · rintro l a ⟨h1, h2, h3⟩
    rw [mostI_snoc]
    refine ⟨by omega, fun h hh => ?_, ?_⟩
    · rcases List.mem_append.1 hh with hh | hh
      · have := h2 h hh; omega
      · rw [List.mem_singleton.1 hh]; omega
    · rcases Int.le_total (mostI out l) (out a : Int) with h4 | h4
      · refine Or.inr ⟨a, by simp, by omega⟩
      · rcases h3 with h3 | ⟨h, hh, h3⟩
        · exact Or.inl (by omega)
        · exact Or.inr ⟨h, List.mem_append_left _ hh, by omega⟩
theorem mostI_lev {out : Nat → Nat} {l : List Nat} {o : Nat} (h1 : ∀ h ∈ l, out h + 1 ≤ o) (h2 : o = 0 ∨ ∃ h ∈ l, o = out h + 1) : (o : Int) = mostI out l + 1 := by
  obtain ⟨k1, k2, k3⟩ := mostI_key out l
  rcases h2 with rfl | ⟨h, hh, rfl⟩
  · rcases k3 with k3 | ⟨h, hh, k3⟩
    · omega
    · have := h1 h hh; omega
  · have := k2 h hh
    rcases k3 with k3 | ⟨h', hh', k3⟩
    · omega
    · have := h1 h' hh'; omega

set_option maxRecDepth 100000 in
set_option maxHeartbeats 8000000 in
theorem levelOrders_any (gs : List S71) (Ag : Option Addr) (cg : Nat) (w : World) (hg : Kd.C k71 w Ag gs.length gs) (hcg : gs.length ≤ cg) :
    Calls Tryd.prog 4 #[.slice Ag gs.length cg] w fun e w' => e = .returned (.bool true) ∧ Below w.heap.size w w' := by
  have hmd := made_any gs Ag cg w hg hcg
  have HMd := Lib.hid hmd
  have haw := awake_any
  have HAw := Lib.hid haw
  clear hmd hg hcg haw
  go_enter Tryd.func4, Tryd.ntmps4
  go_upto_region 1 with fail
  go_upto_region 2 with (first
    | fail
    | (go_at_call 18; refine HMd.out.mono ?_; rintro e w1 ⟨x, A, c, B, d, rfl, hI, hG, hm, hn, hb⟩; have HI := Lib.hid hI; have HG := Lib.hid hG; have HM := Lib.hid hm; have HN := Lib.hid hn; have HB := Lib.hid hb; clear hI hG hm hn hb))
  obtain ⟨n, hn⟩ : ∃ n, x.nd.length = n := ⟨_, rfl⟩
  have HNn := Lib.hid hn
  have hn130 : n ≤ 130 := by rw [← hn]; exact HN.out
  rw [hn]
  obtain ⟨W2, hW2⟩ : ∃ W, w1.alloc (Obj.cells #[.slice A n c, .slice B x.nt.length d, .int .i64 x.pt] 25) = W := ⟨_, rfl⟩
  rw [hW2]
  obtain ⟨P, hP⟩ : ∃ P, w1.heap.size = P := ⟨_, rfl⟩
  obtain ⟨hx2, hb2, hz2⟩ := box_list hW2
  rw [hP] at hx2 ⊢
  have HB2 := Lib.hid (HB.out.trans (hb2.mono HB.out.size))
  have HI2 := Lib.hid (HI.out.below hb2)
  have HX2 := Lib.hid hx2
  have hru : Calls Tryd.prog 13 #[.agg #[.slice A n c, .slice B x.nt.length d, .int .i64 x.pt]] W2 (RunP W2 x) := by rw [← hn]; exact run_any x A c B d W2 HI2.out
  have HRu := Lib.hid hru
  obtain ⟨q0, q1, q2⟩ := HX2.out
  clear hW2 hP hx2 hb2 hz2 hru hn
  go_wp2_with fail
  refine HRu.out.mono ?_
  rintro e w3 ⟨hb3, hc3⟩
  obtain ⟨out, hlev, D, hD, rfl, hO⟩ : ∃ (out : Nat → Nat), IsLev x.nd.length (hs x.nd) out ∧ ∃ D, W2.heap.size ≤ D ∧ e = .returned (.tuple #[.slice (some ⟨D, 0, none⟩) n n, .int .i64 0]) ∧ Cl eI w3 D n out := by
    rcases hc3 with ⟨h, -⟩ | ⟨-, out, done, cnt, hres, h⟩
    · rw [HM.out] at h; cases h
    · rcases h with ⟨h, -⟩ | ⟨h, D, hD, he, hO⟩
      · have h1 := HG.out.free hres; omega
      · rw [HNn.out] at he hO
        rw [h] at hres
        exact ⟨out, hres.lev, D, hD, he, hO⟩
  have HLv := Lib.hid hlev
  have HO := Lib.hid hO
  have HD := Lib.hid hD
  have HB3 := Lib.hid (HB2.out.trans (hb3.mono HB2.out.size))
  have HI3 := Lib.hid (HI2.out.below hb3)
  have HX3 := Lib.hid (HX2.out.below hb3)
  clear hlev hO hD hb3 hc3 q0 q1 q2
  obtain ⟨q0, q1, q2⟩ := HX3.out
  go_wp2_with fail
  have hlk := ((may_iff x).1 HM.out).lok
  have HLk := Lib.hid hlk
  have hlp := fun W (hW : Below w3.heap.size w3 W) => loop_any x A c B d W (HI3.out.below hW)
  have HLp : Hid (∀ W, Below w3.heap.size w3 W → Calls Tryd.prog 15 #[.agg #[.slice A n c, .slice B x.nt.length d, .int .i64 x.pt]] W fun e w' => e = .returned (.slice none 0 0) ∧ Below W.heap.size W w') :=
    Lib.hid fun W hW => by
      have h := (hlp W hW).mono (R' := fun e w' => e = .returned (.slice none 0 0) ∧ Below W.heap.size W w') fun e w' h => LoopP.none h fun _ out done cnt hres => HG.out.free hres
      rw [← HNn.out]
      exact h
  clear hlk hlp
  go_loopw [6, 7, 8, 9] (fun v6 v7 v8 v9 wx => ∃ i : Nat, v6 = .int .i64 i ∧ i ≤ n ∧ Hid (Below w3.heap.size w3 wx)) (fun v6 _ _ _ _ => n - (intOf v6).toNat)
  case atStart => exact ⟨0, rfl, Nat.zero_le _, Lib.hid (Below.refl _ _)⟩
  case round =>
    obtain ⟨i, rfl, hi, HBx⟩ := hrel
    clear q0 q1 q2
    have q0 := (HX3.out.below HBx.out).k0
    by_cases hil : i < n
    · have hk' : i < x.nd.length := by rw [HNn.out]; exact hil
      obtain ⟨b, o, A3, c3, hA, hl3, hbs, hND⟩ := nodes_in HI3.out.h0 i hk'
      subst hA
      have hq7 := HLk.out.f i hk'
      have HC := Lib.hid (HLk.out.cast i hk')
      have HLe := Lib.hid (HLk.out.le i hk')
      have HLn := Lib.hid (hs_len x.nd i)
      have hcn := HI3.out.l0
      rw [HNn.out] at hcn
      generalize x.nd.getD i z39 = y at *
      have hh := fun W hW => hangsR_any y A3 c3 W hW hl3 hq7
      have HH := Lib.hid hh
      have HND := Lib.hid hND
      have HIl := Lib.hid hil
      obtain ⟨h0, h1, h2, h3, h4, h5, h6, h7, hC3⟩ := hND _ HBx.out
      have HC3 := Lib.hid hC3
      clear hk' hl3 hC3 hbs hq7 hh hND
      go_upto_region 8 with fail
      go_wp2_with fail
      refine (HH.out _ HC3.out).mono ?_
      rintro e w6 ⟨A6, c6, rfl, hl6, hC6, hb6⟩
      obtain ⟨m, hm⟩ : ∃ m, (hg y).length = m := ⟨_, rfl⟩
      have HB6 := Lib.hid (HBx.out.trans (hb6.mono HBx.out.size))
      have HC6 := Lib.hid hC6
      have hmm := HLn.out.trans hm
      have hm256 : m ≤ 256 := by rw [← hm]; exact HLe.out
      have HMm := Lib.hid hmm
      have HMM := Lib.hid hm
      rw [hm] at hl6
      rw [hm]
      clear hC6 hb6 hmm h0 h1 h2 h3 h4 h5 h6 h7 q0 hm
      go_wp2_with fail
      go_loopw [8, 9] (fun v8 v9 wy => ∃ (j : Nat) (v : Int), v8 = .int .i64 v ∧ v9 = .int .i64 j ∧ j ≤ m ∧ Hid (v = mostI out ((hs x.nd i).take j)) ∧ Hid (Below w3.heap.size w3 wy)) (fun _ v9 _ => m - (intOf v9).toNat)
      case atStart => exact ⟨0, -1, rfl, rfl, Nat.zero_le _, Lib.hid rfl, HB6⟩
      case round =>
        obtain ⟨j, v, rfl, rfl, hj, HV, HBy⟩ := hrel
        by_cases hjl : j < m
        · have hjg : j < (hg y).length := by rw [HMM.out]; exact hjl
          have hjs : j < (hs x.nd i).length := by rw [HMm.out]; exact hjl
          have hCy := HC6.out _ (HND.out _ HBy.out).hC
          obtain ⟨b6, o6, hA6, g6, -⟩ := ints_at hCy j hjg
          subst hA6
          obtain ⟨a, ha⟩ : ∃ a, (hs x.nd i)[j] = a := ⟨_, rfl⟩
          have hg0 : (hg y).getD j 0 = (a : Int) := by
            rw [← HC.out, ints_getD _ _ hjs, List.getD_eq_getElem?_getD, List.getElem?_eq_getElem hjs]
            show (((hs x.nd i)[j] : Nat) : Int) = a
            rw [ha]
          have han : a < n := by rw [← HNn.out]; exact HLk.out.hsl i (by rw [HNn.out]; exact HIl.out) a (by rw [← ha]; exact List.getElem_mem _)
          have htk : (hs x.nd i).take (j + 1) = (hs x.nd i).take j ++ [a] := by
            rw [List.take_succ_eq_append_getElem hjs, ha]
          rw [hg0] at g6
          have c1 := (HO.out.below HBy.out HO.out.s).c a han
          have HTk := Lib.hid htk
          have HJ := Lib.hid hjl
          clear htk hCy hjg hjs ha hg0
          go_wp2_with fail
          refine ⟨⟨j + 1, max v (out a : Int), rfl, by simp, HJ.out, Lib.hid (by rw [HTk.out, mostI_snoc, HV.out]), HBy⟩, by have := HJ.out; simp [intOf]; omega⟩
        · obtain rfl : j = m := by omega
          have hin : i < x.nd.length := by rw [HNn.out]; exact HIl.out
          have hv1 : v = (out i : Int) - 1 := by
            have h1 := mostI_lev (fun h hh => HLv.out.up i hin h hh) (HLv.out.at_ i hin)
            have h2 := HV.out
            rw [List.take_of_length_le (by rw [HMm.out]; exact Nat.le_refl _)] at h2
            omega
          subst hv1
          have ho := HLv.out.lt i hin
          have c2 := (HO.out.below HBy.out HO.out.s).c i HIl.out
          obtain ⟨o2, ho2⟩ : ∃ o2, out i = o2 := ⟨_, rfl⟩
          rw [ho2] at ho c2 ⊢
          have hw : wrap64 (o2 : Int) = (o2 : Int) := w64 (by omega) (by have := HNn.out; omega)
          clear ho ho2 hin HV
          go_wp2_with fail
          refine ⟨⟨i + 1, by simp, HIl.out, HBy⟩, by have := HIl.out; simp [intOf]; omega⟩
    · obtain rfl : i = n := by omega
      have hX := HX3.out.below HBx.out
      have q1 := hX.k1
      have q2 := hX.k2
      have HB4 := Lib.hid (HB3.out.trans (HBx.out.mono HB3.out.size))
      clear hX
      go_wp2_with fail
      refine (HLp.out _ HBx.out).mono ?_
      rintro e w7 ⟨rfl, hb7⟩
      have HB7 := Lib.hid (HB4.out.trans (hb7.mono HB4.out.size))
      clear hb7 q0 q1 q2
      go_wp2_with fail
      refine (HAw.out _).mono ?_
      rintro e w8 ⟨rfl, hb8⟩
      have HB8 := Lib.hid (HB7.out.trans (hb8.mono HB7.out.size))
      clear hb8
      go_wp2_with fail
      go_ret
      exact ⟨by try rfl, HB8.out⟩
end Go.Proofs.YtonnmkhmhndalaaDoor
