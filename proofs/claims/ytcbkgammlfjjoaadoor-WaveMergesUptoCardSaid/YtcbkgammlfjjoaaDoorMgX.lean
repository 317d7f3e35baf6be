/- WaveMerges, plainly: the document's merging, change by change. WaveMerges: the statement's own function, walked. How a row of rows of changes comes in, with its bulk. -/
import Derived.Test.YtcbkgammlfjjoaaDoorWv5
import Derived.Test.YtcbkgammlfjjoaaDoorMgV
import Derived.Test.YtcbkgammlfjjoaaDoorRw
import Derived.Test.YtcbkgammlfjjoaaDoorRows
namespace Go.Proofs.YtcbkgammlfjjoaaDoor
set_option linter.unusedVariables false
set_option linter.unusedSimpArgs false
open Go.RowKit Go.Proofs.YtcbkgammlfjjoaaDoorW.PrintWords Go.Proofs.YtcbkgammlfjjoaaDoorW.PrintLast Go.Proofs.YtcbkgammlfjjoaaDoorW.PrintMore

/-- a change put ahead of the first one that it stands ahead of -/
def putIn (c : S59) : List S59 → List S59
  | [] => [c]
  | d :: t => if aheadB c d then c :: d :: t else d :: putIn c t
theorem putIn_length (c : S59) : ∀ l, (putIn c l).length = l.length + 1
  | [] => rfl
  | d :: t => by
    unfold putIn
    split
    · rfl
    · rw [List.length_cons, putIn_length c t, List.length_cons]
theorem putIn_perm (c : S59) : ∀ l, (putIn c l).Perm (c :: l)
  | [] => List.Perm.refl _
  | d :: t => by
    unfold putIn
    split
    · exact List.Perm.refl _
    · exact ((putIn_perm c t).cons d).trans (List.Perm.swap c d t)
theorem putIn_srt (c : S59) : ∀ l, Srt aheadB l → Srt aheadB (putIn c l)
  | [], _ => Srt.one _ c
  | d :: t, h => by
    have h1 := List.pairwise_cons.1 h
    unfold putIn
    by_cases e : aheadB c d = true
    · rw [if_pos e]
      refine List.pairwise_cons.2 ⟨fun b hb => ?_, h⟩
      rcases List.mem_cons.1 hb with rfl | hb
      · exact ahead_ord.asym _ _ e
      · exact ahead_ord.trans _ _ _ (ahead_ord.asym _ _ e) (h1.1 b hb)
    · rw [if_neg e]
      refine List.pairwise_cons.2 ⟨fun b hb => ?_, putIn_srt c t h1.2⟩
      rcases List.mem_cons.1 ((putIn_perm c t).mem_iff.1 hb) with rfl | hb
      · exact eq_false_of_ne_true e
      · exact h1.1 b hb
theorem aheadF (a b : S59) : silkwormwaves_Ahead.f a.f0 a.f1 a.f2 b.f0 b.f1 b.f2 = some (aheadB a b) := by
  unfold silkwormwaves_Ahead.f aheadB
  by_cases h1 : a.f0 < b.f0
  · rw [if_pos h1]; simp [h1]
  · rw [if_neg h1]
    by_cases h2 : a.f0 = b.f0
    · rw [if_pos h2]; simp [h2]
    · rw [if_neg h2]; simp [h1, h2]
theorem wrap_up (j : Nat) (h : j < 4611686018427387904) : wrap64 ((j : Int) + 1) = ((j + 1 : Nat) : Int) := by unfold wrap64; omega
/-- the innermost loop -/
theorem m2_ok (x0 : List (List S59)) (out : List S59) (x4 x5 : Int) (c : S59) (r : List S59) : ∀ (rest : List S59) (j : Nat) (next : List S59) (done : Bool), out.drop j = rest → j + rest.length = out.length → out.length < 4398046511104 → next.length + rest.length + (if done = true then 0 else 1) < 4398046511104 →
    (∃ k, silkwormwaves_Merged.l1 k x0 (next ++ (if done then rest else putIn c rest)) x4 (wrap64 (x5 + 1)) = some r) → ∃ k, silkwormwaves_Merged.l2 k x0 out x4 x5 next done (j : Int) c.f0 c.f1 c.f2 = some r := by
  intro rest
  induction rest with
  | nil =>
    intro j next done hd hl hb hn ⟨k, hk⟩
    refine ⟨k + 1, ?_⟩
    have hn' : next.length < 4398046511104 := by omega
    simp only [List.length_nil] at hl
    clear hn
    unfold silkwormwaves_Merged.l2
    rw [if_neg (by omega)]
    cases done
    · rw [if_neg (by decide), if_pos (by omega)]
      exact hk
    · rw [if_pos rfl]
      simpa using hk
  | cons d t ih =>
    intro j next done hd hl hb hn hk
    simp only [List.length_cons] at hl hn
    have hnl : next.length < 4398046511104 := by omega
    have hj : j < out.length := by omega
    have hrd : rd_T59 out (j : Int) = d := by
      unfold rd_T59
      rw [Int.toNat_natCast, List.getD_eq_getElem?_getD]
      have : out[j]? = some d := by
        have := congrArg (fun l => l[0]?) hd
        simpa using this
      rw [this]; rfl
    have hd' : out.drop (j + 1) = t := by
      have : out.drop (j + 1) = (out.drop j).drop 1 := by rw [List.drop_drop]
      rw [this, hd]; rfl
    have he : (⟨d.f0, d.f1, d.f2⟩ : S59) = d := rfl
    have hec : (⟨c.f0, c.f1, c.f2⟩ : S59) = c := rfl
    cases done with
    | true =>
      obtain ⟨k, hk⟩ := ih (j + 1) (next ++ [d]) true hd' (by omega) hb (by rw [List.length_append]; simp only [List.length_cons, List.length_nil, if_true] at hn ⊢; omega) (by simpa using hk)
      refine ⟨k + 1, ?_⟩
      unfold silkwormwaves_Merged.l2
      rw [if_pos (by omega), if_pos rfl, if_pos (by omega), if_pos (by omega), hrd, wrap_up j (by omega)]
      exact hk
    | false =>
      by_cases ha : aheadB c d = true
      · obtain ⟨k, hk⟩ := ih (j + 1) (next ++ [c] ++ [d]) true hd' (by omega) hb (by simp only [List.length_append, List.length_cons, List.length_nil, if_true, Bool.false_eq_true, if_false] at hn ⊢; omega) (by
          unfold putIn at hk
          rw [if_pos ha] at hk
          simpa using hk)
        refine ⟨k + 1, ?_⟩
        unfold silkwormwaves_Merged.l2
        rw [if_pos (by omega), if_neg (by decide), if_pos (by omega), hrd, aheadF, ha]
        rw [Option.bind_some, if_pos rfl, if_pos (by omega), Option.bind_some, if_pos (by simp only [List.length_append, List.length_cons, List.length_nil, Bool.false_eq_true, if_false] at hn ⊢; omega), wrap_up j (by omega)]
        exact hk
      · obtain ⟨k, hk⟩ := ih (j + 1) (next ++ [d]) false hd' (by omega) hb (by simp only [List.length_append, List.length_cons, List.length_nil, Bool.false_eq_true, if_false] at hn ⊢; omega) (by
          unfold putIn at hk
          rw [if_neg ha] at hk
          simpa using hk)
        refine ⟨k + 1, ?_⟩
        unfold silkwormwaves_Merged.l2
        rw [if_pos (by omega), if_neg (by decide), if_pos (by omega), hrd, aheadF, eq_false_of_ne_true ha]
        rw [Option.bind_some, if_neg (by decide), if_pos (by omega), wrap_up j (by omega)]
        exact hk
/-- a part, change by change -/
theorem m1_ok (x0 : List (List S59)) (i : Nat) (hi : i < x0.length) (hi2 : x0.length < 4398046511104) (r : List S59) : ∀ (rest : List S59) (j : Nat) (out : List S59), (x0.getD i []).drop j = rest → j + rest.length = (x0.getD i []).length → (x0.getD i []).length < 4398046511104 → out.length + rest.length + 1 < 4398046511104 →
    (∃ k, silkwormwaves_Merged.l0 k x0 (rest.foldl (fun o c => putIn c o) out) (wrap64 ((i : Int) + 1)) = some r) → ∃ k, silkwormwaves_Merged.l1 k x0 out (i : Int) (j : Int) = some r := by
  intro rest
  have hL : rd_L3 x0 (i : Int) = x0.getD i [] := rfl
  generalize x0.getD i [] = row at hL
  induction rest with
  | nil =>
    intro j out hd hl hb hn ⟨k, hk⟩
    refine ⟨k + 1, ?_⟩
    simp only [List.length_nil] at hl
    unfold silkwormwaves_Merged.l1
    rw [if_pos (by omega), if_pos (by omega), hL, if_neg (by omega)]
    exact hk
  | cons c t ih =>
    intro j out hd hl hb hn hk
    simp only [List.length_cons] at hl hn
    have hrd : rd_T59 row (j : Int) = c := by
      unfold rd_T59
      rw [Int.toNat_natCast, List.getD_eq_getElem?_getD]
      have : row[j]? = some c := by
        have := congrArg (fun l => l[0]?) hd
        simpa using this
      rw [this]; rfl
    have hd' : row.drop (j + 1) = t := by
      have : row.drop (j + 1) = (row.drop j).drop 1 := by rw [List.drop_drop]
      rw [this, hd]; rfl
    obtain ⟨k, hk⟩ := ih (j + 1) (putIn c out) hd' (by omega) hb (by rw [putIn_length]; omega) hk
    obtain ⟨k2, hk2⟩ := m2_ok x0 out (i : Int) (j : Int) c r out 0 [] false rfl (by omega) (by omega) (by simp only [List.length_nil, Bool.false_eq_true, if_false]; omega) ⟨k, by rw [wrap_up j (by omega)]; simpa using hk⟩
    refine ⟨k2 + 1, ?_⟩
    unfold silkwormwaves_Merged.l1
    rw [if_pos (by omega), if_pos (by omega), hL, if_pos (by omega), if_pos (by omega), hrd]
    exact hk2
def mergeL (L : List (List S59)) : List S59 := L.flatten.foldl (fun o c => putIn c o) []
theorem fold_length : ∀ (l out : List S59), (l.foldl (fun o c => putIn c o) out).length = out.length + l.length
  | [], _ => rfl
  | c :: t, out => by
    rw [List.foldl_cons, fold_length t (putIn c out), putIn_length, List.length_cons]
    omega
theorem m0_ok (x0 : List (List S59)) (hi2 : x0.length < 4398046511104) (hT : x0.flatten.length + 1 < 4398046511104) : ∀ (rest : List (List S59)) (i : Nat) (out : List S59), x0.drop i = rest → i + rest.length = x0.length → out.length + rest.flatten.length + 1 < 4398046511104 → ∃ k, silkwormwaves_Merged.l0 k x0 out (i : Int) = some (rest.flatten.foldl (fun o c => putIn c o) out) := by
  intro rest
  induction rest with
  | nil =>
    intro i out hd hl hn
    refine ⟨1, ?_⟩
    simp only [List.length_nil] at hl
    unfold silkwormwaves_Merged.l0
    rw [if_neg (by omega)]
    rfl
  | cons row t ih =>
    intro i out hd hl hn
    simp only [List.length_cons] at hl
    rw [List.flatten_cons, List.length_append] at hn
    have hi : i < x0.length := by omega
    have hg : x0.getD i [] = row := by
      rw [List.getD_eq_getElem?_getD]
      have : x0[i]? = some row := by
        have := congrArg (fun l => l[0]?) hd
        simpa using this
      rw [this]; rfl
    have hd' : x0.drop (i + 1) = t := by
      have : x0.drop (i + 1) = (x0.drop i).drop 1 := by rw [List.drop_drop]
      rw [this, hd]; rfl
    obtain ⟨k, hk⟩ := ih (i + 1) (row.foldl (fun o c => putIn c o) out) hd' (by omega) (by rw [fold_length]; omega)
    obtain ⟨k2, hk2⟩ := m1_ok x0 i hi hi2 _ row 0 out (by rw [hg]; rfl) (by rw [hg]; omega) (by rw [hg]; omega) (by omega) ⟨k, by rw [wrap_up i (by omega)]; exact hk⟩
    refine ⟨k2 + 1, ?_⟩
    unfold silkwormwaves_Merged.l0
    rw [if_pos (by omega), List.flatten_cons, List.foldl_append]
    exact hk2
/-- the document's merging answers -/
theorem merged_ok (L : List (List S59)) (h1 : L.length < 4398046511104) (h2 : L.flatten.length + 1 < 4398046511104) : ∃ k, silkwormwaves_Merged.f k L = some (mergeL L) := by
  obtain ⟨k, hk⟩ := m0_ok L h1 h2 L 0 [] rfl (by omega) (by simpa using h2)
  exact ⟨k, hk⟩
theorem fold_perm : ∀ (l out : List S59), (l.foldl (fun o c => putIn c o) out).Perm (out ++ l)
  | [], out => by rw [List.append_nil]; exact List.Perm.refl _
  | c :: t, out => by
    rw [List.foldl_cons]
    exact (fold_perm t (putIn c out)).trans (((putIn_perm c out).append_right t).trans (List.perm_middle.symm))
theorem fold_srt : ∀ (l out : List S59), Srt aheadB out → Srt aheadB (l.foldl (fun o c => putIn c o) out)
  | [], _, h => h
  | c :: t, out, h => fold_srt t (putIn c out) (putIn_srt c out h)
theorem mergeL_perm (L : List (List S59)) : (mergeL L).Perm L.flatten := fold_perm L.flatten []
theorem mergeL_srt (L : List (List S59)) : Srt aheadB (mergeL L) := fold_srt L.flatten [] (Srt.nil _)
/-- two ways to sort: both may be, or neither -/
theorem merged_same (x : WV) {l l' : List S59} (hp : l'.Perm l) (h : Srt aheadB l) (h' : Srt aheadB l') (hm : mayB { x with li := l' } = true) : l' = l := by
  have hs := ((may_iff _).1 hm).strict
  exact (srt_uniq l' l hs h hp.symm).symm
end Go.Proofs.YtcbkgammlfjjoaaDoor
namespace Go.Proofs.YtcbkgammlfjjoaaDoor
set_option linter.unusedVariables false
set_option linter.unusedSimpArgs false
open Go.RowKit Go.Proofs.YtcbkgammlfjjoaaDoorW.PrintWords Go.Proofs.YtcbkgammlfjjoaaDoorW.PrintLast Go.Proofs.YtcbkgammlfjjoaaDoorW.PrintMore

def wantX (x : WV) (L : List (List S59)) : WV := { x with li := mergeL L }
def BadM (x : WV) (L : List (List S59)) : Prop := mayB x = false ∨ (mayB x = true ∧ decide (0 < x.li.length) = true) ∨ (mayB x = true ∧ decide (0 < x.li.length) = false ∧ mayB (wantX x L) = false)
structure PIn (w : World) (A : Option Addr) (L : List (List S59)) : Prop where
  c : Kd.C (Kd.slice 59 k59) w A L.length L
  a : AF A
  t : L.flatten.length ≤ 1048576
  l : L.length ≤ 1048576
  z : ∀ c ∈ L.flatten, c.f2.size ≤ 9223372036854775807
theorem PIn.below {w w' : World} {A : Option Addr} {L : List (List S59)} (h : PIn w A L) (hb : Below w.heap.size w w') : PIn w' A L := ⟨Kd.C_below h.c hb, h.a, h.t, h.l, h.z⟩
theorem merge_is_bad (x : WV) (A0 : Option Addr) (c0 : Nat) (A1 : Option Addr) (c1 : Nat) (A2 : Option Addr) (c2 : Nat) (A3 : Option Addr) (c3 : Nat) (A : Option Addr) (c : Nat) (L : List (List S59)) (w : World) (hI : WIn w x A0 c0 A1 c1 A2 c2 A3 c3) (hP : PIn w A L) (hbad : BadM x L) :
    Calls Tryd.prog 38 #[wvV x A0 c0 A1 c1 A2 c2 A3 c3, .slice A L.length c] w fun e w' => e = .returned (.tuple #[wvZ, .int .i64 1]) ∧ Below w.heap.size w w' := by
  rcases hbad with h | h | ⟨h, h0, hw⟩
  · exact merge_bad x A0 c0 A1 c1 A2 c2 A3 c3 _ w hI (Or.inl h)
  · exact merge_bad x A0 c0 A1 c1 A2 c2 A3 c3 _ w hI (Or.inr h)
  · refine (merge_any x A0 c0 A1 c1 A2 c2 A3 c3 A c L w hI h (by have := of_decide_eq_false h0; omega) hP.c hP.a (by have := hP.t; omega) (by have := hP.l; omega) hP.z).mono ?_
    rintro e w' ⟨l', hp, hs, hb, hr⟩
    rcases hr with ⟨hm, -⟩ | ⟨-, he⟩
    · exfalso
      have := merged_same x (hp.trans (mergeL_perm L).symm) (mergeL_srt L) hs hm
      rw [this] at hm
      rw [show ({ x with li := mergeL L } : WV) = wantX x L from rfl, hw] at hm
      cases hm
    · exact ⟨he, hb⟩
def GoodM (x : WV) (L : List (List S59)) : Prop := mayB x = true ∧ decide (0 < x.li.length) = false ∧ mayB (wantX x L) = true
theorem waysM (x : WV) (L : List (List S59)) : BadM x L ∨ GoodM x L := by
  cases h : mayB x
  · exact Or.inl (Or.inl h)
  · cases h1 : decide (0 < x.li.length)
    · cases h2 : mayB (wantX x L)
      · exact Or.inl (Or.inr (Or.inr ⟨h, h1, h2⟩))
      · exact Or.inr ⟨h, h1, h2⟩
    · exact Or.inl (Or.inr (Or.inl ⟨h, h1⟩))
def GoodP (y : WV) (w : World) (e : Ending) (w' : World) : Prop := ∃ A0 c0 A1 c1 A2 c2 A3 c3, e = .returned (.tuple #[wvV y A0 c0 A1 c1 A2 c2 A3 c3, .int .i64 0]) ∧ WIn w' y A0 c0 A1 c1 A2 c2 A3 c3 ∧ Below w.heap.size w w'
theorem merge_is_good (x : WV) (A0 : Option Addr) (c0 : Nat) (A1 : Option Addr) (c1 : Nat) (A2 : Option Addr) (c2 : Nat) (A3 : Option Addr) (c3 : Nat) (A : Option Addr) (c : Nat) (L : List (List S59)) (w : World) (hI : WIn w x A0 c0 A1 c1 A2 c2 A3 c3) (hP : PIn w A L) (hg : GoodM x L) :
    Calls Tryd.prog 38 #[wvV x A0 c0 A1 c1 A2 c2 A3 c3, .slice A L.length c] w (GoodP (wantX x L) w) := by
  refine (merge_any x A0 c0 A1 c1 A2 c2 A3 c3 A c L w hI hg.1 (by have := of_decide_eq_false hg.2.1; omega) hP.c hP.a (by have := hP.t; omega) (by have := hP.l; omega) hP.z).mono ?_
  rintro e w' ⟨l', hp, hs, hb, hr⟩
  have hl : l' = mergeL L := (merged_same x ((mergeL_perm L).trans hp.symm) hs (mergeL_srt L) hg.2.2).symm
  subst hl
  rcases hr with ⟨-, D0, d0, D1, d1, D2, d2, D3, d3, he, hw⟩ | ⟨hf, -⟩
  · exact ⟨D0, d0, D1, d1, D2, d2, D3, d3, he, hw, hb⟩
  · exfalso
    have := hg.2.2
    rw [show ({ x with li := mergeL L } : WV) = wantX x L from rfl] at hf
    rw [hf] at this; cases this
set_option maxRecDepth 100000 in
set_option maxHeartbeats 4000000 in
theorem merges_any (x : WV) (A0 : Option Addr) (c0 : Nat) (A1 : Option Addr) (c1 : Nat) (A2 : Option Addr) (c2 : Nat) (A3 : Option Addr) (c3 : Nat) (A : Option Addr) (c : Nat) (L : List (List S59)) (w : World) (hI : WIn w x A0 c0 A1 c1 A2 c2 A3 c3) (hP : PIn w A L) (hc : L.length ≤ c) :
    Calls Tryd.prog 14 #[wvV x A0 c0 A1 c1 A2 c2 A3 c3, .slice A L.length c] w fun e w' => e = .returned (.bool true) ∧ Below w.heap.size w w' := by
  have HI := Lib.hid hI
  have HP := Lib.hid hP
  have HWays := Lib.hid (waysM x L)
  have hfl0 := flat_le L
  have hfe : flat L L.length = L.flatten := by unfold flat; rw [List.take_length]
  have hTn := hP.t
  have hLn := hP.l
  obtain ⟨k, hk⟩ := merged_ok L (by omega) (by omega)
  have HMg := Lib.hid (fun W (h : PIn W A L) => silkwormwaves_Merged.calls k A c L (mergeL L) W h.c hc hk)
  have hmp := mergeL_perm L
  obtain ⟨F, hF⟩ : ∃ F, L.flatten = F := ⟨_, rfl⟩
  have hfz := hP.z
  rw [hF] at hfl0 hfe hTn hmp hfz
  have HFl := Lib.hid hfl0
  have HFe := Lib.hid hfe
  have HMp := Lib.hid hmp
  have HFz := Lib.hid hfz
  clear hfl0 hfe hF hI hP hmp hk hfz
  go_enter Tryd.func14, Tryd.ntmps14
  go_upto_region 1 with fail
  obtain ⟨W, hW⟩ : ∃ W, w.alloc (Obj.cells #[Value.slice A0 x.nm.length c0, Value.slice A1 x.wd.length c1, Value.slice A2 x.fi.length c2, Value.slice A3 x.li.length c3] 26) = W := ⟨_, rfl⟩
  rw [hW]
  obtain ⟨hx, hb⟩ := bx_alloc w x A0 c0 A1 c1 A2 c2 A3 c3 hW
  have HB := Lib.hid hb
  have HX := Lib.hid hx
  clear hb hx hW
  go_upto_region 3 with fail
  go_loopw [5, 6] (fun v5 v6 wx => ∃ k : Nat, v6 = .int .i64 k ∧ k ≤ L.length ∧ v5 = .int .i64 (flat L k).length ∧ Hid (Below W.heap.size W wx)) (fun _ v6 _ => L.length - (intOf v6).toNat)
  case atStart => exact ⟨0, rfl, Nat.zero_le _, rfl, Lib.hid (Below.refl _ _)⟩
  case round =>
    obtain ⟨k, rfl, hk, rfl, HBx⟩ := hrel
    have HWx := Lib.hid (HB.out.trans (HBx.out.mono HB.out.size))
    have HPx := Lib.hid (HP.out.below HWx.out)
    by_cases hlt : k < L.length
    · obtain ⟨b, o, B0, d0, hAe, hcell, hlc, hC0, hbs⟩ := row_cell HPx.out.c HPx.out.a k hlt
      subst hAe
      have hfs := flat_succ L hlt
      have hf1 := HFl.out (k + 1)
      rw [hfs, List.length_append] at hf1
      have HFs := Lib.hid hfs
      generalize L.getD k [] = row at *
      have hfl : ((flat L k).length : Int) + (row.length : Int) ≤ 1048576 := by omega
      clear hfs hC0
      go_wp2_with fail
      refine ⟨⟨k + 1, by simp, hlt, by rw [HFs.out, List.length_append]; simp, HBx⟩, by simp [intOf]; omega⟩
    · obtain rfl : k = L.length := by omega
      rw [HFe.out]
      have HXx := Lib.hid (HX.out.below HBx.out)
      clear hlt hk
      by_cases h300 : 300 < F.length
      · go_wp2_with fail
        refine (awakeW_any _).mono ?_
        rintro e w9 ⟨rfl, hb9⟩
        have HW9 := Lib.hid (HWx.out.trans (hb9.mono HWx.out.size))
        clear hb9
        go_wp2_with fail
        go_ret
        exact ⟨rfl, HW9.out⟩
      · have a0 := HXx.out.k0
        have a1 := HXx.out.k1
        have a2 := HXx.out.k2
        have a3 := HXx.out.k3
        rcases HWays.out with hway | hway
        · have HBad := Lib.hid hway
          clear hway
          go_wp2_with fail
          clear a0 a1 a2 a3
          refine (merge_is_bad x A0 c0 A1 c1 A2 c2 A3 c3 A c L wr (HI.out.below HWx.out) HPx.out HBad.out).mono ?_
          rintro e w2 ⟨rfl, hb2⟩
          have HW2 := Lib.hid (HWx.out.trans (hb2.mono HWx.out.size))
          have HX2 := Lib.hid (HXx.out.below hb2)
          clear hb2
          go_upto_region 9 with fail
          obtain ⟨W3, hW3⟩ : ∃ W, w2.alloc (.cells #[.slice none 0 0, .slice none 0 0, .slice none 0 0, .slice none 0 0] 26) = W := ⟨_, rfl⟩
          rw [hW3]
          obtain ⟨hf3, hb3⟩ := fx_alloc w2 none none none none 0 0 0 0 0 0 0 0 hW3
          have HF3 := Lib.hid hf3
          have HW3 := Lib.hid (HW2.out.trans (hb3.mono HW2.out.size))
          have HX3 := Lib.hid (HX2.out.below hb3)
          have HD3 := Lib.hid hb3
          clear hf3 hb3 hW3
          have a0 := HX3.out.k0
          have a1 := HX3.out.k1
          have a2 := HX3.out.k2
          have a3 := HX3.out.k3
          go_upto_region 10 with fail
          clear a0 a1 a2 a3
          obtain ⟨W4, hW4⟩ : ∃ W, W3.alloc (Obj.cells #[Value.slice A0 x.nm.length c0, Value.slice A1 x.wd.length c1, Value.slice A2 x.fi.length c2, Value.slice A3 x.li.length c3] 26) = W := ⟨_, rfl⟩
          have hz4 : W4.heap.size = W3.heap.size + 1 := by rw [← hW4]; simp
          rw [hW4]
          obtain ⟨hf4, hb4⟩ := fx_alloc W3 A0 A1 A2 A3 x.nm.length x.wd.length x.fi.length x.li.length c0 c1 c2 c3 hW4
          have HF4 := Lib.hid hf4
          have HZ4 := Lib.hid hz4
          have HW4 := Lib.hid (HW3.out.trans (hb4.mono HW3.out.size))
          have HX4 := Lib.hid (HX3.out.below hb4)
          have HG4 := Lib.hid (HF3.out.low HF3.out.s hb4)
          have HE4 := Lib.hid hb4
          have HD4 := Lib.hid (HD3.out.trans (hb4.mono HD3.out.size))
          clear hf4 hb4 hW4 hz4
          go_wp2_with fail
          refine (HMg.out W4 (HP.out.below HW4.out)).mono ?_
          rintro e w5 ⟨vM, rfl, hrM, hbM⟩
          obtain ⟨B9, c9, rfl⟩ := Kd.R_slice hrM
          have HRM := Lib.hid hrM
          have HBM := Lib.hid hbM
          have b3 := (hbM.cell (p := ⟨W3.heap.size, 3, none⟩) (by show W3.heap.size < _; rw [HZ4.out]; exact Nat.lt_succ_self _)).trans HF4.out.k3
          have f3 := (hbM.frozen (p := ⟨W3.heap.size, 3, none⟩) (by show W3.heap.size < _; rw [HZ4.out]; exact Nat.lt_succ_self _)).trans HF4.out.f3
          have hz5 : W3.heap.size < w5.heap.size := Nat.lt_of_lt_of_le (by rw [HZ4.out]; exact Nat.lt_succ_self _) hbM.size
          clear hrM hbM
          go_upto_region 11 with fail
          obtain ⟨W6, hW6⟩ : ∃ W, w5.setCell ⟨W3.heap.size, 3, none⟩ (.slice B9 (mergeL L).length c9) = W := ⟨_, rfl⟩
          rw [hW6]
          have hz34 : W3.heap.size < W4.heap.size := by rw [HZ4.out]; exact Nat.lt_succ_self _
          have hb6 : Below W3.heap.size W3 W6 := by
            rw [← hW6]
            refine below_set2 (Nat.le_refl _) ?_
            have h1 : Below W3.heap.size W3 W4 := HE4.out
            exact h1.trans (HBM.out.mono (Nat.le_of_lt hz34))
          have hq : Fx w5 W3.heap.size _ _ _ _ := HF4.out.low (by exact hz34) HBM.out
          have m0 : W6.cell? ⟨W3.heap.size, 0, none⟩ = some (.slice A0 x.nm.length c0) := by rw [← hW6, cell_ne (by decide)]; exact hq.k0
          have m1 : W6.cell? ⟨W3.heap.size, 1, none⟩ = some (.slice A1 x.wd.length c1) := by rw [← hW6, cell_ne (by decide)]; exact hq.k1
          have m2 : W6.cell? ⟨W3.heap.size, 2, none⟩ = some (.slice A2 x.fi.length c2) := by rw [← hW6, cell_ne (by decide)]; exact hq.k2
          have m3 : W6.cell? ⟨W3.heap.size, 3, none⟩ = some (.slice B9 (mergeL L).length c9) := by rw [← hW6]; exact cell_eq hq.k3
          have hs6 : W3.heap.size < W6.heap.size := by rw [← hW6]; simpa using hz5
          obtain ⟨B9', c9', he9, hl9, hC9, ha9⟩ := R_in (R_off (b := W3.heap.size) (o := 3) (u := .slice B9 (mergeL L).length c9) HRM.out hz34)
          rw [hW6] at hC9
          injection he9 with hB9 _ hc9
          subst hB9
          subst hc9
          have HW6 := Lib.hid (HW3.out.trans (hb6.mono HW3.out.size))
          have hI6 := HI.out.below HW6.out
          have hwant : WIn W6 (wantX x L) A0 c0 A1 c1 A2 c2 B9 c9 := ⟨hI6.h0, hI6.h1, hI6.h2, hC9, hI6.l0, hI6.l1, hI6.l2, hl9, hI6.a0, hI6.a1, hI6.a2, ha9, hI6.z0, hI6.z2, fun c hc => HFz.out c (HMp.out.mem_iff.1 hc), by show (mergeL L).length * 32 ≤ _; rw [HMp.out.length_eq]; omega⟩
          have HWt := Lib.hid hwant
          have HX6 := Lib.hid (HX3.out.below hb6)
          have HE6 := Lib.hid hb6
          have HM6 := Lib.hid (And.intro m0 (And.intro m1 (And.intro m2 (And.intro m3 hs6))))
          have HG6 := Lib.hid (HF3.out.low HF3.out.s hb6)
          clear hb6 hq m0 m1 m2 m3 hs6 hC9 ha9 hl9 hI6 hwant hW6 b3 f3 hz5 hz34
          have a0 := HX6.out.k0
          have a1 := HX6.out.k1
          have a2 := HX6.out.k2
          have a3 := HX6.out.k3
          go_wp2_with fail
          clear a0 a1 a2 a3
          refine (mayR_any x A0 c0 A1 c1 A2 c2 A3 c3 W6 (HI.out.below HW6.out)).mono ?_
          rintro e w7 ⟨rfl, hb7⟩
          have HW7 := Lib.hid (HW6.out.trans (hb7.mono HW6.out.size))
          have a3 := (HX6.out.below hb7).k3
          have hM6 := HM6.out
          have m0 := (hb7.cell (p := ⟨W3.heap.size, 0, none⟩) hM6.2.2.2.2).trans hM6.1
          have m1 := (hb7.cell (p := ⟨W3.heap.size, 1, none⟩) hM6.2.2.2.2).trans hM6.2.1
          have m2 := (hb7.cell (p := ⟨W3.heap.size, 2, none⟩) hM6.2.2.2.2).trans hM6.2.2.1
          have m3 := (hb7.cell (p := ⟨W3.heap.size, 3, none⟩) hM6.2.2.2.2).trans hM6.2.2.2.1
          have HWt7 := Lib.hid (HWt.out.below hb7)
          have HG7 := Lib.hid (HG6.out.low HG6.out.s hb7)
          obtain ⟨p0, p1, p2, p3, -, -, -, -, -⟩ := HG6.out.low HG6.out.s hb7
          have HB7 := Lib.hid hb7
          clear hb7 hM6
          rcases HBad.out with h | ⟨h, h1⟩ | ⟨h, h1, h2⟩
          · rw [h]
            go_wp2_with fail
            refine (awakeW_any _).mono ?_
            rintro e w9 ⟨rfl, hb9⟩
            have HW9 := Lib.hid (HW7.out.trans (hb9.mono HW7.out.size))
            clear hb9
            go_wp2_with fail
            go_ret
            exact ⟨rfl, HW9.out⟩
          · rw [h]
            go_wp2_with fail
            refine (awakeW_any _).mono ?_
            rintro e w9 ⟨rfl, hb9⟩
            have HW9 := Lib.hid (HW7.out.trans (hb9.mono HW7.out.size))
            clear hb9
            go_wp2_with fail
            go_ret
            exact ⟨rfl, HW9.out⟩
          · rw [h]
            go_wp2_with fail
            clear m0 m1 m2 m3 p0 p1 p2 p3
            refine (mayR_any (wantX x L) A0 c0 A1 c1 A2 c2 B9 c9 w7 HWt7.out).mono ?_
            rintro e w8 ⟨rfl, hb8⟩
            have HW8 := Lib.hid (HW7.out.trans (hb8.mono HW7.out.size))
            obtain ⟨p0, p1, p2, p3, -, -, -, -, -⟩ := HG7.out.low HG7.out.s hb8
            rw [h2]
            clear hb8
            go_wp2_with fail
            refine (awakeW_any _).mono ?_
            rintro e w9 ⟨rfl, hb9⟩
            have HW9 := Lib.hid (HW8.out.trans (hb9.mono HW8.out.size))
            clear hb9
            go_wp2_with fail
            go_ret
            exact ⟨rfl, HW9.out⟩
        · have HGd := Lib.hid hway
          clear hway
          go_wp2_with fail
          clear a0 a1 a2 a3
          refine (merge_is_good x A0 c0 A1 c1 A2 c2 A3 c3 A c L wr (HI.out.below HWx.out) HPx.out HGd.out).mono ?_
          rintro e w2 ⟨D0, d0, D1, d1, D2, d2, D3, d3, rfl, hwin, hb2⟩
          have HW2 := Lib.hid (HWx.out.trans (hb2.mono HWx.out.size))
          have HX2 := Lib.hid (HXx.out.below hb2)
          have HWin := Lib.hid hwin
          clear hb2 hwin
          go_upto_region 9 with fail
          obtain ⟨W3, hW3⟩ : ∃ W, w2.alloc (.cells #[.slice D0 (wantX x L).nm.length d0, .slice D1 (wantX x L).wd.length d1, .slice D2 (wantX x L).fi.length d2, .slice D3 (wantX x L).li.length d3] 26) = W := ⟨_, rfl⟩
          rw [hW3]
          obtain ⟨hf3, hb3⟩ := fx_alloc w2 D0 D1 D2 D3 (wantX x L).nm.length (wantX x L).wd.length (wantX x L).fi.length (wantX x L).li.length d0 d1 d2 d3 hW3
          have HF3 := Lib.hid hf3
          have HW3 := Lib.hid (HW2.out.trans (hb3.mono HW2.out.size))
          have HX3 := Lib.hid (HX2.out.below hb3)
          have HD3 := Lib.hid hb3
          clear hf3 hb3 hW3
          have a0 := HX3.out.k0
          have a1 := HX3.out.k1
          have a2 := HX3.out.k2
          have a3 := HX3.out.k3
          go_upto_region 10 with fail
          clear a0 a1 a2 a3
          obtain ⟨W4, hW4⟩ : ∃ W, W3.alloc (Obj.cells #[Value.slice A0 x.nm.length c0, Value.slice A1 x.wd.length c1, Value.slice A2 x.fi.length c2, Value.slice A3 x.li.length c3] 26) = W := ⟨_, rfl⟩
          have hz4 : W4.heap.size = W3.heap.size + 1 := by rw [← hW4]; simp
          rw [hW4]
          obtain ⟨hf4, hb4⟩ := fx_alloc W3 A0 A1 A2 A3 x.nm.length x.wd.length x.fi.length x.li.length c0 c1 c2 c3 hW4
          have HF4 := Lib.hid hf4
          have HZ4 := Lib.hid hz4
          have HW4 := Lib.hid (HW3.out.trans (hb4.mono HW3.out.size))
          have HX4 := Lib.hid (HX3.out.below hb4)
          have HG4 := Lib.hid (HF3.out.low HF3.out.s hb4)
          have HE4 := Lib.hid hb4
          have HD4 := Lib.hid (HD3.out.trans (hb4.mono HD3.out.size))
          clear hf4 hb4 hW4 hz4
          go_wp2_with fail
          refine (HMg.out W4 (HP.out.below HW4.out)).mono ?_
          rintro e w5 ⟨vM, rfl, hrM, hbM⟩
          obtain ⟨B9, c9, rfl⟩ := Kd.R_slice hrM
          have HRM := Lib.hid hrM
          have HBM := Lib.hid hbM
          have b3 := (hbM.cell (p := ⟨W3.heap.size, 3, none⟩) (by show W3.heap.size < _; rw [HZ4.out]; exact Nat.lt_succ_self _)).trans HF4.out.k3
          have f3 := (hbM.frozen (p := ⟨W3.heap.size, 3, none⟩) (by show W3.heap.size < _; rw [HZ4.out]; exact Nat.lt_succ_self _)).trans HF4.out.f3
          have hz5 : W3.heap.size < w5.heap.size := Nat.lt_of_lt_of_le (by rw [HZ4.out]; exact Nat.lt_succ_self _) hbM.size
          clear hrM hbM
          go_upto_region 11 with fail
          obtain ⟨W6, hW6⟩ : ∃ W, w5.setCell ⟨W3.heap.size, 3, none⟩ (.slice B9 (mergeL L).length c9) = W := ⟨_, rfl⟩
          rw [hW6]
          have hz34 : W3.heap.size < W4.heap.size := by rw [HZ4.out]; exact Nat.lt_succ_self _
          have hb6 : Below W3.heap.size W3 W6 := by
            rw [← hW6]
            refine below_set2 (Nat.le_refl _) ?_
            have h1 : Below W3.heap.size W3 W4 := HE4.out
            exact h1.trans (HBM.out.mono (Nat.le_of_lt hz34))
          have hq : Fx w5 W3.heap.size _ _ _ _ := HF4.out.low (by exact hz34) HBM.out
          have m0 : W6.cell? ⟨W3.heap.size, 0, none⟩ = some (.slice A0 x.nm.length c0) := by rw [← hW6, cell_ne (by decide)]; exact hq.k0
          have m1 : W6.cell? ⟨W3.heap.size, 1, none⟩ = some (.slice A1 x.wd.length c1) := by rw [← hW6, cell_ne (by decide)]; exact hq.k1
          have m2 : W6.cell? ⟨W3.heap.size, 2, none⟩ = some (.slice A2 x.fi.length c2) := by rw [← hW6, cell_ne (by decide)]; exact hq.k2
          have m3 : W6.cell? ⟨W3.heap.size, 3, none⟩ = some (.slice B9 (mergeL L).length c9) := by rw [← hW6]; exact cell_eq hq.k3
          have hs6 : W3.heap.size < W6.heap.size := by rw [← hW6]; simpa using hz5
          obtain ⟨B9', c9', he9, hl9, hC9, ha9⟩ := R_in (R_off (b := W3.heap.size) (o := 3) (u := .slice B9 (mergeL L).length c9) HRM.out hz34)
          rw [hW6] at hC9
          injection he9 with hB9 _ hc9
          subst hB9
          subst hc9
          have HW6 := Lib.hid (HW3.out.trans (hb6.mono HW3.out.size))
          have hI6 := HI.out.below HW6.out
          have hwant : WIn W6 (wantX x L) A0 c0 A1 c1 A2 c2 B9 c9 := ⟨hI6.h0, hI6.h1, hI6.h2, hC9, hI6.l0, hI6.l1, hI6.l2, hl9, hI6.a0, hI6.a1, hI6.a2, ha9, hI6.z0, hI6.z2, fun c hc => HFz.out c (HMp.out.mem_iff.1 hc), by show (mergeL L).length * 32 ≤ _; rw [HMp.out.length_eq]; omega⟩
          have HWt := Lib.hid hwant
          have HX6 := Lib.hid (HX3.out.below hb6)
          have HE6 := Lib.hid hb6
          have HM6 := Lib.hid (And.intro m0 (And.intro m1 (And.intro m2 (And.intro m3 hs6))))
          have HG6 := Lib.hid (HF3.out.low HF3.out.s hb6)
          clear hb6 hq m0 m1 m2 m3 hs6 hC9 ha9 hl9 hI6 hwant hW6 b3 f3 hz5 hz34
          have a0 := HX6.out.k0
          have a1 := HX6.out.k1
          have a2 := HX6.out.k2
          have a3 := HX6.out.k3
          go_wp2_with fail
          clear a0 a1 a2 a3
          refine (mayR_any x A0 c0 A1 c1 A2 c2 A3 c3 W6 (HI.out.below HW6.out)).mono ?_
          rintro e w7 ⟨rfl, hb7⟩
          have HW7 := Lib.hid (HW6.out.trans (hb7.mono HW6.out.size))
          have a3 := (HX6.out.below hb7).k3
          have hM6 := HM6.out
          have m0 := (hb7.cell (p := ⟨W3.heap.size, 0, none⟩) hM6.2.2.2.2).trans hM6.1
          have m1 := (hb7.cell (p := ⟨W3.heap.size, 1, none⟩) hM6.2.2.2.2).trans hM6.2.1
          have m2 := (hb7.cell (p := ⟨W3.heap.size, 2, none⟩) hM6.2.2.2.2).trans hM6.2.2.1
          have m3 := (hb7.cell (p := ⟨W3.heap.size, 3, none⟩) hM6.2.2.2.2).trans hM6.2.2.2.1
          have HWt7 := Lib.hid (HWt.out.below hb7)
          have HG7 := Lib.hid (HG6.out.low HG6.out.s hb7)
          obtain ⟨p0, p1, p2, p3, -, -, -, -, -⟩ := HG6.out.low HG6.out.s hb7
          have HB7 := Lib.hid hb7
          clear hb7 hM6
          have h1 := HGd.out.2.1
          rw [HGd.out.1]
          go_wp2_with fail
          clear m0 m1 m2 m3 p0 p1 p2 p3
          refine (mayR_any (wantX x L) A0 c0 A1 c1 A2 c2 B9 c9 w7 HWt7.out).mono ?_
          rintro e w8 ⟨rfl, hb8⟩
          have HW8 := Lib.hid (HW7.out.trans (hb8.mono HW7.out.size))
          obtain ⟨p0, p1, p2, p3, -, -, -, -, -⟩ := HG7.out.low HG7.out.s hb8
          have hM6 := HM6.out
          have hs7 : W3.heap.size < w7.heap.size := Nat.lt_of_lt_of_le hM6.2.2.2.2 HB7.out.size
          have m0 := (hb8.cell (p := ⟨W3.heap.size, 0, none⟩) hs7).trans ((HB7.out.cell (p := ⟨W3.heap.size, 0, none⟩) hM6.2.2.2.2).trans hM6.1)
          have m1 := (hb8.cell (p := ⟨W3.heap.size, 1, none⟩) hs7).trans ((HB7.out.cell (p := ⟨W3.heap.size, 1, none⟩) hM6.2.2.2.2).trans hM6.2.1)
          have m2 := (hb8.cell (p := ⟨W3.heap.size, 2, none⟩) hs7).trans ((HB7.out.cell (p := ⟨W3.heap.size, 2, none⟩) hM6.2.2.2.2).trans hM6.2.2.1)
          have m3 := (hb8.cell (p := ⟨W3.heap.size, 3, none⟩) hs7).trans ((HB7.out.cell (p := ⟨W3.heap.size, 3, none⟩) hM6.2.2.2.2).trans hM6.2.2.2.1)
          have hsm := same_any (wantX x L) D0 d0 D1 d1 D2 d2 D3 d3 A0 c0 A1 c1 A2 c2 B9 c9 w8 (HWin.out.below (HD3.out.trans ((HE6.out.trans ((HB7.out.trans (hb8.mono HB7.out.size)).mono HE6.out.size)).mono HD3.out.size))) (HWt7.out.below hb8) ((may_iff _).1 HGd.out.2.2)
          have HSm := Lib.hid hsm
          rw [HGd.out.2.2]
          clear hb8 hM6 hs7 hsm
          go_wp2_with fail
          clear m0 m1 m2 m3 p0 p1 p2 p3
          refine HSm.out.mono ?_
          rintro e w10 ⟨rfl, hb10⟩
          have HW10 := Lib.hid (HW8.out.trans (hb10.mono HW8.out.size))
          clear hb10
          go_wp2_with fail
          refine (awakeW_any _).mono ?_
          rintro e w9 ⟨rfl, hb9⟩
          have HW9 := Lib.hid (HW10.out.trans (hb9.mono HW10.out.size))
          clear hb9
          go_wp2_with fail
          go_ret
          exact ⟨rfl, HW9.out⟩
end Go.Proofs.YtcbkgammlfjjoaaDoor
namespace Go.Proofs.YtcbkgammlfjjoaaDoor
set_option maxRecDepth 100000
set_option linter.unusedVariables false
set_option linter.unusedSimpArgs false
open Go.ChangeShapes Go.WideShapes Go.ChangeAt Go.RowKit Go.Joins Go.Deep Go.Proofs.YtcbkgammlfjjoaaDoorW.PrintWords

theorem bulk_pos {H : Type} (d : DataW H) : 1 ≤ Rows.uptoBulk d := by
  cases d with
  | lit l => cases l <;> simp only [Rows.uptoBulk] <;> omega
  | nil => simp only [Rows.uptoBulk]; omega
  | ptr d => simp only [Rows.uptoBulk]; omega
  | slice a b => simp only [Rows.uptoBulk]; omega
  | agg a => simp only [Rows.uptoBulk]; omega
  | iface a b => simp only [Rows.uptoBulk]; omega
  | map a => simp only [Rows.uptoBulk]; omega
  | held a => simp only [Rows.uptoBulk]; omega
theorem bulkAll_len {H : Type} : ∀ l : List (DataW H), l.length ≤ Rows.uptoBulkAll l
  | [] => Nat.zero_le _
  | d :: l => by
    have := bulk_pos d
    have := bulkAll_len l
    simp only [Rows.uptoBulkAll, List.length_cons]
    omega
theorem bulkAll_sum {H : Type} (f : Nat → Nat) (D : Nat → DataW H) : ∀ l : List Nat, (∀ i ∈ l, f i ≤ Rows.uptoBulk (D i)) → (l.map f).sum ≤ Rows.uptoBulkAll (l.map D)
  | [], _ => Nat.zero_le _
  | i :: l, h => by
    have h1 := h i List.mem_cons_self
    have h2 := bulkAll_sum f D l fun j hj => h j (List.mem_cons_of_mem _ hj)
    simp only [Rows.uptoBulkAll, List.map_cons, List.sum_cons]
    omega

section
variable {H : Type} {enc : TypeId × Value → H} {w : World} {base : Nat} {spare : Nat → Bool} {held : Bool}
theorem open_rowG {α : Type} [Inhabited α] (d : Kd α) (Q : α → Prop) (μ : α → Nat) {P : Program} {t e : TypeId} {fuel : Nat} {cs : List Value} {x : DataW H × List MemPlace} (ht : P.underlying t = some (.slice e)) (hsz : P.cellsOf e = d.sz) (hd0 : 0 < d.sz)
    (ex : ∀ n cs y, cs.length = d.sz → DataW.trod enc P w base spare held n e cs = some y → ∃ a : α, d.K w a cs ∧ Q a ∧ μ a ≤ Rows.uptoBulk y.1)
    (h : DataW.trod enc P w base spare held fuel t cs = some x) :
    ∃ A cap xs, cs = [.slice A xs.length cap] ∧ xs.length ≤ cap ∧ d.C w A xs.length xs ∧ (xs = [] ∨ AF A) ∧ (∀ a ∈ xs, Q a) ∧ xs.length ≤ Rows.uptoBulk x.1 ∧ (xs.map μ).sum ≤ Rows.uptoBulk x.1 := by
  rcases open_slice ht h with ⟨hcs, hx0⟩ | ⟨a, len, cap, m, n, D, Pl, hcs, _, hl, hm, hmm, hxx, hx⟩
  · exact ⟨none, 0, [], hcs, Nat.le_refl _, ⟨rfl, Nat.zero_le _, fun h => absurd h (Nat.lt_irrefl _)⟩, Or.inl rfl, (fun _ h => nomatch h), Nat.zero_le _, Nat.zero_le _⟩
  · subst hcs
    have hle : len ≤ m := by rw [hmm]; split <;> omega
    have each : ∀ i, i < len → ∃ q : α, (∃ c, c.length = d.sz ∧ d.K w q c ∧ ∀ j u, c[j]? = some u → w.cell? ((a.add (i * d.sz)).add j) = some u) ∧ Q q ∧ μ q ≤ Rows.uptoBulk (D i) := by
      intro i hi
      obtain ⟨cs', h1, h2⟩ := hx i (by omega)
      rw [hsz] at h1
      obtain ⟨_, hlen, hcell⟩ := World.cells?_some h1
      obtain ⟨q, hK, hQ, hμ⟩ := ex n cs' _ hlen h2
      refine ⟨q, ⟨cs', hlen, hK, fun j u hj => ?_⟩, hQ, hμ⟩
      have hj7 : j < d.sz := by have := (List.getElem?_eq_some_iff.1 hj).1; omega
      have := hcell j hj7
      rw [hj] at this
      exact this
    obtain ⟨q, hq⟩ := choose_lt each
    have hbulk : Rows.uptoBulkAll ((List.range len).map D) ≤ Rows.uptoBulk x.1 := by
      rw [hxx]
      simp only [Rows.uptoBulk]
      omega
    have hsum : (((List.range len).map q).map μ).sum ≤ Rows.uptoBulkAll ((List.range len).map D) := by
      rw [List.map_map]
      exact bulkAll_sum _ _ _ fun i hi => (hq i (List.mem_range.1 hi)).2.2
    have hlenb : len ≤ Rows.uptoBulkAll ((List.range len).map D) := by
      have := bulkAll_len ((List.range len).map D)
      rwa [List.length_map, List.length_range] at this
    have hQ : ∀ y ∈ (List.range len).map q, Q y := by
      intro y hy
      obtain ⟨i, hi, rfl⟩ := List.mem_map.1 hy
      exact (hq i (List.mem_range.1 hi)).2.1
    unfold maxLen at hm
    rcases Nat.eq_zero_or_pos len with h0 | h0
    · subst h0
      exact ⟨some a, cap, [], rfl, Nat.zero_le _, ⟨rfl, Nat.zero_le _, fun h => absurd h (Nat.lt_irrefl _)⟩, Or.inl rfl, (fun _ h => nomatch h), Nat.zero_le _, Nat.zero_le _⟩
    · obtain ⟨b, o, sp⟩ := a
      have hspot : sp = none := by
        obtain ⟨c, h1, _, h3⟩ := (hq 0 h0).1
        match c, h1 with
        | [], h1 => simp at h1; omega
        | u :: c', h1 =>
          have := World.cell?_spot (h3 0 u rfl)
          simpa [Addr.add] using this
      subst hspot
      have hlq : ((List.range len).map q).length = len := by rw [List.length_map, List.length_range]
      refine ⟨some ⟨b, o, none⟩, cap, (List.range len).map q, by rw [hlq], by rw [hlq]; exact hl, ⟨rfl, by rw [hlq]; omega, fun _ => ⟨⟨b, o, none⟩, rfl, fun j p hj => ?_⟩⟩, Or.inr (Or.inr ⟨b, o, rfl⟩), hQ, by rw [hlq]; omega, by omega⟩
      have hi2 : j < len := by have := (List.getElem?_eq_some_iff.1 hj).1; simpa using this
      have : q j = p := by simpa [hi2] using hj
      subst this
      obtain ⟨⟨c, h1, h2, h3⟩, _⟩ := hq j hi2
      refine ⟨c, h1, h2, fun i u hu => ?_⟩
      have e : ∀ (o' k : Nat), (⟨b, o', none⟩ : Addr).add k = ⟨b, o' + k, none⟩ := by intro o' k; unfold Addr.add; split <;> simp_all
      have := h3 i u hu
      rw [e, e] at this
      rw [e, ← Nat.add_assoc]
      exact this
/-- one row of changes among others -/
theorem open_rowC {n : Nat} {cs : List Value} {y : DataW H × List MemPlace} (hl : cs.length = 1) (h : DataW.trod enc Tryd.prog w base spare held n 24 cs = some y) :
    ∃ a : List S59, (Kd.slice 59 k59).K w a cs ∧ (∀ c ∈ a, c.f2.size ≤ 9223372036854775807) ∧ a.length ≤ Rows.uptoBulk y.1 := by
  haveI : Inhabited S59 := ⟨z59⟩
  obtain ⟨A, cap, xs, rfl, h1, h2, _, h3, h4, _⟩ := open_rowG (e := 59) k59 (fun c => c.f2.size ≤ 9223372036854775807) (fun _ => 0) Tryd.underlying24 (by kernel_rfl) (by decide)
    (fun n cs y hl h => by
      obtain ⟨a, h1, h2⟩ := open_chg hl h
      exact ⟨a, h1, h2, Nat.zero_le _⟩) h
  exact ⟨xs, ⟨A, cap, rfl, h1, h2⟩, h3, h4⟩
/-- rows of changes that come in -/
theorem open_rows {r : Reach} {b0 : Nat} {v : Value} {d : DataW H} {p : List MemPlace} (hv : Value.okWide Tryd.prog w r b0 61 v) (h : DataW.Trod enc Tryd.prog w base spare held 61 v d p) (hb : Rows.uptoBulk d ≤ 1048576) :
    ∃ A c L, v = .slice A L.length c ∧ L.length ≤ c ∧ PIn w A L := by
  obtain ⟨fuel, hf⟩ := h
  haveI : Inhabited S59 := ⟨z59⟩
  haveI : Inhabited (List S59) := ⟨[]⟩
  obtain ⟨A, cap, L, hcs, h1, h2, h3, h4, h5, h6⟩ := open_rowG (e := 24) (Kd.slice 59 k59) (fun a => ∀ c ∈ a, c.f2.size ≤ 9223372036854775807) List.length Tryd.underlying61 (by kernel_rfl) (by decide) (fun n cs y => open_rowC) hf
  unfold Value.okWide at hv
  rw [Tryd.underlying61] at hv
  have hv' : v = .slice A L.length cap := by
    have e : v.cells.toList = [.slice A L.length cap] := hcs
    by_cases ha : ∃ xs, v = .agg xs
    · obtain ⟨xs, rfl⟩ := ha
      exfalso
      have hv2 : Cell.okWide Tryd.prog w r b0 61 (.agg xs) := hv
      unfold Cell.okWide at hv2
      rw [Tryd.underlying61] at hv2
      simp only [Cell.ok, Tryd.underlying61] at hv2
    · have e2 : v.cells = #[v] := by
        cases v with
        | agg xs => exact absurd ⟨xs, rfl⟩ ha
        | _ => rfl
      rw [e2] at e
      injection e
  subst hv'
  have hAF : AF A := by
    rcases A with _ | ⟨b, o, sp⟩
    · exact Or.inl rfl
    · unfold Cell.okWide at hv
      rw [Tryd.underlying61] at hv
      simp only [Cell.ok, Tryd.underlying61] at hv
      have : sp = none := hv.2.2.2.1
      subst this
      exact Or.inr ⟨b, o, rfl⟩
  refine ⟨A, cap, L, rfl, h1, ⟨h2, hAF, ?_, ?_, ?_⟩⟩
  · rw [List.length_flatten]
    simp only at h6
    omega
  · simp only at h5
    omega
  · intro c hc
    obtain ⟨a, ha, hca⟩ := List.mem_flatten.1 hc
    exact h4 a ha c hca
end
end Go.Proofs.YtcbkgammlfjjoaaDoor
