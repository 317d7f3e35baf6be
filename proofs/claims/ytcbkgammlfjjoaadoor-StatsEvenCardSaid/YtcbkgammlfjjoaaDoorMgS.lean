/- StatsOf: numbers of a waveform in a box; which changes count. StatsOf: stats.Of, walked, of a waveform that may be. StatsOf: the document's Of, walked, of a waveform that may be. StatsOf: stats.Of of arguments that may not be; the statement's own function. -/
import Derived.Test.YtcbkgammlfjjoaaDoorMgP
import Derived.Test.YtcbkgammlfjjoaaDoorSt2
import Derived.Test.YtcbkgammlfjjoaaDoorE2
namespace Go.Proofs.YtcbkgammlfjjoaaDoor
set_option linter.unusedVariables false
set_option linter.unusedSimpArgs false
open Go.RowKit Go.Proofs.YtcbkgammlfjjoaaDoorW.PrintWords Go.Proofs.YtcbkgammlfjjoaaDoorW.PrintLast Go.Proofs.YtcbkgammlfjjoaaDoorW.PrintMore

def kF : Kd Nat := Kd.scalar (Value.float .f64) (fun _ => rfl)
theorem kF_mkM (w : World) (base : Nat) (ok : Nat → Prop) (p : Nat) : kF.M w base ok p [.float .f64 p] := rfl
theorem info42 : (Tryd.prog.info? 42).map (fun i => (i.zero, i.size, i.bytes)) = some (some (.float .f64 0), 1, 8) := by kernel_rfl
theorem und77 : Tryd.prog.underlying 77 = some (.slice 42) := by kernel_rfl
/-- numbers of a waveform in a box -/
structure Sx (W : World) (g : Nat) (n : Int) (r m s a b : Nat) : Prop where
  k0 : W.cell? ⟨g, 0, none⟩ = some (.int .i64 n)
  k1 : W.cell? ⟨g, 1, none⟩ = some (.float .f64 r)
  k2 : W.cell? ⟨g, 2, none⟩ = some (.float .f64 m)
  k3 : W.cell? ⟨g, 3, none⟩ = some (.float .f64 s)
  k4 : W.cell? ⟨g, 4, none⟩ = some (.float .f64 a)
  k5 : W.cell? ⟨g, 5, none⟩ = some (.float .f64 b)
  f0 : W.frozen? ⟨g, 0, none⟩ = false
  f1 : W.frozen? ⟨g, 1, none⟩ = false
  f2 : W.frozen? ⟨g, 2, none⟩ = false
  f3 : W.frozen? ⟨g, 3, none⟩ = false
  f4 : W.frozen? ⟨g, 4, none⟩ = false
  f5 : W.frozen? ⟨g, 5, none⟩ = false
  s : g < W.heap.size
theorem Sx.below {W W' : World} {g : Nat} {n : Int} {r m s a b : Nat} (h : Sx W g n r m s a b) (hb : Below W.heap.size W W') : Sx W' g n r m s a b :=
  ⟨(hb.cell (p := ⟨g, 0, none⟩) h.s).trans h.k0, (hb.cell (p := ⟨g, 1, none⟩) h.s).trans h.k1, (hb.cell (p := ⟨g, 2, none⟩) h.s).trans h.k2, (hb.cell (p := ⟨g, 3, none⟩) h.s).trans h.k3, (hb.cell (p := ⟨g, 4, none⟩) h.s).trans h.k4, (hb.cell (p := ⟨g, 5, none⟩) h.s).trans h.k5, (hb.frozen (p := ⟨g, 0, none⟩) h.s).trans h.f0, (hb.frozen (p := ⟨g, 1, none⟩) h.s).trans h.f1, (hb.frozen (p := ⟨g, 2, none⟩) h.s).trans h.f2, (hb.frozen (p := ⟨g, 3, none⟩) h.s).trans h.f3, (hb.frozen (p := ⟨g, 4, none⟩) h.s).trans h.f4, (hb.frozen (p := ⟨g, 5, none⟩) h.s).trans h.f5, Nat.lt_of_lt_of_le h.s hb.size⟩
theorem sx_alloc (w : World) (n : Int) (r m s a b : Nat) (t : TypeId) {W : World} (hW : w.alloc (.cells #[.int .i64 n, .float .f64 r, .float .f64 m, .float .f64 s, .float .f64 a, .float .f64 b] t) = W) : Sx W w.heap.size n r m s a b ∧ Below w.heap.size w W := by
  refine ⟨⟨?_, ?_, ?_, ?_, ?_, ?_, ?_, ?_, ?_, ?_, ?_, ?_, ?_⟩, ?_⟩
  all_goals first | (rw [← hW]; exact below_alloc (Below.refl _ _) _) | (rw [← hW]; simp; done) | (rw [← hW]; simp [go_sem])
theorem Sx.low {B : Nat} {W W' : World} {g : Nat} {n : Int} {r m s a b : Nat} (h : Sx W g n r m s a b) (hg : g < B) (hb : Below B W W') : Sx W' g n r m s a b :=
  ⟨(hb.cell (p := ⟨g, 0, none⟩) hg).trans h.k0, (hb.cell (p := ⟨g, 1, none⟩) hg).trans h.k1, (hb.cell (p := ⟨g, 2, none⟩) hg).trans h.k2, (hb.cell (p := ⟨g, 3, none⟩) hg).trans h.k3, (hb.cell (p := ⟨g, 4, none⟩) hg).trans h.k4, (hb.cell (p := ⟨g, 5, none⟩) hg).trans h.k5, (hb.frozen (p := ⟨g, 0, none⟩) hg).trans h.f0, (hb.frozen (p := ⟨g, 1, none⟩) hg).trans h.f1, (hb.frozen (p := ⟨g, 2, none⟩) hg).trans h.f2, (hb.frozen (p := ⟨g, 3, none⟩) hg).trans h.f3, (hb.frozen (p := ⟨g, 4, none⟩) hg).trans h.f4, (hb.frozen (p := ⟨g, 5, none⟩) hg).trans h.f5, Nat.lt_of_lt_of_le h.s hb.size⟩
theorem Sx.put0 {W : World} {g : Nat} {n : Int} {r m s a b : Nat} (h : Sx W g n r m s a b) (n' : Int) : Sx (W.setCell ⟨g, 0, none⟩ (.int .i64 n')) g n' r m s a b := by
  obtain ⟨k0, k1, k2, k3, k4, k5, f0, f1, f2, f3, f4, f5, hs⟩ := h
  refine ⟨?_, ?_, ?_, ?_, ?_, ?_, ?_, ?_, ?_, ?_, ?_, ?_, ?_⟩ <;> simp [go_sem, *]
theorem Sx.put1 {W : World} {g : Nat} {n : Int} {r m s a b : Nat} (h : Sx W g n r m s a b) (r' : Nat) : Sx (W.setCell ⟨g, 1, none⟩ (.float .f64 r')) g n r' m s a b := by
  obtain ⟨k0, k1, k2, k3, k4, k5, f0, f1, f2, f3, f4, f5, hs⟩ := h
  refine ⟨?_, ?_, ?_, ?_, ?_, ?_, ?_, ?_, ?_, ?_, ?_, ?_, ?_⟩ <;> simp [go_sem, *]
theorem Sx.put2 {W : World} {g : Nat} {n : Int} {r m s a b : Nat} (h : Sx W g n r m s a b) (m' : Nat) : Sx (W.setCell ⟨g, 2, none⟩ (.float .f64 m')) g n r m' s a b := by
  obtain ⟨k0, k1, k2, k3, k4, k5, f0, f1, f2, f3, f4, f5, hs⟩ := h
  refine ⟨?_, ?_, ?_, ?_, ?_, ?_, ?_, ?_, ?_, ?_, ?_, ?_, ?_⟩ <;> simp [go_sem, *]
theorem Sx.put3 {W : World} {g : Nat} {n : Int} {r m s a b : Nat} (h : Sx W g n r m s a b) (s' : Nat) : Sx (W.setCell ⟨g, 3, none⟩ (.float .f64 s')) g n r m s' a b := by
  obtain ⟨k0, k1, k2, k3, k4, k5, f0, f1, f2, f3, f4, f5, hs⟩ := h
  refine ⟨?_, ?_, ?_, ?_, ?_, ?_, ?_, ?_, ?_, ?_, ?_, ?_, ?_⟩ <;> simp [go_sem, *]
theorem Sx.put4 {W : World} {g : Nat} {n : Int} {r m s a b : Nat} (h : Sx W g n r m s a b) (a' : Nat) : Sx (W.setCell ⟨g, 4, none⟩ (.float .f64 a')) g n r m s a' b := by
  obtain ⟨k0, k1, k2, k3, k4, k5, f0, f1, f2, f3, f4, f5, hs⟩ := h
  refine ⟨?_, ?_, ?_, ?_, ?_, ?_, ?_, ?_, ?_, ?_, ?_, ?_, ?_⟩ <;> simp [go_sem, *]
theorem Sx.put5 {W : World} {g : Nat} {n : Int} {r m s a b : Nat} (h : Sx W g n r m s a b) (b' : Nat) : Sx (W.setCell ⟨g, 5, none⟩ (.float .f64 b')) g n r m s a b' := by
  obtain ⟨k0, k1, k2, k3, k4, k5, f0, f1, f2, f3, f4, f5, hs⟩ := h
  refine ⟨?_, ?_, ?_, ?_, ?_, ?_, ?_, ?_, ?_, ?_, ?_, ?_, ?_⟩ <;> simp [go_sem, *]
theorem Sx.drewN {W : World} {g : Nat} {n : Int} {r m s a b : Nat} (h : Sx W g n r m s a b) (k : Nat) : Sx (W.drewN k) g n r m s a b := h.below (pw_below_drewN (Below.refl _ _) k)
theorem getLastD_mem : ∀ (l : List Int), l ≠ [] → l.getLastD 0 ∈ l
  | [], h => absurd rfl h
  | a :: t, _ => by rw [List.getLastD_cons]; cases t with
    | nil => exact List.mem_cons_self
    | cons b t => exact List.mem_cons_of_mem _ (by have := getLastD_mem (b :: t) (by simp); rwa [List.getLastD_cons] at this ⊢)
theorem tms_mem {x : WV} (h : May x) {net hor : Int} {i : Nat} {t : Int} (ht : t ∈ tms x net hor i) : 0 ≤ t ∧ t ≤ 4611686018427387903 := by
  unfold tms at ht
  obtain ⟨c, hc, rfl⟩ := List.mem_map.1 ht
  have hc2 := List.mem_of_mem_take (List.mem_filter.1 hc).1
  obtain ⟨j, hj, rfl⟩ := List.getElem_of_mem hc2
  have hp := h.place hj
  have e : cAt x j = x.li[j] := by unfold cAt; rw [List.getD_eq_getElem?_getD, List.getElem?_eq_getElem hj]; rfl
  rw [e] at hp
  exact ⟨hp.2.2.1, hp.2.2.2.1⟩
theorem tms_last {x : WV} (h : May x) {net hor : Int} {i : Nat} : 0 ≤ (tms x net hor i).getLastD 0 ∧ (tms x net hor i).getLastD 0 ≤ 4611686018427387903 := by
  by_cases e : tms x net hor i = []
  · rw [e]; decide
  · exact tms_mem h (getLastD_mem _ e)
theorem cnt_off {net hor : Int} {c : S59} (h : hor < c.f0 ∨ (0 ≤ net ∧ c.f1 ≠ net)) : ¬ cnt net hor c = true := by
  unfold cnt
  rcases h with h | ⟨h1, h2⟩
  · rw [decide_eq_false (by omega)]; simp
  · rw [decide_eq_false (p := net < 0) (by omega), decide_eq_false h2]; simp
theorem cnt_on {net hor : Int} {c : S59} (h1 : c.f0 ≤ hor) (h : net < 0 ∨ c.f1 = net) : cnt net hor c = true := by
  unfold cnt
  rw [decide_eq_true h1]
  rcases h with h | h
  · rw [decide_eq_true h]; rfl
  · rw [decide_eq_true h]; simp
end Go.Proofs.YtcbkgammlfjjoaaDoor
namespace Go.Proofs.YtcbkgammlfjjoaaDoor
set_option linter.unusedVariables false
set_option linter.unusedSimpArgs false
open Go.RowKit Go.Proofs.YtcbkgammlfjjoaaDoorW.PrintWords Go.Proofs.YtcbkgammlfjjoaaDoorW.PrintLast Go.Proofs.YtcbkgammlfjjoaaDoorW.PrintMore

def OfP (T : List Int) (hor : Int) (w : World) (e : Ending) (w' : World) : Prop := ∃ n r m s a b, e = .returned (.tuple #[statsV n r m s a b, .int .i64 0]) ∧ Below w.heap.size w w' ∧ OfR T hor n r m s a b
set_option maxRecDepth 100000 in
set_option maxHeartbeats 4000000 in
theorem of_good (x : WV) (A0 : Option Addr) (c0 : Nat) (A1 : Option Addr) (c1 : Nat) (A2 : Option Addr) (c2 : Nat) (A3 : Option Addr) (c3 : Nat) (net hor : Int) (w : World) (hI : WIn w x A0 c0 A1 c1 A2 c2 A3 c3) (hmx : mayB x = true) (hn1 : -1 ≤ net) (hn2 : net < x.nm.length) (hh1 : 0 ≤ hor) (hh2 : hor ≤ 4611686018427387903) :
    Calls Tryd.prog 26 #[wvV x A0 c0 A1 c1 A2 c2 A3 c3, .int .i64 net, .int .i64 hor] w (OfP (tms x net hor x.li.length) hor w) := by
  have HI := Lib.hid hI
  have HM := Lib.hid ((may_iff x).1 hmx)
  have hck := fun W => fun h => check_any x A0 c0 A1 c1 A2 c2 A3 c3 W h
  rw [hmx] at hck
  have HCk := Lib.hid hck
  have HN := Lib.hid (And.intro hn1 (And.intro hn2 (And.intro hh1 hh2)))
  have l1 : decide (net < -1) = false := decide_eq_false (by omega)
  have l2 : decide ((x.nm.length : Int) ≤ net) = false := decide_eq_false (by omega)
  have l3 : decide (hor < 0) = false := decide_eq_false (by omega)
  have l4 : decide (4611686018427387903 < hor) = false := decide_eq_false (by omega)
  clear hck hI hmx hn1 hn2 hh1 hh2
  have hsf := store_float
  go_enter Tryd.func26, Tryd.ntmps26
  go_upto_region 1 with fail
  obtain ⟨W1, hW1⟩ : ∃ W, w.alloc (Obj.cells #[Value.slice A0 x.nm.length c0, Value.slice A1 x.wd.length c1, Value.slice A2 x.fi.length c2, Value.slice A3 x.li.length c3] 26) = W := ⟨_, rfl⟩
  rw [hW1]
  obtain ⟨hx, hb⟩ := bx_alloc w x A0 c0 A1 c1 A2 c2 A3 c3 hW1
  obtain ⟨W, hW⟩ : ∃ W, W1.alloc (.cells #[.int .i64 0, .float .f64 0, .float .f64 0, .float .f64 0, .float .f64 0, .float .f64 0] 44) = W := ⟨_, rfl⟩
  rw [hW]
  obtain ⟨hs, hb2⟩ := sx_alloc W1 0 0 0 0 0 0 44 hW
  rw [show W1.heap.size = w.heap.size + 1 by rw [← hW1]; simp] at hs
  have HB := Lib.hid (hb.trans (hb2.mono hb.size))
  have HX := Lib.hid (hx.below hb2)
  have HS := Lib.hid hs
  clear hb hb2 hx hs hW hW1
  have a0 := HX.out.k0
  have a1 := HX.out.k1
  have a2 := HX.out.k2
  have a3 := HX.out.k3
  go_wp2_with fail
  clear a0 a1 a2 a3
  refine (HCk.out W (HI.out.below HB.out)).mono ?_
  rintro e w1 ⟨rfl, hb⟩
  have HB1 := Lib.hid (HB.out.trans (hb.mono HB.out.size))
  have HX1 := Lib.hid (HX.out.below hb)
  have HS1 := Lib.hid (HS.out.below hb)
  clear hb
  have a0 := HX1.out.k0
  have a3 := HX1.out.k3
  go_upto_region 4 with (first | fail | (go_at_call 53; (with_reducible first | refine (infM_1 _).mono ?_ | refine (infM_2 _).mono ?_); rintro e w' ⟨rfl, rfl⟩))
  clear a0 a3
  obtain ⟨W2, hW2⟩ : ∃ W, w1.alloc (.cells #[.int .i64 0, .float .f64 0, .float .f64 0, .float .f64 0, .float .f64 9218868437227405312, .float .f64 18442240474082181120] 44) = W := ⟨_, rfl⟩
  rw [hW2]
  obtain ⟨hs2, hb2⟩ := sx_alloc w1 0 0 0 0 9218868437227405312 18442240474082181120 44 hW2
  have hsz2 : W2.heap.size = w1.heap.size + 1 := by rw [← hW2]; simp
  have HB2 := Lib.hid (HB1.out.trans (hb2.mono HB1.out.size))
  have HX2 := Lib.hid (HX1.out.below hb2)
  have HR2 := Lib.hid (HS1.out.below hb2)
  have HS2 := Lib.hid hs2
  have HZ2 := Lib.hid hsz2
  have HBs2 := Lib.hid hb2
  have hbd := HI.out.b3
  clear hW2 hs2 hb2 hsz2
  have a3 := HX2.out.k3
  go_upto_region 7 with fail
  clear a3
  go_loopw [9, 10, 49] (fun v9 v10 v49 wx => ∃ i : Nat, v49 = .int .i64 i ∧ i ≤ x.li.length ∧ v10 = .int .i64 ((tms x net hor i).getLastD 0) ∧ Hid (Below w1.heap.size w1 wx) ∧ Hid (Sx wx w1.heap.size (tms x net hor i).length 0 0 0 9218868437227405312 18442240474082181120) ∧ Hid (Kd.R kF 42 wx W2.heap.size (fun _ => True) v9 ((gaps (tms x net hor i)).map foi)) ∧ Hid (W2.heap.size ≤ wx.heap.size)) (fun _ _ v49 _ => x.li.length - (intOf v49).toNat)
  case atStart => exact ⟨0, rfl, Nat.zero_le _, rfl, HBs2, HS2, Lib.hid (Kd.R_nil _ _ _ _ _), Lib.hid (Nat.le_refl _)⟩
  case round =>
    obtain ⟨i, rfl, hi, rfl, HBx, HSx, HRx, HZx⟩ := hrel
    by_cases hlt : i < x.li.length
    · have hI2 := HI.out.below (HB1.out.trans (HBx.out.mono HB1.out.size))
      obtain ⟨b3, o3, hA3, hs30, hs31, hs32, hb3⟩ := chg_cell hI2.h3 hI2.a3 i hlt
      subst hA3
      have hsu := tms_succ x net hor hlt
      have hln := tms_length x net hor i
      have hla := tms_last (net := net) (hor := hor) (i := i) HM.out
      have hp := HM.out.place hlt
      rw [show x.li.getD i z59 = cAt x i from rfl] at hs30 hs31 hs32
      generalize cAt x i = c at hs30 hs31 hs32 hsu hp
      obtain ⟨tm, nt, vl⟩ := c
      simp only at hs30 hs31 hs32 hsu hp
      generalize hnx : tms x net hor (i + 1) = nx at *
      generalize tms x net hor i = nw at *
      generalize hlaE : nw.getLastD 0 = la at *
      have HLaE := Lib.hid hlaE
      clear hlaE
      have HNx := Lib.hid hnx
      have HLn := Lib.hid hln
      have HLa := Lib.hid hla
      have HP := Lib.hid hp
      have HSu := Lib.hid hsu
      have HLt := Lib.hid hlt
      clear hI2 hb3 hnx hln hla hp hsu
      go_upto_region 9 with fail
      obtain ⟨W4, hW4⟩ : ∃ W, wr.alloc (Obj.cells #[Value.int IntKind.i64 tm, Value.int IntKind.i64 nt, Value.string vl] 59) = W := ⟨_, rfl⟩
      rw [hW4]
      have m0 : W4.cell? ⟨wr.heap.size, 0, none⟩ = some (.int .i64 tm) := by rw [← hW4]; simp [go_sem]
      have m1 : W4.cell? ⟨wr.heap.size, 1, none⟩ = some (.int .i64 nt) := by rw [← hW4]; simp [go_sem]
      have hb4 : Below wr.heap.size wr W4 := by rw [← hW4]; exact below_alloc (Below.refl _ _) _
      have hz4 : wr.heap.size < W4.heap.size := by rw [← hW4]; simp
      have HB4 := Lib.hid (HBx.out.trans (hb4.mono HBx.out.size))
      have HS4 := Lib.hid (HSx.out.below hb4)
      have HR4 := Lib.hid (Kd.R_below HRx.out hb4)
      have HZ4 := Lib.hid (Nat.le_trans HZx.out hb4.size)
      have HM4 := Lib.hid (And.intro m0 hz4)
      have HWr := Lib.hid hb4.size
      clear hW4 hb4 hz4 hlt
      have ways : decide (hor < tm) = true ∨ (decide (hor < tm) = false ∧ decide (0 ≤ net) = true ∧ decide (nt = net) = false) ∨ (decide (hor < tm) = false ∧ (decide (0 ≤ net) = false ∨ (decide (0 ≤ net) = true ∧ decide (nt = net) = true))) := by
        by_cases h1 : hor < tm
        · exact Or.inl (decide_eq_true h1)
        · right
          by_cases h2 : 0 ≤ net
          · by_cases h3 : nt = net
            · exact Or.inr ⟨decide_eq_false h1, Or.inr ⟨decide_eq_true h2, decide_eq_true h3⟩⟩
            · exact Or.inl ⟨decide_eq_false h1, decide_eq_true h2, decide_eq_false h3⟩
          · exact Or.inr ⟨decide_eq_false h1, Or.inl (decide_eq_false h2)⟩
      rcases ways with h1 | ⟨h1, h2, h3⟩ | ⟨h1, h23⟩
      · have hs := HSu.out.trans (if_neg (cnt_off (Or.inl (of_decide_eq_true h1))))
        have HE := Lib.hid hs
        clear hs
        go_wp2_with fail
        refine ⟨⟨i + 1, by simp, HLt.out, by rw [HNx.out, HE.out, HLaE.out], HB4, by rw [HNx.out, HE.out]; exact HS4, by rw [HNx.out, HE.out]; exact HR4, HZ4⟩, by have := HLt.out; simp [intOf]; omega⟩
      · have hs := HSu.out.trans (if_neg (cnt_off (Or.inr ⟨of_decide_eq_true h2, of_decide_eq_false h3⟩)))
        have HE := Lib.hid hs
        clear hs
        have h4 : (nt == net) = false := by have := of_decide_eq_false h3; simpa using this
        have h5 : (nt != net) = true := by have := of_decide_eq_false h3; simpa using this
        go_wp2_with fail
        refine ⟨⟨i + 1, by simp, HLt.out, by rw [HNx.out, HE.out, HLaE.out], HB4, by rw [HNx.out, HE.out]; exact HS4, by rw [HNx.out, HE.out]; exact HR4, HZ4⟩, by have := HLt.out; simp [intOf]; omega⟩
      · have hle : tm ≤ hor := by have := of_decide_eq_false h1; omega
        have hor2 : net < 0 ∨ nt = net := by
          rcases h23 with h | ⟨h, h3⟩
          · left; have := of_decide_eq_false h; omega
          · exact Or.inr (of_decide_eq_true h3)
        have hs := HSu.out.trans (if_pos (cnt_on hle hor2))
        clear hle hor2
        have HE := Lib.hid hs
        have hln := HLn.out
        have hp := HP.out
        have hla := HLa.out
        have hlt := HLt.out
        clear hs
        have q0 := HS4.out.k0
        have f0 := HS4.out.f0
        rcases h23 with h2 | ⟨h2, h3⟩
        all_goals
          try have h4 : (nt == net) = true := by have := of_decide_eq_true h3; simpa using this
          try have h5 : (nt != net) = false := by have := of_decide_eq_true h3; simpa using this
          go_upto_region 11 with fail
          obtain ⟨W5, hW5⟩ : ∃ W, W4.setCell ⟨w1.heap.size, 0, none⟩ (.int .i64 ((nw.length : Int) + 1)) = W := ⟨_, rfl⟩
          rw [hW5]
          have HS5 : Hid (Sx W5 w1.heap.size ((nw.length : Int) + 1) 0 0 0 9218868437227405312 18442240474082181120) := Lib.hid (by rw [← hW5]; exact HS4.out.put0 _)
          have HR5 : Hid (Kd.R kF 42 W5 W2.heap.size (fun _ => True) u9 ((gaps nw).map foi)) := Lib.hid (by rw [← hW5]; exact R_off HR4.out (by have := HZ2.out; omega))
          have HB5 : Hid (Below w1.heap.size w1 W5) := Lib.hid (by rw [← hW5]; exact below_set2 (Nat.le_refl _) HB4.out)
          have HZ5 : Hid (W2.heap.size ≤ W5.heap.size) := Lib.hid (by rw [← hW5]; have := HZ4.out; simpa using this)
          have m5 : W5.cell? ⟨wr.heap.size, 0, none⟩ = some (.int .i64 tm) := by
            have hne : w1.heap.size ≠ wr.heap.size := Nat.ne_of_lt HSx.out.s
            rw [← hW5]
            simp [go_sem, m0, hne, hne.symm]
          clear hW5 q0 f0 m0 m1
          have q5 := HS5.out.k0
          by_cases he : nw = []
          · subst he
            go_wp2_with fail
            refine ⟨⟨i + 1, by simp, hlt, by rw [HNx.out, HE.out]; rfl, HB5, by rw [HNx.out, HE.out]; exact HS5, by rw [HNx.out, HE.out]; exact HR5, HZ5⟩, by simp [intOf]; omega⟩
          · have hpos : 1 ≤ nw.length := by
              cases nw with
              | nil => exact absurd rfl he
              | cons a t => simp
            have hgt : decide (1 < (nw.length : Int) + 1) = true := decide_eq_true (by omega)
            have hgp := gaps_snoc tm nw he
            have hgl := gaps_length nw
            have HG := Lib.hid hgp
            have HGl := Lib.hid hgl
            have HEn := Lib.hid he
            clear hgp hgl he
            obtain ⟨G, hG⟩ : ∃ G, (gaps nw).map foi = G := ⟨_, rfl⟩
            rw [hG] at HR5
            have hGl : G.length = nw.length - 1 := by rw [← hG, List.length_map]; exact HGl.out
            have HGm := Lib.hid hG
            have HGn := Lib.hid hGl
            clear hG hGl
            obtain ⟨Av, cv, rfl⟩ := Kd.R_slice HR5.out
            go_upto_region 12 with fail
            go_wp2_with (first | ((with_reducible refine gate_builtin (b := .append) (xs := #[.tmp 74, .tmp 80]) rfl ?_); at_builtin; refine Kd.R_append kF (w0 := W5) W2.heap.size rfl (.tmp 74) (.tmp 80) 77 42 (.float .f64 0) 8 rfl und77 info42 rfl (by decide) (by decide) (.slice Av G.length cv) G (floatOfInt .f64 (tm - la)) [.float .f64 (floatOfInt .f64 (tm - la))] (fun _ => True) (fun _ => False) rfl rfl ?aP (fun _ hk => hk.elim) (fun _ _ => trivial) ?aO ?aB ?aS ?aL ?_; (case aP => exact kF_mkM _ _ _ _); (case aO => exact HR5.out); (case aB => exact Below.refl _ _); (case aS => exact HZ5.out); (case aL => have := HGn.out; have := HLn.out; have := HLt.out; omega); intro v1 w9 ho hb hg hat; have HO := Lib.hid ho; have HBo := Lib.hid hb; have HGr := Lib.hid hg; have m9 : w9.cell? ⟨wr.heap.size, 0, none⟩ = some (.int .i64 tm) := cell_grown hg m5 (fun e => absurd (Kd.R_lt HRx.out _ e.symm) (Nat.lt_irrefl _)); have HBn : Hid (Below w1.heap.size w1 w9) := Lib.hid (HB5.out.trans (hb.mono (Nat.le_trans (Nat.le_succ _) (Nat.le_of_eq HZ2.out.symm)))); have HSn := Lib.hid (HS5.out.low (Nat.lt_of_lt_of_eq (Nat.lt_succ_self _) HZ2.out.symm) hb); have HZn : Hid (W2.heap.size ≤ w9.heap.size) := Lib.hid (Nat.le_trans HZ5.out hb.size); clear ho hb hg hat m5))
            refine ⟨⟨i + 1, by simp, hlt, by rw [HNx.out, HE.out]; simp, HBn, by rw [HNx.out, HE.out]; simpa using HSn, by rw [HNx.out, HE.out, HG.out, List.map_append, HGm.out, HLaE.out]; exact HO, HZn⟩, by simp [intOf]; omega⟩
    · obtain rfl : i = x.li.length := by omega
      have hTp := tms_gaps HM.out net hor x.li.length
      have hsp := HS1.out
      have hTl := tms_length x net hor x.li.length
      generalize tms x net hor x.li.length = T at *
      generalize T.getLastD 0 = la at *
      have HTl := Lib.hid hTl
      obtain ⟨G, hG⟩ : ∃ G, (gaps T).map foi = G := ⟨_, rfl⟩
      rw [hG] at HRx
      have hGl : G.length = (gaps T).length := by rw [← hG, List.length_map]
      have HTp := Lib.hid hTp
      have HG := Lib.hid hG
      have HGl := Lib.hid hGl
      clear hTp hG hGl hi hlt hTl
      have HSp := Lib.hid hsp
      clear hsp
      obtain ⟨A, cv, rfl⟩ := Kd.R_slice HRx.out
      rename World => W6
      go_wp2_with fail
      go_loopw [13, 87] (fun v13 v87 wx => ∃ (k s : Nat), v87 = .int .i64 k ∧ k ≤ G.length ∧ v13 = .float .f64 s ∧ Hid (SumR (gaps T) k s) ∧ Hid (Below w1.heap.size w1 wx) ∧ Hid (Sx wx w1.heap.size T.length 0 0 0 (leastF (gaps T) k) (mostF (gaps T) k)) ∧ Hid (Kd.R kF 42 wx W2.heap.size (fun _ => True) (.slice A G.length cv) G)) (fun _ v87 _ => G.length - (intOf v87).toNat)
      case atStart => exact ⟨0, 0, rfl, Nat.zero_le _, rfl, Lib.hid rfl, HBx, HSx, HRx⟩
      case round =>
        obtain ⟨k, s, rfl, hk, rfl, HSum, HBy, HSy, HRy⟩ := hrel
        by_cases hlt : k < G.length
        · have hgk : k < (gaps T).length := by rw [← HGl.out]; exact hlt
          have hfp := foi_at_pos HTp.out k
          have hlp := pos_least (gaps T) k HTp.out
          have hmp := pos_most (gaps T) k HTp.out
          have hgd : G.getD k 0 = foi ((gaps T).getD k 0) := by rw [← HG.out]; exact getD_foi _ hgk
          obtain ⟨g, cap, hA, hg0, hg1, -⟩ := Kd.R_form HRy.out (by omega)
          cases hA
          have hrc := (Kd.R_cell (enc := Value.float .f64) (h1 := fun _ => rfl) 0 HRy.out (k : Int) (by omega) (by omega)).1
          rw [Int.toNat_natCast, show rdOf 0 G (k : Int) = foi ((gaps T).getD k 0) from hgd] at hrc
          have q4 := HSy.out.k4
          have q5 := HSy.out.k5
          have f4 := HSy.out.f4
          have f5 := HSy.out.f5
          have hsz := HSy.out.s
          have hl2 : leastF (gaps T) (k + 1) = minF (leastF (gaps T) k) (foi ((gaps T).getD k 0)) := rfl
          have hm2 : mostF (gaps T) (k + 1) = maxF (mostF (gaps T) k) (foi ((gaps T).getD k 0)) := rfl
          have hsum : ∀ s2, FR .add s (foi ((gaps T).getD k 0)) s2 → SumR (gaps T) (k + 1) s2 := fun s2 h => ⟨s, HSum.out, h⟩
          have hkb : (k : Int) < 4398046511104 := by have := HTl.out; have := HGl.out; have := gaps_length T; omega
          generalize foi ((gaps T).getD k 0) = q at *
          generalize leastF (gaps T) k = lo at *
          generalize mostF (gaps T) k = hi at *
          obtain ⟨s2, m2, hadd, hfr⟩ := run_fop (P := Tryd.prog) (op := .add) rfl 42 s q wr
          have HSum2 := Lib.hid (hsum s2 hfr)
          have hmn := fun (W : World) => min_step (P := Tryd.prog) W #[42, 42] 42 hlp hfp
          have hmx := fun (W : World) => max_step (P := Tryd.prog) W #[42, 42] 42 hmp hfp
          have HL2 := Lib.hid hl2
          have HM2 := Lib.hid hm2
          clear hsum hfr hl2 hm2 hlp hmp hfp hgd hgk
          go_wp2_with fail
          have hz : w1.heap.size < W2.heap.size := by rw [HZ2.out]; exact Nat.lt_succ_self _
          refine ⟨⟨k + 1, s2, by simp, hlt, rfl, HSum2, Lib.hid (below_set2 (Nat.le_refl _) (below_set2 (Nat.le_refl _) (pw_below_drewN HBy.out _))), Lib.hid (by rw [HL2.out, HM2.out]; exact ((HSy.out.drewN _).put4 _).put5 _), Lib.hid (R_off (R_off (Kd.R_drewN HRy.out _) hz) hz)⟩, by simp [intOf]; omega⟩
        · obtain rfl : k = G.length := by omega
          have hsl : SumR (gaps T) (gaps T).length s := by rw [← HGl.out]; exact HSum.out
          rw [HGl.out] at HSy
          obtain ⟨lo, hlo⟩ : ∃ lo, leastF (gaps T) (gaps T).length = lo := ⟨_, rfl⟩
          obtain ⟨hi, hhi⟩ : ∃ hi, mostF (gaps T) (gaps T).length = hi := ⟨_, rfl⟩
          rw [hlo, hhi] at HSy
          have HSl := Lib.hid hsl
          have HLo := Lib.hid hlo
          have HHi := Lib.hid hhi
          clear hsl hlo hhi hk hlt HSum
          have q0 := HSy.out.k0
          have q1 := HSy.out.k1
          have f1 := HSy.out.f1
          go_wp2_with fail
          refine (ratio_any (floatOfInt .f64 T.length) (floatOfInt .f64 hor) _).mono ?_
          rintro e w' ⟨vr, m1, rfl, rfl, hr1⟩
          have HRate := Lib.hid hr1
          clear hr1
          go_upto_region 23 with fail
          obtain ⟨W7, hW7⟩ : ∃ W, (wr.drewN m1).setCell ⟨w1.heap.size, 1, none⟩ (.float .f64 vr) = W := ⟨_, rfl⟩
          rw [hW7]
          have hz : w1.heap.size < W2.heap.size := by rw [HZ2.out]; exact Nat.lt_succ_self _
          have HS7 : Hid (Sx W7 w1.heap.size T.length vr 0 0 lo hi) := Lib.hid (by rw [← hW7]; exact (HSy.out.drewN _).put1 _)
          have HB7 : Hid (Below w1.heap.size w1 W7) := Lib.hid (by rw [← hW7]; exact below_set2 (Nat.le_refl _) (pw_below_drewN HBy.out _))
          have HR7 : Hid (Kd.R kF 42 W7 W2.heap.size (fun _ => True) (.slice A G.length cv) G) := Lib.hid (by rw [← hW7]; exact R_off (Kd.R_drewN HRy.out _) hz)
          clear hW7 q0 q1 f1
          have q2 := HS7.out.k2
          have f2 := HS7.out.f2
          go_wp2_with fail
          refine (ratio_any s (floatOfInt .f64 G.length) _).mono ?_
          rintro e w' ⟨vm, m2, rfl, rfl, hr2⟩
          have HMean := Lib.hid hr2
          clear hr2
          go_upto_region 24 with fail
          obtain ⟨W8, hW8⟩ : ∃ W, (W7.drewN m2).setCell ⟨w1.heap.size, 2, none⟩ (.float .f64 vm) = W := ⟨_, rfl⟩
          rw [hW8]
          have HS8 : Hid (Sx W8 w1.heap.size T.length vr vm 0 lo hi) := Lib.hid (by rw [← hW8]; exact (HS7.out.drewN _).put2 _)
          have HB8 : Hid (Below w1.heap.size w1 W8) := Lib.hid (by rw [← hW8]; exact below_set2 (Nat.le_refl _) (pw_below_drewN HB7.out _))
          have HR8 : Hid (Kd.R kF 42 W8 W2.heap.size (fun _ => True) (.slice A G.length cv) G) := Lib.hid (by rw [← hW8]; exact R_off (Kd.R_drewN HR7.out _) hz)
          clear hW8 q2 f2 hz
          go_wp2_with fail
          go_loopw [14, 120] (fun v14 v120 wx => ∃ (k q : Nat), v120 = .int .i64 k ∧ k ≤ G.length ∧ v14 = .float .f64 q ∧ Hid (SqR (gaps T) vm k q) ∧ Hid (Below w1.heap.size w1 wx) ∧ Hid (Sx wx w1.heap.size T.length vr vm 0 lo hi) ∧ Hid (Kd.R kF 42 wx W2.heap.size (fun _ => True) (.slice A G.length cv) G)) (fun _ v120 _ => G.length - (intOf v120).toNat)
          case atStart => exact ⟨0, 0, rfl, Nat.zero_le _, rfl, Lib.hid rfl, HB8, HS8, HR8⟩
          case round =>
            obtain ⟨k, sq, rfl, hk, rfl, HSq, HBz, HSz, HRz⟩ := hrel
            by_cases hlt : k < G.length
            · have hgk : k < (gaps T).length := by rw [← HGl.out]; exact hlt
              have hgd : G.getD k 0 = foi ((gaps T).getD k 0) := by rw [← HG.out]; exact getD_foi _ hgk
              obtain ⟨g, cap, hA, hg0, hg1, -⟩ := Kd.R_form HRz.out (by omega)
              cases hA
              have hrc := (Kd.R_cell (enc := Value.float .f64) (h1 := fun _ => rfl) 0 HRz.out (k : Int) (by omega) (by omega)).1
              rw [Int.toNat_natCast, show rdOf 0 G (k : Int) = foi ((gaps T).getD k 0) from hgd] at hrc
              have q2 := HSz.out.k2
              have hkb : (k : Int) < 4398046511104 := by have := HTl.out; have := HGl.out; have := gaps_length T; omega
              have hsq : ∀ d q s2, FR .sub (foi ((gaps T).getD k 0)) vm d → FR .mul d d q → FR .add sq q s2 → SqR (gaps T) vm (k + 1) s2 := fun d q s2 h1 h2 h3 => ⟨sq, d, q, HSq.out, h1, h2, h3⟩
              generalize foi ((gaps T).getD k 0) = q at *
              obtain ⟨d, n1, g1, r1⟩ := run_fop (P := Tryd.prog) (op := .sub) rfl 42 q vm wr
              obtain ⟨d2, n2, g2, r2⟩ := run_fop (P := Tryd.prog) (op := .mul) rfl 42 d d (wr.drewN n1)
              obtain ⟨s2, n3, g3, r3⟩ := run_fop (P := Tryd.prog) (op := .add) rfl 42 sq d2 (wr.drewN (n1 + n2))
              have HSq2 := Lib.hid (hsq d d2 s2 r1 r2 r3)
              clear hsq r1 r2 r3 hgd hgk
              go_wp2_with fail
              refine ⟨⟨k + 1, s2, by simp, hlt, rfl, HSq2, Lib.hid (pw_below_drewN HBz.out _), Lib.hid (HSz.out.drewN _), Lib.hid (Kd.R_drewN HRz.out _)⟩, by simp [intOf]; omega⟩
            · obtain rfl : k = G.length := by omega
              have hsl : SqR (gaps T) vm (gaps T).length sq := by rw [← HGl.out]; exact HSq.out
              have HSq3 := Lib.hid hsl
              clear hsl hk hlt HSq
              have q3 := HSz.out.k3
              have f3 := HSz.out.f3
              go_wp2_with fail
              refine (ratio_any sq (floatOfInt .f64 G.length) _).mono ?_
              rintro e w' ⟨vs, m3, rfl, rfl, hr3⟩
              have HSpread := Lib.hid hr3
              clear hr3
              go_upto_region 31 with fail
              obtain ⟨W9, hW9⟩ : ∃ W, (wr.drewN m3).setCell ⟨w1.heap.size, 3, none⟩ (.float .f64 vs) = W := ⟨_, rfl⟩
              rw [hW9]
              have HS9 : Hid (Sx W9 w1.heap.size T.length vr vm vs lo hi) := Lib.hid (by rw [← hW9]; exact (HSz.out.drewN _).put3 _)
              have HB9 : Hid (Below w1.heap.size w1 W9) := Lib.hid (by rw [← hW9]; exact below_set2 (Nat.le_refl _) (pw_below_drewN HBz.out _))
              clear hW9 q3 f3
              have HP9 := Lib.hid (HSp.out.low HSp.out.s HB9.out)
              have HF9 := Lib.hid (HB1.out.trans (HB9.out.mono HB1.out.size))
              obtain ⟨k0, k1, k2, k3, k4, k5, -, -, -, -, -, -, hsz⟩ := HS9.out
              obtain ⟨p0, p1, p2, p3, p4, p5, f0, f1, f2, f3, f4, f5, hsz2⟩ := HP9.out
              go_wp2_with fail
              refine bodyPost_ret (v := .tuple #[statsV T.length vr vm vs lo hi, .int .i64 0]) (by simp [results, Tryd.results26, go_sem, p0, p1, p2, p3, p4, p5, hsz2]) rfl ⟨_, vr, vm, vs, lo, hi, rfl, ?_, ⟨rfl, HRate.out, ⟨s, HSl.out, by have := HMean.out; rw [HGl.out] at this; exact this⟩, ⟨sq, HSq3.out, by have := HSpread.out; rw [HGl.out] at this; exact this⟩, HLo.out.symm, HHi.out.symm⟩⟩
              repeat (with_reducible first | exact HF9.out | (refine below_set2 ?_ ?_; (· omega)))
end Go.Proofs.YtcbkgammlfjjoaaDoor
namespace Go.Proofs.YtcbkgammlfjjoaaDoor
set_option linter.unusedVariables false
set_option linter.unusedSimpArgs false
open Go.RowKit Go.Proofs.YtcbkgammlfjjoaaDoorW.PrintWords Go.Proofs.YtcbkgammlfjjoaaDoorW.PrintLast Go.Proofs.YtcbkgammlfjjoaaDoorW.PrintMore

theorem kI_mkM (w : World) (base : Nat) (ok : Nat → Prop) (p : Int) : (Kd.int .i64).M w base ok p [.int .i64 p] := rfl
theorem gaps_le (M : Int) : ∀ l : List Int, (∀ t ∈ l, 0 ≤ t ∧ t ≤ M) → ∀ q ∈ gaps l, q ≤ M
  | [], _, q, hq => by cases hq
  | [_], _, q, hq => by cases hq
  | a :: b :: t, h, q, hq => by
    rcases List.mem_cons.1 hq with rfl | hq
    · have h1 := h a List.mem_cons_self
      have h2 := h b (List.mem_cons_of_mem _ List.mem_cons_self)
      omega
    · exact gaps_le M (b :: t) (fun t ht => h t (List.mem_cons_of_mem _ ht)) q hq
theorem getD_mem {l : List Int} {k : Nat} (hk : k < l.length) : l.getD k 0 ∈ l := by
  rw [List.getD_eq_getElem?_getD, List.getElem?_eq_getElem hk]
  exact List.getElem_mem hk
def OfRP (T : List Int) (hor : Int) (w : World) (e : Ending) (w' : World) : Prop := ∃ n r m s a b, e = .returned (statsV n r m s a b) ∧ Below w.heap.size w w' ∧ OfR T hor n r m s a b
set_option maxRecDepth 100000 in
set_option maxHeartbeats 4000000 in
theorem ofR_good (x : WV) (A0 : Option Addr) (c0 : Nat) (A1 : Option Addr) (c1 : Nat) (A2 : Option Addr) (c2 : Nat) (A3 : Option Addr) (c3 : Nat) (net hor : Int) (w : World) (hI : WIn w x A0 c0 A1 c1 A2 c2 A3 c3) (hM : May x) :
    Calls Tryd.prog 28 #[wvV x A0 c0 A1 c1 A2 c2 A3 c3, .int .i64 net, .int .i64 hor] w (OfRP (tms x net hor x.li.length) hor w) := by
  have HI := Lib.hid hI
  have HM := Lib.hid hM
  clear hI hM
  have hsf := store_float
  go_enter Tryd.func28, Tryd.ntmps28
  go_upto_region 1 with fail
  obtain ⟨W1, hW1⟩ : ∃ W, w.alloc (Obj.cells #[Value.slice A0 x.nm.length c0, Value.slice A1 x.wd.length c1, Value.slice A2 x.fi.length c2, Value.slice A3 x.li.length c3] 26) = W := ⟨_, rfl⟩
  rw [hW1]
  obtain ⟨hx, hb⟩ := bx_alloc w x A0 c0 A1 c1 A2 c2 A3 c3 hW1
  obtain ⟨w1, hW⟩ : ∃ W, W1.alloc (.cells #[.int .i64 0, .float .f64 0, .float .f64 0, .float .f64 0, .float .f64 0, .float .f64 0] 47) = W := ⟨_, rfl⟩
  rw [hW]
  obtain ⟨hs, hb2⟩ := sx_alloc W1 0 0 0 0 0 0 47 hW
  rw [show W1.heap.size = w.heap.size + 1 by rw [← hW1]; simp] at hs
  have HB1 := Lib.hid (hb.trans (hb2.mono hb.size))
  have HX1 := Lib.hid (hx.below hb2)
  have HS1 := Lib.hid hs
  clear hb hb2 hx hs hW hW1
  go_upto_region 2 with (first | fail | (go_at_call 54; (with_reducible first | refine (inf_false _).mono ?_ | refine (inf_true _).mono ?_); rintro e w' ⟨rfl, rfl⟩))
  obtain ⟨W2, hW2⟩ : ∃ W, w1.alloc (.cells #[.int .i64 0, .float .f64 0, .float .f64 0, .float .f64 0, .float .f64 9218868437227405312, .float .f64 18442240474082181120] 47) = W := ⟨_, rfl⟩
  rw [hW2]
  obtain ⟨hs2, hb2⟩ := sx_alloc w1 0 0 0 0 9218868437227405312 18442240474082181120 47 hW2
  have hsz2 : W2.heap.size = w1.heap.size + 1 := by rw [← hW2]; simp
  have HB2 := Lib.hid (HB1.out.trans (hb2.mono HB1.out.size))
  have HX2 := Lib.hid (HX1.out.below hb2)
  have HR2 := Lib.hid (HS1.out.below hb2)
  have HS2 := Lib.hid hs2
  have HZ2 := Lib.hid hsz2
  have HBs2 := Lib.hid hb2
  have hbd := HI.out.b3
  clear hW2 hs2 hb2 hsz2
  go_upto_region 4 with fail
  go_loopw [8, 9] (fun v8 v9 wx => ∃ i : Nat, v9 = .int .i64 i ∧ i ≤ x.li.length ∧ Hid (Below W2.heap.size W2 wx) ∧ Hid (Kd.R (Kd.int .i64) 3 wx W2.heap.size (fun _ => True) v8 (tms x net hor i))) (fun _ v9 _ => x.li.length - (intOf v9).toNat)
  case atStart => exact ⟨0, rfl, Nat.zero_le _, Lib.hid (Below.refl _ _), Lib.hid (Kd.R_nil _ _ _ _ _)⟩
  case round =>
    obtain ⟨i, rfl, hi, HBx, HRx⟩ := hrel
    have hXr := HX2.out.below HBx.out
    have a3 := hXr.k3
    clear hXr
    by_cases hlt : i < x.li.length
    · have hI2 := HI.out.below (HB2.out.trans (HBx.out.mono HB2.out.size))
      obtain ⟨b3, o3, hA3, hs30, hs31, hs32, hb3⟩ := chg_cell hI2.h3 hI2.a3 i hlt
      subst hA3
      have hsu := tms_succ x net hor hlt
      have hln := tms_length x net hor i
      rw [show x.li.getD i z59 = cAt x i from rfl] at hs30 hs31 hs32
      generalize cAt x i = c at hs30 hs31 hs32 hsu
      obtain ⟨tm, nt, vl⟩ := c
      simp only at hs30 hs31 hs32 hsu
      generalize hnx : tms x net hor (i + 1) = nx at *
      generalize tms x net hor i = nw at *
      have HNx := Lib.hid hnx
      have HLn := Lib.hid hln
      have HSu := Lib.hid hsu
      have HLt := Lib.hid hlt
      clear hI2 hb3 hnx hln hsu
      go_upto_region 7 with fail
      obtain ⟨W4, hW4⟩ : ∃ W, wr.alloc (Obj.cells #[Value.int IntKind.i64 tm, Value.int IntKind.i64 nt, Value.string vl] 59) = W := ⟨_, rfl⟩
      rw [hW4]
      have m0 : W4.cell? ⟨wr.heap.size, 0, none⟩ = some (.int .i64 tm) := by rw [← hW4]; simp [go_sem]
      have m1 : W4.cell? ⟨wr.heap.size, 1, none⟩ = some (.int .i64 nt) := by rw [← hW4]; simp [go_sem]
      have hb4 : Below wr.heap.size wr W4 := by rw [← hW4]; exact below_alloc (Below.refl _ _) _
      have HB4 := Lib.hid (HBx.out.trans (hb4.mono HBx.out.size))
      have HR4 := Lib.hid (Kd.R_below HRx.out hb4)
      clear hW4 hb4 hlt a3
      have ways : (decide (tm ≤ hor) = false ∨ (decide (tm ≤ hor) = true ∧ decide (net < 0) = false ∧ decide (nt = net) = false)) ∨ (decide (tm ≤ hor) = true ∧ (decide (net < 0) = true ∨ (decide (net < 0) = false ∧ decide (nt = net) = true))) := by
        by_cases h1 : tm ≤ hor
        · by_cases h2 : net < 0
          · exact Or.inr ⟨decide_eq_true h1, Or.inl (decide_eq_true h2)⟩
          · by_cases h3 : nt = net
            · exact Or.inr ⟨decide_eq_true h1, Or.inr ⟨decide_eq_false h2, decide_eq_true h3⟩⟩
            · exact Or.inl (Or.inr ⟨decide_eq_true h1, decide_eq_false h2, decide_eq_false h3⟩)
        · exact Or.inl (Or.inl (decide_eq_false h1))
      rcases ways with hw | ⟨h1, h23⟩
      · have hs : nx = nw := by
          refine HSu.out.trans (if_neg (cnt_off ?_))
          rcases hw with h1 | ⟨h1, h2, h3⟩
          · left; have := of_decide_eq_false h1; show hor < tm; omega
          · right; exact ⟨by have := of_decide_eq_false h2; omega, of_decide_eq_false h3⟩
        have HE := Lib.hid hs
        clear hs
        rcases hw with h1 | ⟨h1, h2, h3⟩
        all_goals
          try have h4 : (nt == net) = false := by have := of_decide_eq_false h3; simpa using this
          go_wp2_with fail
          refine ⟨⟨i + 1, by simp, HLt.out, HB4, by rw [HNx.out, HE.out]; exact HR4⟩, by have := HLt.out; simp [intOf]; omega⟩
      · have hs : nx = nw ++ [tm] := by
          refine HSu.out.trans (if_pos (cnt_on (of_decide_eq_true h1) ?_))
          rcases h23 with h2 | ⟨h2, h3⟩
          · exact Or.inl (of_decide_eq_true h2)
          · exact Or.inr (of_decide_eq_true h3)
        have HE := Lib.hid hs
        clear hs
        obtain ⟨Av, cv, rfl⟩ := Kd.R_slice HR4.out
        rcases h23 with h2 | ⟨h2, h3⟩
        all_goals
          try have h4 : (nt == net) = true := by have := of_decide_eq_true h3; simpa using this
          go_wp2_with (first | ((with_reducible refine gate_builtin (b := .append) (xs := #[.tmp 48, .tmp 51]) rfl ?_); at_builtin; refine Kd.R_append (Kd.int .i64) (w0 := W2) W2.heap.size rfl (.tmp 48) (.tmp 51) 23 3 (.int .i64 0) 8 rfl Tryd.underlying23 info3 rfl (by decide) (by decide) (.slice Av nw.length cv) nw tm [.int .i64 tm] (fun _ => True) (fun _ => False) rfl rfl ?aP (fun _ hk => hk.elim) (fun _ _ => trivial) ?aO ?aB ?aS ?aL ?_; (case aP => exact kI_mkM _ _ _ _); (case aO => exact HR4.out); (case aB => exact HB4.out); (case aS => exact HB4.out.size); (case aL => have := HLn.out; have := HLt.out; omega); intro v1 w9 ho hb hg hat; have HO := Lib.hid ho; have HBo := Lib.hid hb; clear ho hb hg hat))
          refine ⟨⟨i + 1, by simp, HLt.out, Lib.hid HBo.out, Lib.hid (by rw [HNx.out, HE.out]; exact HO.out)⟩, by have := HLt.out; simp [intOf]; omega⟩
    · obtain rfl : i = x.li.length := by omega
      have hTm : ∀ q ∈ tms x net hor x.li.length, 0 ≤ q ∧ q ≤ 4611686018427387903 := fun q hq => tms_mem HM.out hq
      have hTp := tms_gaps HM.out net hor x.li.length
      have hTg := gaps_le 4611686018427387903 _ hTm
      have hTl := tms_length x net hor x.li.length
      generalize tms x net hor x.li.length = T at *
      have HTm := Lib.hid hTm
      have HTp := Lib.hid hTp
      have HTg := Lib.hid hTg
      have HTl := Lib.hid hTl
      obtain ⟨A, cv, rfl⟩ := Kd.R_slice HRx.out
      have hS := HS2.out.below HBx.out
      have q0 := hS.k0
      have f0 := hS.f0
      have HSx := Lib.hid hS
      clear hTm hTp hTg hTl hS hi hlt
      go_upto_region 10 with fail
      obtain ⟨W7, hW7⟩ : ∃ W, wr.setCell ⟨w1.heap.size, 0, none⟩ (.int .i64 T.length) = W := ⟨_, rfl⟩
      rw [hW7]
      have hz : w1.heap.size < W2.heap.size := by rw [HZ2.out]; exact Nat.lt_succ_self _
      have HS7 : Hid (Sx W7 w1.heap.size T.length 0 0 0 9218868437227405312 18442240474082181120) := Lib.hid (by rw [← hW7]; exact HSx.out.put0 _)
      have HB7 : Hid (Below w1.heap.size w1 W7) := Lib.hid (by rw [← hW7]; exact below_set2 (Nat.le_refl _) (HBs2.out.trans (HBx.out.mono HBs2.out.size)))
      have HR7 : Hid (Kd.R (Kd.int .i64) 3 W7 W2.heap.size (fun _ => True) (.slice A T.length cv) T) := Lib.hid (by rw [← hW7]; exact R_off HRx.out hz)
      clear hW7 q0 f0 hz a3
      go_wp2_with fail
      go_loopw [11, 12, 13] (fun v11 v12 v13 wx => ∃ (k s : Nat), v13 = .int .i64 (k + 1) ∧ k ≤ (gaps T).length ∧ v11 = .float .f64 (floatOfInt .f64 (k : Int)) ∧ v12 = .float .f64 s ∧ Hid (SumR (gaps T) k s) ∧ Hid (Below w1.heap.size w1 wx) ∧ Hid (Sx wx w1.heap.size T.length 0 0 0 (leastF (gaps T) k) (mostF (gaps T) k)) ∧ Hid (Kd.R (Kd.int .i64) 3 wx W2.heap.size (fun _ => True) (.slice A T.length cv) T)) (fun _ _ v13 _ => (gaps T).length + 1 - (intOf v13).toNat)
      case atStart => exact ⟨0, 0, rfl, Nat.zero_le _, by rw [show floatOfInt .f64 ((0 : Nat) : Int) = 0 from foi_zero], rfl, Lib.hid rfl, HB7, HS7, HR7⟩
      case round =>
        obtain ⟨k, s, rfl, hk, rfl, rfl, HSum, HBy, HSy, HRy⟩ := hrel
        by_cases hlt : k < (gaps T).length
        · have hgl := gaps_length T
          have hk1 : k + 1 < T.length := by omega
          have hkb : k < 4398046511104 := by have := HTl.out; omega
          have hge := gaps_at T k hk1
          have hlp := pos_least (gaps T) k HTp.out
          have hmp := pos_most (gaps T) k HTp.out
          have hm1 := HTm.out _ (getD_mem hk1)
          have hm0 := HTm.out _ (getD_mem (show k < T.length by omega))
          obtain ⟨g, cap, hA, hg0, hg1, -⟩ := Kd.R_form HRy.out (by omega)
          cases hA
          have hc1 := (Kd.R_cell (enc := Value.int .i64) (h1 := fun _ => rfl) 0 HRy.out ((k + 1 : Nat) : Int) (by omega) (by omega)).1
          have hc0 := (Kd.R_cell (enc := Value.int .i64) (h1 := fun _ => rfl) 0 HRy.out (k : Int) (by omega) (by omega)).1
          rw [Int.toNat_natCast, show rdOf 0 T ((k + 1 : Nat) : Int) = T.getD (k + 1) 0 from rfl] at hc1
          rw [Int.toNat_natCast, show rdOf 0 T (k : Int) = T.getD k 0 from rfl] at hc0
          have hl2 : leastF (gaps T) (k + 1) = minF (leastF (gaps T) k) (foi ((gaps T).getD k 0)) := rfl
          have hm2 : mostF (gaps T) (k + 1) = maxF (mostF (gaps T) k) (foi ((gaps T).getD k 0)) := rfl
          have hsum : ∀ s2, FR .add s (foi ((gaps T).getD k 0)) s2 → SumR (gaps T) (k + 1) s2 := fun s2 h => ⟨s, HSum.out, h⟩
          rw [hge] at hl2 hm2 hsum
          have HL2 := Lib.hid hl2
          have HM2 := Lib.hid hm2
          have HSm := Lib.hid hsum
          have HLp := Lib.hid hlp
          have HMp := Lib.hid hmp
          have HK := Lib.hid (And.intro hk1 hkb)
          clear hl2 hm2 hlp hmp hge hsum
          generalize T.getD (k + 1) 0 = t1 at *
          generalize T.getD k 0 = t0 at *
          have hn1 : ((k : Int) + 1).toNat = k + 1 := by omega
          have hb1 : (k : Int) + 1 < (T.length : Int) := by omega
          have hb0 : (k : Int) < (T.length : Int) := by omega
          have hfs := foi_succ k (by omega)
          have hd0 : -9223372036854775808 ≤ t1 - t0 := by omega
          have hd1 : t1 - t0 ≤ 9223372036854775807 := by omega
          have hw1' : wrap64 (k : Int) = (k : Int) := by unfold wrap64; omega
          have HN1 := Lib.hid hn1
          have HW1 := Lib.hid hw1'
          clear hw1' hn1
          have hw1 : IntKind.i64.wrap ((k : Int) + 1 - 1) = (k : Int) := by
            rw [show (k : Int) + 1 - 1 = k from by omega]
            exact IntWalk.i64_in _ (by omega)
          have hw2 : IntKind.i64.wrap (t1 - t0) = t1 - t0 := IntWalk.i64_in _ ⟨hd0, hd1⟩
          have hw1' := HW1.out
          have hn1 := HN1.out
          clear hd0 hd1
          have hcount : ∀ W, (binOp .add 42 (.float .f64 (floatOfInt .f64 (k : Int))) (.float .f64 4607182418800017408)).run Tryd.prog W = .ok (.float .f64 (floatOfInt .f64 ((k : Int) + 1))) W := fun W => run_float_arith W .add 42 .f64 _ _ _ hfs
          obtain ⟨s2, m2, hadd, hfr⟩ := run_fop (P := Tryd.prog) (op := .add) rfl 42 s (floatOfInt .f64 (t1 - t0)) wr.drew
          have HSum2 := Lib.hid (HSm.out s2 hfr)
          generalize leastF (gaps T) k = lo at *
          generalize mostF (gaps T) k = hi at *
          clear hfr hfs hm0 hm1 hg0 hg1 hgl hk1 HSm
          go_upto_region 15 with fail
          go_region
          clear hw1 hw2 hw1' hn1 hc0 hc1
          have h1 : (FloatKind.f64.format.order (floatOfInt .f64 (t1 - t0)) lo == some .lt) = ltB (floatOfInt .f64 (t1 - t0)) lo := by rw [fmt64, order_lt]
          have h2 : (FloatKind.f64.format.order (floatOfInt .f64 (t1 - t0)) hi == some .gt) = ltB hi (floatOfInt .f64 (t1 - t0)) := by rw [fmt64, order_gt]
          have q4 := HSy.out.k4
          have q5 := HSy.out.k5
          have f4 := HSy.out.f4
          have f5 := HSy.out.f5
          have hsz := HSy.out.s
          have HL3 : Hid (leastF (gaps T) (k + 1) = if ltB (floatOfInt .f64 (t1 - t0)) lo = true then floatOfInt .f64 (t1 - t0) else lo) := Lib.hid HL2.out
          have HM3 : Hid (mostF (gaps T) (k + 1) = if ltB hi (floatOfInt .f64 (t1 - t0)) = true then floatOfInt .f64 (t1 - t0) else hi) := Lib.hid HM2.out
          have HLt := Lib.hid hlt
          clear HL2 HM2 hlt hk
          cases hb1 : ltB (floatOfInt .f64 (t1 - t0)) lo <;> cases hb2 : ltB hi (floatOfInt .f64 (t1 - t0))
          all_goals
            rw [hb1] at h1 HL3
            rw [hb2] at h2 HM3
            go_wp2_with fail
          all_goals
            have hz : w1.heap.size < W2.heap.size := by rw [HZ2.out]; exact Nat.lt_succ_self _
            refine ⟨⟨k + 1, s2, by simp, HLt.out, by simp, rfl, HSum2, Lib.hid ?_, Lib.hid ?_, Lib.hid ?_⟩, ?_⟩
            · repeat (with_reducible first | exact HBy.out | refine below_set2 (Nat.le_refl _) ?_ | refine pw_below_drewN ?_ _)
            · rw [HL3.out, HM3.out]
              first | exact HSy.out.drewN _ | exact (HSy.out.drewN _).put4 _ | exact (HSy.out.drewN _).put5 _ | exact ((HSy.out.drewN _).put4 _).put5 _
            · first | exact Kd.R_drewN HRy.out _ | exact R_off (Kd.R_drewN HRy.out _) hz | exact R_off (R_off (Kd.R_drewN HRy.out _) hz) hz
            · have := HLt.out
              simp [intOf]
              omega
        · obtain rfl : k = (gaps T).length := by omega
          have hgl := gaps_length T
          have hcl : ¬ ((gaps T).length + 1 < T.length) := by omega
          obtain ⟨lo, hlo⟩ : ∃ lo, leastF (gaps T) (gaps T).length = lo := ⟨_, rfl⟩
          obtain ⟨hi, hhi⟩ : ∃ hi, mostF (gaps T) (gaps T).length = hi := ⟨_, rfl⟩
          rw [hlo, hhi] at HSy
          have HLo := Lib.hid hlo
          have HHi := Lib.hid hhi
          obtain ⟨gl, hgL⟩ : ∃ gl, (gaps T).length = gl := ⟨_, rfl⟩
          rw [hgL] at hcl
          have HGl := Lib.hid hgL
          have hcc : ¬ ((gl : Int) + 1 < (T.length : Int)) := by omega
          clear hlo hhi hk hlt hgl
          rw [hgL]
          clear hgL
          have q0 := HSy.out.k0
          have q1 := HSy.out.k1
          have f1 := HSy.out.f1
          obtain ⟨vr, m1, hq1, hr1⟩ := run_fop (P := Tryd.prog) (op := .quo) rfl 42 (floatOfInt .f64 T.length) (floatOfInt .f64 hor) wr
          have HRate := Lib.hid hr1
          clear hr1
          go_upto_region 23 with fail
          obtain ⟨W7', hW7⟩ : ∃ W, (wr.drewN m1).setCell ⟨w1.heap.size, 1, none⟩ (.float .f64 vr) = W := ⟨_, rfl⟩
          rw [hW7]
          have hz : w1.heap.size < W2.heap.size := by rw [HZ2.out]; exact Nat.lt_succ_self _
          have HT7 : Hid (Sx W7' w1.heap.size T.length vr 0 0 lo hi) := Lib.hid (by rw [← hW7]; exact (HSy.out.drewN _).put1 _)
          have HC7 : Hid (Below w1.heap.size w1 W7') := Lib.hid (by rw [← hW7]; exact below_set2 (Nat.le_refl _) (pw_below_drewN HBy.out _))
          have HQ7 : Hid (Kd.R (Kd.int .i64) 3 W7' W2.heap.size (fun _ => True) (.slice A T.length cv) T) := Lib.hid (by rw [← hW7]; exact R_off (Kd.R_drewN HRy.out _) hz)
          clear hW7 q0 q1 f1 hq1
          have q2 := HT7.out.k2
          have f2 := HT7.out.f2
          obtain ⟨vm, m2, hq2, hr2⟩ := run_fop (P := Tryd.prog) (op := .quo) rfl 42 s (floatOfInt .f64 gl) W7'
          have HMean := Lib.hid hr2
          clear hr2
          go_upto_region 24 with fail
          obtain ⟨W8, hW8⟩ : ∃ W, (W7'.drewN m2).setCell ⟨w1.heap.size, 2, none⟩ (.float .f64 vm) = W := ⟨_, rfl⟩
          rw [hW8]
          have HS8 : Hid (Sx W8 w1.heap.size T.length vr vm 0 lo hi) := Lib.hid (by rw [← hW8]; exact (HT7.out.drewN _).put2 _)
          have HB8 : Hid (Below w1.heap.size w1 W8) := Lib.hid (by rw [← hW8]; exact below_set2 (Nat.le_refl _) (pw_below_drewN HC7.out _))
          have HR8 : Hid (Kd.R (Kd.int .i64) 3 W8 W2.heap.size (fun _ => True) (.slice A T.length cv) T) := Lib.hid (by rw [← hW8]; exact R_off (Kd.R_drewN HQ7.out _) hz)
          clear hW8 q2 f2 hz hq2
          go_wp2_with fail
          go_loopw [15, 16] (fun v15 v16 wx => ∃ (k q : Nat), v16 = .int .i64 (k + 1) ∧ k ≤ gl ∧ v15 = .float .f64 q ∧ Hid (SqR (gaps T) vm k q) ∧ Hid (Below w1.heap.size w1 wx) ∧ Hid (Sx wx w1.heap.size T.length vr vm 0 lo hi) ∧ Hid (Kd.R (Kd.int .i64) 3 wx W2.heap.size (fun _ => True) (.slice A T.length cv) T)) (fun _ v16 _ => gl + 1 - (intOf v16).toNat)
          case atStart => exact ⟨0, 0, rfl, Nat.zero_le _, rfl, Lib.hid rfl, HB8, HS8, HR8⟩
          case round =>
            obtain ⟨k, sq, rfl, hk, rfl, HSq, HBz, HSz, HRz⟩ := hrel
            by_cases hlt : k < gl
            · have hgl := gaps_length T
              rw [HGl.out] at hgl
              have hk1 : k + 1 < T.length := by omega
              have hkb : k < 4398046511104 := by have := HTl.out; omega
              have hge := gaps_at T k hk1
              have hm1 := HTm.out _ (getD_mem hk1)
              have hm0 := HTm.out _ (getD_mem (show k < T.length by omega))
              have hnn : nanB vm = false := mean_nn (n := gl) (fun q hq => ⟨HTp.out q hq, Int.le_trans (HTg.out q hq) (by decide)⟩) HSum.out (by omega) (by have := HTl.out; omega) HMean.out
              have hnm : Num (foi ((gaps T).getD k 0)) := by
                have hm := getD_mem (l := gaps T) (k := k) (by rw [HGl.out]; exact hlt)
                exact foi_num (HTp.out _ hm) (Int.le_trans (HTg.out _ hm) (by decide))
              obtain ⟨d, hd, -⟩ := sub_some hnm hnn
              have hsq : ∀ q s2, FR .mul d d q → FR .add sq q s2 → SqR (gaps T) vm (k + 1) s2 := fun q s2 h2 h3 => ⟨sq, d, q, HSq.out, ⟨Ieee.double.sub_lt hd, Or.inl hd⟩, h2, h3⟩
              rw [hge] at hd
              have hsub : ∀ W, (binOp .sub 42 (.float .f64 (floatOfInt .f64 (T.getD (k + 1) 0 - T.getD k 0))) (.float .f64 vm)).run Tryd.prog W = .ok (.float .f64 d) W := fun W => run_sub 42 hd Tryd.prog W
              obtain ⟨g, cap, hA, hg0, hg1, -⟩ := Kd.R_form HRz.out (by omega)
              cases hA
              have hc1 := (Kd.R_cell (enc := Value.int .i64) (h1 := fun _ => rfl) 0 HRz.out ((k + 1 : Nat) : Int) (by omega) (by omega)).1
              have hc0 := (Kd.R_cell (enc := Value.int .i64) (h1 := fun _ => rfl) 0 HRz.out (k : Int) (by omega) (by omega)).1
              rw [Int.toNat_natCast, show rdOf 0 T ((k + 1 : Nat) : Int) = T.getD (k + 1) 0 from rfl] at hc1
              rw [Int.toNat_natCast, show rdOf 0 T (k : Int) = T.getD k 0 from rfl] at hc0
              have HSub := Lib.hid hsub
              have HSqn := Lib.hid hsq
              have HLt := Lib.hid hlt
              clear hsub hsq hd hnn hnm hge
              generalize T.getD (k + 1) 0 = t1 at *
              generalize T.getD k 0 = t0 at *
              have hn1 : ((k : Int) + 1).toNat = k + 1 := by omega
              have hb1 : (k : Int) + 1 < (T.length : Int) := by omega
              have hb0 : (k : Int) < (T.length : Int) := by omega
              have hd0 : -9223372036854775808 ≤ t1 - t0 := by omega
              have hd1 : t1 - t0 ≤ 9223372036854775807 := by omega
              have hw1' : wrap64 (k : Int) = (k : Int) := by unfold wrap64; omega
              have HN1 := Lib.hid hn1
              have HW1 := Lib.hid hw1'
              clear hw1' hn1
              have hw1 : IntKind.i64.wrap ((k : Int) + 1 - 1) = (k : Int) := by
                rw [show (k : Int) + 1 - 1 = k from by omega]
                exact IntWalk.i64_in _ (by omega)
              have hw2 : IntKind.i64.wrap (t1 - t0) = t1 - t0 := IntWalk.i64_in _ ⟨hd0, hd1⟩
              have hw1' := HW1.out
              have hn1 := HN1.out
              have hsub := HSub.out
              have q2 := HSz.out.k2
              clear hd0 hd1 hm0 hm1 hg0 hg1 hgl hk1 HSub
              obtain ⟨d2, n2, g2, r2⟩ := run_fop (P := Tryd.prog) (op := .mul) rfl 42 d d wr.drew
              obtain ⟨s2, n3, g3, r3⟩ := run_fop (P := Tryd.prog) (op := .add) rfl 42 sq d2 (wr.drewN (1 + n2))
              have HSq2 := Lib.hid (HSqn.out d2 s2 r2 r3)
              clear r2 r3 HSqn
              go_upto_region 28 with fail
              go_region
              clear hw1 hw2 hw1' hn1 hc0 hc1 hlt hk hsub
              go_wp2_with fail
              refine ⟨⟨k + 1, s2, by simp, HLt.out, rfl, HSq2, Lib.hid (pw_below_drewN HBz.out _), Lib.hid (HSz.out.drewN _), Lib.hid (Kd.R_drewN HRz.out _)⟩, ?_⟩
              have := HLt.out
              simp [intOf]
              omega
            · obtain rfl : k = gl := by omega
              have HSq3 := Lib.hid HSq.out
              have hgl := gaps_length T
              rw [HGl.out] at hgl
              have hcl : ¬ (k + 1 < T.length) := by omega
              have hcc : ¬ ((k : Int) + 1 < (T.length : Int)) := by omega
              have q3 := HSz.out.k3
              have f3 := HSz.out.f3
              obtain ⟨vs, m3, hq3, hr3⟩ := run_fop (P := Tryd.prog) (op := .quo) rfl 42 sq (floatOfInt .f64 k) wr
              have HSpread := Lib.hid hr3
              clear hr3 hk hlt hgl
              go_upto_region 32 with fail
              obtain ⟨W9, hW9⟩ : ∃ W, (wr.drewN m3).setCell ⟨w1.heap.size, 3, none⟩ (.float .f64 vs) = W := ⟨_, rfl⟩
              rw [hW9]
              have HS9 : Hid (Sx W9 w1.heap.size T.length vr vm vs lo hi) := Lib.hid (by rw [← hW9]; exact (HSz.out.drewN _).put3 _)
              have HB9 : Hid (Below w1.heap.size w1 W9) := Lib.hid (by rw [← hW9]; exact below_set2 (Nat.le_refl _) (pw_below_drewN HBz.out _))
              clear hW9 q3 f3 hq3
              have HP9 := Lib.hid (HS1.out.low HS1.out.s HB9.out)
              have HF9 := Lib.hid (HB1.out.trans (HB9.out.mono HB1.out.size))
              obtain ⟨k0, k1, k2, k3, k4, k5, -, -, -, -, -, -, hsz⟩ := HS9.out
              obtain ⟨p0, p1, p2, p3, p4, p5, f0, f1, f2, f3, f4, f5, hsz2⟩ := HP9.out
              go_wp2_with fail
              refine bodyPost_ret (v := statsV T.length vr vm vs lo hi) (by simp [results, Tryd.results28, go_sem, p0, p1, p2, p3, p4, p5, hsz2]) rfl ⟨_, vr, vm, vs, lo, hi, rfl, ?_, ⟨rfl, HRate.out, ⟨s, HSum.out, by rw [HGl.out]; exact HMean.out⟩, ⟨sq, by rw [HGl.out]; exact HSq3.out, by rw [HGl.out]; exact HSpread.out⟩, HLo.out.symm, HHi.out.symm⟩⟩
              repeat (with_reducible first | exact HF9.out | (refine below_set2 ?_ ?_; (· omega)))
end Go.Proofs.YtcbkgammlfjjoaaDoor
namespace Go.Proofs.YtcbkgammlfjjoaaDoor
set_option linter.unusedVariables false
set_option linter.unusedSimpArgs false
open Go.RowKit Go.Proofs.YtcbkgammlfjjoaaDoorW.PrintWords Go.Proofs.YtcbkgammlfjjoaaDoorW.PrintLast Go.Proofs.YtcbkgammlfjjoaaDoorW.PrintMore

/-- which arguments may not be: the first reason -/
def BadW (x : WV) (net hor : Int) : Prop := mayB x = false ∨ (mayB x = true ∧ decide (net < -1) = true) ∨ (mayB x = true ∧ decide (net < -1) = false ∧ decide ((x.nm.length : Int) ≤ net) = true) ∨ (mayB x = true ∧ decide (net < -1) = false ∧ decide ((x.nm.length : Int) ≤ net) = false ∧ decide (hor < 0) = true) ∨ (mayB x = true ∧ decide (net < -1) = false ∧ decide ((x.nm.length : Int) ≤ net) = false ∧ decide (hor < 0) = false ∧ decide (4611686018427387903 < hor) = true)
def GoodW (x : WV) (net hor : Int) : Prop := mayB x = true ∧ -1 ≤ net ∧ net < x.nm.length ∧ 0 ≤ hor ∧ hor ≤ 4611686018427387903
theorem waysW (x : WV) (net hor : Int) : BadW x net hor ∨ GoodW x net hor := by
  cases h0 : mayB x
  · exact Or.inl (Or.inl h0)
  · by_cases h1 : net < -1
    · exact Or.inl (Or.inr (Or.inl ⟨h0, decide_eq_true h1⟩))
    · by_cases h2 : (x.nm.length : Int) ≤ net
      · exact Or.inl (Or.inr (Or.inr (Or.inl ⟨h0, decide_eq_false h1, decide_eq_true h2⟩)))
      · by_cases h3 : hor < 0
        · exact Or.inl (Or.inr (Or.inr (Or.inr (Or.inl ⟨h0, decide_eq_false h1, decide_eq_false h2, decide_eq_true h3⟩))))
        · by_cases h4 : 4611686018427387903 < hor
          · exact Or.inl (Or.inr (Or.inr (Or.inr (Or.inr ⟨h0, decide_eq_false h1, decide_eq_false h2, decide_eq_false h3, decide_eq_true h4⟩))))
          · exact Or.inr ⟨h0, by omega, by omega, by omega, by omega⟩
set_option maxRecDepth 100000 in
set_option maxHeartbeats 4000000 in
theorem of_bad (x : WV) (A0 : Option Addr) (c0 : Nat) (A1 : Option Addr) (c1 : Nat) (A2 : Option Addr) (c2 : Nat) (A3 : Option Addr) (c3 : Nat) (net hor : Int) (w : World) (hI : WIn w x A0 c0 A1 c1 A2 c2 A3 c3) (hbad : BadW x net hor) :
    Calls Tryd.prog 26 #[wvV x A0 c0 A1 c1 A2 c2 A3 c3, .int .i64 net, .int .i64 hor] w fun e w' => e = .returned (.tuple #[statsV 0 0 0 0 0 0, .int .i64 1]) ∧ Below w.heap.size w w' := by
  have HI := Lib.hid hI
  have hck := fun W => fun h => check_any x A0 c0 A1 c1 A2 c2 A3 c3 W h
  have HBad := Lib.hid hbad
  clear hI hbad
  have hsf := store_float
  go_enter Tryd.func26, Tryd.ntmps26
  go_upto_region 1 with fail
  obtain ⟨W1, hW1⟩ : ∃ W, w.alloc (Obj.cells #[Value.slice A0 x.nm.length c0, Value.slice A1 x.wd.length c1, Value.slice A2 x.fi.length c2, Value.slice A3 x.li.length c3] 26) = W := ⟨_, rfl⟩
  rw [hW1]
  obtain ⟨hx, hb⟩ := bx_alloc w x A0 c0 A1 c1 A2 c2 A3 c3 hW1
  obtain ⟨W, hW⟩ : ∃ W, W1.alloc (.cells #[.int .i64 0, .float .f64 0, .float .f64 0, .float .f64 0, .float .f64 0, .float .f64 0] 44) = W := ⟨_, rfl⟩
  rw [hW]
  obtain ⟨hs, hb2⟩ := sx_alloc W1 0 0 0 0 0 0 44 hW
  rw [show W1.heap.size = w.heap.size + 1 by rw [← hW1]; simp] at hs
  have HB := Lib.hid (hb.trans (hb2.mono hb.size))
  have HX := Lib.hid (hx.below hb2)
  have HS := Lib.hid hs
  clear hb hb2 hx hs hW hW1
  have a0 := HX.out.k0
  have a1 := HX.out.k1
  have a2 := HX.out.k2
  have a3 := HX.out.k3
  have HCk := Lib.hid hck
  clear hck
  go_wp2_with fail
  clear a0 a1 a2 a3
  refine (HCk.out W (HI.out.below HB.out)).mono ?_
  rintro e w1 ⟨rfl, hb⟩
  have HB1 := Lib.hid (HB.out.trans (hb.mono HB.out.size))
  have HX1 := Lib.hid (HX.out.below hb)
  have HS1 := Lib.hid (HS.out.below hb)
  clear hb
  have a0 := HX1.out.k0
  obtain ⟨p0, p1, p2, p3, p4, p5, f0, f1, f2, f3, f4, f5, hsz⟩ := HS1.out
  rcases HBad.out with h | ⟨h, h1⟩ | ⟨h, h1, h2⟩ | ⟨h, h1, h2, h3⟩ | ⟨h, h1, h2, h3, h4⟩
  all_goals
    rw [h]
    clear h
    go_wp2_with fail
    refine bodyPost_ret (v := .tuple #[statsV 0 0 0 0 0 0, .int .i64 1]) (by simp [results, Tryd.results26, go_sem, p0, p1, p2, p3, p4, p5, hsz]) rfl ⟨rfl, ?_⟩
    repeat (with_reducible first | exact HB1.out | (refine below_set2 ?_ ?_; (· omega)))
theorem zero_eq : Op.floatEq .f64 0 0 = true := by kernel_rfl
theorem und42 : Tryd.prog.underlying 42 = some (.float .f64) := by kernel_rfl
theorem eq_float (d a b : Nat) (W : World) : (Op.equalIn (d + 1) 42 (.float .f64 a) (.float .f64 b)).run Tryd.prog W = .ok (Op.floatEq .f64 a b) W := by
  rw [Op.equalIn]
  simp [und42]
theorem eq_zero (W : World) : (Op.equalIn 9999 42 (.float .f64 0) (.float .f64 0)).run Tryd.prog W = .ok true W := (eq_float 9998 0 0 W).trans (by rw [zero_eq])
set_option maxRecDepth 100000 in
set_option maxHeartbeats 4000000 in
theorem ofs_bad (x : WV) (A0 : Option Addr) (c0 : Nat) (A1 : Option Addr) (c1 : Nat) (A2 : Option Addr) (c2 : Nat) (A3 : Option Addr) (c3 : Nat) (net hor : Int) (w : World) (hI : WIn w x A0 c0 A1 c1 A2 c2 A3 c3) (hbad : BadW x net hor) :
    Calls Tryd.prog 7 #[wvV x A0 c0 A1 c1 A2 c2 A3 c3, .int .i64 net, .int .i64 hor] w fun e w' => e = .returned (.bool true) ∧ Below w.heap.size w w' := by
  have HI := Lib.hid hI
  have HBad := Lib.hid hbad
  clear hI hbad
  have hsf := store_float
  go_enter Tryd.func7, Tryd.ntmps7
  go_upto_region 1 with fail
  obtain ⟨W, hW⟩ : ∃ W, w.alloc (Obj.cells #[Value.slice A0 x.nm.length c0, Value.slice A1 x.wd.length c1, Value.slice A2 x.fi.length c2, Value.slice A3 x.li.length c3] 26) = W := ⟨_, rfl⟩
  rw [hW]
  obtain ⟨hx, hb⟩ := bx_alloc w x A0 c0 A1 c1 A2 c2 A3 c3 hW
  have HB := Lib.hid hb
  have HX := Lib.hid hx
  clear hb hx hW
  have a0 := HX.out.k0
  have a1 := HX.out.k1
  have a2 := HX.out.k2
  have a3 := HX.out.k3
  go_wp2_with fail
  clear a0 a1 a2 a3
  refine (of_bad x A0 c0 A1 c1 A2 c2 A3 c3 net hor W (HI.out.below HB.out) HBad.out).mono ?_
  rintro e w1 ⟨rfl, hb⟩
  have HB1 := Lib.hid (HB.out.trans (hb.mono HB.out.size))
  have HX1 := Lib.hid (HX.out.below hb)
  clear hb
  go_upto_region 2 with fail
  obtain ⟨W2, hW2⟩ : ∃ W, w1.alloc (.cells #[.int .i64 0, .float .f64 0, .float .f64 0, .float .f64 0, .float .f64 0, .float .f64 0] 44) = W := ⟨_, rfl⟩
  rw [hW2]
  obtain ⟨hs2, hb2⟩ := sx_alloc w1 0 0 0 0 0 0 44 hW2
  have HB2 := Lib.hid (HB1.out.trans (hb2.mono HB1.out.size))
  have HX2 := Lib.hid (HX1.out.below hb2)
  have HS2 := Lib.hid hs2
  clear hs2 hb2 hW2
  have a0 := HX2.out.k0
  have a1 := HX2.out.k1
  have a2 := HX2.out.k2
  have a3 := HX2.out.k3
  go_wp2_with fail
  clear a0 a1 a2 a3
  refine (mayR_any x A0 c0 A1 c1 A2 c2 A3 c3 W2 (HI.out.below HB2.out)).mono ?_
  rintro e w3 ⟨rfl, hb⟩
  have HB3 := Lib.hid (HB2.out.trans (hb.mono HB2.out.size))
  have HX3 := Lib.hid (HX2.out.below hb)
  have HS3 := Lib.hid (HS2.out.below hb)
  clear hb
  have a0 := HX3.out.k0
  obtain ⟨p0, p1, p2, p3, p4, p5, f0, f1, f2, f3, f4, f5, hsz⟩ := HS3.out
  have hze := eq_zero
  rcases HBad.out with h | ⟨h, h1⟩ | ⟨h, h1, h2⟩ | ⟨h, h1, h2, h3⟩ | ⟨h, h1, h2, h3, h4⟩
  all_goals
    rw [h]
    clear h
    go_wp2_with fail
    refine (awakeS_any _).mono ?_
    rintro e w4 ⟨rfl, hb⟩
    have HB4 := Lib.hid (HB3.out.trans (hb.mono HB3.out.size))
    clear hb
    go_wp2_with fail
    go_ret
    exact ⟨rfl, HB4.out⟩
theorem least_lt (g : List Int) : ∀ i, leastF g i < 18446744073709551616
  | 0 => (by decide : (9218868437227405312 : Nat) < 18446744073709551616)
  | i + 1 => by
    unfold leastF minF
    split
    · exact foi_lt _
    · exact least_lt g i
theorem most_lt (g : List Int) : ∀ i, mostF g i < 18446744073709551616
  | 0 => (by decide : (18442240474082181120 : Nat) < 18446744073709551616)
  | i + 1 => by
    unfold mostF maxF
    split
    · exact foi_lt _
    · exact most_lt g i
theorem same_call {a b : Nat} (ha : a < 18446744073709551616) (hb : b < 18446744073709551616) (h : Eqv a b) (w : World) : Calls Tryd.prog 29 #[.float .f64 a, .float .f64 b] w fun e w' => e = .returned (.bool true) ∧ w = w' := by
  have := same_any a b w ha hb
  rwa [same_of_eqv h] at this
set_option maxRecDepth 100000 in
set_option maxHeartbeats 4000000 in
theorem ofs_good (x : WV) (A0 : Option Addr) (c0 : Nat) (A1 : Option Addr) (c1 : Nat) (A2 : Option Addr) (c2 : Nat) (A3 : Option Addr) (c3 : Nat) (net hor : Int) (w : World) (hI : WIn w x A0 c0 A1 c1 A2 c2 A3 c3) (hgood : GoodW x net hor) :
    Calls Tryd.prog 7 #[wvV x A0 c0 A1 c1 A2 c2 A3 c3, .int .i64 net, .int .i64 hor] w fun e w' => e = .returned (.bool true) ∧ Below w.heap.size w w' := by
  have HI := Lib.hid hI
  have HG := Lib.hid hgood
  clear hI hgood
  have hsf := store_float
  go_enter Tryd.func7, Tryd.ntmps7
  go_upto_region 1 with fail
  obtain ⟨W, hW⟩ : ∃ W, w.alloc (Obj.cells #[Value.slice A0 x.nm.length c0, Value.slice A1 x.wd.length c1, Value.slice A2 x.fi.length c2, Value.slice A3 x.li.length c3] 26) = W := ⟨_, rfl⟩
  rw [hW]
  obtain ⟨hx, hb⟩ := bx_alloc w x A0 c0 A1 c1 A2 c2 A3 c3 hW
  have HB := Lib.hid hb
  have HX := Lib.hid hx
  clear hb hx hW
  have a0 := HX.out.k0
  have a1 := HX.out.k1
  have a2 := HX.out.k2
  have a3 := HX.out.k3
  go_wp2_with fail
  clear a0 a1 a2 a3
  refine (of_good x A0 c0 A1 c1 A2 c2 A3 c3 net hor W (HI.out.below HB.out) HG.out.1 HG.out.2.1 HG.out.2.2.1 HG.out.2.2.2.1 HG.out.2.2.2.2).mono ?_
  rintro e w1 ⟨n, r, m, s, a, b, rfl, hb, hO⟩
  have HO := Lib.hid hO
  have HB1 := Lib.hid (HB.out.trans (hb.mono HB.out.size))
  have HX1 := Lib.hid (HX.out.below hb)
  clear hb hO
  go_upto_region 2 with fail
  obtain ⟨W2, hW2⟩ : ∃ W, w1.alloc (.cells #[.int .i64 n, .float .f64 r, .float .f64 m, .float .f64 s, .float .f64 a, .float .f64 b] 44) = W := ⟨_, rfl⟩
  rw [hW2]
  obtain ⟨hs2, hb2⟩ := sx_alloc w1 n r m s a b 44 hW2
  have HB2 := Lib.hid (HB1.out.trans (hb2.mono HB1.out.size))
  have HX2 := Lib.hid (HX1.out.below hb2)
  have HS2 := Lib.hid hs2
  clear hs2 hb2 hW2
  have a0 := HX2.out.k0
  have a1 := HX2.out.k1
  have a2 := HX2.out.k2
  have a3 := HX2.out.k3
  go_wp2_with fail
  clear a0 a1 a2 a3
  refine (mayR_any x A0 c0 A1 c1 A2 c2 A3 c3 W2 (HI.out.below HB2.out)).mono ?_
  rintro e w3 ⟨rfl, hb⟩
  have HB3 := Lib.hid (HB2.out.trans (hb.mono HB2.out.size))
  have HX3 := Lib.hid (HX2.out.below hb)
  have HS3 := Lib.hid (HS2.out.below hb)
  clear hb
  have h1 : decide (net < -1) = false := decide_eq_false (by have := HG.out.2.1; omega)
  have h2 : decide ((x.nm.length : Int) ≤ net) = false := decide_eq_false (by have := HG.out.2.2.1; omega)
  have h3 : decide (hor < 0) = false := decide_eq_false (by have := HG.out.2.2.2.1; omega)
  have h4 : decide (4611686018427387903 < hor) = false := decide_eq_false (by have := HG.out.2.2.2.2; omega)
  rw [HG.out.1]
  have a0 := HX3.out.k0
  have a1 := HX3.out.k1
  have a2 := HX3.out.k2
  have a3 := HX3.out.k3
  go_wp2_with fail
  clear a0 a1 a2 a3
  refine (ofR_good x A0 c0 A1 c1 A2 c2 A3 c3 net hor w3 (HI.out.below HB3.out) ((may_iff x).1 HG.out.1)).mono ?_
  rintro e w4 ⟨n', r', m', s', a', b', rfl, hb, hO'⟩
  obtain ⟨rfl, hr, hm, hs, rfl, rfl⟩ := HO.out.same hO'
  have HB4 := Lib.hid (HB3.out.trans (hb.mono HB3.out.size))
  have HS4 := Lib.hid (HS3.out.below hb)
  have s1 := same_call HO.out.rate.1 hO'.rate.1 hr
  have s2 := same_call (by obtain ⟨_, _, h⟩ := HO.out.mean; exact h.1) (by obtain ⟨_, _, h⟩ := hO'.mean; exact h.1) hm
  have s3 := same_call (by obtain ⟨_, _, h⟩ := HO.out.spread; exact h.1) (by obtain ⟨_, _, h⟩ := hO'.spread; exact h.1) hs
  have s4 := same_call (a := a) (b := a) (by rw [HO.out.least]; exact least_lt _ _) (by rw [HO.out.least]; exact least_lt _ _) (Eqv.refl _)
  have s5 := same_call (a := b) (b := b) (by rw [HO.out.most]; exact most_lt _ _) (by rw [HO.out.most]; exact most_lt _ _) (Eqv.refl _)
  have S1 := Lib.hid s1
  have S2 := Lib.hid s2
  have S3 := Lib.hid s3
  have S4 := Lib.hid s4
  have S5 := Lib.hid s5
  clear hb hO' hr hm hs s1 s2 s3 s4 s5
  go_upto_region 5 with fail
  obtain ⟨W5, hW5⟩ : ∃ W, w4.alloc (.cells #[.int .i64 n, .float .f64 r', .float .f64 m', .float .f64 s', .float .f64 a, .float .f64 b] 47) = W := ⟨_, rfl⟩
  rw [hW5]
  obtain ⟨hs5, hb5⟩ := sx_alloc w4 n r' m' s' a b 47 hW5
  have HB5 := Lib.hid (HB4.out.trans (hb5.mono HB4.out.size))
  have HS5 := Lib.hid (HS4.out.below hb5)
  have HQ5 := Lib.hid hs5
  clear hs5 hb5 hW5
  obtain ⟨p0, p1, p2, p3, p4, p5, -, -, -, -, -, -, hsz⟩ := HS5.out
  obtain ⟨k0, k1, k2, k3, k4, k5, -, -, -, -, -, -, hsz2⟩ := HQ5.out
  go_wp2_with (first | (go_at_call 29; (with_reducible first | refine (S1.out _).mono ?_ | refine (S2.out _).mono ?_ | refine (S3.out _).mono ?_ | refine (S4.out _).mono ?_ | refine (S5.out _).mono ?_); rintro e w' ⟨rfl, rfl⟩))
  refine (awakeS_any _).mono ?_
  rintro e w6 ⟨rfl, hb⟩
  have HB6 := Lib.hid (HB5.out.trans (hb.mono HB5.out.size))
  clear hb
  go_wp2_with fail
  go_ret
  exact ⟨rfl, HB6.out⟩
theorem ofs_any (x : WV) (A0 : Option Addr) (c0 : Nat) (A1 : Option Addr) (c1 : Nat) (A2 : Option Addr) (c2 : Nat) (A3 : Option Addr) (c3 : Nat) (net hor : Int) (w : World) (hI : WIn w x A0 c0 A1 c1 A2 c2 A3 c3) (_ : (Lit.int .i64 net).wf = true) (_ : (Lit.int .i64 hor).wf = true) :
    Calls Tryd.prog 7 #[wvV x A0 c0 A1 c1 A2 c2 A3 c3, .int .i64 net, .int .i64 hor] w fun e w' => e = .returned (.bool true) ∧ Below w.heap.size w w' := by
  rcases waysW x net hor with h | h
  · exact ofs_bad x A0 c0 A1 c1 A2 c2 A3 c3 net hor w hI h
  · exact ofs_good x A0 c0 A1 c1 A2 c2 A3 c3 net hor w hI h
end Go.Proofs.YtcbkgammlfjjoaaDoor
