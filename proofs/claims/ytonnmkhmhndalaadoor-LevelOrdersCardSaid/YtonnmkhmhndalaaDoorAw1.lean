/- What must come, whatever the arguments are: levels of two small netlists. -/
import Derived.Test.YtonnmkhmhndalaaDoorMgE
import Derived.Test.YtonnmkhmhndalaaDoorLno
namespace Go.Proofs.YtonnmkhmhndalaaDoor
set_option linter.unusedVariables false
set_option linter.unusedSimpArgs false
open Go.RowKit Go.Proofs.YtonnmkhmhndalaaDoorW.PrintWords Go.Proofs.YtonnmkhmhndalaaDoorW.PrintLast Go.Proofs.YtonnmkhmhndalaaDoorW.PrintMore

theorem nodes_C {W : World} {b : Nat} {l : List S39} (hl : l.length ≤ 9223372036854775807) (h : ∀ j, j < l.length → ∃ A3 c3, NAt W b (j * 8) (l.getD j z39) A3 c3 ∧ (l.getD j z39).f3.length ≤ c3) : Kd.C k39 W (some ⟨b, 0, none⟩) l.length l := by
  refine ⟨rfl, hl, fun _ => ⟨_, rfl, fun j p hj => ?_⟩⟩
  have hlt : j < l.length := by
    rcases Nat.lt_or_ge j l.length with h1 | h1
    · exact h1
    · rw [List.getElem?_eq_none h1] at hj; cases hj
  have hp : l.getD j z39 = p := by rw [List.getD_eq_getElem?_getD, hj]; rfl
  obtain ⟨A3, c3, ⟨h0, h1, h2, h3, h4, h5, h6, h7, hC⟩, hc⟩ := h j hlt
  rw [hp] at h0 h1 h2 h3 h4 h5 h6 h7 hC hc
  refine ⟨_, rfl, k39_mk W p hc hC, fun i u hu => ?_⟩
  have ea : ∀ k, (⟨b, 0, none⟩ : Addr).add k = ⟨b, k, none⟩ := fun k => by rw [add_plain, Nat.zero_add]
  rw [ea]
  match i, hu with
  | 0, hu => injection hu with hu; subst hu; exact h0
  | 1, hu => injection hu with hu; subst hu; exact h1
  | 2, hu => injection hu with hu; subst hu; exact h2
  | 3, hu => injection hu with hu; subst hu; exact h3
  | 4, hu => injection hu with hu; subst hu; exact h4
  | 5, hu => injection hu with hu; subst hu; exact h5
  | 6, hu => injection hu with hu; subst hu; exact h6
  | 7, hu => injection hu with hu; subst hu; exact h7
theorem ints_C {W : World} {b : Nat} {l : List Int} (hl : l.length ≤ 9223372036854775807) (h : ∀ j, j < l.length → W.cell? ⟨b, j, none⟩ = some (.int .i64 (l.getD j 0))) : Kd.C (Kd.int .i64) W (some ⟨b, 0, none⟩) l.length l := by
  refine ⟨rfl, hl, fun _ => ⟨_, rfl, fun j p hj => ?_⟩⟩
  have hlt : j < l.length := by
    rcases Nat.lt_or_ge j l.length with h1 | h1
    · exact h1
    · rw [List.getElem?_eq_none h1] at hj; cases hj
  have hp : l.getD j 0 = p := by rw [List.getD_eq_getElem?_getD, hj]; rfl
  have h0 := h j hlt
  rw [hp] at h0
  refine ⟨_, rfl, rfl, fun i u hu => ?_⟩
  have ea : ∀ k, (⟨b, 0, none⟩ : Addr).add k = ⟨b, k, none⟩ := fun k => by rw [add_plain, Nat.zero_add]
  rw [ea]
  match i, hu with
  | 0, hu => injection hu with hu; subst hu; show W.cell? ⟨b, j * 1 + 0, none⟩ = _; rw [Nat.mul_one, Nat.add_zero]; exact h0
/-- a gate that turns a node -/
def notN (k : Int) : S39 := ⟨3, 7, 1, [k], ⟨#[]⟩, 0, 0, 0⟩
def inN : S39 := ⟨2, 0, 1, [], ⟨#[]⟩, 0, 0, 0⟩
theorem not_any (k : Int) (w : World) : Calls Tryd.prog 20 #[.int .i64 k] w fun e w' => ∃ A c, e = .returned (.agg #[.int .i64 3, .int .i64 7, .int .i64 1, .slice A 1 c, .string ⟨#[]⟩, .int .i64 0, .int .i64 0, .int .i64 0]) ∧ 1 ≤ c ∧ Kd.C (Kd.int .i64) w' A 1 [k] ∧ Below w.heap.size w w' := by
  refine (silkwormlaw11_not.calls k 3 7 1 [k] ⟨#[]⟩ 0 0 0 w rfl).mono ?_
  rintro e w' ⟨v, rfl, hR, hb⟩
  obtain ⟨A, c, rfl, hc, hC⟩ := Kd.R_reads hR
  exact ⟨A, c, rfl, hc, hC, hb⟩
def xl1 : NL := ⟨[notN 1, inN, notN 0], [1, 2], 2⟩
def xl2 : NL := ⟨[notN 1, notN 0], [], 0⟩
theorem may1 : mayL xl1 = true := by decide +kernel
theorem may2 : mayL xl2 = true := by decide +kernel
theorem lev1 : IsLev 3 (hs xl1.nd) (fun k => if k = 0 then 1 else if k = 1 then 0 else 2) := by
  have e0 : hs xl1.nd 0 = [1] := rfl
  have e1 : hs xl1.nd 1 = [] := rfl
  have e2 : hs xl1.nd 2 = [0] := rfl
  refine ⟨fun u hu => ?_, fun u hu h hh => ?_, fun u hu => ?_⟩
  all_goals
    have : u = 0 ∨ u = 1 ∨ u = 2 := by omega
    rcases this with rfl | rfl | rfl
  · decide
  · decide
  · decide
  · rw [e0] at hh; rw [List.mem_singleton.1 hh]; decide
  · rw [e1] at hh; cases hh
  · rw [e2] at hh; rw [List.mem_singleton.1 hh]; decide
  · right; exact ⟨1, by rw [e0]; simp, by decide⟩
  · left; decide
  · right; exact ⟨0, by rw [e2]; simp, by decide⟩
theorem res2 {out : Nat → Nat} {done : Nat → Bool} {cnt : Nat} (h : LRes 2 (hs xl2.nd) out done cnt) : cnt < 2 := by
  rcases Nat.lt_or_ge cnt 2 with h1 | h1
  · exact h1
  · exfalso
    have hle := h.le
    obtain rfl : cnt = 2 := by omega
    have hL := h.lev
    have a := hL.up 0 (by omega) 1 (by show 1 ∈ [1]; simp)
    have b := hL.up 1 (by omega) 0 (by show 0 ∈ [0]; simp)
    omega
theorem res1 {out : Nat → Nat} {done : Nat → Bool} {cnt : Nat} (h : LRes 3 (hs xl1.nd) out done cnt) : cnt = 3 ∧ out 0 = 1 ∧ out 1 = 0 ∧ out 2 = 2 := by
  have hl : ∀ k, k < 3 → ∀ h ∈ hs xl1.nd k, h < 3 := by
    intro k hk u hu
    have : k = 0 ∨ k = 1 ∨ k = 2 := by omega
    rcases this with rfl | rfl | rfl
    · have e : hs xl1.nd 0 = [1] := rfl
      rw [e] at hu; rw [List.mem_singleton.1 hu]; decide
    · have e : hs xl1.nd 1 = [] := rfl
      rw [e] at hu; cases hu
    · have e : hs xl1.nd 2 = [0] := rfl
      rw [e] at hu; rw [List.mem_singleton.1 hu]; decide
  have hc : cnt = 3 := by
    rcases Nat.lt_or_ge cnt 3 with h1 | h1
    · exact (h.nofix hl h1 _ lev1.up).elim
    · have := h.le; omega
  subst hc
  have hu := IsLev.uniq hl h.lev lev1
  exact ⟨rfl, hu 0 (by omega), hu 1 (by omega), hu 2 (by omega)⟩
theorem loop2 {p : List Nat} (h : Looped 2 (hs xl2.nd) p) : p.length = 2 := by
  have h1 := nodup_len p 2 h.nd h.lt
  have h2 := List.length_pos_iff.2 h.ne
  rcases Nat.lt_or_ge 1 p.length with h3 | h3
  · omega
  · exfalso
    have e1 : p.length = 1 := by omega
    have h4 := h.ho 0 h2
    rw [e1] at h4
    have h5 : p.getD 0 0 ∈ hs xl2.nd (p.getD 0 0) := h4
    have h6 : p.getD 0 0 < 2 := by
      refine h.lt _ ?_
      rw [List.getD_eq_getElem?_getD, List.getElem?_eq_getElem h2]
      exact List.getElem_mem _
    generalize p.getD 0 0 = a at *
    have : a = 0 ∨ a = 1 := by omega
    rcases this with rfl | rfl
    · have e : hs xl2.nd 0 = [1] := rfl
      rw [e] at h5; cases List.mem_singleton.1 h5
    · have e : hs xl2.nd 1 = [0] := rfl
      rw [e] at h5; cases List.mem_singleton.1 h5

set_option maxRecDepth 100000 in
theorem net1 {w W : World} {A1 A2 : Option Addr} {c1 c2 : Nat} (hC1 : Kd.C (Kd.int .i64) w A1 1 [1]) (hC2 : Kd.C (Kd.int .i64) w A2 1 [0]) (h1 : 1 ≤ c1) (h2 : 1 ≤ c2)
    (h : ((w.alloc (.cells #[.int .i64 3, .int .i64 7, .int .i64 1, .slice A1 1 c1, .string ⟨#[]⟩, .int .i64 0, .int .i64 0, .int .i64 0, .int .i64 2, .int .i64 0, .int .i64 1, .slice none 0 0, .string ⟨#[]⟩, .int .i64 0, .int .i64 0, .int .i64 0, .int .i64 3, .int .i64 7, .int .i64 1, .slice A2 1 c2, .string ⟨#[]⟩, .int .i64 0, .int .i64 0, .int .i64 0] 39)).alloc (.cells #[.int .i64 1, .int .i64 2] 3)).alloc (.cells #[.slice (some ⟨w.heap.size, 0, none⟩) 3 3, .slice (some ⟨w.heap.size + 1, 0, none⟩) 2 2, .int .i64 2] 25) = W) :
    NIn W xl1 (some ⟨w.heap.size, 0, none⟩) 3 (some ⟨w.heap.size + 1, 0, none⟩) 2 ∧ LBx W (w.heap.size + 2) 3 2 2 (some ⟨w.heap.size, 0, none⟩) 3 (some ⟨w.heap.size + 1, 0, none⟩) 2 ∧ Below w.heap.size w W := by
  have hb : Below w.heap.size w W := by
    rw [← h]
    exact ((below_alloc (Below.refl _ _) _).alloc (by simp) _).alloc (by simp; omega) _
  refine ⟨⟨nodes_C (by decide) (fun j hj => ?_), ints_C (by decide) (fun j hj => ?_), by decide, by decide, ?_, ?_, by decide⟩, ⟨by rw [← h]; simp [go_sem], by rw [← h]; simp [go_sem], by rw [← h]; simp [go_sem]⟩, hb⟩
  · have hj' : j < 3 := hj
    have : j = 0 ∨ j = 1 ∨ j = 2 := by omega
    rcases this with rfl | rfl | rfl
    · refine ⟨A1, c1, ⟨?_, ?_, ?_, ?_, ?_, ?_, ?_, ?_, Kd.C_below hC1 hb⟩, h1⟩ <;> (rw [← h]; simp [go_sem, xl1, notN, inN])
    · refine ⟨none, 0, ⟨?_, ?_, ?_, ?_, ?_, ?_, ?_, ?_, Kd.C_nil _ _⟩, Nat.le_refl _⟩ <;> (rw [← h]; simp [go_sem, xl1, notN, inN])
    · refine ⟨A2, c2, ⟨?_, ?_, ?_, ?_, ?_, ?_, ?_, ?_, Kd.C_below hC2 hb⟩, h2⟩ <;> (rw [← h]; simp [go_sem, xl1, notN, inN])
  · have hj' : j < 2 := hj
    have : j = 0 ∨ j = 1 := by omega
    rcases this with rfl | rfl <;> (rw [← h]; simp [go_sem, xl1])
  · intro s hs
    have : s = notN 1 ∨ s = inN ∨ s = notN 0 := by simpa [xl1] using hs
    rcases this with rfl | rfl | rfl <;> decide
  · intro s hs
    have : s = notN 1 ∨ s = inN ∨ s = notN 0 := by simpa [xl1] using hs
    rcases this with rfl | rfl | rfl <;> decide
set_option maxRecDepth 100000 in
theorem net2 {w W : World} {A1 A2 : Option Addr} {c1 c2 : Nat} (hC1 : Kd.C (Kd.int .i64) w A1 1 [1]) (hC2 : Kd.C (Kd.int .i64) w A2 1 [0]) (h1 : 1 ≤ c1) (h2 : 1 ≤ c2)
    (h : (w.alloc (.cells #[.int .i64 3, .int .i64 7, .int .i64 1, .slice A1 1 c1, .string ⟨#[]⟩, .int .i64 0, .int .i64 0, .int .i64 0, .int .i64 3, .int .i64 7, .int .i64 1, .slice A2 1 c2, .string ⟨#[]⟩, .int .i64 0, .int .i64 0, .int .i64 0] 39)).alloc (.cells #[.slice (some ⟨w.heap.size, 0, none⟩) 2 2, .slice none 0 0, .int .i64 0] 25) = W) :
    NIn W xl2 (some ⟨w.heap.size, 0, none⟩) 2 none 0 ∧ LBx W (w.heap.size + 1) 2 0 0 (some ⟨w.heap.size, 0, none⟩) 2 none 0 ∧ Below w.heap.size w W := by
  have hb : Below w.heap.size w W := by
    rw [← h]
    exact (below_alloc (Below.refl _ _) _).alloc (by simp) _
  refine ⟨⟨nodes_C (by decide) (fun j hj => ?_), Kd.C_nil _ _, by decide, by decide, ?_, ?_, by decide⟩, ⟨by rw [← h]; simp [go_sem], by rw [← h]; simp [go_sem], by rw [← h]; simp [go_sem]⟩, hb⟩
  · have hj' : j < 2 := hj
    have : j = 0 ∨ j = 1 := by omega
    rcases this with rfl | rfl
    · refine ⟨A1, c1, ⟨?_, ?_, ?_, ?_, ?_, ?_, ?_, ?_, Kd.C_below hC1 hb⟩, h1⟩ <;> (rw [← h]; simp [go_sem, xl2, notN, inN])
    · refine ⟨A2, c2, ⟨?_, ?_, ?_, ?_, ?_, ?_, ?_, ?_, Kd.C_below hC2 hb⟩, h2⟩ <;> (rw [← h]; simp [go_sem, xl2, notN, inN])
  · intro s hs
    have : s = notN 1 ∨ s = notN 0 := by simpa [xl2] using hs
    rcases this with rfl | rfl <;> decide
  · intro s hs
    have : s = notN 1 ∨ s = notN 0 := by simpa [xl2] using hs
    rcases this with rfl | rfl <;> decide
set_option maxRecDepth 100000 in
set_option maxHeartbeats 8000000 in
theorem awake_any (w : World) : Calls Tryd.prog 12 #[] w fun e w' => e = .returned (.bool true) ∧ Below w.heap.size w w' := by
  go_enter Tryd.func12, Tryd.ntmps12
  go_wp2_with fail
  refine (not_any 1 _).mono ?_
  rintro e w1 ⟨A1, c1, rfl, hc1, hC1, hb1⟩
  have HB1 := Lib.hid hb1
  have HC1 := Lib.hid hC1
  have HL1 := Lib.hid hc1
  clear hb1 hC1 hc1
  go_wp2_with fail
  refine (not_any 0 _).mono ?_
  rintro e w2 ⟨A2, c2, rfl, hc2, hC2, hb2⟩
  have HB2 := Lib.hid (HB1.out.trans (hb2.mono HB1.out.size))
  have HC1 := Lib.hid (Kd.C_below HC1.out hb2)
  have HC2 := Lib.hid hC2
  have HL2 := Lib.hid hc2
  clear hb2 hC2 hc2
  go_upto_region 2 with fail
  obtain ⟨W3, hW3⟩ : ∃ W, ((w2.alloc (.cells #[.int .i64 3, .int .i64 7, .int .i64 1, .slice A1 1 c1, .string ⟨#[]⟩, .int .i64 0, .int .i64 0, .int .i64 0, .int .i64 2, .int .i64 0, .int .i64 1, .slice none 0 0, .string ⟨#[]⟩, .int .i64 0, .int .i64 0, .int .i64 0, .int .i64 3, .int .i64 7, .int .i64 1, .slice A2 1 c2, .string ⟨#[]⟩, .int .i64 0, .int .i64 0, .int .i64 0] 39)).alloc (.cells #[.int .i64 1, .int .i64 2] 3)).alloc (.cells #[.slice (some ⟨w2.heap.size, 0, none⟩) 3 3, .slice (some ⟨w2.heap.size + 1, 0, none⟩) 2 2, .int .i64 2] 25) = W := ⟨_, rfl⟩
  rw [hW3]
  obtain ⟨hn1, hx1, hb3⟩ := net1 HC1.out HC2.out HL1.out HL2.out hW3
  have HN1 := Lib.hid hn1
  have HX1 := Lib.hid hx1
  have HB3 := Lib.hid (HB2.out.trans (hb3.mono HB2.out.size))
  have hr1 := run_any xl1 _ _ _ _ W3 hn1
  have HR1 := Lib.hid hr1
  obtain ⟨q0, q1, q2⟩ := HX1.out
  clear hn1 hx1 hb3 hW3 hr1
  go_wp2_with fail
  refine HR1.out.mono ?_
  rintro e w4 ⟨hb4, hcs⟩
  have HB4 := Lib.hid (HB3.out.trans (hb4.mono HB3.out.size))
  have HN4 := Lib.hid (HN1.out.below hb4)
  have HX4 := Lib.hid (HX1.out.below hb4)
  rcases hcs with ⟨hm, -⟩ | ⟨-, out, done, cnt, hres, hcs⟩
  · rw [may1] at hm; cases hm
  rcases hcs with ⟨hc, -⟩ | ⟨-, D, hD, rfl, hO⟩
  · have := (res1 hres).1
    have hc' : cnt < 3 := hc
    omega
  obtain ⟨-, ho0, ho1, ho2⟩ := res1 hres
  have d0 := hO.c 0 (by decide)
  have d1 := hO.c 1 (by decide)
  have d2 := hO.c 2 (by decide)
  rw [ho0] at d0
  rw [ho1] at d1
  rw [ho2] at d2
  have HD0 := Lib.hid d0
  have HD1 := Lib.hid d1
  have HD2 := Lib.hid d2
  clear hb4 hres hD hO ho0 ho1 ho2 d0 d1 d2 q0 q1 q2
  go_wp2_with fail
  refine (not_any 1 _).mono ?_
  rintro e w5 ⟨A3, c3, rfl, hc3, hC3, hb5⟩
  have HB5 := Lib.hid hb5
  have HC3 := Lib.hid hC3
  have HL3 := Lib.hid hc3
  clear hb5 hC3 hc3
  go_wp2_with fail
  refine (not_any 0 _).mono ?_
  rintro e w6 ⟨A4, c4, rfl, hc4, hC4, hb6⟩
  have HB6 := Lib.hid (HB5.out.trans (hb6.mono HB5.out.size))
  have HC3 := Lib.hid (Kd.C_below HC3.out hb6)
  have HC4 := Lib.hid hC4
  have HL4 := Lib.hid hc4
  clear hb6 hC4 hc4
  go_upto_region 4 with fail
  obtain ⟨W7, hW7⟩ : ∃ W, (w6.alloc (.cells #[.int .i64 3, .int .i64 7, .int .i64 1, .slice A3 1 c3, .string ⟨#[]⟩, .int .i64 0, .int .i64 0, .int .i64 0, .int .i64 3, .int .i64 7, .int .i64 1, .slice A4 1 c4, .string ⟨#[]⟩, .int .i64 0, .int .i64 0, .int .i64 0] 39)).alloc (.cells #[.slice (some ⟨w6.heap.size, 0, none⟩) 2 2, .slice none 0 0, .int .i64 0] 25) = W := ⟨_, rfl⟩
  rw [hW7]
  obtain ⟨hn2, hx2, hb7⟩ := net2 HC3.out HC4.out HL3.out HL4.out hW7
  have HB7 := Lib.hid (HB6.out.trans (hb7.mono HB6.out.size))
  have HN2 := Lib.hid hn2
  have HX2 := Lib.hid hx2
  have hr2 := run_any xl2 _ _ _ _ W7 hn2
  have HR2 := Lib.hid hr2
  obtain ⟨q0, q1, q2⟩ := HX2.out
  clear hn2 hx2 hb7 hW7 hr2
  go_wp2_with fail
  refine HR2.out.mono ?_
  rintro e w8 ⟨hb8, hcs⟩
  have HB8 := Lib.hid (HB7.out.trans (hb8.mono HB7.out.size))
  have HBs := Lib.hid (HB4.out.trans (HB8.out.mono HB4.out.size))
  have HN8 := Lib.hid (HN2.out.below hb8)
  have HX8 := Lib.hid (HX2.out.below hb8)
  have HNa := Lib.hid (HN4.out.below HB8.out)
  have HXa := Lib.hid (HX4.out.below HB8.out)
  rcases hcs with ⟨hm, -⟩ | ⟨-, out', done', cnt', hres, hcs⟩
  · rw [may2] at hm; cases hm
  rcases hcs with ⟨-, rfl⟩ | ⟨hc, -⟩
  case inr =>
    have := res2 hres
    have hc' : cnt' = 2 := hc
    omega
  have hl2 := fun W hW => loop_any xl2 _ _ _ _ W (HN8.out.below hW)
  have hl1 := fun W hW => loop_any xl1 _ _ _ _ W (HNa.out.below hW)
  have HLo2 := Lib.hid hl2
  have HLo1 := Lib.hid hl1
  have dd0 := (HB8.out.cell (p := ⟨D, 0, none⟩) (World.block_lt_of_cell? _ _ HD0.out)).trans HD0.out
  have dd1 := (HB8.out.cell (p := ⟨D, 1, none⟩) (World.block_lt_of_cell? _ _ HD1.out)).trans HD1.out
  have dd2 := (HB8.out.cell (p := ⟨D, 2, none⟩) (World.block_lt_of_cell? _ _ HD2.out)).trans HD2.out
  obtain ⟨s0, s1, s2⟩ := HX8.out
  clear hb8 hres q0 q1 q2 hl1 hl2
  go_wp2_with fail
  refine (HLo2.out w8 (Below.refl _ _)).mono ?_
  rintro e w9 ⟨hb9, hcs⟩
  rcases hcs with ⟨hm, -⟩ | ⟨-, out2, done2, cnt2, hres2, hcs⟩
  · rw [may2] at hm; cases hm
  rcases hcs with ⟨hc, -⟩ | ⟨-, p, Ap, cp, rfl, -, hlo, -⟩
  · have := res2 hres2
    have hc' : cnt2 = 2 := hc
    omega
  have hpl := loop2 hlo
  have HB9 := Lib.hid (HBs.out.trans (hb9.mono HBs.out.size))
  have HXb := Lib.hid (HXa.out.below hb9)
  have HB89 := Lib.hid hb9
  obtain ⟨t0, t1, t2⟩ := HXb.out
  clear hb9 hres2 hlo s0 s1 s2 dd0 dd1 dd2
  go_wp2_with fail
  refine (HLo1.out w9 HB89.out).mono ?_
  rintro e wa ⟨hba, hcs⟩
  rcases hcs with ⟨hm, -⟩ | ⟨-, out3, done3, cnt3, hres3, hcs⟩
  · rw [may1] at hm; cases hm
  rcases hcs with ⟨-, rfl⟩ | ⟨hc, -⟩
  case inr =>
    have := (res1 hres3).1
    have hc' : cnt3 < 3 := hc
    omega
  have HBa := Lib.hid (HB9.out.trans (hba.mono HB9.out.size))
  clear hba hres3
  go_wp2_with fail
  go_ret
  exact ⟨by try rfl, HBa.out⟩
end Go.Proofs.YtonnmkhmhndalaaDoor
