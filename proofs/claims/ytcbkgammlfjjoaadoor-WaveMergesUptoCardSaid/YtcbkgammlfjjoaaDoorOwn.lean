/- own, walked. -/
import Derived.Test.YtcbkgammlfjjoaaDoorWb
import Derived.Deep.RegionHeld3
import Derived.Deep.RegionWith
namespace Go.Proofs.YtcbkgammlfjjoaaDoor
set_option linter.unusedVariables false
set_option linter.unusedSimpArgs false
open Go.RowKit Go.Proofs.YtcbkgammlfjjoaaDoorW.PrintWords Go.Proofs.YtcbkgammlfjjoaaDoorW.PrintLast Go.Proofs.YtcbkgammlfjjoaaDoorW.PrintMore

/-- a row of one's own, as an argument -/
theorem R_in {α : Type} {d : Kd α} {e base : Nat} {ok : Nat → Prop} {w : World} {v : Value} {xs : List α} (h : d.R e w base ok v xs) :
    ∃ A c, v = .slice A xs.length c ∧ xs.length ≤ c ∧ d.C w A xs.length xs ∧ AF A := by
  obtain ⟨A, c, rfl, hc, hC⟩ := Kd.R_reads h
  refine ⟨A, c, rfl, hc, hC, ?_⟩
  obtain ⟨inner, ho⟩ := Kd.R_own h
  rcases ho.2 with ⟨h1, _⟩ | ⟨g, cap, cur, h1, _⟩
  · injection h1 with h1
    exact Or.inl h1
  · injection h1 with h1
    exact Or.inr ⟨g, 0, h1⟩
structure OwnIn (w0 w : World) (x : WV) (l : List S59) (v0 v1 v2 v3 : Value) : Prop where
  r0 : Kd.R Kd.string 9 w w0.heap.size (fun _ => True) v0 x.nm
  r1 : Kd.R (Kd.int .i64) 3 w w0.heap.size (fun _ => True) v1 x.wd
  r2 : Kd.R Kd.string 9 w w0.heap.size (fun _ => True) v2 x.fi
  r3 : Kd.R k59 59 w w0.heap.size (fun _ => True) v3 l
def OwnP (x : WV) (l : List S59) (w : World) (e : Ending) (w' : World) : Prop := ∃ v0 v1 v2 v3, e = .returned (.agg #[v0, v1, v2, v3]) ∧ Below w.heap.size w w' ∧ OwnIn w w' x l v0 v1 v2 v3
theorem R_off {α : Type} {d : Kd α} {e base b o : Nat} {w : World} {v u : Value} {xs : List α} (h : d.R e w base (fun _ => True) v xs) (hb : b < base) : d.R e (w.setCell ⟨b, o, none⟩ u) base (fun _ => True) v xs :=
  Kd.R_mono (Kd.R_far (Kd.R_bound h) (fun k hk => by have := hk.2.1; show k ≠ b; omega) u) (fun _ _ => trivial)
theorem below_set2 {B : Nat} {w W : World} {b o : Nat} {v : Value} (hb : B ≤ b) (h : Below B w W) : Below B w (W.setCell ⟨b, o, none⟩ v) := h.setCell hb v
theorem bcell {W w1 : World} (hb : Below W.heap.size W w1) : (∀ b o, b < W.heap.size → w1.cell? ⟨b, o, none⟩ = W.cell? ⟨b, o, none⟩) ∧ (∀ b o, b < W.heap.size → w1.frozen? ⟨b, o, none⟩ = W.frozen? ⟨b, o, none⟩) :=
  ⟨fun b o h => hb.cell (p := ⟨b, o, none⟩) h, fun b o h => hb.frozen (p := ⟨b, o, none⟩) h⟩
set_option maxRecDepth 100000 in
set_option maxHeartbeats 4000000 in
theorem own_any (x : WV) (A0 : Option Addr) (c0 : Nat) (A1 : Option Addr) (c1 : Nat) (A2 : Option Addr) (c2 : Nat) (A3 : Option Addr) (c3 : Nat) (B : Option Addr) (cb : Nat) (l : List S59) (w : World)
    (hI : WIn w x A0 c0 A1 c1 A2 c2 A3 c3) (hB : AF B) (hl : Kd.C k59 w B l.length l) (hlb : l.length * 32 ≤ 140737488355328) (h0 : x.nm.length ≤ 4096) (h1 : x.wd.length ≤ 4096) (h2 : x.fi.length ≤ 4096) :
    Calls Tryd.prog 48 #[wvV x A0 c0 A1 c1 A2 c2 A3 c3, .slice B l.length cb] w (OwnP x l w) := by
  have HI := Lib.hid hI
  have HL := Lib.hid hl
  have HLb := Lib.hid hlb
  have H0 := Lib.hid h0
  have H1 := Lib.hid h1
  have H2 := Lib.hid h2
  have HB := Lib.hid hB
  clear hI hl hlb h0 h1 h2 hB
  go_enter Tryd.func48, Tryd.ntmps48
  go_wp2_with fail
  obtain ⟨W, hW⟩ : ∃ W, ((w.alloc (Obj.cells #[Value.slice A0 x.nm.length c0, Value.slice A1 x.wd.length c1, Value.slice A2 x.fi.length c2, Value.slice A3 x.li.length c3] 26)).alloc (.cells #[.slice none 0 0, .slice none 0 0, .slice none 0 0, .slice none 0 0] 26)) = W := ⟨_, rfl⟩
  have hb1 : Below w.heap.size w W := by rw [← hW]; exact below_alloc (below_alloc (Below.refl _ _) _) _
  have hs1 : W.heap.size = w.heap.size + 2 := by rw [← hW]; simp
  have c_0 : W.cell? ⟨w.heap.size, 0, none⟩ = some (.slice A0 x.nm.length c0) := by rw [← hW]; simp [go_sem]
  have c_1 : W.cell? ⟨w.heap.size, 1, none⟩ = some (.slice A1 x.wd.length c1) := by rw [← hW]; simp [go_sem]
  have c_2 : W.cell? ⟨w.heap.size, 2, none⟩ = some (.slice A2 x.fi.length c2) := by rw [← hW]; simp [go_sem]
  have d_0 : W.cell? ⟨w.heap.size + 1, 0, none⟩ = some (.slice none 0 0) ∧ W.frozen? ⟨w.heap.size + 1, 0, none⟩ = false := by rw [← hW]; constructor <;> simp [go_sem]
  have d_1 : W.cell? ⟨w.heap.size + 1, 1, none⟩ = some (.slice none 0 0) ∧ W.frozen? ⟨w.heap.size + 1, 1, none⟩ = false := by rw [← hW]; constructor <;> simp [go_sem]
  have d_2 : W.cell? ⟨w.heap.size + 1, 2, none⟩ = some (.slice none 0 0) ∧ W.frozen? ⟨w.heap.size + 1, 2, none⟩ = false := by rw [← hW]; constructor <;> simp [go_sem]
  have d_3 : W.cell? ⟨w.heap.size + 1, 3, none⟩ = some (.slice none 0 0) ∧ W.frozen? ⟨w.heap.size + 1, 3, none⟩ = false := by rw [← hW]; constructor <;> simp [go_sem]
  rw [hW]
  clear hW
  have HX := Lib.hid (HI.out.below hb1)
  have HLW := Lib.hid (Kd.C_below HL.out hb1)
  have HB1 := Lib.hid hb1
  have HS1 := Lib.hid hs1
  clear hb1 hs1
  obtain ⟨x00, y00⟩ := d_0
  obtain ⟨x01, y01⟩ := d_1
  obtain ⟨x02, y02⟩ := d_2
  obtain ⟨x03, y03⟩ := d_3
  have z1 : w.heap.size < W.heap.size := by rw [HS1.out]; omega
  have z2 : w.heap.size + 1 < W.heap.size := by rw [HS1.out]; omega
  have HN := Lib.hid (below_drew (Below.refl W.heap.size W))
  go_region_with (first
      | (go_at_call 68; refine (clone_int A1 c1 x.wd _ HX.out.a1 (Kd.C_below HX.out.h1 (by exact HN.out)) (by have := H1.out; omega)).mono ?_; rintro e w9 ⟨v1, rfl, hr1, hbb⟩; obtain ⟨G1, g1, rfl⟩ := Kd.R_slice hr1; have HQ1 := Lib.hid (Kd.R_lower hr1 HN.out.size); have hN := Lib.hid (HN.out.trans (hbb.mono HN.out.size)); have HY1 := Lib.hid hbb; obtain ⟨yc1, yf1⟩ := bcell hN.out; clear hr1 hbb HN; have HN := hN; clear hN)
      | (go_at_call_of 43 (Value.slice A0 x.nm.length c0); refine (clone_str A0 c0 x.nm _ HX.out.a0 (Kd.C_below HX.out.h0 (by exact HN.out)) (by have := H0.out; omega)).mono ?_; rintro e w8 ⟨v0, rfl, hr0, hbb⟩; obtain ⟨G0, g0, rfl⟩ := Kd.R_slice hr0; have HQ0 := Lib.hid (Kd.R_lower hr0 HN.out.size); have hN := Lib.hid (HN.out.trans (hbb.mono HN.out.size)); have HY0 := Lib.hid hbb; obtain ⟨yc0, yf0⟩ := bcell hN.out; clear hr0 hbb HN; have HN := hN; clear hN)
      | (go_at_call_of 43 (Value.slice A2 x.fi.length c2); refine (clone_str A2 c2 x.fi _ HX.out.a2 (Kd.C_below HX.out.h2 (by exact HN.out)) (by have := H2.out; omega)).mono ?_; rintro e w10 ⟨v2, rfl, hr2, hbb⟩; obtain ⟨G2, g2, rfl⟩ := Kd.R_slice hr2; have HQ2 := Lib.hid (Kd.R_lower hr2 HN.out.size); have hN := Lib.hid (HN.out.trans (hbb.mono HN.out.size)); have HY2 := Lib.hid hbb; obtain ⟨yc2, yf2⟩ := bcell hN.out; clear hr2 hbb HN; have HN := hN; clear hN)
      | (go_at_call 69; refine (clone_chg B cb l _ HB.out (Kd.C_below HLW.out (by exact HN.out)) HLb.out).mono ?_; rintro e w11 ⟨v3, rfl, hr3, hbb⟩; obtain ⟨G3, g3, rfl⟩ := Kd.R_slice hr3; have HQ3 := Lib.hid (Kd.R_lower hr3 HN.out.size); have hN := Lib.hid (HN.out.trans (hbb.mono HN.out.size)); have HY3 := Lib.hid hbb; obtain ⟨y0c, y0f⟩ := bcell hN.out; clear hr3 hbb HN; have HN := hN; clear hN))
  all_goals
    have hle : w.heap.size ≤ W.heap.size := by omega
    have q0 := Kd.R_below (Kd.R_below (Kd.R_below HQ0.out HY1.out) HY2.out) HY3.out
    have q1 := Kd.R_below (Kd.R_below HQ1.out HY2.out) HY3.out
    have q2 := Kd.R_below HQ2.out HY3.out
    have q3 := HQ3.out
    have HO : Hid (OwnIn w ((((w11.setCell ⟨w.heap.size + 1, 0, none⟩ (Value.slice G0 x.nm.length g0)).setCell ⟨w.heap.size + 1, 1, none⟩ (Value.slice G1 x.wd.length g1)).setCell ⟨w.heap.size + 1, 2, none⟩ (Value.slice G2 x.fi.length g2)).setCell ⟨w.heap.size + 1, 3, none⟩ (Value.slice G3 l.length g3)) x l (Value.slice G0 x.nm.length g0) (Value.slice G1 x.wd.length g1) (Value.slice G2 x.fi.length g2) (Value.slice G3 l.length g3)) :=
      Lib.hid ⟨Kd.R_lower (R_off (R_off (R_off (R_off q0 z2) z2) z2) z2) hle, Kd.R_lower (R_off (R_off (R_off (R_off q1 z2) z2) z2) z2) hle, Kd.R_lower (R_off (R_off (R_off (R_off q2 z2) z2) z2) z2) hle, Kd.R_lower (R_off (R_off (R_off (R_off q3 z2) z2) z2) z2) hle⟩
    have HBl : Hid (Below w.heap.size w ((((w11.setCell ⟨w.heap.size + 1, 0, none⟩ (Value.slice G0 x.nm.length g0)).setCell ⟨w.heap.size + 1, 1, none⟩ (Value.slice G1 x.wd.length g1)).setCell ⟨w.heap.size + 1, 2, none⟩ (Value.slice G2 x.fi.length g2)).setCell ⟨w.heap.size + 1, 3, none⟩ (Value.slice G3 l.length g3))) := by
      have h := HB1.out.trans (HN.out.mono HB1.out.size)
      exact Lib.hid (below_set2 (by omega) (below_set2 (by omega) (below_set2 (by omega) (below_set2 (by omega) h))))
    clear q0 q1 q2 q3
    have m0 : w11.cell? ⟨w.heap.size + 1, 0, none⟩ = some (.slice none 0 0) := (y0c _ _ z2).trans x00
    have m1 : w11.cell? ⟨w.heap.size + 1, 1, none⟩ = some (.slice none 0 0) := (y0c _ _ z2).trans x01
    have m2 : w11.cell? ⟨w.heap.size + 1, 2, none⟩ = some (.slice none 0 0) := (y0c _ _ z2).trans x02
    have m3 : w11.cell? ⟨w.heap.size + 1, 3, none⟩ = some (.slice none 0 0) := (y0c _ _ z2).trans x03
    go_wp2_with fail
    refine bodyPost_ret (v := .agg #[Value.slice G0 x.nm.length g0, Value.slice G1 x.wd.length g1, Value.slice G2 x.fi.length g2, Value.slice G3 l.length g3]) (by simp [results, Tryd.results48, go_sem, m0, m1, m2, m3]) rfl ⟨_, _, _, _, rfl, HBl.out, HO.out⟩
theorem own_any' (x : WV) (A0 : Option Addr) (c0 : Nat) (A1 : Option Addr) (c1 : Nat) (A2 : Option Addr) (c2 : Nat) (A3 : Option Addr) (c3 : Nat) (B : Option Addr) (n cb : Nat) (l : List S59) (w : World) (hn : l.length = n)
    (hI : WIn w x A0 c0 A1 c1 A2 c2 A3 c3) (hB : AF B) (hl : Kd.C k59 w B l.length l) (hlb : l.length * 32 ≤ 140737488355328) (h0 : x.nm.length ≤ 4096) (h1 : x.wd.length ≤ 4096) (h2 : x.fi.length ≤ 4096) :
    Calls Tryd.prog 48 #[wvV x A0 c0 A1 c1 A2 c2 A3 c3, .slice B n cb] w (OwnP x l w) := by
  subst hn
  exact own_any x A0 c0 A1 c1 A2 c2 A3 c3 B cb l w hI hB hl hlb h0 h1 h2
end Go.Proofs.YtcbkgammlfjjoaaDoor
