/- The document's queue: Put, walked. -/
import Derived.Test.YtebcbjmdkbmnkaaEvRefW
namespace Go.Proofs.Ytebcbjmdkbmnkaa
set_option linter.unusedVariables false
set_option linter.unusedSimpArgs false
open Go.RowKit

theorem boxes3 (w : World) (c0 c1 c2 : Array Value) (t0 t1 t2 : TypeId) :
    Below w.heap.size w (((w.alloc (.cells c0 t0)).alloc (.cells c1 t1)).alloc (.cells c2 t2)) ∧
    (((w.alloc (.cells c0 t0)).alloc (.cells c1 t1)).alloc (.cells c2 t2)).heap.size = w.heap.size + 3 ∧
    (((w.alloc (.cells c0 t0)).alloc (.cells c1 t1)).alloc (.cells c2 t2)).heap[w.heap.size]? = some (.cells c0 t0 (0, 0)) ∧
    (((w.alloc (.cells c0 t0)).alloc (.cells c1 t1)).alloc (.cells c2 t2)).heap[w.heap.size + 1]? = some (.cells c1 t1 (0, 0)) ∧
    (((w.alloc (.cells c0 t0)).alloc (.cells c1 t1)).alloc (.cells c2 t2)).heap[w.heap.size + 2]? = some (.cells c2 t2 (0, 0)) := by
  refine ⟨by go_grown, by simp, ?_, ?_, ?_⟩
  · rw [Below.heap_alloc _ _ _ (by simp; omega), Below.heap_alloc _ _ _ (by simp)]
    exact heap_alloc_new _ _
  · rw [Below.heap_alloc _ _ _ (by simp)]
    have := heap_alloc_new (w.alloc (.cells c0 t0)) (.cells c1 t1)
    simpa using this
  · have := heap_alloc_new ((w.alloc (.cells c0 t0)).alloc (.cells c1 t1)) (.cells c2 t2)
    simpa using this

/-- the result stands written -/
theorem res_done {wr : World} {R : Nat} {lim : Int} {v x0 x1 : Value} (h2 : wr.heap[R]? = some (.cells #[x0, x1] 42 (0, 0))) :
    ((wr.setCell ⟨R, 0, none⟩ (.int .i64 lim)).setCell ⟨R, 1, none⟩ v).heap[R]? = some (.cells #[.int .i64 lim, v] 42 (0, 0)) := by
  rw [blk_set (cs := #[.int .i64 lim, x1])]
  · rfl
  · rw [blk_set (cs := #[x0, x1])]
    · rfl
    · exact h2

def insE (x : Ev) : List Ev → List Ev
  | [] => [x]
  | y :: L => if lessE x y = true then x :: y :: L else y :: insE x L
theorem insE_len (x : Ev) (L : List Ev) : (insE x L).length = L.length + 1 := by
  induction L with
  | nil => rfl
  | cons y L ih => unfold insE; split <;> simp [ih]
def tailE (x : Ev) (d : Bool) (L : List Ev) : List Ev := if d = true then L else insE x L
def rputF (lim : Int) (L : List Ev) (x : Ev) : Int :=
  if x.t < 0 ∨ x.a = true then 1 else if 0 ≤ idxP (sameNo x.f x.s) L then 1 else if 4611686018427387903 < x.t then 140 else if lim ≤ L.length then 141 else 0
/-- what Put leaves -/
def RPut (w : World) (lim : Int) (L : List Ev) (x : Ev) (v : Value) (e : Ending) (w' : World) : Prop :=
  ∃ v', e = .returned (.tuple #[.agg #[.int .i64 lim, v'], .int .i64 (rputF lim L x)]) ∧ Below w.heap.size w w' ∧ ((rputF lim L x ≠ 0 ∧ v' = v) ∨ (rputF lim L x = 0 ∧ OR w.heap.size w' v' (insE x L)))

theorem rput_leave {w wr : World} {lim : Int} {L : List Ev} {x : Ev} {v x0 x1 : Value} {k : Int} (hk : rputF lim L x = k) (h0 : k ≠ 0) (hb : Below w.heap.size w wr) (h2 : wr.heap[w.heap.size + 2]? = some (.cells #[x0, x1] 42 (0, 0))) :
    RPut w lim L x v (.returned (.tuple #[.agg #[.int .i64 lim, v], .int .i64 k])) ((wr.setCell ⟨w.heap.size + 2, 0, none⟩ (.int .i64 lim)).setCell ⟨w.heap.size + 2, 1, none⟩ v) := by
  subst hk
  exact ⟨v, rfl, ((hb.setCell (p := ⟨w.heap.size + 2, 0, none⟩) (Nat.le_add_right _ _) _).setCell (p := ⟨w.heap.size + 2, 1, none⟩) (Nat.le_add_right _ _) _), .inl ⟨h0, rfl⟩⟩

theorem put_done {w w1 wr : World} {lim : Int} {v x0 x1 : Value} {M : List Ev} (hb1 : Below w.heap.size w w1) (hb : Below w1.heap.size w1 wr) (hs : w.heap.size + 3 ≤ w1.heap.size) (hv : OR w1.heap.size wr v M)
    (h2 : w1.heap[w.heap.size + 2]? = some (.cells #[x0, x1] 42 (0, 0))) :
    (((wr.setCell ⟨w.heap.size, 1, none⟩ v).setCell ⟨w.heap.size + 2, 0, none⟩ (.int .i64 lim)).setCell ⟨w.heap.size + 2, 1, none⟩ v).heap[w.heap.size + 2]? = some (.cells #[.int .i64 lim, v] 42 (0, 0)) ∧
    Below w.heap.size w (((wr.setCell ⟨w.heap.size, 1, none⟩ v).setCell ⟨w.heap.size + 2, 0, none⟩ (.int .i64 lim)).setCell ⟨w.heap.size + 2, 1, none⟩ v) ∧
    OR w.heap.size (((wr.setCell ⟨w.heap.size, 1, none⟩ v).setCell ⟨w.heap.size + 2, 0, none⟩ (.int .i64 lim)).setCell ⟨w.heap.size + 2, 1, none⟩ v) v M := by
  have hne : ∀ k, k < w1.heap.size → some k ≠ v.ownBlock := fun k hk e => by have := own_base hv _ e.symm; omega
  refine ⟨res_done (x0 := x0) (x1 := x1) ?_, ?_, ?_⟩
  · rw [Below.heap_setCell _ _ _ _ (by show w.heap.size + 2 ≠ w.heap.size; omega), hb.block _ (by omega)]
    exact h2
  · have h0 := hb1.trans (hb.mono hb1.size)
    exact ((h0.setCell (p := ⟨w.heap.size, 1, none⟩) (Nat.le_refl _) _).setCell (p := ⟨w.heap.size + 2, 0, none⟩) (Nat.le_add_right _ _) _).setCell (p := ⟨w.heap.size + 2, 1, none⟩) (Nat.le_add_right _ _) _
  · exact own_setCell' (own_setCell' (own_setCell' (own_lower hv (by omega)) (hne _ (by show w.heap.size < _; omega)) _) (hne _ (by show w.heap.size + 2 < _; omega)) _) (hne _ (by show w.heap.size + 2 < _; omega)) _


set_option maxRecDepth 100000 in
set_option maxHeartbeats 4000000 in
theorem rput_any (lim : Int) (A : Option Addr) (n c : Nat) (L : List Ev) (x : Ev) (w : World) (hL : L.length = n) (hn : n ≤ lim) (hm : lim ≤ 4096) (hR : Rd w A L) :
    Calls Try.prog 28 #[.agg #[.int .i64 lim, .slice A n c], .agg x.cs] w (RPut w lim L x (.slice A n c)) := by
  have HR := Lib.hid hR
  have HL := Lib.hid hL
  clear hR hL
  obtain ⟨xt, xn, xv, xf, xs, xa⟩ := x
  unfold Ev.cs
  dsimp only
  have hlv := boxes3 w #[.int .i64 lim, .slice A n c] #[.int .i64 xt, .int .i64 xn, .string xv, .int .i64 xf, .int .i64 xs, .bool xa] #[.int .i64 lim, .slice A n c] 42 30 42
  have Hlv := Lib.hid hlv
  clear hlv
  by_cases ht : xt < 0
  · have hf : Hid (rputF lim L ⟨xt, xn, xv, xf, xs, xa⟩ = 1) := by show _ = _; unfold rputF; rw [if_pos (.inl ht)]
    go_enter Try.func28, Try.ntmps28
    go_wp2
    exact bodyPost_ret (res_ct rfl _ _ (w.heap.size + 2) 42 _ (0, 0) _ rfl Hlv.out.2.2.2.2 Try.underlying42 rfl (size42 _ _)) rfl ⟨_, by rw [hf.out]; rfl, Hlv.out.1, .inl ⟨by rw [hf.out]; decide, rfl⟩⟩
  have ht2 : decide (xt < 0) = false := by simpa using ht
  cases xa with
  | true =>
    have hf : Hid (rputF lim L ⟨xt, xn, xv, xf, xs, true⟩ = 1) := by show _ = _; unfold rputF; rw [if_pos (.inr rfl)]
    clear ht
    go_enter Try.func28, Try.ntmps28
    go_wp2
    exact bodyPost_ret (res_ct rfl _ _ (w.heap.size + 2) 42 _ (0, 0) _ rfl Hlv.out.2.2.2.2 Try.underlying42 rfl (size42 _ _)) rfl ⟨_, by rw [hf.out]; rfl, Hlv.out.1, .inl ⟨by rw [hf.out]; decide, rfl⟩⟩
  | false =>
    have hf : rputF lim L ⟨xt, xn, xv, xf, xs, false⟩ = if 0 ≤ idxP (sameNo xf xs) L then 1 else if 4611686018427387903 < xt then 140 else if lim ≤ L.length then 141 else 0 := by
      unfold rputF
      rw [if_neg (by simpa using ht)]
    have Hf := Lib.hid hf
    clear hf Hlv ht
    have hb3 := boxes3 w #[.int .i64 lim, .slice A n c] #[.int .i64 xt, .int .i64 xn, .string xv, .int .i64 xf, .int .i64 xs, .bool false] #[.int .i64 0, .slice none 0 0] 42 30 42
    have Hb3 := Lib.hid hb3
    clear hb3
    go_enter Try.func28, Try.ntmps28
    go_wp2_with fail
    have hcl := find_any lim xf xs A n c L _ HL.out (by omega) (HR.out.below Hb3.out.1)
    generalize (((w.alloc (.cells #[.int .i64 lim, .slice A n c] 42)).alloc (.cells #[.int .i64 xt, .int .i64 xn, .string xv, .int .i64 xf, .int .i64 xs, .bool false] 30)).alloc (.cells #[.int .i64 0, .slice none 0 0] 42)) = W at *
    with_reducible refine hcl.mono ?_
    clear hcl
    rintro e w1 ⟨rfl, hb1⟩
    obtain ⟨hbb, hbs, hx0, hx1, hx2⟩ := Hb3.out
    have hr1 := HR.out.below (hbb.trans (hb1.mono hbb.size))
    have hb2 := hbb.trans (hb1.mono hbb.size)
    have hs2 := hb1.size
    replace hx0 := (hb1.block _ (by omega)).trans hx0
    replace hx1 := (hb1.block _ (by omega)).trans hx1
    replace hx2 := (hb1.block _ (by omega)).trans hx2
    have HR1 := Lib.hid hr1
    have Hb2 := Lib.hid hb2
    have Hx0 := Lib.hid hx0
    have Hx1 := Lib.hid hx1
    have Hx2 := Lib.hid hx2
    have Hs := Lib.hid (show w.heap.size + 3 ≤ w1.heap.size by omega)
    have y0 := blk_cell hx0 0
    have y1 := blk_cell hx0 1
    have e0 := blk_cell hx1 0
    have e1 := blk_cell hx1 1
    have e2 := blk_cell hx1 2
    have e3 := blk_cell hx1 3
    have e4 := blk_cell hx1 4
    have e5 := blk_cell hx1 5
    have f1 := blk_frozen hx0 1
    have z0 : w1.cell? ⟨w.heap.size + 1 + 1, 0, none⟩ = _ := blk_cell hx2 0
    have z1 : w1.cell? ⟨w.heap.size + 1 + 1, 1, none⟩ = _ := blk_cell hx2 1
    have g0 : w1.frozen? ⟨w.heap.size + 1 + 1, 0, none⟩ = _ := blk_frozen hx2 0
    have g1 : w1.frozen? ⟨w.heap.size + 1 + 1, 1, none⟩ = _ := blk_frozen hx2 1
    clear hr1 hb2 hx0 hx1 hx2 hb1 hbb hbs hs2 Hb3 HR
    by_cases hi : 0 ≤ idxP (sameNo xf xs) L
    · have hd : decide (0 ≤ idxP (sameNo xf xs) L) = true := by simpa using hi
      have hk := Hf.out
      rw [if_pos hi] at hk
      have Hk := Lib.hid hk
      clear hk hi
      go_wp2
      refine bodyPost_ret (res_ct rfl _ _ (w.heap.size + 2) 42 _ (0, 0) _ rfl (res_done Hx2.out) Try.underlying42 rfl (size42 _ _)) rfl ?_
      exact rput_leave Hk.out (by decide) Hb2.out Hx2.out
    have hd : decide (0 ≤ idxP (sameNo xf xs) L) = false := by simpa using hi
    by_cases hT : 4611686018427387903 < xt
    · have hd2 : decide (4611686018427387903 < xt) = true := by simpa using hT
      have hk := Hf.out
      rw [if_neg hi, if_pos hT] at hk
      have Hk := Lib.hid hk
      clear hk hi hT
      go_wp2
      refine bodyPost_ret (res_ct rfl _ _ (w.heap.size + 2) 42 _ (0, 0) _ rfl (res_done Hx2.out) Try.underlying42 rfl (size42 _ _)) rfl ?_
      exact rput_leave Hk.out (by decide) Hb2.out Hx2.out
    have hd2 : decide (4611686018427387903 < xt) = false := by simpa using hT
    by_cases hF : lim ≤ n
    · have hd3 : decide (lim ≤ n) = true := by simpa using hF
      have hk := Hf.out
      rw [if_neg hi, if_neg hT, if_pos (by rw [HL.out]; exact hF)] at hk
      have Hk := Lib.hid hk
      clear hk hi hT hF
      go_wp2
      refine bodyPost_ret (res_ct rfl _ _ (w.heap.size + 2) 42 _ (0, 0) _ rfl (res_done Hx2.out) Try.underlying42 rfl (size42 _ _)) rfl ?_
      exact rput_leave Hk.out (by decide) Hb2.out Hx2.out
    have hd3 : decide (lim ≤ n) = false := by simpa using hF
    have hk := Hf.out
    rw [if_neg hi, if_neg hT, if_neg (by rw [HL.out]; exact hF)] at hk
    have Hk := Lib.hid hk
    clear hk hi hT Hf
    have h00 : OR w1.heap.size w1 (.slice none 0 0) [] := ⟨rfl, .inl ⟨rfl, rfl⟩⟩
    have H00 := Lib.hid h00
    clear h00
    go_wp2
    clear y0 y1 e0 e1 e2 e3 e4 e5 f1 z0 z1 g0 g1
    go_loopw [6, 7, 8] (fun v dv iv wr => ∃ (i : Nat) (M : List Ev) (v0 : Value) (d : Bool), v0 = v ∧ dv = .bool d ∧ iv = .int .i64 i ∧ i ≤ n ∧ Hid (M ++ tailE ⟨xt, xn, xv, xf, xs, false⟩ d (L.drop i) = insE ⟨xt, xn, xv, xf, xs, false⟩ L) ∧ M.length ≤ i + d.toNat ∧ Hid (OR w1.heap.size wr v0 M) ∧ Hid (Below w1.heap.size w1 wr) ∧ Hid (w1.heap.size ≤ wr.heap.size)) (fun _ _ iv _ => n - (intOf iv).toNat)
    case atStart => exact ⟨0, [], _, false, rfl, rfl, rfl, Nat.zero_le _, rfl, Nat.zero_le _, H00, Below.refl _ _, Nat.le_refl _⟩
    case round =>
      clear H00
      obtain ⟨i, M, v0, d, rfl, rfl, rfl, hi, HM, hMl, HV, HB, HS⟩ := hrel
      by_cases hlt : i < n
      · have hrd0 := (HR1.out.below HB.out) (by rw [HL.out]; omega)
        obtain ⟨b, rfl, _, _⟩ := hrd0
        have hx0 := ((HB.out).block w.heap.size (by have := Hs.out; omega)).trans Hx0.out
        have hx1 := ((HB.out).block (w.heap.size + 1) (by have := Hs.out; omega)).trans Hx1.out
        have y0 := blk_cell hx0 0
        have y1 := blk_cell hx0 1
        have f1 := blk_frozen hx0 1
        have e0 := blk_cell hx1 0
        have e1 := blk_cell hx1 1
        have e2 := blk_cell hx1 2
        have e3 := blk_cell hx1 3
        have e4 := blk_cell hx1 4
        have e5 := blk_cell hx1 5
        clear hx0 hx1
        obtain ⟨b', hb', hbl, hx⟩ := (HR1.out.below (HB.out)) (by rw [HL.out]; omega)
        have hbb' := congrArg (fun a : Option Addr => (a.getD ⟨0, 0, none⟩).block) hb'
        dsimp only [Option.getD_some] at hbb'
        subst hbb'
        obtain ⟨x0, x1, x2, x3, x4, x5⟩ := hx i _ (evAt_some (by rw [HL.out]; exact hlt))
        clear hx hb' hbl
        cases d with
        | true =>
          have hMl' : M.length ≤ i + 1 := hMl
          go_wp2_with fail
          go_quiet (fail)
          have HBq : Hid (Below w1.heap.size w1 (wr.drewN nq)) := below_drewN HB.out nq
          have HVq : Hid (OR w1.heap.size (wr.drewN nq) v0 M) := HV.out
          have HSq : Hid (w1.heap.size ≤ (wr.drewN nq).heap.size) := HS.out
          have hM2 : Hid ((M ++ [evAt L i]) ++ tailE ⟨xt, xn, xv, xf, xs, false⟩ true (L.drop (i + 1)) = insE ⟨xt, xn, xv, xf, xs, false⟩ L) := by show _ = _; have := HM.out; rw [evAt_list (by rw [HL.out]; exact hlt)] at this; simpa [tailE] using this
          have hbA : Below w1.heap.size w1 ((wr.drewN nq).alloc (.cells #[.int .i64 (evAt L i).t, .int .i64 (evAt L i).n, .string (evAt L i).v, .int .i64 (evAt L i).f, .int .i64 (evAt L i).s, .bool (evAt L i).a] 30)) := HBq.out.alloc HSq.out _
          have HbA := Lib.hid hbA
          have hbl2 := heap_alloc_new (wr.drewN nq) (.cells #[.int .i64 (evAt L i).t, .int .i64 (evAt L i).n, .string (evAt L i).v, .int .i64 (evAt L i).f, .int .i64 (evAt L i).s, .bool (evAt L i).a] 30)
          have Hbl2 := Lib.hid hbl2
          clear hbA hbl2
          go_wp2_with (at_builtin; (refine list_app rfl (.tmp 59) (.tmp 65) rfl w1.heap.size w1 v0 (M) (evAt L i) (wr.drewN nq).heap.size (by simp [Act.eval, Act.put]) (World.ownsRow.alloc HVq.out _) (by simp [Act.eval, Act.put]) Hbl2.out (by omega) HbA.out (Nat.le_trans HSq.out (by simp)) ?_))
          intro v9 w9 hv9 hb9 hs9
          have Hv9 := Lib.hid hv9
          have Hb9 := Lib.hid hb9
          have Hs9 := Lib.hid hs9
          clear hv9 hb9 hs9
          go_wp2
          go_roundw
          case rel => exact ⟨i + 1, _, _, true, rfl, rfl, by go_num, by omega, hM2, by simp; omega, Hv9, Hb9, Hs9⟩
          case measure => simp [intOf]; omega
        | false =>
          go_wp2_with fail
          refine still_tail_of 9 (by kernel_rfl) (by kernel_rfl) (fun w3 => w3.heap = wr.heap ∧ Below w1.heap.size w1 w3) ⟨rfl, HB.out.drew⟩ ?_
          rintro w3 ⟨hh, hb3⟩
          clear y0 y1 f1 e0 e1 e2 e3 e4 e5 x0 x1 x2 x3 x4 x5
          have hx0 := ((hb3).block w.heap.size (by have := Hs.out; omega)).trans Hx0.out
          have hx1 := ((hb3).block (w.heap.size + 1) (by have := Hs.out; omega)).trans Hx1.out
          have y0 := blk_cell hx0 0
          have y1 := blk_cell hx0 1
          have f1 := blk_frozen hx0 1
          have e0 := blk_cell hx1 0
          have e1 := blk_cell hx1 1
          have e2 := blk_cell hx1 2
          have e3 := blk_cell hx1 3
          have e4 := blk_cell hx1 4
          have e5 := blk_cell hx1 5
          clear hx0 hx1
          obtain ⟨b', hb', hbl, hx⟩ := (HR1.out.below (hb3)) (by rw [HL.out]; omega)
          have hbb' := congrArg (fun a : Option Addr => (a.getD ⟨0, 0, none⟩).block) hb'
          dsimp only [Option.getD_some] at hbb'
          subst hbb'
          obtain ⟨x0, x1, x2, x3, x4, x5⟩ := hx i _ (evAt_some (by rw [HL.out]; exact hlt))
          clear hx hb' hbl
          simp only [List.take_succ_cons, List.take_zero, List.drop_succ_cons, List.drop_zero]
          repeat still_step
          refine wpStill_nil ?_
          go_wp2_with fail
          have hah := ahead_any ⟨xt, xn, xv, xf, xs, false⟩ (evAt L i) w3
          unfold Ev.cs at hah
          dsimp only at hah
          with_reducible refine hah.mono ?_
          clear hah
          rintro e w4 ⟨rfl, hb4⟩
          clear y0 y1 f1 e0 e1 e2 e3 e4 e5 x0 x1 x2 x3 x4 x5
          have hs3 : w1.heap.size ≤ w3.heap.size := by rw [hh]; exact HS.out
          have hs4 : w1.heap.size ≤ w4.heap.size := Nat.le_trans hs3 hb4.size
          have hB4 := hb3.trans (hb4.mono hs3)
          have hv3 : OR w1.heap.size w3 v0 M := by have := HV.out; unfold OR World.ownsRow at this ⊢; rw [hh]; exact this
          have hv4 : OR w1.heap.size w4 v0 M := by
            refine ⟨hv3.1, ?_⟩
            rcases hv3.2 with h3 | ⟨g', cap, cur, rfl, hb', hh', r⟩
            · exact .inl h3
            · exact .inr ⟨g', cap, cur, rfl, hb', (hb4.block g' (Array.getElem?_eq_some_iff.1 hh').1).trans hh', r⟩
          have hx0 := ((hB4).block w.heap.size (by have := Hs.out; omega)).trans Hx0.out
          have hx1 := ((hB4).block (w.heap.size + 1) (by have := Hs.out; omega)).trans Hx1.out
          have y0 := blk_cell hx0 0
          have y1 := blk_cell hx0 1
          have f1 := blk_frozen hx0 1
          have e0 := blk_cell hx1 0
          have e1 := blk_cell hx1 1
          have e2 := blk_cell hx1 2
          have e3 := blk_cell hx1 3
          have e4 := blk_cell hx1 4
          have e5 := blk_cell hx1 5
          clear hx0 hx1
          obtain ⟨b', hb', hbl, hx⟩ := (HR1.out.below (hB4)) (by rw [HL.out]; omega)
          have hbb' := congrArg (fun a : Option Addr => (a.getD ⟨0, 0, none⟩).block) hb'
          dsimp only [Option.getD_some] at hbb'
          subst hbb'
          obtain ⟨x0, x1, x2, x3, x4, x5⟩ := hx i _ (evAt_some (by rw [HL.out]; exact hlt))
          clear hx hb' hbl
          have HB4 := Lib.hid hB4
          have HV4 := Lib.hid hv4
          have HS4 := Lib.hid hs4
          clear hv3 hv4 hB4 hs3 hs4 hb3 hb4 hh
          have hMl0 : M.length ≤ i := hMl
          cases hle : lessE ⟨xt, xn, xv, xf, xs, false⟩ (evAt L i) with
          | true =>
            have Hle := Lib.hid hle
            clear hle
            have hbA : Below w1.heap.size w1 (w4.alloc (.cells #[.int .i64 xt, .int .i64 xn, .string xv, .int .i64 xf, .int .i64 xs, .bool false] 30)) := HB4.out.alloc HS4.out _
            have HbA := Lib.hid hbA
            have hbl2 := heap_alloc_new w4 (.cells #[.int .i64 xt, .int .i64 xn, .string xv, .int .i64 xf, .int .i64 xs, .bool false] 30)
            have Hbl2 := Lib.hid hbl2
            clear hbA hbl2
            go_wp2_with (at_builtin; (refine list_app rfl (.tmp 55) (.tmp 57) rfl w1.heap.size w1 v0 M ⟨xt, xn, xv, xf, xs, false⟩ w4.heap.size (by simp [Act.eval, Act.put]) (World.ownsRow.alloc HV4.out _) (by simp [Act.eval, Act.put]) Hbl2.out (by omega) HbA.out (Nat.le_trans HS4.out (by simp)) ?_))
            intro v5 w5 hv5 hb5 hs5
            obtain ⟨M5, hM5⟩ : ∃ M5, M5 = M ++ [(⟨xt, xn, xv, xf, xs, false⟩ : Ev)] := ⟨_, rfl⟩
            have hl5 : M5.length = M.length + 1 := by rw [hM5]; simp
            have hMl' : M.length ≤ i := hMl
            rw [← hM5] at hv5
            have HM5 := Lib.hid hM5
            clear hM5
            clear y0 y1 f1 e0 e1 e2 e3 e4 e5 x0 x1 x2 x3 x4 x5
            have hx0 := ((hb5).block w.heap.size (by have := Hs.out; omega)).trans Hx0.out
            have hx1 := ((hb5).block (w.heap.size + 1) (by have := Hs.out; omega)).trans Hx1.out
            have y0 := blk_cell hx0 0
            have y1 := blk_cell hx0 1
            have f1 := blk_frozen hx0 1
            have e0 := blk_cell hx1 0
            have e1 := blk_cell hx1 1
            have e2 := blk_cell hx1 2
            have e3 := blk_cell hx1 3
            have e4 := blk_cell hx1 4
            have e5 := blk_cell hx1 5
            clear hx0 hx1
            obtain ⟨b', hb', hbl, hx⟩ := (HR1.out.below (hb5)) (by rw [HL.out]; omega)
            have hbb' := congrArg (fun a : Option Addr => (a.getD ⟨0, 0, none⟩).block) hb'
            dsimp only [Option.getD_some] at hbb'
            subst hbb'
            obtain ⟨x0, x1, x2, x3, x4, x5⟩ := hx i _ (evAt_some (by rw [HL.out]; exact hlt))
            clear hx hb' hbl
            have Hv5 := Lib.hid hv5
            have Hb5 := Lib.hid hb5
            have Hs5 := Lib.hid hs5
            clear hv5 hb5 hs5 HbA Hbl2
            have hM2 : Hid ((M5 ++ [evAt L i]) ++ tailE ⟨xt, xn, xv, xf, xs, false⟩ true (L.drop (i + 1)) = insE ⟨xt, xn, xv, xf, xs, false⟩ L) := by show _ = _; have := HM.out; rw [evAt_list (by rw [HL.out]; exact hlt)] at this; rw [HM5.out]; simpa [tailE, insE, Hle.out] using this
            have hbA : Below w1.heap.size w1 (w5.alloc (.cells #[.int .i64 (evAt L i).t, .int .i64 (evAt L i).n, .string (evAt L i).v, .int .i64 (evAt L i).f, .int .i64 (evAt L i).s, .bool (evAt L i).a] 30)) := Hb5.out.alloc Hs5.out _
            have HbA := Lib.hid hbA
            have hbl2 := heap_alloc_new w5 (.cells #[.int .i64 (evAt L i).t, .int .i64 (evAt L i).n, .string (evAt L i).v, .int .i64 (evAt L i).f, .int .i64 (evAt L i).s, .bool (evAt L i).a] 30)
            have Hbl2 := Lib.hid hbl2
            clear hbA hbl2
            go_wp2_with (at_builtin; (refine list_app rfl (.tmp 59) (.tmp 65) rfl w1.heap.size w1 v5 M5 (evAt L i) w5.heap.size (by simp [Act.eval, Act.put]) (World.ownsRow.alloc Hv5.out _) (by simp [Act.eval, Act.put]) Hbl2.out (by omega) HbA.out (Nat.le_trans Hs5.out (by simp)) ?_))
            intro v9 w9 hv9 hb9 hs9
            have Hv9 := Lib.hid hv9
            have Hb9 := Lib.hid hb9
            have Hs9 := Lib.hid hs9
            clear hv9 hb9 hs9
            go_wp2
            go_roundw
            case rel => exact ⟨i + 1, _, _, true, rfl, rfl, by go_num, by omega, hM2, by simp; omega, Hv9, Hb9, Hs9⟩
            case measure => simp [intOf]; omega
          | false =>
            have hMl' : M.length ≤ i := hMl
            have Hle := Lib.hid hle
            clear hle
            have hM2 : Hid ((M ++ [evAt L i]) ++ tailE ⟨xt, xn, xv, xf, xs, false⟩ false (L.drop (i + 1)) = insE ⟨xt, xn, xv, xf, xs, false⟩ L) := by show _ = _; have := HM.out; rw [evAt_list (by rw [HL.out]; exact hlt)] at this; simpa [tailE, insE, Hle.out] using this
            have hbA : Below w1.heap.size w1 (w4.alloc (.cells #[.int .i64 (evAt L i).t, .int .i64 (evAt L i).n, .string (evAt L i).v, .int .i64 (evAt L i).f, .int .i64 (evAt L i).s, .bool (evAt L i).a] 30)) := HB4.out.alloc HS4.out _
            have HbA := Lib.hid hbA
            have hbl2 := heap_alloc_new w4 (.cells #[.int .i64 (evAt L i).t, .int .i64 (evAt L i).n, .string (evAt L i).v, .int .i64 (evAt L i).f, .int .i64 (evAt L i).s, .bool (evAt L i).a] 30)
            have Hbl2 := Lib.hid hbl2
            clear hbA hbl2
            go_wp2_with (at_builtin; (refine list_app rfl (.tmp 59) (.tmp 65) rfl w1.heap.size w1 v0 (M) (evAt L i) w4.heap.size (by simp [Act.eval, Act.put]) (World.ownsRow.alloc HV4.out _) (by simp [Act.eval, Act.put]) Hbl2.out (by omega) HbA.out (Nat.le_trans HS4.out (by simp)) ?_))
            intro v9 w9 hv9 hb9 hs9
            have Hv9 := Lib.hid hv9
            have Hb9 := Lib.hid hb9
            have Hs9 := Lib.hid hs9
            clear hv9 hb9 hs9
            go_wp2
            go_roundw
            case rel => exact ⟨i + 1, _, _, false, rfl, rfl, by go_num, by omega, hM2, by simp; omega, Hv9, Hb9, Hs9⟩
            case measure => simp [intOf]; omega
      · have hin : i = n := by omega
        subst hin
        have hx0 := ((HB.out).block w.heap.size (by have := Hs.out; omega)).trans Hx0.out
        have hx1 := ((HB.out).block (w.heap.size + 1) (by have := Hs.out; omega)).trans Hx1.out
        have y0 := blk_cell hx0 0
        have y1 := blk_cell hx0 1
        have f1 := blk_frozen hx0 1
        have e0 := blk_cell hx1 0
        have e1 := blk_cell hx1 1
        have e2 := blk_cell hx1 2
        have e3 := blk_cell hx1 3
        have e4 := blk_cell hx1 4
        have e5 := blk_cell hx1 5
        clear hx0 hx1
        have hx2 := (HB.out.block (w.heap.size + 2) (by have := Hs.out; omega)).trans Hx2.out
        have z0 : wr.cell? ⟨w.heap.size + 1 + 1, 0, none⟩ = _ := blk_cell hx2 0
        have z1 : wr.cell? ⟨w.heap.size + 1 + 1, 1, none⟩ = _ := blk_cell hx2 1
        have g0 : wr.frozen? ⟨w.heap.size + 1 + 1, 0, none⟩ = _ := blk_frozen hx2 0
        have g1 : wr.frozen? ⟨w.heap.size + 1 + 1, 1, none⟩ = _ := blk_frozen hx2 1
        have hd0 : L.drop i = [] := List.drop_of_length_le (by rw [HL.out]; exact Nat.le_refl _)
        cases d with
        | true =>
          have hM : M = insE ⟨xt, xn, xv, xf, xs, false⟩ L := by have := HM.out; rw [hd0] at this; simpa [tailE] using this
          subst hM
          have hv := HV.out
          obtain ⟨Av, cv, rfl⟩ := own_slice' hv
          have hdn := put_done (lim := lim) Hb2.out HB.out Hs.out hv Hx2.out
          have Hdn := Lib.hid hdn
          clear hdn hx2 hd0 hv
          go_wp2
          refine bodyPost_ret (res_ct rfl _ _ (w.heap.size + 2) 42 _ (0, 0) _ rfl Hdn.out.1 Try.underlying42 rfl (size42 _ _)) rfl ?_
          exact ⟨_, by rw [Hk.out]; rfl, Hdn.out.2.1, .inr ⟨Hk.out, Hdn.out.2.2⟩⟩
        | false =>
          have hM : Hid (M ++ [(⟨xt, xn, xv, xf, xs, false⟩ : Ev)] = insE ⟨xt, xn, xv, xf, xs, false⟩ L) := by show _ = _; have := HM.out; rw [hd0] at this; simpa [tailE, insE] using this
          have hMl0 : M.length ≤ i := hMl
          have hbA : Below w1.heap.size w1 (wr.alloc (.cells #[.int .i64 xt, .int .i64 xn, .string xv, .int .i64 xf, .int .i64 xs, .bool false] 30)) := HB.out.alloc HS.out _
          have HbA := Lib.hid hbA
          have hbl2 := heap_alloc_new wr (.cells #[.int .i64 xt, .int .i64 xn, .string xv, .int .i64 xf, .int .i64 xs, .bool false] 30)
          have Hbl2 := Lib.hid hbl2
          clear hbA hbl2 hx2 hd0
          go_wp2_with (at_builtin; (refine list_app rfl (.tmp 69) (.tmp 71) rfl w1.heap.size w1 v0 M ⟨xt, xn, xv, xf, xs, false⟩ wr.heap.size (by simp [Act.eval, Act.put]) (World.ownsRow.alloc HV.out _) (by simp [Act.eval, Act.put]) Hbl2.out (by omega) HbA.out (Nat.le_trans HS.out (by simp)) ?_))
          intro v5 w5 hv5 hb5 hs5
          rw [hM.out] at hv5
          clear y0 y1 f1 e0 e1 e2 e3 e4 e5 z0 z1 g0 g1
          have hx0 := ((hb5).block w.heap.size (by have := Hs.out; omega)).trans Hx0.out
          have hx1 := ((hb5).block (w.heap.size + 1) (by have := Hs.out; omega)).trans Hx1.out
          have y0 := blk_cell hx0 0
          have y1 := blk_cell hx0 1
          have f1 := blk_frozen hx0 1
          have e0 := blk_cell hx1 0
          have e1 := blk_cell hx1 1
          have e2 := blk_cell hx1 2
          have e3 := blk_cell hx1 3
          have e4 := blk_cell hx1 4
          have e5 := blk_cell hx1 5
          clear hx0 hx1
          have hx2 := (hb5.block (w.heap.size + 2) (by have := Hs.out; omega)).trans Hx2.out
          have z0 : w5.cell? ⟨w.heap.size + 1 + 1, 0, none⟩ = _ := blk_cell hx2 0
          have z1 : w5.cell? ⟨w.heap.size + 1 + 1, 1, none⟩ = _ := blk_cell hx2 1
          have g0 : w5.frozen? ⟨w.heap.size + 1 + 1, 0, none⟩ = _ := blk_frozen hx2 0
          have g1 : w5.frozen? ⟨w.heap.size + 1 + 1, 1, none⟩ = _ := blk_frozen hx2 1
          obtain ⟨Av, cv, rfl⟩ := own_slice' hv5
          have hdn := put_done (lim := lim) Hb2.out hb5 Hs.out hv5 Hx2.out
          have Hdn := Lib.hid hdn
          clear hdn hx2 hv5 hb5 hs5 HbA Hbl2
          go_wp2
          refine bodyPost_ret (res_ct rfl _ _ (w.heap.size + 2) 42 _ (0, 0) _ rfl Hdn.out.1 Try.underlying42 rfl (size42 _ _)) rfl ?_
          exact ⟨_, by rw [Hk.out]; rfl, Hdn.out.2.1, .inr ⟨Hk.out, Hdn.out.2.2⟩⟩
end Go.Proofs.Ytebcbjmdkbmnkaa
