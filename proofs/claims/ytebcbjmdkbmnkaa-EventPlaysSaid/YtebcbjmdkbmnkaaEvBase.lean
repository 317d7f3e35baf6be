/- Frames, rows of events in memory, and the contracts of order, Less and Swap, for every memory. -/
import Derived.Test.YtebcbjmdkbmnkaaRows
import Derived.WalkKit
import Derived.WalkSpells
import Derived.WalkLawsBesides
import Derived.Outline
import Derived.Deep.QuietTactic
import Derived.BigQuiet
import Derived.Deep.RegionWith
import Derived.Lib.Hide
import Derived.Handy
import Derived.StillTailTactics
namespace Go.Proofs.Ytebcbjmdkbmnkaa
set_option linter.unusedVariables false
set_option linter.unusedSimpArgs false
open Go.RowKit

structure Ev where
  t : Int
  n : Int
  v : ByteArray
  f : Int
  s : Int
  a : Bool
instance : Inhabited Ev := ⟨⟨0,0,⟨#[]⟩,0,0,false⟩⟩
def Ev.cs (e : Ev) : Array Value := #[.int .i64 e.t, .int .i64 e.n, .string e.v, .int .i64 e.f, .int .i64 e.s, .bool e.a]

def cmpI (a b : Int) : Int := if a < b then -1 else if b < a then 1 else 0

set_option maxHeartbeats 400000 in
theorem compare_any (a b : Int) (w : World) :
    Calls Try.prog 56 #[.int .i64 a, .int .i64 b] w fun e w' => e = .returned (.int .i64 (cmpI a b)) ∧ w = w' := by
  unfold cmpI
  by_cases h1 : a < b
  · go_enter Try.func56, Try.ntmps56
    go_wp2
    go_ret
    exact ⟨by simp [h1], rfl⟩
  · by_cases h2 : b < a
    · go_enter Try.func56, Try.ntmps56
      go_wp2
      go_ret
      exact ⟨by simp [h1, h2], rfl⟩
    · go_enter Try.func56, Try.ntmps56
      go_wp2
      go_ret
      exact ⟨by simp [h1, h2], rfl⟩

def orI (a b c d : Int) : Int := if a ≠ 0 then a else if b ≠ 0 then b else if c ≠ 0 then c else d
set_option maxHeartbeats 1000000 in
theorem or_any (a b c d : Int) (g : Nat) (w : World) (h0 : w.cell? ⟨g, 0, none⟩ = some (.int .i64 a)) (h1 : w.cell? ⟨g, 1, none⟩ = some (.int .i64 b))
   (h2 : w.cell? ⟨g, 2, none⟩ = some (.int .i64 c)) (h3 : w.cell? ⟨g, 3, none⟩ = some (.int .i64 d)) :
    Calls Try.prog 55 #[.slice (some ⟨g, 0, none⟩) 4 4] w fun e w' => e = .returned (.int .i64 (orI a b c d)) ∧ w = w' := by
  have hg : ∀ x : Int, x = 0 → orI a b c d = orI a b c d := fun _ _ => rfl
  by_cases ha : a = 0
  · by_cases hb : b = 0
    · by_cases hc : c = 0
      · by_cases hd : d = 0
        · have : orI a b c d = 0 := by simp [orI, *]
          rw [this]
          clear this hg
          subst ha hb hc hd
          go_enter Try.func55, Try.ntmps55
          go_wp2
          go_rounds 5
          go_ret; exact ⟨rfl, rfl⟩
        · have : orI a b c d = d := by simp [orI, *]
          rw [this]
          clear this hg
          subst ha hb hc
          go_enter Try.func55, Try.ntmps55
          go_wp2
          go_rounds 5
          go_ret; exact ⟨rfl, rfl⟩
      · have : orI a b c d = c := by simp [orI, *]
        rw [this]
        clear this hg
        subst ha hb
        go_enter Try.func55, Try.ntmps55
        go_wp2
        go_rounds 5
        go_ret; exact ⟨rfl, rfl⟩
    · have : orI a b c d = b := by simp [orI, *]
      rw [this]
      clear this hg
      subst ha
      go_enter Try.func55, Try.ntmps55
      go_wp2
      go_rounds 5
      go_ret; exact ⟨rfl, rfl⟩
  · have : orI a b c d = a := by simp [orI, *]
    rw [this]
    clear this hg
    go_enter Try.func55, Try.ntmps55
    go_wp2
    go_rounds 5
    go_ret; exact ⟨rfl, rfl⟩


theorem still_tail_of {P : Program} {id : Nat} {Q : Exit → Act → World → Prop} {a : Act} {w : World} {l : List Oper} (n : Nat) (hm : P.follows .mixedOrders = true) (hB : Region.lexTailB .any l.toArray n = true)
    (F : World → Prop) (hF : F w.drew)
    (h : ∀ w2, F w2 → wpStill P l.toArray w2 (fun a' => wpList P l.toArray Q (l.drop n) a' w2) (l.take n) a) : (Code.region id l.toArray true).wp P Q a w :=
  wp_region_still_tail n hm hB (h w.drew hF)

def ordE (x y : Ev) : Int := orI (cmpI x.t y.t) (cmpI x.n y.n) (cmpI x.f y.f) (cmpI x.s y.s)

set_option maxHeartbeats 1000000 in
theorem order_any (x y : Ev) (w : World) :
    Calls Try.prog 54 #[.agg x.cs, .agg y.cs] w fun e w' => e = .returned (.int .i64 (ordE x y)) ∧ Below w.heap.size w w' := by
  obtain ⟨xt, xn, xv, xf, xs, xa⟩ := x
  obtain ⟨yt, yn, yv, yf, ys, ya⟩ := y
  unfold ordE Ev.cs
  dsimp only
  go_enter Try.func54, Try.ntmps54
  go_wp2
  refine still_tail_of 20 (by kernel_rfl) (by kernel_rfl) (fun w3 => Below w.heap.size w w3 ∧ (∀ i, w3.cell? ⟨w.heap.size, i, none⟩ = #[.int .i64 xt, .int .i64 xn, .string xv, .int .i64 xf, .int .i64 xs, .bool xa][i]?) ∧
    (∀ i, w3.cell? ⟨w.heap.size + 1, i, none⟩ = #[.int .i64 yt, .int .i64 yn, .string yv, .int .i64 yf, .int .i64 ys, .bool ya][i]?)) ⟨by go_grown, by simp [go_sem], by simp [go_sem]⟩ ?_
  rintro w3 ⟨hb, hx0, hy0⟩
  simp only [List.take_succ_cons, List.take_zero, List.drop_succ_cons, List.drop_zero]
  repeat (first | still_step | still_call ((compare_any _ _ _).mono fun _ _ h => ⟨h.1, h.2.symm⟩))
  refine wpStill_nil ?_
  clear hx0 hy0
  go_wp2_with fail
  refine (or_any (cmpI xt yt) (cmpI xn yn) (cmpI xf yf) (cmpI xs ys) w3.heap.size _ ?_ ?_ ?_ ?_).mono ?_
  · simp [go_sem]
  · simp [go_sem]
  · simp [go_sem]
  · simp [go_sem]
  rintro e w' ⟨rfl, rfl⟩
  go_wp2
  go_ret
  refine ⟨rfl, ?_⟩
  exact hb.alloc hb.size _


/-- What a call may have turned: only blocks of S (and what is new). -/
structure Kp (S : Nat → Prop) (w w' : World) : Prop where
  os : w'.os = w.os
  tape : w'.tape = w.tape
  output : w'.output = w.output
  size : w.heap.size ≤ w'.heap.size
  block : ∀ k, k < w.heap.size → ¬ S k → w'.heap[k]? = w.heap[k]?

namespace Kp
variable {S S' : Nat → Prop} {a w w' : World}
theorem refl (S : Nat → Prop) (w : World) : Kp S w w := ⟨rfl, rfl, rfl, Nat.le_refl _, fun _ _ _ => rfl⟩
theorem trans {b c : World} (h : Kp S a b) (k : Kp S b c) : Kp S a c :=
  ⟨k.os.trans h.os, k.tape.trans h.tape, k.output.trans h.output, Nat.le_trans h.size k.size, fun i hi hs => (k.block i (Nat.lt_of_lt_of_le hi h.size) hs).trans (h.block i hi hs)⟩
/-- blocks that are new since the first world may be turned -/
theorem trans' {b c : World} (h : Kp S a b) (k : Kp S' b c) (hs : ∀ i, S' i → S i ∨ a.heap.size ≤ i) : Kp S a c :=
  ⟨k.os.trans h.os, k.tape.trans h.tape, k.output.trans h.output, Nat.le_trans h.size k.size, fun i hi hn => (k.block i (Nat.lt_of_lt_of_le hi h.size) (fun h' => by
    rcases hs i h' with h1 | h1
    · exact hn h1
    · omega)).trans (h.block i hi hn)⟩
theorem mono (h : Kp S w w') (hs : ∀ i, S i → S' i) : Kp S' w w' := ⟨h.os, h.tape, h.output, h.size, fun i hi hn => h.block i hi (fun h' => hn (hs i h'))⟩
theorem of_below (h : Below w.heap.size w w') (S : Nat → Prop) : Kp S w w' := ⟨h.os, h.tape, h.output, h.size, fun i hi _ => h.block i hi⟩
theorem below (h : Kp S w w') (hs : ∀ i, S i → w.heap.size ≤ i) : Below w.heap.size w w' := ⟨h.os, h.tape, h.output, h.size, fun i hi => h.block i hi (fun h' => by have := hs i h'; omega)⟩
theorem drew (h : Kp S a w) : Kp S a w.drew := ⟨h.os, h.tape, h.output, h.size, h.block⟩
theorem drewN (h : Kp S a w) (n : Nat) : Kp S a (w.drewN n) := ⟨h.os, h.tape, h.output, h.size, h.block⟩
theorem alloc (h : Kp S a w) (o : Obj) : Kp S a (w.alloc o) :=
  ⟨h.os, h.tape, h.output, Nat.le_trans h.size (by simp), fun i hi hn => (Below.heap_alloc w o i (Nat.lt_of_lt_of_le hi h.size)).trans (h.block i hi hn)⟩
theorem setCell (h : Kp S a w) {p : Addr} (hp : S p.block ∨ a.heap.size ≤ p.block) (u : Value) : Kp S a (w.setCell p u) :=
  ⟨h.os, h.tape, h.output, by simpa [World.setCell] using h.size, fun i hi hn => (Below.heap_setCell w p u i (by
    rintro rfl
    rcases hp with hp | hp
    · exact hn hp
    · omega)).trans (h.block i hi hn)⟩
theorem grown (h : Kp S a w) {row : Option Nat} (hg : w.grownBy w' row) (hr : ∀ k, row = some k → S k ∨ a.heap.size ≤ k) : Kp S a w' :=
  ⟨hg.os.trans h.os, hg.tape.trans h.tape, hg.output.trans h.output, Nat.le_trans h.size hg.size, fun i hi hn => (hg.block i (Nat.lt_of_lt_of_le hi h.size) (fun e => by
    rcases hr i e.symm with h1 | h1
    · exact hn h1
    · omega)).trans (h.block i hi hn)⟩
theorem blk (h : Kp S w w') {g : Nat} {o : Obj} (hg : w.heap[g]? = some o) (hs : ¬ S g) : w'.heap[g]? = some o :=
  (h.block g (Array.getElem?_eq_some_iff.1 hg).1 hs).trans hg
end Kp

theorem blk_set {w : World} {g : Nat} {t : TypeId} {cs : Array Value} (h : w.heap[g]? = some (.cells cs t (0, 0))) (i : Nat) (u : Value) : (w.setCell ⟨g, i, none⟩ u).heap[g]? = some (.cells (cs.setIfInBounds i u) t (0, 0)) := by
  simp [World.setCell, Array.getElem?_modify, h]
theorem blk_cell {w : World} {g : Nat} {t : TypeId} {cs : Array Value} (h : w.heap[g]? = some (.cells cs t (0, 0))) (i : Nat) : w.cell? ⟨g, i, none⟩ = cs[i]? := cell_of_row w g i cs t (0, 0) h
theorem blk_frozen {w : World} {g : Nat} {t : TypeId} {cs : Array Value} (h : w.heap[g]? = some (.cells cs t (0, 0))) (i : Nat) : w.frozen? ⟨g, i, none⟩ = false := by simp [World.frozen?, h]

def Ev.cl (e : Ev) : List Value := [.int .i64 e.t, .int .i64 e.n, .string e.v, .int .i64 e.f, .int .i64 e.s, .bool e.a]
def flat (L : List Ev) : List Value := L.flatMap Ev.cl
theorem cl_len (e : Ev) : e.cl.length = 6 := rfl
theorem flat_len (L : List Ev) : (flat L).length = L.length * 6 := by
  induction L with
  | nil => rfl
  | cons x L ih => simp only [flat, List.flatMap_cons, List.length_append, cl_len, List.length_cons] at ih ⊢; omega
theorem flat_get (L : List Ev) : ∀ (i : Nat) (x : Ev), L[i]? = some x → ∀ k, k < 6 → (flat L)[i * 6 + k]? = x.cl[k]? := by
  induction L with
  | nil => intro i x h; simp at h
  | cons y L ih =>
    intro i x h k hk
    simp only [flat, List.flatMap_cons]
    cases i with
    | zero =>
      simp at h; subst h
      rw [List.getElem?_append_left (by rw [cl_len]; omega), Nat.zero_mul, Nat.zero_add]
    | succ i =>
      rw [List.getElem?_append_right (by rw [cl_len]; omega), cl_len, show (i + 1) * 6 + k - 6 = i * 6 + k from by omega]
      exact ih i x (by simpa using h) k hk

/-- block b holds the events L (and room for c in all) -/
def Rw (w : World) (b c : Nat) (L : List Ev) : Prop :=
  L.length ≤ c ∧ c ≤ maxLen ∧ ∃ cur : Array Value, w.heap[b]? = some (.cells cur 30 (0, 0)) ∧ cur.size = c * 6 ∧ ∀ i x, L[i]? = some x → ∀ k, k < 6 → cur[i * 6 + k]? = x.cl[k]?

theorem take_flat {cur : List Value} {L : List Ev} {n : Nat} (hn : L.length * 6 ≤ cur.length) (h : ∀ i x, L[i]? = some x → ∀ k, k < 6 → cur[i * 6 + k]? = x.cl[k]?) : cur.take (L.length * 6) = flat L := by
  apply List.ext_getElem?
  intro m
  by_cases hm : m < L.length * 6
  · rw [List.getElem?_take, if_pos hm]
    have hi : m / 6 < L.length := by omega
    have h1 := h (m / 6) _ (List.getElem?_eq_getElem hi) (m % 6) (by omega)
    have h2 := flat_get L (m / 6) _ (List.getElem?_eq_getElem hi) (m % 6) (by omega)
    rw [show m / 6 * 6 + m % 6 = m from by omega] at h1 h2
    rw [h1, h2]
  · rw [List.getElem?_eq_none (by rw [List.length_take]; omega), List.getElem?_eq_none (by rw [flat_len]; omega)]

theorem Rw.own {w : World} {b c : Nat} {L : List Ev} (h : Rw w b c L) : w.ownsRow 0 30 6 (.slice (some ⟨b, 0, none⟩) L.length c) L.length (flat L) := by
  obtain ⟨h1, h2, cur, hb, hs, hc⟩ := h
  exact ⟨flat_len L, .inr ⟨b, c, cur, rfl, Nat.zero_le _, hb, h1, h2, hs, take_flat (n := 0) (by simp [hs]; omega) (by simpa using hc)⟩⟩

theorem Rw.of_own {w : World} {base b n c : Nat} {L : List Ev} (h : w.ownsRow base 30 6 (.slice (some ⟨b, 0, none⟩) n c) n (flat L)) : L.length = n ∧ Rw w b c L := by
  have hl : L.length = n := by have := h.1; rw [flat_len] at this; omega
  subst hl
  rcases h.2 with ⟨h1, _⟩ | ⟨g, cap, cur, he, _, hb, h1, h2, h3, h4⟩
  · cases h1
  · injection he with e1 e2 e3
    injection e1 with e1
    injection e1 with e1
    subst e1; subst e3
    refine ⟨rfl, h1, h2, cur, hb, h3, fun i x hx k hk => ?_⟩
    have hi : i < L.length := (List.getElem?_eq_some_iff.1 hx).1
    have := flat_get L i x hx k hk
    rw [← h4, List.getElem?_take, if_pos (by omega)] at this
    simpa using this

def EvAt (w : World) (b o : Nat) (x : Ev) : Prop :=
  w.cell? ⟨b, o, none⟩ = some (.int .i64 x.t) ∧ w.cell? ⟨b, o + 1, none⟩ = some (.int .i64 x.n) ∧ w.cell? ⟨b, o + 2, none⟩ = some (.string x.v) ∧
  w.cell? ⟨b, o + 3, none⟩ = some (.int .i64 x.f) ∧ w.cell? ⟨b, o + 4, none⟩ = some (.int .i64 x.s) ∧ w.cell? ⟨b, o + 5, none⟩ = some (.bool x.a)

theorem Rw.at_ {w : World} {b c : Nat} {L : List Ev} (h : Rw w b c L) {i : Nat} {x : Ev} (hx : L[i]? = some x) : EvAt w b (i * 6) x := by
  obtain ⟨h1, h2, cur, hb, hs, hc⟩ := h
  have := hc i x hx
  refine ⟨?_, ?_, ?_, ?_, ?_, ?_⟩ <;> rw [blk_cell hb]
  · exact this 0 (by omega)
  · exact this 1 (by omega)
  · exact this 2 (by omega)
  · exact this 3 (by omega)
  · exact this 4 (by omega)
  · exact this 5 (by omega)

def putEv (w : World) (b o : Nat) (y : Ev) : World :=
  (((((w.setCell ⟨b, o, none⟩ (.int .i64 y.t)).setCell ⟨b, o + 1, none⟩ (.int .i64 y.n)).setCell ⟨b, o + 2, none⟩ (.string y.v)).setCell ⟨b, o + 3, none⟩ (.int .i64 y.f)).setCell ⟨b, o + 4, none⟩ (.int .i64 y.s)).setCell ⟨b, o + 5, none⟩ (.bool y.a)

theorem Rw.put {w : World} {b c : Nat} {L : List Ev} (h : Rw w b c L) (i : Nat) (hi : i < L.length) (y : Ev) : Rw (putEv w b (i * 6) y) b c (L.set i y) := by
  obtain ⟨h1, h2, cur, hb, hs, hc⟩ := h
  refine ⟨by simpa using h1, h2, _, blk_set (blk_set (blk_set (blk_set (blk_set (blk_set hb _ _) _ _) _ _) _ _) _ _) _ _, by simpa using hs, ?_⟩
  intro m x hx k hk
  simp only [Array.getElem?_setIfInBounds, Array.size_setIfInBounds]
  by_cases hm : i = m
  · subst hm
    rw [List.getElem?_set_self hi] at hx
    injection hx with hx
    subst hx
    have h5 : ∀ q, q < 6 → i * 6 + q < cur.size := fun q hq => by omega
    rcases (by omega : k = 0 ∨ k = 1 ∨ k = 2 ∨ k = 3 ∨ k = 4 ∨ k = 5) with rfl | rfl | rfl | rfl | rfl | rfl
    all_goals simp [Ev.cl, h5 0 (by omega), h5 1 (by omega), h5 2 (by omega), h5 3 (by omega), h5 4 (by omega), h5 5 (by omega)]
    all_goals (have := h5 0 (by omega); simp at this; exact this)
  · rw [List.getElem?_set_ne hm] at hx
    have e : ∀ q, q < 6 → ¬ i * 6 + q = m * 6 + k := fun q hq => by omega
    rw [if_neg (e 5 (by omega)), if_neg (e 4 (by omega)), if_neg (e 3 (by omega)), if_neg (e 2 (by omega)), if_neg (e 1 (by omega)), if_neg (by have := e 0 (by omega); simpa using this)]
    exact hc m x hx k hk

theorem Rw.blk_eq {w w' : World} {b c : Nat} {L : List Ev} (h : Rw w b c L) (hb : w'.heap[b]? = w.heap[b]?) : Rw w' b c L := by
  obtain ⟨h1, h2, cur, h3, r⟩ := h
  exact ⟨h1, h2, cur, hb.trans h3, r⟩
theorem Rw.drew {w : World} {b c : Nat} {L : List Ev} (h : Rw w b c L) : Rw w.drew b c L := h
theorem Rw.lt {w : World} {b c : Nat} {L : List Ev} (h : Rw w b c L) : b < w.heap.size := by
  obtain ⟨h1, h2, cur, h3, r⟩ := h
  exact (Array.getElem?_eq_some_iff.1 h3).1
theorem Rw.frozen {w : World} {b c : Nat} {L : List Ev} (h : Rw w b c L) (o : Nat) : w.frozen? ⟨b, o, none⟩ = false := by
  obtain ⟨h1, h2, cur, h3, r⟩ := h
  exact blk_frozen h3 o


set_option maxHeartbeats 1000000 in
theorem less_any (x y : Ev) (b n c i j : Nat) (w : World) (hi : i < n) (hj : j < n) (hn : n ≤ 4096) (hx : EvAt w b (i * 6) x) (hy : EvAt w b (j * 6) y) :
    Calls Try.prog 52 #[.slice (some ⟨b, 0, none⟩) n c, .int .i64 i, .int .i64 j] w fun e w' => e = .returned (.bool (decide (ordE x y < 0))) ∧ Below w.heap.size w w' := by
  go_enter Try.func52, Try.ntmps52
  go_wp2
  refine still_tail_of 8 (by kernel_rfl) (by kernel_rfl) (fun w3 => Below w.heap.size w w3 ∧ EvAt w3 b (i * 6) x ∧ EvAt w3 b (j * 6) y)
    ⟨by go_grown, hx, hy⟩ ?_
  rintro w3 ⟨hb, ⟨x0, x1, x2, x3, x4, x5⟩, ⟨y0, y1, y2, y3, y4, y5⟩⟩
  simp only [List.take_succ_cons, List.take_zero, List.drop_succ_cons, List.drop_zero]
  repeat still_step
  refine wpStill_nil ?_
  clear x0 x1 x2 x3 x4 x5 y0 y1 y2 y3 y4 y5 hx hy
  go_wp2_with fail
  refine (order_any x y _).mono ?_
  rintro e w' ⟨rfl, hb2⟩
  go_wp2
  go_ret
  exact ⟨rfl, hb.trans (hb2.mono hb.size)⟩


def swapL (L : List Ev) (i j : Nat) : List Ev := (L.set i (L.getD j default)).set j (L.getD i default)

theorem set_self_ev {L : List Ev} {i : Nat} {x : Ev} (h : L[i]? = some x) : L.set i x = L := by
  apply List.ext_getElem?
  intro m
  by_cases hm : i = m
  · subst hm; rw [List.getElem?_set_self (List.getElem?_eq_some_iff.1 h).1, h]
  · rw [List.getElem?_set_ne hm]

set_option maxHeartbeats 1000000 in
theorem swap_any (b c i j : Nat) (L : List Ev) (w : World) (hi : i < L.length) (hj : j < L.length) (hn : L.length ≤ 4096) (hR : Rw w b c L) :
    Calls Try.prog 53 #[.slice (some ⟨b, 0, none⟩) L.length c, .int .i64 i, .int .i64 j] w fun e w' => e = .returned (.tuple #[]) ∧ Kp (· = b) w w' ∧ Rw w' b c (swapL L i j) := by
  obtain ⟨x, hx⟩ : ∃ x, L[i]? = some x := ⟨_, List.getElem?_eq_getElem hi⟩
  obtain ⟨y, hy⟩ : ∃ y, L[j]? = some y := ⟨_, List.getElem?_eq_getElem hj⟩
  have hfin : swapL L i j = (L.set i y).set j x := by simp [swapL, List.getD_eq_getElem?_getD, hx, hy]
  have hres : Rw (putEv (putEv w b (i * 6) y) b (j * 6) x) b c (swapL L i j) := by rw [hfin]; exact (hR.put i hi y).put j (by simpa using hj) x
  have hf := hR.frozen
  simp only [putEv] at hres
  by_cases hij : i = j
  · subst hij
    have hxy : x = y := by rw [hx] at hy; injection hy
    subst hxy
    obtain ⟨x0, x1, x2, x3, x4, x5⟩ := hR.at_ hx
    have HR := Lib.hid hres
    clear hres hfin hx hy hR
    generalize L.length = n at *
    go_enter Try.func53, Try.ntmps53
    go_wp2
    go_region
    go_end0
    refine ⟨rfl, ?_, ?_⟩
    · with_reducible repeat (first | exact Kp.refl _ _ | refine Kp.drew ?_ | refine Kp.setCell ?_ ?_ _)
      all_goals exact .inl rfl
    · with_reducible exact Rw.drew HR.out
  · have hji : ¬ j = i := fun h => hij h.symm
    obtain ⟨x0, x1, x2, x3, x4, x5⟩ := hR.at_ hx
    obtain ⟨y0, y1, y2, y3, y4, y5⟩ := hR.at_ hy
    have HR := Lib.hid hres
    clear hres hfin hx hy hR
    generalize L.length = n at *
    go_enter Try.func53, Try.ntmps53
    go_wp2
    go_region
    go_end0
    refine ⟨rfl, ?_, ?_⟩
    · with_reducible repeat (first | exact Kp.refl _ _ | refine Kp.drew ?_ | refine Kp.setCell ?_ ?_ _)
      all_goals exact .inl rfl
    · with_reducible exact Rw.drew HR.out
end Go.Proofs.Ytebcbjmdkbmnkaa
