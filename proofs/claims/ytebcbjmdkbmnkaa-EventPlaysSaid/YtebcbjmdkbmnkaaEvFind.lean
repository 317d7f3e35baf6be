/- The contracts of the two closures, of IndexFunc and of ContainsFunc. -/
import Derived.Test.YtebcbjmdkbmnkaaEvHeap
namespace Go.Proofs.Ytebcbjmdkbmnkaa
set_option linter.unusedVariables false
set_option linter.unusedSimpArgs false
open Go.RowKit

/-- the closure of Put: the numbers of the event that is to come -/
def sameNo (f s : Int) (x : Ev) : Bool := x.f == f && x.s == s

set_option maxHeartbeats 1000000 in
theorem clo21 (x y : Ev) (h : Nat) (w : World) (h3 : w.cell? ⟨h, 3, none⟩ = some (.int .i64 y.f)) (h4 : w.cell? ⟨h, 4, none⟩ = some (.int .i64 y.s)) (hh : h < w.heap.size) :
    Calls Try.prog 21 #[.agg x.cs, .pointer (some ⟨h, 0, none⟩)] w fun e w' => e = .returned (.bool (sameNo y.f y.s x)) ∧ Below w.heap.size w w' := by
  obtain ⟨xt, xn, xv, xf, xs, xa⟩ := x
  unfold Ev.cs sameNo
  dsimp only
  have h3' : ∀ o, (w.alloc o).cell? ⟨h, 3, none⟩ = some (.int .i64 y.f) := fun o => (World.cell?_alloc_lt w o _ hh).trans h3
  have h4' : ∀ o, (w.alloc o).cell? ⟨h, 4, none⟩ = some (.int .i64 y.s) := fun o => (World.cell?_alloc_lt w o _ hh).trans h4
  by_cases hf : xf = y.f
  · have hb : (xf == y.f) = true := by simpa using hf
    rw [hb]
    clear h3 h4
    have Hf := Lib.hid hf
    clear hf
    go_enter Try.func21, Try.ntmps21
    go_wp2
    go_ret
    exact ⟨by simp, by go_grown⟩
  · have hb : (xf == y.f) = false := by simpa using hf
    rw [hb]
    clear h3 h4 hf
    go_enter Try.func21, Try.ntmps21
    go_wp2
    go_ret
    exact ⟨by simp, by go_grown⟩

set_option maxHeartbeats 1000000 in
theorem clo26 (x : Ev) (f s : Int) (h1 h2 : Nat) (w : World) (h3 : w.cell? ⟨h1, 0, none⟩ = some (.int .i64 f)) (h4 : w.cell? ⟨h2, 0, none⟩ = some (.int .i64 s)) (hh : h1 < w.heap.size) (hh2 : h2 < w.heap.size) :
    Calls Try.prog 26 #[.agg x.cs, .pointer (some ⟨h1, 0, none⟩), .pointer (some ⟨h2, 0, none⟩)] w fun e w' => e = .returned (.bool (sameNo f s x)) ∧ Below w.heap.size w w' := by
  obtain ⟨xt, xn, xv, xf, xs, xa⟩ := x
  unfold Ev.cs sameNo
  dsimp only
  have h3' : ∀ o, (w.alloc o).cell? ⟨h1, 0, none⟩ = some (.int .i64 f) := fun o => (World.cell?_alloc_lt w o _ hh).trans h3
  have h4' : ∀ o, (w.alloc o).cell? ⟨h2, 0, none⟩ = some (.int .i64 s) := fun o => (World.cell?_alloc_lt w o _ hh2).trans h4
  by_cases hf : xf = f
  · have hb : (xf == f) = true := by simpa using hf
    rw [hb]
    clear h3 h4
    have Hf := Lib.hid hf
    clear hf
    go_enter Try.func26, Try.ntmps26
    go_wp2
    go_ret
    exact ⟨by simp, by go_grown⟩
  · have hb : (xf == f) = false := by simpa using hf
    rw [hb]
    clear h3 h4 hf
    go_enter Try.func26, Try.ntmps26
    go_wp2
    go_ret
    exact ⟨by simp, by go_grown⟩

/-- The first place at which p holds; -1: none. -/
def idxP (p : Ev → Bool) (L : List Ev) : Int := match L.findIdx? p with | some i => (i : Int) | none => -1
theorem idxP_at {p : Ev → Bool} {L : List Ev} {k : Nat} (hk : k < L.length) (h0 : ∀ i, i < k → p (evAt L i) = false) (h1 : p (evAt L k) = true) : idxP p L = k := by
  unfold idxP
  have : L.findIdx? p = some k := by
    rw [List.findIdx?_eq_some_iff_getElem]
    have e : ∀ i (h : i < L.length), evAt L i = L[i] := fun i h => by simp [evAt, List.getD_eq_getElem?_getD, List.getElem?_eq_getElem h]
    refine ⟨hk, by rw [← e]; exact h1, fun j hj => ?_⟩
    rw [← e]; simpa using h0 j hj
  rw [this]
theorem idxP_none {p : Ev → Bool} {L : List Ev} (h0 : ∀ i, i < L.length → p (evAt L i) = false) : idxP p L = -1 := by
  unfold idxP
  have : L.findIdx? p = none := by
    rw [List.findIdx?_eq_none_iff]
    intro x hx
    obtain ⟨i, hi, rfl⟩ := List.getElem_of_mem hx
    have := h0 i hi
    simpa [evAt, List.getD_eq_getElem?_getD, List.getElem?_eq_getElem hi] using this
  rw [this]

/-- A row of events that is read (nothing is said where there are none). -/
def Rd (w : World) (A : Option Addr) (L : List Ev) : Prop := 0 < L.length → ∃ b, A = some ⟨b, 0, none⟩ ∧ b < w.heap.size ∧ ∀ i x, L[i]? = some x → EvAt w b (i * 6) x
theorem Rd.below {w w' : World} {A : Option Addr} {L : List Ev} (h : Rd w A L) (hb : Below w.heap.size w w') : Rd w' A L := by
  intro h0
  obtain ⟨b, rfl, hlt, hx⟩ := h h0
  refine ⟨b, rfl, Nat.lt_of_lt_of_le hlt hb.size, fun i x hi => ?_⟩
  obtain ⟨a0, a1, a2, a3, a4, a5⟩ := hx i x hi
  exact ⟨(hb.cell hlt).trans a0, (hb.cell hlt).trans a1, (hb.cell hlt).trans a2, (hb.cell hlt).trans a3, (hb.cell hlt).trans a4, (hb.cell hlt).trans a5⟩
theorem QS.rd {w : World} {g : Nat} {lim : Int} {L : List Ev} {A : Option Addr} {n c : Nat} (h : QS w g lim L (.slice A n c)) : Rd w A L := by
  intro h0
  obtain ⟨b, c', e, h1⟩ := h.hq h0
  injection e with e1 e2 e3
  subst e1
  exact ⟨b, rfl, h1.2.lt, fun i x hx => h1.2.at_ hx⟩

set_option maxHeartbeats 1000000 in
theorem indexFunc_any (F : FuncId) (caps : Array Value) (p : Ev → Bool) (A : Option Addr) (n c : Nat) (L : List Ev) (w : World) (hL : L.length = n) (hn : n ≤ 4096) (hR : Rd w A L)
   (hcf : ∀ (args : Array Value) (w : World), (callFunc F args).run Try.prog w = .ok (.enter F args) w)
   (hF : ∀ (x : Ev) (w' : World), Below w.heap.size w w' → Calls Try.prog F (#[.agg x.cs] ++ caps) w' fun e w'' => e = .returned (.bool (p x)) ∧ Below w'.heap.size w' w'') :
    Calls Try.prog 25 #[.slice A n c, .func (.func F) #[] caps] w fun e w' => e = .returned (.int .i64 (idxP p L)) ∧ Below w.heap.size w w' := by
  have HF := Lib.hid hF
  have HR := Lib.hid hR
  have HL := Lib.hid hL
  clear hF hR hL
  go_enter Try.func25, Try.ntmps25
  go_wp2
  go_loopw [8] (fun iv wr => ∃ k : Nat, iv = .int .i64 k ∧ k ≤ n ∧ Hid (∀ i, i < k → p (evAt L i) = false) ∧ Below w.heap.size w wr) (fun iv _ => n - (intOf iv).toNat)
  case atStart => exact ⟨0, rfl, Nat.zero_le _, fun i hi => by omega, Below.refl _ _⟩
  case round =>
    obtain ⟨k, rfl, hk, hall, hB⟩ := hrel
    by_cases hlt : k < n
    · obtain ⟨b, rfl, hbl, hx⟩ := (HR.out.below hB) (by rw [HL.out]; omega)
      obtain ⟨x0, x1, x2, x3, x4, x5⟩ := hx k _ (evAt_some (by rw [HL.out]; exact hlt))
      clear hx
      go_wp2_with fail
      have hc := HF.out (evAt L k) wr hB
      unfold Ev.cs at hc
      with_reducible refine hc.mono ?_
      clear hc x0 x1 x2 x3 x4 x5
      rintro e w1 ⟨rfl, hb1⟩
      have hB1 := hB.trans (hb1.mono hB.size)
      cases hp : p (evAt L k) with
      | true =>
        have Hp := Lib.hid hp
        clear hp
        go_wp2
        go_ret
        refine ⟨?_, hB1⟩
        rw [idxP_at (by rw [HL.out]; exact hlt) hall.out Hp.out]
        rfl
      | false =>
        have hall2 : Hid (∀ i, i < k + 1 → p (evAt L i) = false) := fun i hi => by
          rcases Nat.lt_or_ge i k with h | h
          · exact hall.out i h
          · rw [show i = k from by omega]; exact hp
        clear hp
        go_wp2
        go_roundw
        case rel => exact ⟨k + 1, by go_num, by omega, hall2, hB1⟩
        case measure => simp [intOf]; omega
    · go_wp2
      go_ret
      refine ⟨?_, hB⟩
      rw [idxP_none (fun i hi => hall.out i (by rw [HL.out] at hi; omega))]
      rfl

set_option maxHeartbeats 1000000 in
theorem containsFunc_any (F : FuncId) (caps : Array Value) (p : Ev → Bool) (A : Option Addr) (n c : Nat) (L : List Ev) (w : World) (hL : L.length = n) (hn : n ≤ 4096) (hR : Rd w A L)
   (hcf : ∀ (args : Array Value) (w : World), (callFunc F args).run Try.prog w = .ok (.enter F args) w)
   (hF : ∀ (x : Ev) (w' : World), Below w.heap.size w w' → Calls Try.prog F (#[.agg x.cs] ++ caps) w' fun e w'' => e = .returned (.bool (p x)) ∧ Below w'.heap.size w' w'') :
    Calls Try.prog 20 #[.slice A n c, .func (.func F) #[] caps] w fun e w' => e = .returned (.bool (decide (0 ≤ idxP p L))) ∧ Below w.heap.size w w' := by
  have hi := indexFunc_any F caps p A n c L w hL hn hR hcf hF
  have HI := Lib.hid hi
  clear hF hR hL hcf hi
  go_enter Try.func20, Try.ntmps20
  go_wp2_with fail
  have hi := HI.out
  with_reducible refine hi.mono ?_
  clear hi
  rintro e w1 ⟨rfl, hb1⟩
  go_wp2
  go_ret
  exact ⟨rfl, hb1⟩

theorem call21 (args : Array Value) (w : World) : (callFunc 21 args).run Try.prog w = .ok (.enter 21 args) w := by simp [go_sem]
theorem call26 (args : Array Value) (w : World) : (callFunc 26 args).run Try.prog w = .ok (.enter 26 args) w := by simp [go_sem]
end Go.Proofs.Ytebcbjmdkbmnkaa
