/- Waveforms, plainly, and in memory. -/
import Derived.Test.YtcbkgammlfjjoaaDoorMgL
namespace Go.Proofs.YtcbkgammlfjjoaaDoor
set_option linter.unusedVariables false
set_option linter.unusedSimpArgs false
open Go.RowKit Go.Proofs.YtcbkgammlfjjoaaDoorW.PrintWords Go.Proofs.YtcbkgammlfjjoaaDoorW.PrintLast Go.Proofs.YtcbkgammlfjjoaaDoorW.PrintMore

/-- a waveform, plainly -/
structure WV where
  nm : List ByteArray
  wd : List Int
  fi : List ByteArray
  li : List S59
def sAt (l : List ByteArray) (i : Nat) : ByteArray := l.getD i ByteArray.empty
/-- may a net be? -/
def netB (x : WV) (k : Nat) : Bool := nOk (sAt x.nm k) && (vOk (sAt x.fi k) && decide (((sAt x.fi k).size : Int) = x.wd.getD k 0))
def cAt (x : WV) (i : Nat) : S59 := x.li.getD i z59
/-- all values ahead of the change i -/
def nowAt (x : WV) (i : Nat) : List ByteArray := (x.li.take i).foldl (fun l c => l.set c.f1.toNat c.f2) x.fi
/-- may a change be? its place, then its value -/
def placeB (x : WV) (i : Nat) : Bool := decide (0 ≤ (cAt x i).f1) && (decide ((cAt x i).f1 < x.nm.length) && (decide (0 ≤ (cAt x i).f0) && (decide ((cAt x i).f0 ≤ 4611686018427387903) && (decide (i = 0) || aheadB (cAt x (i - 1)) (cAt x i)))))
def valB (x : WV) (i : Nat) : Bool := vOk (cAt x i).f2 && (decide (((cAt x i).f2.size : Int) = x.wd.getD (cAt x i).f1.toNat 0) && !((cAt x i).f2.toList == (sAt (nowAt x i) (cAt x i).f1.toNat).toList))
def sizesB (x : WV) : Bool := decide (x.nm.length ≤ 4096) && (decide (x.wd.length = x.nm.length) && decide (x.fi.length = x.nm.length))
/-- may a waveform be? -/
def mayB (x : WV) : Bool := sizesB x && ((List.range x.nm.length).all (netB x) && (List.range x.li.length).all (fun i => placeB x i && valB x i))

/-- a waveform in memory, read -/
structure WIn (w : World) (x : WV) (A0 : Option Addr) (c0 : Nat) (A1 : Option Addr) (c1 : Nat) (A2 : Option Addr) (c2 : Nat) (A3 : Option Addr) (c3 : Nat) : Prop where
  h0 : Kd.C Kd.string w A0 x.nm.length x.nm
  h1 : Kd.C (Kd.int .i64) w A1 x.wd.length x.wd
  h2 : Kd.C Kd.string w A2 x.fi.length x.fi
  h3 : Kd.C k59 w A3 x.li.length x.li
  l0 : x.nm.length ≤ c0
  l1 : x.wd.length ≤ c1
  l2 : x.fi.length ≤ c2
  l3 : x.li.length ≤ c3
  a0 : AF A0
  a1 : AF A1
  a2 : AF A2
  a3 : AF A3
  z0 : ∀ s ∈ x.nm, s.size ≤ 9223372036854775807
  z2 : ∀ s ∈ x.fi, s.size ≤ 9223372036854775807
  z3 : ∀ c ∈ x.li, c.f2.size ≤ 9223372036854775807
  b3 : x.li.length * 32 ≤ 140737488355328
theorem WIn.below {w w' : World} {x : WV} {A0 : Option Addr} {c0 : Nat} {A1 : Option Addr} {c1 : Nat} {A2 : Option Addr} {c2 : Nat} {A3 : Option Addr} {c3 : Nat} (h : WIn w x A0 c0 A1 c1 A2 c2 A3 c3) (hb : Below w.heap.size w w') : WIn w' x A0 c0 A1 c1 A2 c2 A3 c3 :=
  ⟨Kd.C_below h.h0 hb, Kd.C_below h.h1 hb, Kd.C_below h.h2 hb, Kd.C_below h.h3 hb, h.l0, h.l1, h.l2, h.l3, h.a0, h.a1, h.a2, h.a3, h.z0, h.z2, h.z3, h.b3⟩
abbrev wvV (x : WV) (A0 : Option Addr) (c0 : Nat) (A1 : Option Addr) (c1 : Nat) (A2 : Option Addr) (c2 : Nat) (A3 : Option Addr) (c3 : Nat) : Value := .agg #[.slice A0 x.nm.length c0, .slice A1 x.wd.length c1, .slice A2 x.fi.length c2, .slice A3 x.li.length c3]
/-- a cell of a row of strings -/
theorem str_cell {w : World} {A : Option Addr} {l : List ByteArray} (h : Kd.C Kd.string w A l.length l) (ha : AF A) (i : Nat) (hi : i < l.length) : ∃ b o, A = some ⟨b, o, none⟩ ∧ w.cell? ⟨b, o + i, none⟩ = some (.string (sAt l i)) ∧ b < w.heap.size := by
  obtain ⟨ad, e, hc⟩ := Kd.at_string h i (by omega) (by omega)
  rcases ha with rfl | ⟨b, o, rfl⟩
  · cases e
  · injection e with e
    subst e
    rw [Int.toNat_natCast, add_plain] at hc
    exact ⟨b, o, rfl, hc, World.block_lt_of_cell? w _ hc⟩
theorem int_cell {w : World} {A : Option Addr} {l : List Int} (h : Kd.C (Kd.int .i64) w A l.length l) (ha : AF A) (i : Nat) (hi : i < l.length) : ∃ b o, A = some ⟨b, o, none⟩ ∧ w.cell? ⟨b, o + i, none⟩ = some (.int .i64 (l.getD i 0)) ∧ b < w.heap.size := by
  obtain ⟨ad, e, hc⟩ := Kd.at_int h i (by omega) (by omega)
  rcases ha with rfl | ⟨b, o, rfl⟩
  · cases e
  · injection e with e
    subst e
    rw [Int.toNat_natCast, add_plain] at hc
    exact ⟨b, o, rfl, hc, World.block_lt_of_cell? w _ hc⟩
theorem chg_cell {w : World} {A : Option Addr} {l : List S59} (h : Kd.C k59 w A l.length l) (ha : AF A) (i : Nat) (hi : i < l.length) : ∃ b o, A = some ⟨b, o, none⟩ ∧ w.cell? ⟨b, o + i * 3, none⟩ = some (.int .i64 (l.getD i z59).f0) ∧ w.cell? ⟨b, o + i * 3 + 1, none⟩ = some (.int .i64 (l.getD i z59).f1) ∧ w.cell? ⟨b, o + i * 3 + 2, none⟩ = some (.string (l.getD i z59).f2) ∧ b < w.heap.size := by
  obtain ⟨ad, e, hc0, hc1, hc2⟩ := at_T59 h i (by omega) (by omega)
  rcases ha with rfl | ⟨b, o, rfl⟩
  · cases e
  · injection e with e
    subst e
    rw [Int.toNat_natCast, add_plain] at hc0 hc1 hc2
    exact ⟨b, o, rfl, hc0, hc1, hc2, World.block_lt_of_cell? w _ hc0⟩

/-- a world that has come of w, all that lay in w unturned -/
structure BelowBy (w : World) where
  W : World
  h : Below w.heap.size w W
instance (w : World) : Inhabited (BelowBy w) := ⟨⟨w, Below.refl _ _⟩⟩
theorem call_below {P : Program} {f : FuncId} {args : Array Value} {w : World} {v : Value} (p : BelowBy w) (h : Calls P f args p.W fun e w' => e = .returned v ∧ Below p.W.heap.size p.W w') :
    Calls P f args p.W fun e w'' => e = .returned v ∧ ∃ q : BelowBy w, w'' = q.W :=
  h.mono fun e w' h => ⟨h.1, ⟨⟨w', p.h.trans (h.2.mono p.h.size)⟩, rfl⟩⟩
theorem region_below {P : Program} {id : Nat} {Q : Exit → Act → World → Prop} {a : Act} {w : World} {l : List Oper} (hm : P.follows .mixedOrders = true) (hB : Region.lexB .any l.toArray = true)
    (h : wpQuiet P l.toArray (fun w' => ∃ p : BelowBy w, w' = p.W) (fun a' => ∀ w', (∃ p : BelowBy w, w' = p.W) → Q .normal a' w') l a) : (Code.region id l.toArray true).wp P Q a w :=
  wp_region_quiet (C := fun w' => ∃ p : BelowBy w, w' = p.W) hm hB ⟨⟨w.drew, below_drew (Below.refl _ _)⟩, rfl⟩ (by simpa using h)
theorem BelowBy.cell {w : World} (p : BelowBy w) {b o : Nat} {v : Value} (h : w.cell? ⟨b, o, none⟩ = some v) : p.W.cell? ⟨b, o, none⟩ = some v :=
  (p.h.cell (p := ⟨b, o, none⟩) (World.block_lt_of_cell? w _ h)).trans h

theorem all_not {α : Type} (p : α → Bool) (l : List α) : l.all (fun b => !p b) = !l.any p := by
  induction l with
  | nil => rfl
  | cons a l ih => rw [List.all_cons, List.any_cons, ih, Bool.not_or]
end Go.Proofs.YtcbkgammlfjjoaaDoor
