/- How a law's arguments read behind a call that turns nothing that was there. How a netlist that comes in reads. How parts that come in read. How gates that come in read. How three numbers in an array that comes in read. -/
import Derived.Test.YtonnmkhmhndalaaDoorRows
import Derived.ProofKit
import Derived.OpenShut
import Derived.ShutString
import Derived.ChangeOld
import Derived.Below
import Derived.SizedLaws
import Derived.Lib.SmallJoins
import Derived.LaidMore
import Derived.Lay
import Derived.Stop.Joined
import Derived.Test.YtonnmkhmhndalaaDoorZa
import Derived.Deep.Slices
import Derived.Test.YtonnmkhmhndalaaDoorZo
import Derived.Laws.IdiomArrays
section
namespace Go.Proofs.YtonnmkhmhndalaaDoor
set_option linter.unusedVariables false
set_option linter.unusedSimpArgs false
open Go.ChangeShapes Go.WideShapes Go.ChangeAt Go.RowKit Go.Joins Go.Deep
theorem own : ownKnob Tryd.prog.godebug = none := by kernel_rfl
theorem laidOut : laidOutB Tryd.prog = true := by kernel_rfl
theorem args_below {H : Type} {enc : TypeId × Value → H} {P : Program} (hl : laidOutB P = true) {W W' : World} (hb : Below W.heap.size W W') :
    ∀ (ts : List TypeId) (vs : List Value) (ds : List (DataW H)) (ps : List MemPlace), (∀ t ∈ ts, P.readableRec t = true ∧ t < P.types.size) →
      DataW.TrodAll enc P W 0 (fun _ => true) true ts vs ds ps → (∀ x ∈ ps, x.block < W.heap.size) → DataW.TrodAll enc P W' 0 (fun b => decide (b < W.heap.size)) true ts vs ds ps := by
  intro ts
  induction ts with
  | nil =>
    intro vs ds ps _ h _
    obtain ⟨rfl, rfl, rfl⟩ := trodAll_nil h
    exact trodAll_mk0
  | cons t ts ih =>
    intro vs ds ps hr h hlt
    obtain ⟨v, vs', d, ds', p, q, rfl, rfl, rfl, h1, h2⟩ := trodAll_cons h
    obtain ⟨hr1, hr2⟩ := hr t List.mem_cons_self
    exact trodAll_cons_mk (Below.trod hl hr1 hr2 h1 hb (fun x hx => hlt x (List.mem_append_left _ hx)))
      (ih vs' ds' q (fun t ht => hr t (List.mem_cons_of_mem _ ht)) h2 (fun x hx => hlt x (List.mem_append_right _ hx)))
abbrev laidA : List (String × DataW Unit) := [("unicode/utf8.acceptRanges", Rows.laid_unicode_utf8_acceptRanges), ("unicode/utf8.first", Rows.laid_unicode_utf8_first)]
set_option maxRecDepth 100000 in
theorem laid_met (os : Os) (args : Array Value) : laidMetH Tryd.prog laidA ((World.laidAll Tryd.prog os laidA).forCall (fun _ _ => 0) ⟨#[], args, []⟩).memory := by
  rw [MakeChecks.laidMetH_plain _ _ _ (by kernel_rfl)]
  exact laidMet_laidAll _ (by kernel_rfl) (by kernel_rfl)
set_option maxRecDepth 100000 in
theorem laid_shaped (os : Os) : (World.laidAll Tryd.prog os laidA).variablesZipB Tryd.prog = true := by kernel_rfl
end Go.Proofs.YtonnmkhmhndalaaDoor
end
section
namespace Go.Proofs.YtonnmkhmhndalaaDoor
set_option maxRecDepth 100000
set_option linter.unusedVariables false
set_option linter.unusedSimpArgs false
open Go.ChangeShapes Go.WideShapes Go.ChangeAt Go.RowKit Go.Joins Go.Deep Go.Proofs.YtonnmkhmhndalaaDoorW.PrintWords
theorem weightsAll_mem {H : Type} {P : Program} {e : TypeId} : ∀ {l : List (DataW H)} {d : DataW H}, d ∈ l → ∀ n ∈ d.weights P e, n ∈ DataW.weightsAll P e l
  | [], _, h => by cases h
  | a :: l, d, h => by
    intro n hn
    simp only [DataW.weightsAll, List.mem_append]
    rcases List.mem_cons.1 h with rfl | h1
    · exact Or.inl hn
    · exact Or.inr (weightsAll_mem h1 n hn)
theorem weights_all {H : Type} {P : Program} {ts : List TypeId} {ds : List (DataW H)} {j : Nat} {t : TypeId} {d : DataW H} (h : (DataW.weightsEach P ts ds).all (· ≤ reachBytes) = true) (ht : ts[j]? = some t) (hd : ds[j]? = some d) : (DataW.weights P t d).all (· ≤ reachBytes) = true :=
  List.all_eq_true.2 fun n hn => List.all_eq_true.1 h n (DataW.weights_mem_each ht hd n hn)
section
variable {H : Type} {enc : TypeId × Value → H} {w : World} {base : Nat} {spare : Nat → Bool} {held : Bool}
theorem open_rowN {α : Type} [Inhabited α] (d : Kd α) (Q : α → Prop) {P : Program} {t e : TypeId} {fuel : Nat} {cs : List Value} {x : DataW H × List MemPlace} (ht : P.underlying t = some (.slice e)) (hsz : P.cellsOf e = d.sz) (hd0 : 0 < d.sz)
    (ex : ∀ n cs y, cs.length = d.sz → DataW.trod enc P w base spare held n e cs = some y → (DataW.weights P e y.1).all (· ≤ reachBytes) = true → ∃ a : α, d.K w a cs ∧ Q a)
    (h : DataW.trod enc P w base spare held fuel t cs = some x) (hw : (DataW.weights P t x.1).all (· ≤ reachBytes) = true) :
    ∃ A cap xs, cs = [.slice A xs.length cap] ∧ xs.length ≤ cap ∧ d.C w A xs.length xs ∧ (∀ a ∈ xs, Q a) ∧ xs.length * P.bytesOf e ≤ 140737488351232 := by
  rcases open_slice ht h with ⟨hcs, hx0⟩ | ⟨a, len, cap, m, n, D, Pl, hcs, _, hl, hm, hmm, hxx, hx⟩
  · exact ⟨none, 0, [], hcs, Nat.le_refl _, ⟨rfl, Nat.zero_le _, fun h => absurd h (Nat.lt_irrefl _)⟩, (fun _ h => nomatch h), by rw [List.length_nil, Nat.zero_mul]; exact Nat.zero_le _⟩
  · subst hcs
    have hle : len ≤ m := by rw [hmm]; split <;> omega
    have hwa : ∀ n ∈ DataW.weights P t x.1, n ≤ reachBytes := fun n hn => of_decide_eq_true (List.all_eq_true.1 hw n hn)
    rw [hxx] at hwa
    simp only [DataW.weights, ht] at hwa
    have each : ∀ i, i < len → ∃ q : α, (∃ c, c.length = d.sz ∧ d.K w q c ∧ ∀ j u, c[j]? = some u → w.cell? ((a.add (i * d.sz)).add j) = some u) ∧ Q q := by
      intro i hi
      obtain ⟨cs', h1, h2⟩ := hx i (by omega)
      rw [hsz] at h1
      obtain ⟨_, hlen, hcell⟩ := World.cells?_some h1
      have hwe : (DataW.weights P e (D i)).all (· ≤ reachBytes) = true := by
        refine List.all_eq_true.2 fun k hk => decide_eq_true (hwa k ?_)
        refine List.mem_cons_of_mem _ (List.mem_append_left _ (weightsAll_mem ?_ k hk))
        exact List.mem_map.2 ⟨i, List.mem_range.2 hi, rfl⟩
      obtain ⟨q, hK, hQ⟩ := ex n cs' _ hlen h2 hwe
      refine ⟨q, ⟨cs', hlen, hK, fun j u hj => ?_⟩, hQ⟩
      have hj7 : j < d.sz := by have := (List.getElem?_eq_some_iff.1 hj).1; omega
      have := hcell j hj7
      rw [hj] at this
      exact this
    obtain ⟨q, hq⟩ := choose_lt each
    have hQ : ∀ y ∈ (List.range len).map q, Q y := by
      intro y hy
      obtain ⟨i, hi, rfl⟩ := List.mem_map.1 hy
      exact (hq i (List.mem_range.1 hi)).2
    have hlm : len * P.bytesOf e ≤ 140737488351232 := by
      have := hwa _ List.mem_cons_self
      simp only [List.length_map, List.length_range, reachBytes] at this
      exact Nat.le_trans (Nat.mul_le_mul_right _ (by omega)) this
    unfold maxLen at hm
    rcases Nat.eq_zero_or_pos len with h0 | h0
    · subst h0
      exact ⟨some a, cap, [], rfl, Nat.zero_le _, ⟨rfl, Nat.zero_le _, fun h => absurd h (Nat.lt_irrefl _)⟩, (fun _ h => nomatch h), by rw [List.length_nil, Nat.zero_mul]; exact Nat.zero_le _⟩
    · obtain ⟨b, o, sp⟩ := a
      have hspot : sp = none := by
        obtain ⟨c, h1, _, h3⟩ := (hq 0 h0).1
        match c, h1 with
        | [], h1 => simp at h1; omega
        | u :: c', h1 =>
          have := World.cell?_spot (h3 0 u rfl)
          simpa [Addr.add] using this
      subst hspot
      have hlq : ((List.range len).map q).length = len := by rw [List.length_map, List.length_range]
      refine ⟨some ⟨b, o, none⟩, cap, (List.range len).map q, by rw [hlq], by rw [hlq]; exact hl, ⟨rfl, by rw [hlq]; omega, fun _ => ⟨⟨b, o, none⟩, rfl, fun j p hj => ?_⟩⟩, hQ, by rw [hlq]; exact hlm⟩
      have hi2 : j < len := by have := (List.getElem?_eq_some_iff.1 hj).1; simpa using this
      have : q j = p := by simpa [hi2] using hj
      subst this
      obtain ⟨⟨c, h1, h2, h3⟩, _⟩ := hq j hi2
      refine ⟨c, h1, h2, fun i u hu => ?_⟩
      have e : ∀ (o' k : Nat), (⟨b, o', none⟩ : Addr).add k = ⟨b, o' + k, none⟩ := by intro o' k; unfold Addr.add; split <;> simp_all
      have := h3 i u hu
      rw [e, e] at this
      rw [e, ← Nat.add_assoc]
      exact this
theorem open_int1 {n : Nat} {cs : List Value} {y : DataW H × List MemPlace} (hl : cs.length = 1) (h : DataW.trod enc Tryd.prog w base spare held n 3 cs = some y) : ∃ a : Int, (Kd.int .i64).K w a cs ∧ True := by
  obtain ⟨s, rfl, _⟩ := DataW.trod_int Tryd.underlying3 h
  exact ⟨s, rfl, trivial⟩
theorem open_ints1 {n : Nat} {cs : List Value} {y : DataW H × List MemPlace} (h : DataW.trod enc Tryd.prog w base spare held n 23 cs = some y) (hw : (DataW.weights Tryd.prog 23 y.1).all (· ≤ reachBytes) = true) :
    ∃ A cap xs, cs = [.slice A xs.length cap] ∧ xs.length ≤ cap ∧ (Kd.int .i64).C w A xs.length xs ∧ xs.length * 8 ≤ 140737488355328 := by
  have y3 : Tryd.prog.bytesOf 3 = 8 := by kernel_rfl
  obtain ⟨A, cap, xs, rfl, h1, h2, _, h3⟩ := open_rowN (Kd.int .i64) (fun _ => True) Tryd.underlying23 (by kernel_rfl) (by decide) (fun n cs y hl h _ => open_int1 hl h) h hw
  rw [y3] at h3
  exact ⟨A, cap, xs, rfl, h1, h2, by omega⟩
theorem open_node {n : Nat} {cs : List Value} {y : DataW H × List MemPlace} (hl : cs.length = 8) (h : DataW.trod enc Tryd.prog w base spare held n 39 cs = some y) (hw : (DataW.weights Tryd.prog 39 y.1).all (· ≤ reachBytes) = true) :
    ∃ a : S39, k39.K w a cs ∧ (a.f4.size ≤ 9223372036854775807 ∧ a.f3.length * 8 ≤ 140737488355328) := by
  have c3 : Tryd.prog.cellsOf 3 = 1 := by kernel_rfl
  have c9 : Tryd.prog.cellsOf 9 = 1 := by kernel_rfl
  have c23 : Tryd.prog.cellsOf 23 = 1 := by kernel_rfl
  obtain ⟨xs, k, hk, hxy, _, hxl, hf⟩ := DataW.trod_struct Tryd.underlying39 h
  match cs, hl, xs, hxl with
  | [v0, v1, v2, v3, v4, v5, v6, v7], _, [y0, y1, y2, y3, y4, y5, y6, y7], _ =>
    have g0 := hf 0 _ rfl
    have g1 := hf 1 _ rfl
    have g2 := hf 2 _ rfl
    have g3 := hf 3 _ rfl
    have g4 := hf 4 _ rfl
    have g5 := hf 5 _ rfl
    have g6 := hf 6 _ rfl
    have g7 := hf 7 _ rfl
    simp [c3, c9, c23] at g0 g1 g2 g3 g4 g5 g6 g7
    have hd : y.1 = .agg [y0.1, y1.1, y2.1, y3.1, y4.1, y5.1, y6.1, y7.1] := congrArg Prod.fst hxy
    have hw3 : (DataW.weights Tryd.prog 23 y3.1).all (· ≤ reachBytes) = true := by
      rw [hd] at hw
      simp only [DataW.weights, Tryd.underlying39] at hw
      exact weights_all (j := 3) hw rfl rfl
    obtain ⟨a0, e0, _⟩ := DataW.trod_int Tryd.underlying3 g0
    obtain ⟨a1, e1, _⟩ := DataW.trod_int Tryd.underlying3 g1
    obtain ⟨a2, e2, _⟩ := DataW.trod_int Tryd.underlying3 g2
    obtain ⟨A3, cap, l3, e3, hc3, hC3, hl3⟩ := open_ints1 g3 hw3
    obtain ⟨a4, e4, _, hs⟩ := DataW.trod_string Tryd.underlying9 g4
    obtain ⟨a5, e5, _⟩ := DataW.trod_int Tryd.underlying3 g5
    obtain ⟨a6, e6, _⟩ := DataW.trod_int Tryd.underlying3 g6
    obtain ⟨a7, e7, _⟩ := DataW.trod_int Tryd.underlying3 g7
    simp only [List.cons.injEq, and_true] at e0 e1 e2 e3 e4 e5 e6 e7
    subst e0 e1 e2 e3 e4 e5 e6 e7
    exact ⟨⟨a0, a1, a2, l3, a4, a5, a6, a7⟩, k39_mk w ⟨a0, a1, a2, l3, a4, a5, a6, a7⟩ hc3 hC3, by unfold maxLen at hs; exact ⟨by simp only; omega, hl3⟩⟩
end
theorem open_list {H : Type} {enc : TypeId × Value → H} {w : World} {r : Reach} {b0 : Nat} {held : Bool} {v : Value} {d : DataW H} {p : List MemPlace} (hv : Value.okWide Tryd.prog w r b0 25 v)
    (h : DataW.Trod enc Tryd.prog w 0 (fun _ => true) held 25 v d p) (hw : (DataW.weights Tryd.prog 25 d).all (· ≤ reachBytes) = true) :
    ∃ x A c B d, v = nlV x A c B d ∧ NIn w x A c B d := by
  have c22 : Tryd.prog.cellsOf 22 = 1 := by kernel_rfl
  have c23 : Tryd.prog.cellsOf 23 = 1 := by kernel_rfl
  have c3 : Tryd.prog.cellsOf 3 = 1 := by kernel_rfl
  have c25 : Tryd.prog.cellsOf 25 = 3 := by kernel_rfl
  have s39 : Tryd.prog.cellsOf 39 = 8 := by kernel_rfl
  unfold Value.okWide at hv
  rw [Tryd.underlying25] at hv
  obtain ⟨cs, rfl, hcs, ts, hts, _, hrow⟩ := hv
  rw [c25] at hcs
  obtain ⟨fuel, hf⟩ := h
  obtain ⟨cs⟩ := cs
  match cs, hcs with
  | [v0, v1, v2], _ =>
    obtain ⟨xs, k, hk, hxy, _, hxl, hfs⟩ := DataW.trod_struct Tryd.underlying25 hf
    injection hxy with hd hp
    match xs, hxl with
    | [y0, y1, y2], _ =>
      have g0 := hfs 0 _ rfl
      have g1 := hfs 1 _ rfl
      have g2 := hfs 2 _ rfl
      simp [c22, c23, c3, Value.cells] at g0 g1 g2
      have hw' : ∀ (j : Nat) (t : TypeId) (d' : DataW H), ([22, 23, 3] : List TypeId)[j]? = some t → ([y0.1, y1.1, y2.1] : List (DataW H))[j]? = some d' → (DataW.weights Tryd.prog t d').all (· ≤ reachBytes) = true := by
        intro j t d' h1 h2
        rw [hd] at hw
        simp only [DataW.weights, Tryd.underlying25] at hw
        exact weights_all hw h1 h2
      haveI : Inhabited S39 := ⟨z39⟩
      obtain ⟨A, c, l, e0, b0', C0, z0, _⟩ := open_rowN k39 _ Tryd.underlying22 s39 (by decide) (fun n cs y => open_node) g0 (hw' 0 _ _ rfl rfl)
      obtain ⟨B, dd, m, e1, b1', C1, w1⟩ := open_ints1 g1 (hw' 1 _ _ rfl rfl)
      obtain ⟨a2, e2, _⟩ := DataW.trod_int Tryd.underlying3 g2
      simp only [List.cons.injEq, and_true] at e0 e1 e2
      subst e0 e1 e2
      exact ⟨⟨l, m, a2⟩, A, c, B, dd, rfl, ⟨C0, C1, b0', b1', fun s hs => (z0 s hs).1, fun s hs => (z0 s hs).2, w1⟩⟩
end Go.Proofs.YtonnmkhmhndalaaDoor
end
section
namespace Go.Proofs.YtonnmkhmhndalaaDoor
set_option maxRecDepth 100000
set_option linter.unusedVariables false
set_option linter.unusedSimpArgs false
open Go.ChangeShapes Go.WideShapes Go.ChangeAt Go.RowKit Go.Joins Go.Deep Go.Proofs.YtonnmkhmhndalaaDoorW.PrintWords
theorem open_parts {H : Type} {enc : TypeId × Value → H} {w : World} {r : Reach} {b0 : Nat} {held : Bool} {v : Value} {d : DataW H} {p : List MemPlace} (hv : Value.okWide Tryd.prog w r b0 46 v)
    (h : DataW.Trod enc Tryd.prog w 0 (fun _ => true) held 46 v d p) (hw : (DataW.weights Tryd.prog 46 d).all (· ≤ reachBytes) = true) :
    ∃ x A c B d, v = pV x A c B d ∧ PIn w x A c B d := by
  have c44 : Tryd.prog.cellsOf 44 = 1 := by kernel_rfl
  have c23 : Tryd.prog.cellsOf 23 = 1 := by kernel_rfl
  have c3 : Tryd.prog.cellsOf 3 = 1 := by kernel_rfl
  have c46 : Tryd.prog.cellsOf 46 = 3 := by kernel_rfl
  unfold Value.okWide at hv
  rw [Tryd.underlying46] at hv
  obtain ⟨cs, rfl, hcs, ts, hts, _, hrow⟩ := hv
  rw [c46] at hcs
  obtain ⟨fuel, hf⟩ := h
  obtain ⟨cs⟩ := cs
  match cs, hcs with
  | [v0, v1, v2], _ =>
    obtain ⟨xs, k, hk, hxy, _, hxl, hfs⟩ := DataW.trod_struct Tryd.underlying46 hf
    injection hxy with hd hp
    match xs, hxl with
    | [y0, y1, y2], _ =>
      have g0 := hfs 0 _ rfl
      have g1 := hfs 1 _ rfl
      have g2 := hfs 2 _ rfl
      simp [c44, c23, c3, Value.cells] at g0 g1 g2
      have hw' : ∀ (j : Nat) (t : TypeId) (d' : DataW H), ([23, 3, 44] : List TypeId)[j]? = some t → ([y0.1, y1.1, y2.1] : List (DataW H))[j]? = some d' → (DataW.weights Tryd.prog t d').all (· ≤ reachBytes) = true := by
        intro j t d' h1 h2
        rw [hd] at hw
        simp only [DataW.weights, Tryd.underlying46] at hw
        exact weights_all hw h1 h2
      obtain ⟨A, c, l, e0, b0', C0, z0⟩ := open_ints1 g0 (hw' 0 _ _ rfl rfl)
      obtain ⟨a1, e1, _⟩ := DataW.trod_int Tryd.underlying3 g1
      obtain ⟨B, dd, m, e2, b1', C1, _⟩ := open_rowN (Kd.slice 3 (Kd.int .i64)) (fun _ => True) Tryd.underlying44 c23 (by decide) (fun n cs y hl h hw => by
        obtain ⟨A0, c0, x0, rfl, h1, h2, _⟩ := open_ints1 h hw
        exact ⟨x0, ⟨A0, c0, rfl, h1, h2⟩, trivial⟩) g2 (hw' 2 _ _ rfl rfl)
      simp only [List.cons.injEq, and_true] at e0 e1 e2
      subst e0 e1 e2
      exact ⟨⟨l, a1, m⟩, A, c, B, dd, rfl, ⟨C0, C1, b0', b1'⟩⟩
end Go.Proofs.YtonnmkhmhndalaaDoor
end
section
namespace Go.Proofs.YtonnmkhmhndalaaDoor
set_option maxRecDepth 100000
set_option linter.unusedVariables false
set_option linter.unusedSimpArgs false
open Go.ChangeShapes Go.WideShapes Go.ChangeAt Go.RowKit Go.Joins Go.Deep Go.Proofs.YtonnmkhmhndalaaDoorW.PrintWords
section
variable {H : Type} {enc : TypeId × Value → H} {w : World} {base : Nat} {spare : Nat → Bool} {held : Bool}
theorem open_gate {n : Nat} {cs : List Value} {y : DataW H × List MemPlace} (hl : cs.length = 5) (h : DataW.trod enc Tryd.prog w base spare held n 71 cs = some y) : ∃ a : S71, k71.K w a cs ∧ True := by
  have c3 : Tryd.prog.cellsOf 3 = 1 := by kernel_rfl
  obtain ⟨xs, k, hk, hxy, _, hxl, hf⟩ := DataW.trod_struct Tryd.underlying71 h
  match cs, hl, xs, hxl with
  | [v0, v1, v2, v3, v4], _, [y0, y1, y2, y3, y4], _ =>
    have g0 := hf 0 _ rfl
    have g1 := hf 1 _ rfl
    have g2 := hf 2 _ rfl
    have g3 := hf 3 _ rfl
    have g4 := hf 4 _ rfl
    simp [c3] at g0 g1 g2 g3 g4
    obtain ⟨a0, e0, _⟩ := DataW.trod_int Tryd.underlying3 g0
    obtain ⟨a1, e1, _⟩ := DataW.trod_int Tryd.underlying3 g1
    obtain ⟨a2, e2, _⟩ := DataW.trod_int Tryd.underlying3 g2
    obtain ⟨a3, e3, _⟩ := DataW.trod_int Tryd.underlying3 g3
    obtain ⟨a4, e4, _⟩ := DataW.trod_int Tryd.underlying3 g4
    simp only [List.cons.injEq, and_true] at e0 e1 e2 e3 e4
    subst e0 e1 e2 e3 e4
    exact ⟨⟨a0, a1, a2, a3, a4⟩, k71_mk w ⟨a0, a1, a2, a3, a4⟩, trivial⟩
end
theorem open_gates {H : Type} {enc : TypeId × Value → H} {w : World} {r : Reach} {b0 : Nat} {held : Bool} {v : Value} {d : DataW H} {p : List MemPlace} (hv : Value.okWide Tryd.prog w r b0 35 v)
    (h : DataW.Trod enc Tryd.prog w 0 (fun _ => true) held 35 v d p) (hw : (DataW.weights Tryd.prog 35 d).all (· ≤ reachBytes) = true) :
    ∃ gs A c, v = .slice A (List.length gs) c ∧ Kd.C k71 w A gs.length gs ∧ gs.length ≤ c := by
  have s71 : Tryd.prog.cellsOf 71 = 5 := by kernel_rfl
  obtain ⟨a, len, cap, rfl⟩ := okWide_slice Tryd.underlying35 hv
  obtain ⟨fuel, hf⟩ := h
  haveI : Inhabited S71 := ⟨z71⟩
  obtain ⟨A, c, l, e0, b0', C0, z0, _⟩ := open_rowN k71 _ Tryd.underlying35 s71 (by decide) (fun n cs y hl h _ => open_gate hl h) hf hw
  simp [Value.cells] at e0
  obtain ⟨rfl, rfl, rfl⟩ := e0
  exact ⟨l, _, _, rfl, C0, b0'⟩
end Go.Proofs.YtonnmkhmhndalaaDoor
end
section
namespace Go.Proofs.YtonnmkhmhndalaaDoor
set_option maxRecDepth 100000
set_option linter.unusedVariables false
set_option linter.unusedSimpArgs false
open Go.ChangeShapes Go.WideShapes Go.ChangeAt Go.RowKit Go.Joins Go.Deep Go.Proofs.YtonnmkhmhndalaaDoorW.PrintWords
theorem open_arr {H : Type} {enc : TypeId × Value → H} {w : World} {r : Reach} {b0 : Nat} {held : Bool} {v : Value} {d : DataW H} {p : List MemPlace} (hv : Value.okWide Tryd.prog w r b0 53 v)
    (h : DataW.Trod enc Tryd.prog w 0 (fun _ => true) held 53 v d p) : ∃ a b c : Int, v = .agg #[.int .i64 a, .int .i64 b, .int .i64 c] := by
  have c53 : Tryd.prog.cellsOf 53 = 3 := by kernel_rfl
  have c3 : Tryd.prog.cellsOf 3 = 1 := by kernel_rfl
  unfold Value.okWide at hv
  rw [Tryd.underlying53] at hv
  obtain ⟨cs, rfl, hcs, hrow⟩ := hv
  rw [c53] at hcs
  obtain ⟨fuel, hf⟩ := h
  obtain ⟨cs⟩ := cs
  match cs, hcs with
  | [v0, v1, v2], _ =>
    obtain ⟨y0, y1, y2, m, hx, h0, h1, h2⟩ := trod_array3 Tryd.underlying53 c3 hf
    obtain ⟨a0, e0, _⟩ := DataW.trod_int Tryd.underlying3 h0
    obtain ⟨a1, e1, _⟩ := DataW.trod_int Tryd.underlying3 h1
    obtain ⟨a2, e2, _⟩ := DataW.trod_int Tryd.underlying3 h2
    simp only [List.cons.injEq, and_true] at e0 e1 e2
    subst e0 e1 e2
    exact ⟨a0, a1, a2, rfl⟩
end Go.Proofs.YtonnmkhmhndalaaDoor
end
