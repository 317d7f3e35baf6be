/- How a waveform that comes in reads. -/
import Derived.Test.YtcbkgammlfjjoaaDoorRow0
import Derived.Test.YtcbkgammlfjjoaaDoorWb
import Derived.Deep.Slices
namespace Go.Proofs.YtcbkgammlfjjoaaDoor
set_option maxRecDepth 100000
set_option linter.unusedVariables false
set_option linter.unusedSimpArgs false
open Go.ChangeShapes Go.WideShapes Go.ChangeAt Go.RowKit Go.Joins Go.Deep Go.Proofs.YtcbkgammlfjjoaaDoorW.PrintWords

section
variable {H : Type} {enc : TypeId × Value → H} {w : World} {base : Nat} {spare : Nat → Bool} {held : Bool}
/-- a row that comes in, opened at every element -/
theorem open_row {α : Type} [Inhabited α] (d : Kd α) (Q : α → Prop) {P : Program} {t e : TypeId} {r : Reach} {b0 fuel : Nat} {v : Value} {x : DataW H × List MemPlace} (ht : P.underlying t = some (.slice e)) (hsz : P.cellsOf e = d.sz)
    (ex : ∀ n cs y, cs.length = d.sz → DataW.trod enc P w base spare held n e cs = some y → ∃ a : α, d.K w a cs ∧ Q a)
    (hok : Cell.okWide P w r b0 t v) (h : DataW.trod enc P w base spare held fuel t [v] = some x) (hw : (DataW.weights P t x.1).all (· ≤ reachBytes) = true) :
    ∃ A cap xs, v = .slice A xs.length cap ∧ xs.length ≤ cap ∧ d.C w A xs.length xs ∧ AF A ∧ (∀ a ∈ xs, Q a) ∧ xs.length * P.bytesOf e ≤ 140737488351232 := by
  rcases open_slice ht h with ⟨hcs, _⟩ | ⟨a, len, cap, m, n, D, Pl, hcs, _, hl, hm, hmm, hxx, hx⟩
  · injection hcs with hcs
    subst hcs
    exact ⟨none, 0, [], rfl, Nat.le_refl _, ⟨rfl, Nat.zero_le _, fun h => absurd h (Nat.lt_irrefl _)⟩, Or.inl rfl, (fun _ h => nomatch h), by rw [List.length_nil, Nat.zero_mul]; exact Nat.zero_le _⟩
  · injection hcs with hcs
    subst hcs
    have hspot : a.spot = none := by
      unfold Cell.okWide at hok
      rw [ht] at hok
      simp only [Cell.ok, ht] at hok
      exact hok.2.2.2.1
    obtain ⟨b, o, sp⟩ := a
    simp only at hspot
    subst hspot
    have hle : len ≤ m := by rw [hmm]; split <;> omega
    have each : ∀ i, i < len → ∃ q : α, (∃ c, c.length = d.sz ∧ d.K w q c ∧ ∀ j u, c[j]? = some u → w.cell? ⟨b, o + i * d.sz + j, none⟩ = some u) ∧ Q q := by
      intro i hi
      obtain ⟨cs', h1, h2⟩ := hx i (by omega)
      rw [hsz] at h1
      obtain ⟨_, hlen, hcell⟩ := World.cells?_some h1
      obtain ⟨q, hK, hQ⟩ := ex n cs' _ hlen h2
      refine ⟨q, ⟨cs', hlen, hK, fun j u hj => ?_⟩, hQ⟩
      have hj7 : j < d.sz := by have := (List.getElem?_eq_some_iff.1 hj).1; omega
      have := hcell j hj7
      rw [hj] at this
      rw [← this]
      congr 1
      have e : ∀ (o' k : Nat), (⟨b, o', none⟩ : Addr).add k = ⟨b, o' + k, none⟩ := by intro o' k; unfold Addr.add; split <;> simp_all
      rw [e, e]
    obtain ⟨q, hq⟩ := choose_lt each
    obtain ⟨xs, hxs⟩ : ∃ xs : List α, xs.length = len ∧ ∀ i y, xs[i]? = some y → (∃ c, c.length = d.sz ∧ d.K w y c ∧ ∀ j u, c[j]? = some u → w.cell? ⟨b, o + i * d.sz + j, none⟩ = some u) ∧ Q y := by
      refine ⟨(List.range len).map q, by simp, fun i y hi => ?_⟩
      have hi2 : i < len := by have := (List.getElem?_eq_some_iff.1 hi).1; simpa using this
      have : q i = y := by simpa [hi2] using hi
      rw [← this]
      exact hq i hi2
    have hlm : len * P.bytesOf e ≤ 140737488351232 := by
      rw [hxx] at hw
      simp only [DataW.weights, ht] at hw
      have := List.all_eq_true.1 hw _ List.mem_cons_self
      simp only [decide_eq_true_eq, List.length_map, List.length_range, reachBytes] at this
      exact Nat.le_trans (Nat.mul_le_mul_right _ (by omega)) this
    unfold maxLen at hm
    refine ⟨some ⟨b, o, none⟩, cap, xs, by rw [hxs.1], by omega, ⟨rfl, by omega, fun h0 => ⟨⟨b, o, none⟩, rfl, fun j p hj => ?_⟩⟩, Or.inr ⟨b, o, rfl⟩, fun y hy => ?_, by rw [hxs.1]; exact hlm⟩
    · obtain ⟨⟨c, h1, h2, h3⟩, _⟩ := hxs.2 j p hj
      refine ⟨c, h1, h2, fun i u hu => ?_⟩
      have e : ∀ (o' k : Nat), (⟨b, o', none⟩ : Addr).add k = ⟨b, o' + k, none⟩ := by intro o' k; unfold Addr.add; split <;> simp_all
      rw [e, ← Nat.add_assoc]
      exact h3 i u hu
    · obtain ⟨i, hi⟩ := List.getElem?_of_mem hy
      exact (hxs.2 i y hi).2
theorem open_str1 {n : Nat} {cs : List Value} {y : DataW H × List MemPlace} (hl : cs.length = 1) (h : DataW.trod enc Tryd.prog w base spare held n 9 cs = some y) : ∃ a : ByteArray, Kd.string.K w a cs ∧ a.size ≤ 9223372036854775807 := by
  obtain ⟨s, rfl, _, hs⟩ := DataW.trod_string Tryd.underlying9 h
  exact ⟨s, rfl, by unfold maxLen at hs; omega⟩
theorem open_int1 {n : Nat} {cs : List Value} {y : DataW H × List MemPlace} (hl : cs.length = 1) (h : DataW.trod enc Tryd.prog w base spare held n 3 cs = some y) : ∃ a : Int, (Kd.int .i64).K w a cs ∧ True := by
  obtain ⟨s, rfl, _⟩ := DataW.trod_int Tryd.underlying3 h
  exact ⟨s, rfl, trivial⟩
theorem open_chg {n : Nat} {cs : List Value} {y : DataW H × List MemPlace} (hl : cs.length = 3) (h : DataW.trod enc Tryd.prog w base spare held n 59 cs = some y) : ∃ a : S59, k59.K w a cs ∧ a.f2.size ≤ 9223372036854775807 := by
  have c3 : Tryd.prog.cellsOf 3 = 1 := by kernel_rfl
  have c9 : Tryd.prog.cellsOf 9 = 1 := by kernel_rfl
  obtain ⟨xs, k, hk, hxy, _, hxl, hf⟩ := DataW.trod_struct Tryd.underlying59 h
  match cs, hl, xs, hxl with
  | [v0, v1, v2], _, [y0, y1, y2], _ =>
    have g0 := hf 0 _ rfl
    have g1 := hf 1 _ rfl
    have g2 := hf 2 _ rfl
    simp [c3, c9] at g0 g1 g2
    obtain ⟨a0, e0, _⟩ := DataW.trod_int Tryd.underlying3 g0
    obtain ⟨a1, e1, _⟩ := DataW.trod_int Tryd.underlying3 g1
    obtain ⟨a2, e2, _, hs⟩ := DataW.trod_string Tryd.underlying9 g2
    simp only [List.cons.injEq, and_true] at e0 e1 e2
    subst e0 e1 e2
    exact ⟨⟨a0, a1, a2⟩, k59_mk w ⟨a0, a1, a2⟩, by unfold maxLen at hs; simp only; omega⟩
end
theorem weights_all {H : Type} {P : Program} {ts : List TypeId} {ds : List (DataW H)} {j : Nat} {t : TypeId} {d : DataW H} (h : (DataW.weightsEach P ts ds).all (· ≤ reachBytes) = true) (ht : ts[j]? = some t) (hd : ds[j]? = some d) : (DataW.weights P t d).all (· ≤ reachBytes) = true :=
  List.all_eq_true.2 fun n hn => List.all_eq_true.1 h n (DataW.weights_mem_each ht hd n hn)
/-- a waveform that comes in -/
theorem open_wave {H : Type} {enc : TypeId × Value → H} {w : World} {r : Reach} {b0 : Nat} {held : Bool} {v : Value} {d : DataW H} {p : List MemPlace} (hv : Value.okWide Tryd.prog w r b0 26 v)
    (h : DataW.Trod enc Tryd.prog w 0 (fun _ => true) held 26 v d p) (hw : (DataW.weights Tryd.prog 26 d).all (· ≤ reachBytes) = true) :
    ∃ x A0 c0 A1 c1 A2 c2 A3 c3, v = wvV x A0 c0 A1 c1 A2 c2 A3 c3 ∧ WIn w x A0 c0 A1 c1 A2 c2 A3 c3 := by
  have c22 : Tryd.prog.cellsOf 22 = 1 := by kernel_rfl
  have c23 : Tryd.prog.cellsOf 23 = 1 := by kernel_rfl
  have c24 : Tryd.prog.cellsOf 24 = 1 := by kernel_rfl
  have c26 : Tryd.prog.cellsOf 26 = 4 := by kernel_rfl
  have s9 : Tryd.prog.cellsOf 9 = 1 := by kernel_rfl
  have s3 : Tryd.prog.cellsOf 3 = 1 := by kernel_rfl
  have s59 : Tryd.prog.cellsOf 59 = 3 := by kernel_rfl
  have y9 : Tryd.prog.bytesOf 9 = 16 := by kernel_rfl
  have y59 : Tryd.prog.bytesOf 59 = 32 := by kernel_rfl
  unfold Value.okWide at hv
  rw [Tryd.underlying26] at hv
  obtain ⟨cs, rfl, hcs, ts, hts, _, hrow⟩ := hv
  rw [show Tryd.prog.cellTypes Tryd.prog.depth 26 = some [22, 23, 22, 24] from by kernel_rfl] at hts
  injection hts with hts
  subst hts
  rw [c26] at hcs
  obtain ⟨fuel, hf⟩ := h
  obtain ⟨cs⟩ := cs
  match cs, hcs with
  | [v0, v1, v2, v3], _ =>
    have k0 := hrow 0 v0 rfl
    have k1 := hrow 1 v1 rfl
    have k2 := hrow 2 v2 rfl
    have k3 := hrow 3 v3 rfl
    simp at k0 k1 k2 k3
    obtain ⟨xs, k, hk, hxy, _, hxl, hfs⟩ := DataW.trod_struct Tryd.underlying26 hf
    injection hxy with hd hp
    match xs, hxl with
    | [y0, y1, y2, y3], _ =>
      have g0 := hfs 0 _ rfl
      have g1 := hfs 1 _ rfl
      have g2 := hfs 2 _ rfl
      have g3 := hfs 3 _ rfl
      simp [c22, c23, c24, Value.cells] at g0 g1 g2 g3
      have hw' : ∀ (j : Nat) (t : TypeId) (d' : DataW H), ([22, 23, 22, 24] : List TypeId)[j]? = some t → ([y0.1, y1.1, y2.1, y3.1] : List (DataW H))[j]? = some d' → (DataW.weights Tryd.prog t d').all (· ≤ reachBytes) = true := by
        intro j t d' h1 h2
        rw [hd] at hw
        simp only [DataW.weights, Tryd.underlying26] at hw
        exact weights_all hw h1 h2
      obtain ⟨A0, c0, l0, rfl, b0', C0, a0, z0, _⟩ := open_row Kd.string _ Tryd.underlying22 s9 (fun n cs y => open_str1) k0 g0 (hw' 0 _ _ rfl rfl)
      obtain ⟨A1, c1, l1, rfl, b1', C1, a1, _, _⟩ := open_row (Kd.int .i64) _ Tryd.underlying23 s3 (fun n cs y => open_int1) k1 g1 (hw' 1 _ _ rfl rfl)
      obtain ⟨A2, c2, l2, rfl, b2', C2, a2, z2, _⟩ := open_row Kd.string _ Tryd.underlying22 s9 (fun n cs y => open_str1) k2 g2 (hw' 2 _ _ rfl rfl)
      haveI : Inhabited S59 := ⟨z59⟩
      obtain ⟨A3, c3, l3, rfl, b3', C3, a3, z3, w3⟩ := open_row k59 _ Tryd.underlying24 s59 (fun n cs y => open_chg) k3 g3 (hw' 3 _ _ rfl rfl)
      rw [y59] at w3
      exact ⟨⟨l0, l1, l2, l3⟩, A0, c0, A1, c1, A2, c2, A3, c3, rfl, ⟨C0, C1, C2, C3, b0', b1', b2', b3', a0, a1, a2, a3, z0, z2, z3, (by show l3.length * 32 ≤ 140737488355328; omega)⟩⟩
end Go.Proofs.YtcbkgammlfjjoaaDoor
