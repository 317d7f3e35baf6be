/- Netlists out of numbers, plainly: they may be, and have no loop. Netlists out of numbers: each kind of node that Made makes. Netlists out of numbers: values of so many parts. A netlist that grows, in memory: a node more. A netlist that grows, in memory: a node so wide. A netlist that grows, in memory: what a node hangs on, anew. Netlists out of numbers: what stands while one gate is laid. Made: what its walk wants. Made: its first loop's body, and what stands at each round. -/
import Derived.Test.YtonnmkhmhndalaaDoorZc
import Derived.Test.YtonnmkhmhndalaaDoorZd
import Derived.Test.YtonnmkhmhndalaaDoorZe
import Derived.Deep.RegionLaw
import Derived.BigRegion
import Derived.Deep.AppendLies
import Derived.BigQuiet
import Derived.Deep.QuietTactic
section
namespace Go.Proofs.YtonnmkhmhndalaaDoor
set_option linter.unusedVariables false
set_option linter.unusedSimpArgs false
structure GNode (l : List S39) (k : Nat) (y : S39) : Prop where
  w : 1 ≤ y.f2 ∧ y.f2 ≤ 200
  i : ∀ v ∈ y.f3, 0 ≤ v ∧ v < l.length
  h : ∀ v ∈ hg y, v < k
  nb : nodeB (wsOf l y) y = true
  zb : zeroB y = true
  two : y.f0 = 2 → k < 2
  s3 : y.f3.length ≤ 3
  s4 : y.f4.size ≤ 4
structure GL (l : List S39) : Prop where
  two : 2 ≤ l.length
  nd : ∀ k, k < l.length → GNode l k (l.getD k z39)
theorem wAt_push (l : List S39) (z : S39) (v : Int) (h : 0 ≤ v ∧ v < l.length) : wAt (l ++ [z]) v = wAt l v := by
  unfold wAt
  rw [List.getD_eq_getElem?_getD, List.getElem?_append_left (by omega), ← List.getD_eq_getElem?_getD]
theorem wsOf_eq {l l' : List S39} {y : S39} (h : ∀ v ∈ y.f3, wAt l' v = wAt l v) : wsOf l' y = wsOf l y := by
  unfold wsOf
  exact List.map_congr_left h
theorem GNode.push {l : List S39} {k : Nat} {y z : S39} (h : GNode l k y) : GNode (l ++ [z]) k y :=
  ⟨h.w, fun v hv => ⟨(h.i v hv).1, by have := (h.i v hv).2; rw [List.length_append, List.length_singleton]; omega⟩, h.h, by rw [wsOf_eq fun v hv => wAt_push l z v (h.i v hv)]; exact h.nb, h.zb, h.two, h.s3, h.s4⟩
theorem getD_push_lt (l : List S39) (z : S39) (k : Nat) (h : k < l.length) : (l ++ [z]).getD k z39 = l.getD k z39 := by
  rw [List.getD_eq_getElem?_getD, List.getElem?_append_left h, ← List.getD_eq_getElem?_getD]
theorem getD_push_eq (l : List S39) (z : S39) : (l ++ [z]).getD l.length z39 = z := by
  rw [List.getD_eq_getElem?_getD, List.getElem?_append_right (Nat.le_refl _)]
  simp
theorem GL.push {l : List S39} (h : GL l) {y : S39} (hy : GNode l l.length y) : GL (l ++ [y]) := by
  refine ⟨by rw [List.length_append]; exact Nat.le_trans h.two (Nat.le_add_right _ _), fun k hk => ?_⟩
  rw [List.length_append, List.length_singleton] at hk
  by_cases e : k = l.length
  · subst e; rw [getD_push_eq]; exact hy.push
  · rw [getD_push_lt l y k (by omega)]; exact (h.nd k (by omega)).push
theorem wAt_set (l : List S39) (k : Nat) (y : S39) (hw : y.f2 = (l.getD k z39).f2) (v : Int) : wAt (l.set k y) v = wAt l v := by
  unfold wAt
  by_cases e : v.toNat = k
  · subst e
    by_cases h : v.toNat < l.length
    · rw [List.getD_eq_getElem?_getD, List.getElem?_set_self h]; exact hw
    · rw [List.set_eq_of_length_le (by omega)]
  · rw [List.getD_eq_getElem?_getD, List.getElem?_set_ne (Ne.symm e), ← List.getD_eq_getElem?_getD]
theorem GL.put {l : List S39} (h : GL l) {k : Nat} {y : S39} (hk : k < l.length) (hw : y.f2 = (l.getD k z39).f2) (hy : GNode l k y) : GL (l.set k y) := by
  have key : ∀ {j : Nat} {z : S39}, GNode l j z → GNode (l.set k y) j z := fun {j z} g =>
    ⟨g.w, fun v hv => by rw [List.length_set]; exact g.i v hv, g.h, by rw [wsOf_eq fun v _ => wAt_set l k y hw v]; exact g.nb, g.zb, g.two, g.s3, g.s4⟩
  refine ⟨by rw [List.length_set]; exact h.two, fun j hj => ?_⟩
  rw [List.length_set] at hj
  by_cases e : j = k
  · subst e
    rw [List.getD_eq_getElem?_getD, List.getElem?_set_self hk]
    exact key hy
  · rw [List.getD_eq_getElem?_getD, List.getElem?_set_ne (Ne.symm e), ← List.getD_eq_getElem?_getD]
    exact key (h.nd j hj)
theorem GL.free {l : List S39} (h : GL l) {out : Nat → Nat} {done : Nat → Bool} {cnt : Nat} (hr : LRes l.length (hs l) out done cnt) : cnt = l.length := by
  have key : ∀ u, u < l.length → ∀ x ∈ hs l u, x < u := by
    intro u hu x hx
    unfold hs at hx
    obtain ⟨v, hv, rfl⟩ := List.mem_map.1 hx
    have g := h.nd u hu
    have h1 := g.h v hv
    have hm : v ∈ (l.getD u z39).f3 := by
      unfold hg at hv
      split at hv
      · cases hv
      · split at hv
        · exact List.mem_of_mem_take hv
        · exact hv
    have h2 := (g.i v hm).1
    omega
  rcases Nat.lt_or_ge cnt l.length with h1 | h1
  · exfalso
    refine hr.nofix (fun u hu x hx => by have := key u hu x hx; omega) h1 (fun u => u) (fun u hu x hx => by have := key u hu x hx; show x + 1 ≤ u; omega)
  · have := hr.le; omega
theorem GL.may {l : List S39} (h : GL l) (hn : l.length ≤ 4096) (tl : List Int) (ht : ∀ v ∈ tl, 1 < v ∧ v < l.length) : mayL ⟨l, [0, 1] ++ tl, (([0, 1] ++ tl).length : Nat)⟩ = true := by
  have h2 := h.two
  refine (may_iff _).2 ⟨hn, rfl, fun i hi => ?_, fun i hi => ?_, fun i hi => (h.nd i hi).nb, fun i hi => (h.nd i hi).zb, fun i hi => ?_⟩
  · have g := h.nd i hi
    unfold wideB
    rw [Bool.and_eq_true, Bool.and_eq_true, decide_eq_true_eq, decide_eq_true_eq, List.all_eq_true]
    refine ⟨⟨g.w.1, by have := g.w.2; show (l.getD i z39).f2 ≤ 256; omega⟩, fun v hv => ?_⟩
    have := g.i v hv
    unfold inB
    rw [Bool.and_eq_true, decide_eq_true_eq, decide_eq_true_eq]
    exact this
  · have hm : ([0, 1] ++ tl).getD i 0 ∈ ([0, 1] ++ tl : List Int) := by
      rw [List.getD_eq_getElem?_getD, List.getElem?_eq_getElem hi]
      exact List.getElem_mem hi
    have : 0 ≤ ([0, 1] ++ tl : List Int).getD i 0 ∧ ([0, 1] ++ tl : List Int).getD i 0 < l.length := by
      rcases List.mem_append.1 hm with h1 | h1
      · simp only [List.mem_cons, List.not_mem_nil, or_false] at h1
        omega
      · have := ht _ h1
        omega
    unfold inB
    rw [Bool.and_eq_true, decide_eq_true_eq, decide_eq_true_eq]
    exact this
  · have g := h.nd i hi
    unfold portB
    by_cases e : (l.getD i z39).f0 = 2
    · have hi2 := g.two e
      have c0 : tl.count (0 : Int) = 0 := List.count_eq_zero.2 fun hm => by have := (ht 0 hm).1; omega
      have c1 : tl.count (1 : Int) = 0 := List.count_eq_zero.2 fun hm => by have := (ht 1 hm).1; omega
      have : ([0, 1] ++ tl : List Int).count (i : Int) = 1 := by
        rw [List.count_append]
        rcases (show i = 0 ∨ i = 1 by omega) with rfl | rfl
        · show List.count (0 : Int) [0, 1] + tl.count (0 : Int) = 1
          rw [c0]; rfl
        · show List.count (1 : Int) [0, 1] + tl.count (1 : Int) = 1
          rw [c1]; rfl
      rw [decide_eq_true this, Bool.or_true]
    · show (!decide ((l.getD i z39).f0 = 2) || _) = true
      rw [decide_eq_false e]
      rfl
end Go.Proofs.YtonnmkhmhndalaaDoor
end
section
namespace Go.Proofs.YtonnmkhmhndalaaDoor
set_option linter.unusedVariables false
set_option linter.unusedSimpArgs false
def At (l : List S39) (v : Int) : Prop := 0 ≤ v ∧ v < l.length
theorem GL.wd {l : List S39} (h : GL l) {v : Int} (hv : At l v) : 1 ≤ wAt l v ∧ wAt l v ≤ 200 := (h.nd v.toNat (by have := hv.1; have := hv.2; omega)).w
theorem At.lt {l : List S39} {v : Int} (h : At l v) : v < (l.length : Int) := h.2
variable {l : List S39}
theorem g_const {v : ByteArray} {w : Int} (hv : vOk v = true) (hs : (v.size : Int) = w) (h1 : 1 ≤ w) (h2 : w ≤ 4) : GNode l l.length ⟨1, 0, w, [], v, 0, 0, 0⟩ :=
  ⟨⟨h1, by show w ≤ 200; omega⟩, fun v hv => (by cases hv), fun v hv => (by cases hv), by simp [nodeB, wsOf, hv, hs], by simp [zeroB], by simp, by simp, by show v.size ≤ 4; omega⟩
theorem g_wide {k w : Int} (hk : At l k) (h1 : 1 ≤ w) (h2 : w ≤ 200) : GNode l l.length ⟨6, 0, w, [k], ⟨#[]⟩, 0, 0, 0⟩ :=
  ⟨⟨h1, h2⟩, fun v hv => by rw [List.mem_singleton.1 hv]; exact hk, fun v hv => by rw [show v = k by simpa [hg] using hv]; exact hk.2, by simp [nodeB, wsOf], by simp [zeroB], by simp, by simp, Nat.zero_le _⟩
theorem mem2 {a b v : Int} (h : v ∈ [a, b]) : v = a ∨ v = b := by simpa using h
theorem mem3 {a b c v : Int} (h : v ∈ [a, b, c]) : v = a ∨ v = b ∨ v = c := by simpa using h
theorem g_two {op p q w W : Int} (hp : At l p) (hq : At l q) (o1 : 13 ≤ op) (o2 : op ≤ 26) (wp : wAt l p = w) (wq : wAt l q = w) (h1 : 1 ≤ w) (h2 : w ≤ 4) (hW : silkwormbook_binary.f op w = some W) : GNode l l.length ⟨3, op, W, [p, q], ⟨#[]⟩, 0, 0, 0⟩ := by
  have hop : op = 13 ∨ op = 14 ∨ op = 15 ∨ op = 16 ∨ op = 17 ∨ op = 18 ∨ op = 19 ∨ op = 20 ∨ op = 21 ∨ op = 22 ∨ op = 23 ∨ op = 24 ∨ op = 25 ∨ op = 26 := by omega
  have key : opW op 0 0 [w, w] = W ∧ 1 ≤ W ∧ W ≤ 4 := by
    rcases hop with rfl | rfl | rfl | rfl | rfl | rfl | rfl | rfl | rfl | rfl | rfl | rfl | rfl | rfl <;>
      (simp [silkwormbook_binary.f] at hW; subst hW; simp [opW, isI]; try exact ⟨h1, h2⟩)
  refine ⟨⟨key.2.1, by have := key.2.2; show W ≤ 200; omega⟩, fun v hv => ?_, fun v hv => ?_, ?_, ?_, by simp, by simp, Nat.zero_le _⟩
  · rcases mem2 hv with rfl | rfl <;> assumption
  · rcases mem2 (show v ∈ [p, q] by simpa [hg] using hv) with rfl | rfl
    · exact hp.2
    · exact hq.2
  · have e : wsOf l ⟨3, op, W, [p, q], ⟨#[]⟩, 0, 0, 0⟩ = [w, w] := by simp [wsOf, wp, wq]
    rw [e]
    simp [nodeB, key.1]
  · simp [zeroB]
theorem g_one {op a W : Int} (ha : At l a) (o1 : 7 ≤ op) (o2 : op ≤ 12) (hb : 1 ≤ wAt l a ∧ wAt l a ≤ 200) (hW : (if op = 7 ∨ op = 9 then wAt l a else 1) = W) : GNode l l.length ⟨3, op, W, [a], ⟨#[]⟩, 0, 0, 0⟩ := by
  have hop : op = 7 ∨ op = 8 ∨ op = 9 ∨ op = 10 ∨ op = 11 ∨ op = 12 := by omega
  have key : opW op 0 0 [wAt l a] = W ∧ 1 ≤ W ∧ W ≤ 200 := by
    rcases hop with rfl | rfl | rfl | rfl | rfl | rfl <;>
      (simp at hW; subst hW; simp [opW, isI]; try exact hb)
  refine ⟨key.2, fun v hv => ?_, fun v hv => ?_, ?_, ?_, by simp, by simp, Nat.zero_le _⟩
  · rw [List.mem_singleton.1 hv]; exact ha
  · rw [show v = a by simpa [hg] using hv]; exact ha.2
  · have e : wsOf l ⟨3, op, W, [a], ⟨#[]⟩, 0, 0, 0⟩ = [wAt l a] := by simp [wsOf]
    rw [e]
    simp [nodeB, key.1]
  · have : op ≠ 4 := by omega
    simp [zeroB, this]
theorem g_choose {c p q w : Int} (hc : At l c) (hp : At l p) (hq : At l q) (wp : wAt l p = w) (wq : wAt l q = w) (h1 : 1 ≤ w) (h2 : w ≤ 4) : GNode l l.length ⟨4, 0, w, [c, p, q], ⟨#[]⟩, 0, 0, 0⟩ := by
  refine ⟨⟨h1, by show w ≤ 200; omega⟩, fun v hv => ?_, fun v hv => ?_, by simp [nodeB, wsOf, wp, wq], by simp [zeroB], by simp, by simp, Nat.zero_le _⟩
  · rcases mem3 hv with rfl | rfl | rfl <;> assumption
  · rcases mem3 (show v ∈ [c, p, q] by simpa [hg] using hv) with rfl | rfl | rfl
    · exact hc.2
    · exact hp.2
    · exact hq.2
theorem g_cond {c p q w : Int} (hc : At l c) (hp : At l p) (hq : At l q) (wp : wAt l p = w) (wq : wAt l q = w) (h1 : 1 ≤ w) (h2 : w ≤ 4) : GNode l l.length ⟨3, 6, w, [c, p, q], ⟨#[]⟩, 0, 0, 0⟩ := by
  refine ⟨⟨h1, by show w ≤ 200; omega⟩, fun v hv => ?_, fun v hv => ?_, by simp [nodeB, wsOf, wp, wq, opW], by simp [zeroB], by simp, by simp, Nat.zero_le _⟩
  · rcases mem3 hv with rfl | rfl | rfl <;> assumption
  · rcases mem3 (show v ∈ [c, p, q] by simpa [hg] using hv) with rfl | rfl | rfl
    · exact hc.2
    · exact hp.2
    · exact hq.2
theorem g_same {p q w : Int} (hp : At l p) (hq : At l q) (wp : wAt l p = w) (wq : wAt l q = w) : GNode l l.length ⟨5, 0, 1, [p, q], ⟨#[]⟩, 0, 0, 0⟩ := by
  refine ⟨⟨Int.le_refl 1, (by decide : (1 : Int) ≤ 200)⟩, fun v hv => ?_, fun v hv => ?_, by simp [nodeB, wsOf, wp, wq], by simp [zeroB], by simp, by simp, Nat.zero_le _⟩
  · rcases mem2 hv with rfl | rfl <;> assumption
  · rcases mem2 (show v ∈ [p, q] by simpa [hg] using hv) with rfl | rfl
    · exact hp.2
    · exact hq.2
theorem g_flip {k : Nat} {c p w : Int} (hc : At l c) (hck : c < k) (hp : At l p) (wp : wAt l p = w) (h1 : 1 ≤ w) (h2 : w ≤ 200) : GNode l k ⟨7, 0, w, [c, p], ⟨#[]⟩, 0, 0, 0⟩ := by
  refine ⟨⟨h1, h2⟩, fun v hv => ?_, fun v hv => ?_, by simp [nodeB, wsOf, wp], by simp [zeroB], by simp, by simp, Nat.zero_le _⟩
  · rcases mem2 hv with rfl | rfl <;> assumption
  · rw [show v = c by simpa [hg] using hv]; exact hck
theorem g_delay {k : Nat} {p w t : Int} (hp : At l p) (wp : wAt l p = w) (h1 : 1 ≤ w) (h2 : w ≤ 200) (t1 : 1 ≤ t) (t2 : t ≤ 1048576) : GNode l k ⟨8, 0, w, [p], ⟨#[]⟩, 0, 0, t⟩ := by
  refine ⟨⟨h1, h2⟩, fun v hv => ?_, fun v hv => ?_, by simp [nodeB, wsOf, wp, t1, t2], by simp [zeroB], by simp, by simp, Nat.zero_le _⟩
  · rw [List.mem_singleton.1 hv]; exact hp
  · simp [hg] at hv
theorem g_cat1 {a w : Int} (ha : At l a) (wa : wAt l a = w) (h1 : 1 ≤ w) (h2 : w ≤ 200) : GNode l l.length ⟨3, 5, w, [a], ⟨#[]⟩, 0, 0, 0⟩ := by
  refine ⟨⟨h1, h2⟩, fun v hv => ?_, fun v hv => ?_, by simp [nodeB, wsOf, wa, opW], by simp [zeroB], by simp, by simp, Nat.zero_le _⟩
  · rw [List.mem_singleton.1 hv]; exact ha
  · rw [show v = a by simpa [hg] using hv]; exact ha.2
theorem g_cat2 {a b w : Int} (ha : At l a) (hb : At l b) (wa : wAt l a + wAt l b = w) (h1 : 1 ≤ w) (h2 : w ≤ 200) : GNode l l.length ⟨3, 5, w, [a, b], ⟨#[]⟩, 0, 0, 0⟩ := by
  refine ⟨⟨h1, h2⟩, fun v hv => ?_, fun v hv => ?_, by simp [nodeB, wsOf, wa, opW], by simp [zeroB], by simp, by simp, Nat.zero_le _⟩
  · rcases mem2 hv with rfl | rfl <;> assumption
  · rcases mem2 (show v ∈ [a, b] by simpa [hg] using hv) with rfl | rfl
    · exact ha.2
    · exact hb.2
def in1 : S39 := ⟨2, 0, 1, [], ⟨#[]⟩, 0, 0, 0⟩
def in3 : S39 := ⟨2, 0, 3, [], ⟨#[]⟩, 0, 0, 0⟩
theorem gl_two : GL [in1, in3] := by
  refine ⟨by decide, fun k hk => ?_⟩
  have : k = 0 ∨ k = 1 := by simp at hk; omega
  rcases this with rfl | rfl
  · exact ⟨by decide, fun v hv => (by cases hv), fun v hv => (by cases hv), by rfl, by simp [zeroB, in1, in3], fun _ => by decide, by decide, Nat.zero_le _⟩
  · exact ⟨by decide, fun v hv => (by cases hv), fun v hv => (by cases hv), by rfl, by simp [zeroB, in1, in3], fun _ => by decide, by decide, Nat.zero_le _⟩
theorem GL.delay {k : Nat} (h : GL l) (hk : k < l.length) (e : (l.getD k z39).f0 = 8) {tv : Int} (ht : At l tv) (hw : wAt l tv = (l.getD k z39).f2) : GL (l.set k { l.getD k z39 with f3 := [tv] }) := by
  have g := h.nd k hk
  refine h.put hk rfl ?_
  generalize l.getD k z39 = y at *
  have hnb := g.nb
  have hz := g.zb
  refine ⟨g.w, fun v hv => ?_, fun v hv => ?_, ?_, ?_, g.two, by simp, g.s4⟩
  · rw [List.mem_singleton.1 hv]; exact ht
  · simp [hg, e] at hv
  · simp [nodeB, wsOf, e] at hnb ⊢
    exact ⟨hw, hnb.2.2⟩
  · simpa [zeroB] using hz
theorem GL.flip {k : Nat} (h : GL l) (hk : k < l.length) (e : (l.getD k z39).f0 = 7) {tv : Int} (ht : At l tv) (hw : wAt l tv = (l.getD k z39).f2) : GL (l.set k { l.getD k z39 with f3 := [(l.getD k z39).f3.getD 0 0, tv] }) ∧ 0 < (l.getD k z39).f3.length := by
  have g := h.nd k hk
  have hnb := g.nb
  have h2 : ∀ y : S39, nodeB (wsOf l y) y = true → y.f0 = 7 → y.f3.length = 2 := by
    intro y hnb e
    simp [nodeB, wsOf, e] at hnb
    exact hnb.1
  replace h2 := h2 _ hnb e
  refine ⟨h.put hk rfl ?_, by omega⟩
  generalize l.getD k z39 = y at *
  obtain ⟨a, b, hab⟩ : ∃ a b, y.f3 = [a, b] := by
    match hy : y.f3, h2 with
    | [a, b], _ => exact ⟨a, b, rfl⟩
  have hz := g.zb
  have ha := g.i a (by rw [hab]; simp)
  have hak := g.h a (by simp [hg, e, hab])
  have e0 : y.f3.getD 0 0 = a := by rw [hab]; rfl
  rw [e0]
  refine ⟨g.w, fun v hv => ?_, fun v hv => ?_, ?_, ?_, g.two, by simp, g.s4⟩
  · rcases mem2 hv with rfl | rfl
    · exact ha
    · exact ht
  · have : v = a := by simpa [hg, e] using hv
    rw [this]; exact hak
  · simp [nodeB, wsOf, e] at hnb ⊢
    exact hw
  · simpa [zeroB] using hz
end Go.Proofs.YtonnmkhmhndalaaDoor
end
section
namespace Go.Proofs.YtonnmkhmhndalaaDoor
set_option linter.unusedVariables false
set_option linter.unusedSimpArgs false
open Go.RowKit Go.Proofs.YtonnmkhmhndalaaDoorW.PrintWords Go.Proofs.YtonnmkhmhndalaaDoorW.PrintLast Go.Proofs.YtonnmkhmhndalaaDoorW.PrintMore
theorem mask_lt (n : Int) (m : Nat) (j : Nat) (hm : (BitVec.ofInt 64 (m : Int)).toNat = 2 ^ j - 1) (hj : 2 ^ j ≤ 65536) : ∃ q : Nat, bits .and .i64 n (m : Int) = (q : Int) ∧ q < 2 ^ j := by
  have e : (BitVec.ofInt 64 n &&& BitVec.ofInt 64 (m : Int)).toNat < 2 ^ j := by
    rw [BitVec.toNat_and, hm, Nat.and_two_pow_sub_one_eq_mod]
    exact Nat.mod_lt _ (Nat.two_pow_pos j)
  refine ⟨(BitVec.ofInt 64 n &&& BitVec.ofInt 64 (m : Int)).toNat, ?_, e⟩
  show IntKind.i64.wrap ((BitVec.ofInt 64 n &&& BitVec.ofInt 64 (m : Int)).toNat : Int) = _
  exact IntWalk.i64_in _ ⟨by omega, by omega⟩
def bit4 (v : Int) : Prop := v = 48 ∨ v = 49 ∨ v = 120 ∨ v = 122
theorem bit4_set {l : List Int} {i : Nat} {v : Int} (hv : bit4 v) (hi : i < l.length) (h : ∀ j, j < i → bit4 (l.getD j 0)) : ∀ j, j < i + 1 → bit4 ((l.set i v).getD j 0) := by
  intro j hj
  by_cases e : j = i
  · subst e; rw [List.getD_eq_getElem?_getD, List.getElem?_set_self hi]; exact hv
  · rw [List.getD_eq_getElem?_getD, List.getElem?_set_ne (Ne.symm e), ← List.getD_eq_getElem?_getD]; exact h j (by omega)
theorem bit4_set2 {l : List Int} {i : Nat} {v : Int} (hv : bit4 v) (hi : i < l.length) (h : ∀ j, j < i + 1 → bit4 (l.getD j 0)) : ∀ j, j < i + 1 → bit4 ((l.set i v).getD j 0) := bit4_set hv hi fun j hj => h j (by omega)
theorem vec_l0 (x0 : Int) (W : Nat) (hW : W ≤ 1000) : ∀ (d k i : Nat) (l : List Int), i + d = W → l.length = W → (∀ j, j < i → bit4 (l.getD j 0)) → 2 * d + 1 ≤ k →
    ∃ y, silkwormbook_vector.l0 k x0 (W : Int) l (i : Int) = some (strOfNums y) ∧ y.length = W ∧ ∀ j, j < W → bit4 (y.getD j 0) := by
  intro d
  induction d with
  | zero =>
    intro k i l hi hl hb hk
    obtain ⟨k, rfl⟩ : ∃ m, k = m + 1 := ⟨k - 1, by omega⟩
    obtain rfl : i = W := by omega
    refine ⟨l, ?_, hl, hb⟩
    simp only [silkwormbook_vector.l0]
    rw [if_neg (by omega)]
  | succ d ih =>
    intro k i l hi hl hb hk
    obtain ⟨k, rfl⟩ : ∃ m, k = m + 1 + 1 := ⟨k - 2, by omega⟩
    obtain ⟨q, hq, hq2⟩ := mask_lt (i : Int) 15 4 (by decide) (by decide)
    have hq3 : bits .and .i64 (i : Int) 15 = (q : Int) := hq
    have w1 : wrap64 (2 * (q : Int)) = 2 * (q : Int) := w64 (by omega) (by omega)
    have w2 : wrap64 ((i : Int) + 1) = ((i + 1 : Nat) : Int) := by
      have : wrap64 ((i : Int) + 1) = (i : Int) + 1 := w64 (by omega) (by omega)
      rw [this]; omega
    have go : ∀ l' : List Int, l'.length = W → (∀ j, j < i + 1 → bit4 (l'.getD j 0)) → ∃ y, silkwormbook_vector.l0 k x0 (W : Int) l' (wrap64 ((i : Int) + 1)) = some (strOfNums y) ∧ y.length = W ∧ ∀ j, j < W → bit4 (y.getD j 0) := fun l' h1 h2 => by
      rw [w2]; exact ih k (i + 1) l' (by omega) h1 h2 (by omega)
    have gj : ∀ (l' : List Int) (a : Int) (b : Bool), l'.length = W → (∀ j, j < i + 1 → bit4 (l'.getD j 0)) → ∃ y, silkwormbook_vector.j1 (k + 1) x0 (W : Int) l' (i : Int) a b = some (strOfNums y) ∧ y.length = W ∧ ∀ j, j < W → bit4 (y.getD j 0) := by
      intro l' a b h1 h2
      have hil : i < l'.length := by omega
      simp only [silkwormbook_vector.j1]
      have p0 : (0 : Int) ≤ (i : Int) := by omega
      have p1 : (i : Int) < (l'.length : Int) := by omega
      simp only [p0, p1, if_true, Option.bind_some, Int.toNat_natCast]
      have a1 := go (l'.set i 120) (by simpa using h1) (bit4_set2 (by simp [bit4]) hil h2)
      have a2 := go (l'.set i 122) (by simpa using h1) (bit4_set2 (by simp [bit4]) hil h2)
      have a3 := go l' h1 h2
      have a4 := go ((l'.set i 120).set i 122) (by simpa using h1) (bit4_set2 (by simp [bit4]) (by simpa using hil) (bit4_set2 (by simp [bit4]) hil h2))
      repeat' split
      all_goals assumption
    simp only [silkwormbook_vector.l0]
    rw [hq3, w1]
    rw [if_pos (by omega), if_pos (by omega), if_pos (by omega), if_pos (by omega)]
    obtain ⟨u, hu, hu2⟩ := mask_lt (Go.bits .and .i64 (shr .i64 x0 (2 * (q : Int))) 3) 1 1 (by decide) (by decide)
    have hu3 : bits .and .i64 (Go.bits .and .i64 (shr .i64 x0 (2 * (q : Int))) 3) 1 = (u : Int) := hu
    rw [hu3]
    have hu4 : u = 0 ∨ u = 1 := by omega
    have hv : bit4 (wrap64 (48 + (u : Int)) % 256) := by
      have : wrap64 (48 + (u : Int)) = 48 + (u : Int) := w64 (by omega) (by omega)
      rw [this]
      rcases hu4 with rfl | rfl
      · exact Or.inl rfl
      · exact Or.inr (Or.inl rfl)
    simp only [Option.bind_some, Int.toNat_natCast]
    have g1 := fun a b => gj (l.set i (wrap64 (48 + (u : Int)) % 256)) a b (by simpa using hl) (bit4_set hv (by omega) hb)
    repeat' split
    all_goals exact g1 _ _
theorem vec_f (x0 : Int) (W : Nat) (h1 : 1 ≤ W) (h2 : W ≤ 4) : ∃ v, silkwormbook_vector.f 9 x0 (W : Int) = some v ∧ vOk v = true ∧ (v.size : Int) = (W : Int) := by
  obtain ⟨y, hy, hl, hb⟩ := vec_l0 x0 W (by omega) W 9 0 (List.replicate W 0) (by omega) (by simp) (by omega) (by omega)
  have e0 : silkwormbook_vector.f 9 x0 (W : Int) = some (strOfNums y) := by
    unfold silkwormbook_vector.f
    rw [if_pos (by omega), if_pos (by omega), Int.toNat_natCast]
    exact hy
  refine ⟨_, e0, ?_, ?_⟩
  · unfold vOk
    rw [strOfNums_size, hl, decide_eq_true h1, decide_eq_true (by omega), strOfNums_data, Bool.true_and, Bool.true_and, List.all_eq_true]
    intro c hc
    obtain ⟨v, hv, rfl⟩ := List.mem_map.1 hc
    obtain ⟨j, hj, rfl⟩ := List.getElem_of_mem hv
    have h3 := hb j (by omega)
    rw [List.getD_eq_getElem?_getD, List.getElem?_eq_getElem hj, Option.getD_some] at h3
    rcases h3 with h | h | h | h <;> rw [h] <;> decide
  · rw [strOfNums_size, hl]
end Go.Proofs.YtonnmkhmhndalaaDoor
end
section
namespace Go.Proofs.YtonnmkhmhndalaaDoor
set_option linter.unusedVariables false
set_option linter.unusedSimpArgs false
open Go.RowKit Go.Proofs.YtonnmkhmhndalaaDoorW.PrintWords Go.Proofs.YtonnmkhmhndalaaDoorW.PrintLast Go.Proofs.YtonnmkhmhndalaaDoorW.PrintMore
structure LState (W : World) (X base : Nat) (F : Nat → Prop) (l : List S39) (A : Option Addr) (c : Nat) (B : Option Addr) (m d : Nat) (p : Int) : Prop where
  k0 : W.cell? ⟨X, 0, none⟩ = some (.slice A l.length c)
  k1 : W.cell? ⟨X, 1, none⟩ = some (.slice B m d)
  k2 : W.cell? ⟨X, 2, none⟩ = some (.int .i64 p)
  f0 : W.frozen? ⟨X, 0, none⟩ = false
  f1 : W.frozen? ⟨X, 1, none⟩ = false
  f2 : W.frozen? ⟨X, 2, none⟩ = false
  r : Kd.R k39 39 W base (fun b => b ≠ X ∧ F b) (.slice A l.length c) l
  hb : base ≤ X
theorem LState.x {W : World} {X base : Nat} {F : Nat → Prop} {l : List S39} {A : Option Addr} {c : Nat} {B : Option Addr} {m d : Nat} {p : Int} (h : LState W X base F l A c B m d p) : X < W.heap.size := World.block_lt_of_cell? W _ h.k0
theorem LState.below {W W' : World} {X base : Nat} {F : Nat → Prop} {l : List S39} {A : Option Addr} {c : Nat} {B : Option Addr} {m d : Nat} {p : Int} (h : LState W X base F l A c B m d p) (hb : Below W.heap.size W W') : LState W' X base F l A c B m d p :=
  ⟨(hb.cell (p := ⟨X, 0, none⟩) h.x).trans h.k0, (hb.cell (p := ⟨X, 1, none⟩) h.x).trans h.k1, (hb.cell (p := ⟨X, 2, none⟩) h.x).trans h.k2, (hb.frozen (p := ⟨X, 0, none⟩) h.x).trans h.f0, (hb.frozen (p := ⟨X, 1, none⟩) h.x).trans h.f1, (hb.frozen (p := ⟨X, 2, none⟩) h.x).trans h.f2, Kd.R_below h.r hb, h.hb⟩
theorem LState.put {w9 : World} {X base : Nat} {F : Nat → Prop} {l : List S39} {A1 : Option Addr} {c1 : Nat} {B : Option Addr} {m d : Nat} {p : Int} {u : Value} (y0 : w9.cell? ⟨X, 0, none⟩ = some u) (y1 : w9.cell? ⟨X, 1, none⟩ = some (.slice B m d)) (y2 : w9.cell? ⟨X, 2, none⟩ = some (.int .i64 p))
    (z0 : w9.frozen? ⟨X, 0, none⟩ = false) (z1 : w9.frozen? ⟨X, 1, none⟩ = false) (z2 : w9.frozen? ⟨X, 2, none⟩ = false) (HO : Kd.R k39 39 w9 base (fun b => b ≠ X ∧ F b) (.slice A1 l.length c1) l) (hb : base ≤ X) : LState (w9.setCell ⟨X, 0, none⟩ (.slice A1 l.length c1)) X base F l A1 c1 B m d p :=
  ⟨by simp [go_sem, y0], by simp [go_sem, y1], by simp [go_sem, y2], by simp [go_sem, z0], by simp [go_sem, z1], by simp [go_sem, z2], Kd.R_far HO (fun k hk => hk.1) _, hb⟩
theorem info39' : (Tryd.prog.info? 39).map (fun i => (i.zero, i.size, i.bytes)) = some (some (.agg #[.int .i64 0, .int .i64 0, .int .i64 0, .slice none 0 0, .string ⟨#[]⟩, .int .i64 0, .int .i64 0, .int .i64 0]), 8, 88) := by kernel_rfl
set_option maxRecDepth 100000 in
set_option maxHeartbeats 8000000 in
theorem adds_any (X base : Nat) (F : Nat → Prop) (l : List S39) (A : Option Addr) (c : Nat) (B : Option Addr) (m d : Nat) (p : Int) (x : S39) (A3 : Option Addr) (c3 : Nat) (w : World) (hS : LState w X base F l A c B m d p)
    (h3 : Kd.R (Kd.int .i64) 3 w base (fun b => (b ≠ X ∧ F b) ∧ some b ≠ (Value.slice A l.length c).ownBlock) (.slice A3 x.f3.length c3) x.f3) (hF : ∀ b, w.heap.size ≤ b → F b) (hl : (l.length + 1) * 88 ≤ 140737488355328) :
    Calls Tryd.prog 30 #[.pointer (some ⟨X, 0, none⟩), ndV x A3 c3] w fun e w' => e = .returned (.int .i64 l.length) ∧ ∃ A' c', LState w' X base F (l ++ [x]) A' c' B m d p ∧ Kept w w' (fun b => b = X ∨ F b) ∧ Below base w w' := by
  have HS := Lib.hid hS
  have H3 := Lib.hid h3
  have HL := Lib.hid hl
  have HF0 := Lib.hid hF
  clear hS h3 hl hF
  go_enter Tryd.func30, Tryd.ntmps30
  go_upto_region 1 with fail
  obtain ⟨W1, hW1⟩ : ∃ W, w.alloc (Obj.cells #[.int .i64 x.f0, .int .i64 x.f1, .int .i64 x.f2, .slice A3 x.f3.length c3, .string x.f4, .int .i64 x.f5, .int .i64 x.f6, .int .i64 x.f7] 39) = W := ⟨_, rfl⟩
  rw [hW1]
  have hb1 : Below w.heap.size w W1 := by rw [← hW1]; exact below_alloc (Below.refl _ _) _
  have hs1 : W1.heap.size = w.heap.size + 1 := by rw [← hW1]; simp
  have b0 : W1.cell? ⟨w.heap.size, 0, none⟩ = some (.int .i64 x.f0) := by rw [← hW1]; simp [go_sem]
  have b1 : W1.cell? ⟨w.heap.size, 1, none⟩ = some (.int .i64 x.f1) := by rw [← hW1]; simp [go_sem]
  have b2 : W1.cell? ⟨w.heap.size, 2, none⟩ = some (.int .i64 x.f2) := by rw [← hW1]; simp [go_sem]
  have b3 : W1.cell? ⟨w.heap.size, 3, none⟩ = some (.slice A3 x.f3.length c3) := by rw [← hW1]; simp [go_sem]
  have b4 : W1.cell? ⟨w.heap.size, 4, none⟩ = some (.string x.f4) := by rw [← hW1]; simp [go_sem]
  have b5 : W1.cell? ⟨w.heap.size, 5, none⟩ = some (.int .i64 x.f5) := by rw [← hW1]; simp [go_sem]
  have b6 : W1.cell? ⟨w.heap.size, 6, none⟩ = some (.int .i64 x.f6) := by rw [← hW1]; simp [go_sem]
  have b7 : W1.cell? ⟨w.heap.size, 7, none⟩ = some (.int .i64 x.f7) := by rw [← hW1]; simp [go_sem]
  have hS1 := HS.out.below hb1
  have HS1 := Lib.hid hS1
  have HR1 := Lib.hid hS1.r
  have H31 := Lib.hid (Kd.R_below H3.out hb1)
  obtain ⟨q0, q1, q2, r0, r1, r2, -, -⟩ := HS1.out
  have HB1 := Lib.hid hb1
  have HZ1 := Lib.hid hs1
  have nx : (W1.alloc (Obj.cells #[.int .i64 x.f0, .int .i64 x.f1, .int .i64 x.f2, .slice A3 x.f3.length c3, .string x.f4, .int .i64 x.f5, .int .i64 x.f6, .int .i64 x.f7] 39)).cell? ⟨X, 0, none⟩ = some (.slice A l.length c) := (World.cell?_alloc_lt W1 _ ⟨X, 0, none⟩ hS1.x).trans q0
  have hXW := hS1.x
  have HXW := Lib.hid hXW
  have HNo := Lib.hid (show some X ≠ (Value.slice A l.length c).ownBlock from fun e => (HR1.out.1 X e.symm).1 rfl)
  clear hW1 hb1 hs1 hS1 hXW
  go_region_law (refine Kd.R_append_step k39 (w0 := W1) (W := W1.drew) base rfl (.tmp 10) (.tmp 12) 22 39 (.agg #[.int .i64 0, .int .i64 0, .int .i64 0, .slice none 0 0, .string ⟨#[]⟩, .int .i64 0, .int .i64 0, .int .i64 0]) 88 rfl Tryd.underlying22 info39' rfl (by decide) (by decide) (.slice A l.length c) l x [.int .i64 x.f0, .int .i64 x.f1, .int .i64 x.f2, .slice A3 x.f3.length c3, .string x.f4, .int .i64 x.f5, .int .i64 x.f6, .int .i64 x.f7] (fun b => b ≠ X ∧ F b) (fun b => (b ≠ X ∧ F b) ∧ some b ≠ (Value.slice A l.length c).ownBlock) rfl rfl (k39_mkM _ base _ x (Kd.R_drew H31.out)) (fun _ h => h) (fun b hb => ⟨fun e => by have := HXW.out; subst e; exact Nat.lt_irrefl _ (Nat.lt_of_lt_of_le this hb), HF0.out b (Nat.le_trans HB1.out.size hb)⟩) (Kd.R_drew HR1.out) (Below.refl _ _).drew (Nat.le_trans HS1.out.hb (Nat.le_of_lt HXW.out)) HL.out ?_; intro v1 w9 ho hb hg hat; obtain ⟨A1, c1, hv1⟩ := Kd.R_slice ho; subst hv1; rw [show (l ++ [x]).length = l.length + 1 from by simp] at ho; rw [show (l ++ [x]).length = l.length + 1 from by simp]; have y0 := (hg.cell_far ⟨X, 0, none⟩ HXW.out HNo.out).trans q0; have y1 := (hg.cell_far ⟨X, 1, none⟩ HXW.out HNo.out).trans q1; have y2 := (hg.cell_far ⟨X, 2, none⟩ HXW.out HNo.out).trans q2; have z0 := (hg.frozen_far ⟨X, 0, none⟩ HXW.out HNo.out).trans r0; have z1 := (hg.frozen_far ⟨X, 1, none⟩ HXW.out HNo.out).trans r1; have z2 := (hg.frozen_far ⟨X, 2, none⟩ HXW.out HNo.out).trans r2; have HO := Lib.hid ho; have HBo := Lib.hid hb; have HGo := Lib.hid hg; clear ho hb hg hat)
  all_goals
    have hO := HO.out
    rw [show l.length + 1 = (l ++ [x]).length from by simp] at hO
    have hF := LState.put y0 y1 y2 z0 z1 z2 hO HS1.out.hb
    rw [show (l ++ [x]).length = l.length + 1 from by simp] at hF
    have HF := Lib.hid hF
    have HK : Hid (Kept w (w9.setCell ⟨X, 0, none⟩ (.slice A1 (l.length + 1) c1)) (fun b => b = X ∨ F b)) := by
      refine Lib.hid (Kept.setCell ?_ (Or.inl (Or.inl rfl)) _)
      refine Kept.of_grown HGo.out ((Kept.of_below HB1.out _).drew) (fun k hk => Or.inl (Or.inr (HR1.out.1 k hk).2))
    have HBl : Hid (Below base w (w9.setCell ⟨X, 0, none⟩ (.slice A1 (l.length + 1) c1))) := by
      have h1 := HB1.out.mono (Nat.le_trans HS1.out.hb (Nat.le_of_lt HS.out.x))
      have h2 := h1.trans HBo.out
      exact Lib.hid ⟨h2.os, h2.tape, h2.output, by simpa [World.setCell] using h2.size, fun k hk => (Below.heap_setCell w9 _ _ k (by have := HS1.out.hb; show k ≠ X; omega)).trans (h2.block k hk)⟩
    clear hO hF
    go_wp2_with fail
    go_ret
    exact ⟨by have := HL.out; simp; exact w64 (by omega) (by omega), _, _, HF.out, HK.out, HBl.out⟩
end Go.Proofs.YtonnmkhmhndalaaDoor
end
section
namespace Go.Proofs.YtonnmkhmhndalaaDoor
set_option linter.unusedVariables false
set_option linter.unusedSimpArgs false
open Go.RowKit Go.Proofs.YtonnmkhmhndalaaDoorW.PrintWords Go.Proofs.YtonnmkhmhndalaaDoorW.PrintLast Go.Proofs.YtonnmkhmhndalaaDoorW.PrintMore
def Ext (l l' : List S39) : Prop := l.length ≤ l'.length ∧ ∀ k : Nat, k < l.length → wAt l' (k : Int) = wAt l (k : Int)
theorem Ext.refl (l : List S39) : Ext l l := ⟨Nat.le_refl _, fun _ _ => rfl⟩
theorem Ext.trans {a b c : List S39} (h : Ext a b) (h2 : Ext b c) : Ext a c := ⟨Nat.le_trans h.1 h2.1, fun k hk => (h2.2 k (Nat.lt_of_lt_of_le hk h.1)).trans (h.2 k hk)⟩
theorem Ext.push (l : List S39) (y : S39) : Ext l (l ++ [y]) := ⟨by simp, fun k hk => wAt_push l y k ⟨by omega, by omega⟩⟩
theorem At.nat {l : List S39} {k : Nat} (h : k < l.length) : At l (k : Int) := ⟨by omega, by omega⟩
theorem LState.mono {W : World} {X base : Nat} {F G : Nat → Prop} {l : List S39} {A : Option Addr} {c : Nat} {B : Option Addr} {m d : Nat} {p : Int} (h : LState W X base F l A c B m d p) (hFG : ∀ b, F b → b < W.heap.size → G b) : LState W X base G l A c B m d p :=
  ⟨h.k0, h.k1, h.k2, h.f0, h.f1, h.f2, Kd.R_mono (Kd.R_bound h.r) (fun k hk => ⟨hk.1.1, hFG k hk.1.2 hk.2.2.1⟩), h.hb⟩
theorem LState.node {W : World} {X base : Nat} {F : Nat → Prop} {l : List S39} {A : Option Addr} {c : Nat} {B : Option Addr} {m d : Nat} {p : Int} (h : LState W X base F l A c B m d p) (k : Nat) (hk : k < l.length) : ∃ b o A3 c3, A = some ⟨b, o, none⟩ ∧ (l.getD k z39).f3.length ≤ c3 ∧ b < W.heap.size ∧ ∀ W', Below W.heap.size W W' → NAt W' b (o + k * 8) (l.getD k z39) A3 c3 :=
  nodes_in (Kd.R_reads' h.r).2.2 k hk
theorem LState.cap {W : World} {X base : Nat} {F : Nat → Prop} {l : List S39} {A : Option Addr} {c : Nat} {B : Option Addr} {m d : Nat} {p : Int} (h : LState W X base F l A c B m d p) : l.length ≤ c := (Kd.R_reads' h.r).2.1
theorem LState.own {W : World} {X base : Nat} {F : Nat → Prop} {l : List S39} {A : Option Addr} {c : Nat} {B : Option Addr} {m d : Nat} {p : Int} (h : LState W X base F l A c B m d p) : ∀ k, (Value.slice A l.length c).ownBlock = some k → k < W.heap.size := Kd.R_lt h.r
theorem wAt_nat (l : List S39) (k : Nat) : wAt l (k : Int) = (l.getD k z39).f2 := by unfold wAt; rw [Int.toNat_natCast]
theorem grown_below {w w1 : World} (hg : w.grownBy w1 none) : Below w.heap.size w w1 := ⟨hg.os, hg.tape, hg.output, hg.size, fun k hk => hg.block k hk (fun e => by cases e)⟩
theorem adds_lit {X base : Nat} {F : Nat → Prop} {l : List S39} {A : Option Addr} {c : Nat} {B : Option Addr} {m d : Nat} {p : Int} {x : S39} {A3 : Option Addr} {c3 : Nat} {w w1 : World} (hS : LState w X base F l A c B m d p) (hb : Below w.heap.size w w1)
    (h3 : Kd.R (Kd.int .i64) 3 w1 base (fun b => w.heap.size ≤ b) (.slice A3 x.f3.length c3) x.f3) (hF : ∀ b, w.heap.size ≤ b → F b) (hl : l.length ≤ 1000) :
    Calls Tryd.prog 30 #[.pointer (some ⟨X, 0, none⟩), ndV x A3 c3] w1 fun e w' => e = .returned (.int .i64 l.length) ∧ ∃ A' c', LState w' X base F (l ++ [x]) A' c' B m d p ∧ Kept w w' (fun b => b = X ∨ F b) ∧ Below base w w' := by
  refine (adds_any X base F l A c B m d p x A3 c3 w1 (hS.below hb) (Kd.R_mono h3 fun b hb => ⟨⟨fun e => by have := hS.x; omega, hF b hb⟩, fun e => by have := hS.own b e.symm; omega⟩) (fun b hb' => hF b (Nat.le_trans hb.size hb')) (by omega)).mono ?_
  rintro e w' ⟨rfl, A', c', hS', hK, hB⟩
  exact ⟨rfl, A', c', hS', (Kept.of_below hb _).then_ hK (fun k hk => Or.inl hk), (hb.mono (Nat.le_trans hS.hb (Nat.le_of_lt hS.x))).trans hB⟩
set_option maxRecDepth 100000 in
set_option maxHeartbeats 8000000 in
theorem fit_any (X base : Nat) (F : Nat → Prop) (l : List S39) (A : Option Addr) (c : Nat) (B : Option Addr) (m d : Nat) (p : Int) (k : Nat) (wide : Int) (w : World) (hS : LState w X base F l A c B m d p) (hG : GL l) (hk : k < l.length) (h1 : 1 ≤ wide) (h2 : wide ≤ 200) (hF : ∀ b, w.heap.size ≤ b → F b) (hl : l.length ≤ 1000) :
    Calls Tryd.prog 32 #[.pointer (some ⟨X, 0, none⟩), .int .i64 k, .int .i64 wide] w fun e w' => ∃ (r : Nat) (l' : List S39) (A' : Option Addr) (c' : Nat), e = .returned (.int .i64 r) ∧ LState w' X base F l' A' c' B m d p ∧ GL l' ∧ Ext l l' ∧ l'.length ≤ l.length + 1 ∧ r < l'.length ∧ wAt l' (r : Int) = wide ∧ Kept w w' (fun b => b = X ∨ F b) ∧ Below base w w' := by
  have HS := Lib.hid hS
  have HGl := Lib.hid hG
  have HF0 := Lib.hid hF
  have HK := Lib.hid hk
  have H12 := Lib.hid (And.intro h1 h2)
  have HL := Lib.hid hl
  obtain ⟨b, o, A3, c3, hA, hl3, hbs, hND⟩ := hS.node k hk
  have n2 := (hND _ (Below.refl _ _)).k2
  rw [← wAt_nat] at n2
  have hw : wAt l (k : Int) = wide ∨ wAt l (k : Int) ≠ wide := Decidable.em _
  have hc := hS.cap
  have HC := Lib.hid hc
  subst hA
  obtain ⟨q0, q1, q2, r0, r1, r2, -, -⟩ := HS.out
  have hwk := wAt_nat l k
  generalize hwv : wAt l (k : Int) = wv at *
  have HWv := Lib.hid hwv
  clear hS hG hF hl h1 h2 hND hwk hwv
  go_enter Tryd.func32, Tryd.ntmps32
  rcases hw with hw | hw
  · have e1 : (wv == wide) = true := beq_iff_eq.2 hw
    have HW := Lib.hid hw
    clear hw
    go_wp2_with fail
    go_ret
    exact ⟨k, l, _, _, rfl, HS.out, HGl.out, Ext.refl l, Nat.le_succ _, HK.out, HWv.out.trans HW.out, Kept.refl _ _, Below.refl _ _⟩
  · have e1 : (wv == wide) = false := beq_eq_false_iff_ne.2 hw
    have HW := Lib.hid hw
    clear hw
    go_wp2_with (first
      | fail
      | ((with_reducible refine gate_dst (N := 22) rfl ?_); refine Kd.R_lit (Kd.int .i64) (w0 := w) base 3 ?hg (N := 22) ?hd (xs := [(k : Int)]) (inner := [.int .i64 (k : Int)]) (ok := fun b => w.heap.size ≤ b) (okp := fun _ => False) ?hr ?hp (fun _ hk => hk.elim) (Nat.le_refl _) (Below.refl _ _) (Nat.le_trans HS.out.hb (Nat.le_of_lt HS.out.x)) (by simp) ?_; (case hd => rfl); (case hg => rfl); (case hr => first | (go_simp; done) | (go_simp; rfl)); (case hp => exact (Reps.one (show Kd.M (Kd.int .i64) _ _ _ (k : Int) [.int .i64 (k : Int)] from rfl) (Reps.none _ _))); intro vl w1 ho hb hg _; obtain ⟨Al, cl, hvl⟩ := Kd.R_slice ho; subst hvl; have HOl := Lib.hid ho; have HBl := Lib.hid hb; have HGr := Lib.hid hg; clear ho hb hg))
    refine (adds_lit (x := ⟨6, 0, wide, [(k : Int)], ⟨#[]⟩, 0, 0, 0⟩) HS.out (grown_below HGr.out) HOl.out HF0.out HL.out).mono ?_
    rintro e w2 ⟨rfl, A', c', hS', hK, hB⟩
    have HS' := Lib.hid hS'
    have HKk := Lib.hid hK
    have HBb := Lib.hid hB
    clear hS' hK hB
    go_wp2_with fail
    go_ret
    refine ⟨l.length, _, _, _, rfl, HS'.out, HGl.out.push (g_wide (At.nat HK.out) H12.out.1 H12.out.2), Ext.push l _, by simp, by simp, ?_, HKk.out, HBb.out⟩
    rw [wAt_nat, getD_push_eq]
end Go.Proofs.YtonnmkhmhndalaaDoor
end
section
namespace Go.Proofs.YtonnmkhmhndalaaDoor
set_option linter.unusedVariables false
set_option linter.unusedSimpArgs false
open Go.RowKit Go.Proofs.YtonnmkhmhndalaaDoorW.PrintWords Go.Proofs.YtonnmkhmhndalaaDoorW.PrintLast Go.Proofs.YtonnmkhmhndalaaDoorW.PrintMore
structure GAt (W : World) (b q : Nat) (y : S71) : Prop where
  k0 : W.cell? ⟨b, q, none⟩ = some (.int .i64 y.f0)
  k1 : W.cell? ⟨b, q + 1, none⟩ = some (.int .i64 y.f1)
  k2 : W.cell? ⟨b, q + 2, none⟩ = some (.int .i64 y.f2)
  k3 : W.cell? ⟨b, q + 3, none⟩ = some (.int .i64 y.f3)
  k4 : W.cell? ⟨b, q + 4, none⟩ = some (.int .i64 y.f4)
theorem gates_at {w : World} {A : Option Addr} {l : List S71} (h : Kd.C k71 w A l.length l) (i : Nat) (hi : i < l.length) : ∃ b o, A = some ⟨b, o, none⟩ ∧ b < w.heap.size ∧ GAt w b (o + i * 5) (l.getD i z71) := by
  obtain ⟨ad, e, h0, h1, h2, h3, h4⟩ := at_T71 h i (by omega) (by omega)
  obtain ⟨ad2, e2, hc2, _⟩ := at_T71 h 0 (by omega) (by omega)
  obtain rfl : ad = ad2 := Option.some.inj (e.symm.trans e2)
  obtain ⟨b, o, sp⟩ := ad
  have hs := World.cell?_spot hc2
  have : sp = none := by simpa [Addr.add] using hs
  subst this
  rw [Int.toNat_natCast, add_plain] at h0 h1 h2 h3 h4
  exact ⟨b, o, e, World.block_lt_of_cell? w _ h0, h0, h1, h2, h3, h4⟩
theorem LState.head {W : World} {X base : Nat} {F : Nat → Prop} {l : List S39} {A : Option Addr} {c : Nat} {B : Option Addr} {m d : Nat} {p : Int} (h : LState W X base F l A c B m d p) (hn : 0 < l.length) : ∃ g, A = some ⟨g, 0, none⟩ ∧ g ≠ X ∧ F g ∧ base ≤ g ∧ g < W.heap.size := by
  obtain ⟨h0, inner, hown, hr⟩ := h.r
  rcases hown.2 with ⟨h1, h2⟩ | ⟨g, cap, cur, h1, hb, hcur, -⟩
  · omega
  · have e : A = some ⟨g, 0, none⟩ := by injection h1
    subst e
    have h2 := h0 g rfl
    exact ⟨g, rfl, h2.1, h2.2, hb, h.own g rfl⟩
theorem LState.ins {W : World} {X base : Nat} {F : Nat → Prop} {l : List S39} {g c : Nat} {B : Option Addr} {m d : Nat} {p : Int} (h : LState W X base F l (some ⟨g, 0, none⟩) c B m d p) (k : Nat) (hk : k < l.length) (v3 : Value) (new : List Int)
    (h3 : Kd.R (Kd.int .i64) 3 W base (fun b => (b ≠ X ∧ F b) ∧ b ≠ g) v3 new) : LState (W.setCell ⟨g, k * 8 + 3, none⟩ v3) X base F (l.set k { l.getD k z39 with f3 := new }) (some ⟨g, 0, none⟩) c B m d p ∧ W.grownBy (W.setCell ⟨g, k * 8 + 3, none⟩ v3) (some g) := by
  obtain ⟨cs, hc1, hc2, hc3, hc4⟩ := Kd.R_elem h.r z39 (k : Int) (by omega) (by omega)
  obtain ⟨v0, rfl, hv0⟩ := k39_openM hc2
  have hgX : g ≠ X := (h.r.1 g rfl).1
  have hs : k39.sz = 8 := rfl
  obtain ⟨h1, h2⟩ := Kd.R_seg (okp := fun b => (b ≠ X ∧ F b) ∧ b ≠ g) h.r (k : Int) (by omega) (by omega) hc1 hc3 (j := 3) (seg := [v3]) (by rw [hs]; show 3 + 1 ≤ 8; decide) (x' := { l.getD k z39 with f3 := new }) (k39_mkM W base _ _ h3) (fun _ hb => hb)
  have e : W.setCells g ((k : Int).toNat * k39.sz + 3) [v3] = W.setCell ⟨g, k * 8 + 3, none⟩ v3 := by rw [Int.toNat_natCast]; rfl
  rw [e, Int.toNat_natCast] at h1
  rw [e] at h2
  refine ⟨⟨(h2.cell_far ⟨X, 0, none⟩ h.x (fun e => hgX (Option.some.inj e).symm)).trans h.k0 |>.trans (by rw [List.length_set]), (h2.cell_far ⟨X, 1, none⟩ h.x (fun e => hgX (Option.some.inj e).symm)).trans h.k1, (h2.cell_far ⟨X, 2, none⟩ h.x (fun e => hgX (Option.some.inj e).symm)).trans h.k2, (h2.frozen_far ⟨X, 0, none⟩ h.x (fun e => hgX (Option.some.inj e).symm)).trans h.f0, (h2.frozen_far ⟨X, 1, none⟩ h.x (fun e => hgX (Option.some.inj e).symm)).trans h.f1, (h2.frozen_far ⟨X, 2, none⟩ h.x (fun e => hgX (Option.some.inj e).symm)).trans h.f2, ?_, h.hb⟩, h2⟩
  rw [List.length_set]
  exact h1
theorem LState.froz {W : World} {X base : Nat} {F : Nat → Prop} {l : List S39} {g c : Nat} {B : Option Addr} {m d : Nat} {p : Int} (h : LState W X base F l (some ⟨g, 0, none⟩) c B m d p) (k : Nat) (hk : k < l.length) : ∀ j, W.frozen? ⟨g, k * 8 + j, none⟩ = false := by
  obtain ⟨cs, hc1, hc2, hc3, hc4⟩ := Kd.R_elem h.r z39 (k : Int) (by omega) (by omega)
  intro j
  have := hc4 j
  rwa [Int.toNat_natCast] at this
theorem LState.node0 {W : World} {X base : Nat} {F : Nat → Prop} {l : List S39} {g c : Nat} {B : Option Addr} {m d : Nat} {p : Int} (h : LState W X base F l (some ⟨g, 0, none⟩) c B m d p) (k : Nat) (hk : k < l.length) : ∃ A3 c3, (l.getD k z39).f3.length ≤ c3 ∧ NAt W g (k * 8) (l.getD k z39) A3 c3 := by
  obtain ⟨b, o, A3, c3, hA, h3, hb, hN⟩ := h.node k hk
  injection hA with hA
  injection hA with e1 e2
  subst e1 e2
  have := hN W (Below.refl _ _)
  rw [Nat.zero_add] at this
  exact ⟨A3, c3, h3, this⟩
theorem grown_base {W W' : World} {base g : Nat} (hg : W.grownBy W' (some g)) (h1 : base ≤ g) (h2 : base ≤ W.heap.size) : Below base W W' := ⟨hg.os, hg.tape, hg.output, hg.size, fun k hk => hg.block k (by omega) (fun e => by injection e with e; omega)⟩
theorem lit2 (W : World) (base : Nat) (a t : Int) (hb : base ≤ W.heap.size) : Kd.R (Kd.int .i64) 3 (W.alloc (.cells #[.int .i64 a, .int .i64 t] 3)) base (fun b => W.heap.size ≤ b) (.slice (some ⟨W.heap.size, 0, none⟩) 2 2) [a, t] :=
  ⟨fun k hk => by have : W.heap.size = k := by simpa [Value.ownBlock] using hk
                  omega, [.int .i64 a, .int .i64 t], own_lit W base 3 .i64 [a, t] hb (by simp), Reps.one (show Kd.M (Kd.int .i64) _ _ _ a [.int .i64 a] from rfl) (Reps.one (show Kd.M (Kd.int .i64) _ _ _ t [.int .i64 t] from rfl) (Reps.none _ _))⟩
set_option maxRecDepth 100000 in
set_option maxHeartbeats 8000000 in
theorem back_any (X base : Nat) (F : Nat → Prop) (l : List S39) (A : Option Addr) (c : Nat) (B : Option Addr) (m d : Nat) (p : Int) (gs : List S71) (Ag : Option Addr) (cg : Nat) (w : World) (hS : LState w X base F l A c B m d p) (hG : GL l) (hg : ∀ W, Below base w W → Kd.C k71 W Ag gs.length gs) (hcg : gs.length ≤ cg) (hF : ∀ b, w.heap.size ≤ b → F b) (hl : l.length ≤ 1000) :
    Calls Tryd.prog 35 #[.pointer (some ⟨X, 0, none⟩), .slice Ag gs.length cg] w fun e w' => ∃ l', e = .returned (.tuple #[]) ∧ LState w' X base F l' A c B m d p ∧ GL l' ∧ l'.length = l.length ∧ Kept w w' (fun b => b = X ∨ F b) ∧ Below base w w' := by
  have HS := Lib.hid hS
  have HGl := Lib.hid hG
  have HF0 := Lib.hid hF
  have HL := Lib.hid hl
  have HGs := Lib.hid hg
  have HCg := Lib.hid hcg
  obtain ⟨g, hA, hgX, hFg, hbg, hgs⟩ := hS.head (by have := hG.two; omega)
  subst hA
  have HgX := Lib.hid hgX
  obtain ⟨q0, q1, q2, r0, r1, r2, -, -⟩ := HS.out
  obtain ⟨n, hn⟩ : ∃ n, l.length = n := ⟨_, rfl⟩
  rw [hn] at q0
  have HN := Lib.hid hn
  have HN2 := Lib.hid hG.two
  have hnl : n ≤ 1000 := by omega
  have hn0 : ¬ (n : Int) = 0 := by have := hG.two; omega
  clear hS hG hF hl hg hcg hn hgX hFg hbg hgs
  go_enter Tryd.func35, Tryd.ntmps35
  go_wp2_with fail
  clear q0 q1 q2 r0 r1 r2
  go_loopw [5, 6, 7] (fun v5 v6 v7 wx => ∃ (i : Nat) (l' : List S39), v5 = .int .i64 i ∧ i ≤ n ∧ Hid (LState wx X base F l' (some ⟨g, 0, none⟩) c B m d p) ∧ Hid (GL l') ∧ Hid (l'.length = n) ∧ Hid (Kept w wx (fun b => b = X ∨ F b)) ∧ Hid (Below base w wx)) (fun v5 _ _ _ => n - (intOf v5).toNat)
  case atStart => exact ⟨0, l, rfl, Nat.zero_le _, HS, HGl, HN, Lib.hid (Kept.refl _ _), Lib.hid (Below.refl _ _)⟩
  case round =>
    obtain ⟨i, l', rfl, hi, HSx, HGx, HNx, HKx, HBx⟩ := hrel
    by_cases hlt : i < n ∧ i < gs.length
    · obtain ⟨hlt, hlg⟩ := hlt
      obtain ⟨A3, c3, hl3, hNA⟩ := HSx.out.node0 i (by rw [HNx.out]; exact hlt)
      obtain ⟨bg, og, hAg, hbg, hGA⟩ := gates_at (HGs.out wr HBx.out) i hlg
      obtain ⟨q, hq, hq2⟩ := mask_lt ((gs.getD i z71).f2 / 65536) 65535 16 (by decide) (by decide)
      have hq3 : bits .and .i64 ((gs.getD i z71).f2 / 65536) 65535 = (q : Int) := hq
      obtain ⟨t, ht⟩ : ∃ t, q % n = t := ⟨_, rfl⟩
      have htn : t < n := by rw [← ht]; exact Nat.mod_lt _ (by omega)
      have e1 : Int.tmod (q : Int) (n : Int) = (t : Int) := by rw [← ht]; rfl
      have e2 : (q : Int) % (n : Int) = (t : Int) := by rw [← ht]; rfl
      obtain ⟨A4, c4, hl4, hNT⟩ := HSx.out.node0 t (by rw [HNx.out]; exact htn)
      have q0 := HSx.out.k0
      rw [HNx.out] at q0
      have hnc := HSx.out.cap
      rw [HNx.out] at hnc
      obtain ⟨y, hy⟩ : ∃ y, l'.getD i z39 = y := ⟨_, rfl⟩
      obtain ⟨wt, hwt⟩ : ∃ v, (l'.getD t z39).f2 = v := ⟨_, rfl⟩
      obtain ⟨gy, hgy⟩ : ∃ v, gs.getD i z71 = v := ⟨_, rfl⟩
      have kt2 := hNT.k2
      rw [hwt] at kt2
      rw [hy] at hNA hl3
      rw [hgy] at hGA hq3
      have HNA := Lib.hid hNA
      have HGA := Lib.hid hGA
      have HLt := Lib.hid hlt
      have HTn := Lib.hid htn
      have HL3 := Lib.hid hl3
      have HY := Lib.hid hy
      have HWt := Lib.hid hwt
      have hgc := HCg.out
      obtain ⟨k0, k1, k2, k3, k4, k5, k6, k7, kC⟩ := HNA.out
      clear hNA hNT hGA hq ht hq2 hl4 hl3 hy hwt hgy
      subst hAg
      go_upto_region 5 with fail
      obtain ⟨W1, hW1⟩ : ∃ W, wr.alloc (Obj.cells #[.int .i64 y.f0, .int .i64 y.f1, .int .i64 y.f2, .slice A3 y.f3.length c3, .string y.f4, .int .i64 y.f5, .int .i64 y.f6, .int .i64 y.f7] 39) = W := ⟨_, rfl⟩
      rw [hW1]
      obtain ⟨hbx, hb1⟩ := box_node HNA.out.hC hW1
      have HS1 := Lib.hid (HSx.out.below hb1)
      have HK1 := Lib.hid (HKx.out.below hb1)
      have HB1 := Lib.hid (HBx.out.trans (hb1.mono (Nat.le_trans HSx.out.hb (Nat.le_of_lt HSx.out.x))))
      have HSz := Lib.hid (Nat.le_trans HKx.out.1 hb1.size)
      obtain ⟨P, hP⟩ : ∃ P, wr.heap.size = P := ⟨_, rfl⟩
      have hPg : P ≠ g := fun e => by have := HSx.out.own g rfl; omega
      have HPg := Lib.hid hPg
      rw [hP] at hbx ⊢
      clear hPg
      have q1 := (hb1.cell (p := ⟨X, 0, none⟩) HSx.out.x).trans q0
      have t1 := (hb1.cell (p := ⟨g, t * 8 + 2, none⟩) (World.block_lt_of_cell? wr _ kt2)).trans kt2
      have g1 := (hb1.cell (p := ⟨bg, og + i * 5 + 1, none⟩) hbg).trans HGA.out.k1
      have g2 := (hb1.cell (p := ⟨bg, og + i * 5 + 2, none⟩) hbg).trans HGA.out.k2
      have hNA1 := HNA.out.below hb1
      have HNA1 := Lib.hid hNA1
      have HBx1 := Lib.hid hbx
      have hFz := HS1.out.froz i (by rw [HNx.out]; exact hlt) 3
      have m0 := hbx.k0
      have m2 := hbx.k2
      have m3 := hbx.k3
      have n3 := hNA1.k3
      clear q0 k0 k1 k2 k3 k4 k5 k6 k7 kC kt2 hb1 hW1 hbx hNA1 HNA HGA HSx HBx HKx
      go_upto_region 6 with fail
      obtain ⟨u, hu, hu2⟩ := mask_lt (gy.f1 / 65536) 1 1 (by decide) (by decide)
      have hu3 : bits .and .i64 (gy.f1 / 65536) 1 = (u : Int) := hu
      clear hu
      have hways : wt ≠ y.f2 ∨ (wt = y.f2 ∧ u = 0) ∨ (wt = y.f2 ∧ u = 1) := by
        by_cases e : wt = y.f2
        · have : u = 0 ∨ u = 1 := by omega
          rcases this with h | h
          · exact Or.inr (Or.inl ⟨e, h⟩)
          · exact Or.inr (Or.inr ⟨e, h⟩)
        · exact Or.inl e
      clear hu2
      rcases hways with hw | ⟨hw, rfl⟩ | ⟨hw, rfl⟩
      · have w1 : (wt != y.f2) = true := by simpa using hw
        have w2 : (wt == y.f2) = false := by simpa using hw
        have w3 : decide (wt = y.f2) = false := decide_eq_false hw
        clear hw
        go_quiet (fail)
        obtain ⟨W2, hW2⟩ : ∃ W, W1.drewN nq = W := ⟨_, rfl⟩
        rw [hW2]
        have hb2 : Below W1.heap.size W1 W2 := by rw [← hW2]; exact pw_below_drewN (Below.refl _ _) _
        have HS2 := Lib.hid (HS1.out.below hb2)
        have HK2 := Lib.hid (HK1.out.below hb2)
        have HB2 := Lib.hid (HB1.out.trans (hb2.mono (Nat.le_trans HS1.out.hb (Nat.le_of_lt HS1.out.x))))
        have HSz2 := Lib.hid (Nat.le_trans HSz.out hb2.size)
        have HBx2 := Lib.hid (HBx1.out.below hb2)
        have HNA2 := Lib.hid (HNA1.out.below hb2)
        clear q1 t1 g1 g2 hFz m0 m2 m3 n3 hW2 hb2 HS1 HK1 HB1 HSz HBx1 HNA1
        go_wp2_with fail
        refine ⟨⟨i + 1, l', by simp, HLt.out, HS2, HGx, HNx, HK2, HB2⟩, by have := HLt.out; simp [intOf]; omega⟩
      · have w1 : (wt != y.f2) = false := by rw [hw]; simp
        have w2 : (wt == y.f2) = true := by rw [hw]; simp
        have w3 : decide (wt = y.f2) = true := decide_eq_true hw
        clear hw
        go_quiet (fail)
        obtain ⟨W2, hW2⟩ : ∃ W, W1.drewN nq = W := ⟨_, rfl⟩
        rw [hW2]
        have hb2 : Below W1.heap.size W1 W2 := by rw [← hW2]; exact pw_below_drewN (Below.refl _ _) _
        have HS2 := Lib.hid (HS1.out.below hb2)
        have HK2 := Lib.hid (HK1.out.below hb2)
        have HB2 := Lib.hid (HB1.out.trans (hb2.mono (Nat.le_trans HS1.out.hb (Nat.le_of_lt HS1.out.x))))
        have HSz2 := Lib.hid (Nat.le_trans HSz.out hb2.size)
        have HBx2 := Lib.hid (HBx1.out.below hb2)
        have HNA2 := Lib.hid (HNA1.out.below hb2)
        clear q1 t1 g1 g2 hFz m0 m2 m3 n3 hW2 hb2 HS1 HK1 HB1 HSz HBx1 HNA1
        go_wp2_with fail
        refine ⟨⟨i + 1, l', by simp, HLt.out, HS2, HGx, HNx, HK2, HB2⟩, by have := HLt.out; simp [intOf]; omega⟩
      · have w1 : (wt != y.f2) = false := by rw [hw]; simp
        have w2 : (wt == y.f2) = true := by rw [hw]; simp
        have w3 : decide (wt = y.f2) = true := decide_eq_true hw
        have HWy := Lib.hid hw
        clear hw
        go_quiet (fail)
        obtain ⟨W2, hW2⟩ : ∃ W, W1.drewN nq = W := ⟨_, rfl⟩
        rw [hW2]
        have hb2 : Below W1.heap.size W1 W2 := by rw [← hW2]; exact pw_below_drewN (Below.refl _ _) _
        have HS2 := Lib.hid (HS1.out.below hb2)
        have HK2 := Lib.hid (HK1.out.below hb2)
        have HB2 := Lib.hid (HB1.out.trans (hb2.mono (Nat.le_trans HS1.out.hb (Nat.le_of_lt HS1.out.x))))
        have HSz2 := Lib.hid (Nat.le_trans HSz.out hb2.size)
        have HBx2 := Lib.hid (HBx1.out.below hb2)
        have HNA2 := Lib.hid (HNA1.out.below hb2)
        clear q1 t1 g1 g2 hFz m0 m2 m3 n3 hW2 hb2 HS1 HK1 HB1 HSz HBx1 HNA1
        have q1 := HS2.out.k0
        rw [HNx.out] at q1
        have m0 := HBx2.out.k0
        have m3 := HBx2.out.k3
        have n3 := HNA2.out.k3
        have hFz := HS2.out.froz i (by rw [HNx.out]; exact HLt.out) 3
        rcases (show y.f0 = 8 ∨ y.f0 = 7 ∨ (y.f0 ≠ 8 ∧ y.f0 ≠ 7) by omega) with hk | hk | ⟨hk, hk2⟩
        · have e8 : (y.f0 == 8) = true := by rw [hk]; rfl
          have e7 : (y.f0 == 7) = false := by rw [hk]; rfl
          have HK8 := Lib.hid hk
          clear hk
          go_upto_region 8 with fail
          have hgX2 := (HS2.out.r.1 g rfl)
          have HgF := Lib.hid hgX2
          clear hgX2
          go_upto_region 9 with (first
            | fail
            | ((with_reducible refine gate_dst (N := 74) rfl ?_); refine Kd.R_lit (Kd.int .i64) (w0 := w) base 3 ?hg (N := 74) ?hd (xs := [(t : Int)]) (inner := [.int .i64 (t : Int)]) (ok := fun b => W2.heap.size ≤ b) (okp := fun _ => False) ?hr ?hp (fun _ hk => hk.elim) (Nat.le_refl _) HB2.out (Nat.le_trans HS2.out.hb (Nat.le_of_lt HS2.out.x)) (by simp) ?_; (case hd => rfl); (case hg => rfl); (case hr => first | (go_simp; done) | (go_simp; rfl)); (case hp => exact (Reps.one (show Kd.M (Kd.int .i64) _ _ _ (t : Int) [.int .i64 (t : Int)] from rfl) (Reps.none _ _))); intro vl W3 ho hb hg _; obtain ⟨Al, cl, hvl⟩ := Kd.R_slice ho; subst hvl; have y3 := (hg.cell_far ⟨g, i * 8 + 3, none⟩ (World.block_lt_of_cell? W2 _ n3) (fun e => by cases e)).trans n3; have yf := (hg.frozen_far ⟨g, i * 8 + 3, none⟩ (World.block_lt_of_cell? W2 _ n3) (fun e => by cases e)).trans hFz; have x0 := (hg.cell_far ⟨X, 0, none⟩ HS2.out.x (fun e => by cases e)).trans q1; have x1 := (hg.cell_far ⟨P, 0, none⟩ (World.block_lt_of_cell? W2 _ m0) (fun e => by cases e)).trans m0; have HOl := Lib.hid ho; have HBl := Lib.hid hb; have HGr := Lib.hid hg; clear ho hb hg))
          obtain ⟨hs4, hg4⟩ := (HS2.out.below (grown_below HGr.out)).ins i (by rw [HNx.out]; exact HLt.out) (.slice Al 1 cl) [(t : Int)] (Kd.R_mono HOl.out fun b hb => ⟨⟨fun e => by have := HS2.out.x; omega, HF0.out b (Nat.le_trans HSz2.out hb)⟩, fun e => by have := HS2.out.own g rfl; omega⟩)
          have hbg := grown_base (base := base) hg4 (Kd.R_base HS2.out.r g rfl) (Nat.le_trans (Nat.le_trans HS2.out.hb (Nat.le_of_lt HS2.out.x)) HGr.out.size)
          have hnP : some P ≠ some g := fun e => by injection e with e; have h1 := HNA2.out.k0; have := HBx2.out.k0; subst e; exact HPg.out rfl
          have x2 := (hg4.cell_far ⟨P, 0, none⟩ (World.block_lt_of_cell? _ _ x1) hnP).trans x1
          have HK4 := Lib.hid (Kept.of_grown hg4 (HK2.out.below (grown_below HGr.out)) (fun k hk => by cases hk; exact Or.inl (Or.inr HgF.out.2)))
          have HB4 := Lib.hid (HBl.out.trans hbg)
          have HS4 := Lib.hid hs4
          have hgl := HGx.out.delay (k := i) (tv := (t : Int)) (by rw [HNx.out]; exact HLt.out) (by rw [HY.out]; exact HK8.out) (At.nat (by rw [HNx.out]; exact HTn.out)) (by rw [wAt_nat, HWt.out, HY.out]; exact HWy.out)
          have HG4 := Lib.hid hgl
          have HN4 : Hid ((l'.set i { l'.getD i z39 with f3 := [(t : Int)] }).length = n) := by rw [List.length_set]; exact HNx
          clear hgl hbg hnP
          generalize l'.set i { l'.getD i z39 with f3 := [(t : Int)] } = l4 at *
          generalize W3.setCell { block := g, off := i * 8 + 3 } (Value.slice Al 1 cl) = W4 at *
          clear hs4 hg4 q1 m0 m3 n3 hFz y3 yf x0 x1
          go_wp2_with fail
          refine ⟨⟨i + 1, l4, by simp, HLt.out, HS4, HG4, HN4, HK4, HB4⟩, by have := HLt.out; simp [intOf]; omega⟩
        · have e8 : (y.f0 == 8) = false := by rw [hk]; rfl
          have e7 : (y.f0 == 7) = true := by rw [hk]; rfl
          have hfl := HGx.out.flip (k := i) (tv := (t : Int)) (by rw [HNx.out]; exact HLt.out) (by rw [HY.out]; exact hk) (At.nat (by rw [HNx.out]; exact HTn.out)) (by rw [wAt_nat, HWt.out, HY.out]; exact HWy.out)
          obtain ⟨hgl, hl0⟩ := hfl
          have hN4 : (l'.set i { l'.getD i z39 with f3 := [(l'.getD i z39).f3.getD 0 0, (t : Int)] }).length = n := by rw [List.length_set]; exact HNx.out
          rw [HY.out] at hl0
          have HG4 := Lib.hid hgl
          have HN4 := Lib.hid hN4
          obtain ⟨b3, o3, hA3, hc3, hb3⟩ := ints_at HBx2.out.hC 0 hl0
          rw [Nat.add_zero] at hc3
          subst hA3
          obtain ⟨a0, ha0⟩ : ∃ a, y.f3.getD 0 0 = a := ⟨_, rfl⟩
          rw [ha0] at hc3
          have HA0 := Lib.hid ha0
          have HL0 := Lib.hid hl0
          have hl3' := HL3.out
          clear hk hgl hN4 ha0
          have x0 : (W2.alloc (Obj.cells #[.int .i64 a0, .int .i64 t] 3)).cell? ⟨X, 0, none⟩ = some (.slice (some ⟨g, 0, none⟩) n c) := (World.cell?_alloc_lt W2 _ ⟨X, 0, none⟩ HS2.out.x).trans q1
          have y3 : (W2.alloc (Obj.cells #[.int .i64 a0, .int .i64 t] 3)).cell? ⟨g, i * 8 + 3, none⟩ = some (.slice (some ⟨b3, o3, none⟩) y.f3.length c3) := (World.cell?_alloc_lt W2 _ ⟨g, i * 8 + 3, none⟩ (World.block_lt_of_cell? W2 _ n3)).trans n3
          have yf : (W2.alloc (Obj.cells #[.int .i64 a0, .int .i64 t] 3)).frozen? ⟨g, i * 8 + 3, none⟩ = false := ((below_alloc (Below.refl _ _) _).frozen (p := ⟨g, i * 8 + 3, none⟩) (World.block_lt_of_cell? W2 _ n3)).trans hFz
          go_upto_region 10 with fail
          go_region
          have hba : Below W2.heap.size W2 (W2.alloc (Obj.cells #[.int .i64 a0, .int .i64 t] 3)) := below_alloc (Below.refl _ _) _
          have hbs2 : base ≤ W2.heap.size := Nat.le_trans HS2.out.hb (Nat.le_of_lt HS2.out.x)
          have hgX2 := (HS2.out.r.1 g rfl)
          obtain ⟨hs4, hg4⟩ := (HS2.out.below hba).ins i (by rw [HNx.out]; exact HLt.out) (.slice (some ⟨W2.heap.size, 0, none⟩) 2 2) [a0, (t : Int)] (Kd.R_mono (lit2 W2 base a0 t hbs2) fun b hb => ⟨⟨fun e => by have := HS2.out.x; omega, HF0.out b (Nat.le_trans HSz2.out hb)⟩, fun e => by have := HS2.out.own g rfl; omega⟩)
          have hbg := grown_base (base := base) hg4 (Kd.R_base HS2.out.r g rfl) (Nat.le_trans hbs2 hba.size)
          have hK4 := Kept.of_grown hg4 (HK2.out.below hba) (fun k hk => by cases hk; exact Or.inl (Or.inr hgX2.2))
          have hB4 := (HB2.out.trans (hba.mono hbs2)).trans hbg
          rw [HY.out, HA0.out] at HG4 HN4
          rw [HY.out] at hs4
          have HS4 := Lib.hid (hs4.below (Below.refl _ _).drew)
          have HK4 := Lib.hid hK4.drew
          have HB4 := Lib.hid (below_drew1 hB4)
          clear hba hbs2 hgX2 hs4 hg4 hbg hK4 hB4 x0 y3 yf q1 m0 m3 n3 hFz hc3
          generalize l'.set i { y with f3 := [a0, (t : Int)] } = l4 at *
          generalize World.drew _ = W4 at *
          go_wp2_with fail
          refine ⟨⟨i + 1, l4, by simp, HLt.out, HS4, HG4, HN4, HK4, HB4⟩, by have := HLt.out; simp [intOf]; omega⟩
        · have e8 : (y.f0 == 8) = false := beq_eq_false_iff_ne.2 hk
          have e7 : (y.f0 == 7) = false := beq_eq_false_iff_ne.2 hk2
          clear hk hk2
          go_wp2_with fail
          refine ⟨⟨i + 1, l', by simp, HLt.out, HS2, HGx, HNx, HK2, HB2⟩, by have := HLt.out; simp [intOf]; omega⟩
    · have hlen := HNx.out
      have hln := HN.out
      have hfin : LState wr X base F l' (some ⟨g, 0, none⟩) c B m d p ∧ GL l' ∧ l'.length = l.length ∧ Kept w wr (fun b => b = X ∨ F b) ∧ Below base w wr := ⟨HSx.out, HGx.out, by rw [hlen, hln], HKx.out, HBx.out⟩
      have HFin := Lib.hid hfin
      clear hfin hlen hln
      by_cases hlt2 : i < n
      · have hlg : ¬ i < gs.length := fun h => hlt ⟨hlt2, h⟩
        have d1 : decide (i < gs.length) = false := decide_eq_false hlg
        clear hlt
        go_wp2_with fail
        refine ⟨rfl, .tuple #[], ?_, l', rfl, HFin.out⟩
        first | rfl | simp [results, Tryd.results35, go_sem] | simp [results, Tryd.f35, go_sem]
      · clear hlt
        go_wp2_with fail
        refine ⟨rfl, .tuple #[], ?_, l', rfl, HFin.out⟩
        first | rfl | simp [results, Tryd.results35, go_sem] | simp [results, Tryd.f35, go_sem]
end Go.Proofs.YtonnmkhmhndalaaDoor
end
section
namespace Go.Proofs.YtonnmkhmhndalaaDoor
set_option linter.unusedVariables false
set_option linter.unusedSimpArgs false
open Go.RowKit Go.Proofs.YtonnmkhmhndalaaDoorW.PrintWords Go.Proofs.YtonnmkhmhndalaaDoorW.PrintLast Go.Proofs.YtonnmkhmhndalaaDoorW.PrintMore
structure MSt (w0 W : World) (X base : Nat) (F : Nat → Prop) (l : List S39) (A : Option Addr) (c : Nat) (B : Option Addr) (m d : Nat) (G : Nat) (gy : S71) : Prop where
  s : LState W X base F l A c B m d 0
  g : GL l
  k : Kept w0 W (fun b => b = X ∨ F b)
  b : Below base w0 W
  gt : GAt W G 0 gy
  gx : ¬ (G = X ∨ F G)
  hF : ∀ b, w0.heap.size ≤ b → F b
variable {w0 W W1 : World} {X base : Nat} {F : Nat → Prop} {l : List S39} {A : Option Addr} {c : Nat} {B : Option Addr} {m d : Nat} {G : Nat} {gy : S71}
theorem MSt.at_ (h : MSt w0 W X base F l A c B m d G gy) {l' : List S39} {A' : Option Addr} {c' : Nat} {W' : World} (hs : LState W' X base F l' A' c' B m d 0) (hg : GL l') (hk : Kept W W' (fun b => b = X ∨ F b)) (hb : Below base W W') : MSt w0 W' X base F l' A' c' B m d G gy :=
  ⟨hs, hg, h.k.then_ hk (fun k hk => Or.inl hk), h.b.trans hb, ⟨cell_kept h.gt.k0 hk h.gx, cell_kept h.gt.k1 hk h.gx, cell_kept h.gt.k2 hk h.gx, cell_kept h.gt.k3 hk h.gx, cell_kept h.gt.k4 hk h.gx⟩, h.gx, h.hF⟩
theorem MSt.fF (h : MSt w0 W X base F l A c B m d G gy) : ∀ b, W.heap.size ≤ b → F b := fun b hb => h.hF b (Nat.le_trans h.k.1 hb)
theorem MSt.below (h : MSt w0 W X base F l A c B m d G gy) (hb : Below W.heap.size W W1) : MSt w0 W1 X base F l A c B m d G gy :=
  h.at_ (h.s.below hb) h.g (Kept.of_below hb _) (hb.mono (Nat.le_trans h.s.hb (Nat.le_of_lt h.s.x)))
theorem MSt.fit (h : MSt w0 W X base F l A c B m d G gy) (k : Nat) (wide : Int) (hk : k < l.length) (h1 : 1 ≤ wide) (h2 : wide ≤ 200) (hl : l.length ≤ 1000) :
    Calls Tryd.prog 32 #[.pointer (some ⟨X, 0, none⟩), .int .i64 k, .int .i64 wide] W fun e w' => ∃ (r : Nat) (l' : List S39) (A' : Option Addr) (c' : Nat), e = .returned (.int .i64 r) ∧ MSt w0 w' X base F l' A' c' B m d G gy ∧ Ext l l' ∧ l'.length ≤ l.length + 1 ∧ r < l'.length ∧ wAt l' (r : Int) = wide := by
  refine (fit_any X base F l A c B m d 0 k wide W h.s h.g hk h1 h2 h.fF hl).mono ?_
  rintro e w' ⟨r, l', A', c', he, hS, hG, hE, hL, hr, hw, hK, hB⟩
  exact ⟨r, l', A', c', he, h.at_ hS hG hK hB, hE, hL, hr, hw⟩
theorem MSt.add (h : MSt w0 W X base F l A c B m d G gy) {x : S39} {A3 : Option Addr} {c3 : Nat} (hb : Below W.heap.size W W1) (h3 : Kd.R (Kd.int .i64) 3 W1 base (fun b => W.heap.size ≤ b) (.slice A3 x.f3.length c3) x.f3) (hx : GNode l l.length x) (hl : l.length ≤ 1000) :
    Calls Tryd.prog 30 #[.pointer (some ⟨X, 0, none⟩), ndV x A3 c3] W1 fun e w' => e = .returned (.int .i64 l.length) ∧ ∃ A' c', MSt w0 w' X base F (l ++ [x]) A' c' B m d G gy := by
  refine (adds_lit h.s hb h3 h.fF hl).mono ?_
  rintro e w' ⟨he, A', c', hS, hK, hB⟩
  exact ⟨he, A', c', h.at_ hS (h.g.push hx) hK hB⟩
theorem MSt.row (h : MSt w0 W X base F l A c B m d G gy) : base ≤ W.heap.size := Nat.le_trans h.s.hb (Nat.le_of_lt h.s.x)
end Go.Proofs.YtonnmkhmhndalaaDoor
end
section
namespace Go.Proofs.YtonnmkhmhndalaaDoor
set_option linter.unusedVariables false
set_option linter.unusedSimpArgs false
open Go.RowKit Go.Proofs.YtonnmkhmhndalaaDoorW.PrintWords Go.Proofs.YtonnmkhmhndalaaDoorW.PrintLast Go.Proofs.YtonnmkhmhndalaaDoorW.PrintMore
theorem R_head0 {α : Type} {d : Kd α} {e base : Nat} {ok : Nat → Prop} {w : World} {v : Value} {xs : List α} (h : d.R e w base ok v xs) (hn : 0 < xs.length) : ∃ g c, v = .slice (some ⟨g, 0, none⟩) xs.length c ∧ ok g ∧ g < w.heap.size := by
  have hl := Kd.R_lt h
  obtain ⟨h0, inner, hown, hr⟩ := h
  rcases hown.2 with ⟨rfl, h1⟩ | ⟨g, cap, cur, rfl, hb, hcur, -⟩
  · omega
  · exact ⟨g, cap, rfl, h0 g rfl, hl g rfl⟩
theorem LState.putB {W : World} {X base : Nat} {F : Nat → Prop} {l : List S39} {A : Option Addr} {c : Nat} {B : Option Addr} {m d : Nat} {p : Int} (h : LState W X base F l A c B m d p) (B' : Option Addr) (m' d' : Nat) : LState (W.setCell ⟨X, 1, none⟩ (.slice B' m' d')) X base F l A c B' m' d' p :=
  ⟨by simp [go_sem, h.k0], by simp [go_sem, h.k1], by simp [go_sem, h.k2], by simp [go_sem, h.f0], by simp [go_sem, h.f1], by simp [go_sem, h.f2], Kd.R_far h.r (fun k hk => hk.1) _, h.hb⟩
theorem LState.putP {W : World} {X base : Nat} {F : Nat → Prop} {l : List S39} {A : Option Addr} {c : Nat} {B : Option Addr} {m d : Nat} {p : Int} (h : LState W X base F l A c B m d p) (p' : Int) : LState (W.setCell ⟨X, 2, none⟩ (.int .i64 p')) X base F l A c B m d p' :=
  ⟨by simp [go_sem, h.k0], by simp [go_sem, h.k1], by simp [go_sem, h.k2], by simp [go_sem, h.f0], by simp [go_sem, h.f1], by simp [go_sem, h.f2], Kd.R_far h.r (fun k hk => hk.1) _, h.hb⟩
structure RBx (W : World) (R : Nat) : Prop where mk ::
  blk : W.heap[R]? = some (.cells #[.slice none 0 0, .slice none 0 0, .int .i64 0] 25)
theorem frozen_kept {W W2 : World} {S : Nat → Prop} {a : Addr} {b : Bool} (hc : W.frozen? a = b) (hlt : a.block < W.heap.size) (hk : Kept W W2 S) (hne : ¬ S a.block) : W2.frozen? a = b := by
  have := hk.2 a.block hlt hne
  rw [← hc]
  simp [World.frozen?, this]
theorem blk_new (w : World) (o : Obj) : (w.alloc o).heap[w.heap.size]? = some o := by
  show (w.heap.push o)[w.heap.size]? = some o
  simp
theorem RBx.new (w : World) (o : Obj) : RBx ((w.alloc (.cells #[.slice none 0 0, .slice none 0 0, .int .i64 0] 25)).alloc o) w.heap.size :=
  ⟨(Below.heap_alloc _ _ _ (by simp)).trans (blk_new _ _)⟩
theorem RBx.kept {W W' : World} {R : Nat} {S : Nat → Prop} (h : RBx W R) (hk : Kept W W' S) (hne : ¬ S R) : RBx W' R := ⟨blk_kept h.blk hk hne⟩
theorem RBx.far {W : World} {R : Nat} (h : RBx W R) {p : Addr} (hp : p.block ≠ R) (u : Value) : RBx (W.setCell p u) R := ⟨(Below.heap_setCell W p u R (fun e => hp e.symm)).trans h.blk⟩
theorem LState.kept {W W' : World} {X base : Nat} {F S : Nat → Prop} {l : List S39} {A : Option Addr} {c : Nat} {B : Option Addr} {m d : Nat} {p : Int} (h : LState W X base F l A c B m d p) (hk : Kept W W' S) (hX : ¬ S X) (hS : ∀ b, b ≠ X → F b → ¬ S b) : LState W' X base F l A c B m d p :=
  ⟨cell_kept h.k0 hk hX, cell_kept h.k1 hk hX, cell_kept h.k2 hk hX, frozen_kept h.f0 h.x hk hX, frozen_kept h.f1 h.x hk hX, frozen_kept h.f2 h.x hk hX, Kd.R_kept h.r hk (fun k hk' => hS k hk'.1 hk'.2), h.hb⟩
theorem info3' : (Tryd.prog.info? 3).map (fun i => (i.zero, i.size, i.bytes)) = some (some (.int .i64 0), 1, 8) := by kernel_rfl
theorem made_fin {w W : World} {X base : Nat} {F P : Nat → Prop} {l : List S39} {A : Option Addr} {c : Nat} {B : Option Addr} {ns : List Int} {d : Nat} {p : Int}
    (hS : Kd.R k39 39 W base F (.slice A l.length c) l) (hT : Kd.R (Kd.int .i64) 3 W base P (.slice B ns.length d) ns) (hG : GL l) (hl : l.length ≤ 130) (hn : ∃ tl : List Int, ns = [0, 1] ++ tl ∧ tl.length ≤ 4 ∧ ∀ v : Int, v ∈ tl → 1 < v ∧ v < (l.length : Int)) (hb : Below base w W) (hbase : w.heap.size = base) :
    ∃ (x : NL) (A' : Option Addr) (c' : Nat) (B' : Option Addr) (d' : Nat), Ending.returned (.agg #[.slice A l.length c, .slice B ns.length d, .int .i64 ns.length]) = Ending.returned (nlV x A' c' B' d') ∧ NIn W x A' c' B' d' ∧ GL x.nd ∧ mayL x = true ∧ x.nd.length ≤ 130 ∧ Below w.heap.size w W := by
  obtain ⟨tl, rfl, ht, hv⟩ := hn
  have hm : ∀ s ∈ l, s.f4.size ≤ 4 ∧ s.f3.length ≤ 3 := fun s hs => by
    obtain ⟨j, hj, rfl⟩ := List.getElem_of_mem hs
    have g := hG.nd j hj
    rw [List.getD_eq_getElem?_getD, List.getElem?_eq_getElem hj, Option.getD_some] at g
    exact ⟨g.s4, g.s3⟩
  refine ⟨⟨l, [0, 1] ++ tl, (([0, 1] ++ tl).length : Nat)⟩, A, c, B, d, rfl, ⟨(Kd.R_reads' hS).2.2, (Kd.R_reads' hT).2.2, (Kd.R_reads' hS).2.1, (Kd.R_reads' hT).2.1, fun s hs => ?_, fun s hs => ?_, ?_⟩, hG, hG.may (by omega) tl hv, hl, by rw [hbase]; exact hb⟩
  · exact Nat.le_trans (hm s hs).1 (by decide)
  · exact Nat.le_trans (Nat.mul_le_mul_right 8 (hm s hs).2) (by decide)
  · show ([0, 1] ++ tl).length * 8 ≤ _
    simp
    omega
end Go.Proofs.YtonnmkhmhndalaaDoor
end
section
namespace Go.Proofs.YtonnmkhmhndalaaDoor
set_option linter.unusedVariables false
set_option linter.unusedSimpArgs false
open Go.RowKit Go.Proofs.YtonnmkhmhndalaaDoorW.PrintWords Go.Proofs.YtonnmkhmhndalaaDoorW.PrintLast Go.Proofs.YtonnmkhmhndalaaDoorW.PrintMore
def firstLoop : Code → Option Code
  | .loop c => some c
  | .seq a b => match firstLoop a with
    | some c => some c
    | none => firstLoop b
  | .block _ c => firstLoop c
  | .scope c => firstLoop c
  | .cond _ a b => match firstLoop a with
    | some c => some c
    | none => firstLoop b
  | _ => none
noncomputable def body18 : Code := (Tryd.f18.body.bind firstLoop).getD .skip
structure RSt (w W4 W : World) (X base N dN i : Nat) (l : List S39) (A : Option Addr) (c : Nat) : Prop where
  s : LState W X base (fun b => b ≠ base ∧ b ≠ N) l A c (some ⟨N, 0, none⟩) 2 dN 0
  g : GL l
  len : l.length ≤ 2 + 3 * i
  k : Kept W4 W (fun b => b = X ∨ (b ≠ base ∧ b ≠ N))
  b : Below base w W
structure REnv (w W4 : World) (X base N dN : Nat) (gs : List S71) (Ag : Option Addr) (cg : Nat) : Prop where
  gc : ∀ W, Below base w W → Kd.C k71 W Ag gs.length gs
  gl : gs.length ≤ cg
  x : base + 1 = X
  n : N < W4.heap.size
  nx : N ≠ X
  nt : Kd.R (Kd.int .i64) 3 W4 base (fun b => b = N) (.slice (some ⟨N, 0, none⟩) 2 dN) [0, 1]
set_option maxRecDepth 1000000 in
def RFrame (gs : List S71) (Ag : Option Addr) (cg X : Nat) (c1 c2 c20 c21 c22 c23 c24 c25 c26 c27 c28 c29 c30 c31 c32 c33 c266 c267 c268 c269 c270 c271 c272 c273 c274 c275 c276 c277 c278 c279 c280 c281 c282 c283 c284 c285 c286 c287 c288 c289 c290 c291 c292 c293 c294 c295 c296 c297 c298 c299 c300 c301 c302 c303 c304 c305 c306 c307 c308 c309 c310 c311 c312 c313 c314 c315 c316 c317 c318 : Value) (i : Int) (a : Act) : Prop :=
  ∃ u5 u6 u7 u8 u9 u10 u11 u12 u13 u14 u15 u16 u17 u18 u19 u34 u35 u36 u37 u38 u39 u40 u41 u42 u43 u44 u45 u46 u47 u48 u49 u50 u51 u52 u53 u54 u55 u56 u57 u58 u59 u60 u61 u62 u63 u64 u65 u66 u67 u68 u69 u70 u71 u72 u73 u74 u75 u76 u77 u78 u79 u80 u81 u82 u83 u84 u85 u86 u87 u88 u89 u90 u91 u92 u93 u94 u95 u96 u97 u98 u99 u100 u101 u102 u103 u104 u105 u106 u107 u108 u109 u110 u111 u112 u113 u114 u115 u116 u117 u118 u119 u120 u121 u122 u123 u124 u125 u126 u127 u128 u129 u130 u131 u132 u133 u134 u135 u136 u137 u138 u139 u140 u141 u142 u143 u144 u145 u146 u147 u148 u149 u150 u151 u152 u153 u154 u155 u156 u157 u158 u159 u160 u161 u162 u163 u164 u165 u166 u167 u168 u169 u170 u171 u172 u173 u174 u175 u176 u177 u178 u179 u180 u181 u182 u183 u184 u185 u186 u187 u188 u189 u190 u191 u192 u193 u194 u195 u196 u197 u198 u199 u200 u201 u202 u203 u204 u205 u206 u207 u208 u209 u210 u211 u212 u213 u214 u215 u216 u217 u218 u219 u220 u221 u222 u223 u224 u225 u226 u227 u228 u229 u230 u231 u232 u233 u234 u235 u236 u237 u238 u239 u240 u241 u242 u243 u244 u245 u246 u247 u248 u249 u250 u251 u252 u253 u254 u255 u256 u257 u258 u259 u260 u261 u262 u263 u264 u265 : Value, a = ⟨#[.slice Ag gs.length cg, c1, c2, .pointer (some ⟨X, 0, none⟩), .int .i64 i, u5, u6, u7, u8, u9, u10, u11, u12, u13, u14, u15, u16, u17, u18, u19, c20, c21, c22, c23, c24, c25, c26, c27, c28, c29, c30, c31, c32, c33, u34, u35, u36, u37, u38, u39, u40, u41, u42, u43, u44, u45, u46, u47, u48, u49, u50, u51, u52, u53, u54, u55, u56, u57, u58, u59, u60, u61, u62, u63, u64, u65, u66, u67, u68, u69, u70, u71, u72, u73, u74, u75, u76, u77, u78, u79, u80, u81, u82, u83, u84, u85, u86, u87, u88, u89, u90, u91, u92, u93, u94, u95, u96, u97, u98, u99, u100, u101, u102, u103, u104, u105, u106, u107, u108, u109, u110, u111, u112, u113, u114, u115, u116, u117, u118, u119, u120, u121, u122, u123, u124, u125, u126, u127, u128, u129, u130, u131, u132, u133, u134, u135, u136, u137, u138, u139, u140, u141, u142, u143, u144, u145, u146, u147, u148, u149, u150, u151, u152, u153, u154, u155, u156, u157, u158, u159, u160, u161, u162, u163, u164, u165, u166, u167, u168, u169, u170, u171, u172, u173, u174, u175, u176, u177, u178, u179, u180, u181, u182, u183, u184, u185, u186, u187, u188, u189, u190, u191, u192, u193, u194, u195, u196, u197, u198, u199, u200, u201, u202, u203, u204, u205, u206, u207, u208, u209, u210, u211, u212, u213, u214, u215, u216, u217, u218, u219, u220, u221, u222, u223, u224, u225, u226, u227, u228, u229, u230, u231, u232, u233, u234, u235, u236, u237, u238, u239, u240, u241, u242, u243, u244, u245, u246, u247, u248, u249, u250, u251, u252, u253, u254, u255, u256, u257, u258, u259, u260, u261, u262, u263, u264, u265, c266, c267, c268, c269, c270, c271, c272, c273, c274, c275, c276, c277, c278, c279, c280, c281, c282, c283, c284, c285, c286, c287, c288, c289, c290, c291, c292, c293, c294, c295, c296, c297, c298, c299, c300, c301, c302, c303, c304, c305, c306, c307, c308, c309, c310, c311, c312, c313, c314, c315, c316, c317, c318], []⟩
end Go.Proofs.YtonnmkhmhndalaaDoor
end
