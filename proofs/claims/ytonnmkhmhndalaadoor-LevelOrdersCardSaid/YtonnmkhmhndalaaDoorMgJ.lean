/- Netlists out of numbers, plainly: they may be, and have no loop. Netlists out of numbers: each kind of node that Made makes. Netlists out of numbers: values of so many parts. -/
import Derived.Test.YtonnmkhmhndalaaDoorMgE
import Derived.Test.YtonnmkhmhndalaaDoorMgI
import Derived.Test.YtonnmkhmhndalaaDoorLve
namespace Go.Proofs.YtonnmkhmhndalaaDoor
set_option linter.unusedVariables false
set_option linter.unusedSimpArgs false

/-- a node at place k of l, such as they are -/
structure GNode (l : List S39) (k : Nat) (y : S39) : Prop where
  w : 1 ≤ y.f2 ∧ y.f2 ≤ 200
  i : ∀ v ∈ y.f3, 0 ≤ v ∧ v < l.length
  h : ∀ v ∈ hg y, v < k
  nb : nodeB (wsOf l y) y = true
  zb : zeroB y = true
  two : y.f0 = 2 → k < 2
  s3 : y.f3.length ≤ 3
  s4 : y.f4.size ≤ 4
structure GL (l : List S39) : Prop where
  two : 2 ≤ l.length
  nd : ∀ k, k < l.length → GNode l k (l.getD k z39)

theorem wAt_push (l : List S39) (z : S39) (v : Int) (h : 0 ≤ v ∧ v < l.length) : wAt (l ++ [z]) v = wAt l v := by
  unfold wAt
  rw [List.getD_eq_getElem?_getD, List.getElem?_append_left (by omega), ← List.getD_eq_getElem?_getD]
theorem wsOf_eq {l l' : List S39} {y : S39} (h : ∀ v ∈ y.f3, wAt l' v = wAt l v) : wsOf l' y = wsOf l y := by
  unfold wsOf
  exact List.map_congr_left h
theorem GNode.push {l : List S39} {k : Nat} {y z : S39} (h : GNode l k y) : GNode (l ++ [z]) k y :=
  ⟨h.w, fun v hv => ⟨(h.i v hv).1, by have := (h.i v hv).2; rw [List.length_append, List.length_singleton]; omega⟩, h.h, by rw [wsOf_eq fun v hv => wAt_push l z v (h.i v hv)]; exact h.nb, h.zb, h.two, h.s3, h.s4⟩
theorem getD_push_lt (l : List S39) (z : S39) (k : Nat) (h : k < l.length) : (l ++ [z]).getD k z39 = l.getD k z39 := by
  rw [List.getD_eq_getElem?_getD, List.getElem?_append_left h, ← List.getD_eq_getElem?_getD]
theorem getD_push_eq (l : List S39) (z : S39) : (l ++ [z]).getD l.length z39 = z := by
  rw [List.getD_eq_getElem?_getD, List.getElem?_append_right (Nat.le_refl _)]
  simp
theorem GL.push {l : List S39} (h : GL l) {y : S39} (hy : GNode l l.length y) : GL (l ++ [y]) := by
  refine ⟨by rw [List.length_append]; exact Nat.le_trans h.two (Nat.le_add_right _ _), fun k hk => ?_⟩
  rw [List.length_append, List.length_singleton] at hk
  by_cases e : k = l.length
  · subst e; rw [getD_push_eq]; exact hy.push
  · rw [getD_push_lt l y k (by omega)]; exact (h.nd k (by omega)).push
theorem wAt_set (l : List S39) (k : Nat) (y : S39) (hw : y.f2 = (l.getD k z39).f2) (v : Int) : wAt (l.set k y) v = wAt l v := by
  unfold wAt
  by_cases e : v.toNat = k
  · subst e
    by_cases h : v.toNat < l.length
    · rw [List.getD_eq_getElem?_getD, List.getElem?_set_self h]; exact hw
    · rw [List.set_eq_of_length_le (by omega)]
  · rw [List.getD_eq_getElem?_getD, List.getElem?_set_ne (Ne.symm e), ← List.getD_eq_getElem?_getD]
theorem GL.put {l : List S39} (h : GL l) {k : Nat} {y : S39} (hk : k < l.length) (hw : y.f2 = (l.getD k z39).f2) (hy : GNode l k y) : GL (l.set k y) := by
  have key : ∀ {j : Nat} {z : S39}, GNode l j z → GNode (l.set k y) j z := fun {j z} g =>
    ⟨g.w, fun v hv => by rw [List.length_set]; exact g.i v hv, g.h, by rw [wsOf_eq fun v _ => wAt_set l k y hw v]; exact g.nb, g.zb, g.two, g.s3, g.s4⟩
  refine ⟨by rw [List.length_set]; exact h.two, fun j hj => ?_⟩
  rw [List.length_set] at hj
  by_cases e : j = k
  · subst e
    rw [List.getD_eq_getElem?_getD, List.getElem?_set_self hk]
    exact key hy
  · rw [List.getD_eq_getElem?_getD, List.getElem?_set_ne (Ne.symm e), ← List.getD_eq_getElem?_getD]
    exact key (h.nd j hj)
/-- they have no loop -/
theorem GL.free {l : List S39} (h : GL l) {out : Nat → Nat} {done : Nat → Bool} {cnt : Nat} (hr : LRes l.length (hs l) out done cnt) : cnt = l.length := by
  have key : ∀ u, u < l.length → ∀ x ∈ hs l u, x < u := by
    intro u hu x hx
    unfold hs at hx
    obtain ⟨v, hv, rfl⟩ := List.mem_map.1 hx
    have g := h.nd u hu
    have h1 := g.h v hv
    have hm : v ∈ (l.getD u z39).f3 := by
      unfold hg at hv
      split at hv
      · cases hv
      · split at hv
        · exact List.mem_of_mem_take hv
        · exact hv
    have h2 := (g.i v hm).1
    omega
  rcases Nat.lt_or_ge cnt l.length with h1 | h1
  · exfalso
    refine hr.nofix (fun u hu x hx => by have := key u hu x hx; omega) h1 (fun u => u) (fun u hu x hx => by have := key u hu x hx; show x + 1 ≤ u; omega)
  · have := hr.le; omega
/-- they may be -/
theorem GL.may {l : List S39} (h : GL l) (hn : l.length ≤ 4096) (tl : List Int) (ht : ∀ v ∈ tl, 1 < v ∧ v < l.length) : mayL ⟨l, [0, 1] ++ tl, (([0, 1] ++ tl).length : Nat)⟩ = true := by
  have h2 := h.two
  refine (may_iff _).2 ⟨hn, rfl, fun i hi => ?_, fun i hi => ?_, fun i hi => (h.nd i hi).nb, fun i hi => (h.nd i hi).zb, fun i hi => ?_⟩
  · have g := h.nd i hi
    unfold wideB
    rw [Bool.and_eq_true, Bool.and_eq_true, decide_eq_true_eq, decide_eq_true_eq, List.all_eq_true]
    refine ⟨⟨g.w.1, by have := g.w.2; show (l.getD i z39).f2 ≤ 256; omega⟩, fun v hv => ?_⟩
    have := g.i v hv
    unfold inB
    rw [Bool.and_eq_true, decide_eq_true_eq, decide_eq_true_eq]
    exact this
  · have hm : ([0, 1] ++ tl).getD i 0 ∈ ([0, 1] ++ tl : List Int) := by
      rw [List.getD_eq_getElem?_getD, List.getElem?_eq_getElem hi]
      exact List.getElem_mem hi
    have : 0 ≤ ([0, 1] ++ tl : List Int).getD i 0 ∧ ([0, 1] ++ tl : List Int).getD i 0 < l.length := by
      rcases List.mem_append.1 hm with h1 | h1
      · simp only [List.mem_cons, List.not_mem_nil, or_false] at h1
        omega
      · have := ht _ h1
        omega
    unfold inB
    rw [Bool.and_eq_true, decide_eq_true_eq, decide_eq_true_eq]
    exact this
  · have g := h.nd i hi
    unfold portB
    by_cases e : (l.getD i z39).f0 = 2
    · have hi2 := g.two e
      have c0 : tl.count (0 : Int) = 0 := List.count_eq_zero.2 fun hm => by have := (ht 0 hm).1; omega
      have c1 : tl.count (1 : Int) = 0 := List.count_eq_zero.2 fun hm => by have := (ht 1 hm).1; omega
      have : ([0, 1] ++ tl : List Int).count (i : Int) = 1 := by
        rw [List.count_append]
        rcases (show i = 0 ∨ i = 1 by omega) with rfl | rfl
        · show List.count (0 : Int) [0, 1] + tl.count (0 : Int) = 1
          rw [c0]; rfl
        · show List.count (1 : Int) [0, 1] + tl.count (1 : Int) = 1
          rw [c1]; rfl
      rw [decide_eq_true this, Bool.or_true]
    · show (!decide ((l.getD i z39).f0 = 2) || _) = true
      rw [decide_eq_false e]
      rfl
end Go.Proofs.YtonnmkhmhndalaaDoor
namespace Go.Proofs.YtonnmkhmhndalaaDoor
set_option linter.unusedVariables false
set_option linter.unusedSimpArgs false

/-- a place in l -/
def At (l : List S39) (v : Int) : Prop := 0 ≤ v ∧ v < l.length
theorem GL.wd {l : List S39} (h : GL l) {v : Int} (hv : At l v) : 1 ≤ wAt l v ∧ wAt l v ≤ 200 := (h.nd v.toNat (by have := hv.1; have := hv.2; omega)).w
theorem At.lt {l : List S39} {v : Int} (h : At l v) : v < (l.length : Int) := h.2
variable {l : List S39}
theorem g_const {v : ByteArray} {w : Int} (hv : vOk v = true) (hs : (v.size : Int) = w) (h1 : 1 ≤ w) (h2 : w ≤ 4) : GNode l l.length ⟨1, 0, w, [], v, 0, 0, 0⟩ :=
  ⟨⟨h1, by show w ≤ 200; omega⟩, fun v hv => (by cases hv), fun v hv => (by cases hv), by simp [nodeB, wsOf, hv, hs], by simp [zeroB], by simp, by simp, by show v.size ≤ 4; omega⟩
theorem g_wide {k w : Int} (hk : At l k) (h1 : 1 ≤ w) (h2 : w ≤ 200) : GNode l l.length ⟨6, 0, w, [k], ⟨#[]⟩, 0, 0, 0⟩ :=
  ⟨⟨h1, h2⟩, fun v hv => by rw [List.mem_singleton.1 hv]; exact hk, fun v hv => by rw [show v = k by simpa [hg] using hv]; exact hk.2, by simp [nodeB, wsOf], by simp [zeroB], by simp, by simp, Nat.zero_le _⟩
theorem mem2 {a b v : Int} (h : v ∈ [a, b]) : v = a ∨ v = b := by simpa using h
theorem mem3 {a b c v : Int} (h : v ∈ [a, b, c]) : v = a ∨ v = b ∨ v = c := by simpa using h
theorem g_two {op p q w W : Int} (hp : At l p) (hq : At l q) (o1 : 13 ≤ op) (o2 : op ≤ 26) (wp : wAt l p = w) (wq : wAt l q = w) (h1 : 1 ≤ w) (h2 : w ≤ 4) (hW : silkwormbook_binary.f op w = some W) : GNode l l.length ⟨3, op, W, [p, q], ⟨#[]⟩, 0, 0, 0⟩ := by
  have hop : op = 13 ∨ op = 14 ∨ op = 15 ∨ op = 16 ∨ op = 17 ∨ op = 18 ∨ op = 19 ∨ op = 20 ∨ op = 21 ∨ op = 22 ∨ op = 23 ∨ op = 24 ∨ op = 25 ∨ op = 26 := by omega
  have key : opW op 0 0 [w, w] = W ∧ 1 ≤ W ∧ W ≤ 4 := by
    rcases hop with rfl | rfl | rfl | rfl | rfl | rfl | rfl | rfl | rfl | rfl | rfl | rfl | rfl | rfl <;>
      (simp [silkwormbook_binary.f] at hW; subst hW; simp [opW, isI]; try exact ⟨h1, h2⟩)
  refine ⟨⟨key.2.1, by have := key.2.2; show W ≤ 200; omega⟩, fun v hv => ?_, fun v hv => ?_, ?_, ?_, by simp, by simp, Nat.zero_le _⟩
  · rcases mem2 hv with rfl | rfl <;> assumption
  · rcases mem2 (show v ∈ [p, q] by simpa [hg] using hv) with rfl | rfl
    · exact hp.2
    · exact hq.2
  · have e : wsOf l ⟨3, op, W, [p, q], ⟨#[]⟩, 0, 0, 0⟩ = [w, w] := by simp [wsOf, wp, wq]
    rw [e]
    simp [nodeB, key.1]
  · simp [zeroB]
theorem g_one {op a W : Int} (ha : At l a) (o1 : 7 ≤ op) (o2 : op ≤ 12) (hb : 1 ≤ wAt l a ∧ wAt l a ≤ 200) (hW : (if op = 7 ∨ op = 9 then wAt l a else 1) = W) : GNode l l.length ⟨3, op, W, [a], ⟨#[]⟩, 0, 0, 0⟩ := by
  have hop : op = 7 ∨ op = 8 ∨ op = 9 ∨ op = 10 ∨ op = 11 ∨ op = 12 := by omega
  have key : opW op 0 0 [wAt l a] = W ∧ 1 ≤ W ∧ W ≤ 200 := by
    rcases hop with rfl | rfl | rfl | rfl | rfl | rfl <;>
      (simp at hW; subst hW; simp [opW, isI]; try exact hb)
  refine ⟨key.2, fun v hv => ?_, fun v hv => ?_, ?_, ?_, by simp, by simp, Nat.zero_le _⟩
  · rw [List.mem_singleton.1 hv]; exact ha
  · rw [show v = a by simpa [hg] using hv]; exact ha.2
  · have e : wsOf l ⟨3, op, W, [a], ⟨#[]⟩, 0, 0, 0⟩ = [wAt l a] := by simp [wsOf]
    rw [e]
    simp [nodeB, key.1]
  · have : op ≠ 4 := by omega
    simp [zeroB, this]
theorem g_choose {c p q w : Int} (hc : At l c) (hp : At l p) (hq : At l q) (wp : wAt l p = w) (wq : wAt l q = w) (h1 : 1 ≤ w) (h2 : w ≤ 4) : GNode l l.length ⟨4, 0, w, [c, p, q], ⟨#[]⟩, 0, 0, 0⟩ := by
  refine ⟨⟨h1, by show w ≤ 200; omega⟩, fun v hv => ?_, fun v hv => ?_, by simp [nodeB, wsOf, wp, wq], by simp [zeroB], by simp, by simp, Nat.zero_le _⟩
  · rcases mem3 hv with rfl | rfl | rfl <;> assumption
  · rcases mem3 (show v ∈ [c, p, q] by simpa [hg] using hv) with rfl | rfl | rfl
    · exact hc.2
    · exact hp.2
    · exact hq.2
theorem g_cond {c p q w : Int} (hc : At l c) (hp : At l p) (hq : At l q) (wp : wAt l p = w) (wq : wAt l q = w) (h1 : 1 ≤ w) (h2 : w ≤ 4) : GNode l l.length ⟨3, 6, w, [c, p, q], ⟨#[]⟩, 0, 0, 0⟩ := by
  refine ⟨⟨h1, by show w ≤ 200; omega⟩, fun v hv => ?_, fun v hv => ?_, by simp [nodeB, wsOf, wp, wq, opW], by simp [zeroB], by simp, by simp, Nat.zero_le _⟩
  · rcases mem3 hv with rfl | rfl | rfl <;> assumption
  · rcases mem3 (show v ∈ [c, p, q] by simpa [hg] using hv) with rfl | rfl | rfl
    · exact hc.2
    · exact hp.2
    · exact hq.2
theorem g_same {p q w : Int} (hp : At l p) (hq : At l q) (wp : wAt l p = w) (wq : wAt l q = w) : GNode l l.length ⟨5, 0, 1, [p, q], ⟨#[]⟩, 0, 0, 0⟩ := by
  refine ⟨⟨Int.le_refl 1, (by decide : (1 : Int) ≤ 200)⟩, fun v hv => ?_, fun v hv => ?_, by simp [nodeB, wsOf, wp, wq], by simp [zeroB], by simp, by simp, Nat.zero_le _⟩
  · rcases mem2 hv with rfl | rfl <;> assumption
  · rcases mem2 (show v ∈ [p, q] by simpa [hg] using hv) with rfl | rfl
    · exact hp.2
    · exact hq.2
theorem g_flip {k : Nat} {c p w : Int} (hc : At l c) (hck : c < k) (hp : At l p) (wp : wAt l p = w) (h1 : 1 ≤ w) (h2 : w ≤ 200) : GNode l k ⟨7, 0, w, [c, p], ⟨#[]⟩, 0, 0, 0⟩ := by
  refine ⟨⟨h1, h2⟩, fun v hv => ?_, fun v hv => ?_, by simp [nodeB, wsOf, wp], by simp [zeroB], by simp, by simp, Nat.zero_le _⟩
  · rcases mem2 hv with rfl | rfl <;> assumption
  · rw [show v = c by simpa [hg] using hv]; exact hck
theorem g_delay {k : Nat} {p w t : Int} (hp : At l p) (wp : wAt l p = w) (h1 : 1 ≤ w) (h2 : w ≤ 200) (t1 : 1 ≤ t) (t2 : t ≤ 1048576) : GNode l k ⟨8, 0, w, [p], ⟨#[]⟩, 0, 0, t⟩ := by
  refine ⟨⟨h1, h2⟩, fun v hv => ?_, fun v hv => ?_, by simp [nodeB, wsOf, wp, t1, t2], by simp [zeroB], by simp, by simp, Nat.zero_le _⟩
  · rw [List.mem_singleton.1 hv]; exact hp
  · simp [hg] at hv
theorem g_cat1 {a w : Int} (ha : At l a) (wa : wAt l a = w) (h1 : 1 ≤ w) (h2 : w ≤ 200) : GNode l l.length ⟨3, 5, w, [a], ⟨#[]⟩, 0, 0, 0⟩ := by
  refine ⟨⟨h1, h2⟩, fun v hv => ?_, fun v hv => ?_, by simp [nodeB, wsOf, wa, opW], by simp [zeroB], by simp, by simp, Nat.zero_le _⟩
  · rw [List.mem_singleton.1 hv]; exact ha
  · rw [show v = a by simpa [hg] using hv]; exact ha.2
theorem g_cat2 {a b w : Int} (ha : At l a) (hb : At l b) (wa : wAt l a + wAt l b = w) (h1 : 1 ≤ w) (h2 : w ≤ 200) : GNode l l.length ⟨3, 5, w, [a, b], ⟨#[]⟩, 0, 0, 0⟩ := by
  refine ⟨⟨h1, h2⟩, fun v hv => ?_, fun v hv => ?_, by simp [nodeB, wsOf, wa, opW], by simp [zeroB], by simp, by simp, Nat.zero_le _⟩
  · rcases mem2 hv with rfl | rfl <;> assumption
  · rcases mem2 (show v ∈ [a, b] by simpa [hg] using hv) with rfl | rfl
    · exact ha.2
    · exact hb.2
/-- the first two -/
def in1 : S39 := ⟨2, 0, 1, [], ⟨#[]⟩, 0, 0, 0⟩
def in3 : S39 := ⟨2, 0, 3, [], ⟨#[]⟩, 0, 0, 0⟩
theorem gl_two : GL [in1, in3] := by
  refine ⟨by decide, fun k hk => ?_⟩
  have : k = 0 ∨ k = 1 := by simp at hk; omega
  rcases this with rfl | rfl
  · exact ⟨by decide, fun v hv => (by cases hv), fun v hv => (by cases hv), by rfl, by simp [zeroB, in1, in3], fun _ => by decide, by decide, Nat.zero_le _⟩
  · exact ⟨by decide, fun v hv => (by cases hv), fun v hv => (by cases hv), by rfl, by simp [zeroB, in1, in3], fun _ => by decide, by decide, Nat.zero_le _⟩
/-- what may be put for a delay or a flip-flop -/
theorem GL.delay {k : Nat} (h : GL l) (hk : k < l.length) (e : (l.getD k z39).f0 = 8) {tv : Int} (ht : At l tv) (hw : wAt l tv = (l.getD k z39).f2) : GL (l.set k { l.getD k z39 with f3 := [tv] }) := by
  have g := h.nd k hk
  refine h.put hk rfl ?_
  generalize l.getD k z39 = y at *
  have hnb := g.nb
  have hz := g.zb
  refine ⟨g.w, fun v hv => ?_, fun v hv => ?_, ?_, ?_, g.two, by simp, g.s4⟩
  · rw [List.mem_singleton.1 hv]; exact ht
  · simp [hg, e] at hv
  · simp [nodeB, wsOf, e] at hnb ⊢
    exact ⟨hw, hnb.2.2⟩
  · simpa [zeroB] using hz
theorem GL.flip {k : Nat} (h : GL l) (hk : k < l.length) (e : (l.getD k z39).f0 = 7) {tv : Int} (ht : At l tv) (hw : wAt l tv = (l.getD k z39).f2) : GL (l.set k { l.getD k z39 with f3 := [(l.getD k z39).f3.getD 0 0, tv] }) ∧ 0 < (l.getD k z39).f3.length := by
  have g := h.nd k hk
  have hnb := g.nb
  have h2 : ∀ y : S39, nodeB (wsOf l y) y = true → y.f0 = 7 → y.f3.length = 2 := by
    intro y hnb e
    simp [nodeB, wsOf, e] at hnb
    exact hnb.1
  replace h2 := h2 _ hnb e
  refine ⟨h.put hk rfl ?_, by omega⟩
  generalize l.getD k z39 = y at *
  obtain ⟨a, b, hab⟩ : ∃ a b, y.f3 = [a, b] := by
    match hy : y.f3, h2 with
    | [a, b], _ => exact ⟨a, b, rfl⟩
  have hz := g.zb
  have ha := g.i a (by rw [hab]; simp)
  have hak := g.h a (by simp [hg, e, hab])
  have e0 : y.f3.getD 0 0 = a := by rw [hab]; rfl
  rw [e0]
  refine ⟨g.w, fun v hv => ?_, fun v hv => ?_, ?_, ?_, g.two, by simp, g.s4⟩
  · rcases mem2 hv with rfl | rfl
    · exact ha
    · exact ht
  · have : v = a := by simpa [hg, e] using hv
    rw [this]; exact hak
  · simp [nodeB, wsOf, e] at hnb ⊢
    exact hw
  · simpa [zeroB] using hz
end Go.Proofs.YtonnmkhmhndalaaDoor
namespace Go.Proofs.YtonnmkhmhndalaaDoor
set_option linter.unusedVariables false
set_option linter.unusedSimpArgs false
open Go.RowKit Go.Proofs.YtonnmkhmhndalaaDoorW.PrintWords Go.Proofs.YtonnmkhmhndalaaDoorW.PrintLast Go.Proofs.YtonnmkhmhndalaaDoorW.PrintMore

theorem mask_lt (n : Int) (m : Nat) (j : Nat) (hm : (BitVec.ofInt 64 (m : Int)).toNat = 2 ^ j - 1) (hj : 2 ^ j ≤ 65536) : ∃ q : Nat, bits .and .i64 n (m : Int) = (q : Int) ∧ q < 2 ^ j := by
  have e : (BitVec.ofInt 64 n &&& BitVec.ofInt 64 (m : Int)).toNat < 2 ^ j := by
    rw [BitVec.toNat_and, hm, Nat.and_two_pow_sub_one_eq_mod]
    exact Nat.mod_lt _ (Nat.two_pow_pos j)
  refine ⟨(BitVec.ofInt 64 n &&& BitVec.ofInt 64 (m : Int)).toNat, ?_, e⟩
  show IntKind.i64.wrap ((BitVec.ofInt 64 n &&& BitVec.ofInt 64 (m : Int)).toNat : Int) = _
  exact IntWalk.i64_in _ ⟨by omega, by omega⟩
def bit4 (v : Int) : Prop := v = 48 ∨ v = 49 ∨ v = 120 ∨ v = 122
theorem bit4_set {l : List Int} {i : Nat} {v : Int} (hv : bit4 v) (hi : i < l.length) (h : ∀ j, j < i → bit4 (l.getD j 0)) : ∀ j, j < i + 1 → bit4 ((l.set i v).getD j 0) := by
  intro j hj
  by_cases e : j = i
  · subst e; rw [List.getD_eq_getElem?_getD, List.getElem?_set_self hi]; exact hv
  · rw [List.getD_eq_getElem?_getD, List.getElem?_set_ne (Ne.symm e), ← List.getD_eq_getElem?_getD]; exact h j (by omega)
theorem bit4_set2 {l : List Int} {i : Nat} {v : Int} (hv : bit4 v) (hi : i < l.length) (h : ∀ j, j < i + 1 → bit4 (l.getD j 0)) : ∀ j, j < i + 1 → bit4 ((l.set i v).getD j 0) := bit4_set hv hi fun j hj => h j (by omega)
theorem vec_l0 (x0 : Int) (W : Nat) (hW : W ≤ 1000) : ∀ (d k i : Nat) (l : List Int), i + d = W → l.length = W → (∀ j, j < i → bit4 (l.getD j 0)) → 2 * d + 1 ≤ k →
    ∃ y, silkwormbook_vector.l0 k x0 (W : Int) l (i : Int) = some (strOfNums y) ∧ y.length = W ∧ ∀ j, j < W → bit4 (y.getD j 0) := by
  intro d
  induction d with
  | zero =>
    intro k i l hi hl hb hk
    obtain ⟨k, rfl⟩ : ∃ m, k = m + 1 := ⟨k - 1, by omega⟩
    obtain rfl : i = W := by omega
    refine ⟨l, ?_, hl, hb⟩
    simp only [silkwormbook_vector.l0]
    rw [if_neg (by omega)]
  | succ d ih =>
    intro k i l hi hl hb hk
    obtain ⟨k, rfl⟩ : ∃ m, k = m + 1 + 1 := ⟨k - 2, by omega⟩
    obtain ⟨q, hq, hq2⟩ := mask_lt (i : Int) 15 4 (by decide) (by decide)
    have hq3 : bits .and .i64 (i : Int) 15 = (q : Int) := hq
    have w1 : wrap64 (2 * (q : Int)) = 2 * (q : Int) := w64 (by omega) (by omega)
    have w2 : wrap64 ((i : Int) + 1) = ((i + 1 : Nat) : Int) := by
      have : wrap64 ((i : Int) + 1) = (i : Int) + 1 := w64 (by omega) (by omega)
      rw [this]; omega
    have go : ∀ l' : List Int, l'.length = W → (∀ j, j < i + 1 → bit4 (l'.getD j 0)) → ∃ y, silkwormbook_vector.l0 k x0 (W : Int) l' (wrap64 ((i : Int) + 1)) = some (strOfNums y) ∧ y.length = W ∧ ∀ j, j < W → bit4 (y.getD j 0) := fun l' h1 h2 => by
      rw [w2]; exact ih k (i + 1) l' (by omega) h1 h2 (by omega)
    have gj : ∀ (l' : List Int) (a : Int) (b : Bool), l'.length = W → (∀ j, j < i + 1 → bit4 (l'.getD j 0)) → ∃ y, silkwormbook_vector.j1 (k + 1) x0 (W : Int) l' (i : Int) a b = some (strOfNums y) ∧ y.length = W ∧ ∀ j, j < W → bit4 (y.getD j 0) := by
      intro l' a b h1 h2
      have hil : i < l'.length := by omega
      simp only [silkwormbook_vector.j1]
      have p0 : (0 : Int) ≤ (i : Int) := by omega
      have p1 : (i : Int) < (l'.length : Int) := by omega
      simp only [p0, p1, if_true, Option.bind_some, Int.toNat_natCast]
      have a1 := go (l'.set i 120) (by simpa using h1) (bit4_set2 (by simp [bit4]) hil h2)
      have a2 := go (l'.set i 122) (by simpa using h1) (bit4_set2 (by simp [bit4]) hil h2)
      have a3 := go l' h1 h2
      have a4 := go ((l'.set i 120).set i 122) (by simpa using h1) (bit4_set2 (by simp [bit4]) (by simpa using hil) (bit4_set2 (by simp [bit4]) hil h2))
      repeat' split
      all_goals assumption
    simp only [silkwormbook_vector.l0]
    rw [hq3, w1]
    rw [if_pos (by omega), if_pos (by omega), if_pos (by omega), if_pos (by omega)]
    obtain ⟨u, hu, hu2⟩ := mask_lt (Go.bits .and .i64 (shr .i64 x0 (2 * (q : Int))) 3) 1 1 (by decide) (by decide)
    have hu3 : bits .and .i64 (Go.bits .and .i64 (shr .i64 x0 (2 * (q : Int))) 3) 1 = (u : Int) := hu
    rw [hu3]
    have hu4 : u = 0 ∨ u = 1 := by omega
    have hv : bit4 (wrap64 (48 + (u : Int)) % 256) := by
      have : wrap64 (48 + (u : Int)) = 48 + (u : Int) := w64 (by omega) (by omega)
      rw [this]
      rcases hu4 with rfl | rfl
      · exact Or.inl rfl
      · exact Or.inr (Or.inl rfl)
    simp only [Option.bind_some, Int.toNat_natCast]
    have g1 := fun a b => gj (l.set i (wrap64 (48 + (u : Int)) % 256)) a b (by simpa using hl) (bit4_set hv (by omega) hb)
    repeat' split
    all_goals exact g1 _ _
theorem vec_f (x0 : Int) (W : Nat) (h1 : 1 ≤ W) (h2 : W ≤ 4) : ∃ v, silkwormbook_vector.f 9 x0 (W : Int) = some v ∧ vOk v = true ∧ (v.size : Int) = (W : Int) := by
  obtain ⟨y, hy, hl, hb⟩ := vec_l0 x0 W (by omega) W 9 0 (List.replicate W 0) (by omega) (by simp) (by omega) (by omega)
  have e0 : silkwormbook_vector.f 9 x0 (W : Int) = some (strOfNums y) := by
    unfold silkwormbook_vector.f
    rw [if_pos (by omega), if_pos (by omega), Int.toNat_natCast]
    exact hy
  refine ⟨_, e0, ?_, ?_⟩
  · unfold vOk
    rw [strOfNums_size, hl, decide_eq_true h1, decide_eq_true (by omega), strOfNums_data, Bool.true_and, Bool.true_and, List.all_eq_true]
    intro c hc
    obtain ⟨v, hv, rfl⟩ := List.mem_map.1 hc
    obtain ⟨j, hj, rfl⟩ := List.getElem_of_mem hv
    have h3 := hb j (by omega)
    rw [List.getD_eq_getElem?_getD, List.getElem?_eq_getElem hj, Option.getD_some] at h3
    rcases h3 with h | h | h | h <;> rw [h] <;> decide
  · rw [strOfNums_size, hl]
end Go.Proofs.YtonnmkhmhndalaaDoor
