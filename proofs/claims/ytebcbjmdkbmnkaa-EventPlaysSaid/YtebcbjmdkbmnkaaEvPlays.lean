/- The walk of EventPlays. -/
import Derived.Test.YtebcbjmdkbmnkaaEvDoesM
namespace Go.Proofs.Ytebcbjmdkbmnkaa
set_option linter.unusedVariables false
set_option linter.unusedSimpArgs false
open Go.RowKit

theorem does_any (g : Nat) (lim k t m f s : Int) (v : ByteArray) (a : Bool) (L R : List Ev) (sv : Value) (A : Option Addr) (n c : Nat) (w : World) (hp : 0 < lim) (hm : lim ≤ 4096) (hT : Two w g lim L sv R (.slice A n c)) (hL : R.length = n) :
    Calls Try.prog 16 #[.pointer (some ⟨g, 0, none⟩), .agg #[.int .i64 lim, .slice A n c], .agg #[.int .i64 k, .int .i64 t, .int .i64 m, .string v, .int .i64 f, .int .i64 s, .bool a]] w
      fun e w' => ∃ rv', e = .returned (.tuple #[.agg #[.int .i64 lim, rv'], .bool true]) ∧ DPost w g lim sv (.slice A n c) rv' w' := by
  have h0 : n = 0 → R = [] ∧ L = [] := fun e => by
    have := hT.c.len
    exact ⟨List.eq_nil_of_length_eq_zero (by omega), List.eq_nil_of_length_eq_zero (by omega)⟩
  by_cases h1 : k = 1
  · subst h1; exact does_put g lim t m f s v a L R sv A n c w hp hm hT hL
  by_cases h2 : k = 2
  · subst h2
    rcases Nat.eq_zero_or_pos n with e | e
    · obtain ⟨rfl, rfl⟩ := h0 e
      subst e
      exact does_take0 g lim t m f s v a sv A c w hp hm hT
    · exact does_take1 g lim t m f s v a L R sv A n c w hp hm hT hL e
  by_cases h3 : k = 3
  · subst h3
    rcases Nat.eq_zero_or_pos n with e | e
    · obtain ⟨rfl, rfl⟩ := h0 e
      subst e
      exact does_min0 g lim t m f s v a sv A c w hp hm hT
    · exact does_min1 g lim t m f s v a L R sv A n c w hp hm hT hL e
  by_cases h4 : k = 4
  · subst h4; exact does_cancel g lim t m f s v a L R sv A n c w hp hm hT hL
  exact does_none g lim k t m f s v a L R sv A n c w hT h1 h2 h3 h4

/-- one call of the script -/
structure OpC where
  k : Int
  e : Ev
instance : Inhabited OpC := ⟨⟨0, default⟩⟩
def OpAt (w : World) (b o : Nat) (x : OpC) : Prop := w.cell? ⟨b, o, none⟩ = some (.int .i64 x.k) ∧ w.cell? ⟨b, o + 1, none⟩ = some (.int .i64 x.e.t) ∧ w.cell? ⟨b, o + 2, none⟩ = some (.int .i64 x.e.n) ∧ w.cell? ⟨b, o + 3, none⟩ = some (.string x.e.v) ∧
  w.cell? ⟨b, o + 4, none⟩ = some (.int .i64 x.e.f) ∧ w.cell? ⟨b, o + 5, none⟩ = some (.int .i64 x.e.s) ∧ w.cell? ⟨b, o + 6, none⟩ = some (.bool x.e.a)
def OpsAt (w : World) (A : Option Addr) (zs : List OpC) : Prop := 0 < zs.length → ∃ b o, A = some ⟨b, o, none⟩ ∧ b < w.heap.size ∧ ∀ i, i < zs.length → OpAt w b (o + i * 7) (zs.getD i default)
theorem OpsAt.below {w w' : World} {A : Option Addr} {zs : List OpC} (h : OpsAt w A zs) (hb : Below w.heap.size w w') : OpsAt w' A zs := by
  intro h0
  obtain ⟨b, o, rfl, hlt, hc⟩ := h h0
  refine ⟨b, o, rfl, Nat.lt_of_lt_of_le hlt hb.size, fun i hi => ?_⟩
  obtain ⟨h0, h1, h2, h3, h4, h5, h6⟩ := hc i hi
  exact ⟨(hb.cell hlt).trans h0, (hb.cell hlt).trans h1, (hb.cell hlt).trans h2, (hb.cell hlt).trans h3, (hb.cell hlt).trans h4, (hb.cell hlt).trans h5, (hb.cell hlt).trans h6⟩

/-- where the law stands between two calls -/
structure PSt (H Br Bw : Nat) (lim : Int) (w : World) (g : Nat) (L : List Ev) (sv : Value) (R : List Ev) (A : Option Addr) (n c : Nat) (A2 : Option Addr) (n2 c2 : Nat) (ov : Value) : Prop where
  two : Two w g lim L sv R (.slice A n c)
  len : R.length = n
  hg : H ≤ g
  hs : ∀ k, sv.ownBlock = some k → H ≤ k
  br : w.heap[Br]? = some (.cells #[.int .i64 lim, .slice A n c] 42 (0, 0))
  bw : w.heap[Bw]? = some (.cells #[.int .i64 lim, .slice A2 n2 c2] 42 (0, 0))
  old : ov = .pointer none ∨ ∃ go Lo so Ro, ov = .pointer (some ⟨go, 0, none⟩) ∧ Two w go lim Lo so Ro (.slice A2 n2 c2) ∧ Ro.length = n2 ∧ H ≤ go ∧ (∀ k, so.ownBlock = some k → H ≤ k) ∧ g ≠ go ∧ NeOwn sv so ∧ NeOwn sv (.slice A2 n2 c2)

theorem Two.drew {w : World} {g : Nat} {lim : Int} {L R : List Ev} {sv rv : Value} (h : Two w g lim L sv R rv) : Two w.drew g lim L sv R rv := ⟨h.q, h.r, h.c, h.ne, h.le⟩
theorem PSt.drew {H Br Bw : Nat} {lim : Int} {w : World} {g : Nat} {L : List Ev} {sv : Value} {R : List Ev} {A : Option Addr} {n c : Nat} {A2 : Option Addr} {n2 c2 : Nat} {ov : Value} (h : PSt H Br Bw lim w g L sv R A n c A2 n2 c2 ov) : PSt H Br Bw lim w.drew g L sv R A n c A2 n2 c2 ov := by
  refine ⟨h.two.drew, h.len, h.hg, h.hs, h.br, h.bw, ?_⟩
  rcases h.old with e | ⟨go, Lo, so, Ro, e, t, r⟩
  · exact .inl e
  · exact .inr ⟨go, Lo, so, Ro, e, t.drew, r⟩

/-- blocks that a call on the queue leaves -/
theorem Two.keep42 {w w' : World} {g : Nat} {lim : Int} {L R : List Ev} {sv rv : Value} (h : Two w g lim L sv R rv) (hk : Kp (qb g sv) w w') {B : Nat} {cs : Array Value} (hB : w.heap[B]? = some (.cells cs 42 (0, 0))) : w'.heap[B]? = some (.cells cs 42 (0, 0)) := by
  refine hk.blk hB ?_
  rintro (e | e)
  · subst e
    have := hB.symm.trans h.q.1
    injection this with this; injection this with _ t; exact absurd t (by decide)
  · exact own_ne_blk h.q.2 hB (by decide) e.symm
theorem Two.keepTwo {w w' : World} {g go : Nat} {lim lim2 : Int} {L R Lo Ro : List Ev} {sv rv so ro : Value} (h : Two w g lim L sv R rv) (hk : Kp (qb g sv) w w') (t : Two w go lim2 Lo so Ro ro) (r4 : g ≠ go) (r5 : NeOwn sv so) (r6 : NeOwn sv ro) : Two w' go lim2 Lo so Ro ro := by
  refine t.kp hk ?_ ?_ ?_
  · rintro (e | e)
    · exact r4 e.symm
    · exact own_ne_blk h.q.2 t.q.1 (by decide) e.symm
  · rintro k hk1 (e | e)
    · subst e; exact own_ne_blk t.q.2 h.q.1 (by decide) hk1.symm
    · exact r5 k e hk1
  · rintro k hk1 (e | e)
    · subst e; exact own_ne_blk t.r h.q.1 (by decide) hk1.symm
    · exact r6 k e hk1

/-- a call on both sides; its list stands in the law's own place, and nothing else was written -/
theorem PSt.step {H Br Bw : Nat} {lim : Int} {w w' w3 : World} {g : Nat} {L : List Ev} {sv : Value} {R : List Ev} {A : Option Addr} {n c : Nat} {A2 : Option Addr} {n2 c2 : Nat} {ov : Value} (h : PSt H Br Bw lim w g L sv R A n c A2 n2 c2 ov)
    (hH : H ≤ w.heap.size) (hne : Br ≠ Bw) {A1 : Option Addr} {n1 c1 : Nat} (hd : DPost w g lim sv (.slice A n c) (.slice A1 n1 c1) w') (hb : Below w'.heap.size w' w3) :
    ∃ L' sv' R', PSt H Br Bw lim ((w3.setCell ⟨Br, 0, none⟩ (.int .i64 lim)).setCell ⟨Br, 1, none⟩ (.slice A1 n1 c1)) g L' sv' R' A1 n1 c1 A2 n2 c2 ov ∧ Kp (qb g sv) w w' := by
  obtain ⟨L', sv', R', hT, hk, ho, hv⟩ := hd
  have hbr := h.two.keep42 hk h.br
  have hbw := h.two.keep42 hk h.bw
  have hT3 := hT.below hb
  have hbr3 := (hb.block _ (Array.getElem?_eq_some_iff.1 hbr).1).trans hbr
  have hbw3 := (hb.block _ (Array.getElem?_eq_some_iff.1 hbw).1).trans hbw
  have hks : Kp (fun k => k = Br) w3 ((w3.setCell ⟨Br, 0, none⟩ (.int .i64 lim)).setCell ⟨Br, 1, none⟩ (.slice A1 n1 c1)) := ((Kp.refl (fun k => k = Br) w3).setCell (p := ⟨Br, 0, none⟩) (.inl rfl) _).setCell (p := ⟨Br, 1, none⟩) (.inl rfl) _
  have hq42 : ∀ {g' : Nat} {L0 : List Ev} {s0 : Value}, QS w3 g' lim L0 s0 → ¬ g' = Br := by
    rintro g' L0 s0 hq rfl
    have := hbr3.symm.trans hq.1
    injection this with this; injection this with _ t; exact absurd t (by decide)
  have hkT : ∀ {g' : Nat} {L0 : List Ev} {s0 : Value} {R0 : List Ev} {v0 : Value}, Two w3 g' lim L0 s0 R0 v0 → Two ((w3.setCell ⟨Br, 0, none⟩ (.int .i64 lim)).setCell ⟨Br, 1, none⟩ (.slice A1 n1 c1)) g' lim L0 s0 R0 v0 := by
    intro g' L0 s0 R0 v0 t
    refine t.kp hks (hq42 t.q) ?_ ?_
    · rintro k hk1 rfl; exact own_ne_blk t.q.2 hbr3 (by decide) hk1.symm
    · rintro k hk1 rfl; exact own_ne_blk t.r hbr3 (by decide) hk1.symm
  refine ⟨L', sv', R', ⟨hkT hT3, ?_, h.hg, ?_, res_done hbr3, ?_, ?_⟩, hk⟩
  · obtain ⟨Ax, cx, e, _⟩ := hT.r.rd
    injection e with _ e2 _
    exact e2.symm
  · intro k hk1
    rcases ho with e | ⟨k', e, e2⟩
    · exact h.hs k (e.symm.trans hk1)
    · rw [e] at hk1; injection hk1 with hk1; omega
  · exact hks.blk hbw3 (fun e => hne e.symm)
  · rcases h.old with e | ⟨go, Lo, so, Ro, e, t, r1, r2, r3, r4, r5, r6⟩
    · exact .inl e
    · have hnew : ∀ {v0 : Value}, (∀ k, v0.ownBlock = some k → k < w.heap.size) → NeOwn sv v0 → NeOwn sv' v0 := by
        intro v0 hlt hn k hk1 hk2
        rcases ho with e | ⟨k', e, e2⟩
        · exact hn k (e.symm.trans hk1) hk2
        · rw [e] at hk1; injection hk1 with hk1
          have := hlt k hk2; omega
      exact .inr ⟨go, Lo, so, Ro, e, hkT ((h.two.keepTwo hk t r4 r5 r6).below hb), r1, r2, r3, r4, hnew (fun k hk1 => t.q.own_lt hk1) r5, hnew t.r.lt r6⟩
end Go.Proofs.Ytebcbjmdkbmnkaa
