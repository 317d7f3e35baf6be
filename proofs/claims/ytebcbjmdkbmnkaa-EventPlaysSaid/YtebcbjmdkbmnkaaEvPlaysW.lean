/- The walk of EventPlays. -/
import Derived.Test.YtebcbjmdkbmnkaaEvPlays
namespace Go.Proofs.Ytebcbjmdkbmnkaa
set_option linter.unusedVariables false
set_option linter.unusedSimpArgs false
open Go.RowKit

theorem DPost.form {w : World} {g : Nat} {lim : Int} {sv rv rv' : Value} {w' : World} (h : DPost w g lim sv rv rv' w') : ∃ A n c, rv' = .slice A n c := by
  obtain ⟨L', sv', R', ⟨q, r, c, ne, le⟩, k, o, v⟩ := h
  exact own_slice3 r
theorem DPost.keep42 {w : World} {g : Nat} {lim lim2 : Int} {sv rv rv' rv2 : Value} {L R : List Ev} {w' : World} (h : DPost w g lim sv rv rv' w') (t : Two w g lim2 L sv R rv2) {B : Nat} {cs : Array Value} (hB : w.heap[B]? = some (.cells cs 42 (0, 0))) : w'.heap[B]? = some (.cells cs 42 (0, 0)) := by
  obtain ⟨L', sv', R', _, k, o, v⟩ := h
  exact t.keep42 k hB
theorem DPost.of_drew {w : World} {g : Nat} {lim : Int} {sv rv rv' : Value} {w' : World} (h : DPost w.drew g lim sv rv rv' w') : DPost w g lim sv rv rv' w' := by
  obtain ⟨L', sv', R', t, k, o, v⟩ := h
  exact ⟨L', sv', R', t, k.of_drew, o, v⟩

/-- between a call and its list's coming into the law's own place -/
structure Mid (H Br Bw : Nat) (lim : Int) (w : World) (g : Nat) (L : List Ev) (sv : Value) (R : List Ev) (A : Option Addr) (n c : Nat) (bv : Value) (A2 : Option Addr) (n2 c2 : Nat) (ov : Value) : Prop where
  two : Two w g lim L sv R (.slice A n c)
  len : R.length = n
  hg : H ≤ g
  hs : ∀ k, sv.ownBlock = some k → H ≤ k
  br : w.heap[Br]? = some (.cells #[.int .i64 lim, bv] 42 (0, 0))
  bw : w.heap[Bw]? = some (.cells #[.int .i64 lim, .slice A2 n2 c2] 42 (0, 0))
  old : ov = .pointer none ∨ ∃ go Lo so Ro, ov = .pointer (some ⟨go, 0, none⟩) ∧ Two w go lim Lo so Ro (.slice A2 n2 c2) ∧ Ro.length = n2 ∧ H ≤ go ∧ (∀ k, so.ownBlock = some k → H ≤ k) ∧ g ≠ go ∧ NeOwn sv so ∧ NeOwn sv (.slice A2 n2 c2)

theorem Two.set42 {w w' : World} {g T : Nat} {lim : Int} {L R : List Ev} {sv rv : Value} (t : Two w g lim L sv R rv) (hk : Kp (fun k => k = T) w w') (hT : w.heap.size ≤ T ∨ ∃ cs, w.heap[T]? = some (.cells cs 42 (0, 0))) : Two w' g lim L sv R rv := by
  refine t.kp hk ?_ ?_ ?_
  · intro e
    rcases hT with h | ⟨cs, h⟩
    · have := t.q.lt; omega
    · have e2 : g = T := e
      subst e2
      have := h.symm.trans t.q.1
      injection this with this; injection this with _ t; exact absurd t (by decide)
  · rintro k hk1 rfl
    rcases hT with h | ⟨cs, h⟩
    · have := t.q.own_lt hk1; omega
    · exact own_ne_blk t.q.2 h (by decide) hk1.symm
  · rintro k hk1 rfl
    rcases hT with h | ⟨cs, h⟩
    · have := t.r.lt k hk1; omega
    · exact own_ne_blk t.r h (by decide) hk1.symm

theorem Mid.set {H Br Bw T : Nat} {lim : Int} {w w' : World} {g : Nat} {L : List Ev} {sv : Value} {R : List Ev} {A : Option Addr} {n c : Nat} {bv : Value} {A2 : Option Addr} {n2 c2 : Nat} {ov : Value} (h : Mid H Br Bw lim w g L sv R A n c bv A2 n2 c2 ov)
    (hk : Kp (fun k => k = T) w w') (hT : w.heap.size ≤ T ∨ ∃ cs, w.heap[T]? = some (.cells cs 42 (0, 0))) (h1 : Br ≠ T) (h2 : Bw ≠ T) : Mid H Br Bw lim w' g L sv R A n c bv A2 n2 c2 ov := by
  refine ⟨h.two.set42 hk hT, h.len, h.hg, h.hs, hk.blk h.br h1, hk.blk h.bw h2, ?_⟩
  rcases h.old with e | ⟨go, Lo, so, Ro, e, t, r⟩
  · exact .inl e
  · exact .inr ⟨go, Lo, so, Ro, e, t.set42 hk hT, r⟩
theorem Mid.drewN {H Br Bw : Nat} {lim : Int} {w : World} {g : Nat} {L : List Ev} {sv : Value} {R : List Ev} {A : Option Addr} {n c : Nat} {bv : Value} {A2 : Option Addr} {n2 c2 : Nat} {ov : Value} (h : Mid H Br Bw lim w g L sv R A n c bv A2 n2 c2 ov) (m : Nat) : Mid H Br Bw lim (w.drewN m) g L sv R A n c bv A2 n2 c2 ov := by
  refine ⟨⟨h.two.q, h.two.r, h.two.c, h.two.ne, h.two.le⟩, h.len, h.hg, h.hs, h.br, h.bw, ?_⟩
  rcases h.old with e | ⟨go, Lo, so, Ro, e, t, r⟩
  · exact .inl e
  · exact .inr ⟨go, Lo, so, Ro, e, ⟨t.q, t.r, t.c, t.ne, t.le⟩, r⟩
/-- the list comes into its place -/
theorem Mid.done {H Br Bw : Nat} {lim : Int} {w : World} {g : Nat} {L : List Ev} {sv : Value} {R : List Ev} {A : Option Addr} {n c : Nat} {bv : Value} {A2 : Option Addr} {n2 c2 : Nat} {ov : Value} (h : Mid H Br Bw lim w g L sv R A n c bv A2 n2 c2 ov) (hne : Br ≠ Bw) :
    PSt H Br Bw lim ((w.setCell ⟨Br, 0, none⟩ (.int .i64 lim)).setCell ⟨Br, 1, none⟩ (.slice A n c)) g L sv R A n c A2 n2 c2 ov := by
  have hks : Kp (fun k => k = Br) w ((w.setCell ⟨Br, 0, none⟩ (.int .i64 lim)).setCell ⟨Br, 1, none⟩ (.slice A n c)) := ((Kp.refl (fun k => k = Br) w).setCell (p := ⟨Br, 0, none⟩) (.inl rfl) _).setCell (p := ⟨Br, 1, none⟩) (.inl rfl) _
  refine ⟨h.two.set42 hks (.inr ⟨_, h.br⟩), h.len, h.hg, h.hs, res_done h.br, hks.blk h.bw (fun e => hne e.symm), ?_⟩
  rcases h.old with e | ⟨go, Lo, so, Ro, e, t, r⟩
  · exact .inl e
  · exact .inr ⟨go, Lo, so, Ro, e, t.set42 hks (.inr ⟨_, h.br⟩), r⟩
/-- a call on both sides -/
theorem PSt.mid {H Br Bw : Nat} {lim : Int} {w w0 w' : World} {g : Nat} {L : List Ev} {sv : Value} {R : List Ev} {A : Option Addr} {n c : Nat} {A2 : Option Addr} {n2 c2 : Nat} {ov : Value} (h : PSt H Br Bw lim w0 g L sv R A n c A2 n2 c2 ov)
    (hb : Below w0.heap.size w0 w) (hH : H ≤ w0.heap.size) {A1 : Option Addr} {n1 c1 : Nat} (hd : DPost w g lim sv (.slice A n c) (.slice A1 n1 c1) w') :
    (∃ L' sv' R', Mid H Br Bw lim w' g L' sv' R' A1 n1 c1 (.slice A n c) A2 n2 c2 ov) ∧ Below H w0 w' := by
  obtain ⟨L', sv', R', hT, hk, ho, hv⟩ := hd
  have htw := h.two.below hb
  have hbr := htw.keep42 hk ((hb.block _ (Array.getElem?_eq_some_iff.1 h.br).1).trans h.br)
  have hbw := htw.keep42 hk ((hb.block _ (Array.getElem?_eq_some_iff.1 h.bw).1).trans h.bw)
  have hsz := hb.size
  refine ⟨⟨L', sv', R', hT, ?_, h.hg, ?_, hbr, hbw, ?_⟩, ?_⟩
  · obtain ⟨Ax, cx, e, _⟩ := hT.r.rd
    injection e with _ e2 _
    exact e2.symm
  · intro k hk1
    rcases ho with e | ⟨k', e, e2⟩
    · exact h.hs k (e.symm.trans hk1)
    · rw [e] at hk1; injection hk1 with hk1; omega
  · rcases h.old with e | ⟨go, Lo, so, Ro, e, t, r1, r2, r3, r4, r5, r6⟩
    · exact .inl e
    · have hnew : ∀ {v0 : Value}, (∀ k, v0.ownBlock = some k → k < w0.heap.size) → NeOwn sv v0 → NeOwn sv' v0 := by
        intro v0 hlt hn k hk1 hk2
        rcases ho with e | ⟨k', e, e2⟩
        · exact hn k (e.symm.trans hk1) hk2
        · rw [e] at hk1; injection hk1 with hk1
          have := hlt k hk2; omega
      exact .inr ⟨go, Lo, so, Ro, e, htw.keepTwo hk (t.below hb) r4 r5 r6, r1, r2, r3, r4, hnew (fun k hk1 => t.q.own_lt hk1) r5, hnew t.r.lt r6⟩
  · have hkk : Kp (qb g sv) w0 w' := (Kp.of_below hb _).trans hk
    exact ⟨hkk.os, hkk.tape, hkk.output, hkk.size, fun k hk1 => hkk.block k (by omega) (by
      rintro (e | e)
      · have := h.hg; omega
      · have := h.hs k e; omega)⟩
theorem Mid.drew {H Br Bw : Nat} {lim : Int} {w : World} {g : Nat} {L : List Ev} {sv : Value} {R : List Ev} {A : Option Addr} {n c : Nat} {bv : Value} {A2 : Option Addr} {n2 c2 : Nat} {ov : Value} (h : Mid H Br Bw lim w g L sv R A n c bv A2 n2 c2 ov) : Mid H Br Bw lim w.drew g L sv R A n c bv A2 n2 c2 ov := by
  refine ⟨⟨h.two.q, h.two.r, h.two.c, h.two.ne, h.two.le⟩, h.len, h.hg, h.hs, h.br, h.bw, ?_⟩
  rcases h.old with e | ⟨go, Lo, so, Ro, e, t, r⟩
  · exact .inl e
  · exact .inr ⟨go, Lo, so, Ro, e, ⟨t.q, t.r, t.c, t.ne, t.le⟩, r⟩
theorem Mid.setTo {H Br Bw T : Nat} {lim : Int} {w : World} {g : Nat} {L : List Ev} {sv : Value} {R : List Ev} {A : Option Addr} {n c : Nat} {bv : Value} {A2 : Option Addr} {n2 c2 : Nat} {ov u0 u1 : Value} (h : Mid H Br Bw lim w g L sv R A n c bv A2 n2 c2 ov) {w0 wr : World}
    (hT : w.heap[T]? = some (.cells #[u0, u1] 42 (0, 0))) (h1 : Br ≠ T) (h2 : Bw ≠ T) (hb0 : Below H w0 wr) (hb : Below H wr w) (hHT : H ≤ T) :
    Mid H Br Bw lim ((w.setCell ⟨T, 0, none⟩ (.int .i64 lim)).setCell ⟨T, 1, none⟩ (.slice A n c)) g L sv R A n c bv A2 n2 c2 ov ∧
    ((w.setCell ⟨T, 0, none⟩ (.int .i64 lim)).setCell ⟨T, 1, none⟩ (.slice A n c)).heap[T]? = some (.cells #[.int .i64 lim, .slice A n c] 42 (0, 0)) ∧
    Below H w0 ((w.setCell ⟨T, 0, none⟩ (.int .i64 lim)).setCell ⟨T, 1, none⟩ (.slice A n c)) :=
  ⟨h.set (((Kp.refl (fun k => k = T) w).setCell (p := ⟨T, 0, none⟩) (.inl rfl) _).setCell (p := ⟨T, 1, none⟩) (.inl rfl) _) (.inr ⟨_, hT⟩) h1 h2, res_done hT,
   (((hb0.trans hb).setCell (p := ⟨T, 0, none⟩) hHT _).setCell (p := ⟨T, 1, none⟩) hHT _)⟩
theorem Mid.allocTo {H Br Bw : Nat} {lim : Int} {w : World} {g : Nat} {L : List Ev} {sv : Value} {R : List Ev} {A : Option Addr} {n c : Nat} {bv : Value} {A2 : Option Addr} {n2 c2 : Nat} {ov : Value} (h : Mid H Br Bw lim w g L sv R A n c bv A2 n2 c2 ov) {w0 wr : World}
    (hb0 : Below H w0 wr) (hb : Below H wr w) (hH : H ≤ w.heap.size) :
    Mid H Br Bw lim (w.alloc (.cells #[.int .i64 lim, .slice A n c] 42)) g L sv R A n c bv A2 n2 c2 ov ∧
    (w.alloc (.cells #[.int .i64 lim, .slice A n c] 42)).heap[w.heap.size]? = some (.cells #[.int .i64 lim, .slice A n c] 42 (0, 0)) ∧
    Below H w0 (w.alloc (.cells #[.int .i64 lim, .slice A n c] 42)) := by
  have hbA : Below w.heap.size w (w.alloc (.cells #[.int .i64 lim, .slice A n c] 42)) := (Below.refl _ _).alloc (Nat.le_refl _) _
  have h1 := (Array.getElem?_eq_some_iff.1 h.br).1
  have h2 := (Array.getElem?_eq_some_iff.1 h.bw).1
  exact ⟨h.set (T := w.heap.size) ((Kp.of_below hbA _)) (.inl (Nat.le_refl _)) (by omega) (by omega), heap_alloc_new _ _, (hb0.trans hb).trans (hbA.mono hH)⟩
theorem Mid.len2 {H Br Bw : Nat} {lim : Int} {w : World} {g : Nat} {L : List Ev} {sv : Value} {R : List Ev} {A : Option Addr} {n c : Nat} {bv : Value} {A2 : Option Addr} {n2 c2 : Nat} {ov : Value} (h : Mid H Br Bw lim w g L sv R A n c bv A2 n2 c2 ov) : L.length = n := h.two.c.len.symm.trans h.len
theorem PSt.cut {H Br Bw : Nat} {lim : Int} {w : World} {g : Nat} {L : List Ev} {sv : Value} {R : List Ev} {A : Option Addr} {n c : Nat} {A2 : Option Addr} {n2 c2 : Nat} {ov : Value} (h : PSt H Br Bw lim w g L sv R A n c A2 n2 c2 ov) (hne : Br ≠ Bw) :
    Two ((w.setCell ⟨Bw, 0, none⟩ (.int .i64 lim)).setCell ⟨Bw, 1, none⟩ (.slice A n c)) g lim L sv R (.slice A n c) ∧
    ((w.setCell ⟨Bw, 0, none⟩ (.int .i64 lim)).setCell ⟨Bw, 1, none⟩ (.slice A n c)).heap[Br]? = some (.cells #[.int .i64 lim, .slice A n c] 42 (0, 0)) ∧
    ((w.setCell ⟨Bw, 0, none⟩ (.int .i64 lim)).setCell ⟨Bw, 1, none⟩ (.slice A n c)).heap[Bw]? = some (.cells #[.int .i64 lim, .slice A n c] 42 (0, 0)) := by
  have hks : Kp (fun k => k = Bw) w ((w.setCell ⟨Bw, 0, none⟩ (.int .i64 lim)).setCell ⟨Bw, 1, none⟩ (.slice A n c)) := ((Kp.refl (fun k => k = Bw) w).setCell (p := ⟨Bw, 0, none⟩) (.inl rfl) _).setCell (p := ⟨Bw, 1, none⟩) (.inl rfl) _
  refine ⟨h.two.kp hks ?_ ?_ ?_, hks.blk h.br hne, res_done h.bw⟩
  · rintro rfl
    have := h.bw.symm.trans h.two.q.1
    injection this with this; injection this with _ t; exact absurd t (by decide)
  · rintro k hk1 rfl; exact own_ne_blk h.two.q.2 h.bw (by decide) hk1.symm
  · rintro k hk1 rfl; exact own_ne_blk h.two.r h.bw (by decide) hk1.symm

theorem PSt.copied {H Br Bw : Nat} {lim : Int} {w w' : World} {g g' : Nat} {L : List Ev} {sv sv' : Value} {R : List Ev} {A : Option Addr} {n c : Nat} (ht : Two w g lim L sv R (.slice A n c)) (hbr : w.heap[Br]? = some (.cells #[.int .i64 lim, .slice A n c] 42 (0, 0))) (hbw : w.heap[Bw]? = some (.cells #[.int .i64 lim, .slice A n c] 42 (0, 0)))
    (hlen : R.length = n) (hg : H ≤ g) (hs : ∀ k, sv.ownBlock = some k → H ≤ k) (hH : H ≤ w.heap.size) (hg' : w.heap.size ≤ g') (hq : QS w' g' lim L sv') (hn : ∀ k, sv'.ownBlock = some k → w.heap.size ≤ k) (hb : Below w.heap.size w w') :
    PSt H Br Bw lim w' g' L sv' R A n c A n c (.pointer (some ⟨g, 0, none⟩)) := by
  have ht' := ht.below hb
  have hgl := ht.q.lt
  have hnr : NeOwn sv' (.slice A n c) := fun k h1 h2 => by have := hn k h1; have := ht.r.lt k h2; omega
  refine ⟨⟨hq, ht'.r, ht'.c, hnr, ht'.le⟩, hlen, by omega, fun k hk => by have := hn k hk; omega, (hb.block _ (Array.getElem?_eq_some_iff.1 hbr).1).trans hbr, (hb.block _ (Array.getElem?_eq_some_iff.1 hbw).1).trans hbw, ?_⟩
  exact .inr ⟨g, L, sv, R, rfl, ht', hlen, hg, hs, by omega, fun k h1 h2 => by have := hn k h1; have := ht.q.own_lt h2; omega, hnr⟩

set_option maxRecDepth 100000 in
set_option maxHeartbeats 4000000 in
theorem plays_any (lim : Int) (A : Option Addr) (n c : Nat) (zs : List OpC) (w : World) (hz : zs.length = n) (hA : OpsAt w A zs) :
    Calls Try.prog 6 #[.int .i64 lim, .slice A n c] w fun e w' => e = .returned (.bool true) ∧ Below w.heap.size w w' := by
  have HZ := Lib.hid hz
  have HA := Lib.hid hA
  clear hz hA
  by_cases hbad : lim < 1 ∨ 4096 < lim
  · have hrn := fun w => rnew_any lim w
    rw [if_pos hbad, if_pos hbad] at hrn
    have Hrn := Lib.hid hrn
    have hnb := new_bad lim w hbad
    have Hnb := Lib.hid hnb
    clear hrn hnb hbad
    go_enter Try.func6, Try.ntmps6
    go_wp2_with fail
    have hnb := Hnb.out
    with_reducible refine hnb.mono ?_
    clear hnb
    rintro e w1 ⟨rfl, hb1⟩
    go_wp2_with fail
    have hrn := Hrn.out w1
    with_reducible refine hrn.mono ?_
    clear hrn
    rintro e w2 ⟨rfl, hb2⟩
    have hb3 : Below w.heap.size w (w2.alloc (.cells #[.int .i64 0, .slice none 0 0] 42)) := (hb1.trans (hb2.mono hb1.size)).alloc (Nat.le_trans hb1.size hb2.size) _
    have Hb3 := Lib.hid hb3
    clear hb1 hb2 hb3
    go_wp2_with fail
    have haw := awake_any (w2.alloc (.cells #[.int .i64 0, .slice none 0 0] 42))
    with_reducible refine haw.mono ?_
    clear haw
    rintro e w3 ⟨rfl, hb4⟩
    go_wp2
    go_ret
    exact ⟨rfl, Hb3.out.trans (hb4.mono Hb3.out.size)⟩
  · have hrn := fun w => rnew_any lim w
    rw [if_neg hbad, if_neg hbad] at hrn
    have Hrn := Lib.hid hrn
    have hl1 : 1 ≤ lim := by omega
    have hl2 : lim ≤ 4096 := by omega
    have hnb := new_any lim w hl1 hl2
    have Hnb := Lib.hid hnb
    clear hrn hnb hbad
    go_enter Try.func6, Try.ntmps6
    go_wp2_with fail
    have hnb := Hnb.out
    with_reducible refine hnb.mono ?_
    clear hnb Hnb
    rintro e w1 ⟨g, rfl, hg, hq1, hb1⟩
    go_wp2_with fail
    have hrn := Hrn.out w1
    with_reducible refine hrn.mono ?_
    clear hrn Hrn
    rintro e w2 ⟨rfl, hb2⟩
    have hq2 := hq1.below hb2
    have Hq2 := Lib.hid hq2
    have Hb2 := Lib.hid (hb1.trans (hb2.mono hb1.size))
    have hglt := hq2.lt
    clear hq1 hq2 hb1 hb2
    go_wp2
    have hbx := boxes2 w2 #[.int .i64 lim, .slice none 0 0] #[.int .i64 lim, .slice none 0 0] 42 42
    obtain ⟨k1, k2, k3, k4⟩ := hbx
    have hP0 : PSt w.heap.size w2.heap.size (w2.heap.size + 1) lim ((w2.alloc (.cells #[.int .i64 lim, .slice none 0 0] 42)).alloc (.cells #[.int .i64 lim, .slice none 0 0] 42)) g [] (.slice none 0 0) [] none 0 0 none 0 0 (.pointer none) :=
      ⟨⟨Hq2.out.below k1, ⟨rfl, .inl ⟨rfl, rfl⟩⟩, Cpl.nil, fun k h => by simp [Value.ownBlock] at h, by simp; omega⟩, rfl, hg, fun k h => by simp [Value.ownBlock] at h, k3, k4, .inl rfl⟩
    have HP0 := Lib.hid hP0
    have hB0 := Hb2.out.trans (k1.mono Hb2.out.size)
    have HB0 := Lib.hid hB0
    have hw20 : Hid (w.heap.size ≤ w2.heap.size) := Hb2.out.size
    clear hP0 hB0 k1 k3 k4
    generalize ((w2.alloc (.cells #[.int .i64 lim, .slice none 0 0] 42)).alloc (.cells #[.int .i64 lim, .slice none 0 0] 42)) = W at *
    have hne : w2.heap.size ≠ w2.heap.size + 1 := by omega
    clear hglt hg
    go_loopw [5, 9, 11] (fun qv ov iv wr => ∃ (i : Nat) (g : Nat) (L : List Ev) (sv : Value) (R : List Ev) (A1 : Option Addr) (n1 c1 : Nat) (A2 : Option Addr) (n2 c2 : Nat) (o1 : Value), qv = .pointer (some ⟨g, 0, none⟩) ∧ o1 = ov ∧ iv = .int .i64 i ∧ i ≤ n ∧ i ≤ 500 ∧ Hid (PSt w.heap.size w2.heap.size (w2.heap.size + 1) lim wr g L sv R A1 n1 c1 A2 n2 c2 o1) ∧ Hid (Below w.heap.size w wr)) (fun _ _ iv _ => n - (intOf iv).toNat)
    case atStart => exact ⟨0, g, [], _, [], none, 0, 0, none, 0, 0, _, rfl, rfl, rfl, Nat.zero_le _, Nat.zero_le _, HP0, HB0⟩
    case round =>
      clear HP0 HB0 Hq2 Hb2 k2
      obtain ⟨i, g, L, sv, R, A1, n1, c1, A2, n2, c2, o1, rfl, rfl, rfl, hi, hi5, HP, HB⟩ := hrel
      have y0 := blk_cell HP.out.br 0
      have y1 := blk_cell HP.out.br 1
      have yf0 := blk_frozen HP.out.br 0
      have yf1 := blk_frozen HP.out.br 1
      have z0 := blk_cell HP.out.bw 0
      have z1 := blk_cell HP.out.bw 1
      have zf0 := blk_frozen HP.out.bw 0
      have zf1 := blk_frozen HP.out.bw 1
      by_cases hlt : i < n ∧ i < 500
      · obtain ⟨hlt, hlt5⟩ := hlt
        obtain ⟨b, o, rfl, hbl, hx⟩ := (HA.out.below HB.out) (by rw [HZ.out]; omega)
        obtain ⟨x0, x1, x2, x3, x4, x5, x6⟩ := hx i (by rw [HZ.out]; exact hlt)
        obtain ⟨x, hxx⟩ : ∃ x, zs.getD i default = x := ⟨_, rfl⟩
        rw [hxx] at x0 x1 x2 x3 x4 x5 x6
        clear hx hxx
        by_cases h5 : x.k = 5
        · rw [h5] at x0
          clear x1 x2 x3 x4 x5 x6
          have hcut := HP.out.cut hne
          have Hcut := Lib.hid hcut
          have hcp := copy_any g lim L sv _ (by omega) hcut.1.le hl2 hcut.1.q
          have Hcp := Lib.hid hcp
          clear hcut hcp
          go_wp2_with fail
          have hcp := Hcp.out
          with_reducible refine hcp.mono ?_
          clear hcp Hcp
          rintro e w5 ⟨g5, sv5, rfl, hg5, hq5, hn5, hb5⟩
          have hsz : w.heap.size ≤ wr.heap.size := HB.out.size
          have hH : w.heap.size ≤ ((wr.setCell ⟨w2.heap.size + 1, 0, none⟩ (.int .i64 lim)).setCell ⟨w2.heap.size + 1, 1, none⟩ (.slice A1 n1 c1)).heap.size := by simpa [World.setCell] using hsz
          have hP5 := PSt.copied Hcut.out.1 Hcut.out.2.1 Hcut.out.2.2 HP.out.len HP.out.hg HP.out.hs hH hg5 hq5 hn5 hb5
          have HP5 := Lib.hid hP5
          have hw2 : Hid (w.heap.size ≤ w2.heap.size + 1) := Nat.le_succ_of_le hw20.out
          have hB5 : Below w.heap.size w w5 := (((HB.out.setCell (p := ⟨w2.heap.size + 1, 0, none⟩) hw2.out (.int .i64 lim)).setCell (p := ⟨w2.heap.size + 1, 1, none⟩) hw2.out (.slice A1 n1 c1))).trans (hb5.mono hH)
          have HB5 := Lib.hid hB5
          clear hP5 hB5 hq5 hn5 hb5 hg5 y0 y1 yf0 yf1 z0 z1 zf0 zf1 x0 hH hsz
          go_wp2
          go_roundw
          case rel => exact ⟨i + 1, g5, L, sv5, R, A1, n1, c1, A1, n1, c1, _, rfl, rfl, by go_num, by omega, by omega, HP5, HB5⟩
          case measure => simp [intOf]; omega
        · have hb5 : (x.k == 5) = false := by simpa using h5
          have hba : Below wr.heap.size wr (wr.alloc (.cells #[.int .i64 0, .slice none 0 0] 42)) := (Below.refl _ _).alloc (Nat.le_refl _) _
          have hdo := does_any g lim x.k x.e.t x.e.n x.e.f x.e.s x.e.v x.e.a L R sv A1 n1 c1 (wr.alloc (.cells #[.int .i64 0, .slice none 0 0] 42)).drew (by omega) hl2 (HP.out.two.below hba).drew HP.out.len
          have Hdo := Lib.hid hdo
          have hal := heap_alloc_new wr (.cells #[.int .i64 0, .slice none 0 0] 42)
          have Hal := Lib.hid hal
          have Hba := Lib.hid hba
          clear hdo h5 hba hal
          go_wp2_with fail
          have hdo2 := does_any g lim x.k x.e.t x.e.n x.e.f x.e.s x.e.v x.e.a L R sv A1 n1 c1 wr.drew (by omega) hl2 HP.out.two.drew HP.out.len
          have Hdo2 := Lib.hid hdo2
          have hHr : Hid (w.heap.size ≤ wr.heap.size) := HB.out.size
          clear hdo2
          have hbrl : w2.heap.size < wr.heap.size := (Array.getElem?_eq_some_iff.1 HP.out.br).1
          have ya0 := (Hba.out.cell (p := ⟨w2.heap.size, 0, none⟩) hbrl).trans y0
          have ya1 := (Hba.out.cell (p := ⟨w2.heap.size, 1, none⟩) hbrl).trans y1
          have xa0 := (Hba.out.cell (p := ⟨b, o + i * 7, none⟩) hbl).trans x0
          have xa1 := (Hba.out.cell (p := ⟨b, o + i * 7 + 1, none⟩) hbl).trans x1
          have xa2 := (Hba.out.cell (p := ⟨b, o + i * 7 + 2, none⟩) hbl).trans x2
          have xa3 := (Hba.out.cell (p := ⟨b, o + i * 7 + 3, none⟩) hbl).trans x3
          have xa4 := (Hba.out.cell (p := ⟨b, o + i * 7 + 4, none⟩) hbl).trans x4
          have xa5 := (Hba.out.cell (p := ⟨b, o + i * 7 + 5, none⟩) hbl).trans x5
          have xa6 := (Hba.out.cell (p := ⟨b, o + i * 7 + 6, none⟩) hbl).trans x6
          go_region_with (go_at_call 16; first | (have hdo := Hdo.out; with_reducible refine hdo.mono ?_; clear hdo; rintro e w5 ⟨rv5, rfl, hd5⟩; obtain ⟨A5, n5, c5, rfl⟩ := hd5.form; have hd6 := hd5.of_drew; have ht5 := hd6.keep42 (HP.out.two.below Hba.out) Hal.out; have t0 := (blk_cell ht5 0); have t1 := (blk_cell ht5 1); have tf0 := (blk_frozen ht5 0); have tf1 := (blk_frozen ht5 1); have Ht5 := (Lib.hid ht5); have hm := HP.out.mid Hba.out hHr.out hd6; have Hm := (Lib.hid hm); clear hd5 hd6 ht5 hm) | (have hdo := Hdo2.out; with_reducible refine hdo.mono ?_; clear hdo; rintro e w5 ⟨rv5, rfl, hd5⟩; obtain ⟨A5, n5, c5, rfl⟩ := hd5.form; have hd6 := hd5.of_drew; have hm := HP.out.mid (Below.refl _ _) hHr.out hd6; have Hm := (Lib.hid hm); clear hd5 hd6 hm))
          all_goals
            clear y0 y1 yf0 yf1 z0 z1 zf0 zf1 x0 x1 x2 x3 x4 x5 x6 ya0 ya1 xa0 xa1 xa2 xa3 xa4 xa5 xa6
            go_wp2_with fail
            obtain ⟨⟨L5, sv5, R5, hmid⟩, hbel⟩ := Hm.out
            have hl5 := hmid.len2
            subst hl5
            have hHr2 := hHr.out
            have hbwl : w2.heap.size + 1 < wr.heap.size := (Array.getElem?_eq_some_iff.1 HP.out.bw).1
            first
              | (have hto := hmid.setTo Ht5.out (show w2.heap.size ≠ wr.heap.size by omega) (show w2.heap.size + 1 ≠ wr.heap.size by omega) HB.out hbel hHr2
                 generalize ((w5.setCell ⟨wr.heap.size, 0, none⟩ (.int .i64 lim)).setCell ⟨wr.heap.size, 1, none⟩ (.slice A5 L5.length c5)) = w6 at *)
              | (have hto := hmid.allocTo HB.out hbel (Nat.le_trans hHr2 hbel.size)
                 generalize (w5.alloc (.cells #[.int .i64 lim, .slice A5 L5.length c5] 42)) = w6 at *)
            refine still_tail_of 9 (by kernel_rfl) (by kernel_rfl) (fun w3 => Mid w.heap.size w2.heap.size (w2.heap.size + 1) lim w3 g L5 sv5 R5 A5 L5.length c5 (.slice A1 n1 c1) A2 n2 c2 o1 ∧ w3.heap = w6.heap ∧ Below w.heap.size w w3) ⟨hto.1.drew, rfl, hto.2.2.drew⟩ ?_
            rintro w7 ⟨hm7, hh7, hb7⟩
            simp only [List.take_succ_cons, List.take_zero, List.drop_succ_cons, List.drop_zero]
            have ht7 := (congrArg (fun h => h[_]?) hh7).trans hto.2.1
            have c0 := blk_cell ht7 0
            have c1' := blk_cell ht7 1
            have y0 := blk_cell hm7.br 0
            have y1 := blk_cell hm7.br 1
            have yf0 := blk_frozen hm7.br 0
            have yf1 := blk_frozen hm7.br 1
            have hql := (qlen_any g lim L5 sv5 w7 (by omega) hm7.two.q).mono (fun _ _ h => And.intro h.1 h.2.symm)
            have Hm7 := Lib.hid hm7
            have Hb7 := Lib.hid hb7
            have Hql := Lib.hid hql
            clear hto hmid hbel hm7 hh7 hb7 ht7 hql
            repeat (first | still_step | still_call (Hql.out))
            refine wpStill_nil ?_
            have hne9 : (((L5.length : Nat) : Int) != ((L5.length : Nat) : Int)) = false := by simp
            go_wp2
            go_roundw
            case rel => exact ⟨i + 1, g, L5, sv5, R5, A5, L5.length, c5, A2, n2, c2, o1, rfl, rfl, by go_num, by omega, by omega, Hm7.out.done hne, ((Hb7.out.setCell (p := ⟨w2.heap.size, 0, none⟩) hw20.out (.int .i64 lim)).setCell (p := ⟨w2.heap.size, 1, none⟩) hw20.out (.slice A5 L5.length c5))⟩
            case measure => simp [intOf]; omega
      · have hex : ¬ (i < n ∧ i < 500) := hlt
        have hdr := drained_any g lim lim L R sv A1 n1 c1 wr (by omega) HP.out.two.le hl2 HP.out.two.q HP.out.two.c HP.out.two.r HP.out.len HP.out.two.ne
        have Hdr := Lib.hid hdr
        have hHr : Hid (w.heap.size ≤ wr.heap.size) := HB.out.size
        clear hdr zf0 zf1 yf0 yf1 z0 z1
        have hfin : ∀ w5, Kp (qb g sv) wr w5 → Below w.heap.size w w5 := fun w5 hk => HB.out.trans ⟨hk.os, hk.tape, hk.output, hk.size, fun k hk1 => hk.block k (by have := hHr.out; omega) (by
          rintro (e | e)
          · have := HP.out.hg; omega
          · have := HP.out.hs k e; omega)⟩
        have Hfin := Lib.hid hfin
        clear hfin
        have hge : Hid (n ≤ i ∨ (i = 500 ∧ 500 < n)) := by show _ ∨ _; omega
        have hold := HP.out.old
        rcases hold with e | ⟨go, Lo, so, Ro, e, t, r1, r2, r3, r4, r5, r6⟩
        · subst e
          clear hlt hex
          rcases hge.out with hd1 | ⟨h, hd1⟩
          · skip
            go_wp2_with fail
            have hdr := Hdr.out
            with_reducible refine hdr.mono ?_
            clear hdr
            rintro e w5 ⟨rfl, hk5⟩
            have Hk5 := Lib.hid hk5
            clear hk5
            go_wp2_with fail
            have haw := awake_any w5
            with_reducible refine haw.mono ?_
            clear haw
            rintro e w6 ⟨rfl, hb6⟩
            go_wp2
            go_ret
            have := Hfin.out w5 Hk5.out
            exact ⟨rfl, this.trans (hb6.mono this.size)⟩
          · subst h
            go_wp2_with fail
            have hdr := Hdr.out
            with_reducible refine hdr.mono ?_
            clear hdr
            rintro e w5 ⟨rfl, hk5⟩
            have Hk5 := Lib.hid hk5
            clear hk5
            go_wp2_with fail
            have haw := awake_any w5
            with_reducible refine haw.mono ?_
            clear haw
            rintro e w6 ⟨rfl, hb6⟩
            go_wp2
            go_ret
            have := Hfin.out w5 Hk5.out
            exact ⟨rfl, this.trans (hb6.mono this.size)⟩
        · subst e
          have HT := Lib.hid t
          have HR1 := Lib.hid r1
          have HR2 := Lib.hid r2
          have HR3 := Lib.hid r3
          have HR4 := Lib.hid r4
          have HR5 := Lib.hid r5
          have HR6 := Lib.hid r6
          clear hlt hex t r1 r2 r3 r4 r5 r6
          rcases hge.out with hd1 | ⟨h, hd1⟩
          · skip
            go_wp2_with fail
            have hdr := Hdr.out
            with_reducible refine hdr.mono ?_
            clear hdr
            rintro e w5 ⟨rfl, hk5⟩
            have ht5 := HP.out.two.keepTwo hk5 HT.out HR4.out HR5.out HR6.out
            have hbw5 := HP.out.two.keep42 hk5 HP.out.bw
            have z0 := blk_cell hbw5 0
            have z1 := blk_cell hbw5 1
            have hdr := drained_any go lim lim Lo Ro so A2 n2 c2 w5 (by omega) ht5.le hl2 ht5.q ht5.c ht5.r HR1.out ht5.ne
            have Hdr2 := Lib.hid hdr
            have Hk5 := Lib.hid hk5
            clear hk5 hdr ht5 hbw5
            go_wp2_with fail
            have hdr := Hdr2.out
            with_reducible refine hdr.mono ?_
            clear hdr
            rintro e w7 ⟨rfl, hk7⟩
            have Hk7 := Lib.hid hk7
            clear hk7
            go_wp2_with fail
            have haw := awake_any w7
            with_reducible refine haw.mono ?_
            clear haw
            rintro e w6 ⟨rfl, hb6⟩
            go_wp2
            go_ret
            have h1 := Hfin.out w5 Hk5.out
            have h2 : Below w.heap.size w5 w7 := ⟨Hk7.out.os, Hk7.out.tape, Hk7.out.output, Hk7.out.size, fun k hk1 => Hk7.out.block k (by have := h1.size; omega) (by
              rintro (e | e)
              · have := HR2.out; omega
              · have := HR3.out k e; omega)⟩
            have h3 := h1.trans h2
            exact ⟨rfl, h3.trans (hb6.mono h3.size)⟩
          · subst h
            go_wp2_with fail
            have hdr := Hdr.out
            with_reducible refine hdr.mono ?_
            clear hdr
            rintro e w5 ⟨rfl, hk5⟩
            have ht5 := HP.out.two.keepTwo hk5 HT.out HR4.out HR5.out HR6.out
            have hbw5 := HP.out.two.keep42 hk5 HP.out.bw
            have z0 := blk_cell hbw5 0
            have z1 := blk_cell hbw5 1
            have hdr := drained_any go lim lim Lo Ro so A2 n2 c2 w5 (by omega) ht5.le hl2 ht5.q ht5.c ht5.r HR1.out ht5.ne
            have Hdr2 := Lib.hid hdr
            have Hk5 := Lib.hid hk5
            clear hk5 hdr ht5 hbw5
            go_wp2_with fail
            have hdr := Hdr2.out
            with_reducible refine hdr.mono ?_
            clear hdr
            rintro e w7 ⟨rfl, hk7⟩
            have Hk7 := Lib.hid hk7
            clear hk7
            go_wp2_with fail
            have haw := awake_any w7
            with_reducible refine haw.mono ?_
            clear haw
            rintro e w6 ⟨rfl, hb6⟩
            go_wp2
            go_ret
            have h1 := Hfin.out w5 Hk5.out
            have h2 : Below w.heap.size w5 w7 := ⟨Hk7.out.os, Hk7.out.tape, Hk7.out.output, Hk7.out.size, fun k hk1 => Hk7.out.block k (by have := h1.size; omega) (by
              rintro (e | e)
              · have := HR2.out; omega
              · have := HR3.out k e; omega)⟩
            have h3 := h1.trans h2
            exact ⟨rfl, h3.trans (hb6.mono h3.size)⟩
end Go.Proofs.Ytebcbjmdkbmnkaa
