/- The walk of EventCopies: it returns true for every list of times and every number taken. -/
import Derived.Test.YtebcbjmdkbmnkaaEvMine
import Derived.Laws.StructEq
namespace Go.Proofs.Ytebcbjmdkbmnkaa
set_option linter.unusedVariables false
set_option linter.unusedSimpArgs false
open Go.RowKit

theorem eq30 (x : Ev) (d : Nat) (w : World) : (Op.equalIn (d + 2) 30 (.agg x.cs) (.agg x.cs)).run Try.prog w = .ok true w := by
  rw [run_equalIn_struct (P := Try.prog) w (d + 1) 30 x.cs x.cs (by unfold Program.fieldsOf; rw [Try.underlying30]) (by kernel_rfl)]
  unfold Program.fieldsOf
  rw [Try.underlying30]
  simp [Op.eqFields, Ev.cs, part, Op.equalIn, run_underlying Try.underlying3, run_underlying Try.underlying9, run_underlying Try.underlying4, go_sem]
  rw [beq_toListBytes]; simp
theorem neq30 (x : Ev) (w : World) : (binOp .neq 30 (.agg x.cs) (.agg x.cs)).run Try.prog w = .ok (.bool false) w := by
  simp only [binOp]
  simp [Op.equal, Op.maxDepth, eq30 x 9998 w]
theorem eql30 (x : Ev) (w : World) : (binOp .eql 30 (.agg x.cs) (.agg x.cs)).run Try.prog w = .ok (.bool true) w := by
  simp only [binOp]
  simp [Op.equal, Op.maxDepth, eq30 x 9998 w]

def NeOwn (v v' : Value) : Prop := ∀ k, v.ownBlock = some k → v'.ownBlock ≠ some k
theorem NeOwn.symm {v v' : Value} (h : NeOwn v v') : NeOwn v' v := fun k hk hk' => h k hk' hk

/-- Three queues of one's own that share nothing. -/
def Three (H : Nat) (w : World) (g gc gd : Nat) (L Lc Ld : List Ev) : Prop :=
  ∃ s sc sd, QS w g 4096 L s ∧ QS w gc 4096 Lc sc ∧ QS w gd 4096 Ld sd ∧ (H ≤ g ∧ H ≤ gc ∧ H ≤ gd ∧ g ≠ gc ∧ g ≠ gd ∧ gc ≠ gd) ∧
    (∀ k, s.ownBlock = some k → H ≤ k) ∧ (∀ k, sc.ownBlock = some k → H ≤ k) ∧ (∀ k, sd.ownBlock = some k → H ≤ k) ∧ NeOwn s sc ∧ NeOwn s sd ∧ NeOwn sc sd

theorem Three.swap {H : Nat} {w : World} {g gc gd : Nat} {L Lc Ld : List Ev} (h : Three H w g gc gd L Lc Ld) : Three H w gc g gd Lc L Ld := by
  obtain ⟨s, sc, sd, h1, h2, h3, ⟨h4, h5, h6, h7, h8, h9⟩, h10, h11, h12, h13, h14, h15⟩ := h
  exact ⟨sc, s, sd, h2, h1, h3, ⟨h5, h4, h6, h7.symm, h9, h8⟩, h11, h10, h12, h13.symm, h15, h14⟩
theorem Three.turn {H : Nat} {w : World} {g gc gd : Nat} {L Lc Ld : List Ev} (h : Three H w g gc gd L Lc Ld) : Three H w gd g gc Ld L Lc := by
  obtain ⟨s, sc, sd, h1, h2, h3, ⟨h4, h5, h6, h7, h8, h9⟩, h10, h11, h12, h13, h14, h15⟩ := h
  exact ⟨sd, s, sc, h3, h1, h2, ⟨h6, h4, h5, h8.symm, h9.symm, h7⟩, h12, h10, h11, h14.symm, h15.symm, h13⟩
theorem Three.below {H : Nat} {w w' : World} {g gc gd : Nat} {L Lc Ld : List Ev} (h : Three H w g gc gd L Lc Ld) (hb : Below w.heap.size w w') : Three H w' g gc gd L Lc Ld := by
  obtain ⟨s, sc, sd, h1, h2, h3, r⟩ := h
  exact ⟨s, sc, sd, h1.below hb, h2.below hb, h3.below hb, r⟩

/-- What a method that is called on the first of them leaves. -/
theorem Three.on {w0 w w' : World} {g gc gd : Nat} {L Lc Ld L' : List Ev} (h : Three w0.heap.size w g gc gd L Lc Ld) (hb : Below w0.heap.size w0 w) (hp : ∀ s, QS w g 4096 L s → QPost w g 4096 s L' w') :
    Three w0.heap.size w' g gc gd L' Lc Ld ∧ Below w0.heap.size w0 w' := by
  obtain ⟨s, sc, sd, h1, h2, h3, ⟨h4, h5, h6, h7, h8, h9⟩, h10, h11, h12, h13, h14, h15⟩ := h
  obtain ⟨s', q1, q2, q3⟩ := hp s h1
  have hne : ∀ (g' : Nat) (sx : Value) (Lx : List Ev), QS w g' 4096 Lx sx → g ≠ g' → NeOwn s sx → ¬ qb g s g' ∧ ∀ k, sx.ownBlock = some k → ¬ qb g s k := by
    intro g' sx Lx hx hgg hno
    constructor
    · rintro (e | e)
      · exact hgg e.symm
      · exact own_ne_blk h1.2 hx.1 (by decide) e.symm
    · rintro k hk (e | e)
      · subst e
        exact own_ne_blk hx.2 h1.1 (by decide) hk.symm
      · exact hno k e hk
  obtain ⟨a1, a2⟩ := hne gc sc Lc h2 h7 h13
  obtain ⟨b1, b2⟩ := hne gd sd Ld h3 h8 h14
  have hno : ∀ (g' : Nat) (sx : Value) (Lx : List Ev), QS w g' 4096 Lx sx → NeOwn s sx → NeOwn s' sx := by
    intro g' sx Lx hx hn k hk hk'
    rcases q2 with q2 | ⟨k2, q2, q4⟩
    · exact hn k (q2.symm.trans hk) hk'
    · rw [q2] at hk; injection hk with hk
      have := hx.own_lt hk'
      omega
  refine ⟨⟨s', sc, sd, q1, h2.kp q3 a1 a2, h3.kp q3 b1 b2, ⟨h4, h5, h6, h7, h8, h9⟩, ?_, h11, h12, hno _ _ _ h2 h13, hno _ _ _ h3 h14, h15⟩, ?_⟩
  · intro k hk
    rcases q2 with q2 | ⟨k2, q2, q4⟩
    · exact h10 k (q2.symm.trans hk)
    · rw [q2] at hk; injection hk with hk
      have := hb.size
      omega
  · refine Kp.below (S := fun k => w0.heap.size ≤ k) ((Kp.of_below hb _).trans (q3.mono ?_)) (fun _ h => h)
    rintro i (rfl | hi)
    · exact h4
    · exact h10 i hi

theorem qs_same {w w' : World} {g : Nat} {L L' : List Ev} {s s' : Value} {lim : Int} (h : QS w g lim L s) (h' : QS w' g lim L' s') (hb : w'.heap[g]? = w.heap[g]?) : s' = s := by
  have e := h'.1.symm.trans (hb.trans h.1)
  injection e with e
  injection e with e
  injection e with e
  simpa using e

/-- Blocks that are none of a queue's stay. -/
def Far (w : World) (g : Nat) (L : List Ev) (w' : World) : Prop := w.heap.size ≤ w'.heap.size ∧ ∀ k, k < w.heap.size → k ≠ g → (∀ s, QS w g 4096 L s → s.ownBlock ≠ some k) → w'.heap[k]? = w.heap[k]?
theorem Far.new {w : World} {g : Nat} {L : List Ev} {o : Obj} {w' : World} {H gc gd : Nat} {Lc Ld : List Ev} (h : Far (w.alloc o) g L w') (h3 : Three H w g gc gd L Lc Ld) : w'.heap[w.heap.size]? = some o := by
  obtain ⟨s, _, _, h1, _⟩ := h3
  rw [h.2 w.heap.size (by simp) (by have := h1.lt; omega) ?_, heap_alloc_new]
  intro s' hs' he
  have e := qs_same h1 hs' (Below.heap_alloc w o g h1.lt)
  rw [e] at he
  have := h1.own_lt he
  omega

theorem take3 {w0 w : World} {g gc gd m : Nat} {L Lc Ld : List Ev} (h : Three w0.heap.size w g gc gd L Lc Ld) (hb : Below w0.heap.size w0 w) (hl : L.length = m + 1) (hm : m < 4096) (hi : Inv L) (x : Ev) (hx : evAt L 0 = x) :
    Calls Try.prog 11 #[.pointer (some ⟨g, 0, none⟩)] w fun e w' => e = .returned (.tuple #[.agg #[.int .i64 x.t, .int .i64 x.n, .string x.v, .int .i64 x.f, .int .i64 x.s, .bool x.a], .bool true]) ∧
      Three w0.heap.size w' g gc gd (popL L).dropLast Lc Ld ∧ Below w0.heap.size w0 w' ∧ Far w g L w' := by
  have h' := h
  obtain ⟨s, _, _, h1, _⟩ := h
  obtain ⟨b, c, rfl, hh⟩ := h1.hq (by omega)
  refine (take_any g b c m 4096 L w hl hm (by omega) hh).mono ?_
  rintro e w' ⟨rfl, hq', hk⟩
  refine ⟨by rw [(popL_facts hi hl).1, hx]; rfl, (h'.on hb (L' := (popL L).dropLast) ?_).1, (h'.on hb (L' := (popL L).dropLast) ?_).2, hk.size, fun k hk1 hk2 hk3 => hk.block k hk1 (by
    rintro (h3 | h3)
    · exact hk2 h3
    · exact hk3 _ h1 (by rw [h3]; rfl))⟩
  all_goals
   intro s hs
   refine ⟨_, hq'.qs, .inl ?_, hk.mono ?_⟩
   · have e := hs.1.symm.trans h1.1
     injection e with e
     injection e with e
     injection e with e
     simp at e
     rw [e]; rfl
   · have e := hs.1.symm.trans h1.1
     injection e with e
     injection e with e
     injection e with e
     simp at e
     rw [e]
     rintro i (rfl | rfl)
     · exact .inl rfl
     · exact .inr rfl
theorem take3_none {w0 w : World} {g gc gd : Nat} {Lc Ld : List Ev} (h : Three w0.heap.size w g gc gd [] Lc Ld) (hb : Below w0.heap.size w0 w) :
    Calls Try.prog 11 #[.pointer (some ⟨g, 0, none⟩)] w fun e w' => e = .returned (.tuple #[.agg ev0.cs, .bool false]) ∧ Three w0.heap.size w' g gc gd [] Lc Ld ∧ Below w0.heap.size w0 w' := by
  have h' := h
  obtain ⟨s, _, _, h1, _⟩ := h
  refine (take_empty g 4096 s w (by omega) h1).mono ?_
  rintro e w' ⟨rfl, hb'⟩
  exact ⟨rfl, h'.below hb', hb.trans (hb'.mono hb.size)⟩
theorem put3q {w0 w : World} {g gc gd : Nat} {L Lc Ld : List Ev} (h : Three w0.heap.size w g gc gd L Lc Ld) (hb : Below w0.heap.size w0 w) (t n f s : Int) (v : ByteArray) (a : Bool) (hn : L.length ≤ 4096) (r : Int) (M : List Ev)
    (he : putE 4096 L ⟨t, n, v, f, s, a⟩ = (r, M)) :
    Calls Try.prog 10 #[.pointer (some ⟨g, 0, none⟩), .agg #[.int .i64 t, .int .i64 n, .string v, .int .i64 f, .int .i64 s, .bool a]] w fun e w' => e = .returned (.int .i64 r) ∧ Three w0.heap.size w' g gc gd M Lc Ld ∧ Below w0.heap.size w0 w' := by
  have h' := h
  obtain ⟨s', _, _, h1, _⟩ := h
  refine (put_lit g 4096 L t n f s v a s' w (by omega) (by omega) (by omega) h1).mono ?_
  rintro e w' ⟨rfl, hpost⟩
  rw [he] at hpost ⊢
  refine ⟨rfl, h'.on hb ?_⟩
  intro s2 hs2
  have e := hs2.1.symm.trans h1.1
  injection e with e
  injection e with e
  injection e with e
  simp at e
  rw [e]
  exact hpost

theorem qlen3 {w0 w : World} {g gc gd : Nat} {L Lc Ld : List Ev} (h : Three w0.heap.size w g gc gd L Lc Ld) :
    Calls Try.prog 12 #[.pointer (some ⟨g, 0, none⟩)] w fun e w' => e = .returned (.int .i64 L.length) ∧ w = w' := by
  obtain ⟨s, _, _, h1, _⟩ := h
  exact qlen_any g 4096 L s w (by omega) h1

/-- a queue and two copies of it -/
theorem copy_mine {w0 w : World} {g : Nat} {L : List Ev} (hn : L.length ≤ 4096) (hq : MyQ w0.heap.size w g 4096 L) (hb : Below w0.heap.size w0 w) :
    Calls Try.prog 13 #[.pointer (some ⟨g, 0, none⟩)] w fun e w' => ∃ g', e = .returned (.pointer (some ⟨g', 0, none⟩)) ∧ w.heap.size ≤ g' ∧ Below w.heap.size w w' ∧ Below w0.heap.size w0 w' ∧ MyQ w0.heap.size w' g 4096 L ∧ MyQ w.heap.size w' g' 4096 L := by
  obtain ⟨hg, sv, h1, h2⟩ := hq
  refine (copy_any g 4096 L sv w (by omega) (by omega) (by omega) h1).mono ?_
  rintro e w' ⟨g', sv', rfl, h3, h4, h5, h6⟩
  exact ⟨g', rfl, h3, h6, hb.trans (h6.mono hb.size), ⟨hg, sv, h1.below h6, h2⟩, ⟨h3, sv', h4, h5⟩⟩

theorem Three.start {H : Nat} {w1 w2 w3 : World} {g gc gd : Nat} {L : List Ev} (hq : MyQ H w1 g 4096 L) (hH : H ≤ w1.heap.size) (b2 : Below w1.heap.size w1 w2) (hc : MyQ w1.heap.size w2 gc 4096 L) (b3 : Below w2.heap.size w2 w3) (hd : MyQ w2.heap.size w3 gd 4096 L) : Three H w3 g gc gd L L L := by
  obtain ⟨a1, s, a2, a3⟩ := hq
  obtain ⟨b1, sc, b4, b5⟩ := hc
  obtain ⟨c1, sd, c2, c3⟩ := hd
  have hz := b2.size
  have hg := a2.lt
  have hgc := b4.lt
  refine ⟨s, sc, sd, a2.below (b2.trans (b3.mono b2.size)), b4.below b3, c2, ⟨a1, by omega, by omega, by omega, by omega, by omega⟩, a3, fun k hk => by have := b5 k hk; omega, fun k hk => by have := c3 k hk; omega, ?_, ?_, ?_⟩
  · intro k h h'
    have x := a2.own_lt h
    have y := b5 k h'
    omega
  · intro k h h'
    have x := a2.own_lt h
    have y := c3 k h'
    omega
  · intro k h h'
    have x := b4.own_lt h
    have y := c3 k h'
    omega
def evK (zs : List Int) (k : Nat) : Ev := ⟨bits .and .i64 (zs.getD k 0) 4095, 0, ⟨#[]⟩, 0, k, false⟩
theorem evK_ok (zs : List Int) (i : Nat) : (evK zs i).s = (i : Int) ∧ 0 ≤ (evK zs i).t ∧ (evK zs i).t ≤ 4611686018427387903 ∧ (evK zs i).a = false := by
  have := mask_range (zs.getD i 0) 4095 (by omega) (by omega)
  refine ⟨rfl, this.1, ?_, rfl⟩
  show bits .and .i64 (zs.getD i 0) 4095 ≤ _
  have h2 := this.2
  omega

/-- the copy that is played with -/
def Play (n k : Nat) (L : List Ev) : Prop := Inv L ∧ L.length = max n (min 1 k) ∧ ∀ y ∈ L, y.f = 0 ∨ (y.f = 9 ∧ y.s < k)
theorem Play.put {n k : Nat} {M : List Ev} (hi : Inv M) (hl : M.length < 4096) (hf : ∀ y ∈ M, y.f = 0 ∨ (y.f = 9 ∧ y.s < k)) (hn : M.length + 1 = max n (min 1 (k + 1))) :
    putE 4096 M ⟨1048576, 0, ⟨#[]⟩, 9, k, false⟩ = (0, pushL M ⟨1048576, 0, ⟨#[]⟩, 9, k, false⟩) ∧ Play n (k + 1) (pushL M ⟨1048576, 0, ⟨#[]⟩, 9, k, false⟩) := by
  refine ⟨?_, hi.push _, by rw [pushL_len]; exact hn, fun y hy => ?_⟩
  · unfold putE
    rw [if_neg (by simp), idxP_none (fun i hi => ?_), if_neg (by omega), if_neg (by simp), if_neg (by omega)]
    have := hf _ (evAt_mem hi)
    simp only [sameNo, Bool.and_eq_false_iff, beq_eq_false_iff_ne]
    omega
  · rcases List.mem_cons.1 ((pushL_perm M _).mem_iff.1 hy) with rfl | h
    · exact .inr ⟨rfl, by show (k : Int) < ((k + 1 : Nat) : Int); omega⟩
    · have := hf y h
      omega

set_option maxRecDepth 100000 in
set_option maxHeartbeats 4000000 in
theorem copies_any (A : Option Addr) (n c : Nat) (zs : List Int) (tk : Int) (w : World) (hz : zs.length = n) (hA : IntsAt w A zs) :
    Calls Try.prog 4 #[.slice A n c, .int .i64 tk] w fun e w' => e = .returned (.bool true) ∧ Below w.heap.size w w' := by
  by_cases hbig : 100 < n
  · have hd : decide (100 < n) = true := by simpa using hbig
    go_enter Try.func4, Try.ntmps4
    go_wp2_with fail
    have h1 := new_any 4096 w (by omega) (by omega)
    with_reducible refine h1.mono ?_
    clear h1
    rintro e w1 ⟨g, rfl, hg, hq1, hb1⟩
    have Hq1 := Lib.hid hq1
    clear hq1
    go_wp2_with fail
    have haw := awake_any w1
    with_reducible refine haw.mono ?_
    clear haw
    rintro e w2 ⟨rfl, hb2⟩
    go_wp2
    go_ret
    exact ⟨rfl, hb1.trans (hb2.mono hb1.size)⟩
  · have hn : n ≤ 100 := by omega
    have hd : decide (100 < n) = false := by simpa using hbig
    have htr := mask_range tk 127 (by omega) (by omega)
    obtain ⟨t, ht⟩ := Int.eq_ofNat_of_zero_le htr.1
    rw [ht] at htr
    clear hbig
    have Hz := Lib.hid hz
    have HA := Lib.hid hA
    clear hz hA
    have hT : t ≤ 127 := by omega
    have Ht := Lib.hid ht
    clear htr ht
    go_enter Try.func4, Try.ntmps4
    go_wp2_with fail
    have h1 := new_any 4096 w (by omega) (by omega)
    with_reducible refine h1.mono ?_
    clear h1
    rintro e w1 ⟨g, rfl, hg, hq1, hb1⟩
    have hm1 : MyQ w.heap.size w1 g 4096 [] := ⟨hg, _, hq1, by simp [Value.ownBlock]⟩
    have Hm1 := Lib.hid hm1
    clear hq1 hm1
    go_wp2
    go_loopw [7] (fun iv wr => ∃ (k : Nat) (L : List Ev), iv = .int .i64 k ∧ k ≤ n ∧ Hid (Filled (evK zs) k L) ∧ Hid (MyQ w.heap.size wr g 4096 L) ∧ Below w.heap.size w wr) (fun iv _ => n - (intOf iv).toNat)
    case atStart => exact ⟨0, [], rfl, by omega, Filled.nil _, Hm1.out, hb1⟩
    case round =>
      clear Hm1
      obtain ⟨k, L, rfl, hk, HF, HQ, hB⟩ := hrel
      by_cases hlt : k < n
      · obtain ⟨b, o, rfl, hbl, hcell⟩ := (HA.out.below hB) (by rw [Hz.out]; omega)
        have hc1 := hcell k (by rw [Hz.out]; exact hlt)
        have hf := HF.out.put (evK_ok zs) (by omega)
        have hlen : (L.length : Int) ≤ 4096 := by have := HF.out.len; omega
        have hpu := put_mine (w0 := w) (bits .and .i64 (zs[k]?.getD 0) 4095) 0 0 k ⟨#[]⟩ false (by omega) hlen (by omega) HQ.out hB 0 (pushL L (evK zs k)) hf.1
        have Hpu := Lib.hid hpu
        have Hf := Lib.hid hf.2
        clear hcell hf hpu hlen
        go_wp2_with fail
        have hpu := Hpu.out
        with_reducible refine hpu.mono ?_
        clear hpu Hpu hc1
        rintro e w2 ⟨rfl, hq2, hb2⟩
        have HQ2 := Lib.hid hq2
        clear hq2
        go_wp2
        go_roundw
        case rel => exact ⟨k + 1, _, by go_num, by omega, Hf, HQ2, hb2⟩
        case measure => simp [intOf]; omega
      · have hkn : k = n := by omega
        subst hkn
        clear hlt hk
        have hlen : L.length = k := HF.out.len
        have HLen := Lib.hid hlen
        clear hlen
        go_wp2_with fail
        have hcp := copy_mine (w0 := w) (by have := HLen.out; omega) HQ.out hB
        have Hcp := Lib.hid hcp
        have hcp := Hcp.out
        with_reducible refine hcp.mono ?_
        clear hcp Hcp
        rintro e w2 ⟨gc, rfl, hgc, hr2, hb2, hq2, hc2⟩
        have Hq2 := Lib.hid hq2
        have Hc2 := Lib.hid hc2
        have Hr2 := Lib.hid hr2
        have Hb2 := Lib.hid hb2
        clear hq2 hc2 hr2 hb2
        go_wp2_with fail
        have hcp := copy_mine (w0 := w) (by have := HLen.out; omega) Hq2.out Hb2.out
        with_reducible refine hcp.mono ?_
        clear hcp
        rintro e w3 ⟨gd, rfl, hgd, hr3, hb3, hq3, hd3⟩
        have hth := Three.start HQ.out hB.size Hr2.out Hc2.out hr3 hd3
        have Hth := Lib.hid hth.swap
        clear hth hq3 hd3 hr3 HQ hB Hq2 Hc2 Hr2 Hb2
        go_wp2
        have hP0 : Hid (Play k 0 L) := ⟨HF.out.1, by rw [HLen.out]; omega, fun y hy => by obtain ⟨i, hi, rfl⟩ := HF.out.mem hy; exact .inl rfl⟩
        go_loopw [10] (fun iv wr => ∃ (q : Nat) (Lc : List Ev), iv = .int .i64 q ∧ q ≤ t ∧ Hid (Play k q Lc) ∧ Hid (Three w.heap.size wr gc g gd Lc L L) ∧ Below w.heap.size w wr) (fun iv _ => t - (intOf iv).toNat)
        case atStart => exact ⟨0, L, rfl, by omega, hP0, Hth, hb3⟩
        case round =>
          clear Hth hb3 hP0
          obtain ⟨q, Lc, rfl, hq, HP, HT, hB⟩ := hrel
          by_cases hlt : q < t
          · have ht := Ht.out
            rcases Nat.eq_zero_or_pos Lc.length with h0 | h0
            · have hnil : Lc = [] := List.eq_nil_of_length_eq_zero h0
              subst hnil
              have hP2 := HP.out.2.1
              rw [List.length_nil] at hP2
              have htk := take3_none HT.out hB
              unfold Ev.cs at htk
              dsimp only [ev0] at htk
              have hpt := Play.put (n := k) (k := q) (M := []) Inv.nil (by simp) (by simp) (by simp; omega)
              have Htk := Lib.hid htk
              have Hpt := Lib.hid hpt
              clear htk hpt hP2 h0
              go_wp2_with fail
              have htk := Htk.out
              with_reducible refine htk.mono ?_
              clear htk Htk
              rintro e w4 ⟨rfl, ht4, hb4⟩
              have hpu := put3q (w0 := w) ht4 hb4 1048576 0 9 q ⟨#[]⟩ false (by simp) _ _ Hpt.out.1
              have Hpu := Lib.hid hpu
              clear hpu ht4
              go_wp2_with fail
              have hpu := Hpu.out
              with_reducible refine hpu.mono ?_
              clear hpu Hpu
              rintro e w5 ⟨rfl, ht5, hb5⟩
              have Ht5 := Lib.hid ht5
              have Hpt2 := Lib.hid Hpt.out.2
              clear ht5
              go_wp2
              go_roundw
              case rel => exact ⟨q + 1, _, by go_num, by omega, Hpt2, Ht5, hb5⟩
              case measure => simp [intOf]; omega
            · obtain ⟨m, hm⟩ : ∃ m, Lc.length = m + 1 := ⟨Lc.length - 1, by omega⟩
              have hmk : m + 1 = max k (min 1 q) := by rw [← hm]; exact HP.out.2.1
              have htk := (take3 HT.out hB hm (by omega) HP.out.1 _ rfl).mono (fun e w' h => And.intro h.1 (And.intro h.2.1 h.2.2.1))
              have hts := take_step HP.out.1 hm
              have hpt := Play.put (n := k) (k := q) (M := (popL Lc).dropLast) hts.2.1 (by rw [hts.2.2.2.1]; omega) (fun y hy => HP.out.2.2 y (hts.2.2.1.mem_iff.2 (List.mem_cons_of_mem _ hy))) (by rw [hts.2.2.2.1]; omega)
              have hl4 : (popL Lc).dropLast.length ≤ 4096 := by rw [hts.2.2.2.1]; omega
              have Htk := Lib.hid htk
              have Hpt := Lib.hid hpt
              have Hl4 := Lib.hid hl4
              clear htk hpt h0 hts hl4 hm hmk
              go_wp2_with fail
              have htk := Htk.out
              with_reducible refine htk.mono ?_
              clear htk Htk
              rintro e w4 ⟨rfl, ht4, hb4⟩
              have hpu := put3q (w0 := w) ht4 hb4 1048576 0 9 q ⟨#[]⟩ false Hl4.out _ _ Hpt.out.1
              have Hpu := Lib.hid hpu
              clear hpu ht4
              go_wp2_with fail
              have hpu := Hpu.out
              with_reducible refine hpu.mono ?_
              clear hpu Hpu
              rintro e w5 ⟨rfl, ht5, hb5⟩
              have Ht5 := Lib.hid ht5
              have Hpt2 := Lib.hid Hpt.out.2
              clear ht5
              go_wp2
              go_roundw
              case rel => exact ⟨q + 1, _, by go_num, by omega, Hpt2, Ht5, hb5⟩
              case measure => simp [intOf]; omega
          · have hqt : q = t := by omega
            subst hqt
            have ht := Ht.out
            have HT2 := Lib.hid HT.out.swap
            have hf0 : Hid (∀ y ∈ L, y.f = 0) := fun y hy => by obtain ⟨i, hi, rfl⟩ := HF.out.mem hy; rfl
            have hI : Hid (Inv L) := HF.out.1
            go_wp2
            go_loopw [11] (fun iv wr => ∃ (p : Nat) (M : List Ev), iv = .int .i64 p ∧ p ≤ k ∧ Hid (M.length + p = k) ∧ Hid (Inv M) ∧ Hid (∀ y ∈ M, y.f = 0) ∧ Hid (Three w.heap.size wr g gc gd M Lc M) ∧ Below w.heap.size w wr) (fun iv _ => k - (intOf iv).toNat)
            case atStart => exact ⟨0, L, rfl, by omega, by have := HLen.out; show _ = _; omega, hI, hf0, HT2, hB⟩
            case round =>
              clear HT2 hB hf0 hI HT HLen
              obtain ⟨p, M, rfl, hp, HM, HI, H0, HT, hB⟩ := hrel
              by_cases hlt2 : p < k
              · have hml : M.length = (k - p - 1) + 1 := by have := HM.out; omega
                have hts := take_step HI.out hml
                obtain ⟨x, hx⟩ : ∃ x, evAt M 0 = x := ⟨_, rfl⟩
                have hxf : x.f = 0 := by rw [← hx]; exact H0.out _ hts.2.2.2.2.2
                have hlen2 : (popL M).dropLast.length + (p + 1) = k := by rw [hts.2.2.2.1]; omega
                have hI2 := hts.2.1
                have h02 : ∀ y ∈ (popL M).dropLast, y.f = 0 := fun y hy => H0.out y (hts.2.2.1.mem_iff.2 (List.mem_cons_of_mem _ hy))
                have htk := take3 HT.out hB hml (by omega) HI.out x hx
                have HI2 := Lib.hid hI2
                have H02 := Lib.hid h02
                have Hlen2 := Lib.hid hlen2
                have Htk := Lib.hid htk
                have Hml := Lib.hid hml
                have Hx := Lib.hid hx
                have hneq := neq30 x
                obtain ⟨xt, xn, xv, xf, xs, xa⟩ := x
                dsimp only at hxf
                subst hxf
                unfold Ev.cs at hneq
                dsimp only at hneq
                clear hts hI2 h02 hlen2 htk hml hx ht
                go_wp2_with fail
                have htk := Htk.out
                with_reducible refine htk.mono ?_
                clear htk Htk
                rintro e w4 ⟨rfl, ht4, hb4, _⟩
                dsimp only
                have hbA : Below w4.heap.size w4 (w4.alloc (.cells #[.int .i64 xt, .int .i64 xn, .string xv, .int .i64 0, .int .i64 xs, .bool xa] 30)) := (Below.refl _ _).alloc (Nat.le_refl _) _
                have htk := take3 (ht4.below hbA).turn (hb4.trans (hbA.mono hb4.size)) Hml.out (by omega) HI.out ⟨xt, xn, xv, 0, xs, xa⟩ Hx.out
                have Htk := Lib.hid htk
                have Ht4 := Lib.hid ht4.turn
                clear htk ht4 hbA
                go_wp2_with fail
                have htk := Htk.out
                with_reducible refine htk.mono ?_
                clear htk Htk
                rintro e w5 ⟨rfl, ht5, hb5, hfar⟩
                dsimp only
                have hX5 := hfar.new Ht4.out
                have hX6 := (Below.heap_alloc w5 (.cells #[.int .i64 xt, .int .i64 xn, .string xv, .int .i64 0, .int .i64 xs, .bool xa] 30) w4.heap.size (Array.getElem?_eq_some_iff.1 hX5).1).trans hX5
                have hY6 := heap_alloc_new w5 (.cells #[.int .i64 xt, .int .i64 xn, .string xv, .int .i64 0, .int .i64 xs, .bool xa] 30)
                have ht6 := ht5.below ((Below.refl _ w5).alloc (Nat.le_refl _) (.cells #[.int .i64 xt, .int .i64 xn, .string xv, .int .i64 0, .int .i64 xs, .bool xa] 30))
                have hb6 := hb5.alloc hb5.size (.cells #[.int .i64 xt, .int .i64 xn, .string xv, .int .i64 0, .int .i64 xs, .bool xa] 30)
                have Ht6 := Lib.hid ht6.turn.turn
                clear hX5 ht5 ht6 hfar hb5
                generalize hXX : w4.heap.size = X at *
                clear hXX
                have x0 := blk_cell hX6 0
                have x1 := blk_cell hX6 1
                have x2 := blk_cell hX6 2
                have x3 := blk_cell hX6 3
                have x4 := blk_cell hX6 4
                have x5 := blk_cell hX6 5
                clear hX6 hY6
                go_wp2
                go_roundw
                case rel => exact ⟨p + 1, _, by go_num, by omega, Hlen2, HI2, H02, Ht6, hb6⟩
                case measure => simp [intOf]; omega
              · have hpk : p = k := by omega
                subst hpk
                have hM0 : M = [] := List.eq_nil_of_length_eq_zero (by have := HM.out; omega)
                subst hM0
                have hq1 := qlen3 HT.out
                have hq2 := qlen3 HT.out.turn
                have hq3 := qlen3 HT.out.swap
                have hlc := HP.out.2.1
                have Hq1 := Lib.hid hq1
                have Hq2 := Lib.hid hq2
                have Hq3 := Lib.hid hq3
                have Hlc := Lib.hid hlc
                clear hq1 hq2 hq3 hlc
                go_wp2_with fail
                have hq1 := Hq1.out
                with_reducible refine hq1.mono ?_
                clear hq1
                rintro e w4 ⟨rfl, rfl⟩
                rw [show (([] : List Ev).length : Int) = 0 from rfl]
                go_wp2_with fail
                have hq2 := Hq2.out
                with_reducible refine hq2.mono ?_
                clear hq2
                rintro e w4 ⟨rfl, rfl⟩
                rw [show (([] : List Ev).length : Int) = 0 from rfl]
                go_wp2_with fail
                have hq3 := Hq3.out
                with_reducible refine hq3.mono ?_
                clear hq3
                rintro e w4 ⟨rfl, rfl⟩
                rw [Hlc.out]
                go_wp2_with fail
                all_goals first
                  | (exfalso; omega)
                  | (have haw := awake_any wr
                     with_reducible refine haw.mono ?_
                     clear haw
                     rintro e w5 ⟨rfl, hb5⟩
                     go_wp2
                     go_ret
                     exact ⟨rfl, hB.trans (hb5.mono hB.size)⟩)
end Go.Proofs.Ytebcbjmdkbmnkaa
