/- The contract of Run. -/
import Derived.Test.YtimcmhfcmnooeaaPr15
namespace Go.Proofs.Ytimcmhfcmnooeaa
set_option linter.unusedVariables false
set_option linter.unusedSimpArgs false
open Go.RowKit Go.Maps Go.Proofs.YtimcmhfcmnooeaaW.PrintWords Go.Proofs.YtimcmhfcmnooeaaW.PrintLast Go.Proofs.YtimcmhfcmnooeaaW.PrintMore

theorem reps_flat {α : Type} (f : α → List Value) (R : α → List Value → Prop) (m : Nat) (hf : ∀ x, (f x).length = m) (hR : ∀ x, R x (f x)) (L : List α) : Reps R m L (L.flatMap f) := by
  refine ⟨flatMap_len f m hf L, fun j p hp => ?_⟩
  have e : ((L.flatMap f).drop (j * m)).take m = f p := by
    apply List.ext_getElem?
    intro i
    by_cases hi : i < m
    · rw [List.getElem?_take, if_pos hi, List.getElem?_drop]
      exact flatMap_get f m hf L j p hp i hi
    · rw [List.getElem?_eq_none (by rw [List.length_take]; omega), List.getElem?_eq_none (by rw [hf]; omega)]
  rw [e]
  exact hR p

theorem R_tokens {w : World} {base : Nat} {v : Value} {L : List S35} (h : w.ownsRow base 35 3 v L.length (tflat L)) : Kd.R k35 35 w base (fun _ => True) v L :=
  ⟨fun _ _ => trivial, tflat L, h, reps_flat tcl _ 3 (fun _ => rfl) (fun x => k35_mkM _ _ _ x) L⟩

/-- The results' cells, as Run leaves them. -/
def RunPost (w w' : World) (r : List S35 × List S31) (e : Ending) : Prop :=
  ∃ v1 v2, e = .returned (.tuple #[v1, v2]) ∧ Kd.R k35 35 w' w.heap.size (fun _ => True) v1 r.1 ∧ Kd.R k31 31 w' w.heap.size (fun _ => True) v2 r.2 ∧ Below w.heap.size w w'

theorem caught_done {w w0 w' : World} (hbw : Below w.heap.size w w0) (hsz : w.heap.size + 2 ≤ w0.heap.size) (hb : Below (w.heap.size + 2) w0 w') (a e : Int)
    (hq1 : w'.heap[w.heap.size]? = some (.cells #[.slice none 0 0] 22 (0, 0))) (hq2 : w'.heap[w.heap.size + 1]? = some (.cells #[.slice none 0 0] 25 (0, 0))) :
    (caught w' w.heap.size (w.heap.size + 1) a e).cell? ⟨w.heap.size, 0, none⟩ = some (.slice none 0 0) ∧ (caught w' w.heap.size (w.heap.size + 1) a e).cell? ⟨w.heap.size + 1, 0, none⟩ = some (.slice (some ⟨w'.heap.size + 1, 0, none⟩) 1 1) ∧
      RunPost w (caught w' w.heap.size (w.heap.size + 1) a e) ([], [⟨a, e⟩]) (.returned (.tuple #[.slice none 0 0, .slice (some ⟨w'.heap.size + 1, 0, none⟩) 1 1])) := by
  have hl1 := (Array.getElem?_eq_some_iff.1 hq1).1
  have hl2 := (Array.getElem?_eq_some_iff.1 hq2).1
  have e1 : (caught w' w.heap.size (w.heap.size + 1) a e).heap[w.heap.size]? = some (.cells #[.slice none 0 0] 22 (0, 0)) := by
    unfold caught
    show ((((w'.setCell ⟨w.heap.size, 0, none⟩ (.slice none 0 0)).setCell ⟨w.heap.size + 1, 0, none⟩ (.slice (some ⟨w'.heap.size + 1, 0, none⟩) 1 1)).alloc (.cells #[.int .i64 a, .int .i64 e] 41)).alloc (.cells #[.int .i64 a, .int .i64 e] 31)).heap[w.heap.size]? = _
    rw [Below.heap_alloc _ _ _ (by simp [World.setCell]; omega), Below.heap_alloc _ _ _ (by simp [World.setCell]; omega), Below.heap_setCell _ _ _ _ (by simp), blk_set hq1 0]
    rfl
  have e2 : (caught w' w.heap.size (w.heap.size + 1) a e).heap[w.heap.size + 1]? = some (.cells #[.slice (some ⟨w'.heap.size + 1, 0, none⟩) 1 1] 25 (0, 0)) := by
    unfold caught
    show ((((w'.setCell ⟨w.heap.size, 0, none⟩ (.slice none 0 0)).setCell ⟨w.heap.size + 1, 0, none⟩ (.slice (some ⟨w'.heap.size + 1, 0, none⟩) 1 1)).alloc (.cells #[.int .i64 a, .int .i64 e] 41)).alloc (.cells #[.int .i64 a, .int .i64 e] 31)).heap[w.heap.size + 1]? = _
    rw [Below.heap_alloc _ _ _ (by simp [World.setCell]; omega), Below.heap_alloc _ _ _ (by simp [World.setCell]; omega), blk_set (w := w'.setCell ⟨w.heap.size, 0, none⟩ (.slice none 0 0)) ((Below.heap_setCell _ _ _ _ (by simp)).trans hq2) 0]
    rfl
  have e3 : (caught w' w.heap.size (w.heap.size + 1) a e).heap[w'.heap.size + 1]? = some (.cells #[.int .i64 a, .int .i64 e] 31 (0, 0)) := by
    unfold caught
    have := heap_alloc_new (((w'.setCell ⟨w.heap.size, 0, none⟩ (.slice none 0 0)).setCell ⟨w.heap.size + 1, 0, none⟩ (.slice (some ⟨w'.heap.size + 1, 0, none⟩) 1 1)).alloc (.cells #[.int .i64 a, .int .i64 e] 41)) (.cells #[.int .i64 a, .int .i64 e] 31)
    have hs : (((w'.setCell ⟨w.heap.size, 0, none⟩ (.slice none 0 0)).setCell ⟨w.heap.size + 1, 0, none⟩ (.slice (some ⟨w'.heap.size + 1, 0, none⟩) 1 1)).alloc (.cells #[.int .i64 a, .int .i64 e] 41)).heap.size = w'.heap.size + 1 := by simp [World.setCell]
    rw [hs] at this
    exact this
  refine ⟨blk_cell e1 0, blk_cell e2 0, _, _, rfl, ?_, ?_, ?_⟩
  · exact Kd.R_nil _ _ _ _ _
  · refine ⟨fun _ _ => trivial, [.int .i64 a, .int .i64 e], ⟨rfl, .inr ⟨w'.heap.size + 1, 1, _, rfl, by omega, e3, Nat.le_refl _, by simp [maxLen], rfl, rfl⟩⟩, rfl, fun j p hp => ?_⟩
    cases j with
    | zero => simp at hp; subst hp; exact k31_mkM _ _ _ _
    | succ j => simp at hp
  · have h1 : Below w.heap.size w w' := ⟨hb.os.trans hbw.os, hb.tape.trans hbw.tape, hb.output.trans hbw.output, by have := hb.size; have := hbw.size; omega, fun i hi => (hb.block i (by omega)).trans (hbw.block i hi)⟩
    have h2 := (h1.setCell (p := ⟨w.heap.size, 0, none⟩) (Nat.le_refl _) (.slice none 0 0)).setCell (p := ⟨w.heap.size + 1, 0, none⟩) (Nat.le_succ _) (.slice (some ⟨w'.heap.size + 1, 0, none⟩) 1 1)
    exact below_drew ((h2.alloc (by simp [World.setCell]; omega) _).alloc (by simp [World.setCell]; omega) _)

theorem putF_out {t : S35} {s s2 : St} (h : putF t s = .ok s2) : s2.out.length ≤ 16384 := by
  unfold putF at h
  split at h
  · cases h
  · injection h with h
    subst h
    simp
    omega
theorem useL_out (rec : ByteArray → St → Res St) (a : Int) (hr : ∀ nm s s2, rec nm s = .ok s2 → s.out.length ≤ 16384 → s2.out.length ≤ 16384) :
    ∀ (L : List S35) (s s2 : St), useL rec a L s = .ok s2 → s.out.length ≤ 16384 → s2.out.length ≤ 16384 := by
  intro L
  induction L with
  | nil =>
    intro s s2 h hf
    simp only [useL] at h
    injection h with h
    subst h
    exact hf
  | cons t r ih =>
    intro s s2 h hf
    rw [useL] at h
    split at h
    · cases h
    split at h
    · split at h
      · cases h
      · split at h
        · cases h
        · rename_i s1 hs1
          exact ih _ _ h (hr _ _ _ hs1 hf)
    · split at h
      · cases h
      · rename_i s1 hs1
        exact ih _ _ h (putF_out hs1)
theorem useF_out (a : Int) : ∀ (k : Nat) nm s s2, useF k a nm s = .ok s2 → s.out.length ≤ 16384 → s2.out.length ≤ 16384 := by
  intro k
  induction k with
  | zero => intro nm s s2 h; cases h
  | succ k ih =>
    intro nm s s2 h hf
    rw [useF] at h
    split at h
    · cases h
    · exact useL_out (useF k a) a ih _ _ _ h hf
theorem nameF_out {a : Int} {nm : ByteArray} {s s2 : St} (hn : nameF a s = .ok (nm, s2)) : s2.out = s.out := by
  unfold nameF at hn
  split at hn
  · cases hn
  · split at hn
    · injection hn with hn
      injection hn with _ hn
      subst hn
      rfl
    · cases hn
theorem beginsF_out {t : S35} {th : Bool} {s s2 : St} (h : beginsF t th s = .ok s2) : s2.out = s.out := by
  unfold beginsF at h
  split at h
  · cases h
  · rename_i nm s1 hn
    injection h with h
    subst h
    show s1.out = s.out
    exact nameF_out hn
theorem tickF_out {t : S35} {s s2 : St} (h : tickF t s = .ok s2) (hs : s.out.length ≤ 16384) : s2.out.length ≤ 16384 := by
  unfold tickF at h
  split at h
  · rw [beginsF_out h]; exact hs
  split at h
  · rw [beginsF_out h]; exact hs
  split at h
  · unfold turnsF at h
    split at h
    · cases h
    · split at h
      · cases h
      · injection h with h
        subst h
        exact hs
  split at h
  · split at h
    · cases h
    · injection h with h
      subst h
      exact hs
  split at h
  · injection h with h
    subst h
    exact hs
  split at h
  · unfold defineF at h
    split at h
    · cases h
    · rename_i nm s1 hn
      injection h with h
      subst h
      show s1.out.length ≤ 16384
      rw [nameF_out hn]; exact hs
  split at h
  · unfold undefF at h
    split at h
    · cases h
    · rename_i nm s1 hn
      injection h with h
      subst h
      show s1.out.length ≤ 16384
      rw [nameF_out hn]; exact hs
  · exact useF_out _ _ _ _ _ h hs

theorem run_done {w w0 wr w1 : World} {b1 mo c1 c3 : Nat} {A3 : Option Addr} {X : Obj} {L : List S35} {x : S35} (hbw : Below w.heap.size w w0) (hsz : w.heap.size + 2 ≤ w0.heap.size) (hb : Below (w.heap.size + 2) w0 wr)
    (hg : (wr.alloc X).drew.grownBy w1 (Value.slice A3 mo c3).ownBlock) (hown0 : wr.ownsRow (w.heap.size + 2) 35 3 (.slice A3 mo c3) mo (tflat L)) (hmo : L.length = mo)
    (hown : w1.ownsRow (w.heap.size + 2) 35 3 (.slice (some ⟨b1, 0, none⟩) (mo + 1) c1) (mo + 1) (tflat L ++ tcl x))
    (hq1 : w1.heap[w.heap.size]? = some (.cells #[.slice none 0 0] 22 (0, 0))) (hq2 : w1.heap[w.heap.size + 1]? = some (.cells #[.slice none 0 0] 25 (0, 0))) :
    ((w1.setCell ⟨w.heap.size, 0, none⟩ (.slice (some ⟨b1, 0, none⟩) (mo + 1) c1)).setCell ⟨w.heap.size + 1, 0, none⟩ (.slice none 0 0)).cell? ⟨w.heap.size, 0, none⟩ = some (.slice (some ⟨b1, 0, none⟩) (mo + 1) c1) ∧
    ((w1.setCell ⟨w.heap.size, 0, none⟩ (.slice (some ⟨b1, 0, none⟩) (mo + 1) c1)).setCell ⟨w.heap.size + 1, 0, none⟩ (.slice none 0 0)).cell? ⟨w.heap.size + 1, 0, none⟩ = some (.slice none 0 0) ∧
    RunPost w ((w1.setCell ⟨w.heap.size, 0, none⟩ (.slice (some ⟨b1, 0, none⟩) (mo + 1) c1)).setCell ⟨w.heap.size + 1, 0, none⟩ (.slice none 0 0)) (L ++ [x], []) (.returned (.tuple #[.slice (some ⟨b1, 0, none⟩) (mo + 1) c1, .slice none 0 0])) := by
  have e1 : ((w1.setCell ⟨w.heap.size, 0, none⟩ (.slice (some ⟨b1, 0, none⟩) (mo + 1) c1)).setCell ⟨w.heap.size + 1, 0, none⟩ (.slice none 0 0)).heap[w.heap.size]? = some (.cells #[.slice (some ⟨b1, 0, none⟩) (mo + 1) c1] 22 (0, 0)) := by
    rw [Below.heap_setCell _ _ _ _ (by simp), blk_set hq1 0]
    rfl
  have e2 : ((w1.setCell ⟨w.heap.size, 0, none⟩ (.slice (some ⟨b1, 0, none⟩) (mo + 1) c1)).setCell ⟨w.heap.size + 1, 0, none⟩ (.slice none 0 0)).heap[w.heap.size + 1]? = some (.cells #[.slice none 0 0] 25 (0, 0)) := by
    rw [blk_set ((Below.heap_setCell _ _ _ _ (by simp)).trans hq2) 0]
    rfl
  refine ⟨blk_cell e1 0, blk_cell e2 0, _, _, rfl, ?_, Kd.R_nil _ _ _ _ _, ?_⟩
  · apply R_tokens
    have h1 : (L ++ [x]).length = mo + 1 := by simp [hmo]
    have h2 : tflat (L ++ [x]) = tflat L ++ tcl x := by simp [tflat]
    show World.ownsRow _ _ _ _ _ (L ++ [x]).length (tflat (L ++ [x]))
    rw [h1, h2]
    have h3 := own_setCell' (own_setCell' hown (p := ⟨w.heap.size, 0, none⟩) (own_ne_blk hown hq1 (by decide)) (.slice (some ⟨b1, 0, none⟩) (mo + 1) c1)) (p := ⟨w.heap.size + 1, 0, none⟩) (own_ne_blk hown hq2 (by decide)) (.slice none 0 0)
    exact own_lower h3 (by omega)
  · have h1 : Below w.heap.size w wr := ⟨hb.os.trans hbw.os, hb.tape.trans hbw.tape, hb.output.trans hbw.output, by have := hb.size; have := hbw.size; omega, fun i hi => (hb.block i (by omega)).trans (hbw.block i hi)⟩
    have h2 : Below w.heap.size w w1 := (below_drew (h1.alloc h1.size X)).grown hg (by have := h1.size; show w.heap.size ≤ (wr.alloc X).heap.size; simp; omega) (fun k hk => by have := own_base hown0 k hk; omega)
    exact (h2.setCell (p := ⟨w.heap.size, 0, none⟩) (Nat.le_refl _) _).setCell (p := ⟨w.heap.size + 1, 0, none⟩) (Nat.le_succ _) _

theorem runF_err {L0 : List S35} {x : S35} (hx : L0.getLast? = some x) (h6 : x.f0 = 6) {e : Int × Int} (h : runL L0.length ⟨L0, [], [], [], 0⟩ = .error e) : runF L0 = ([], [⟨e.1, e.2⟩]) := by
  unfold runF
  rw [hx]
  simp only [h6, if_true, h]
theorem runF_open {L0 : List S35} {x : S35} (hx : L0.getLast? = some x) (h6 : x.f0 = 6) {s : St} {p : Part} {ps : List Part} (h : runL L0.length ⟨L0, [], [], [], 0⟩ = .ok s) (hp : s.parts = p :: ps) : runF L0 = ([], [⟨p.at_, 30⟩]) := by
  unfold runF
  rw [hx]
  simp only [h6, if_true, h, hp]
theorem runF_ok {L0 : List S35} {x : S35} (hx : L0.getLast? = some x) (h6 : x.f0 = 6) {s : St} (h : runL L0.length ⟨L0, [], [], [], 0⟩ = .ok s) (hp : s.parts = []) : runF L0 = (s.out ++ s.l.take 1, []) := by
  unfold runF
  rw [hx]
  simp only [h6, if_true, h, hp]

set_option maxRecDepth 100000 in
set_option maxHeartbeats 2000000 in
theorem run_any (L0 : List S35) (b c0 : Nat) (w : World) (hG : Good L0) (hne : 0 < L0.length) (hsrc : SrcAt w b L0) (hb : b < w.heap.size) (hc : L0.length ≤ c0) (hm : c0 ≤ maxLen) :
    Calls Try.prog 8 #[.slice (some ⟨b, 0, none⟩) L0.length c0] w fun e w' => RunPost w w' (runF L0) e := by
  have hmf : ∀ (fn : Fn) (first cap : Array Value) (w : World), (Instr.makeFunc fn first cap).run Try.prog w = .ok (.func fn first cap) w := fun _ _ _ _ => rfl
  have hmm := @run_makeMap Try.prog
  obtain ⟨x, hx⟩ : ∃ x, L0[L0.length - 1]? = some x := ⟨_, List.getElem?_eq_getElem (by omega)⟩
  have hx6 : x.f0 = 6 := by
    rcases Classical.em (x.f0 = 6) with h | h
    · exact h
    · have := hG.ends _ _ hx h
      omega
  have hlast : L0.getLast? = some x := by rw [List.getLast?_eq_getElem?]; exact hx
  obtain ⟨x0, _, _⟩ := hsrc _ _ hx
  rw [hx6] at x0
  have hlen := hG.len
  have x0' : ∀ o, (w.alloc o).cell? ⟨b, (L0.length - 1) * 3, none⟩ = some (.int .i64 6) := fun o => (World.cell?_alloc_lt w o _ hb).trans x0
  have x0'' : ∀ o o', ((w.alloc o).alloc o').cell? ⟨b, (L0.length - 1) * 3, none⟩ = some (.int .i64 6) := fun o o' => (World.cell?_alloc_lt _ o' _ (by simp; omega)).trans (x0' o)
  have hz : ((L0.length : Int) == 0) = false := by rw [beq_eq_false_iff_ne]; omega
  have hz1 : (1 : Int) ≤ L0.length := by omega
  obtain ⟨hps, hr1, hr2, hbel, hsz⟩ := run_start L0 b c0 w hne hsrc hb hc hm _ rfl
  have HS := Lib.hid hsrc
  have HG := Lib.hid hG
  have HLast := Lib.hid hlast
  have H6 := Lib.hid hx6
  have HP := Lib.hid hps
  have HR1 := Lib.hid hr1
  have HR2 := Lib.hid hr2
  have HBel := Lib.hid hbel
  clear hx hx6 hsrc hG x0 x0' hlast hps hr1 hr2 hbel
  go_enter_defers Try.func8, Try.ntmps8
  go_wp2
  generalize ((((w.alloc (.cells #[.slice none 0 0] 22)).alloc (.cells #[.slice none 0 0] 25)).alloc (.map #[] 0)).alloc (.cells #[.slice (some ⟨b, 0, none⟩) L0.length c0, .map (some (w.heap.size + 1 + 1)), .slice none 0 0, .slice none 0 0, .int .i64 0] 46)) = w0 at *
  clear x0'' hz hz1
  generalize hgg : w.heap.size + 1 + 1 + 1 = g at *
  have HGg := Lib.hid hgg
  clear hgg
  go_loopg [5] L0.length (fun kq v5 wr => ∃ s1, PSx L0 b c0 (w.heap.size + 2) g wr s1 ∧ Below (w.heap.size + 2) w0 wr ∧ Aside0 (runL kq s1 = runL L0.length ⟨L0, [], [], [], 0⟩) ∧ s1.l.length ≤ kq ∧ s1.parts.length + s1.l.length ≤ L0.length ∧ s1.out.length ≤ 16384)
  case atStart => exact ⟨_, ⟨_, _, _, _, _, _, HP.out⟩, Below.refl _ _, ⟨rfl⟩, Nat.le_refl _, by simp, by simp⟩
  case round =>
    obtain ⟨s1, ⟨i, B, n, D, pv, ov, hp1⟩, hb1, hrun, hk1, hpl, hol⟩ := hrel
    obtain ⟨x, hx, hd⟩ := drop_head hp1.hi
    have hl1 := hp1.hl
    rw [hd] at hl1
    have HP1 := Lib.hid hp1
    have HB1 := Lib.hid hb1
    have hi := hp1.hi
    have hcm : c0 ≤ 9223372036854775807 := by have := hp1.hm; simpa [maxLen] using this
    have hlk : (L0.drop (i + 1)).length + 1 ≤ gk := by rw [hl1] at hk1; simpa using hk1
    obtain ⟨k2, rfl⟩ : ∃ m, gk = m + 1 := ⟨gk - 1, by omega⟩
    have hrun2 := hrun.out
    rw [runL, hl1] at hrun2
    dsimp only at hrun2
    obtain ⟨x0, x1, x2⟩ := hp1.src i x hx
    have c0' := blk_cell hp1.blk 0
    have f0' := blk_frozen hp1.blk 0
    have hgl := hp1.glt
    have hbs := hp1.base_le
    have hR1 : wr.heap[w.heap.size]? = some (.cells #[.slice none 0 0] 22 (0, 0)) := (hb1.block _ (by omega)).trans HR1.out
    have hR2 : wr.heap[w.heap.size + 1]? = some (.cells #[.slice none 0 0] 25 (0, 0)) := (hb1.block _ (by omega)).trans HR2.out
    have HR1r := Lib.hid hR1
    have HR2r := Lib.hid hR2
    have Hl1 := Lib.hid hl1
    have hi6 : x.f0 ≠ 6 → i + 1 < L0.length := HG.out.ends i x hx
    have hts := HG.out.texts i x hx
    clear hp1 hb1 hrun hx hd hl1 hk1 hR1 hR2
    by_cases h6 : x.f0 = 6
    · rw [if_pos h6] at hrun2
      rw [h6] at x0
      have HE := Lib.hid hrun2
      have Hx6 := Lib.hid h6
      clear hrun2 h6 hi6
      obtain ⟨A, c, hsl, hlc, hcmx, hrow⟩ := parts_row HP1.out.parts
      have c2' := blk_cell HP1.out.blk 2
      cases hpp : s1.parts with
      | nil =>
        rw [hsl, hpp] at c2'
        have Hpp := Lib.hid hpp
        have Hsl := Lib.hid hsl
        clear hpp hrow hsl hlc
        obtain ⟨A3, c3, hov⟩ := own_slice HP1.out.out
        subst hov
        have hown := HP1.out.out
        have hc3 := blk_cell HP1.out.blk 3
        generalize hmm2 : s1.out.length = mo at hc3
        have Hown := Lib.hid hown
        have Hmm2 := Lib.hid hmm2
        clear hown hmm2
        have f1 := blk_frozen HR1r.out 0
        have f2 := blk_frozen HR2r.out 0
        have g1 := blk_cell HR1r.out 0
        have g2 := blk_cell HR2r.out 0
        have hmo : mo ≤ 140737488 := by have := Hmm2.out; omega
        go_wp2
        have hn1 : ∀ (j : Nat) (u : Value), ([.int .i64 6, .string x.f1, .int .i64 x.f2] : List Value)[j]? = some u → (wr.alloc (.cells #[.int .i64 6, .string x.f1, .int .i64 x.f2] 35)).drew.cell? ((⟨wr.heap.size, 0, none⟩ : Addr).add j) = some u := by
          intro j u hu
          have hz := World.news_of_block (w := (wr.alloc (.cells #[.int .i64 6, .string x.f1, .int .i64 x.f2] 35)).drew) (cs := #[.int .i64 6, .string x.f1, .int .i64 x.f2]) (t := 35) (fr := (0, 0)) (heap_alloc_new wr _)
          exact hz j u hu
        have hkeep : ∀ w1 : World, (wr.alloc (.cells #[.int .i64 6, .string x.f1, .int .i64 x.f2] 35)).drew.grownBy w1 (Value.slice A3 mo c3).ownBlock → w1.heap[w.heap.size]? = some (.cells #[.slice none 0 0] 22 (0, 0)) ∧ w1.heap[w.heap.size + 1]? = some (.cells #[.slice none 0 0] 25 (0, 0)) := by
          intro w1 hg
          have hl1 := (Array.getElem?_eq_some_iff.1 HR1r.out).1
          have hl2 := (Array.getElem?_eq_some_iff.1 HR2r.out).1
          have e1 : (wr.alloc (.cells #[.int .i64 6, .string x.f1, .int .i64 x.f2] 35)).drew.heap[w.heap.size]? = some (.cells #[.slice none 0 0] 22 (0, 0)) := (Below.heap_alloc _ _ _ hl1).trans HR1r.out
          have e2 : (wr.alloc (.cells #[.int .i64 6, .string x.f1, .int .i64 x.f2] 35)).drew.heap[w.heap.size + 1]? = some (.cells #[.slice none 0 0] 25 (0, 0)) := (Below.heap_alloc _ _ _ hl2).trans HR2r.out
          have ho := (Hown.out.alloc (.cells #[.int .i64 6, .string x.f1, .int .i64 x.f2] 35)).drew
          rw [Hmm2.out] at ho
          exact ⟨(hg.block _ (Array.getElem?_eq_some_iff.1 e1).1 (own_ne_blk ho e1 (by decide))).trans e1, (hg.block _ (Array.getElem?_eq_some_iff.1 e2).1 (own_ne_blk ho e2 (by decide))).trans e2⟩
        have Hn1 := Lib.hid hn1
        have Hkeep := Lib.hid hkeep
        have hbs2 : w.heap.size + 2 ≤ (wr.alloc (.cells #[.int .i64 6, .string x.f1, .int .i64 x.f2] 35)).heap.size := by simp; omega
        have Hbs2 := Lib.hid hbs2
        clear hn1 hkeep hbs2
        have hlt0 : 0 < L0.length - i := by omega
        refine wp_region_noPanic ?_
        go_region_law (refine step_append_mine rfl (.tmp 83) (.tmp 90) 22 rfl (w.heap.size + 2) 35 _ 3 32 Try.underlying22 info35 rfl (by decide) (.slice A3 mo c3) mo (tflat s1.out) (by simp [Act.eval, Act.put]) (by have := Hown.out; rw [Hmm2.out] at this; exact this.alloc _) ⟨wr.heap.size, 0, none⟩ 1 1 [.int .i64 6, .string x.f1, .int .i64 x.f2] (by simp [Act.eval, Act.put]) rfl (by exact Hn1.out) (by simp [Value.oneCell']) (by unfold maxLen; omega) (by omega) (by exact Hbs2.out) ?_; intro sv1 w1 hown1 hg1 hat1; obtain ⟨b1, c1, hv1, _, _⟩ := hown1.form (by omega); subst hv1; have hk12 := Hkeep.out w1 hg1; have hcell1 := blk_cell hk12.1 0; have hfro1 := blk_frozen hk12.1 0; have hcell2 := blk_cell hk12.2 0; have hfro2 := blk_frozen hk12.2 0; have Hk12 := Lib.hid hk12; have Hown1 := Lib.hid hown1; have Hg1 := Lib.hid hg1; have Hat1 := Lib.hid hat1; clear hk12 hown1 hg1 hat1)
        all_goals
          refine NoPanic.normal ?_
          go_wp2
          refine leaves_cons (f := 12) (args := #[.pointer (some ⟨w.heap.size, 0, none⟩), .pointer (some ⟨w.heap.size + 1, 0, none⟩)]) (by simp) (by simp [go_sem]) ?_
          refine (catch_idle ⟨w.heap.size, 0, none⟩ ⟨w.heap.size + 1, 0, none⟩ _).mono ?_
          rintro e u' w'' ⟨rfl, rfl, rfl⟩
          have ho2 := Hown.out
          rw [Hmm2.out] at ho2
          obtain ⟨v1, v2, hpost⟩ := run_done (x := ⟨6, x.f1, x.f2⟩) HBel.out hsz HB1.out Hg1.out ho2 Hmm2.out Hown1.out Hk12.out.1 Hk12.out.2
          have HPost := Lib.hid hpost
          generalize ((w1.setCell ⟨w.heap.size, 0, none⟩ (.slice (some ⟨b1, 0, none⟩) (mo + 1) c1)).setCell ⟨w.heap.size + 1, 0, none⟩ (.slice none 0 0)) = wz at *
          clear hpost
          refine (?_ : ∃ v, (results Try.f8 _).run Try.prog wz = .ok v wz ∧ RunPost w wz (runF L0) (.returned v))
          refine ⟨.tuple #[.slice (some ⟨b1, 0, none⟩) (mo + 1) c1, .slice none 0 0], by simp [results, Try.results8, go_sem, v1, v2], ?_⟩
          rw [runF_ok HLast.out H6.out HE.out.symm Hpp.out, Hl1.out]
          have hxe : x = ⟨6, x.f1, x.f2⟩ := by rw [← Hx6.out]
          rw [hxe]
          exact HPost.out
      | cons p ps =>
        have hat : s1.parts[0]? = some p := by rw [hpp]; rfl
        obtain ⟨pb, rfl, hpb, hcell⟩ := hrow (by rw [hpp]; simp)
        obtain ⟨p0, _, _, _⟩ := hcell 0 p hat
        rw [Nat.zero_mul] at p0
        rw [hsl, hpp] at c2'
        have Hpp := Lib.hid hpp
        clear hpp hrow hcell hat
        have hgt : decide ((0 : Int) < ((p :: ps).length : Int)) = true := by simp <;> omega
        have hps1 : 0 < (p :: ps).length := by simp
        generalize (p :: ps).length = pn at c2' hgt hps1
        go_wp2_with fail
        with_reducible refine (no_any p.at_ 30 _).mono ?_
        rintro e w' ⟨rfl, rfl⟩
        go_wp2
        have hb7 := HB1.out
        have hq1 : wr.heap[w.heap.size]? = some (.cells #[.slice none 0 0] 22 (0, 0)) := (hb7.block _ (by omega)).trans HR1.out
        have hq2 : wr.heap[w.heap.size + 1]? = some (.cells #[.slice none 0 0] 25 (0, 0)) := (hb7.block _ (by omega)).trans HR2.out
        refine leaves_cons (f := 12) (args := #[.pointer (some ⟨w.heap.size, 0, none⟩), .pointer (some ⟨w.heap.size + 1, 0, none⟩)]) (by simp) (by simp [go_sem]) ?_
        refine (catch_pan w.heap.size (w.heap.size + 1) _ _ p.at_ 30 [] wr hq1 hq2 (by omega)).mono ?_
        rintro e u' w'' ⟨rfl, rfl, rfl⟩
        obtain ⟨v1, v2, hpost⟩ := caught_done HBel.out hsz hb7 p.at_ 30 hq1 hq2
        have HPost := Lib.hid hpost
        generalize caught wr w.heap.size (w.heap.size + 1) p.at_ 30 = wz at *
        clear hpost
        refine (?_ : ∃ v, (results Try.f8 _).run Try.prog wz = .ok v wz ∧ RunPost w wz (runF L0) (.returned v))
        refine ⟨.tuple #[.slice none 0 0, .slice (some ⟨wr.heap.size + 1, 0, none⟩) 1 1], by simp [results, Try.results8, go_sem, v1, v2], ?_⟩
        rw [runF_open HLast.out H6.out HE.out.symm Hpp.out]
        exact HPost.out
    · rw [if_neg h6] at hrun2
      have n6 : (x.f0 != 6) = true := by simpa using h6
      have hi1 := hi6 h6
      have hp2 : PS L0 b c0 (w.heap.size + 2) g (wr.setCell ⟨g, 0, none⟩ (.slice (some ⟨b, i * 3 + 3, none⟩) (L0.length - i - 1) (c0 - i - 1))) { s1 with l := L0.drop (i + 1) } (i + 1) B n D pv ov := by
        refine HP1.out.upd 0 _ _ (i + 1) (by omega) hi1 rfl ?_ rfl rfl rfl
        rw [show (i + 1) * 3 = i * 3 + 3 from by omega, show L0.length - (i + 1) = L0.length - i - 1 from by omega, show c0 - (i + 1) = c0 - i - 1 from by omega]
        rfl
      have hp3 := hp2.kept ((Below.refl _ _).alloc (Nat.le_refl _) (.cells #[.int .i64 x.f0, .string x.f1, .int .i64 x.f2] 35))
      have hb3 := (HB1.out.setCell (p := ⟨g, 0, none⟩) HP1.out.bg (.slice (some ⟨b, i * 3 + 3, none⟩) (L0.length - i - 1) (c0 - i - 1))).alloc hp2.base_le (.cells #[.int .i64 x.f0, .string x.f1, .int .i64 x.f2] 35)
      have HP3 := Lib.hid hp3
      have HB3 := Lib.hid hb3
      have hfew : s1.parts.length ≤ 1000000 := by omega
      have hpl2 : s1.parts.length + (L0.drop (i + 1)).length + 1 ≤ L0.length := by rw [Hl1.out] at hpl; simp at hpl ⊢; omega
      clear h6 hi6 hp2 hp3 hb3
      by_cases h4 : x.f0 = 4
      · have hst : stepF x { s1 with l := L0.drop (i + 1) } = tickF x { s1 with l := L0.drop (i + 1) } := by rw [stepF, if_pos h4]
        rw [hst] at hrun2
        have hT := tick_any L0 b c0 (w.heap.size + 2) g _ _ x HG.out ⟨_, _, _, _, _, _, HP3.out⟩ hfew hts
        rw [h4] at x0 n6 HP3 HB3 hT
        have HT := Lib.hid hT
        clear hT hst
        cases hr : tickF x { s1 with l := L0.drop (i + 1) } with
        | error e2 =>
          rw [hr] at hrun2
          have hT := HT.out
          rw [hr] at hT
          have HT2 := Lib.hid hT
          have HE := Lib.hid hrun2.symm
          clear hr hrun2 hT HT
          go_wp2_with fail
          have hT := HT2.out
          refine hT.mono ?_
          clear hT
          rintro e w' ⟨rfl, hb6⟩
          have HB6 := Lib.hid hb6
          clear hb6
          go_wp2
          have hb7 := HB3.out.trans HB6.out
          have hq1 : w'.heap[w.heap.size]? = some (.cells #[.slice none 0 0] 22 (0, 0)) := (hb7.block _ (by omega)).trans HR1.out
          have hq2 : w'.heap[w.heap.size + 1]? = some (.cells #[.slice none 0 0] 25 (0, 0)) := (hb7.block _ (by omega)).trans HR2.out
          refine leaves_cons (f := 12) (args := #[.pointer (some ⟨w.heap.size, 0, none⟩), .pointer (some ⟨w.heap.size + 1, 0, none⟩)]) (by simp) (by simp [go_sem]) ?_
          refine (catch_pan w.heap.size (w.heap.size + 1) _ _ e2.1 e2.2 [] w' hq1 hq2 (by omega)).mono ?_
          rintro e u' w'' ⟨rfl, rfl, rfl⟩
          obtain ⟨v1, v2, hpost⟩ := caught_done HBel.out hsz hb7 e2.1 e2.2 hq1 hq2
          have HPost := Lib.hid hpost
          generalize caught w' w.heap.size (w.heap.size + 1) e2.1 e2.2 = wz at *
          clear hpost
          refine (?_ : ∃ v, (results Try.f8 _).run Try.prog wz = .ok v wz ∧ RunPost w wz (runF L0) (.returned v))
          refine ⟨.tuple #[.slice none 0 0, .slice (some ⟨w'.heap.size + 1, 0, none⟩) 1 1], by simp [results, Try.results8, go_sem, v1, v2], ?_⟩
          rw [runF_err HLast.out H6.out HE.out]
          exact HPost.out
        | ok s2 =>
          obtain ⟨l1, l2⟩ := tickF_len hr
          have l3 := tickF_out hr hol
          rw [hr] at hrun2
          have hT := HT.out
          rw [hr] at hT
          have HT2 := Lib.hid hT
          have HE := Lib.hid hrun2
          clear hr hrun2 hT HT
          go_wp2_with fail
          have hT := HT2.out
          refine hT.mono ?_
          clear hT
          rintro e w' ⟨rfl, hp6, hb6⟩
          have HB6 := Lib.hid hb6
          have HP6 := Lib.hid hp6
          clear hb6 hp6
          go_wp2
          go_roundg k2
          case measure => omega
          case rel => exact ⟨s2, HP6.out, HB3.out.trans HB6.out, ⟨HE.out⟩, by have l2' : s2.l.length ≤ (L0.drop (i + 1)).length := l2; omega, by have l1' : s2.parts.length + s2.l.length ≤ s1.parts.length + (L0.drop (i + 1)).length := l1; omega, l3⟩
      · have n4 : (x.f0 == 4) = false := by simpa using h4
        by_cases h5 : x.f0 = 5
        · have hst : stepF x { s1 with l := L0.drop (i + 1) } = .ok { s1 with l := L0.drop (i + 1) } := by rw [stepF, if_neg h4, if_pos h5]
          rw [hst] at hrun2
          have HE := Lib.hid hrun2
          rw [h5] at x0 n6 HP3 HB3
          clear hrun2 hst h4 n4 h5
          go_wp2
          go_roundg k2
          case measure => omega
          case rel => exact ⟨_, ⟨_, _, _, _, _, _, HP3.out⟩, HB3.out, ⟨HE.out⟩, by show (L0.drop (i + 1)).length ≤ k2; omega, by show s1.parts.length + (L0.drop (i + 1)).length ≤ _; omega, hol⟩
        · have n5 : (x.f0 != 5) = true := by simpa using h5
          have hst : stepF x { s1 with l := L0.drop (i + 1) } = if keptF { s1 with l := L0.drop (i + 1) } = true then putF x { s1 with l := L0.drop (i + 1) } else .ok { s1 with l := L0.drop (i + 1) } := by rw [stepF, if_neg h4, if_neg h5]
          rw [hst] at hrun2
          clear hst h4 h5
          have hK := kept_any L0 b c0 (w.heap.size + 2) g _ _ _ _ _ _ _ _ HP3.out
          cases hk : keptF { s1 with l := L0.drop (i + 1) } with
          | false =>
            rw [hk] at hrun2 hK
            have HE := Lib.hid hrun2
            have HK := Lib.hid hK
            clear hrun2 hK hk
            go_wp2_with fail
            have hK := HK.out
            with_reducible refine hK.mono ?_
            clear hK
            rintro e w' ⟨rfl, m, rfl⟩
            go_wp2
            go_roundg k2
            case measure => omega
            case rel => exact ⟨_, ⟨_, _, _, _, _, _, HP3.out.drewN m⟩, pw_below_drewN HB3.out m, ⟨HE.out⟩, by show (L0.drop (i + 1)).length ≤ k2; omega, by show s1.parts.length + (L0.drop (i + 1)).length ≤ _; omega, hol⟩
          | true =>
            rw [hk] at hrun2 hK
            have HK := Lib.hid hK
            clear hK hk
            by_cases hO : 16384 ≤ s1.out.length
            · have hpt : putF x { s1 with l := L0.drop (i + 1) } = .error (x.f2, 2) := by unfold putF; rw [if_pos hO]
              rw [if_pos rfl, hpt] at hrun2
              have HE := Lib.hid hrun2.symm
              have hY := fun m => put_no L0 b c0 (w.heap.size + 2) g _ { s1 with l := L0.drop (i + 1) } x _ _ _ _ _ _ (HP3.out.drewN m) hO
              have HY := Lib.hid hY
              clear hrun2 hpt hY
              go_wp2_with fail
              have hK := HK.out
              with_reducible refine hK.mono ?_
              clear hK
              rintro e w' ⟨rfl, m, rfl⟩
              go_wp2_with fail
              have hY := HY.out m
              with_reducible refine hY.mono ?_
              clear hY
              rintro e w' ⟨rfl, hb6⟩
              have HB6 := Lib.hid hb6
              clear hb6
              go_wp2
              have hb7 := (pw_below_drewN HB3.out m).trans HB6.out
              have hq1 : w'.heap[w.heap.size]? = some (.cells #[.slice none 0 0] 22 (0, 0)) := (hb7.block _ (by omega)).trans HR1.out
              have hq2 : w'.heap[w.heap.size + 1]? = some (.cells #[.slice none 0 0] 25 (0, 0)) := (hb7.block _ (by omega)).trans HR2.out
              refine leaves_cons (f := 12) (args := #[.pointer (some ⟨w.heap.size, 0, none⟩), .pointer (some ⟨w.heap.size + 1, 0, none⟩)]) (by simp) (by simp [go_sem]) ?_
              refine (catch_pan w.heap.size (w.heap.size + 1) _ _ x.f2 2 [] w' hq1 hq2 (by omega)).mono ?_
              rintro e u' w'' ⟨rfl, rfl, rfl⟩
              obtain ⟨v1, v2, hpost⟩ := caught_done HBel.out hsz hb7 x.f2 2 hq1 hq2
              have HPost := Lib.hid hpost
              generalize caught w' w.heap.size (w.heap.size + 1) x.f2 2 = wz at *
              clear hpost
              refine (?_ : ∃ v, (results Try.f8 _).run Try.prog wz = .ok v wz ∧ RunPost w wz (runF L0) (.returned v))
              refine ⟨.tuple #[.slice none 0 0, .slice (some ⟨w'.heap.size + 1, 0, none⟩) 1 1], by simp [results, Try.results8, go_sem, v1, v2], ?_⟩
              rw [runF_err HLast.out H6.out HE.out]
              exact HPost.out
            · have hpt : putF x { s1 with l := L0.drop (i + 1) } = .ok { s1 with l := L0.drop (i + 1), out := s1.out ++ [x] } := by unfold putF; rw [if_neg hO]
              rw [if_pos rfl, hpt] at hrun2
              have HE := Lib.hid hrun2
              have hY := fun m => put_ok L0 b c0 (w.heap.size + 2) g _ { s1 with l := L0.drop (i + 1) } x _ _ _ _ _ _ (HP3.out.drewN m) (by show s1.out.length < 16384; omega)
              have HY := Lib.hid hY
              have hO2 : s1.out.length < 16384 := by omega
              clear hrun2 hpt hY hO
              go_wp2_with fail
              have hK := HK.out
              with_reducible refine hK.mono ?_
              clear hK
              rintro e w' ⟨rfl, m, rfl⟩
              go_wp2_with fail
              have hY := HY.out m
              with_reducible refine hY.mono ?_
              clear hY
              rintro e w' ⟨rfl, ⟨ov2, hp6⟩, hb6⟩
              have HB6 := Lib.hid hb6
              have HP6 := Lib.hid hp6
              clear hb6 hp6
              go_wp2
              go_roundg k2
              case measure => omega
              case rel => exact ⟨_, ⟨_, _, _, _, _, _, HP6.out⟩, (pw_below_drewN HB3.out m).trans HB6.out, ⟨HE.out⟩, by show (L0.drop (i + 1)).length ≤ k2; omega, by show s1.parts.length + (L0.drop (i + 1)).length ≤ _; omega, by show (s1.out ++ [x]).length ≤ 16384; simp; omega⟩
end Go.Proofs.Ytimcmhfcmnooeaa
