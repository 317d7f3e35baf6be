/- The document's queue: Without, walked. -/
import Derived.Test.YtebcbjmdkbmnkaaEvRef
import Derived.OwnWalk
namespace Go.Proofs.Ytebcbjmdkbmnkaa
set_option linter.unusedVariables false
set_option linter.unusedSimpArgs false
open Go.RowKit

theorem below_grown {B : Nat} {a w w' : World} {row : Option Nat} (hb : Below B a w) (hB : B ≤ w.heap.size) (hg : w.grownBy w' row) (hr : ∀ k, row = some k → B ≤ k) : Below B a w' :=
  hb.trans (Below.mk hg.os hg.tape hg.output hg.size (fun k hk => hg.block k (Nat.lt_of_lt_of_le hk hB) (fun e => by have := hr k e.symm; omega)))

theorem own_base {w : World} {base n size : Nat} {e : TypeId} {v : Value} {xs : List Value} (h : w.ownsRow base e size v n xs) : ∀ k, v.ownBlock = some k → base ≤ k := fun k hk => (h.lt k hk).1

/-- a row of one's own, begun behind 'base' -/
def OR (base : Nat) (w : World) (v : Value) (M : List Ev) : Prop := w.ownsRow base 30 6 v M.length (flat M)

/-- append of one event onto a row of one's own, in a plain region -/
theorem list_app {ops : Array Oper} {rest : List Oper} {o : Oper} {a : Act} {w : World} {Q : Exit → Act → World → Prop} (hgd : o.guard = none) (s x : Operand)
    (ho : o.op = .call { callee := .builtin .append, args := #[s, x], argTypes := #[40, 40] }) (base : Nat) (W0 : World) (v : Value) (M : List Ev) (y : Ev) (g : Nat)
    (hs : a.eval s = v) (hown : OR base w v M) (hx : a.eval x = .slice (some ⟨g, 0, none⟩) 1 1)
    (hy : w.heap[g]? = some (.cells #[.int .i64 y.t, .int .i64 y.n, .string y.v, .int .i64 y.f, .int .i64 y.s, .bool y.a] 30 (0, 0))) (hM : M.length ≤ 4097) (hb : Below base W0 w) (hbase : base ≤ w.heap.size)
    (h : ∀ v' w', OR base w' v' (M ++ [y]) → Below base W0 w' → base ≤ w'.heap.size → wpList Try.prog ops Q rest (a.put o.dst v') w') :
    wpList Try.prog ops Q (o :: rest) a w := by
  obtain ⟨i0, hi, hzz⟩ := Option.map_eq_some_iff.1 info30
  simp only [Prod.mk.injEq] at hzz
  obtain ⟨hz0, hz1, hz2⟩ := hzz
  refine wpList_append_own_at w hgd s x 40 ho base 30 i0 _ 6 56 Try.underlying40 hi hz0 hz1 hz2 rfl (by decide) v M.length (flat M) hs hown ⟨g, 0, none⟩ 1 1 y.cl hx rfl ?_ ?_ (by unfold maxLen; omega) (by omega) hbase ?_
  · exact World.news_of_block hy
  · intro u hu
    simp only [Ev.cl, List.mem_cons, List.not_mem_nil, or_false] at hu
    rcases hu with rfl | rfl | rfl | rfl | rfl | rfl <;> rfl
  · intro v' w' h1 h2 _ _
    refine h v' w' ?_ (below_grown hb hbase h2 (own_base hown)) (Nat.le_trans hbase h2.size)
    unfold OR
    rw [flat_snoc, List.length_append, List.length_singleton]
    exact h1

/-- A row that is read: whole, as the document's queue holds it. -/
def RR (w : World) (v : Value) (L : List Ev) : Prop := w.ownsRow 0 30 6 v L.length (flat L)
theorem RR.rd {w : World} {v : Value} {L : List Ev} (h : RR w v L) : ∃ A c, v = .slice A L.length c ∧ Rd w A L := by
  rcases h.2 with ⟨rfl, h0⟩ | ⟨g', cap, cur, rfl, _⟩
  · have : L.length = 0 := by
      have := flat_len L; rw [h0] at this; simp at this; omega
    exact ⟨none, 0, by rw [this], fun h => by omega⟩
  · exact ⟨_, _, rfl, fun h0 => ⟨g', rfl, (Rw.of_own h).2.lt, fun i x hx => (Rw.of_own h).2.at_ hx⟩⟩

/-- the event that a load leaves, as a block -/
theorem evAt_list {L : List Ev} {k : Nat} (h : k < L.length) : L.drop k = evAt L k :: L.drop (k + 1) := by
  rw [List.drop_eq_getElem_cons h]
  simp [evAt, List.getD_eq_getElem?_getD, List.getElem?_eq_getElem h]

theorem res_c1 {P : Program} {fn : Func} {p : Tmp} {ty : TypeId} (h : fn.results = #[.cell p ty]) (tmps : Array Value) (w : World) (g : Nat) (t : TypeId) (cs : Array Value) (fr : Nat × Nat) (d : TypeDesc)
    (hp : tmps.getD p undef = .pointer (some ⟨g, 0, none⟩)) (hg : w.heap[g]? = some (.cells cs t fr))
    (hu : P.underlying ty = some d) (hd : (match d with | .struct _ | .array _ _ => true | _ => false) = true) (hi : (P.info? ty).map (·.size) = some cs.size) :
    (results fn tmps).run P w = .ok (.agg cs) w := by
  have hp' : tmps[p]?.getD undef = .pointer (some ⟨g, 0, none⟩) := by simpa using hp
  simp [results, h, hp', asAddr, run_loadVar_row w g t ty cs fr d hg hu hd hi]
theorem size42 (a b : Value) : (Try.prog.info? 42).map (·.size) = some (#[a, b] : Array Value).size := by
  have h : (Try.prog.info? 42).map (·.size) = some 2 := by kernel_rfl
  rw [h]; rfl
/-- the world in which Without, Put leave: the queue's list and the result stand written -/
theorem two_done {w0 W wr : World} {B : Nat} {lim : Int} {v x0 x1 : Value} {M : List Ev} (hW : Below B w0 W) (hB : w0.heap.size = B) (hb : Below (B + 2) W wr) (hWs : B + 2 ≤ W.heap.size) (hv : OR (B + 2) wr v M)
    (h2 : wr.heap[B + 1]? = some (.cells #[x0, x1] 42 (0, 0))) :
    (((wr.setCell ⟨B, 1, none⟩ v).setCell ⟨B + 1, 0, none⟩ (.int .i64 lim)).setCell ⟨B + 1, 1, none⟩ v).heap[B + 1]? = some (.cells #[.int .i64 lim, v] 42 (0, 0)) ∧
    (((wr.setCell ⟨B, 1, none⟩ v).setCell ⟨B + 1, 0, none⟩ (.int .i64 lim)).setCell ⟨B + 1, 1, none⟩ v).ownsRow w0.heap.size 30 6 v M.length (flat M) ∧
    Below w0.heap.size w0 (((wr.setCell ⟨B, 1, none⟩ v).setCell ⟨B + 1, 0, none⟩ (.int .i64 lim)).setCell ⟨B + 1, 1, none⟩ v) := by
  have hne : ∀ k, k < B + 2 → some k ≠ v.ownBlock := fun k hk e => by have := own_base hv _ e.symm; omega
  refine ⟨?_, ?_, ?_⟩
  · rw [blk_set (cs := #[.int .i64 lim, x1])]
    · rfl
    · rw [blk_set (cs := #[x0, x1])]
      · rfl
      · rw [Below.heap_setCell _ _ _ _ (by show B + 1 ≠ B; omega)]
        exact h2
  · rw [hB]
    exact own_setCell' (own_setCell' (own_setCell' (own_lower hv (by omega)) (hne B (by omega)) _) (hne (B + 1) (by omega)) _) (hne (B + 1) (by omega)) _
  · rw [hB]
    have h0 : Below B w0 wr := hW.trans (hb.mono (by omega))
    exact ((h0.setCell (p := ⟨B, 1, none⟩) (Nat.le_refl _) _).setCell (p := ⟨B + 1, 0, none⟩) (Nat.le_succ _) _).setCell (p := ⟨B + 1, 1, none⟩) (Nat.le_succ _) _

/-- what stands behind place i once place k is left out -/
def wo (L : List Ev) (k i : Nat) : List Ev := if i ≤ k then (L.drop i).eraseIdx (k - i) else L.drop i
theorem wo_skip {L : List Ev} {k : Nat} (h : k < L.length) : wo L k k = wo L k (k + 1) := by
  unfold wo
  rw [if_pos (Nat.le_refl _), if_neg (by omega), evAt_list h, Nat.sub_self]
  rfl
theorem wo_take {L : List Ev} {k i : Nat} (h : i < L.length) (hne : i ≠ k) : wo L k i = evAt L i :: wo L k (i + 1) := by
  unfold wo
  rw [evAt_list h]
  rcases Nat.lt_or_ge k i with h1 | h1
  · rw [if_neg (by omega), if_neg (by omega)]
  · rw [if_pos h1, if_pos (by omega), show k - i = (k - (i + 1)) + 1 from by omega]
    rfl
theorem wo_end {L : List Ev} {k i : Nat} (h : L.length ≤ i) : wo L k i = [] := by
  unfold wo
  rw [List.drop_of_length_le h]
  split <;> simp

set_option maxRecDepth 100000 in
set_option maxHeartbeats 1000000 in
theorem without_any (lim : Int) (k : Nat) (A : Option Addr) (n c : Nat) (L : List Ev) (w : World) (hL : L.length = n) (hn : n ≤ 4096) (hk : k < n) (hR : Rd w A L) :
    Calls Try.prog 29 #[.agg #[.int .i64 lim, .slice A n c], .int .i64 k] w fun e w' => ∃ v, e = .returned (.agg #[.int .i64 lim, v]) ∧ w'.ownsRow w.heap.size 30 6 v (L.eraseIdx k).length (flat (L.eraseIdx k)) ∧ Below w.heap.size w w' := by
  have HR := Lib.hid hR
  have HL := Lib.hid hL
  clear hR hL
  go_enter Try.func29, Try.ntmps29
  go_wp2
  have hc0 : ((w.alloc (.cells #[.int .i64 lim, .slice A n c] 42)).alloc (.cells #[.int .i64 0, .slice none 0 0] 42)).heap[w.heap.size]? = some (.cells #[.int .i64 lim, .slice A n c] 42 (0, 0)) := (Below.heap_alloc (w.alloc (.cells #[.int .i64 lim, .slice A n c] 42)) _ w.heap.size (by simp)).trans (heap_alloc_new _ _)
  have hc2 : ((w.alloc (.cells #[.int .i64 lim, .slice A n c] 42)).alloc (.cells #[.int .i64 0, .slice none 0 0] 42)).heap[w.heap.size + 1]? = some (.cells #[.int .i64 0, .slice none 0 0] 42 (0, 0)) := by
    have := heap_alloc_new (w.alloc (.cells #[.int .i64 lim, .slice A n c] 42)) (.cells #[.int .i64 0, .slice none 0 0] 42)
    simpa using this
  have hbb : Below w.heap.size w ((w.alloc (.cells #[.int .i64 lim, .slice A n c] 42)).alloc (.cells #[.int .i64 0, .slice none 0 0] 42)) := by go_grown
  have hbs : ((w.alloc (.cells #[.int .i64 lim, .slice A n c] 42)).alloc (.cells #[.int .i64 0, .slice none 0 0] 42)).heap.size = w.heap.size + 2 := by simp
  generalize ((w.alloc (.cells #[.int .i64 lim, .slice A n c] 42)).alloc (.cells #[.int .i64 0, .slice none 0 0] 42)) = W at *
  generalize hB0 : w.heap.size = B at *
  have h00 : OR (B + 2) W (.slice none 0 0) [] := ⟨rfl, .inl ⟨rfl, rfl⟩⟩
  have H00 := Lib.hid h00
  have Hc0 := Lib.hid hc0
  have Hc2 := Lib.hid hc2
  have Hbb := Lib.hid hbb
  have Hbs := Lib.hid hbs
  have HB0 := Lib.hid hB0
  clear h00 hc0 hc2 hbb hbs hB0
  go_loopw [5, 6] (fun v iv wr => ∃ (i : Nat) (M : List Ev) (v0 : Value), v0 = v ∧ iv = .int .i64 i ∧ i ≤ n ∧ Hid (M ++ wo L k i = wo L k 0) ∧ M.length ≤ i ∧ Hid (OR (B + 2) wr v0 M) ∧ Hid (Below (B + 2) W wr) ∧ Hid (B + 2 ≤ wr.heap.size)) (fun _ iv _ => n - (intOf iv).toNat)
  case atStart => exact ⟨0, [], _, rfl, rfl, Nat.zero_le _, rfl, Nat.le_refl _, H00, Below.refl _ _, Nat.le_of_eq Hbs.out.symm⟩
  case round =>
    clear H00
    obtain ⟨i, M, v0, rfl, rfl, hi, HM, hMl, HV, HB, HS⟩ := hrel
    have hx0 := (HB.out.block B (by omega)).trans Hc0.out
    have y0 := blk_cell hx0 0
    have y1 := blk_cell hx0 1
    have f1 := blk_frozen hx0 1
    have hx2 := (HB.out.block (B + 1) (by omega)).trans Hc2.out
    have z0 := blk_cell hx2 0
    have z1 := blk_cell hx2 1
    have g1 := blk_frozen hx2 1
    have g0 := blk_frozen hx2 0
    by_cases hlt : i < n
    · obtain ⟨b, rfl, hbl, hx⟩ := ((HR.out.below (by rw [HB0.out]; exact Hbb.out)).below (HB.out.mono (by rw [Hbs.out]; exact Nat.le_refl _))) (by rw [HL.out]; omega)
      obtain ⟨x0, x1, x2, x3, x4, x5⟩ := hx i _ (evAt_some (by rw [HL.out]; exact hlt))
      clear hx hx0 hx2
      by_cases hik : i = k
      · subst hik
        have hM2 : Hid (M ++ wo L i (i + 1) = wo L i 0) := by have := HM.out; rw [wo_skip (by rw [HL.out]; exact hlt)] at this; exact this
        go_wp2
        go_roundw
        case rel => exact ⟨i + 1, M, _, rfl, by go_num, by omega, hM2, by omega, HV, HB, HS⟩
        case measure => simp [intOf]; omega
      · have hbf : ((i : Int) != (k : Int)) = true := by simp; omega
        have hM2 : Hid ((M ++ [evAt L i]) ++ wo L k (i + 1) = wo L k 0) := by show _ = _; have := HM.out; rw [wo_take (by rw [HL.out]; exact hlt) hik] at this; simpa using this
        have hbA : Below (B + 2) W (wr.alloc (.cells #[.int .i64 (evAt L i).t, .int .i64 (evAt L i).n, .string (evAt L i).v, .int .i64 (evAt L i).f, .int .i64 (evAt L i).s, .bool (evAt L i).a] 30)) := HB.out.alloc HS.out _
        have HbA := Lib.hid hbA
        have hbl2 := heap_alloc_new wr (.cells #[.int .i64 (evAt L i).t, .int .i64 (evAt L i).n, .string (evAt L i).v, .int .i64 (evAt L i).f, .int .i64 (evAt L i).s, .bool (evAt L i).a] 30)
        have Hbl2 := Lib.hid hbl2
        clear hbA hbl2
        go_wp2_with (at_builtin; (refine list_app rfl (.tmp 17) (.tmp 23) rfl (B + 2) W v0 M (evAt L i) wr.heap.size (by simp [Act.eval, Act.put]) (World.ownsRow.alloc HV.out _) (by simp [Act.eval, Act.put]) Hbl2.out (by omega) HbA.out (Nat.le_trans HS.out (by simp)) ?_))
        intro v1 w1 hv1 hb1 hs1
        have Hv1 := Lib.hid hv1
        have Hb1 := Lib.hid hb1
        have Hs1 := Lib.hid hs1
        clear hv1 hb1 hs1
        go_wp2
        go_roundw
        case rel => exact ⟨i + 1, _, _, rfl, by go_num, by omega, hM2, by simp; omega, Hv1, Hb1, Hs1⟩
        case measure => simp [intOf]; omega
    · have hM2 : M = L.eraseIdx k := by
        have := HM.out
        rw [wo_end (by rw [HL.out]; omega), List.append_nil] at this
        rw [this]
        unfold wo
        rw [if_pos (Nat.zero_le _)]
        rfl
      subst hM2
      obtain ⟨Av, cv, rfl⟩ := own_slice' HV.out
      have hdn := two_done (lim := lim) Hbb.out HB0.out HB.out (Nat.le_of_eq Hbs.out.symm) HV.out hx2
      have Hdn := Lib.hid hdn
      clear hdn hx2 hx0
      go_wp2
      exact bodyPost_ret (res_c1 rfl _ _ (B + 1) 42 _ (0, 0) _ rfl Hdn.out.1 Try.underlying42 rfl (size42 _ _)) rfl ⟨_, rfl, Hdn.out.2.1, Hdn.out.2.2⟩
end Go.Proofs.Ytebcbjmdkbmnkaa
