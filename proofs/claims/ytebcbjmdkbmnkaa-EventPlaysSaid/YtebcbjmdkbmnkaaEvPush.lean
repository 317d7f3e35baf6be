/- The contract of the events' Push: the event stands at the row's end. -/
import Derived.Test.YtebcbjmdkbmnkaaEvDown
import Derived.Maps.AppendAt
import Derived.Deep.RegionLaw
import Derived.Deep.AppendLies
namespace Go.Proofs.Ytebcbjmdkbmnkaa
set_option linter.unusedVariables false
set_option linter.unusedSimpArgs false
open Go.RowKit

/-- 'append' of a literal's elements onto a row of one's own, as one step of a region that draws. -/
theorem step_append_mine {P : Program} {ops : Array Oper} {o : Oper} {a : Act} {w : World} {K : Act → World → Prop} {Q : Exit → Act → World → Prop} {E : Prop}
    (hgd : o.guard = none) (s x : Operand) (t : TypeId) (ho : o.op = .call { callee := .builtin .append, args := #[s, x], argTypes := #[t, t] })
    (base : Nat) (e : TypeId) (z : Value) (size bytes : Nat) (ht : P.underlying t = some (.slice e))
    (hinfo : (P.info? e).map (fun i => (i.zero, i.size, i.bytes)) = some (some z, size, bytes)) (hzs : z.cells.size = size) (hsz : 0 < size)
    (v : Value) (n : Nat) (xs : List Value) (hs : a.eval s = v) (hown : w.ownsRow base e size v n xs)
    (ad : Addr) (m c : Nat) (news : List Value) (hx : a.eval x = .slice (some ad) m c) (hl : news.length = m * size) (hnews : ∀ j u, news[j]? = some u → w.cell? (ad.add j) = some u) (h1 : ∀ u ∈ news, u.oneCell' = true)
    (h63 : n + m ≤ maxLen) (hbytes : (n + m) * bytes ≤ 140737488355328) (hbase : base ≤ w.heap.size)
    (h : ∀ v' w', w'.ownsRow base e size v' (n + m) (xs ++ news) → w.grownBy w' v.ownBlock → (v'.ownBlock = v.ownBlock ∨ v'.ownBlock = some w.heap.size) → K (a.put o.dst v') w') :
    if Region.wanted o (yielded ops a.tmps) = true then Oper.wp P o a w K Q else E := by
  have hw : Region.wanted o (yielded ops a.tmps) = true := by simp [Region.wanted, hgd]
  rw [if_pos hw]
  obtain ⟨i0, hi, hzz⟩ := Option.map_eq_some_iff.1 hinfo
  simp only [Prod.mk.injEq] at hzz
  obtain ⟨hz0, hz1, hz2⟩ := hzz
  obtain ⟨v', w', hrun, h2, h3, _, h4⟩ := run_append_own_at (P := P) w base t o.type e i0 z size bytes ht hi hz0 hz1 hz2 hzs hsz v n xs hown ad m c news hl hnews h1 h63 hbytes hbase
  unfold Oper.wp execOp
  simp only [ho, resolve, invoke, builtin, Sem.run_bind, Sem.run_pure, Result.andThen_ok, List.map_toArray, List.map_cons, List.map_nil, hs, hx, hrun]
  exact h v' w' h2 h3 h4

theorem run_typeAssert_same {P : Program} {xt t : TypeId} {d : TypeDesc} (hu : P.underlying t = some d) (hd : ∀ ms, d ≠ .interface ms) (v : Value) (w : World) :
    (Instr.typeAssert (.iface t v) xt t false).run P w = .ok v w := by
  unfold Instr.typeAssert
  simp only [Sem.run_bind, run_underlying hu, Result.andThen_ok]
  cases d <;> simp_all

theorem info30 : (Try.prog.info? 30).map (fun i => (i.zero, i.size, i.bytes)) = some (some (.agg #[.int .i64 0, .int .i64 0, .string ⟨#[]⟩, .int .i64 0, .int .i64 0, .bool false]), 6, 56) := by kernel_rfl

/-- The queue at block g: its slice, its limit. -/
def QS (w : World) (g : Nat) (lim : Int) (L : List Ev) (sv : Value) : Prop :=
  w.heap[g]? = some (.cells #[sv, .int .i64 lim] 53 (0, 0)) ∧ w.ownsRow 0 30 6 sv L.length (flat L)
def qb (g : Nat) (sv : Value) (k : Nat) : Prop := k = g ∨ sv.ownBlock = some k

theorem own_ne_blk {w : World} {base : Nat} {e t : TypeId} {size n g : Nat} {v : Value} {xs : List Value} {cs : Array Value} (h : w.ownsRow base e size v n xs) (hg : w.heap[g]? = some (.cells cs t (0, 0))) (hne : e ≠ t) : some g ≠ v.ownBlock := by
  rcases h.2 with ⟨rfl, _⟩ | ⟨g', cap, cur, rfl, _, hh, _⟩
  · simp [Value.ownBlock]
  · intro he
    have : g = g' := by simpa [Value.ownBlock] using he
    subst this
    rw [hg] at hh
    injection hh with hh
    injection hh with _ ht
    exact hne ht.symm
theorem push_keep {w w1 : World} {g n c : Nat} {lim : Int} {A : Option Addr} {xs : List Value} {o : Obj} (hg : w.heap[g]? = some (.cells #[.slice A n c, .int .i64 lim] 53 (0, 0)))
    (ho : w.ownsRow 0 30 6 (.slice A n c) n xs) (hg1 : (w.alloc o).drew.grownBy w1 (Value.slice A n c).ownBlock) : w1.heap[g]? = some (.cells #[.slice A n c, .int .i64 lim] 53 (0, 0)) := by
  have hlt : g < w.heap.size := (Array.getElem?_eq_some_iff.1 hg).1
  have h2 : (w.alloc o).drew.heap[g]? = w.heap[g]? := Below.heap_alloc w o g hlt
  rw [hg1.block g (by show g < (w.alloc o).heap.size; simp; omega) (own_ne_blk ho hg (by decide)), h2]
  exact hg

theorem flat_snoc (L : List Ev) (x : Ev) : flat (L ++ [x]) = flat L ++ x.cl := by simp [flat]
theorem own_setCell' {w : World} {base : Nat} {e : TypeId} {size n : Nat} {v : Value} {xs : List Value} (h : w.ownsRow base e size v n xs) {p : Addr} (hne : some p.block ≠ v.ownBlock) (u : Value) : (w.setCell p u).ownsRow base e size v n xs := by
  obtain ⟨h1, h2⟩ := h
  refine ⟨h1, ?_⟩
  rcases h2 with h2 | ⟨g, cap, cur, rfl, hg, hh, r⟩
  · exact .inl h2
  · exact .inr ⟨g, cap, cur, rfl, hg, by rw [Below.heap_setCell _ _ _ _ (fun e => hne (by rw [e]; rfl))]; exact hh, r⟩

theorem push_done {w w1 : World} {g n c b1 c1 : Nat} {lim : Int} {A : Option Addr} {L : List Ev} {o : Obj} (x : Ev) (hL : L.length = n)
    (hgb : w1.heap[g]? = some (.cells #[.slice A n c, .int .i64 lim] 53 (0, 0))) (hown : w1.ownsRow 0 30 6 (.slice (some ⟨b1, 0, none⟩) (n + 1) c1) (n + 1) (flat L ++ x.cl))
    (hg1 : (w.alloc o).drew.grownBy w1 (Value.slice A n c).ownBlock)
    (hat : (Value.slice (some ⟨b1, 0, none⟩) (n + 1) c1).ownBlock = (Value.slice A n c).ownBlock ∨ (Value.slice (some ⟨b1, 0, none⟩) (n + 1) c1).ownBlock = some (w.alloc o).drew.heap.size) :
    ∃ sv', QS (w1.setCell ⟨g, 0, none⟩ (.slice (some ⟨b1, 0, none⟩) (n + 1) c1)) g lim (L ++ [x]) sv' ∧ (sv'.ownBlock = (Value.slice A n c).ownBlock ∨ ∃ k, sv'.ownBlock = some k ∧ w.heap.size ≤ k) ∧
      Kp (qb g (.slice A n c)) w (w1.setCell ⟨g, 0, none⟩ (.slice (some ⟨b1, 0, none⟩) (n + 1) c1)) := by
  refine ⟨.slice (some ⟨b1, 0, none⟩) (n + 1) c1, ⟨?_, ?_⟩, ?_, ?_⟩
  · rw [blk_set hgb 0]; rfl
  · rw [flat_snoc, List.length_append, List.length_singleton, hL]
    exact own_setCell' hown (own_ne_blk hown hgb (by decide)) _
  · rcases hat with h | h
    · exact .inl h
    · exact .inr ⟨_, h, by show w.heap.size ≤ (w.alloc o).heap.size; simp⟩
  · exact (((Kp.refl _ w).alloc o).drew.grown hg1 (fun k hk => .inl (.inr hk))).setCell (.inl (.inl rfl)) _

set_option maxHeartbeats 1000000 in
theorem push_ev (g : Nat) (lim : Int) (A : Option Addr) (n c : Nat) (L : List Ev) (x : Ev) (w : World) (hn : n ≤ 4096) (hQ : QS w g lim L (.slice A n c)) (hL : L.length = n) :
    Calls Try.prog 59 #[.pointer (some ⟨g, 0, none⟩), .iface 30 (.agg x.cs)] w fun e w' => e = .returned (.tuple #[]) ∧
      ∃ sv', QS w' g lim (L ++ [x]) sv' ∧ (sv'.ownBlock = (Value.slice A n c).ownBlock ∨ ∃ k, sv'.ownBlock = some k ∧ w.heap.size ≤ k) ∧ Kp (qb g (.slice A n c)) w w' := by
  obtain ⟨hg, ho⟩ := hQ
  have hc := blk_cell hg 0
  have hc2 : ∀ o, (w.alloc o).cell? ⟨g, 0, none⟩ = some (.slice A n c) := fun o => (World.cell?_alloc_lt w o _ (Array.getElem?_eq_some_iff.1 hg).1).trans hc
  have hu := Try.underlying51
  rw [hL] at ho
  obtain ⟨t, n', v, f, s, a⟩ := x
  unfold Ev.cs
  dsimp only
  have Ho := Lib.hid ho
  have Hg := Lib.hid hg
  have HL := Lib.hid hL
  clear ho hg hL hu
  have hta := fun (v : Value) (w : World) => run_typeAssert_same (P := Try.prog) (xt := 20) (t := 30) Try.underlying30 (by simp) v w
  go_enter Try.func59, Try.ntmps59
  go_wp2
  have hn1 : ∀ (j : Nat) (u : Value), ([.int .i64 t, .int .i64 n', .string v, .int .i64 f, .int .i64 s, .bool a] : List Value)[j]? = some u → (w.alloc (.cells #[.int .i64 t, .int .i64 n', .string v, .int .i64 f, .int .i64 s, .bool a] 30)).drew.cell? ((⟨w.heap.size, 0, none⟩ : Addr).add j) = some u := by
    intro j u hu
    have hz := World.news_of_block (w := (w.alloc (.cells #[.int .i64 t, .int .i64 n', .string v, .int .i64 f, .int .i64 s, .bool a] 30)).drew) (cs := #[.int .i64 t, .int .i64 n', .string v, .int .i64 f, .int .i64 s, .bool a]) (t := 30) (fr := (0, 0)) (heap_alloc_new w _)
    exact hz j u hu
  have Hn1 := Lib.hid hn1
  clear hn1
  go_region_law (refine step_append_mine rfl (.tmp 7) (.tmp 10) 51 rfl 0 30 _ 6 56 Try.underlying51 info30 rfl (by decide) (.slice A n c) n (flat L) (by simp [Act.eval, Act.put]) (by exact Ho.out.alloc _) ⟨w.heap.size, 0, none⟩ 1 1 [.int .i64 t, .int .i64 n', .string v, .int .i64 f, .int .i64 s, .bool a] (by simp [Act.eval, Act.put]) rfl (by exact Hn1.out) (by simp [Value.oneCell']) (by unfold maxLen; omega) (by omega) (Nat.zero_le _) ?_; intro sv1 w1 hown1 hg1 hat1; obtain ⟨b1, c1, hv1, _, _⟩ := hown1.form (by omega); subst hv1; have hgb : w1.heap[g]? = some (.cells #[.slice A n c, .int .i64 lim] 53 (0, 0)) := push_keep Hg.out Ho.out hg1; have hcell := blk_cell hgb 0; have hfro := blk_frozen hgb 0; have Hgb := Lib.hid hgb; have Hown1 := Lib.hid hown1; have Hg1 := Lib.hid hg1; have Hat1 := Lib.hid hat1; clear hgb hown1 hg1 hat1)
  all_goals
    go_end0
    exact ⟨rfl, push_done ⟨t, n', v, f, s, a⟩ HL.out Hgb.out Hown1.out Hg1.out Hat1.out⟩
end Go.Proofs.Ytebcbjmdkbmnkaa
