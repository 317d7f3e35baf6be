/- The deferred closure of Run. -/
import Derived.Test.YtimcmhfcmnooeaaPrA
import Derived.Defers
import Derived.Recover
import Derived.Laws.Pointers
namespace Go.Proofs.Ytimcmhfcmnooeaa
set_option linter.unusedVariables false
set_option linter.unusedSimpArgs false
open Go.RowKit Go.Maps Go.Proofs.YtimcmhfcmnooeaaW.PrintWords Go.Proofs.YtimcmhfcmnooeaaW.PrintLast Go.Proofs.YtimcmhfcmnooeaaW.PrintMore

theorem catch_idle (p q : Addr) (w : World) :
    CallsD Try.prog 12 #[.pointer (some p), .pointer (some q)] .returning w fun e u' w' => e = .returned (.tuple #[]) ∧ u' = .returning ∧ w' = w := by
  refine callsD_of_wpS Try.func12 rfl fun c₀ cs hu => ?_
  apply wpS_seq
  apply wpS_region
  simp [wpOpsS, go_sem, recoverD, hu, Try.ntmps12, Exit.thenS]
  refine wpS_of_wp ?_
  go_wp2
  cases c₀
  simp_all [bodyPostS, results, Try.results12]

theorem run_typeAssert_ok {P : Program} {xt t : TypeId} {d : TypeDesc} (hu : P.underlying t = some d) (hd : ∀ ms, d ≠ .interface ms) (v : Value) (w : World) :
    (Instr.typeAssert (.iface t v) xt t true).run P w = .ok (.tuple #[v, .bool true]) w := by
  unfold Instr.typeAssert
  simp only [Sem.run_bind, run_underlying hu, Result.andThen_ok]
  cases d <;> simp_all

theorem bps_done {P : Program} {fn : Func} {c₀ : Frame} {cs : List Frame} {R : Ending → FrameMode → World → Prop} {a : Act} {w : World} {u' : FrameMode} {v : Value} (hd : a.defers = []) (hr : (results fn a.tmps).run P w = .ok v w) (h : R (.returned v) u' w) :
    bodyPostS P fn c₀ cs R .normal a ({ c₀ with mode := u' } :: cs) w := ⟨hd, u', rfl, v, hr, h⟩

def caught (w : World) (p q : Nat) (a e : Int) : World :=
  ((((w.setCell ⟨p, 0, none⟩ (.slice none 0 0)).setCell ⟨q, 0, none⟩ (.slice (some ⟨w.heap.size + 1, 0, none⟩) 1 1)).alloc (.cells #[.int .i64 a, .int .i64 e] 41)).alloc (.cells #[.int .i64 a, .int .i64 e] 31)).drew

set_option maxHeartbeats 1000000 in
theorem catch_pan (p q : Nat) (x y : Value) (a e : Int) (older : List PanicEntry) (w : World) (hp : w.heap[p]? = some (.cells #[x] 22 (0, 0))) (hq : w.heap[q]? = some (.cells #[y] 25 (0, 0))) (hpq : p ≠ q) :
    CallsD Try.prog 12 #[.pointer (some ⟨p, 0, none⟩), .pointer (some ⟨q, 0, none⟩)] (.panicking ({ v := .iface 41 (.agg #[.int .i64 a, .int .i64 e]), recovered := false } :: older)) w fun e' u' w' => e' = .returned (.tuple #[]) ∧ u' = .panicking ({ v := .iface 41 (.agg #[.int .i64 a, .int .i64 e]), recovered := true } :: older) ∧
      w' = caught w p q a e := by
  have cp := blk_cell hp 0
  have cq := blk_cell hq 0
  have fp := blk_frozen hp 0
  have fq := blk_frozen hq 0
  have hpl := (Array.getElem?_eq_some_iff.1 hp).1
  have hql := (Array.getElem?_eq_some_iff.1 hq).1
  have Hp := Lib.hid hp
  have Hq := Lib.hid hq
  clear hp hq
  have hta := fun (v : Value) (w : World) => run_typeAssert_ok (P := Try.prog) (xt := 20) (t := 41) Try.underlying41 (by simp) v w
  refine callsD_of_wpS Try.func12 rfl fun c₀ cs hu => ?_
  apply wpS_seq
  apply wpS_region
  simp [wpOpsS, go_sem, recoverD, hu, Try.ntmps12, Exit.thenS]
  refine wpS_of_wp ?_
  rw [show (Array.replicate 12 undef) = #[undef, undef, undef, undef, undef, undef, undef, undef, undef, undef, undef, undef] from rfl]
  simp only [List.setIfInBounds_toArray, List.set_cons_succ, List.set_cons_zero, List.append_toArray, List.cons_append, List.nil_append]
  go_wp2_with fail
  go_region
  refine And.intro rfl ?_
  exact ⟨_, rfl, .tuple #[], by simp [results, Try.results12], rfl, rfl, rfl⟩
end Go.Proofs.Ytimcmhfcmnooeaa
