/- The contract of the heap's up: it leaves what the plain function upL leaves. -/
import Derived.Test.YtebcbjmdkbmnkaaEvBase
namespace Go.Proofs.Ytebcbjmdkbmnkaa
set_option linter.unusedVariables false
set_option linter.unusedSimpArgs false
open Go.RowKit

theorem run_wrapNilChk {P : Program} (ts : Array TypeId) (ty : TypeId) (a : Addr) (x y : ByteArray) (w : World) :
    (Builtin.ssaWrapNilChk_ ts ty #[.pointer (some a), .string x, .string y]).run P w = .ok (.pointer (some a)) w := rfl

theorem run_method_deref {P : Program} {t elem : TypeId} {f : FuncId} {name : String} {w : World} {a : Addr} {v : Value} {fuel : Nat}
    (h : ((P.info? t).bind fun i => (i.methods.find? (·.name == name)).map fun m => (m.path, m.func)) = some (#[], some (f, false)))
    (hu : P.underlying t = some (.pointer elem)) (hl : (loadVar elem a).run P w = .ok v w) :
    Sem.run P (method (fuel + 1) t (.pointer (some a)) name) w = .ok (f, v) w := by
  obtain ⟨i, hi, h2⟩ := Option.bind_eq_some_iff.1 h
  obtain ⟨m, hm, h3⟩ := Option.map_eq_some_iff.1 h2
  simp only [Prod.mk.injEq] at h3
  obtain ⟨hp, hf⟩ := h3
  simp [method, typeInfo, hi, hm, hp, hf, follow, receiverAt, run_underlying hu, Place.get, strVal, run_wrapNilChk, asAddr, hl]

theorem run_method_ptr {P : Program} {t elem : TypeId} {f : FuncId} {name : String} {w : World} {a : Addr} {fuel : Nat}
    (h : ((P.info? t).bind fun i => (i.methods.find? (·.name == name)).map fun m => (m.path, m.func)) = some (#[], some (f, true)))
    (hu : P.underlying t = some (.pointer elem))  :
    Sem.run P (method (fuel + 1) t (.pointer (some a)) name) w = .ok (f, .pointer (some a)) w := by
  obtain ⟨i, hi, h2⟩ := Option.bind_eq_some_iff.1 h
  obtain ⟨m, hm, h3⟩ := Option.map_eq_some_iff.1 h2
  simp only [Prod.mk.injEq] at h3
  obtain ⟨hp, hf⟩ := h3
  simp [method, typeInfo, hi, hm, hp, hf, follow, receiverAt, run_underlying hu, Place.get]

theorem load51 {w : World} {a : Addr} {v : Value} (h : w.cell? a = some v) : (loadVar 51 a).run Try.prog w = .ok v w := by
  have hu : Try.prog.underlying 51 = some (.slice 30) := by kernel_rfl
  simp [go_sem, loadVar, h, run_underlying hu]
theorem meth_less {w : World} {g : Nat} {v : Value} (h : w.cell? ⟨g, 0, none⟩ = some v) : Sem.run Try.prog (method 195 58 (.pointer (some ⟨g, 0, none⟩)) "Less") w = .ok (52, v) w :=
  run_method_deref (by kernel_rfl) (by kernel_rfl : Try.prog.underlying 58 = some (.pointer 51)) (load51 h)
theorem meth_swap {w : World} {g : Nat} {v : Value} (h : w.cell? ⟨g, 0, none⟩ = some v) : Sem.run Try.prog (method 195 58 (.pointer (some ⟨g, 0, none⟩)) "Swap") w = .ok (53, v) w :=
  run_method_deref (by kernel_rfl) (by kernel_rfl : Try.prog.underlying 58 = some (.pointer 51)) (load51 h)
theorem meth_len {w : World} {g : Nat} {v : Value} (h : w.cell? ⟨g, 0, none⟩ = some v) : Sem.run Try.prog (method 195 58 (.pointer (some ⟨g, 0, none⟩)) "Len") w = .ok (51, v) w :=
  run_method_deref (by kernel_rfl) (by kernel_rfl : Try.prog.underlying 58 = some (.pointer 51)) (load51 h)
theorem meth_pop {w : World} {g : Nat} : Sem.run Try.prog (method 195 58 (.pointer (some ⟨g, 0, none⟩)) "Pop") w = .ok (58, .pointer (some ⟨g, 0, none⟩)) w :=
  run_method_ptr (by kernel_rfl) (by kernel_rfl : Try.prog.underlying 58 = some (.pointer 51))
theorem meth_push {w : World} {g : Nat} : Sem.run Try.prog (method 195 58 (.pointer (some ⟨g, 0, none⟩)) "Push") w = .ok (59, .pointer (some ⟨g, 0, none⟩)) w :=
  run_method_ptr (by kernel_rfl) (by kernel_rfl : Try.prog.underlying 58 = some (.pointer 51))

def lessE (x y : Ev) : Bool := decide (ordE x y < 0)
def evAt (L : List Ev) (i : Nat) : Ev := L.getD i default
theorem evAt_some {L : List Ev} {i : Nat} (h : i < L.length) : L[i]? = some (evAt L i) := by
  simp [evAt, List.getD_eq_getElem?_getD, List.getElem?_eq_getElem h]

theorem less_int (b c n : Nat) (i j : Int) (L : List Ev) (w : World) (hn : L.length = n) (hm : n ≤ 4096) (h0 : 0 ≤ i) (h1 : i < n) (h2 : 0 ≤ j) (h3 : j < n) (hR : Rw w b c L) :
    Calls Try.prog 52 #[.slice (some ⟨b, 0, none⟩) n c, .int .i64 i, .int .i64 j] w fun e w' => e = .returned (.bool (lessE (evAt L i.toNat) (evAt L j.toNat))) ∧ Below w.heap.size w w' := by
  obtain ⟨i, rfl⟩ := Int.eq_ofNat_of_zero_le h0
  obtain ⟨j, rfl⟩ := Int.eq_ofNat_of_zero_le h2
  subst hn
  exact less_any (evAt L i) (evAt L j) b L.length c i j w (by omega) (by omega) hm (hR.at_ (evAt_some (by omega))) (hR.at_ (evAt_some (by omega)))

theorem swap_int (b c n : Nat) (i j : Int) (L : List Ev) (w : World) (hn : L.length = n) (hm : n ≤ 4096) (h0 : 0 ≤ i) (h1 : i < n) (h2 : 0 ≤ j) (h3 : j < n) (hR : Rw w b c L) :
    Calls Try.prog 53 #[.slice (some ⟨b, 0, none⟩) n c, .int .i64 i, .int .i64 j] w fun e w' => e = .returned (.tuple #[]) ∧ Kp (· = b) w w' ∧ Rw w' b c (swapL L i.toNat j.toNat) := by
  obtain ⟨i, rfl⟩ := Int.eq_ofNat_of_zero_le h0
  obtain ⟨j, rfl⟩ := Int.eq_ofNat_of_zero_le h2
  subst hn
  exact swap_any b c i j L w (by omega) (by omega) hm hR

def upL (L : List Ev) (j : Nat) : List Ev :=
  if h : j = 0 then L
  else if lessE (evAt L j) (evAt L ((j - 1) / 2)) then upL (swapL L ((j - 1) / 2) j) ((j - 1) / 2) else L
termination_by j
decreasing_by omega

theorem swapL_len (L : List Ev) (i j : Nat) : (swapL L i j).length = L.length := by simp [swapL]

def HQ (w : World) (g b c : Nat) (lim : Int) (L : List Ev) : Prop :=
  w.heap[g]? = some (.cells #[.slice (some ⟨b, 0, none⟩) L.length c, .int .i64 lim] 53 (0, 0)) ∧ Rw w b c L

theorem HQ.ne {w : World} {g b c : Nat} {lim : Int} {L : List Ev} (h : HQ w g b c lim L) : g ≠ b := by
  rintro rfl
  obtain ⟨h1, _, _, cur, h2, _⟩ := h
  rw [h1] at h2
  injection h2 with h2
  injection h2 with _ h2
  cases h2

theorem HQ.step {w w' : World} {g b c : Nat} {lim : Int} {L L' : List Ev} (h : HQ w g b c lim L) (hk : Kp (· = b) w w') (hr : Rw w' b c L') (hl : L'.length = L.length) : HQ w' g b c lim L' := by
  refine ⟨?_, hr⟩
  rw [hl]
  exact hk.blk h.1 h.ne

theorem HQ.below {w w' : World} {g b c : Nat} {lim : Int} {L : List Ev} (h : HQ w g b c lim L) (hb : Below w.heap.size w w') : HQ w' g b c lim L :=
  h.step (Kp.of_below hb _) (h.2.blk_eq (hb.block b h.2.lt)) rfl

set_option maxHeartbeats 1000000 in
theorem up_any (g b c j0 : Nat) (lim : Int) (L : List Ev) (w : World) (hj : j0 < L.length) (hn : L.length ≤ 4096) (hQ : HQ w g b c lim L) :
    Calls Try.prog 31 #[.iface 58 (.pointer (some ⟨g, 0, none⟩)), .int .i64 j0] w fun e w' => e = .returned (.tuple #[]) ∧ Kp (· = b) w w' ∧ HQ w' g b c lim (upL L j0) := by
  go_enter Try.func31, Try.ntmps31
  go_wp2
  go_loopw [1] (fun jv wr => ∃ (k : Nat) (M : List Ev), jv = .int .i64 k ∧ k < L.length ∧ M.length = L.length ∧ upL M k = upL L j0 ∧ HQ wr g b c lim M ∧ Kp (· = b) w wr) (fun jv _ => (intOf jv).toNat)
  case atStart => exact ⟨j0, L, rfl, hj, rfl, rfl, hQ, Kp.refl _ _⟩
  case round =>
    obtain ⟨k, M, rfl, hk, hM, hup, hQr, hKr⟩ := hrel
    by_cases h0 : k = 0
    · subst h0
      have HU := Lib.hid hup
      have HQ' := Lib.hid hQr
      clear hup hQr hM
      go_wp2
      go_end0
      refine ⟨rfl, hKr, ?_⟩
      have h1 := HU.out
      rw [upL, dif_pos rfl] at h1
      rw [← h1]; exact HQ'.out
    · obtain ⟨q, rfl⟩ : ∃ q, k = q + 1 := ⟨k - 1, by omega⟩
      have hc := blk_cell hQr.1 0
      have HU := Lib.hid hup
      have HQ' := Lib.hid hQr
      have HM := Lib.hid hM
      have hM1 : M.length ≤ 4096 := by omega
      have hM2 : q + 1 < M.length := by omega
      clear hup hQr hM h0 hn hQ hj hk
      generalize hml : M.length = m at hc
      have Hml := Lib.hid hml
      clear hml
      have hme := meth_less hc
      have hB0 : ((q : Int) / 2 == (q : Int) + 1) = false := by rw [beq_eq_false_iff_ne]; omega
      go_wp2_with fail
      have hlc := less_int b c m ((q : Int) + 1) ((q : Int) / 2) M wr Hml.out (by have := Hml.out; omega) (by omega) (by have := Hml.out; omega) (by omega) (by have := Hml.out; omega) HQ'.out.2
      with_reducible refine hlc.mono ?_
      clear hlc
      rintro e w1 ⟨rfl, hb1⟩
      have hq1 := (HQ'.out.below hb1)
      have hc1 := blk_cell hq1.1 0
      rw [Hml.out] at hc1
      have hms := meth_swap hc1
      have Hq1 := Lib.hid hq1
      clear hc hme hc1 hq1
      rw [show ((q : Int) + 1).toNat = q + 1 from by omega, show ((q : Int) / 2).toNat = q / 2 from by omega]
      cases hlt : lessE (evAt M (q + 1)) (evAt M (q / 2)) with
      | false =>
        have Hlt := Lib.hid hlt
        clear hlt
        go_wp2
        go_end0
        have hq := Hq1.out
        refine ⟨rfl, hKr.trans (Kp.of_below hb1 _), ?_⟩
        have h1 := HU.out
        have e1 := Hlt.out
        rw [upL, dif_neg (by omega), show (q + 1 - 1) / 2 = q / 2 from by omega, if_neg (by simp [e1])] at h1
        rw [← h1]; exact hq
      | true =>
        have Hlt := Lib.hid hlt
        clear hlt
        go_wp2_with fail
        have hsw := swap_int b c m ((q : Int) / 2) ((q : Int) + 1) M w1 Hml.out (by have := Hml.out; omega) (by omega) (by have := Hml.out; omega) (by omega) (by have := Hml.out; omega) Hq1.out.2
        with_reducible refine hsw.mono ?_
        clear hsw
        rintro e w2 ⟨rfl, hk2, hr2⟩
        rw [show ((q : Int) + 1).toNat = q + 1 from by omega, show ((q : Int) / 2).toNat = q / 2 from by omega] at hr2
        have hq2 := Hq1.out.step hk2 hr2 (swapL_len _ _ _)
        have Hq2 := Lib.hid hq2
        clear hq2 hr2
        have hlen := (swapL_len M (q / 2) (q + 1)).trans HM.out
        have h1 := HU.out
        have e1 := Hlt.out
        rw [upL, dif_neg (by omega), show (q + 1 - 1) / 2 = q / 2 from by omega, if_pos e1] at h1
        have hq3 : q / 2 < L.length := by have := HM.out; omega
        have H1 := Lib.hid h1
        have Hlen := Lib.hid hlen
        clear h1 hlen e1 Hlt hms
        go_wp2
        go_roundw
        case rel => exact ⟨q / 2, _, by first | rfl | go_num, hq3, Hlen.out, H1.out, Hq2.out, (hKr.trans (Kp.of_below hb1 _)).trans hk2⟩
        case measure => simp [intOf]; omega
end Go.Proofs.Ytebcbjmdkbmnkaa
