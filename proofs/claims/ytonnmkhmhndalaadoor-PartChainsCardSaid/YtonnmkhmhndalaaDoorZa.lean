/- What a node and a gate are in memory; turned by wip/level/gen_lv.py out of a printed text. Turned by wip/level/gen_lv.py out of a printed text. Go's library's functions, laid at this dump, in plain words. Vectors, cells, worlds that have come of others: own texts of another seat, turned to this one. How far each node is behind, plainly: nodes are put behind those that they hang on, one by one, or again and again. Netlists, plainly, and in memory; what a node hangs on. Turned by wip/level/gen_lv.py out of a printed text. Levels: the memory in which they are reckoned. Levels: the first loop, plainly: who hangs on each, what is ready. -/
import Derived.Test.YtonnmkhmhndalaaDoorProg
import Derived.Below
import Derived.Deep.Draws
import Derived.Deep.AppendLies
import Derived.Maps.AppendAt
import Derived.OwnWalk
import Derived.Laws.BytesArg
import Derived.Laws.MakeOwn
import Derived.Laws.OwnMore
import Derived.Deep.OwnRows
import Derived.Tactics
import Derived.Lib.ConvBytes
import Derived.Laws.Slices
import Derived.WalkKit
import Derived.KernelRfl
import Derived.RowKit3
import Derived.Deep.LoopGhost
import Derived.Deep.QuietTactic
import Derived.BigQuiet
import Derived.WideLaws
import Derived.Deep.DeepCutAuto
import Derived.Deep.CutBlock
import Derived.Deep.RegionHeld3
import Derived.Laws.Rows
import Derived.Lib.AppendStr
import Derived.ArgAppend
import Derived.Laws.IdiomCopy
import Derived.OrdersHeld
import Derived.Laws.BitsLemmas
import Derived.RowKit
import Derived.Test.YtonnmkhmhndalaaDoorZw
import Derived.Ground.NamesProg
import Derived.Ground.SlgnProg
import Derived.Shelf.Strings.SlTrimAscii
import Derived.Lib.Hide
import Derived.IntWalk
import Derived.Deep.RegionWith
import Derived.BigRegion
section
namespace Go.Proofs.YtonnmkhmhndalaaDoor
open Go.RowKit Go.Proofs.YtonnmkhmhndalaaDoorW.PrintWords Go.Proofs.YtonnmkhmhndalaaDoorW.PrintLast Go.Proofs.YtonnmkhmhndalaaDoorW.PrintMore
attribute [local go_sem] max2_int min2_int max_two min_two max_three min_three max_four min_four   -- for this text's walks alone
set_option linter.unusedVariables false
set_option linter.unusedSimpArgs false
def errW : Option Int → Value
  | none => .nilIface
  | some c => .iface 0 (.int .i64 c)
theorem errW_none : errW none = .nilIface := rfl
theorem errW_some (c : Int) : errW (some c) = .iface 0 (.int .i64 c) := rfl
theorem info3 : (Tryd.prog.info? 3).map (fun i => (i.zero, i.size, i.bytes)) = some (some (.int .i64 0), 1, 8) := by kernel_rfl
theorem info5 : (Tryd.prog.info? 5).map (fun i => (i.zero, i.size, i.bytes)) = some (some (.int .u8 0), 1, 1) := by kernel_rfl
theorem info23 : (Tryd.prog.info? 23).map (fun i => (i.zero, i.size, i.bytes)) = some (some (.slice none 0 0), 1, 24) := by kernel_rfl
def rd_L2 (xs : List (List Int)) (i : Int) : (List Int) := xs.getD i.toNat ([] : List Int)
theorem at_L2 {w : World} {A : Option Addr} {n : Nat} {xs : List (List Int)} (h : Kd.C (Kd.slice 3 (Kd.int .i64)) w A n xs) (i : Int) (h0 : 0 ≤ i) (h1 : i < n) : ∃ ad A0 c0, A = some ad ∧ w.cell? (ad.add i.toNat) = some (.slice A0 (rd_L2 xs i).length c0) ∧ (rd_L2 xs i).length ≤ c0 ∧ (Kd.int .i64).C w A0 (rd_L2 xs i).length (rd_L2 xs i) := by
  obtain ⟨ad, c, e, _, hK, hc0⟩ := Kd.C_get h ([] : List Int) i h0 h1
  have hc : ∀ j u, c[j]? = some u → w.cell? (ad.add (i.toNat * 1 + j)) = some u := hc0
  obtain ⟨A0, c0, rfl, l0, g0⟩ := hK
  exact ⟨ad, A0, c0, e, by have hq := hc 0 _ rfl; rwa [Nat.mul_one, Nat.add_zero] at hq, l0, g0⟩
structure S39 where
  f0 : Int
  f1 : Int
  f2 : Int
  f3 : (List Int)
  f4 : ByteArray
  f5 : Int
  f6 : Int
  f7 : Int
def z39 : S39 := ⟨(0 : Int), (0 : Int), (0 : Int), ([] : List Int), (⟨#[]⟩ : ByteArray), (0 : Int), (0 : Int), (0 : Int)⟩
def k39 : Kd S39 := Kd.iso (Kd.pair (Kd.int .i64) (Kd.pair (Kd.int .i64) (Kd.pair (Kd.int .i64) (Kd.pair (Kd.slice 3 (Kd.int .i64)) (Kd.pair Kd.string (Kd.pair (Kd.int .i64) (Kd.pair (Kd.int .i64) (Kd.int .i64)))))))) (fun x : S39 => (x.f0, x.f1, x.f2, x.f3, x.f4, x.f5, x.f6, x.f7))
theorem k39_open {w : World} {x : S39} {cs : List Value} (h : k39.K w x cs) : ∃ A3 c3, cs = [.int .i64 x.f0, .int .i64 x.f1, .int .i64 x.f2, .slice A3 x.f3.length c3, .string x.f4, .int .i64 x.f5, .int .i64 x.f6, .int .i64 x.f7] ∧ x.f3.length ≤ c3 ∧ (Kd.int .i64).C w A3 x.f3.length x.f3 := by
  obtain ⟨_, _, rfl, rfl, ⟨_, _, rfl, rfl, ⟨_, _, rfl, rfl, ⟨_, _, rfl, ⟨A3, c3, rfl, l3, g3⟩, ⟨_, _, rfl, rfl, ⟨_, _, rfl, rfl, ⟨_, _, rfl, rfl, rfl⟩⟩⟩⟩⟩⟩⟩ := h
  exact ⟨A3, c3, rfl, l3, g3⟩
theorem k39_openM {w : World} {base : Nat} {ok : Nat → Prop} {x : S39} {cs : List Value} (h : k39.M w base ok x cs) : ∃ v3, cs = [.int .i64 x.f0, .int .i64 x.f1, .int .i64 x.f2, v3, .string x.f4, .int .i64 x.f5, .int .i64 x.f6, .int .i64 x.f7] ∧ (Kd.int .i64).R 3 w base ok v3 x.f3 := by
  obtain ⟨_, _, rfl, rfl, ⟨_, _, rfl, rfl, ⟨_, _, rfl, rfl, ⟨_, _, rfl, ⟨v3, rfl, g3⟩, ⟨_, _, rfl, rfl, ⟨_, _, rfl, rfl, ⟨_, _, rfl, rfl, rfl⟩⟩⟩⟩⟩⟩⟩ := h
  exact ⟨v3, rfl, g3⟩
theorem k39_mk (w : World) (x : S39) {A3 : Option Addr} {c3 : Nat} (l3 : x.f3.length ≤ c3) (g3 : (Kd.int .i64).C w A3 x.f3.length x.f3) : k39.K w x [.int .i64 x.f0, .int .i64 x.f1, .int .i64 x.f2, .slice A3 x.f3.length c3, .string x.f4, .int .i64 x.f5, .int .i64 x.f6, .int .i64 x.f7] := ⟨[.int .i64 x.f0], [.int .i64 x.f1, .int .i64 x.f2, .slice A3 x.f3.length c3, .string x.f4, .int .i64 x.f5, .int .i64 x.f6, .int .i64 x.f7], rfl, rfl, ⟨[.int .i64 x.f1], [.int .i64 x.f2, .slice A3 x.f3.length c3, .string x.f4, .int .i64 x.f5, .int .i64 x.f6, .int .i64 x.f7], rfl, rfl, ⟨[.int .i64 x.f2], [.slice A3 x.f3.length c3, .string x.f4, .int .i64 x.f5, .int .i64 x.f6, .int .i64 x.f7], rfl, rfl, ⟨[.slice A3 x.f3.length c3], [.string x.f4, .int .i64 x.f5, .int .i64 x.f6, .int .i64 x.f7], rfl, ⟨A3, c3, rfl, l3, g3⟩, ⟨[.string x.f4], [.int .i64 x.f5, .int .i64 x.f6, .int .i64 x.f7], rfl, rfl, ⟨[.int .i64 x.f5], [.int .i64 x.f6, .int .i64 x.f7], rfl, rfl, ⟨[.int .i64 x.f6], [.int .i64 x.f7], rfl, rfl, rfl⟩⟩⟩⟩⟩⟩⟩
theorem k39_mkM (w : World) (base : Nat) (ok : Nat → Prop) (x : S39) {v3 : Value} (g3 : (Kd.int .i64).R 3 w base ok v3 x.f3) : k39.M w base ok x [.int .i64 x.f0, .int .i64 x.f1, .int .i64 x.f2, v3, .string x.f4, .int .i64 x.f5, .int .i64 x.f6, .int .i64 x.f7] := ⟨[.int .i64 x.f0], [.int .i64 x.f1, .int .i64 x.f2, v3, .string x.f4, .int .i64 x.f5, .int .i64 x.f6, .int .i64 x.f7], rfl, rfl, ⟨[.int .i64 x.f1], [.int .i64 x.f2, v3, .string x.f4, .int .i64 x.f5, .int .i64 x.f6, .int .i64 x.f7], rfl, rfl, ⟨[.int .i64 x.f2], [v3, .string x.f4, .int .i64 x.f5, .int .i64 x.f6, .int .i64 x.f7], rfl, rfl, ⟨[v3], [.string x.f4, .int .i64 x.f5, .int .i64 x.f6, .int .i64 x.f7], rfl, ⟨v3, rfl, g3⟩, ⟨[.string x.f4], [.int .i64 x.f5, .int .i64 x.f6, .int .i64 x.f7], rfl, rfl, ⟨[.int .i64 x.f5], [.int .i64 x.f6, .int .i64 x.f7], rfl, rfl, ⟨[.int .i64 x.f6], [.int .i64 x.f7], rfl, rfl, rfl⟩⟩⟩⟩⟩⟩⟩
def rd_T39 (xs : List S39) (i : Int) : S39 := xs.getD i.toNat z39
theorem at_T39 {w : World} {A : Option Addr} {n : Nat} {xs : List S39} (h : Kd.C k39 w A n xs) (i : Int) (h0 : 0 ≤ i) (h1 : i < n) : ∃ ad A3 c3, A = some ad ∧ w.cell? (ad.add (i.toNat * 8)) = some (.int .i64 (rd_T39 xs i).f0) ∧ w.cell? ⟨(ad.add (i.toNat * 8)).block, (ad.add (i.toNat * 8)).off + 1, none⟩ = some (.int .i64 (rd_T39 xs i).f1) ∧ w.cell? ⟨(ad.add (i.toNat * 8)).block, (ad.add (i.toNat * 8)).off + 2, none⟩ = some (.int .i64 (rd_T39 xs i).f2) ∧ w.cell? ⟨(ad.add (i.toNat * 8)).block, (ad.add (i.toNat * 8)).off + 3, none⟩ = some (.slice A3 (rd_T39 xs i).f3.length c3) ∧ w.cell? ⟨(ad.add (i.toNat * 8)).block, (ad.add (i.toNat * 8)).off + 4, none⟩ = some (.string (rd_T39 xs i).f4) ∧ w.cell? ⟨(ad.add (i.toNat * 8)).block, (ad.add (i.toNat * 8)).off + 5, none⟩ = some (.int .i64 (rd_T39 xs i).f5) ∧ w.cell? ⟨(ad.add (i.toNat * 8)).block, (ad.add (i.toNat * 8)).off + 6, none⟩ = some (.int .i64 (rd_T39 xs i).f6) ∧ w.cell? ⟨(ad.add (i.toNat * 8)).block, (ad.add (i.toNat * 8)).off + 7, none⟩ = some (.int .i64 (rd_T39 xs i).f7) ∧ (rd_T39 xs i).f3.length ≤ c3 ∧ (Kd.int .i64).C w A3 (rd_T39 xs i).f3.length (rd_T39 xs i).f3 := by
  obtain ⟨ad, c, e, _, hK, hc0⟩ := Kd.C_get h z39 i h0 h1
  have hc : ∀ j u, c[j]? = some u → w.cell? (ad.add (i.toNat * 8 + j)) = some u := hc0
  obtain ⟨A3, c3, rfl, l3, g3⟩ := k39_open hK
  exact ⟨ad, A3, c3, e, hc 0 _ rfl, by rw [← add_field _ _ 1 (by omega)]; exact hc 1 _ rfl, by rw [← add_field _ _ 2 (by omega)]; exact hc 2 _ rfl, by rw [← add_field _ _ 3 (by omega)]; exact hc 3 _ rfl, by rw [← add_field _ _ 4 (by omega)]; exact hc 4 _ rfl, by rw [← add_field _ _ 5 (by omega)]; exact hc 5 _ rfl, by rw [← add_field _ _ 6 (by omega)]; exact hc 6 _ rfl, by rw [← add_field _ _ 7 (by omega)]; exact hc 7 _ rfl, l3, g3⟩
structure S71 where
  f0 : Int
  f1 : Int
  f2 : Int
  f3 : Int
  f4 : Int
def z71 : S71 := ⟨(0 : Int), (0 : Int), (0 : Int), (0 : Int), (0 : Int)⟩
def k71 : Kd S71 := Kd.iso (Kd.pair (Kd.int .i64) (Kd.pair (Kd.int .i64) (Kd.pair (Kd.int .i64) (Kd.pair (Kd.int .i64) (Kd.int .i64))))) (fun x : S71 => (x.f0, x.f1, x.f2, x.f3, x.f4))
theorem k71_open {w : World} {x : S71} {cs : List Value} (h : k71.K w x cs) : cs = [.int .i64 x.f0, .int .i64 x.f1, .int .i64 x.f2, .int .i64 x.f3, .int .i64 x.f4] := by
  obtain ⟨_, _, rfl, rfl, ⟨_, _, rfl, rfl, ⟨_, _, rfl, rfl, ⟨_, _, rfl, rfl, rfl⟩⟩⟩⟩ := h
  exact rfl
theorem k71_mk (w : World) (x : S71)  : k71.K w x [.int .i64 x.f0, .int .i64 x.f1, .int .i64 x.f2, .int .i64 x.f3, .int .i64 x.f4] := ⟨[.int .i64 x.f0], [.int .i64 x.f1, .int .i64 x.f2, .int .i64 x.f3, .int .i64 x.f4], rfl, rfl, ⟨[.int .i64 x.f1], [.int .i64 x.f2, .int .i64 x.f3, .int .i64 x.f4], rfl, rfl, ⟨[.int .i64 x.f2], [.int .i64 x.f3, .int .i64 x.f4], rfl, rfl, ⟨[.int .i64 x.f3], [.int .i64 x.f4], rfl, rfl, rfl⟩⟩⟩⟩
def rd_T71 (xs : List S71) (i : Int) : S71 := xs.getD i.toNat z71
theorem at_T71 {w : World} {A : Option Addr} {n : Nat} {xs : List S71} (h : Kd.C k71 w A n xs) (i : Int) (h0 : 0 ≤ i) (h1 : i < n) : ∃ ad , A = some ad ∧ w.cell? (ad.add (i.toNat * 5)) = some (.int .i64 (rd_T71 xs i).f0) ∧ w.cell? ⟨(ad.add (i.toNat * 5)).block, (ad.add (i.toNat * 5)).off + 1, none⟩ = some (.int .i64 (rd_T71 xs i).f1) ∧ w.cell? ⟨(ad.add (i.toNat * 5)).block, (ad.add (i.toNat * 5)).off + 2, none⟩ = some (.int .i64 (rd_T71 xs i).f2) ∧ w.cell? ⟨(ad.add (i.toNat * 5)).block, (ad.add (i.toNat * 5)).off + 3, none⟩ = some (.int .i64 (rd_T71 xs i).f3) ∧ w.cell? ⟨(ad.add (i.toNat * 5)).block, (ad.add (i.toNat * 5)).off + 4, none⟩ = some (.int .i64 (rd_T71 xs i).f4) := by
  obtain ⟨ad, c, e, _, hK, hc0⟩ := Kd.C_get h z71 i h0 h1
  have hc : ∀ j u, c[j]? = some u → w.cell? (ad.add (i.toNat * 5 + j)) = some u := hc0
  obtain rfl := k71_open hK
  exact ⟨ad, e, hc 0 _ rfl, by rw [← add_field _ _ 1 (by omega)]; exact hc 1 _ rfl, by rw [← add_field _ _ 2 (by omega)]; exact hc 2 _ rfl, by rw [← add_field _ _ 3 (by omega)]; exact hc 3 _ rfl, by rw [← add_field _ _ 4 (by omega)]; exact hc 4 _ rfl⟩
end Go.Proofs.YtonnmkhmhndalaaDoor
end
section
namespace Go.Proofs.YtonnmkhmhndalaaDoor
open Go.RowKit Go.Proofs.YtonnmkhmhndalaaDoorW.PrintWords Go.Proofs.YtonnmkhmhndalaaDoorW.PrintLast Go.Proofs.YtonnmkhmhndalaaDoorW.PrintMore
attribute [local go_sem] max2_int min2_int max_two min_two max_three min_three max_four min_four   -- for this text's walks alone
set_option linter.unusedVariables false
set_option linter.unusedSimpArgs false
def silkwormref01_May.l0 : Nat → ByteArray → Int → Option (Bool)
  | 0, _, _ => none
  | k + 1, x0, x3 => if x3 < (x0.size : Int) then (if 0 ≤ x3 then (if (bt x0 x3) = 48 then (silkwormref01_May.l0 k x0 (wrap64 (x3 + 1))) else (if (bt x0 x3) = 49 then (silkwormref01_May.l0 k x0 (wrap64 (x3 + 1))) else (if (bt x0 x3) = 120 then (silkwormref01_May.l0 k x0 (wrap64 (x3 + 1))) else (if (bt x0 x3) = 122 then (silkwormref01_May.l0 k x0 (wrap64 (x3 + 1))) else (some false))))) else (none)) else (if (x0.size : Int) ≥ 1 then (some (decide ((x0.size : Int) ≤ 256))) else (some false))
def silkwormref01_May.f (k : Nat) (a0 : ByteArray) : Option (Bool) := silkwormref01_May.l0 k a0 0
theorem silkwormref01_May.mono_l : ∀ k, (∀ y0 y1, LeO (silkwormref01_May.l0 k y0 y1) (silkwormref01_May.l0 (k + 1) y0 y1))
  | 0 => fun _ _ r h => by simp [silkwormref01_May.l0] at h
  | k + 1 => by
    have ih0 := silkwormref01_May.mono_l k
    · intro y0 y1
      unfold silkwormref01_May.l0
      repeat' first
      | (with_reducible exact ih0 _ _)
      | (with_reducible exact LeO.refl _)
      | (with_reducible exact LeO.none _)
      | (with_reducible refine LeO.ite ?_ ?_)
      | (with_reducible refine LeO.bind ?_ (fun _ => ?_))
      | exact ih0 _ _
      | exact LeO.none _
      | refine LeO.ite ?_ ?_
      | refine LeO.bind ?_ (fun _ => ?_)
theorem silkwormref01_May.mono : ∀ a0 k, LeO (silkwormref01_May.f k a0) (silkwormref01_May.f (k + 1) a0) := by
  intro a0 k
  have ih0 := silkwormref01_May.mono_l k
  unfold silkwormref01_May.f
  repeat' first
      | (with_reducible exact ih0 _ _)
      | (with_reducible exact LeO.refl _)
      | (with_reducible exact LeO.none _)
      | (with_reducible refine LeO.ite ?_ ?_)
      | (with_reducible refine LeO.bind ?_ (fun _ => ?_))
      | exact ih0 _ _
      | exact LeO.none _
      | refine LeO.ite ?_ ?_
      | refine LeO.bind ?_ (fun _ => ?_)
set_option maxHeartbeats 8000000 in
set_option maxRecDepth 100000 in
theorem silkwormref01_May.calls (k : Nat) (a0 : ByteArray) (r : Bool) (w : World) (h : silkwormref01_May.f k a0 = some r) :
    Calls Tryd.prog 48 #[.string a0] w fun e w' => e = .returned (.bool r) ∧ Drawn0 w w' := by
  have H : (silkwormref01_May.l0 k a0 0) = some r := h
  clear h
  have H' := Aside0.mk H
  clear H
  go_enter Tryd.func48, Tryd.ntmps48
  go_wp2
  go_loopg [3] k (fun kq v3 w' => ∃ (x3_1 : Int), v3 = .int .i64 x3_1 ∧ Aside0 (silkwormref01_May.l0 kq a0 x3_1 = some r) ∧ Aside0 (kq ≤ k) ∧ Drawn0 w w')
  case atStart => exact ⟨(0), (by first | rfl | (simp; done) | (simp [*]; done)), H', ⟨Nat.le_refl _⟩, by repeat (first | exact Drawn0.refl _ | apply Drawn0.step)⟩
  case round =>
    clear H'
    obtain ⟨x3_1, rfl, HA, HK1, ⟨m1, rfl⟩⟩ := hrel
    cases gk with
    | zero => exact absurd HA.out (by simp [silkwormref01_May.l0])
    | succ k1 =>
      have H := HA.out
      clear HA
      simp only [silkwormref01_May.l0] at H
      by_cases c2 : x3_1 < (a0.size : Int)
      · rw [if_pos c2] at H
        have c2b0 : decide (x3_1 < (a0.size : Int)) = true := decide_eq_true c2
        clear c2
        by_cases c3 : 0 ≤ x3_1
        · rw [if_pos c3] at H
          have c3b0 : decide (0 ≤ x3_1) = true := decide_eq_true c3
          clear c3
          by_cases c5 : (bt a0 x3_1) = 48
          · rw [if_pos c5] at H
            have c5b0 : ((bt a0 x3_1) == 48) = true := beq_iff_eq.mpr c5
            have c5b1 : ((bt a0 x3_1) != 48) = false := bne_eq_false_iff_eq.mpr c5
            clear c5
            have H' := Aside0.mk H
            clear H
            have p4 : 0 ≤ (x3_1 : Int) := of_decide_eq_true (by first | (with_reducible assumption) | assumption)
            have q4 : x3_1 < (a0.size : Int) := of_decide_eq_true (by first | (with_reducible assumption) | assumption)
            have hx4 := bt_at a0 x3_1
            replace p4 := eq_true p4
            replace q4 := eq_true q4
            go_wp2
            go_roundg k1
            case measure => have := HK1.out; omega
            case rel => exact ⟨(wrap64 (x3_1 + 1)), (by first | rfl | (simp; done) | (simp [*]; done)), H', ⟨by have := HK1.out; omega⟩, by repeat (first | exact Drawn0.refl _ | apply Drawn0.step)⟩
          · rw [if_neg c5] at H
            have c5b0 : ((bt a0 x3_1) == 48) = false := beq_eq_false_iff_ne.mpr c5
            have c5b1 : ((bt a0 x3_1) != 48) = true := bne_iff_ne.mpr c5
            by_cases c7 : (bt a0 x3_1) = 49
            · rw [if_pos c7] at H
              have c7b0 : ((bt a0 x3_1) == 49) = true := beq_iff_eq.mpr c7
              have c7b1 : ((bt a0 x3_1) != 49) = false := bne_eq_false_iff_eq.mpr c7
              clear c7
              have H' := Aside0.mk H
              clear H
              have p4 : 0 ≤ (x3_1 : Int) := of_decide_eq_true (by first | (with_reducible assumption) | assumption)
              have q4 : x3_1 < (a0.size : Int) := of_decide_eq_true (by first | (with_reducible assumption) | assumption)
              have hx4 := bt_at a0 x3_1
              replace p4 := eq_true p4
              replace q4 := eq_true q4
              have p6 : 0 ≤ (x3_1 : Int) := of_decide_eq_true (by first | (with_reducible assumption) | assumption)
              have q6 : x3_1 < (a0.size : Int) := of_decide_eq_true (by first | (with_reducible assumption) | assumption)
              have hx6 := bt_at a0 x3_1
              replace p6 := eq_true p6
              replace q6 := eq_true q6
              go_wp2
              go_roundg k1
              case measure => have := HK1.out; omega
              case rel => exact ⟨(wrap64 (x3_1 + 1)), (by first | rfl | (simp; done) | (simp [*]; done)), H', ⟨by have := HK1.out; omega⟩, by repeat (first | exact Drawn0.refl _ | apply Drawn0.step)⟩
            · rw [if_neg c7] at H
              have c7b0 : ((bt a0 x3_1) == 49) = false := beq_eq_false_iff_ne.mpr c7
              have c7b1 : ((bt a0 x3_1) != 49) = true := bne_iff_ne.mpr c7
              by_cases c9 : (bt a0 x3_1) = 120
              · rw [if_pos c9] at H
                have c9b0 : ((bt a0 x3_1) == 120) = true := beq_iff_eq.mpr c9
                have c9b1 : ((bt a0 x3_1) != 120) = false := bne_eq_false_iff_eq.mpr c9
                clear c9
                have H' := Aside0.mk H
                clear H
                have p4 : 0 ≤ (x3_1 : Int) := of_decide_eq_true (by first | (with_reducible assumption) | assumption)
                have q4 : x3_1 < (a0.size : Int) := of_decide_eq_true (by first | (with_reducible assumption) | assumption)
                have hx4 := bt_at a0 x3_1
                replace p4 := eq_true p4
                replace q4 := eq_true q4
                have p6 : 0 ≤ (x3_1 : Int) := of_decide_eq_true (by first | (with_reducible assumption) | assumption)
                have q6 : x3_1 < (a0.size : Int) := of_decide_eq_true (by first | (with_reducible assumption) | assumption)
                have hx6 := bt_at a0 x3_1
                replace p6 := eq_true p6
                replace q6 := eq_true q6
                have p8 : 0 ≤ (x3_1 : Int) := of_decide_eq_true (by first | (with_reducible assumption) | assumption)
                have q8 : x3_1 < (a0.size : Int) := of_decide_eq_true (by first | (with_reducible assumption) | assumption)
                have hx8 := bt_at a0 x3_1
                replace p8 := eq_true p8
                replace q8 := eq_true q8
                go_wp2
                go_roundg k1
                case measure => have := HK1.out; omega
                case rel => exact ⟨(wrap64 (x3_1 + 1)), (by first | rfl | (simp; done) | (simp [*]; done)), H', ⟨by have := HK1.out; omega⟩, by repeat (first | exact Drawn0.refl _ | apply Drawn0.step)⟩
              · rw [if_neg c9] at H
                have c9b0 : ((bt a0 x3_1) == 120) = false := beq_eq_false_iff_ne.mpr c9
                have c9b1 : ((bt a0 x3_1) != 120) = true := bne_iff_ne.mpr c9
                by_cases c11 : (bt a0 x3_1) = 122
                · rw [if_pos c11] at H
                  have c11b0 : ((bt a0 x3_1) == 122) = true := beq_iff_eq.mpr c11
                  have c11b1 : ((bt a0 x3_1) != 122) = false := bne_eq_false_iff_eq.mpr c11
                  clear c11
                  have H' := Aside0.mk H
                  clear H
                  have p4 : 0 ≤ (x3_1 : Int) := of_decide_eq_true (by first | (with_reducible assumption) | assumption)
                  have q4 : x3_1 < (a0.size : Int) := of_decide_eq_true (by first | (with_reducible assumption) | assumption)
                  have hx4 := bt_at a0 x3_1
                  replace p4 := eq_true p4
                  replace q4 := eq_true q4
                  have p6 : 0 ≤ (x3_1 : Int) := of_decide_eq_true (by first | (with_reducible assumption) | assumption)
                  have q6 : x3_1 < (a0.size : Int) := of_decide_eq_true (by first | (with_reducible assumption) | assumption)
                  have hx6 := bt_at a0 x3_1
                  replace p6 := eq_true p6
                  replace q6 := eq_true q6
                  have p8 : 0 ≤ (x3_1 : Int) := of_decide_eq_true (by first | (with_reducible assumption) | assumption)
                  have q8 : x3_1 < (a0.size : Int) := of_decide_eq_true (by first | (with_reducible assumption) | assumption)
                  have hx8 := bt_at a0 x3_1
                  replace p8 := eq_true p8
                  replace q8 := eq_true q8
                  have p10 : 0 ≤ (x3_1 : Int) := of_decide_eq_true (by first | (with_reducible assumption) | assumption)
                  have q10 : x3_1 < (a0.size : Int) := of_decide_eq_true (by first | (with_reducible assumption) | assumption)
                  have hx10 := bt_at a0 x3_1
                  replace p10 := eq_true p10
                  replace q10 := eq_true q10
                  go_wp2
                  go_roundg k1
                  case measure => have := HK1.out; omega
                  case rel => exact ⟨(wrap64 (x3_1 + 1)), (by first | rfl | (simp; done) | (simp [*]; done)), H', ⟨by have := HK1.out; omega⟩, by repeat (first | exact Drawn0.refl _ | apply Drawn0.step)⟩
                · rw [if_neg c11] at H
                  have c11b0 : ((bt a0 x3_1) == 122) = false := beq_eq_false_iff_ne.mpr c11
                  have c11b1 : ((bt a0 x3_1) != 122) = true := bne_iff_ne.mpr c11
                  obtain rfl := Option.some.inj H
                  have p4 : 0 ≤ (x3_1 : Int) := of_decide_eq_true (by first | (with_reducible assumption) | assumption)
                  have q4 : x3_1 < (a0.size : Int) := of_decide_eq_true (by first | (with_reducible assumption) | assumption)
                  have hx4 := bt_at a0 x3_1
                  replace p4 := eq_true p4
                  replace q4 := eq_true q4
                  have p6 : 0 ≤ (x3_1 : Int) := of_decide_eq_true (by first | (with_reducible assumption) | assumption)
                  have q6 : x3_1 < (a0.size : Int) := of_decide_eq_true (by first | (with_reducible assumption) | assumption)
                  have hx6 := bt_at a0 x3_1
                  replace p6 := eq_true p6
                  replace q6 := eq_true q6
                  have p8 : 0 ≤ (x3_1 : Int) := of_decide_eq_true (by first | (with_reducible assumption) | assumption)
                  have q8 : x3_1 < (a0.size : Int) := of_decide_eq_true (by first | (with_reducible assumption) | assumption)
                  have hx8 := bt_at a0 x3_1
                  replace p8 := eq_true p8
                  replace q8 := eq_true q8
                  have p10 : 0 ≤ (x3_1 : Int) := of_decide_eq_true (by first | (with_reducible assumption) | assumption)
                  have q10 : x3_1 < (a0.size : Int) := of_decide_eq_true (by first | (with_reducible assumption) | assumption)
                  have hx10 := bt_at a0 x3_1
                  replace p10 := eq_true p10
                  replace q10 := eq_true q10
                  go_wp2
                  go_ret
                  exact ⟨by first | rfl | (simp; done) | (simp [*]; done), by repeat (first | exact Drawn0.refl _ | apply Drawn0.step)⟩
        · rw [if_neg c3] at H
          exact absurd H (by simp)
      · rw [if_neg c2] at H
        have c2b0 : decide (x3_1 < (a0.size : Int)) = false := decide_eq_false c2
        clear c2
        by_cases c12 : (a0.size : Int) ≥ 1
        · rw [if_pos c12] at H
          have c12b0 : decide (1 ≤ (a0.size : Int)) = true := decide_eq_true c12
          have c12b1 : decide (1 ≤ a0.size) = true := decide_eq_true (by omega)
          clear c12
          obtain rfl := Option.some.inj H
          go_wp2
          go_ret
          exact ⟨by first | rfl | (simp; done) | (simp [*]; done), by repeat (first | exact Drawn0.refl _ | apply Drawn0.step)⟩
        · rw [if_neg c12] at H
          have c12b0 : decide (1 ≤ (a0.size : Int)) = false := decide_eq_false c12
          have c12b1 : decide (1 ≤ a0.size) = false := decide_eq_false (by omega)
          clear c12
          obtain rfl := Option.some.inj H
          go_wp2
          go_ret
          exact ⟨by first | rfl | (simp; done) | (simp [*]; done), by repeat (first | exact Drawn0.refl _ | apply Drawn0.step)⟩
end Go.Proofs.YtonnmkhmhndalaaDoor
end
section
namespace Go.Proofs
open Go.Shelf
def Tryd.l160_ren : Go.Shelf.Ren := ⟨fun | 160 => 57 | 232 => 61 | 231 => 60 | 227 => 62 | 234 => 64 | 233 => 63 | 236 => 66 | 235 => 65 | 228 => 68 | 271 => 71 | 151 => 70 | 197 => 69 | 120 => 74 | 152 => 73 | 260 => 72 | 137 => 75 | 119 => 76 | 224 => 77 | 225 => 78 | 217 => 79 | 266 => 80 | n => n, fun | 9 => 9 | 4 => 4 | 3 => 3 | 5 => 5 | 117 => 100 | 116 => 99 | 0 => 0 | 124 => 103 | 21 => 21 | 105 => 105 | 46 => 54 | 119 => 109 | 139 => 112 | 138 => 111 | n => n, fun | 3 => 0 | 4 => 1 | n => n⟩
theorem Tryd.l160 : Go.Proofs.Lays.n160 Tryd.prog Tryd.l160_ren := {
  mixed := by kernel_rfl,
  f119 := Tryd.func76.trans (congrArg some (by kernel_rfl)),
  f120 := Tryd.func74.trans (congrArg some (by kernel_rfl)),
  f137 := Tryd.func75.trans (congrArg some (by kernel_rfl)),
  f151 := Tryd.func70.trans (congrArg some (by kernel_rfl)),
  f152 := Tryd.func73.trans (congrArg some (by kernel_rfl)),
  f160 := Tryd.func57.trans (congrArg some (by kernel_rfl)),
  f197 := Tryd.func69.trans (congrArg some (by kernel_rfl)),
  f217 := Tryd.func79.trans (congrArg some (by kernel_rfl)),
  f224 := Tryd.func77.trans (congrArg some (by kernel_rfl)),
  f225 := Tryd.func78.trans (congrArg some (by kernel_rfl)),
  f227 := Tryd.func62.trans (congrArg some (by kernel_rfl)),
  f228 := Tryd.func68.trans (congrArg some (by kernel_rfl)),
  f231 := Tryd.func60.trans (congrArg some (by kernel_rfl)),
  f232 := Tryd.func61.trans (congrArg some (by kernel_rfl)),
  f233 := Tryd.func63.trans (congrArg some (by kernel_rfl)),
  f234 := Tryd.func64.trans (congrArg some (by kernel_rfl)),
  f235 := Tryd.func65.trans (congrArg some (by kernel_rfl)),
  f236 := Tryd.func66.trans (congrArg some (by kernel_rfl)),
  f260 := Tryd.func72.trans (congrArg some (by kernel_rfl)),
  f266 := Tryd.func80.trans (congrArg some (by kernel_rfl)),
  f271 := Tryd.func71.trans (congrArg some (by kernel_rfl)),
  t0 := Tryd.underlying0,
  a0 := Tryd.isAgg0,
  z0 := Tryd.sizeOf0,
  v0 := Tryd.zeroValue0,
  t3 := Tryd.underlying3,
  a3 := Tryd.isAgg3,
  z3 := Tryd.sizeOf3,
  v3 := Tryd.zeroValue3,
  t4 := Tryd.underlying4,
  a4 := Tryd.isAgg4,
  z4 := Tryd.sizeOf4,
  v4 := Tryd.zeroValue4,
  t5 := Tryd.underlying5,
  a5 := Tryd.isAgg5,
  z5 := Tryd.sizeOf5,
  v5 := Tryd.zeroValue5,
  t9 := Tryd.underlying9,
  a9 := Tryd.isAgg9,
  z9 := Tryd.sizeOf9,
  v9 := Tryd.zeroValue9,
  t21 := Tryd.underlying21,
  a21 := Tryd.isAgg21,
  z21 := Tryd.sizeOf21,
  v21 := Tryd.zeroValue21,
  t46 := Tryd.underlying54,
  a46 := Tryd.isAgg54,
  z46 := Tryd.sizeOf54,
  v46 := Tryd.zeroValue54,
  t105 := Tryd.underlying105,
  a105 := Tryd.isAgg105,
  z105 := Tryd.sizeOf105,
  v105 := Tryd.zeroValue105,
  t116 := Tryd.underlying99,
  a116 := Tryd.isAgg99,
  z116 := Tryd.sizeOf99,
  t117 := Tryd.underlying100,
  a117 := Tryd.isAgg100,
  z117 := Tryd.sizeOf100,
  v117 := Tryd.zeroValue100,
  t119 := Tryd.underlying109,
  a119 := Tryd.isAgg109,
  z119 := Tryd.sizeOf109,
  t124 := Tryd.underlying103,
  a124 := Tryd.isAgg103,
  z124 := Tryd.sizeOf103,
  v124 := Tryd.zeroValue103,
  t138 := Tryd.underlying111,
  a138 := Tryd.isAgg111,
  z138 := Tryd.sizeOf111,
  v138 := Tryd.zeroValue111,
  t139 := Tryd.underlying112,
  a139 := Tryd.isAgg112,
  z139 := Tryd.sizeOf112,
  v139 := Tryd.zeroValue112,
  g3 := by kernel_rfl,
  g4 := by kernel_rfl }
end Go.Proofs
end
section
namespace Go.Proofs.YtonnmkhmhndalaaDoor
set_option linter.unusedVariables false
set_option linter.unusedSimpArgs false
open Go.RowKit Go.Lib Go.Shelf Go.Proofs.YtonnmkhmhndalaaDoorW.PrintWords Go.Proofs.YtonnmkhmhndalaaDoorW.PrintLast Go.Proofs.YtonnmkhmhndalaaDoorW.PrintMore
def bits4 : List UInt8 := [48, 49, 120, 122]
def vOk (v : ByteArray) : Bool := decide (1 ≤ v.size) && decide (v.size ≤ 256) && v.data.toList.all (bits4.contains ·)
theorem dropWhile_nil {α : Type} (p : α → Bool) : ∀ l : List α, l.dropWhile p = [] ↔ ∀ x ∈ l, p x = true := by
  intro l
  induction l with
  | nil => simp
  | cons a r ih =>
    by_cases h : p a = true
    · rw [List.dropWhile_cons_of_pos h, ih]
      simp [h]
    · rw [List.dropWhile_cons_of_neg h]
      simp [h]
theorem trim_nil (l cs : List UInt8) : Lib.trimS l cs = [] ↔ l.all (cs.contains ·) = true := by
  unfold Lib.trimS Lib.trimLeftS Lib.trimRightS
  rw [dropWhile_nil, List.all_eq_true]
  constructor
  · intro h x hx
    by_cases hp : cs.contains x = true
    · exact hp
    · exfalso
      have hne : l.reverse.dropWhile (cs.contains ·) ≠ [] := by
        intro he
        rw [dropWhile_nil] at he
        exact hp (he x (by simpa using hx))
      have h1 := List.head_dropWhile_not (cs.contains ·) hne
      have h2 := h ((l.reverse.dropWhile (cs.contains ·)).head hne) (by simp)
      rw [h2] at h1
      cases h1
  · intro h x hx
    have : x ∈ l.reverse.dropWhile (cs.contains ·) := by simpa using hx
    have h2 := (List.dropWhile_suffix (cs.contains ·)).mem this
    exact h x (by simpa using h2)
theorem vec_any (v : ByteArray) (w : World) (hv : v.size ≤ 9223372036854775807) : Calls Tryd.prog 53 #[.string v] w fun e w' => e = .returned (.int .i64 (if vOk v then 0 else 10)) ∧ Below w.heap.size w w' := by
  have hcon := Any.strings_Trim_laid Tryd.l160 (by kernel_rfl) v ⟨#[48, 49, 120, 122]⟩ w hv (by decide) (ascii_of_all (by decide))
  change Calls Tryd.prog 57 _ _ (fun e w' => e = .returned (.string ⟨(Lib.trimS v.data.toList [48, 49, 120, 122]).toArray⟩) ∧ Below w.heap.size w w') at hcon
  have htr := trim_nil v.data.toList [48, 49, 120, 122]
  have hne : (⟨(Lib.trimS v.data.toList [48, 49, 120, 122]).toArray⟩ : ByteArray).toList.isEmpty = v.data.toList.all (bits4.contains ·) := by
    rw [Lib.toList_data]
    show (Lib.trimS v.data.toList [48, 49, 120, 122]).isEmpty = _
    rw [Bool.eq_iff_iff, List.isEmpty_iff]
    exact htr
  generalize (⟨(Lib.trimS v.data.toList [48, 49, 120, 122]).toArray⟩ : ByteArray) = r at hcon hne
  have HC := Lib.hid hcon
  clear hcon htr
  by_cases h1 : 1 ≤ v.size
  · have g1 : decide ((v.size : Int) < 1) = false := by rw [decide_eq_false_iff_not]; omega
    by_cases h2 : v.size ≤ 256
    · have g2 : decide ((v.size : Int) > 256) = false := by rw [decide_eq_false_iff_not]; omega
      have hv2 : vOk v = v.data.toList.all (bits4.contains ·) := by simp [vOk, h1, h2]
      rw [hv2]
      generalize v.data.toList.all (bits4.contains ·) = K at hne ⊢
      clear hv2
      cases K with
      | true =>
        go_enter Tryd.func53, Tryd.ntmps53
        go_wp2_with (go_at_call 57; refine HC.out.mono ?_; rintro e w' ⟨rfl, hb⟩)
        go_ret
        exact ⟨rfl, hb⟩
      | false =>
        go_enter Tryd.func53, Tryd.ntmps53
        go_wp2_with (go_at_call 57; refine HC.out.mono ?_; rintro e w' ⟨rfl, hb⟩)
        go_ret
        exact ⟨rfl, hb⟩
    · have g2 : decide ((v.size : Int) > 256) = true := by rw [decide_eq_true_iff]; omega
      have hv2 : vOk v = false := by simp [vOk, h2]
      rw [hv2]
      clear hne hv2
      go_enter Tryd.func53, Tryd.ntmps53
      go_wp2_with fail
      go_ret
      exact ⟨rfl, Below.refl _ _⟩
  · have g1 : decide ((v.size : Int) < 1) = true := by rw [decide_eq_true_iff]; omega
    have hv2 : vOk v = false := by simp [vOk, h1]
    rw [hv2]
    clear hne hv2
    go_enter Tryd.func53, Tryd.ntmps53
    go_wp2_with fail
    go_ret
    exact ⟨rfl, Below.refl _ _⟩
theorem w64 {n : Int} (h0 : -9223372036854775808 ≤ n) (h1 : n ≤ 9223372036854775807) : wrap64 n = n := by unfold wrap64; omega
theorem bt_get (s : ByteArray) (i : Nat) (h : i < s.size) : bt s i = ((s.data.toList[i]'(by simpa using h)).toNat : Int) := by
  simp [bt, ByteArray.get!, Array.getElem!_eq_getD, Array.getD_eq_getD_getElem?, h]
  rfl
theorem may_l0 (s : ByteArray) (hs : s.size ≤ 9223372036854775807) : ∀ (d k p : Nat), p + d = s.size → d < k → silkwormref01_May.l0 k s p = some ((s.data.toList.drop p).all (bits4.contains ·) && (decide (1 ≤ s.size) && decide (s.size ≤ 256))) := by
  intro d
  induction d with
  | zero =>
    intro k p hp hk
    obtain ⟨k, rfl⟩ : ∃ m, k = m + 1 := ⟨k - 1, by omega⟩
    rw [silkwormref01_May.l0, if_neg (by omega), List.drop_eq_nil_of_le (by simp; omega)]
    by_cases h1 : 1 ≤ s.size
    · rw [if_pos (by omega)]
      congr 1
      simp only [List.all_nil, Bool.true_and, h1, decide_true, decide_eq_decide]
      omega
    · rw [if_neg (by omega)]
      simp [h1]
  | succ d ih =>
    intro k p hp hk
    obtain ⟨k, rfl⟩ : ∃ m, k = m + 1 := ⟨k - 1, by omega⟩
    have hlt : p < s.size := by omega
    have hnx : silkwormref01_May.l0 k s (wrap64 ((p : Int) + 1)) = some ((s.data.toList.drop (p + 1)).all (bits4.contains ·) && (decide (1 ≤ s.size) && decide (s.size ≤ 256))) := by
      rw [w64 (by omega) (by omega), show ((p : Int) + 1) = ((p + 1 : Nat) : Int) from by omega, ih k (p + 1) (by omega) (by omega)]
    have hdr := List.drop_eq_getElem_cons (l := s.data.toList) (i := p) (by simpa using hlt)
    rw [silkwormref01_May.l0, if_pos (by omega), if_pos (by omega), hnx, bt_get s p hlt, hdr, List.all_cons]
    generalize s.data.toList[p]'(by simpa using hlt) = b
    have hc : bits4.contains b = (decide ((b.toNat : Int) = 48) || (decide ((b.toNat : Int) = 49) || (decide ((b.toNat : Int) = 120) || decide ((b.toNat : Int) = 122)))) := by
      have e : ∀ n : UInt8, (b == n) = decide ((b.toNat : Int) = n.toNat) := by
        intro n
        rw [Bool.eq_iff_iff, beq_iff_eq, decide_eq_true_iff]
        constructor
        · intro h; rw [h]
        · intro h; exact UInt8.toNat_inj.1 (by omega)
      simp only [bits4, List.contains_cons, List.contains_nil, e]
      simp
    rw [hc]
    by_cases h1 : (b.toNat : Int) = 48
    · rw [if_pos h1]; simp [h1]
    rw [if_neg h1]
    by_cases h2 : (b.toNat : Int) = 49
    · rw [if_pos h2]; simp [h2]
    rw [if_neg h2]
    by_cases h3 : (b.toNat : Int) = 120
    · rw [if_pos h3]; simp [h3]
    rw [if_neg h3]
    by_cases h4 : (b.toNat : Int) = 122
    · rw [if_pos h4]; simp [h4]
    rw [if_neg h4]
    simp [h1, h2, h3, h4]
theorem may_any (s : ByteArray) (w : World) (hs : s.size ≤ 9223372036854775807) : Calls Tryd.prog 48 #[.string s] w fun e w' => e = .returned (.bool (vOk s)) ∧ ∃ m, w' = w.drewN m := by
  refine (silkwormref01_May.calls (s.size + 1) s (vOk s) w ?_).mono fun e w' ⟨h1, ⟨h2⟩⟩ => ⟨h1, h2⟩
  have := may_l0 s hs s.size (s.size + 1) 0 (by omega) (by omega)
  unfold silkwormref01_May.f vOk
  rw [Bool.and_comm]
  simpa using this
theorem add_plain (b o i : Nat) : (⟨b, o, none⟩ : Addr).add i = ⟨b, o + i, none⟩ := by unfold Addr.add; split <;> simp_all
structure BelowBy (w : World) where
  W : World
  h : Below w.heap.size w W
instance (w : World) : Inhabited (BelowBy w) := ⟨⟨w, Below.refl _ _⟩⟩
theorem call_below {P : Program} {f : FuncId} {args : Array Value} {w : World} {v : Value} (p : BelowBy w) (h : Calls P f args p.W fun e w' => e = .returned v ∧ Below p.W.heap.size p.W w') :
    Calls P f args p.W fun e w'' => e = .returned v ∧ ∃ q : BelowBy w, w'' = q.W :=
  h.mono fun e w' h => ⟨h.1, ⟨⟨w', p.h.trans (h.2.mono p.h.size)⟩, rfl⟩⟩
theorem region_below {P : Program} {id : Nat} {Q : Exit → Act → World → Prop} {a : Act} {w : World} {l : List Oper} (hm : P.follows .mixedOrders = true) (hB : Region.lexB .any l.toArray = true)
    (h : wpQuiet P l.toArray (fun w' => ∃ p : BelowBy w, w' = p.W) (fun a' => ∀ w', (∃ p : BelowBy w, w' = p.W) → Q .normal a' w') l a) : (Code.region id l.toArray true).wp P Q a w :=
  wp_region_quiet (C := fun w' => ∃ p : BelowBy w, w' = p.W) hm hB ⟨⟨w.drew, below_drew (Below.refl _ _)⟩, rfl⟩ (by simpa using h)
theorem BelowBy.cell {w : World} (p : BelowBy w) {b o : Nat} {v : Value} (h : w.cell? ⟨b, o, none⟩ = some v) : p.W.cell? ⟨b, o, none⟩ = some v :=
  (p.h.cell (p := ⟨b, o, none⟩) (World.block_lt_of_cell? w _ h)).trans h
end Go.Proofs.YtonnmkhmhndalaaDoor
end
section
namespace Go.Proofs.YtonnmkhmhndalaaDoor
set_option linter.unusedVariables false
set_option linter.unusedSimpArgs false
def upd {β : Type} (f : Nat → β) (k : Nat) (v : β) : Nat → β := fun j => if j = k then v else f j
theorem upd_same {β : Type} (f : Nat → β) (k : Nat) (v : β) : upd f k v k = v := if_pos rfl
theorem upd_ne {β : Type} (f : Nat → β) {j k : Nat} (v : β) (h : j ≠ k) : upd f k v j = f j := if_neg h
structure Users (n : Nat) (hs us : Nat → List Nat) : Prop where
  lt : ∀ k, k < n → ∀ h ∈ hs k, h < n
  ult : ∀ k, k < n → ∀ u ∈ us k, u < n
  cnt : ∀ k u, k < n → u < n → (us k).count u = (hs u).count k
structure LSt where
  out : Nat → Nat
  left : Nat → Nat
  done : Nat → Bool
  ready : List Nat
  cnt : Nat
structure LInv (n : Nat) (hs : Nat → List Nat) (s : LSt) : Prop where
  rn : s.ready.Nodup
  rl : ∀ x ∈ s.ready, x < n ∧ s.done x = false ∧ s.left x = 0
  rc : ∀ x, x < n → s.done x = false → s.left x = 0 → x ∈ s.ready
  lf : ∀ u, u < n → s.left u = (hs u).countP (fun h => !s.done h)
  dl : ∀ u, u < n → s.done u = true → s.left u = 0
  ob : ∀ u, u < n → s.out u ≤ s.cnt ∧ (s.done u = true → s.out u < s.cnt)
  o1 : ∀ u, u < n → ∀ h ∈ hs u, s.done h = true → s.out h + 1 ≤ s.out u
  o2 : ∀ u, u < n → s.out u = 0 ∨ ∃ h ∈ hs u, s.done h = true ∧ s.out u = s.out h + 1
  cn : s.cnt = (List.range n).countP s.done
structure LMid (n : Nat) (hs us : Nat → List Nat) (k : Nat) (p : List Nat) (s : LSt) : Prop where
  kn : k < n
  kd : s.done k = true
  rn : s.ready.Nodup
  rl : ∀ x ∈ s.ready, x < n ∧ s.done x = false ∧ s.left x = 0
  rc : ∀ x, x < n → s.done x = false → s.left x = 0 → x ∈ s.ready
  lf : ∀ u, u < n → s.left u + p.count u = (hs u).countP (fun h => !s.done h) + (hs u).count k
  kk : ∀ u, u < n → s.done u = true → k ∉ hs u
  dl : ∀ u, u < n → s.done u = true → s.left u = 0
  ob : ∀ u, u < n → s.out u ≤ s.cnt ∧ (s.done u = true → s.out u < s.cnt)
  o1 : ∀ u, u < n → ∀ h ∈ hs u, s.done h = true → (h = k → u ∈ p) → s.out h + 1 ≤ s.out u
  o2 : ∀ u, u < n → s.out u = 0 ∨ ∃ h ∈ hs u, s.done h = true ∧ s.out u = s.out h + 1
  cn : s.cnt = (List.range n).countP s.done
theorem countP_upd (done : Nat → Bool) (k : Nat) (hk : done k = false) : ∀ l : List Nat, l.countP (fun h => !done h) = l.countP (fun h => !(upd done k true) h) + l.count k
  | [] => rfl
  | a :: l => by
    have ih := countP_upd done k hk l
    rw [List.countP_cons, List.countP_cons, List.count_cons, ih]
    by_cases e : a = k
    · subst e
      rw [hk, upd_same]
      simp
      omega
    · rw [upd_ne _ _ e]
      have : (a == k) = false := by simpa using e
      rw [this]
      simp
      omega
theorem countP_one (done : Nat → Bool) (k : Nat) (hk : done k = false) : ∀ l : List Nat, l.countP (upd done k true) = l.countP done + l.count k
  | [] => rfl
  | a :: l => by
    have ih := countP_one done k hk l
    rw [List.countP_cons, List.countP_cons, List.count_cons, ih]
    by_cases e : a = k
    · subst e
      rw [hk, upd_same]
      simp
      omega
    · rw [upd_ne _ _ e]
      have : (a == k) = false := by simpa using e
      rw [this]
      simp
      omega
theorem count_range (n k : Nat) (h : k < n) : (List.range n).count k = 1 := by
  rw [List.nodup_range.count, if_pos (List.mem_range.2 h)]
def popSt (s : LSt) (r : List Nat) (k : Nat) : LSt := { s with done := upd s.done k true, ready := r, cnt := s.cnt + 1 }
theorem LInv.pop {n : Nat} {hs us : Nat → List Nat} {s : LSt} {r : List Nat} {k : Nat} (h : LInv n hs s) (hr : s.ready = r ++ [k]) : LMid n hs us k [] (popSt s r k) := by
  have hk := h.rl k (by rw [hr]; simp)
  have hrn := h.rn
  rw [hr] at hrn
  have hrn2 := List.nodup_append.1 hrn
  have hkr : ∀ x ∈ r, x ≠ k := fun x hx => hrn2.2.2 x hx k List.mem_cons_self
  have hz : ∀ u, u < n → s.left u = 0 → ∀ x ∈ hs u, s.done x = true := by
    intro u hu h0 x hx
    have := h.lf u hu
    rw [h0] at this
    have := List.countP_eq_zero.1 this.symm x hx
    simpa using this
  have hud : ∀ u, u ≠ k → upd s.done k true u = s.done u := fun u e => upd_ne _ _ e
  refine ⟨hk.1, upd_same _ _ _, hrn2.1, ?_, ?_, ?_, ?_, ?_, ?_, ?_, ?_, ?_⟩
  · intro x hx
    have h1 := h.rl x (by rw [hr]; exact List.mem_append_left _ hx)
    exact ⟨h1.1, by show upd s.done k true x = false; rw [hud x (hkr x hx)]; exact h1.2.1, h1.2.2⟩
  · intro x hx hd hl
    have e : x ≠ k := by
      rintro rfl
      have : upd s.done x true x = false := hd
      rw [upd_same] at this
      cases this
    have hd' : upd s.done k true x = false := hd
    rw [hud x e] at hd'
    have := h.rc x hx hd' hl
    rw [hr] at this
    rcases List.mem_append.1 this with h1 | h1
    · exact h1
    · exact absurd (List.mem_singleton.1 h1) e
  · intro u hu
    show s.left u + 0 = (hs u).countP (fun h => !(upd s.done k true) h) + (hs u).count k
    rw [← countP_upd s.done k hk.2.1, h.lf u hu]
    rfl
  · intro u hu hd hm
    by_cases e : u = k
    · subst e
      have := hz u hu hk.2.2 u hm
      rw [hk.2.1] at this
      cases this
    · have hd' : upd s.done k true u = true := hd
      rw [hud u e] at hd'
      have := hz u hu (h.dl u hu hd') k hm
      rw [hk.2.1] at this
      cases this
  · intro u hu hd
    by_cases e : u = k
    · subst e; exact hk.2.2
    · have hd' : upd s.done k true u = true := hd
      rw [hud u e] at hd'
      exact h.dl u hu hd'
  · intro u hu
    have := h.ob u hu
    exact ⟨Nat.le_succ_of_le this.1, fun _ => Nat.lt_succ_of_le this.1⟩
  · intro u hu x hx hd hp
    have e : x ≠ k := fun e => by cases hp e
    have hd' : upd s.done k true x = true := hd
    rw [hud x e] at hd'
    exact h.o1 u hu x hx hd'
  · intro u hu
    rcases h.o2 u hu with h1 | ⟨x, hx, hd, ho⟩
    · exact Or.inl h1
    · refine Or.inr ⟨x, hx, ?_, ho⟩
      show upd s.done k true x = true
      by_cases e : x = k
      · subst e; exact upd_same _ _ _
      · rw [hud x e]; exact hd
  · show s.cnt + 1 = (List.range n).countP (upd s.done k true)
    rw [countP_one s.done k hk.2.1, count_range n k hk.1, h.cn]
def userSt (s : LSt) (k u : Nat) : LSt := { s with out := upd s.out u (max (s.out u) (s.out k + 1)), left := upd s.left u (s.left u - 1), ready := if s.left u - 1 = 0 then s.ready ++ [u] else s.ready }
theorem LMid.user {n : Nat} {hs us : Nat → List Nat} {s : LSt} {k u : Nat} {p q : List Nat} (h : LMid n hs us k p s) (hU : Users n hs us) (hq : us k = p ++ u :: q) :
    u < n ∧ 1 ≤ s.left u ∧ s.done u = false ∧ u ≠ k ∧ s.out u ≤ s.cnt ∧ s.out k < s.cnt ∧ LMid n hs us k (p ++ [u]) (userSt s k u) := by
  have hmem : u ∈ us k := by rw [hq]; simp
  have hu := hU.ult k h.kn u hmem
  have hcu := hU.cnt k u h.kn hu
  have hc1 : p.count u + 1 ≤ (us k).count u := by
    rw [hq, List.count_append, List.count_cons]
    simp
  have hkm : k ∈ hs u := List.count_pos_iff.1 (by omega)
  have hnd : s.done u = false := by
    cases hd : s.done u
    · rfl
    · exact absurd hkm (h.kk u hu hd)
  have hlf := h.lf u hu
  have hl1 : 1 ≤ s.left u := by omega
  have hne : u ≠ k := by
    rintro rfl
    rw [h.kd] at hnd
    cases hnd
  have hok := (h.ob k h.kn).2 h.kd
  have hou := (h.ob u hu).1
  have hur : u ∉ s.ready := fun hm => by have := (h.rl u hm).2.2; omega
  have ho : ∀ x, x ≠ u → (userSt s k u).out x = s.out x := fun x e => upd_ne _ _ e
  have hl : ∀ x, x ≠ u → (userSt s k u).left x = s.left x := fun x e => upd_ne _ _ e
  have hou' : (userSt s k u).out u = max (s.out u) (s.out k + 1) := upd_same _ _ _
  have hlu' : (userSt s k u).left u = s.left u - 1 := upd_same _ _ _
  refine ⟨hu, hl1, hnd, hne, hou, hok, ⟨h.kn, h.kd, ?_, ?_, ?_, ?_, h.kk, ?_, ?_, ?_, ?_, h.cn⟩⟩
  · show (if s.left u - 1 = 0 then s.ready ++ [u] else s.ready).Nodup
    split
    · refine List.nodup_append.2 ⟨h.rn, by simp, ?_⟩
      intro a ha b hb
      rw [List.mem_singleton.1 hb]
      rintro rfl
      exact hur ha
    · exact h.rn
  · intro x hx
    have hx' : x ∈ (if s.left u - 1 = 0 then s.ready ++ [u] else s.ready) := hx
    by_cases e : x = u
    · subst e
      refine ⟨hu, hnd, ?_⟩
      rw [hlu']
      by_cases e0 : s.left x - 1 = 0
      · exact e0
      · rw [if_neg e0] at hx'
        exact absurd hx' hur
    · have hx2 : x ∈ s.ready := by
        by_cases e0 : s.left u - 1 = 0
        · rw [if_pos e0] at hx'
          rcases List.mem_append.1 hx' with h1 | h1
          · exact h1
          · exact absurd (List.mem_singleton.1 h1) e
        · rw [if_neg e0] at hx'; exact hx'
      have := h.rl x hx2
      exact ⟨this.1, this.2.1, by rw [hl x e]; exact this.2.2⟩
  · intro x hx hd h0
    show x ∈ (if s.left u - 1 = 0 then s.ready ++ [u] else s.ready)
    by_cases e : x = u
    · subst e
      rw [hlu'] at h0
      rw [if_pos h0]
      simp
    · rw [hl x e] at h0
      have := h.rc x hx hd h0
      split
      · exact List.mem_append_left _ this
      · exact this
  · intro x hx
    rw [List.count_append]
    show (userSt s k u).left x + (p.count x + [u].count x) = (hs x).countP (fun h => !s.done h) + (hs x).count k
    by_cases e : x = u
    · subst e
      rw [hlu', ← hlf]
      simp
      omega
    · rw [hl x e, ← h.lf x hx]
      have : (u == x) = false := by simpa using fun e' => e (e'.symm)
      rw [List.count_cons, this]
      simp
  · intro x hx hd
    have e : x ≠ u := by
      rintro rfl
      have : s.done x = true := hd
      rw [hnd] at this
      cases this
    rw [hl x e]
    exact h.dl x hx hd
  · intro x hx
    by_cases e : x = u
    · subst e
      rw [hou']
      refine ⟨?_, fun hd => ?_⟩
      · show max (s.out x) (s.out k + 1) ≤ s.cnt
        omega
      · have : s.done x = true := hd
        rw [hnd] at this
        cases this
    · rw [ho x e]
      exact h.ob x hx
  · intro x hx y hy hd hp
    have ey : y ≠ u := by
      rintro rfl
      have : s.done y = true := hd
      rw [hnd] at this
      cases this
    rw [ho y ey]
    by_cases e : x = u
    · subst e
      rw [hou']
      by_cases ek : y = k
      · subst ek; omega
      · have := h.o1 x hx y hy hd (fun e' => absurd e' ek)
        omega
    · rw [ho x e]
      refine h.o1 x hx y hy hd (fun e' => ?_)
      rcases List.mem_append.1 (hp e') with h1 | h1
      · exact h1
      · exact absurd (List.mem_singleton.1 h1) e
  · intro x hx
    by_cases e : x = u
    · subst e
      rw [hou']
      rcases Nat.le_total (s.out k + 1) (s.out x) with hle | hle
      · rw [Nat.max_eq_left hle]
        rcases h.o2 x hx with h1 | ⟨y, hy, hd, h1⟩
        · exact Or.inl h1
        · have ey : y ≠ x := by rintro rfl; rw [hnd] at hd; cases hd
          exact Or.inr ⟨y, hy, hd, by rw [ho y ey]; exact h1⟩
      · rw [Nat.max_eq_right hle]
        exact Or.inr ⟨k, hkm, h.kd, by rw [ho k (Ne.symm hne)]⟩
    · rw [ho x e]
      rcases h.o2 x hx with h1 | ⟨y, hy, hd, h1⟩
      · exact Or.inl h1
      · have ey : y ≠ u := by rintro rfl; rw [hnd] at hd; cases hd
        exact Or.inr ⟨y, hy, hd, by rw [ho y ey]; exact h1⟩
theorem LMid.fin {n : Nat} {hs us : Nat → List Nat} {s : LSt} {k : Nat} (h : LMid n hs us k (us k) s) (hU : Users n hs us) : LInv n hs s := by
  refine ⟨h.rn, h.rl, h.rc, ?_, h.dl, h.ob, ?_, h.o2, h.cn⟩
  · intro u hu
    have := h.lf u hu
    have := hU.cnt k u h.kn hu
    omega
  · intro u hu x hx hd
    refine h.o1 u hu x hx hd (fun e => ?_)
    subst e
    have := hU.cnt x u h.kn hu
    have h2 := List.count_pos_iff.2 hx
    exact List.count_pos_iff.1 (by omega)
structure LRes (n : Nat) (hs : Nat → List Nat) (out : Nat → Nat) (done : Nat → Bool) (cnt : Nat) : Prop where
  ok1 : ∀ u, u < n → done u = true → ∀ h ∈ hs u, done h = true ∧ out h + 1 ≤ out u
  ok2 : ∀ u, u < n → done u = true → out u = 0 ∨ ∃ h ∈ hs u, out u = out h + 1
  ob : ∀ u, u < n → out u ≤ cnt ∧ (done u = true → out u < cnt)
  no : ∀ u, u < n → done u = false → ∃ h ∈ hs u, done h = false
  cn : cnt = (List.range n).countP done
theorem LInv.res {n : Nat} {hs : Nat → List Nat} {s : LSt} (h : LInv n hs s) (hr : s.ready = []) : LRes n hs s.out s.done s.cnt := by
  have hz : ∀ u, u < n → s.left u = 0 → ∀ x ∈ hs u, s.done x = true := by
    intro u hu h0 x hx
    have := h.lf u hu
    rw [h0] at this
    have := List.countP_eq_zero.1 this.symm x hx
    simpa using this
  refine ⟨?_, ?_, h.ob, ?_, h.cn⟩
  · intro u hu hd x hx
    have := hz u hu (h.dl u hu hd) x hx
    exact ⟨this, h.o1 u hu x hx this⟩
  · intro u hu hd
    rcases h.o2 u hu with h1 | ⟨x, hx, _, h1⟩
    · exact Or.inl h1
    · exact Or.inr ⟨x, hx, h1⟩
  · intro u hu hd
    by_cases h0 : s.left u = 0
    · have := h.rc u hu hd h0
      rw [hr] at this
      cases this
    · have hl := h.lf u hu
      have hp : 0 < (hs u).countP (fun h => !s.done h) := by omega
      obtain ⟨x, hx, hd⟩ := List.countP_pos_iff.1 hp
      exact ⟨x, hx, by simpa using hd⟩
theorem LInv.le {n : Nat} {hs : Nat → List Nat} {s : LSt} (h : LInv n hs s) : s.cnt ≤ n := by
  rw [h.cn]
  have := List.countP_le_length (p := s.done) (l := List.range n)
  rwa [List.length_range] at this
theorem LMid.le {n : Nat} {hs us : Nat → List Nat} {k : Nat} {p : List Nat} {s : LSt} (h : LMid n hs us k p s) : s.cnt ≤ n := by
  rw [h.cn]
  have := List.countP_le_length (p := s.done) (l := List.range n)
  rwa [List.length_range] at this
theorem LRes.le {n : Nat} {hs : Nat → List Nat} {out : Nat → Nat} {done : Nat → Bool} {cnt : Nat} (h : LRes n hs out done cnt) : cnt ≤ n := by
  rw [h.cn]
  have := List.countP_le_length (p := done) (l := List.range n)
  rwa [List.length_range] at this
theorem LRes.all {n : Nat} {hs : Nat → List Nat} {out : Nat → Nat} {done : Nat → Bool} (h : LRes n hs out done n) : ∀ u, u < n → done u = true := by
  intro u hu
  have h1 := h.cn
  have h2 : (List.range n).countP done = (List.range n).length := by rw [← h1, List.length_range]
  exact List.countP_eq_length.1 h2 u (List.mem_range.2 hu)
theorem LRes.some {n : Nat} {hs : Nat → List Nat} {out : Nat → Nat} {done : Nat → Bool} {cnt : Nat} (h : LRes n hs out done cnt) (hc : cnt < n) : ∃ u, u < n ∧ done u = false := by
  apply Classical.byContradiction
  intro hn
  have h2 : (List.range n).countP done = (List.range n).length := by
    refine List.countP_eq_length.2 fun u hu => ?_
    cases hd : done u
    · exact absurd ⟨u, List.mem_range.1 hu, hd⟩ hn
    · rfl
  rw [List.length_range, ← h.cn] at h2
  omega
structure IsLev (n : Nat) (hs : Nat → List Nat) (L : Nat → Nat) : Prop where
  lt : ∀ u, u < n → L u < n
  up : ∀ u, u < n → ∀ h ∈ hs u, L h + 1 ≤ L u
  at_ : ∀ u, u < n → L u = 0 ∨ ∃ h ∈ hs u, L u = L h + 1
theorem LRes.lev {n : Nat} {hs : Nat → List Nat} {out : Nat → Nat} {done : Nat → Bool} (h : LRes n hs out done n) : IsLev n hs out :=
  ⟨fun u hu => (h.ob u hu).2 (h.all u hu), fun u hu x hx => (h.ok1 u hu (h.all u hu) x hx).2, fun u hu => h.ok2 u hu (h.all u hu)⟩
theorem IsLev.uniq {n : Nat} {hs : Nat → List Nat} {L M : Nat → Nat} (hl : ∀ k, k < n → ∀ h ∈ hs k, h < n) (h1 : IsLev n hs L) (h2 : IsLev n hs M) : ∀ u, u < n → L u = M u := by
  have key : ∀ d, ∀ u, u < n → L u = d → M u = d := by
    intro d
    induction d using Nat.strongRecOn with
    | _ d ih =>
      intro u hu hd
      have hge : d ≤ M u := by
        rcases h1.at_ u hu with h0 | ⟨x, hx, he⟩
        · omega
        · have hxn := hl u hu x hx
          have := ih (L x) (by omega) x hxn rfl
          have := h2.up u hu x hx
          omega
      rcases h2.at_ u hu with h0 | ⟨x, hx, he⟩
      · omega
      · have hxn := hl u hu x hx
        have hup := h1.up u hu x hx
        have := ih (L x) (by omega) x hxn rfl
        omega
  intro u hu
  exact (key (L u) u hu rfl).symm
theorem LRes.nofix {n : Nat} {hs : Nat → List Nat} {out : Nat → Nat} {done : Nat → Bool} {cnt : Nat} (h : LRes n hs out done cnt) (hl : ∀ k, k < n → ∀ h ∈ hs k, h < n) (hc : cnt < n) (F : Nat → Nat) (hF : ∀ u, u < n → ∀ h ∈ hs u, F h + 1 ≤ F u) : False := by
  obtain ⟨u, hu, hd⟩ := h.some hc
  have key : ∀ d, ∀ u, u < n → done u = false → F u = d → False := by
    intro d
    induction d using Nat.strongRecOn with
    | _ d ih =>
      intro u hu hd he
      obtain ⟨x, hx, hdx⟩ := h.no u hu hd
      have := hF u hu x hx
      exact ih (F x) (by omega) x (hl u hu x hx) hdx rfl
  exact key (F u) u hu hd rfl
def lim (r i : Nat) : Nat := r * 1048576 + i * 256
theorem lim_next (r i : Nat) : lim r (i + 1) = lim r i + 256 := by unfold lim; omega
theorem lim_round (r n : Nat) (hn : n ≤ 4096) : lim r n ≤ lim (r + 1) 0 := by unfold lim; omega
theorem lim_le (r i : Nat) (hr : r ≤ 4097) (hi : i ≤ 4096) : lim r i ≤ 8589934592 := by unfold lim; omega
structure BInv (n : Nat) (hs : Nat → List Nat) (r i : Nat) (p : List Nat) (out : Nat → Nat) (ch : Bool) : Prop where
  b1 : ∀ L, IsLev n hs L → ∀ u, u < n → out u ≤ L u ∧ (L u < r → out u = L u) ∧ (u < i → L u ≤ r → out u = L u)
  bp : ∀ L, IsLev n hs L → ∀ h ∈ p, out h + 1 ≤ out i
  b2 : ch = false → (∀ u, u < i → ∀ h ∈ hs u, out h + 1 ≤ out u) ∧ (∀ h ∈ p, out h + 1 ≤ out i)
  b3 : ∀ L, IsLev n hs L → r = n → ch = false
  b4 : ∀ u, u < n → out u ≤ lim r i + p.length
theorem BInv.start (n : Nat) (hs : Nat → List Nat) : BInv n hs 0 0 [] (fun _ => 0) false :=
  ⟨fun L _ u _ => ⟨Nat.zero_le _, fun h => absurd h (Nat.not_lt_zero _), fun h => absurd h (Nat.not_lt_zero _)⟩, fun _ _ _ h => (by cases h), fun _ => ⟨fun _ h => absurd h (Nat.not_lt_zero _), fun _ h => (by cases h)⟩, fun _ _ _ => rfl, fun _ _ => Nat.zero_le _⟩
theorem BInv.relax {n : Nat} {hs : Nat → List Nat} {r i : Nat} {p q : List Nat} {out : Nat → Nat} {ch : Bool} {h : Nat} (hb : BInv n hs r i p out ch) (hi : i < n) (hq : hs i = p ++ h :: q) (hl : ∀ k, k < n → ∀ h ∈ hs k, h < n) (hc : out i < out h + 1) : BInv n hs r i (p ++ [h]) (upd out i (out h + 1)) true := by
  have hm : h ∈ hs i := by rw [hq]; simp
  have hh := hl i hi h hm
  refine ⟨?_, ?_, fun e => (by cases e), ?_, ?_⟩
  · intro L hL u hu
    have := hb.b1 L hL u hu
    by_cases e : u = i
    · subst e
      rw [upd_same]
      have h1 := hb.b1 L hL h hh
      have h2 := hL.up u hu h hm
      refine ⟨by omega, fun h3 => ?_, fun h3 => absurd h3 (Nat.lt_irrefl _)⟩
      have := this.2.1 h3
      have := h1.1
      omega
    · rw [upd_ne _ _ e]
      exact this
  · intro L hL x hx
    rw [upd_same]
    have hxi : x ≠ i := by
      rintro rfl
      have hxm : x ∈ hs x := by
        rw [hq]
        rcases List.mem_append.1 hx with h1 | h1
        · exact List.mem_append_left _ h1
        · rw [List.mem_singleton.1 h1]; simp
      have := hL.up x hi x hxm
      omega
    rw [upd_ne _ _ hxi]
    rcases List.mem_append.1 hx with h1 | h1
    · have := hb.bp L hL x h1
      omega
    · rw [List.mem_singleton.1 h1]; exact Nat.le_refl _
  · intro L hL er
    exfalso
    have h1 := hb.b1 L hL i hi
    have h2 := hb.b1 L hL h hh
    have h3 := hL.up i hi h hm
    have := hL.lt i hi
    have := h1.2.1 (by omega)
    have := h2.1
    omega
  · intro u hu
    rw [List.length_append, List.length_singleton]
    by_cases e : u = i
    · subst e
      rw [upd_same]
      have := hb.b4 h hh
      omega
    · rw [upd_ne _ _ e]
      have := hb.b4 u hu
      omega
theorem BInv.stay {n : Nat} {hs : Nat → List Nat} {r i : Nat} {p : List Nat} {out : Nat → Nat} {ch : Bool} {h : Nat} (hb : BInv n hs r i p out ch) (hc : ¬ out i < out h + 1) : BInv n hs r i (p ++ [h]) out ch := by
  refine ⟨hb.b1, ?_, ?_, hb.b3, ?_⟩
  · intro L hL x hx
    rcases List.mem_append.1 hx with h1 | h1
    · exact hb.bp L hL x h1
    · rw [List.mem_singleton.1 h1]; omega
  · intro e
    refine ⟨(hb.b2 e).1, fun x hx => ?_⟩
    rcases List.mem_append.1 hx with h1 | h1
    · exact (hb.b2 e).2 x h1
    · rw [List.mem_singleton.1 h1]; omega
  · intro u hu
    rw [List.length_append]
    have := hb.b4 u hu
    omega
theorem BInv.next {n : Nat} {hs : Nat → List Nat} {r i : Nat} {out : Nat → Nat} {ch : Bool} (hb : BInv n hs r i (hs i) out ch) (hi : i < n) (hlen : (hs i).length ≤ 256) (hl : ∀ k, k < n → ∀ h ∈ hs k, h < n) : BInv n hs r (i + 1) [] out ch := by
  refine ⟨?_, fun _ _ _ h => (by cases h), ?_, hb.b3, ?_⟩
  · intro L hL u hu
    have := hb.b1 L hL u hu
    refine ⟨this.1, this.2.1, fun h1 h2 => ?_⟩
    by_cases e : u = i
    · subst e
      rcases hL.at_ u hu with h0 | ⟨x, hx, he⟩
      · omega
      · have h3 := hb.bp L hL x hx
        have h4 := (hb.b1 L hL x (hl u hu x hx)).2.1 (by omega)
        omega
    · exact this.2.2 (by omega) h2
  · intro e
    refine ⟨fun u hu x hx => ?_, fun _ h => (by cases h)⟩
    by_cases e2 : u = i
    · subst e2; exact (hb.b2 e).2 x hx
    · exact (hb.b2 e).1 u (by omega) x hx
  · intro u hu
    have := hb.b4 u hu
    rw [List.length_nil, lim_next]
    omega
theorem BInv.round {n : Nat} {hs : Nat → List Nat} {r : Nat} {out : Nat → Nat} {ch : Bool} (hb : BInv n hs r n [] out ch) (hn : n ≤ 4096) : BInv n hs (r + 1) 0 [] out false := by
  refine ⟨?_, fun _ _ _ h => (by cases h), fun _ => ⟨fun _ h => absurd h (Nat.not_lt_zero _), fun _ h => (by cases h)⟩, fun _ _ _ => rfl, ?_⟩
  · intro L hL u hu
    have := hb.b1 L hL u hu
    exact ⟨this.1, fun h => this.2.2 hu (by omega), fun h => absurd h (Nat.not_lt_zero _)⟩
  · intro u hu
    have := hb.b4 u hu
    have := lim_round r n hn
    rw [List.length_nil] at *
    omega
theorem BInv.fixed {n : Nat} {hs : Nat → List Nat} {r : Nat} {out : Nat → Nat} (hb : BInv n hs r n [] out false) : (∀ u, u < n → ∀ h ∈ hs u, out h + 1 ≤ out u) ∧ ∀ L, IsLev n hs L → (∀ k, k < n → ∀ h ∈ hs k, h < n) → ∀ u, u < n → out u = L u := by
  have hf := (hb.b2 rfl).1
  refine ⟨hf, fun L hL hl => ?_⟩
  have key : ∀ d, ∀ u, u < n → L u = d → d ≤ out u := by
    intro d
    induction d using Nat.strongRecOn with
    | _ d ih =>
      intro u hu hd
      rcases hL.at_ u hu with h0 | ⟨x, hx, he⟩
      · omega
      · have := ih (L x) (by omega) x (hl u hu x hx) rfl
        have := hf u hu x hx
        omega
  intro u hu
  have h1 := key (L u) u hu rfl
  have h2 := (hb.b1 L hL u hu).1
  omega
end Go.Proofs.YtonnmkhmhndalaaDoor
end
section
namespace Go.Proofs.YtonnmkhmhndalaaDoor
set_option linter.unusedVariables false
set_option linter.unusedSimpArgs false
open Go.RowKit Go.Proofs.YtonnmkhmhndalaaDoorW.PrintWords Go.Proofs.YtonnmkhmhndalaaDoorW.PrintLast Go.Proofs.YtonnmkhmhndalaaDoorW.PrintMore
structure NL where
  nd : List S39
  nt : List Int
  pt : Int
def nAt (x : NL) (k : Nat) : S39 := x.nd.getD k z39
def hg (x : S39) : List Int := if x.f0 = 8 then [] else if x.f0 = 7 then x.f3.take 1 else x.f3
def hs (l : List S39) (k : Nat) : List Nat := (hg (l.getD k z39)).map Int.toNat
structure NIn (w : World) (x : NL) (A : Option Addr) (c : Nat) (B : Option Addr) (d : Nat) : Prop where
  h0 : Kd.C k39 w A x.nd.length x.nd
  h1 : Kd.C (Kd.int .i64) w B x.nt.length x.nt
  l0 : x.nd.length ≤ c
  l1 : x.nt.length ≤ d
  z : ∀ s ∈ x.nd, s.f4.size ≤ 9223372036854775807
  b0 : ∀ s ∈ x.nd, s.f3.length * 8 ≤ 140737488355328
  b1 : x.nt.length * 8 ≤ 140737488355328
theorem NIn.below {w w' : World} {x : NL} {A : Option Addr} {c : Nat} {B : Option Addr} {d : Nat} (h : NIn w x A c B d) (hb : Below w.heap.size w w') : NIn w' x A c B d :=
  ⟨Kd.C_below h.h0 hb, Kd.C_below h.h1 hb, h.l0, h.l1, h.z, h.b0, h.b1⟩
abbrev nlV (x : NL) (A : Option Addr) (c : Nat) (B : Option Addr) (d : Nat) : Value := .agg #[.slice A x.nd.length c, .slice B x.nt.length d, .int .i64 x.pt]
abbrev ndV (x : S39) (A : Option Addr) (c : Nat) : Value := .agg #[.int .i64 x.f0, .int .i64 x.f1, .int .i64 x.f2, .slice A x.f3.length c, .string x.f4, .int .i64 x.f5, .int .i64 x.f6, .int .i64 x.f7]
theorem ints_at {w : World} {A : Option Addr} {l : List Int} (h : Kd.C (Kd.int .i64) w A l.length l) (i : Nat) (hi : i < l.length) : ∃ b o, A = some ⟨b, o, none⟩ ∧ w.cell? ⟨b, o + i, none⟩ = some (.int .i64 (l.getD i 0)) ∧ b < w.heap.size := by
  obtain ⟨ad, e, hc⟩ := Kd.at_int h i (by omega) (by omega)
  obtain ⟨ad2, e2, hc2⟩ := Kd.at_int h 0 (by omega) (by omega)
  obtain rfl : ad = ad2 := Option.some.inj (e.symm.trans e2)
  obtain ⟨b, o, sp⟩ := ad
  have hs := World.cell?_spot hc2
  have : sp = none := by simpa [Addr.add] using hs
  subst this
  rw [Int.toNat_natCast, add_plain] at hc
  exact ⟨b, o, e, hc, World.block_lt_of_cell? w _ hc⟩
theorem nodes_at {w : World} {A : Option Addr} {l : List S39} (h : Kd.C k39 w A l.length l) (i : Nat) (hi : i < l.length) : ∃ b o A3 c3, A = some ⟨b, o, none⟩ ∧ w.cell? ⟨b, o + i * 8, none⟩ = some (.int .i64 (l.getD i z39).f0) ∧ w.cell? ⟨b, o + i * 8 + 1, none⟩ = some (.int .i64 (l.getD i z39).f1) ∧ w.cell? ⟨b, o + i * 8 + 2, none⟩ = some (.int .i64 (l.getD i z39).f2) ∧ w.cell? ⟨b, o + i * 8 + 3, none⟩ = some (.slice A3 (l.getD i z39).f3.length c3) ∧ w.cell? ⟨b, o + i * 8 + 4, none⟩ = some (.string (l.getD i z39).f4) ∧ w.cell? ⟨b, o + i * 8 + 5, none⟩ = some (.int .i64 (l.getD i z39).f5) ∧ w.cell? ⟨b, o + i * 8 + 6, none⟩ = some (.int .i64 (l.getD i z39).f6) ∧ w.cell? ⟨b, o + i * 8 + 7, none⟩ = some (.int .i64 (l.getD i z39).f7) ∧ (l.getD i z39).f3.length ≤ c3 ∧ (Kd.int .i64).C w A3 (l.getD i z39).f3.length (l.getD i z39).f3 ∧ b < w.heap.size := by
  obtain ⟨ad, A3, c3, e, h0, h1, h2, h3, h4, h5, h6, h7, hl, hC⟩ := at_T39 h i (by omega) (by omega)
  obtain ⟨ad2, _, _, e2, hc2, _⟩ := at_T39 h 0 (by omega) (by omega)
  obtain rfl : ad = ad2 := Option.some.inj (e.symm.trans e2)
  obtain ⟨b, o, sp⟩ := ad
  have hs := World.cell?_spot hc2
  have : sp = none := by simpa [Addr.add] using hs
  subst this
  rw [Int.toNat_natCast, add_plain] at h0 h1 h2 h3 h4 h5 h6 h7
  exact ⟨b, o, A3, c3, e, h0, h1, h2, h3, h4, h5, h6, h7, hl, hC, World.block_lt_of_cell? w _ h0⟩
structure NAt (W : World) (b q : Nat) (y : S39) (A3 : Option Addr) (c3 : Nat) : Prop where
  k0 : W.cell? ⟨b, q, none⟩ = some (.int .i64 y.f0)
  k1 : W.cell? ⟨b, q + 1, none⟩ = some (.int .i64 y.f1)
  k2 : W.cell? ⟨b, q + 2, none⟩ = some (.int .i64 y.f2)
  k3 : W.cell? ⟨b, q + 3, none⟩ = some (.slice A3 y.f3.length c3)
  k4 : W.cell? ⟨b, q + 4, none⟩ = some (.string y.f4)
  k5 : W.cell? ⟨b, q + 5, none⟩ = some (.int .i64 y.f5)
  k6 : W.cell? ⟨b, q + 6, none⟩ = some (.int .i64 y.f6)
  k7 : W.cell? ⟨b, q + 7, none⟩ = some (.int .i64 y.f7)
  hC : Kd.C (Kd.int .i64) W A3 y.f3.length y.f3
theorem nodes_in {w : World} {A : Option Addr} {l : List S39} (h : Kd.C k39 w A l.length l) (i : Nat) (hi : i < l.length) : ∃ b o A3 c3, A = some ⟨b, o, none⟩ ∧ (l.getD i z39).f3.length ≤ c3 ∧ b < w.heap.size ∧ ∀ W, Below w.heap.size w W → NAt W b (o + i * 8) (l.getD i z39) A3 c3 := by
  obtain ⟨b, o, A3, c3, e, h0, h1, h2, h3, h4, h5, h6, h7, hl, hC, hb⟩ := nodes_at h i hi
  have key : ∀ (W : World) (q : Nat), Below w.heap.size w W → W.cell? ⟨b, q, none⟩ = w.cell? ⟨b, q, none⟩ := fun W q hW => hW.cell (p := ⟨b, q, none⟩) hb
  exact ⟨b, o, A3, c3, e, hl, hb, fun W hW => ⟨(key W _ hW).trans h0, (key W _ hW).trans h1, (key W _ hW).trans h2, (key W _ hW).trans h3, (key W _ hW).trans h4, (key W _ hW).trans h5, (key W _ hW).trans h6, (key W _ hW).trans h7, Kd.C_below hC hW⟩⟩
theorem box_node {W W' : World} {y : S39} {A3 : Option Addr} {c3 : Nat} (hC : Kd.C (Kd.int .i64) W A3 y.f3.length y.f3) (h : W.alloc (.cells #[.int .i64 y.f0, .int .i64 y.f1, .int .i64 y.f2, .slice A3 y.f3.length c3, .string y.f4, .int .i64 y.f5, .int .i64 y.f6, .int .i64 y.f7] 39) = W') : NAt W' W.heap.size 0 y A3 c3 ∧ Below W.heap.size W W' := by
  have hb : Below W.heap.size W W' := by rw [← h]; exact below_alloc (Below.refl _ _) _
  refine ⟨⟨?_, ?_, ?_, ?_, ?_, ?_, ?_, ?_, Kd.C_below hC hb⟩, hb⟩ <;> (rw [← h]; simp [go_sem])
theorem NAt.below {W W' : World} {b q : Nat} {y : S39} {A3 : Option Addr} {c3 : Nat} (h : NAt W b q y A3 c3) (hb : Below W.heap.size W W') : NAt W' b q y A3 c3 := by
  have hlt := World.block_lt_of_cell? W _ h.k0
  have key : ∀ q : Nat, W'.cell? ⟨b, q, none⟩ = W.cell? ⟨b, q, none⟩ := fun q => hb.cell (p := ⟨b, q, none⟩) hlt
  exact ⟨(key _).trans h.k0, (key _).trans h.k1, (key _).trans h.k2, (key _).trans h.k3, (key _).trans h.k4, (key _).trans h.k5, (key _).trans h.k6, (key _).trans h.k7, Kd.C_below h.hC hb⟩
structure LBx (W : World) (P : Nat) (n m : Nat) (pt : Int) (A : Option Addr) (c : Nat) (B : Option Addr) (d : Nat) : Prop where
  k0 : W.cell? ⟨P, 0, none⟩ = some (.slice A n c)
  k1 : W.cell? ⟨P, 1, none⟩ = some (.slice B m d)
  k2 : W.cell? ⟨P, 2, none⟩ = some (.int .i64 pt)
theorem box_list {W W' : World} {n m : Nat} {pt : Int} {A : Option Addr} {c : Nat} {B : Option Addr} {d : Nat} (h : W.alloc (.cells #[.slice A n c, .slice B m d, .int .i64 pt] 25) = W') : LBx W' W.heap.size n m pt A c B d ∧ Below W.heap.size W W' ∧ W'.heap.size = W.heap.size + 1 := by
  refine ⟨⟨?_, ?_, ?_⟩, by rw [← h]; exact below_alloc (Below.refl _ _) _, by rw [← h]; simp⟩ <;> (rw [← h]; simp [go_sem])
theorem LBx.belowB {W W' : World} {P n m B' : Nat} {pt : Int} {A : Option Addr} {c : Nat} {B : Option Addr} {d : Nat} (h : LBx W P n m pt A c B d) (hb : Below B' W W') (hP : P < B') : LBx W' P n m pt A c B d := by
  have key : ∀ q : Nat, W'.cell? ⟨P, q, none⟩ = W.cell? ⟨P, q, none⟩ := fun q => hb.cell (p := ⟨P, q, none⟩) hP
  exact ⟨(key _).trans h.k0, (key _).trans h.k1, (key _).trans h.k2⟩
theorem LBx.below {W W' : World} {P n m : Nat} {pt : Int} {A : Option Addr} {c : Nat} {B : Option Addr} {d : Nat} (h : LBx W P n m pt A c B d) (hb : Below W.heap.size W W') : LBx W' P n m pt A c B d := h.belowB hb (World.block_lt_of_cell? W _ h.k0)
set_option maxHeartbeats 1000000 in
theorem hangs_any (x : S39) (A : Option Addr) (c : Nat) (w : World) (h : Kd.C (Kd.int .i64) w A x.f3.length x.f3) (hc : x.f3.length ≤ c) (h7 : x.f0 = 7 → 1 ≤ x.f3.length) :
    Calls Tryd.prog 29 #[ndV x A c] w fun e w' => ∃ A' c', e = .returned (.slice A' (hg x).length c') ∧ (hg x).length ≤ c' ∧ (∀ W, Kd.C (Kd.int .i64) W A x.f3.length x.f3 → Kd.C (Kd.int .i64) W A' (hg x).length (hg x)) ∧ Below w.heap.size w w' := by
  have HC := Lib.hid h
  have HL := Lib.hid hc
  have hb : Below w.heap.size w (w.alloc (.cells #[.int .i64 x.f0, .int .i64 x.f1, .int .i64 x.f2, .slice A x.f3.length c, .string x.f4, .int .i64 x.f5, .int .i64 x.f6, .int .i64 x.f7] 39)) := below_alloc (Below.refl _ _) _
  have HB := Lib.hid hb
  clear h hc hb
  by_cases h8 : x.f0 = 8
  · have e : hg x = [] := by unfold hg; rw [if_pos h8]
    have hk8 : (x.f0 == 8) = true := beq_iff_eq.mpr h8
    have E := Lib.hid e
    clear h8 h7 e
    go_enter Tryd.func29, Tryd.ntmps29
    go_wp2_with fail
    go_ret
    rw [E.out]
    exact ⟨none, 0, rfl, Nat.le_refl _, fun _ _ => Kd.C_nil _ _, HB.out⟩
  · have hk8 : (x.f0 == 8) = false := beq_eq_false_iff_ne.mpr h8
    by_cases h77 : x.f0 = 7
    · have e : hg x = x.f3.take 1 := by unfold hg; rw [if_neg h8, if_pos h77]
      have hk7 : (x.f0 == 7) = true := beq_iff_eq.mpr h77
      have h1 := h7 h77
      have hlc := HL.out
      have E := Lib.hid e
      clear h8 h7 e h77
      go_enter Tryd.func29, Tryd.ntmps29
      go_wp2_with fail
      go_ret
      rw [E.out]
      have el : (x.f3.take 1).length = 1 := by rw [List.length_take]; omega
      rw [el]
      refine ⟨A, c, rfl, by omega, fun W hW => ?_, HB.out⟩
      have := Kd.C_take (m := 1) hW h1
      rw [el] at this
      exact this
    · have e : hg x = x.f3 := by unfold hg; rw [if_neg h8, if_neg h77]
      have hk7 : (x.f0 == 7) = false := beq_eq_false_iff_ne.mpr h77
      have E := Lib.hid e
      clear h8 h7 e h77
      go_enter Tryd.func29, Tryd.ntmps29
      go_wp2_with fail
      go_ret
      rw [E.out]
      exact ⟨A, c, rfl, HL.out, fun _ hW => hW, HB.out⟩
set_option maxHeartbeats 1000000 in
theorem hangsR_any (x : S39) (A : Option Addr) (c : Nat) (w : World) (h : Kd.C (Kd.int .i64) w A x.f3.length x.f3) (hc : x.f3.length ≤ c) (h7 : x.f0 = 7 → 1 ≤ x.f3.length) :
    Calls Tryd.prog 19 #[ndV x A c] w fun e w' => ∃ A' c', e = .returned (.slice A' (hg x).length c') ∧ (hg x).length ≤ c' ∧ (∀ W, Kd.C (Kd.int .i64) W A x.f3.length x.f3 → Kd.C (Kd.int .i64) W A' (hg x).length (hg x)) ∧ Below w.heap.size w w' := by
  have HC := Lib.hid h
  have HL := Lib.hid hc
  have hb : Below w.heap.size w (w.alloc (.cells #[.int .i64 x.f0, .int .i64 x.f1, .int .i64 x.f2, .slice A x.f3.length c, .string x.f4, .int .i64 x.f5, .int .i64 x.f6, .int .i64 x.f7] 39)) := below_alloc (Below.refl _ _) _
  have HB := Lib.hid hb
  clear h hc hb
  by_cases h8 : x.f0 = 8
  · have e : hg x = [] := by unfold hg; rw [if_pos h8]
    have hk8 : (x.f0 == 8) = true := beq_iff_eq.mpr h8
    have E := Lib.hid e
    clear h8 h7 e
    go_enter Tryd.func19, Tryd.ntmps19
    go_wp2_with fail
    go_ret
    rw [E.out]
    exact ⟨none, 0, rfl, Nat.le_refl _, fun _ _ => Kd.C_nil _ _, HB.out⟩
  · have hk8 : (x.f0 == 8) = false := beq_eq_false_iff_ne.mpr h8
    by_cases h77 : x.f0 = 7
    · have e : hg x = x.f3.take 1 := by unfold hg; rw [if_neg h8, if_pos h77]
      have hk7 : (x.f0 == 7) = true := beq_iff_eq.mpr h77
      have h1 := h7 h77
      have hlc := HL.out
      have E := Lib.hid e
      clear h8 h7 e h77
      go_enter Tryd.func19, Tryd.ntmps19
      go_wp2_with fail
      go_ret
      rw [E.out]
      have el : (x.f3.take 1).length = 1 := by rw [List.length_take]; omega
      rw [el]
      refine ⟨A, c, rfl, by omega, fun W hW => ?_, HB.out⟩
      have := Kd.C_take (m := 1) hW h1
      rw [el] at this
      exact this
    · have e : hg x = x.f3 := by unfold hg; rw [if_neg h8, if_neg h77]
      have hk7 : (x.f0 == 7) = false := beq_eq_false_iff_ne.mpr h77
      have E := Lib.hid e
      clear h8 h7 e h77
      go_enter Tryd.func19, Tryd.ntmps19
      go_wp2_with fail
      go_ret
      rw [E.out]
      exact ⟨A, c, rfl, HL.out, fun _ hW => hW, HB.out⟩
end Go.Proofs.YtonnmkhmhndalaaDoor
end
section
namespace Go.Proofs.YtonnmkhmhndalaaDoor
open Go.RowKit Go.Proofs.YtonnmkhmhndalaaDoorW.PrintWords Go.Proofs.YtonnmkhmhndalaaDoorW.PrintLast Go.Proofs.YtonnmkhmhndalaaDoorW.PrintMore
attribute [local go_sem] max2_int min2_int max_two min_two max_three min_three max_four min_four   -- for this text's walks alone
set_option linter.unusedVariables false
set_option linter.unusedSimpArgs false
def lower_is.f (a0 : Bool) : Option (Int) := if a0 = true then (some 1) else (some 0)
set_option maxHeartbeats 8000000 in
set_option maxRecDepth 100000 in
theorem lower_is.calls (a0 : Bool) (r : Int) (w : World) (h : lower_is.f a0 = some r) :
    Calls Tryd.prog 58 #[.bool a0] w fun e w' => e = .returned (.int .i64 r) ∧ Drawn0 w w' := by
  have H : (if a0 = true then (some 1) else (some 0)) = some r := h
  clear h
  by_cases c2 : a0 = true
  · subst c2
    have H1 : (some 1) = some r := by rw [if_pos rfl] at H; exact H
    clear H
    have H := H1
    clear H1
    obtain rfl := Option.some.inj H
    go_enter Tryd.func58, Tryd.ntmps58
    go_wp2
    go_ret
    exact ⟨by first | rfl | (simp; done) | (simp [*]; done), by repeat (first | exact Drawn0.refl _ | apply Drawn0.step)⟩
  · replace c2 := Bool.eq_false_iff.mpr c2
    subst c2
    have H1 : (some 0) = some r := by rw [if_neg (show ¬ (false = true) by decide)] at H; exact H
    clear H
    have H := H1
    clear H1
    obtain rfl := Option.some.inj H
    go_enter Tryd.func58, Tryd.ntmps58
    go_wp2
    go_ret
    exact ⟨by first | rfl | (simp; done) | (simp [*]; done), by repeat (first | exact Drawn0.refl _ | apply Drawn0.step)⟩
end Go.Proofs.YtonnmkhmhndalaaDoor
end
section
namespace Go.Proofs.YtonnmkhmhndalaaDoor
set_option linter.unusedVariables false
set_option linter.unusedSimpArgs false
open Go.RowKit Go.Proofs.YtonnmkhmhndalaaDoorW.PrintWords Go.Proofs.YtonnmkhmhndalaaDoorW.PrintLast Go.Proofs.YtonnmkhmhndalaaDoorW.PrintMore
structure Cl {β : Type} (enc : β → Value) (W : World) (b n : Nat) (f : Nat → β) : Prop where
  c : ∀ j, j < n → W.cell? ⟨b, j, none⟩ = some (enc (f j))
  f : ∀ j, j < n → W.frozen? ⟨b, j, none⟩ = false
  s : b < W.heap.size
theorem Cl.move {β : Type} {enc : β → Value} {W W' : World} {b n : Nat} {f : Nat → β} (h : Cl enc W b n f) (hb : W'.heap[b]? = W.heap[b]?) (hs : W.heap.size ≤ W'.heap.size) : Cl enc W' b n f :=
  ⟨fun j hj => (World.cell?_of_block (w := W) hb).trans (h.c j hj), fun j hj => (World.frozen?_of_block (w := W) hb).trans (h.f j hj), Nat.lt_of_lt_of_le h.s hs⟩
theorem Cl.below {β : Type} {enc : β → Value} {W W' : World} {b n B : Nat} {f : Nat → β} (h : Cl enc W b n f) (hb : Below B W W') (hB : b < B) : Cl enc W' b n f := h.move (hb.block b hB) hb.size
theorem Cl.far {β : Type} {enc : β → Value} {W : World} {b n : Nat} {f : Nat → β} (h : Cl enc W b n f) {g j : Nat} (hg : b ≠ g) (v : Value) : Cl enc (W.setCell ⟨g, j, none⟩ v) b n f := h.move (Below.heap_setCell W _ v b hg) (by simp)
theorem cell_ne {W : World} {g a b : Nat} {v : Value} (h : a ≠ b) : (W.setCell ⟨g, b, none⟩ v).cell? ⟨g, a, none⟩ = W.cell? ⟨g, a, none⟩ := by
  simp [go_sem, h, Ne.symm h]
theorem cell_eq {W : World} {g a : Nat} {v u : Value} (h : W.cell? ⟨g, a, none⟩ = some u) : (W.setCell ⟨g, a, none⟩ v).cell? ⟨g, a, none⟩ = some v := by
  simp [go_sem, h]
theorem froz_set {W : World} {g a b : Nat} {v : Value} : (W.setCell ⟨g, b, none⟩ v).frozen? ⟨g, a, none⟩ = W.frozen? ⟨g, a, none⟩ := by
  simp [go_sem]
theorem below_set2 {w W : World} {B g j : Nat} {v : Value} (hB : B ≤ g) (h : Below B w W) : Below B w (W.setCell ⟨g, j, none⟩ v) := h.setCell hB _
theorem Cl.set {β : Type} {enc : β → Value} {W : World} {b n : Nat} {f : Nat → β} (h : Cl enc W b n f) (k : Nat) (v : β) : Cl enc (W.setCell ⟨b, k, none⟩ (enc v)) b n (upd f k v) := by
  refine ⟨fun j hj => ?_, fun j hj => froz_set.trans (h.f j hj), by simpa using h.s⟩
  by_cases e : j = k
  · subst e; rw [upd_same]; exact cell_eq (h.c j hj)
  · rw [upd_ne _ _ e, cell_ne e]; exact h.c j hj
theorem Cl.size {β : Type} {enc : β → Value} {W : World} {b n : Nat} {f g : Nat → β} (h : Cl enc W b n f) (e : ∀ j, j < n → f j = g j) : Cl enc W b n g := ⟨fun j hj => by rw [← e j hj]; exact h.c j hj, h.f, h.s⟩
abbrev eI (k : Nat) : Value := .int .i64 (k : Int)
def ints (l : List Nat) : List Int := l.map (fun k : Nat => (k : Int))
theorem ints_len (l : List Nat) : (ints l).length = l.length := List.length_map _
theorem ints_snoc (l : List Nat) (k : Nat) : ints (l ++ [k]) = ints l ++ [(k : Int)] := by unfold ints; rw [List.map_append]; rfl
theorem ints_take (l : List Nat) (k : Nat) : (ints l).take k = ints (l.take k) := by unfold ints; rw [List.map_take]
theorem ints_getD (l : List Nat) (i : Nat) (hi : i < l.length) : (ints l).getD i 0 = ((l.getD i 0 : Nat) : Int) := by
  unfold ints
  rw [List.getD_eq_getElem?_getD, List.getD_eq_getElem?_getD, List.getElem?_map, List.getElem?_eq_getElem hi]
  rfl
theorem kI_mkM (w : World) (base : Nat) (ok : Nat → Prop) (v : Int) : (Kd.int .i64).M w base ok v [.int .i64 v] := rfl
theorem R_off2 {α : Type} {d : Kd α} {e base b o : Nat} {ok : Nat → Prop} {w : World} {v u : Value} {xs : List α} (h : d.R e w base ok v xs) (hb : b < base) : d.R e (w.setCell ⟨b, o, none⟩ u) base ok v xs :=
  Kd.R_mono (Kd.R_far (Kd.R_bound h) (fun k hk => by have := hk.2.1; show k ≠ b; omega) u) (fun _ hk => hk.1)
theorem make23 (n : Nat) (hn : n ≤ 1000000) (W : World) : ∃ W', (Instr.makeSlice 23 (.int .i64 n) (.int .i64 n)).run Tryd.prog W = .ok (.slice (some ⟨W.heap.size, 0, none⟩) n n) W' ∧ Below W.heap.size W W' ∧ W'.heap.size = W.heap.size + 1 ∧ Cl eI W' W.heap.size n (fun _ => 0) := by
  obtain ⟨i0, hi, hzz⟩ := Option.map_eq_some_iff.1 info3
  simp only [Prod.mk.injEq] at hzz
  obtain ⟨hz0, hz1, hz2⟩ := hzz
  have h := run_make (P := Tryd.prog) W 23 3 i0 (.int .i64 0) Tryd.underlying23 hi hz0 .i64 .i64 (n : Int) (n : Int) (by omega) (by omega) (by rw [hz2]; omega) (by omega)
  rw [Int.toNat_natCast, hz1, Nat.mul_one] at h
  refine ⟨_, h, below_alloc (Below.refl _ _) _, by simp, ?_, ?_, by simp⟩
  · intro j hj
    simp [go_sem, madeCells, hj]
    rw [Nat.mod_one]
    rfl
  · intro j _
    simp [go_sem]
theorem infoB : (Tryd.prog.info? 4).map (fun i => (i.zero, i.size, i.bytes)) = some (some (.bool false), 1, 1) := by kernel_rfl
theorem make59 (n : Nat) (hn : n ≤ 1000000) (W : World) : ∃ W', (Instr.makeSlice 59 (.int .i64 n) (.int .i64 n)).run Tryd.prog W = .ok (.slice (some ⟨W.heap.size, 0, none⟩) n n) W' ∧ Below W.heap.size W W' ∧ W'.heap.size = W.heap.size + 1 ∧ Cl Value.bool W' W.heap.size n (fun _ => false) := by
  obtain ⟨i0, hi, hzz⟩ := Option.map_eq_some_iff.1 infoB
  simp only [Prod.mk.injEq] at hzz
  obtain ⟨hz0, hz1, hz2⟩ := hzz
  have h := run_make (P := Tryd.prog) W 59 4 i0 (.bool false) Tryd.underlying59 hi hz0 .i64 .i64 (n : Int) (n : Int) (by omega) (by omega) (by rw [hz2]; omega) (by omega)
  rw [Int.toNat_natCast, hz1, Nat.mul_one] at h
  refine ⟨_, h, below_alloc (Below.refl _ _) _, by simp, ?_, ?_, by simp⟩
  · intro j hj
    simp [go_sem, madeCells, hj]
    rw [Nat.mod_one]
    rfl
  · intro j _
    simp [go_sem]
theorem make44 (n : Nat) (hn : n ≤ 1000000) (W : World) : ∃ W', (Instr.makeSlice 44 (.int .i64 n) (.int .i64 n)).run Tryd.prog W = .ok (.slice (some ⟨W.heap.size, 0, none⟩) n n) W' ∧ Below W.heap.size W W' ∧ W'.heap.size = W.heap.size + 1 ∧ Cl (fun v : Value => v) W' W.heap.size n (fun _ => .slice none 0 0) := by
  obtain ⟨i0, hi, hzz⟩ := Option.map_eq_some_iff.1 info23
  simp only [Prod.mk.injEq] at hzz
  obtain ⟨hz0, hz1, hz2⟩ := hzz
  have h := run_make (P := Tryd.prog) W 44 23 i0 (.slice none 0 0) Tryd.underlying44 hi hz0 .i64 .i64 (n : Int) (n : Int) (by omega) (by omega) (by rw [hz2]; omega) (by omega)
  rw [Int.toNat_natCast, hz1, Nat.mul_one] at h
  refine ⟨_, h, below_alloc (Below.refl _ _) _, by simp, ?_, ?_, by simp⟩
  · intro j hj
    simp [go_sem, madeCells, hj]
    rw [Nat.mod_one]
    rfl
  · intro j _
    simp [go_sem]
structure LMem (wx : World) (D base n : Nat) (out left : Nat → Nat) (done : Nat → Bool) (vs : Nat → Value) (us : Nat → List Nat) (rv : Value) (rd : List Nat) : Prop where
  o : Cl eI wx D n out
  l : Cl eI wx (D + 1) n left
  d : Cl Value.bool wx (D + 2) n done
  p : Cl (fun v : Value => v) wx (D + 3) n vs
  u : ∀ j, j < n → Kd.R (Kd.int .i64) 3 wx base (fun b => (∀ i, i < n → i ≠ j → some b ≠ (vs i).ownBlock) ∧ some b ≠ rv.ownBlock) (vs j) (ints (us j))
  r : Kd.R (Kd.int .i64) 3 wx base (fun b => ∀ i, i < n → some b ≠ (vs i).ownBlock) rv (ints rd)
  s : D + 3 < base
  t : base ≤ wx.heap.size
section
variable {wx : World} {D base n : Nat} {out left : Nat → Nat} {done : Nat → Bool} {vs : Nat → Value} {us : Nat → List Nat} {rv : Value} {rd : List Nat}
theorem LMem.below {w' : World} (h : LMem wx D base n out left done vs us rv rd) (hb : Below wx.heap.size wx w') : LMem w' D base n out left done vs us rv rd := by
  have := h.s
  have := h.t
  exact ⟨h.o.below hb (by omega), h.l.below hb (by omega), h.d.below hb (by omega), h.p.below hb (by omega), fun j hj => Kd.R_below (h.u j hj) hb, Kd.R_below h.r hb, h.s, Nat.le_trans h.t hb.size⟩
theorem LMem.setO (h : LMem wx D base n out left done vs us rv rd) (k v : Nat) : LMem (wx.setCell ⟨D, k, none⟩ (.int .i64 (v : Int))) D base n (upd out k v) left done vs us rv rd := by
  have := h.s
  exact ⟨h.o.set k v, h.l.far (by omega) _, h.d.far (by omega) _, h.p.far (by omega) _, fun j hj => R_off2 (h.u j hj) (by omega), R_off2 h.r (by omega), h.s, by simpa using h.t⟩
theorem LMem.setL (h : LMem wx D base n out left done vs us rv rd) (k v : Nat) : LMem (wx.setCell ⟨D + 1, k, none⟩ (.int .i64 (v : Int))) D base n out (upd left k v) done vs us rv rd := by
  have := h.s
  exact ⟨h.o.far (by omega) _, h.l.set k v, h.d.far (by omega) _, h.p.far (by omega) _, fun j hj => R_off2 (h.u j hj) (by omega), R_off2 h.r (by omega), h.s, by simpa using h.t⟩
theorem LMem.setD (h : LMem wx D base n out left done vs us rv rd) (k : Nat) (v : Bool) : LMem (wx.setCell ⟨D + 2, k, none⟩ (.bool v)) D base n out left (upd done k v) vs us rv rd := by
  have := h.s
  exact ⟨h.o.far (by omega) _, h.l.far (by omega) _, h.d.set k v, h.p.far (by omega) _, fun j hj => R_off2 (h.u j hj) (by omega), R_off2 h.r (by omega), h.s, by simpa using h.t⟩
theorem LMem.freshU (h : LMem wx D base n out left done vs us rv rd) (k : Nat) : ∀ b, wx.heap.size ≤ b → (∀ i, i < n → i ≠ k → some b ≠ (vs i).ownBlock) ∧ some b ≠ rv.ownBlock := by
  intro b hb
  refine ⟨fun i hi _ e => ?_, fun e => ?_⟩
  · have := Kd.R_lt (h.u i hi) b e.symm; omega
  · have := Kd.R_lt h.r b e.symm; omega
theorem LMem.freshR (h : LMem wx D base n out left done vs us rv rd) : ∀ b, wx.heap.size ≤ b → ∀ i, i < n → some b ≠ (vs i).ownBlock := by
  intro b hb i hi e
  have := Kd.R_lt (h.u i hi) b e.symm
  omega
theorem LMem.appU {w9 : World} {k p : Nat} {v1 : Value} (h : LMem wx D base n out left done vs us rv rd) (hk : k < n)
    (ho : Kd.R (Kd.int .i64) 3 w9 base (fun b => (∀ i, i < n → i ≠ k → some b ≠ (vs i).ownBlock) ∧ some b ≠ rv.ownBlock) v1 (ints (us k) ++ [(p : Int)])) (hb : Below base wx w9) (hg : wx.grownBy w9 (vs k).ownBlock) (hat : v1.ownBlock = (vs k).ownBlock ∨ ∃ b, v1.ownBlock = some b ∧ wx.heap.size ≤ b) :
    LMem (w9.setCell ⟨D + 3, k, none⟩ v1) D base n out left done (upd vs k v1) (upd us k (us k ++ [p])) rv rd := by
  have hs := h.s
  have ht := h.t
  refine ⟨(h.o.below hb (by omega)).far (by omega) _, (h.l.below hb (by omega)).far (by omega) _, (h.d.below hb (by omega)).far (by omega) _, (h.p.below hb (by omega)).set k v1, fun j hj => ?_, ?_, hs, by have := hb.size; simp; omega⟩
  · refine R_off2 ?_ (by omega)
    by_cases e : j = k
    · subst e
      rw [upd_same, upd_same, ints_snoc]
      refine Kd.R_mono ho (fun b hb' => ⟨fun i hi hne => ?_, hb'.2⟩)
      rw [upd_ne _ _ hne]
      exact hb'.1 i hi hne
    · rw [upd_ne _ _ e, upd_ne _ _ e]
      have h1 : Kd.R (Kd.int .i64) 3 wx base (fun b => ((∀ i, i < n → i ≠ j → i ≠ k → some b ≠ (vs i).ownBlock) ∧ some b ≠ rv.ownBlock) ∧ some b ≠ (vs k).ownBlock) (vs j) (ints (us j)) :=
        Kd.R_mono (h.u j hj) (fun b hb' => ⟨⟨fun i hi hne _ => hb'.1 i hi hne, hb'.2⟩, hb'.1 k hk (fun e' => e e'.symm)⟩)
      refine Kd.R_mono (Kd.R_after h1 hg hat) (fun b hb' => ⟨fun i hi hne => ?_, hb'.1.2⟩)
      by_cases e2 : i = k
      · subst e2; rw [upd_same]; exact hb'.2
      · rw [upd_ne _ _ e2]; exact hb'.1.1 i hi hne e2
  · refine R_off2 ?_ (by omega)
    have h1 : Kd.R (Kd.int .i64) 3 wx base (fun b => (∀ i, i < n → i ≠ k → some b ≠ (vs i).ownBlock) ∧ some b ≠ (vs k).ownBlock) rv (ints rd) :=
      Kd.R_mono h.r (fun b hb' => ⟨fun i hi _ => hb' i hi, hb' k hk⟩)
    refine Kd.R_mono (Kd.R_after h1 hg hat) (fun b hb' i hi => ?_)
    by_cases e2 : i = k
    · subst e2; rw [upd_same]; exact hb'.2
    · rw [upd_ne _ _ e2]; exact hb'.1 i hi e2
theorem LMem.appR {w9 : World} {p : Nat} {v1 : Value} (h : LMem wx D base n out left done vs us rv rd)
    (ho : Kd.R (Kd.int .i64) 3 w9 base (fun b => ∀ i, i < n → some b ≠ (vs i).ownBlock) v1 (ints rd ++ [(p : Int)])) (hb : Below base wx w9) (hg : wx.grownBy w9 rv.ownBlock) (hat : v1.ownBlock = rv.ownBlock ∨ ∃ b, v1.ownBlock = some b ∧ wx.heap.size ≤ b) :
    LMem w9 D base n out left done vs us v1 (rd ++ [p]) := by
  have hs := h.s
  have ht := h.t
  refine ⟨h.o.below hb (by omega), h.l.below hb (by omega), h.d.below hb (by omega), h.p.below hb (by omega), fun j hj => Kd.R_after (h.u j hj) hg hat, by rw [ints_snoc]; exact ho, hs, Nat.le_trans ht hb.size⟩
theorem LMem.popR {A : Option Addr} {m c : Nat} (h : LMem wx D base n out left done vs us (.slice A m c) rd) (q : Nat) (hq : q ≤ rd.length) : LMem wx D base n out left done vs us (.slice A q c) (rd.take q) := by
  refine ⟨h.o, h.l, h.d, h.p, ?_, ?_, h.s, h.t⟩
  · intro j hj
    refine Kd.R_mono (h.u j hj) (fun b hb => ⟨hb.1, ?_⟩)
    have e : (Value.slice A q c).ownBlock = (Value.slice A m c).ownBlock := by cases A <;> rfl
    rw [e]
    exact hb.2
  · rw [← ints_take]
    exact Kd.R_take h.r (by rw [ints_len]; exact hq)
end
end Go.Proofs.YtonnmkhmhndalaaDoor
end
section
namespace Go.Proofs.YtonnmkhmhndalaaDoor
set_option linter.unusedVariables false
set_option linter.unusedSimpArgs false
structure LOk (l : List S39) : Prop where
  n : l.length ≤ 4096
  f : ∀ k, k < l.length → (l.getD k z39).f0 = 7 → 1 ≤ (l.getD k z39).f3.length
  le : ∀ k, k < l.length → (hg (l.getD k z39)).length ≤ 256
  at_ : ∀ k, k < l.length → ∀ h ∈ hg (l.getD k z39), 0 ≤ h ∧ h < l.length
theorem LOk.hsl {l : List S39} (h : LOk l) : ∀ k, k < l.length → ∀ u ∈ hs l k, u < l.length := by
  intro k hk u hu
  obtain ⟨i, hi, rfl⟩ := List.mem_map.1 hu
  have := h.at_ k hk i hi
  omega
theorem hs_len (l : List S39) (k : Nat) : (hs l k).length = (hg (l.getD k z39)).length := List.length_map _
theorem LOk.cast {l : List S39} (h : LOk l) (k : Nat) (hk : k < l.length) : ints (hs l k) = hg (l.getD k z39) := by
  unfold ints Go.Proofs.YtonnmkhmhndalaaDoor.hs
  rw [List.map_map]
  conv => rhs; rw [← List.map_id (hg (l.getD k z39))]
  refine List.map_congr_left fun i hi => ?_
  have := h.at_ k hk i hi
  show ((i.toNat : Nat) : Int) = i
  omega
structure L1 (hs : Nat → List Nat) (k : Nat) (p : List Nat) (us : Nat → List Nat) : Prop where
  c : ∀ i u, (us i).count u = if u < k then (hs u).count i else if u = k then p.count i else 0
  m : ∀ i, ∀ u ∈ us i, u ≤ k ∧ (u = k → p ≠ [])
  l : ∀ i, (us i).length ≤ k * 256 + p.length
theorem L1.start (hs : Nat → List Nat) : L1 hs 0 [] (fun _ => []) :=
  ⟨fun i u => by simp, fun _ _ h => (by cases h), fun _ => Nat.zero_le _⟩
theorem L1.step {hs : Nat → List Nat} {k : Nat} {p : List Nat} {us : Nat → List Nat} (h : L1 hs k p us) (a : Nat) : L1 hs k (p ++ [a]) (upd us a (us a ++ [k])) := by
  refine ⟨fun i u => ?_, fun i u hu => ?_, fun i => ?_⟩
  · have hc := h.c i u
    have e : (p ++ [a]).count i = p.count i + if i = a then 1 else 0 := by
      rw [List.count_append, List.count_cons]
      by_cases e : a = i
      · subst e; simp
      · have : (a == i) = false := by simpa using e
        rw [this, if_neg (show ¬ i = a from fun e' => e e'.symm)]
        simp
    rw [e]
    by_cases e2 : i = a
    · subst e2
      rw [upd_same, List.count_append, hc, List.count_cons, if_pos rfl]
      by_cases e3 : u < k
      · rw [if_pos e3, if_pos e3]
        have : (k == u) = false := by simpa using (show k ≠ u by omega)
        rw [this]
        simp
      · rw [if_neg e3, if_neg e3]
        by_cases e4 : u = k
        · subst e4; simp
        · have : (k == u) = false := by simpa using fun e' => e4 e'.symm
          rw [if_neg e4, if_neg e4, this]
          simp
    · rw [upd_ne _ _ e2, hc, if_neg e2]
      rfl
  · by_cases e2 : i = a
    · subst e2
      rw [upd_same] at hu
      rcases List.mem_append.1 hu with h1 | h1
      · exact ⟨(h.m i u h1).1, fun _ => by simp⟩
      · rw [List.mem_singleton.1 h1]; exact ⟨Nat.le_refl _, fun _ => by simp⟩
    · rw [upd_ne _ _ e2] at hu
      exact ⟨(h.m i u hu).1, fun _ => by simp⟩
  · have := h.l i
    rw [List.length_append, List.length_singleton]
    by_cases e2 : i = a
    · subst e2
      rw [upd_same, List.length_append, List.length_singleton]
      omega
    · rw [upd_ne _ _ e2]
      omega
theorem L1.next {hs : Nat → List Nat} {k : Nat} {us : Nat → List Nat} (h : L1 hs k (hs k) us) (hl : (hs k).length ≤ 256) : L1 hs (k + 1) [] us := by
  refine ⟨fun i u => ?_, fun i u hu => ?_, fun i => ?_⟩
  · rw [h.c i u]
    by_cases e : u < k
    · rw [if_pos e, if_pos (by omega)]
    · rw [if_neg e]
      by_cases e2 : u = k
      · subst e2; rw [if_pos rfl, if_pos (by omega)]
      · rw [if_neg e2, if_neg (by omega)]
        simp
  · have := (h.m i u hu).1
    exact ⟨by omega, fun e => by omega⟩
  · refine Nat.le_trans (h.l i) ?_
    rw [Nat.succ_mul]
    exact Nat.le_trans (Nat.add_le_add_left hl _) (Nat.le_add_right _ _)
theorem L1.users {hs : Nat → List Nat} {n : Nat} {us : Nat → List Nat} (h : L1 hs n [] us) (hl : ∀ k, k < n → ∀ u ∈ hs k, u < n) : Users n hs us := by
  refine ⟨hl, fun k hk u hu => ?_, fun k u hk hu => ?_⟩
  · have := h.m k u hu
    rcases Nat.lt_or_ge u n with h1 | h1
    · exact h1
    · exact absurd rfl (this.2 (by omega))
  · rw [h.c k u, if_pos hu]
def leftN (hs : Nat → List Nat) (k : Nat) : Nat → Nat := fun j => if j < k then (hs j).length else 0
theorem leftN_succ (hs : Nat → List Nat) (k : Nat) : upd (leftN hs k) k (hs k).length = leftN hs (k + 1) := by
  funext j
  unfold upd leftN
  by_cases e : j = k
  · subst e; rw [if_pos rfl, if_pos (by omega)]
  · rw [if_neg e]
    by_cases e2 : j < k
    · rw [if_pos e2, if_pos (by omega)]
    · rw [if_neg e2, if_neg (by omega)]
def rdN (hs : Nat → List Nat) (k : Nat) : List Nat := (List.range k).filter (fun u => (hs u).length == 0)
theorem rdN_succ (hs : Nat → List Nat) (k : Nat) : rdN hs (k + 1) = if (hs k).length = 0 then rdN hs k ++ [k] else rdN hs k := by
  unfold rdN
  rw [List.range_succ, List.filter_append]
  by_cases e : (hs k).length = 0
  · rw [if_pos e]
    congr 1
    rw [List.filter_cons_of_pos (by simpa using e)]
    rfl
  · rw [if_neg e, List.filter_cons_of_neg (by simpa using e)]
    simp
theorem rdN_len (hs : Nat → List Nat) (k : Nat) : (rdN hs k).length ≤ k := by
  have := List.length_filter_le (fun u => (hs u).length == 0) (List.range k)
  rwa [List.length_range] at this
theorem L1.inv {hs : Nat → List Nat} {n : Nat} : LInv n hs ⟨fun _ => 0, leftN hs n, fun _ => false, rdN hs n, 0⟩ := by
  refine ⟨List.nodup_range.filter _, ?_, ?_, ?_, ?_, ?_, ?_, ?_, ?_⟩
  · intro u hu
    have := List.mem_filter.1 hu
    have h1 := List.mem_range.1 this.1
    refine ⟨h1, rfl, ?_⟩
    show leftN hs n u = 0
    unfold leftN
    rw [if_pos h1]
    simpa using this.2
  · intro u hu _ h0
    have h0' : leftN hs n u = 0 := h0
    unfold leftN at h0'
    rw [if_pos hu] at h0'
    exact List.mem_filter.2 ⟨List.mem_range.2 hu, by simpa using h0'⟩
  · intro u hu
    show leftN hs n u = (hs u).countP (fun _ => !false)
    unfold leftN
    rw [if_pos hu]
    have : (hs u).countP (fun _ => !false) = (hs u).length := List.countP_eq_length.2 (fun _ _ => rfl)
    rw [this]
  · intro u _ h; cases h
  · intro u _; exact ⟨Nat.le_refl _, fun h => (by cases h)⟩
  · intro u _ h _ hd; cases hd
  · intro u _; exact Or.inl rfl
  · show 0 = (List.range n).countP (fun _ => false)
    rw [List.countP_eq_zero.2]
    intro a _ h
    cases h
end Go.Proofs.YtonnmkhmhndalaaDoor
end
