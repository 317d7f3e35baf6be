/- Parts, plainly: the text's tokens, and what the run comes to. -/
import Derived.Test.YtimcmhfcmnooeaaDb1
namespace Go.Proofs.Ytimcmhfcmnooeaa
set_option linter.unusedVariables false
set_option linter.unusedSimpArgs false
open Go.RowKit Go.Proofs.YtimcmhfcmnooeaaW.PrintWords Go.Proofs.YtimcmhfcmnooeaaW.PrintLast Go.Proofs.YtimcmhfcmnooeaaW.PrintMore

def sZ : ByteArray := ⟨#[122, 122, 57]⟩
def hd0 : Bool → ByteArray
  | true => ⟨#[96, 100, 101, 102, 105, 110, 101, 32, 122, 122, 57, 32, 10]⟩
  | false => ⟨#[]⟩
def c1T : ByteArray := ⟨#[96, 105, 102, 100, 101, 102, 32, 122, 122, 57, 10]⟩
def c2T : ByteArray := ⟨#[10, 96, 101, 108, 115, 101, 10]⟩
def c3T : ByteArray := ⟨#[10, 96, 101, 110, 100, 105, 102, 10]⟩
def cT (th : Bool) (a b : ByteArray) : ByteArray := ((((hd0 th ++ c1T) ++ a) ++ c2T) ++ b) ++ c3T
def k0 : ByteArray := ⟨#[96, 100, 101, 102, 105, 110, 101, 32, 122, 122, 57, 32]⟩
def k1 : ByteArray := ⟨#[96, 105, 102, 100, 101, 102, 32, 122, 122, 57]⟩
def k2 : ByteArray := ⟨#[96, 101, 108, 115, 101]⟩
def k3 : ByteArray := ⟨#[96, 101, 110, 100, 105, 102]⟩
def nlB : ByteArray := ⟨#[10]⟩
theorem k0_toks : Toks k0 ([⟨4, sDefine, 0⟩, ⟨1, sZ, 8⟩] ++ [⟨6, ⟨#[]⟩, k0.size⟩]) := checkT_ok (by kernel_rfl)
theorem k1_toks : Toks k1 ([⟨4, sIfdef, 0⟩, ⟨1, sZ, 7⟩] ++ [⟨6, ⟨#[]⟩, k1.size⟩]) := checkT_ok (by kernel_rfl)
theorem k2_toks : Toks k2 ([⟨4, sElse, 0⟩] ++ [⟨6, ⟨#[]⟩, k2.size⟩]) := checkT_ok (by kernel_rfl)
theorem k3_toks : Toks k3 ([⟨4, sEndif, 0⟩] ++ [⟨6, ⟨#[]⟩, k3.size⟩]) := checkT_ok (by kernel_rfl)
theorem k0_df : dfEnd false [⟨4, sDefine, 0⟩, ⟨1, sZ, 8⟩] = true := by kernel_rfl
theorem k1_df : dfEnd false [⟨4, sIfdef, 0⟩, ⟨1, sZ, 7⟩] = false := by kernel_rfl
theorem k2_df : dfEnd false [⟨4, sElse, 0⟩] = false := by kernel_rfl
theorem k3_df : dfEnd false [⟨4, sEndif, 0⟩] = false := by kernel_rfl
def Quiet (X : List S35) : Prop := ∀ x ∈ X, x.f0 ≠ 4 ∧ x.f0 ≠ 5 ∧ x.f0 ≠ 6
theorem quiet_df {X : List S35} (h : Quiet X) : dfEnd false X = false := by
  induction X with
  | nil => rfl
  | cons x X ih =>
    have h1 := h x (by simp)
    have : dfStep false x = false := by simp [dfStep, isDef, h1.1, h1.2.1]
    rw [dfEnd, List.foldl_cons, this]
    exact ih (fun y hy => h y (by simp [hy]))
theorem nlB_bt (v : ByteArray) : 0 < (nlB ++ v).size ∧ bt (nlB ++ v) (0 : Nat) = 10 := by
  refine ⟨by rw [ByteArray.size_append]; show 0 < 1 + _; omega, ?_⟩
  rw [bt_left (by decide)]
  rfl
/-- one line more -/
theorem Rest.line {s u a v : ByteArray} {X l L : List S35} (hsm : s.size ≤ 65536) (hr : L ≠ []) (hs : s = u ++ a ++ (nlB ++ v)) (h : Rest s l u.size L) (ha : Toks a (X ++ [⟨6, ⟨#[]⟩, a.size⟩])) :
    Rest s (l ++ X.map (mv u.size) ++ if dfEnd false X then [⟨5, ⟨#[]⟩, ((u.size + a.size : Nat) : Int)⟩] else []) (u ++ a ++ nlB).size L := by
  have hg : Seg s a u.size := by
    have := seg_mk u a (nlB ++ v) (by rw [← hs]; omega) (.inr (nlB_bt _))
    rw [← hs] at this
    exact this
  have hlt : u.size + a.size < s.size := by
    have h6 := congrArg ByteArray.size hs
    rw [ByteArray.size_append, ByteArray.size_append] at h6
    have := (nlB_bt v).1
    omega
  have h5 := Rest.take (.inl hr) h hg hlt ha
  rw [ByteArray.size_append, ByteArray.size_append]
  exact h5

/-- the line ahead, where the name is there -/
def pre0 : Bool → List S35
  | true => [⟨4, sDefine, 0⟩, ⟨1, sZ, 8⟩, ⟨5, ⟨#[]⟩, 12⟩]
  | false => []
def oA (th : Bool) : Nat := (hd0 th ++ c1T).size
def oB (th : Bool) (a : ByteArray) : Nat := (((hd0 th ++ c1T) ++ a) ++ c2T).size
def oE (th : Bool) (a b : ByteArray) : Nat := (((((hd0 th ++ c1T) ++ a) ++ c2T) ++ b) ++ nlB).size
def cToks (th : Bool) (a b : ByteArray) (X Y : List S35) : List S35 :=
  pre0 th ++ ⟨4, sIfdef, (hd0 th).size⟩ :: ⟨1, sZ, 7 + ((hd0 th).size : Int)⟩ :: (X.map (mv (oA th)) ++ ⟨4, sElse, ((oA th + a.size + 1 : Nat) : Int)⟩ :: (Y.map (mv (oB th a)) ++ [⟨4, sEndif, (oE th a b : Int)⟩, ⟨6, ⟨#[]⟩, (cT th a b).size⟩]))

theorem parts_toks (th : Bool) (a b : ByteArray) (X Y L : List S35) (hx : Toks a (X ++ [⟨6, ⟨#[]⟩, a.size⟩])) (hy : Toks b (Y ++ [⟨6, ⟨#[]⟩, b.size⟩])) (qx : Quiet X) (qy : Quiet Y)
    (hsm : (cT th a b).size ≤ 65536) (hL : Toks (cT th a b) L) (hne : L ≠ []) : L = cToks th a b X Y := by
  have h0 := Rest.start hsm hL
  have e0 : ∀ v, (hd0 true ++ v : ByteArray) = ByteArray.empty ++ k0 ++ (nlB ++ v) := by intro v; rw [show hd0 true = k0 ++ nlB from rfl]; simp [ByteArray.append_assoc]
  have ecT : cT th a b = hd0 th ++ k1 ++ (nlB ++ (a ++ (nlB ++ (k2 ++ (nlB ++ (b ++ (nlB ++ (k3 ++ (nlB ++ ByteArray.empty))))))))) := by
    rw [cT, show c1T = k1 ++ nlB from rfl, show c2T = nlB ++ k2 ++ nlB from rfl, show c3T = nlB ++ k3 ++ nlB from rfl]
    simp only [ByteArray.append_assoc, ByteArray.append_empty]
  have h1 : Rest (cT th a b) (pre0 th) (hd0 th).size L := by
    cases th with
    | false => exact h0
    | true =>
      have := Rest.line (u := ByteArray.empty) (a := k0) hsm hne (by rw [ecT, ByteArray.append_assoc, e0]) h0 k0_toks
      rw [k0_df] at this
      exact this
  have h2 := Rest.line hsm hne ecT h1 k1_toks
  rw [k1_df] at h2
  have h3 := Rest.line (u := hd0 th ++ k1 ++ nlB) (a := a) (v := k2 ++ (nlB ++ (b ++ (nlB ++ (k3 ++ (nlB ++ ByteArray.empty)))))) hsm hne (by rw [ecT]; simp only [ByteArray.append_assoc]) h2 hx
  rw [quiet_df qx] at h3
  have h4 := Rest.line (u := hd0 th ++ k1 ++ nlB ++ a ++ nlB) (a := k2) (v := b ++ (nlB ++ (k3 ++ (nlB ++ ByteArray.empty)))) hsm hne (by rw [ecT]; simp only [ByteArray.append_assoc]) h3 k2_toks
  rw [k2_df] at h4
  have h5 := Rest.line (u := hd0 th ++ k1 ++ nlB ++ a ++ nlB ++ k2 ++ nlB) (a := b) (v := k3 ++ (nlB ++ ByteArray.empty)) hsm hne (by rw [ecT]; simp only [ByteArray.append_assoc]) h4 hy
  rw [quiet_df qy] at h5
  have h6 := Rest.line (u := hd0 th ++ k1 ++ nlB ++ a ++ nlB ++ k2 ++ nlB ++ b ++ nlB) (a := k3) (v := ByteArray.empty) hsm hne (by rw [ecT]; simp only [ByteArray.append_assoc]) h5 k3_toks
  rw [k3_df] at h6
  have hend : (hd0 th ++ k1 ++ nlB ++ a ++ nlB ++ k2 ++ nlB ++ b ++ nlB ++ k3 ++ nlB).size = (cT th a b).size := by rw [ecT]; simp only [ByteArray.append_assoc, ByteArray.append_empty]
  rw [hend] at h6
  have h7 := Rest.stop h6
  rw [h7, cToks]
  have z1 : (hd0 th ++ k1 ++ nlB).size = oA th := by rw [oA, show c1T = k1 ++ nlB from rfl]; simp only [ByteArray.append_assoc]
  have z2 : (hd0 th ++ k1 ++ nlB ++ a ++ nlB).size = oA th + a.size + 1 := by rw [ByteArray.size_append, ByteArray.size_append, z1]; rfl
  have z3 : (hd0 th ++ k1 ++ nlB ++ a ++ nlB ++ k2 ++ nlB).size = oB th a := by rw [oB, show c1T = k1 ++ nlB from rfl, show c2T = nlB ++ k2 ++ nlB from rfl]; simp only [ByteArray.append_assoc]
  have z4 : (hd0 th ++ k1 ++ nlB ++ a ++ nlB ++ k2 ++ nlB ++ b ++ nlB).size = oE th a b := by rw [oE, show c1T = k1 ++ nlB from rfl, show c2T = nlB ++ k2 ++ nlB from rfl]; simp only [ByteArray.append_assoc]
  rw [z1, z2, z3, z4]
  simp [mv]

/-- the tokens between are put, or not -/
theorem run_put {ws : List (ByteArray × List S35)} {parts : List Part} {fu : Int} {r : List S35} (k : Nat) : ∀ (X out : List S35), Quiet X → keptF ⟨[], ws, parts, [], fu⟩ = true → out.length + X.length ≤ 16384 →
    runL (X.length + k) ⟨X ++ r, ws, parts, out, fu⟩ = runL k ⟨r, ws, parts, out ++ X, fu⟩ := by
  intro X
  induction X with
  | nil => intro out _ _ _; simp
  | cons x X ih =>
    intro out hq hk hl
    have h1 := hq x (by simp)
    rw [show (x :: X).length + k = (X.length + k) + 1 from by simp; omega, List.cons_append]
    have hs : stepF x ⟨X ++ r, ws, parts, out, fu⟩ = .ok ⟨X ++ r, ws, parts, out ++ [x], fu⟩ := by
      have hk2 : keptF ⟨X ++ r, ws, parts, out, fu⟩ = true := hk
      rw [stepF, if_neg h1.1, if_neg h1.2.1, hk2, if_pos rfl, putF, if_neg (by simp at hl ⊢; omega)]
    rw [runL_step (t := x) rfl h1.2.2 hs, ih (out ++ [x]) (fun y hy => hq y (by simp [hy])) hk (by simp at hl ⊢; omega)]
    simp
theorem run_skip {ws : List (ByteArray × List S35)} {parts : List Part} {fu : Int} {r : List S35} {out : List S35} (k : Nat) : ∀ (X : List S35), Quiet X → keptF ⟨[], ws, parts, [], fu⟩ = false →
    runL (X.length + k) ⟨X ++ r, ws, parts, out, fu⟩ = runL k ⟨r, ws, parts, out, fu⟩ := by
  intro X
  induction X with
  | nil => intro _ _; simp
  | cons x X ih =>
    intro hq hk
    have h1 := hq x (by simp)
    rw [show (x :: X).length + k = (X.length + k) + 1 from by simp; omega, List.cons_append]
    have hs : stepF x ⟨X ++ r, ws, parts, out, fu⟩ = .ok ⟨X ++ r, ws, parts, out, fu⟩ := by
      have hk2 : keptF ⟨X ++ r, ws, parts, out, fu⟩ = false := hk
      rw [stepF, if_neg h1.1, if_neg h1.2.1, hk2]
      simp
    rw [runL_step (t := x) rfl h1.2.2 hs, ih (fun y hy => hq y (by simp [hy])) hk]
theorem quiet_mv {X : List S35} (h : Quiet X) (o : Nat) : Quiet (X.map (mv o)) := by
  intro x hx
  obtain ⟨y, hy, rfl⟩ := List.mem_map.1 hx
  exact h y hy

/-- what the run comes to -/
def kept (th : Bool) (a : ByteArray) (X Y : List S35) : List S35 := if th then X.map (mv (oA th)) else Y.map (mv (oB th a))
theorem parts_run (th : Bool) (a b : ByteArray) (X Y : List S35) (qx : Quiet X) (qy : Quiet Y) (hlx : X.length ≤ 16384) (hly : Y.length ≤ 16384) :
    runF (cToks th a b X Y) = (kept th a X Y ++ [⟨6, ⟨#[]⟩, (cT th a b).size⟩], []) := by
  have q1 := quiet_mv qx (oA th)
  have q2 := quiet_mv qy (oB th a)
  have hlen : ∃ e, (cToks th a b X Y).length = (if th then 2 else 0) + (1 + ((X.map (mv (oA th))).length + (1 + ((Y.map (mv (oB th a))).length + (1 + (e + 1)))))) := by
    cases th with
    | false => exact ⟨1, by simp [cToks, pre0]; omega⟩
    | true => exact ⟨2, by simp [cToks, pre0]; omega⟩
  obtain ⟨e, hlen⟩ := hlen
  have hlast : (cToks th a b X Y).getLast? = some ⟨6, ⟨#[]⟩, (cT th a b).size⟩ := by
    rw [cToks]
    simp [List.getLast?_append, List.getLast?_cons]
  generalize hX : X.map (mv (oA th)) = X' at *
  generalize hY : Y.map (mv (oB th a)) = Y' at *
  have lx : X'.length ≤ 16384 := by rw [← hX]; simpa using hlx
  have ly : Y'.length ≤ 16384 := by rw [← hY]; simpa using hly
  have e1 : (sElse == sIfdef) = false := by decide
  have e2 : (sElse == sIfndef) = false := by decide
  have e3 : (sElse == sElse) = true := by decide
  have f1 : (sEndif == sIfdef) = false := by decide
  have f2 : (sEndif == sIfndef) = false := by decide
  have f3 : (sEndif == sElse) = false := by decide
  have f4 : (sEndif == sEndif) = true := by decide
  have g1 : (sIfdef == sIfdef) = true := by decide
  -- ahead
  have r0 : ∀ k r, ∃ ws, (lookW ws sZ).isSome = th ∧ runL ((if th then 2 else 0) + k) ⟨pre0 th ++ r, [], [], [], 0⟩ = runL k ⟨r, ws, [], [], 0⟩ := by
    intro k r
    cases th with
    | false => exact ⟨[], rfl, by simp [pre0]⟩
    | true =>
      refine ⟨[(sZ, [])], by kernel_rfl, ?_⟩
      rw [show (if true = true then 2 else 0) + k = (k + 1) + 1 from by simp; omega]
      rw [runL_step (k := k + 1) (t := ⟨4, sDefine, 0⟩) (r := ⟨1, sZ, 8⟩ :: ⟨5, ⟨#[]⟩, 12⟩ :: r) (s1 := ⟨⟨5, ⟨#[]⟩, 12⟩ :: r, [(sZ, [])], [], [], 0⟩) rfl (by decide)]
      · exact runL_step (t := ⟨5, ⟨#[]⟩, 12⟩) rfl (by decide) rfl
      · have e1 : (sDefine == sIfdef) = false := by decide
        have e2 : (sDefine == sIfndef) = false := by decide
        have e3 : (sDefine == sElse) = false := by decide
        have e4 : (sDefine == sEndif) = false := by decide
        have e5 : (sDefine == sDefine) = true := by decide
        simp only [stepF, tickF, e1, e2, e3, e4, e5, if_true, Bool.false_eq_true, if_false, keptF, List.getLast?_nil, defineF, nameF, Bool.true_eq_false]
        simp [notEnd]
  obtain ⟨ws, hw, r0⟩ := r0 (1 + (X'.length + (1 + (Y'.length + (1 + (e + 1)))))) (⟨4, sIfdef, (hd0 th).size⟩ :: ⟨1, sZ, 7 + ((hd0 th).size : Int)⟩ :: (X' ++ ⟨4, sElse, ((oA th + a.size + 1 : Nat) : Int)⟩ :: (Y' ++ [⟨4, sEndif, (oE th a b : Int)⟩, ⟨6, ⟨#[]⟩, (cT th a b).size⟩])))
  have r1 : ∀ k r, runL (1 + k) ⟨⟨4, sIfdef, (hd0 th).size⟩ :: ⟨1, sZ, 7 + ((hd0 th).size : Int)⟩ :: r, ws, [], [], 0⟩ = runL k ⟨r, ws, [⟨(hd0 th).size, th, false, true⟩], [], 0⟩ := by
    intro k r
    rw [show 1 + k = k + 1 from by omega]
    refine runL_step (t := ⟨4, sIfdef, (hd0 th).size⟩) rfl (by show (4 : Int) ≠ 6; decide) ?_
    simp only [stepF, tickF, g1, if_true, beginsF, nameF, hw, keptF, List.getLast?_nil]
    simp
  have r2 : ∀ k r out p, runL (1 + k) ⟨⟨4, sElse, ((oA th + a.size + 1 : Nat) : Int)⟩ :: r, ws, [⟨p, th, false, true⟩], out, 0⟩ = runL k ⟨r, ws, [⟨p, !th, true, true⟩], out, 0⟩ := by
    intro k r out p
    rw [show 1 + k = k + 1 from by omega]
    refine runL_step (t := ⟨4, sElse, ((oA th + a.size + 1 : Nat) : Int)⟩) rfl (by show (4 : Int) ≠ 6; decide) ?_
    simp only [stepF, tickF, e1, e2, e3, if_true, Bool.false_eq_true, if_false, turnsF]
    simp
  have r3 : ∀ k r out p, runL (1 + k) ⟨⟨4, sEndif, (oE th a b : Int)⟩ :: r, ws, [p], out, 0⟩ = runL k ⟨r, ws, [], out, 0⟩ := by
    intro k r out p
    rw [show 1 + k = k + 1 from by omega]
    refine runL_step (t := ⟨4, sEndif, (oE th a b : Int)⟩) rfl (by show (4 : Int) ≠ 6; decide) ?_
    simp only [stepF, tickF, f1, f2, f3, f4, if_true, Bool.false_eq_true, if_false]
    simp
  have r4 : ∀ k out, runL (k + 1) ⟨[⟨6, ⟨#[]⟩, (cT th a b).size⟩], ws, [], out, 0⟩ = .ok ⟨[⟨6, ⟨#[]⟩, (cT th a b).size⟩], ws, [], out, 0⟩ := fun k out => rfl
  have hrun : runL (cToks th a b X Y).length ⟨cToks th a b X Y, [], [], [], 0⟩ = .ok ⟨[⟨6, ⟨#[]⟩, (cT th a b).size⟩], ws, [], (if th then X' else Y'), 0⟩ := by
    rw [hlen, cToks, hX, hY, r0, r1]
    cases th with
    | true =>
      rw [run_put _ X' [] q1 rfl (by simpa using lx), r2, run_skip _ Y' q2 rfl, r3, r4]
      simp
    | false =>
      rw [run_skip _ X' q1 rfl, r2, run_put _ Y' [] q2 rfl (by simpa using ly), r3, r4]
      simp
  rw [runF_ok (x := ⟨6, ⟨#[]⟩, (cT th a b).size⟩) hlast rfl hrun rfl, kept, hX, hY]
  simp
end Go.Proofs.Ytimcmhfcmnooeaa
