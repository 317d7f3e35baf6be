/- Names that double, plainly: the texts, their tokens, what the last use comes to. -/
import Derived.Test.YtimcmhfcmnooeaaPl5
import Derived.Test.YtimcmhfcmnooeaaSg2
namespace Go.Proofs.Ytimcmhfcmnooeaa
set_option linter.unusedVariables false
set_option linter.unusedSimpArgs false
open Go.RowKit Go.Proofs.YtimcmhfcmnooeaaW.PrintWords Go.Proofs.YtimcmhfcmnooeaaW.PrintLast Go.Proofs.YtimcmhfcmnooeaaW.PrintMore

theorem ba_list {u v : ByteArray} : (u ++ v).data.toList = u.data.toList ++ v.data.toList := by simp
theorem bt_left {u v : ByteArray} {i : Nat} (h : i < u.size) : bt (u ++ v) i = bt u i := by
  rw [bt_get _ i (by rw [ByteArray.size_append]; omega), bt_get u i h]
  congr 2
  simp only [ba_list]
  exact List.getElem_append_left (by simpa using h)
theorem bt_right {u v : ByteArray} {i : Nat} (h : i < v.size) : bt (u ++ v) ((u.size + i : Nat) : Int) = bt v i := by
  rw [bt_get _ _ (by rw [ByteArray.size_append]; omega), bt_get v i h]
  congr 2
  simp only [ba_list]
  rw [List.getElem_append_right (by simp)]
  congr 1
  simp
theorem seg_mk (u a v : ByteArray) (hs : (u ++ a ++ v).size ≤ 65536) (hv : v.size = 0 ∨ 0 < v.size ∧ bt v (0 : Nat) = 10) : Seg (u ++ a ++ v) a u.size := by
  have hz : (u ++ a ++ v).size = u.size + a.size + v.size := by rw [ByteArray.size_append, ByteArray.size_append]
  refine ⟨by omega, hs, ?_, ?_⟩
  · intro i hi
    rw [bt_left (by rw [ByteArray.size_append]; omega), bt_right hi]
  · rcases hv with h | ⟨h, h2⟩
    · exact .inl (by omega)
    · refine .inr ⟨by omega, ?_⟩
      rw [← ByteArray.size_append]
      exact (bt_right (u := u ++ a) (v := v) (i := 0) h).trans h2

/-- the name of the word i: its two digits -/
def q2 (i : Nat) : ByteArray := ⟨#[97, UInt8.ofNat (48 + i / 10), UInt8.ofNat (48 + i % 10)]⟩
def p2 (i : Nat) : ByteArray := if i = 0 then ⟨#[97, 48]⟩ else q2 i
def nl1 : ByteArray := ⟨#[10]⟩
def dS : Nat → ByteArray
  | 0 => ⟨#[96, 100, 101, 102, 105, 110, 101, 32, 97, 48, 32, 120, 10]⟩
  | i + 1 => ((((((dS i ++ ⟨#[96, 100, 101, 102, 105, 110, 101, 32]⟩) ++ q2 (i + 1)) ++ ⟨#[32, 96]⟩) ++ p2 i) ++ ⟨#[32, 96]⟩) ++ p2 i) ++ ⟨#[10]⟩
def dW : Nat → ByteArray
  | 0 => ⟨#[96, 100, 101, 102, 105, 110, 101, 32, 97, 48, 32, 120]⟩
  | i + 1 => (((((⟨#[96, 100, 101, 102, 105, 110, 101, 32]⟩ : ByteArray) ++ q2 (i + 1)) ++ ⟨#[32, 96]⟩) ++ p2 i) ++ ⟨#[32, 96]⟩) ++ p2 i
def dU (n : Nat) : ByteArray := ⟨#[96]⟩ ++ p2 n
def dT (n : Nat) : ByteArray := dS n ++ dU n
theorem dS_succ (i : Nat) : dS (i + 1) = dS i ++ dW (i + 1) ++ nl1 := by
  show ((((((dS i ++ _) ++ _) ++ _) ++ _) ++ _) ++ _) ++ _ = _
  simp only [dW, nl1, ByteArray.append_assoc]
def dBody : Nat → List S35
  | 0 => [⟨1, ⟨#[120]⟩, 11⟩]
  | i + 1 => [⟨4, p2 i, 12⟩, ⟨4, p2 i, ((14 + (p2 i).size : Nat) : Int)⟩]
def wToks (i : Nat) : List S35 := ⟨4, sDefine, 0⟩ :: ⟨1, p2 i, 8⟩ :: dBody i
def sameL : List S35 → List S35 → Bool
  | [], [] => true
  | x :: l, y :: m => x.f0 == y.f0 && x.f1.data.toList == y.f1.data.toList && x.f2 == y.f2 && sameL l m
  | _, _ => false
theorem sameL_eq : ∀ (l m : List S35), sameL l m = true → l = m := by
  intro l
  induction l with
  | nil => intro m h; cases m with
    | nil => rfl
    | cons y m => cases h
  | cons x l ih =>
    intro m h
    cases m with
    | nil => cases h
    | cons y m =>
      simp only [sameL, Bool.and_eq_true, beq_iff_eq] at h
      obtain ⟨⟨⟨h1, h2⟩, h3⟩, h4⟩ := h
      obtain ⟨x0, ⟨⟨x1⟩⟩, x2⟩ := x
      obtain ⟨y0, ⟨⟨y1⟩⟩, y2⟩ := y
      simp only at h1 h2 h3
      subst h1 h2 h3
      rw [ih m h4]
def checkT (s : ByteArray) (L : List S35) : Bool := match silkwormlaw03_lexed.f 2000 s with
  | some l => sameL l (L ++ [⟨6, ⟨#[]⟩, s.size⟩])
  | none => false
theorem checkT_ok {s : ByteArray} {L : List S35} (h : checkT s L = true) : Toks s (L ++ [⟨6, ⟨#[]⟩, s.size⟩]) := by
  unfold checkT at h
  split at h
  · rename_i l hl
    exact ⟨2000, by rw [hl, sameL_eq _ _ h]⟩
  · cases h
theorem wCheck : (List.range 32).all (fun i => checkT (dW i) (wToks i)) = true := by kernel_rfl
theorem uCheck : (List.range 32).all (fun i => checkT (dU i) [⟨4, p2 i, 0⟩]) = true := by kernel_rfl
theorem pCheck : (List.range 32).all (fun i => (List.range 32).all (fun j => (p2 i == p2 j) == (i == j)) && !isDir (p2 i) && decide ((p2 i).size ≤ 3)) = true := by kernel_rfl
end Go.Proofs.Ytimcmhfcmnooeaa
