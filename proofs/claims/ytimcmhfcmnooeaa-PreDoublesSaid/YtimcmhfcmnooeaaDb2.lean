/- Names that double, plainly: the run. -/
import Derived.Test.YtimcmhfcmnooeaaDb1
namespace Go.Proofs.Ytimcmhfcmnooeaa
set_option linter.unusedVariables false
set_option linter.unusedSimpArgs false
open Go.RowKit Go.Proofs.YtimcmhfcmnooeaaW.PrintWords Go.Proofs.YtimcmhfcmnooeaaW.PrintLast Go.Proofs.YtimcmhfcmnooeaaW.PrintMore

theorem range_all {n : Nat} {f : Nat → Bool} (h : (List.range n).all f = true) (i : Nat) (hi : i < n) : f i = true := by
  rw [List.all_eq_true] at h
  exact h i (List.mem_range.2 hi)
theorem p2_eq (i j : Nat) (hi : i < 32) (hj : j < 32) : (p2 i == p2 j) = (i == j) := by
  have h := range_all pCheck i hi
  simp only [Bool.and_eq_true] at h
  have := range_all h.1.1 j hj
  exact eq_of_beq this
theorem p2_dir (i : Nat) (hi : i < 32) : isDir (p2 i) = false := by
  have h := range_all pCheck i hi
  simp only [Bool.and_eq_true] at h
  simpa using h.1.2
theorem p2_size (i : Nat) (hi : i < 32) : (p2 i).size ≤ 3 := by
  have h := range_all pCheck i hi
  simp only [Bool.and_eq_true] at h
  simpa using h.2

def off : Nat → Nat
  | 0 => 0
  | i + 1 => (dS i).size
theorem dS_size (i : Nat) : (dS i).size = off i + (dW i).size + 1 := by
  cases i with
  | zero => rfl
  | succ i => rw [dS_succ, ByteArray.size_append, ByteArray.size_append]; rfl
theorem dW_size (i : Nat) (hi : i < 32) : (dW i).size ≤ 21 := by
  cases i with
  | zero => decide
  | succ i =>
    have h := p2_size i (by omega)
    simp only [dW, ByteArray.size_append]
    have h2 : (q2 (i + 1)).size = 3 := rfl
    show 8 + _ + 2 + _ + 2 + _ ≤ 21
    omega
theorem off_le (i : Nat) (hi : i < 32) : off i ≤ 22 * i := by
  induction i with
  | zero => simp [off]
  | succ i ih =>
    have := ih (by omega)
    have h2 := dW_size i (by omega)
    show (dS i).size ≤ _
    rw [dS_size]
    omega
theorem dS_some (n : Nat) : ∀ i, i ≤ n → ∃ v, dS n = dS i ++ v := by
  induction n with
  | zero => intro i hi; exact ⟨ByteArray.empty, by rw [show i = 0 from by omega]; simp⟩
  | succ n ih =>
    intro i hi
    by_cases h : i = n + 1
    · exact ⟨ByteArray.empty, by rw [h]; simp⟩
    · obtain ⟨v, hv⟩ := ih i (by omega)
      exact ⟨v ++ (dW (n + 1) ++ nl1), by rw [dS_succ, hv]; simp only [ByteArray.append_assoc]⟩
def dB (i : Nat) : List S35 := (dBody i).map (mv (off i))
def wL (i : Nat) : List S35 := (wToks i).map (mv (off i)) ++ [⟨5, ⟨#[]⟩, ((off i + (dW i).size : Nat) : Int)⟩]
def dToks : Nat → List S35
  | 0 => wL 0
  | i + 1 => dToks i ++ wL (i + 1)
theorem w_df (i : Nat) : dfEnd false (wToks i) = true := by
  have h : isDef ⟨4, sDefine, 0⟩ = true := by kernel_rfl
  cases i with
  | zero => simp [dfEnd, wToks, dBody, h, dfStep]
  | succ i => simp [dfEnd, wToks, dBody, h, dfStep]
theorem nl_bt (v : ByteArray) : 0 < (nl1 ++ v).size ∧ bt (nl1 ++ v) (0 : Nat) = 10 := by
  refine ⟨by rw [ByteArray.size_append]; show 0 < 1 + _; omega, ?_⟩
  rw [bt_left (by decide)]
  rfl
theorem dT_size (n : Nat) (hn : n < 32) : (dT n).size ≤ 16384 := by
  have h1 := off_le n hn
  have h2 := dW_size n hn
  have h3 := p2_size n hn
  simp only [dT, dU, ByteArray.size_append]
  rw [dS_size]
  show _ + (1 + _) ≤ _
  omega
theorem toks_all (n : Nat) (hn : n < 32) : Toks (dT n) (dToks n ++ [⟨4, p2 n, (dS n).size⟩] ++ [⟨6, ⟨#[]⟩, (dT n).size⟩]) := by
  have hz := dT_size n hn
  obtain ⟨k, l, hl, _⟩ := lexed_some (dT n)
  have hT : Toks (dT n) l := ⟨k, hl⟩
  have h0 := Rest.start (by omega) hT
  have line : ∀ i, i ≤ n → ∀ L, Rest (dT n) L (off i) l → Rest (dT n) (L ++ wL i) (dS i).size l := by
    intro i hi L h
    obtain ⟨v, hv⟩ := dS_some n i hi
    have hs : ∃ u, u.size = off i ∧ dT n = u ++ dW i ++ (nl1 ++ (v ++ dU n)) := by
      cases i with
      | zero => exact ⟨ByteArray.empty, rfl, by rw [dT, hv, show dS 0 = dW 0 ++ nl1 from rfl]; simp [ByteArray.append_assoc]⟩
      | succ i => exact ⟨dS i, rfl, by rw [dT, hv, dS_succ]; simp only [ByteArray.append_assoc]⟩
    obtain ⟨u, hu, hs⟩ := hs
    have hg : Seg (dT n) (dW i) (off i) := by
      have := seg_mk u (dW i) (nl1 ++ (v ++ dU n)) (by rw [← hs]; omega) (.inr (nl_bt _))
      rw [← hs, hu] at this
      exact this
    have hlt : off i + (dW i).size < (dT n).size := by
      have h6 := congrArg ByteArray.size hs
      rw [ByteArray.size_append, ByteArray.size_append] at h6
      have := (nl_bt (v ++ dU n)).1
      omega
    have h5 := Rest.take (.inr hz) h hg hlt (checkT_ok (range_all wCheck i (by omega)))
    rw [w_df, if_pos rfl, ← dS_size] at h5
    rw [wL, ← List.append_assoc]
    exact h5
  have all : ∀ i, i ≤ n → Rest (dT n) (dToks i) (dS i).size l := by
    intro i
    induction i with
    | zero =>
      intro hi
      have := line 0 hi [] h0
      rw [List.nil_append] at this
      exact this
    | succ i ih => intro hi; exact line (i + 1) hi _ (ih (by omega))
  have hg : Seg (dT n) (dU n) (dS n).size := by
    have := seg_mk (dS n) (dU n) ByteArray.empty (by simp only [ByteArray.append_empty]; show (dT n).size ≤ _; omega) (.inl rfl)
    simp only [ByteArray.append_empty] at this
    exact this
  have h9 := Rest.last (.inr hz) (all n (Nat.le_refl n)) hg (by rw [dT, ByteArray.size_append]) (checkT_ok (range_all uCheck n hn))
  rw [h9] at hT
  simpa [mv] using hT

def dWs : Nat → List (ByteArray × List S35)
  | 0 => [(p2 0, dB 0)]
  | i + 1 => (p2 (i + 1), dB (i + 1)) :: dWs i
theorem dB_ends (i : Nat) : ∀ x ∈ dB i, notEnd x = true := by
  cases i with
  | zero => intro x hx; simp [dB, dBody] at hx; rw [hx]; decide
  | succ i => intro x hx; simp [dB, dBody] at hx; rcases hx with rfl | rfl <;> rfl
theorem run_line (i : Nat) (k : Nat) (r : List S35) (ws : List (ByteArray × List S35)) : runL (k + 2) ⟨wL i ++ r, ws, [], [], 0⟩ = runL k ⟨r, (p2 i, dB i) :: ws, [], [], 0⟩ := by
  have hw : wL i ++ r = ⟨4, sDefine, 0 + (off i : Int)⟩ :: ⟨1, p2 i, 8 + (off i : Int)⟩ :: (dB i ++ ⟨5, ⟨#[]⟩, ((off i + (dW i).size : Nat) : Int)⟩ :: r) := by
    simp [wL, wToks, dB, mv]
  have h1 : (dB i ++ ⟨5, ⟨#[]⟩, ((off i + (dW i).size : Nat) : Int)⟩ :: r).takeWhile notEnd = dB i := by
    rw [List.takeWhile_append_of_pos (dB_ends i)]
    simp [notEnd]
  have h2 : (dB i ++ ⟨5, ⟨#[]⟩, ((off i + (dW i).size : Nat) : Int)⟩ :: r).dropWhile notEnd = ⟨5, ⟨#[]⟩, ((off i + (dW i).size : Nat) : Int)⟩ :: r := by
    rw [List.dropWhile_append_of_pos (dB_ends i)]
    simp [notEnd]
  rw [runL_step (k := k + 1) (t := ⟨4, sDefine, 0 + (off i : Int)⟩) (r := ⟨1, p2 i, 8 + (off i : Int)⟩ :: (dB i ++ ⟨5, ⟨#[]⟩, ((off i + (dW i).size : Nat) : Int)⟩ :: r)) (s1 := ⟨⟨5, ⟨#[]⟩, ((off i + (dW i).size : Nat) : Int)⟩ :: r, (p2 i, dB i) :: ws, [], [], 0⟩) hw (by show (4 : Int) ≠ 6; decide)]
  · exact runL_step (t := ⟨5, ⟨#[]⟩, ((off i + (dW i).size : Nat) : Int)⟩) rfl (by show (5 : Int) ≠ 6; decide) rfl
  · have e1 : (sDefine == sIfdef) = false := by decide
    have e2 : (sDefine == sIfndef) = false := by decide
    have e3 : (sDefine == sElse) = false := by decide
    have e4 : (sDefine == sEndif) = false := by decide
    have e5 : (sDefine == sDefine) = true := by decide
    simp only [stepF, tickF, e1, e2, e3, e4, e5, if_true, Bool.false_eq_true, if_false, keptF, List.getLast?_nil, defineF, nameF, Bool.true_eq_false]
    rw [h1, h2]
theorem run_lines : ∀ (n k : Nat) (r : List S35), runL (2 * (n + 1) + k) ⟨dToks n ++ r, [], [], [], 0⟩ = runL k ⟨r, dWs n, [], [], 0⟩ := by
  intro n
  induction n with
  | zero => intro k r; rw [show 2 * (0 + 1) + k = k + 2 from by omega]; exact run_line 0 k r []
  | succ n ih =>
    intro k r
    rw [dToks, List.append_assoc, show 2 * (n + 1 + 1) + k = 2 * (n + 1) + (k + 2) from by omega, ih (k + 2)]
    exact run_line (n + 1) k r _
theorem look_all : ∀ (n : Nat), n < 32 → ∀ i, i ≤ n → lookW (dWs n) (p2 i) = some (dB i) := by
  intro n
  induction n with
  | zero => intro hn i hi; rw [show i = 0 from by omega]; simp only [lookW, dWs, List.find?, p2_eq 0 0 (by omega) (by omega)]; rfl
  | succ n ih =>
    intro hn i hi
    by_cases h : i = n + 1
    · subst h
      simp only [lookW, dWs, List.find?, p2_eq (n + 1) (n + 1) (by omega) (by omega)]
      simp
    · have := ih (by omega) i (by omega)
      have e : (n + 1 == i) = false := by simp; omega
      simp only [lookW] at this ⊢
      simp only [dWs, List.find?, p2_eq (n + 1) i (by omega) (by omega), e]
      exact this

/-- what a use costs -/
def cost (i : Nat) : Nat := 3 * 2 ^ i - 2
theorem two_pos (i : Nat) : 1 ≤ 2 ^ i := Nat.one_le_two_pow
theorem use_at (a : Int) (n : Nat) (hn : n < 32) : ∀ (i : Nat), i ≤ n → ∀ (k : Nat), i < k → ∀ s : St, s.words = dWs n → (s.out.length : Int) ≤ s.fuel →
    useF k a (p2 i) s = if s.fuel + cost i ≤ 4096 then .ok { s with fuel := s.fuel + cost i, out := s.out ++ List.replicate (2 ^ i) ⟨1, ⟨#[120]⟩, a⟩ } else .error (a, 31) := by
  intro i
  induction i with
  | zero =>
    intro hi k hk s hw ho
    obtain ⟨k, rfl⟩ : ∃ m, k = m + 1 := ⟨k - 1, by omega⟩
    have hlk : lookW s.words (p2 0) = some (dB 0) := by rw [hw]; exact look_all n hn 0 hi
    rw [useF, hlk]
    simp only [dB, dBody, List.map_cons, List.map_nil, mv]
    rw [useL]
    have hc : (cost 0 : Nat) = 1 := rfl
    rw [hc]
    by_cases hf : s.fuel + 1 > 4096
    · rw [if_pos hf, if_neg (show ¬ s.fuel + ((1 : Nat) : Int) ≤ 4096 by omega)]
    · rw [if_neg hf, if_pos (show s.fuel + ((1 : Nat) : Int) ≤ 4096 by omega), if_neg (show ¬ (1 : Int) = 4 by omega)]
      simp only [putF]
      rw [if_neg (by omega)]
      simp only [useL]
      rfl
  | succ i ih =>
    intro hi k hk s hw ho
    obtain ⟨k, rfl⟩ : ∃ m, k = m + 1 := ⟨k - 1, by omega⟩
    have hp := two_pos i
    have hc : (cost (i + 1) : Nat) = 2 + 2 * cost i := by simp only [cost, Nat.pow_succ]; omega
    have hc0 : 2 ^ i ≤ cost i := by simp only [cost]; omega
    have hlk : lookW s.words (p2 (i + 1)) = some (dB (i + 1)) := by rw [hw]; exact look_all n hn (i + 1) hi
    rw [useF, hlk]
    simp only [dB, dBody, List.map_cons, List.map_nil, mv]
    have hd := p2_dir i (by omega)
    simp only [useL]
    simp only [if_pos trivial, hd, Bool.false_eq_true, if_false, if_true]
    by_cases hf : s.fuel + 1 > 4096
    · rw [if_pos hf, if_neg (by omega)]
    rw [if_neg hf, ih (by omega) k (by omega) { s with fuel := s.fuel + 1 } hw (by show (s.out.length : Int) ≤ s.fuel + 1; omega)]
    by_cases hf2 : s.fuel + 1 + cost i ≤ 4096
    · simp only [if_pos hf2]
      by_cases hf3 : s.fuel + 1 + (cost i : Int) + 1 > 4096
      · rw [if_pos hf3, if_neg (by omega)]
      · rw [if_neg hf3]
        rw [ih (by omega) k (by omega) { s with fuel := s.fuel + 1 + cost i + 1, out := s.out ++ List.replicate (2 ^ i) ⟨1, ⟨#[120]⟩, a⟩ } hw (by simp only [List.length_append, List.length_replicate]; omega)]
        by_cases hf4 : s.fuel + 1 + (cost i : Int) + 1 + cost i ≤ 4096
        · simp only [if_pos hf4]
          rw [if_pos (by omega)]
          congr 2
          · rw [List.append_assoc, List.replicate_append_replicate, Nat.pow_succ]
            congr 2
            omega
          · omega
        · simp only [if_neg hf4]
          rw [if_neg (by omega)]
    · simp only [if_neg hf2]
      rw [if_neg (by omega)]

/-- what comes of names that double -/
def dRun (n : Nat) : List S35 := dToks n ++ [⟨4, p2 n, (dS n).size⟩] ++ [⟨6, ⟨#[]⟩, (dT n).size⟩]
theorem wL_len (i : Nat) : 2 ≤ (wL i).length := by simp [wL, wToks]
theorem dToks_len (n : Nat) : 2 * (n + 1) ≤ (dToks n).length := by
  induction n with
  | zero => exact wL_len 0
  | succ n ih => have := wL_len (n + 1); simp only [dToks, List.length_append]; omega
theorem dRun_run (n : Nat) (hn : n < 32) : if cost n ≤ 4096 then (runF (dRun n)).2 = [] ∧ (runF (dRun n)).1.length = 2 ^ n + 1 else runF (dRun n) = ([], [⟨(dS n).size, 31⟩]) := by
  have hx : (dRun n).getLast? = some ⟨6, ⟨#[]⟩, (dT n).size⟩ := by simp [dRun]
  obtain ⟨k, hk⟩ : ∃ k, (dRun n).length = 2 * (n + 1) + (k + 2) := by
    have := dToks_len n
    exact ⟨(dToks n).length - 2 * (n + 1), by simp only [dRun, List.length_append, List.length_cons, List.length_nil]; omega⟩
  have hd := p2_dir n hn
  simp only [isDir, Bool.or_eq_false_iff] at hd
  obtain ⟨⟨⟨⟨⟨d1, d2⟩, d3⟩, d4⟩, d5⟩, d6⟩ := hd
  have hu := use_at ((dS n).size : Int) n hn n (Nat.le_refl n) 4097 (by omega) ⟨[⟨6, ⟨#[]⟩, (dT n).size⟩], dWs n, [], [], 0⟩ rfl (by simp)
  have h1 : runL (dRun n).length ⟨dRun n, [], [], [], 0⟩ = runL (k + 2) ⟨[⟨4, p2 n, (dS n).size⟩, ⟨6, ⟨#[]⟩, (dT n).size⟩], dWs n, [], [], 0⟩ := by
    rw [hk, dRun, List.append_assoc]
    exact run_lines n (k + 2) _
  have hs : stepF ⟨4, p2 n, (dS n).size⟩ ⟨[⟨6, ⟨#[]⟩, (dT n).size⟩], dWs n, [], [], 0⟩ = useF 4097 (dS n).size (p2 n) ⟨[⟨6, ⟨#[]⟩, (dT n).size⟩], dWs n, [], [], 0⟩ := by
    rw [stepF, if_pos rfl, tickF_use ⟨d3, d4, d5, d6⟩ rfl d1 d2]
  rw [hu] at hs
  by_cases hc : cost n ≤ 4096
  · rw [if_pos hc]
    rw [if_pos (by show (0 : Int) + cost n ≤ 4096; omega)] at hs
    have h2 := runL_step (k := k + 1) (t := ⟨4, p2 n, (dS n).size⟩) (r := [⟨6, ⟨#[]⟩, (dT n).size⟩]) (s := ⟨[⟨4, p2 n, (dS n).size⟩, ⟨6, ⟨#[]⟩, (dT n).size⟩], dWs n, [], [], 0⟩) rfl (by show (4 : Int) ≠ 6; decide) hs
    have h3 := runF_ok (x := ⟨6, ⟨#[]⟩, (dT n).size⟩) hx rfl (h1.trans (h2.trans rfl)) rfl
    rw [h3]
    exact ⟨rfl, by simp⟩
  · rw [if_neg hc]
    rw [if_neg (by show ¬ (0 : Int) + cost n ≤ 4096; omega)] at hs
    have h2 := runL_stop (k := k + 1) (t := ⟨4, p2 n, (dS n).size⟩) (r := [⟨6, ⟨#[]⟩, (dT n).size⟩]) (s := ⟨[⟨4, p2 n, (dS n).size⟩, ⟨6, ⟨#[]⟩, (dT n).size⟩], dWs n, [], [], 0⟩) rfl (by show (4 : Int) ≠ 6; decide) hs
    exact runF_err (x := ⟨6, ⟨#[]⟩, (dT n).size⟩) hx rfl (h1.trans h2)
end Go.Proofs.Ytimcmhfcmnooeaa
