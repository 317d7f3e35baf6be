/- The two runs that awake makes, plainly. -/
import Derived.Test.YtimcmhfcmnooeaaPl4
namespace Go.Proofs.Ytimcmhfcmnooeaa
set_option linter.unusedVariables false
set_option linter.unusedSimpArgs false
open Go.RowKit Go.Proofs.YtimcmhfcmnooeaaW.PrintWords Go.Proofs.YtimcmhfcmnooeaaW.PrintLast Go.Proofs.YtimcmhfcmnooeaaW.PrintMore
def aw1 : ByteArray := ⟨#[96, 100, 101, 102, 105, 110, 101, 32, 65, 32, 49, 32, 43, 32, 49, 10, 96, 65, 32, 59]⟩
def aw2 : ByteArray := ⟨#[96, 100, 101, 102, 105, 110, 101, 32, 66, 32, 96, 66, 10, 96, 66]⟩
def aw1L : List S35 := [⟨4, sDefine, 0⟩, ⟨1, ⟨#[65]⟩, 8⟩, ⟨2, ⟨#[49]⟩, 10⟩, ⟨3, ⟨#[43]⟩, 12⟩, ⟨2, ⟨#[49]⟩, 14⟩, ⟨5, ⟨#[]⟩, 15⟩, ⟨4, ⟨#[65]⟩, 16⟩, ⟨3, ⟨#[59]⟩, 19⟩, ⟨6, ⟨#[]⟩, 20⟩]
def aw2L : List S35 := [⟨4, sDefine, 0⟩, ⟨1, ⟨#[66]⟩, 8⟩, ⟨4, ⟨#[66]⟩, 10⟩, ⟨5, ⟨#[]⟩, 12⟩, ⟨4, ⟨#[66]⟩, 13⟩, ⟨6, ⟨#[]⟩, 15⟩]
theorem aw1_lex : silkwormlaw03_lexed.f 2000 aw1 = some aw1L := by kernel_rfl
theorem aw2_lex : silkwormlaw03_lexed.f 2000 aw2 = some aw2L := by kernel_rfl
theorem aw1_run : runF aw1L = ([⟨2, ⟨#[49]⟩, 16⟩, ⟨3, ⟨#[43]⟩, 16⟩, ⟨2, ⟨#[49]⟩, 16⟩, ⟨3, ⟨#[59]⟩, 19⟩, ⟨6, ⟨#[]⟩, 20⟩], []) := by kernel_rfl
theorem use_ring (a : Int) (nm : ByteArray) (t : S35) (h4 : t.f0 = 4) (hn : t.f1 = nm) (hd : isDir nm = false) : ∀ (k : Nat) (s : St), lookW s.words nm = some [t] → useF k a nm s = .error (a, 31) := by
  intro k
  induction k with
  | zero => intro s _; rfl
  | succ k ih =>
    intro s hs
    rw [useF, hs]
    simp only
    rw [useL]
    split
    · rfl
    · rw [hn, hd]
      simp only [h4, if_true, Bool.false_eq_true, if_false]
      rw [ih { s with fuel := s.fuel + 1 } hs]
theorem runL_step {k : Nat} {s s1 : St} {t : S35} {r : List S35} (hl : s.l = t :: r) (h6 : t.f0 ≠ 6) (h : stepF t { s with l := r } = .ok s1) : runL (k + 1) s = runL k s1 := by
  rw [runL, hl]
  simp only
  rw [if_neg h6, h]
theorem runL_stop {k : Nat} {s : St} {e : Int × Int} {t : S35} {r : List S35} (hl : s.l = t :: r) (h6 : t.f0 ≠ 6) (h : stepF t { s with l := r } = .error e) : runL (k + 1) s = .error e := by
  rw [runL, hl]
  simp only
  rw [if_neg h6, h]
theorem tickF_use {t : S35} {s : St} (hp : Plain t) (hk : keptF s = true) (hd : (t.f1 == sDefine) = false) (hu : (t.f1 == sUndef) = false) : tickF t s = useF 4097 t.f2 t.f1 { s with fuel := 0 } := by
  unfold tickF
  rw [hp.a, hp.b, hp.c, hp.d, hk, hd, hu]
  simp
theorem aw2_run : runF aw2L = ([], [⟨13, 31⟩]) := by
  have s1 : runL 6 ⟨aw2L, [], [], [], 0⟩ = runL 5 ⟨[⟨5, ⟨#[]⟩, 12⟩, ⟨4, ⟨#[66]⟩, 13⟩, ⟨6, ⟨#[]⟩, 15⟩], [(⟨#[66]⟩, [⟨4, ⟨#[66]⟩, 10⟩])], [], [], 0⟩ := runL_step (t := ⟨4, sDefine, 0⟩) rfl (by decide) (by kernel_rfl)
  have s2 : runL 5 ⟨[⟨5, ⟨#[]⟩, 12⟩, ⟨4, ⟨#[66]⟩, 13⟩, ⟨6, ⟨#[]⟩, 15⟩], [(⟨#[66]⟩, [⟨4, ⟨#[66]⟩, 10⟩])], [], [], 0⟩ = runL 4 ⟨[⟨4, ⟨#[66]⟩, 13⟩, ⟨6, ⟨#[]⟩, 15⟩], [(⟨#[66]⟩, [⟨4, ⟨#[66]⟩, 10⟩])], [], [], 0⟩ := runL_step (t := ⟨5, ⟨#[]⟩, 12⟩) rfl (by decide) rfl
  have s3 : stepF ⟨4, ⟨#[66]⟩, 13⟩ ⟨[⟨6, ⟨#[]⟩, 15⟩], [(⟨#[66]⟩, [⟨4, ⟨#[66]⟩, 10⟩])], [], [], 0⟩ = .error (13, 31) := by
    rw [stepF, if_pos rfl, tickF_use ⟨by decide, by decide, by decide, by decide⟩ rfl (by decide) (by decide)]
    exact use_ring 13 _ ⟨4, ⟨#[66]⟩, 10⟩ rfl rfl (by decide) 4097 _ (by kernel_rfl)
  have s4 : runL 4 ⟨[⟨4, ⟨#[66]⟩, 13⟩, ⟨6, ⟨#[]⟩, 15⟩], [(⟨#[66]⟩, [⟨4, ⟨#[66]⟩, 10⟩])], [], [], 0⟩ = .error (13, 31) := runL_stop (t := ⟨4, ⟨#[66]⟩, 13⟩) rfl (by decide) s3
  have s5 := s1.trans (s2.trans s4)
  have hlen : aw2L.length = 6 := rfl
  rw [← hlen] at s5
  exact runF_err (x := ⟨6, ⟨#[]⟩, 15⟩) rfl rfl s5
end Go.Proofs.Ytimcmhfcmnooeaa
