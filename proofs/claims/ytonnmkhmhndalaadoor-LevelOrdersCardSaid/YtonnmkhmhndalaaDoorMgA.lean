/- How far each node is behind, plainly: nodes are put behind those that they hang on, one by one, or again and again. A loop of nodes, plainly: from one that is not done to one that it hangs on, till one comes again. -/
namespace Go.Proofs.YtonnmkhmhndalaaDoor
set_option linter.unusedVariables false
set_option linter.unusedSimpArgs false

def upd {β : Type} (f : Nat → β) (k : Nat) (v : β) : Nat → β := fun j => if j = k then v else f j
theorem upd_same {β : Type} (f : Nat → β) (k : Nat) (v : β) : upd f k v k = v := if_pos rfl
theorem upd_ne {β : Type} (f : Nat → β) {j k : Nat} (v : β) (h : j ≠ k) : upd f k v j = f j := if_neg h

/-- who hangs on each -/
structure Users (n : Nat) (hs us : Nat → List Nat) : Prop where
  lt : ∀ k, k < n → ∀ h ∈ hs k, h < n
  ult : ∀ k, k < n → ∀ u ∈ us k, u < n
  cnt : ∀ k u, k < n → u < n → (us k).count u = (hs u).count k

structure LSt where
  out : Nat → Nat
  left : Nat → Nat
  done : Nat → Bool
  ready : List Nat
  cnt : Nat

structure LInv (n : Nat) (hs : Nat → List Nat) (s : LSt) : Prop where
  rn : s.ready.Nodup
  rl : ∀ x ∈ s.ready, x < n ∧ s.done x = false ∧ s.left x = 0
  rc : ∀ x, x < n → s.done x = false → s.left x = 0 → x ∈ s.ready
  lf : ∀ u, u < n → s.left u = (hs u).countP (fun h => !s.done h)
  dl : ∀ u, u < n → s.done u = true → s.left u = 0
  ob : ∀ u, u < n → s.out u ≤ s.cnt ∧ (s.done u = true → s.out u < s.cnt)
  o1 : ∀ u, u < n → ∀ h ∈ hs u, s.done h = true → s.out h + 1 ≤ s.out u
  o2 : ∀ u, u < n → s.out u = 0 ∨ ∃ h ∈ hs u, s.done h = true ∧ s.out u = s.out h + 1
  cn : s.cnt = (List.range n).countP s.done

structure LMid (n : Nat) (hs us : Nat → List Nat) (k : Nat) (p : List Nat) (s : LSt) : Prop where
  kn : k < n
  kd : s.done k = true
  rn : s.ready.Nodup
  rl : ∀ x ∈ s.ready, x < n ∧ s.done x = false ∧ s.left x = 0
  rc : ∀ x, x < n → s.done x = false → s.left x = 0 → x ∈ s.ready
  lf : ∀ u, u < n → s.left u + p.count u = (hs u).countP (fun h => !s.done h) + (hs u).count k
  kk : ∀ u, u < n → s.done u = true → k ∉ hs u
  dl : ∀ u, u < n → s.done u = true → s.left u = 0
  ob : ∀ u, u < n → s.out u ≤ s.cnt ∧ (s.done u = true → s.out u < s.cnt)
  o1 : ∀ u, u < n → ∀ h ∈ hs u, s.done h = true → (h = k → u ∈ p) → s.out h + 1 ≤ s.out u
  o2 : ∀ u, u < n → s.out u = 0 ∨ ∃ h ∈ hs u, s.done h = true ∧ s.out u = s.out h + 1
  cn : s.cnt = (List.range n).countP s.done

theorem countP_upd (done : Nat → Bool) (k : Nat) (hk : done k = false) : ∀ l : List Nat, l.countP (fun h => !done h) = l.countP (fun h => !(upd done k true) h) + l.count k
  | [] => rfl
  | a :: l => by
    have ih := countP_upd done k hk l
    rw [List.countP_cons, List.countP_cons, List.count_cons, ih]
    by_cases e : a = k
    · subst e
      rw [hk, upd_same]
      simp
      omega
    · rw [upd_ne _ _ e]
      have : (a == k) = false := by simpa using e
      rw [this]
      simp
      omega
theorem countP_one (done : Nat → Bool) (k : Nat) (hk : done k = false) : ∀ l : List Nat, l.countP (upd done k true) = l.countP done + l.count k
  | [] => rfl
  | a :: l => by
    have ih := countP_one done k hk l
    rw [List.countP_cons, List.countP_cons, List.count_cons, ih]
    by_cases e : a = k
    · subst e
      rw [hk, upd_same]
      simp
      omega
    · rw [upd_ne _ _ e]
      have : (a == k) = false := by simpa using e
      rw [this]
      simp
      omega
theorem count_range (n k : Nat) (h : k < n) : (List.range n).count k = 1 := by
  rw [List.nodup_range.count, if_pos (List.mem_range.2 h)]

def popSt (s : LSt) (r : List Nat) (k : Nat) : LSt := { s with done := upd s.done k true, ready := r, cnt := s.cnt + 1 }
theorem LInv.pop {n : Nat} {hs us : Nat → List Nat} {s : LSt} {r : List Nat} {k : Nat} (h : LInv n hs s) (hr : s.ready = r ++ [k]) : LMid n hs us k [] (popSt s r k) := by
  have hk := h.rl k (by rw [hr]; simp)
  have hrn := h.rn
  rw [hr] at hrn
  have hrn2 := List.nodup_append.1 hrn
  have hkr : ∀ x ∈ r, x ≠ k := fun x hx => hrn2.2.2 x hx k List.mem_cons_self
  have hz : ∀ u, u < n → s.left u = 0 → ∀ x ∈ hs u, s.done x = true := by
    intro u hu h0 x hx
    have := h.lf u hu
    rw [h0] at this
    have := List.countP_eq_zero.1 this.symm x hx
    simpa using this
  have hud : ∀ u, u ≠ k → upd s.done k true u = s.done u := fun u e => upd_ne _ _ e
  refine ⟨hk.1, upd_same _ _ _, hrn2.1, ?_, ?_, ?_, ?_, ?_, ?_, ?_, ?_, ?_⟩
  · intro x hx
    have h1 := h.rl x (by rw [hr]; exact List.mem_append_left _ hx)
    exact ⟨h1.1, by show upd s.done k true x = false; rw [hud x (hkr x hx)]; exact h1.2.1, h1.2.2⟩
  · intro x hx hd hl
    have e : x ≠ k := by
      rintro rfl
      have : upd s.done x true x = false := hd
      rw [upd_same] at this
      cases this
    have hd' : upd s.done k true x = false := hd
    rw [hud x e] at hd'
    have := h.rc x hx hd' hl
    rw [hr] at this
    rcases List.mem_append.1 this with h1 | h1
    · exact h1
    · exact absurd (List.mem_singleton.1 h1) e
  · intro u hu
    show s.left u + 0 = (hs u).countP (fun h => !(upd s.done k true) h) + (hs u).count k
    rw [← countP_upd s.done k hk.2.1, h.lf u hu]
    rfl
  · intro u hu hd hm
    by_cases e : u = k
    · subst e
      have := hz u hu hk.2.2 u hm
      rw [hk.2.1] at this
      cases this
    · have hd' : upd s.done k true u = true := hd
      rw [hud u e] at hd'
      have := hz u hu (h.dl u hu hd') k hm
      rw [hk.2.1] at this
      cases this
  · intro u hu hd
    by_cases e : u = k
    · subst e; exact hk.2.2
    · have hd' : upd s.done k true u = true := hd
      rw [hud u e] at hd'
      exact h.dl u hu hd'
  · intro u hu
    have := h.ob u hu
    exact ⟨Nat.le_succ_of_le this.1, fun _ => Nat.lt_succ_of_le this.1⟩
  · intro u hu x hx hd hp
    have e : x ≠ k := fun e => by cases hp e
    have hd' : upd s.done k true x = true := hd
    rw [hud x e] at hd'
    exact h.o1 u hu x hx hd'
  · intro u hu
    rcases h.o2 u hu with h1 | ⟨x, hx, hd, ho⟩
    · exact Or.inl h1
    · refine Or.inr ⟨x, hx, ?_, ho⟩
      show upd s.done k true x = true
      by_cases e : x = k
      · subst e; exact upd_same _ _ _
      · rw [hud x e]; exact hd
  · show s.cnt + 1 = (List.range n).countP (upd s.done k true)
    rw [countP_one s.done k hk.2.1, count_range n k hk.1, h.cn]

def userSt (s : LSt) (k u : Nat) : LSt := { s with out := upd s.out u (max (s.out u) (s.out k + 1)), left := upd s.left u (s.left u - 1), ready := if s.left u - 1 = 0 then s.ready ++ [u] else s.ready }
theorem LMid.user {n : Nat} {hs us : Nat → List Nat} {s : LSt} {k u : Nat} {p q : List Nat} (h : LMid n hs us k p s) (hU : Users n hs us) (hq : us k = p ++ u :: q) :
    u < n ∧ 1 ≤ s.left u ∧ s.done u = false ∧ u ≠ k ∧ s.out u ≤ s.cnt ∧ s.out k < s.cnt ∧ LMid n hs us k (p ++ [u]) (userSt s k u) := by
  have hmem : u ∈ us k := by rw [hq]; simp
  have hu := hU.ult k h.kn u hmem
  have hcu := hU.cnt k u h.kn hu
  have hc1 : p.count u + 1 ≤ (us k).count u := by
    rw [hq, List.count_append, List.count_cons]
    simp
  have hkm : k ∈ hs u := List.count_pos_iff.1 (by omega)
  have hnd : s.done u = false := by
    cases hd : s.done u
    · rfl
    · exact absurd hkm (h.kk u hu hd)
  have hlf := h.lf u hu
  have hl1 : 1 ≤ s.left u := by omega
  have hne : u ≠ k := by
    rintro rfl
    rw [h.kd] at hnd
    cases hnd
  have hok := (h.ob k h.kn).2 h.kd
  have hou := (h.ob u hu).1
  have hur : u ∉ s.ready := fun hm => by have := (h.rl u hm).2.2; omega
  have ho : ∀ x, x ≠ u → (userSt s k u).out x = s.out x := fun x e => upd_ne _ _ e
  have hl : ∀ x, x ≠ u → (userSt s k u).left x = s.left x := fun x e => upd_ne _ _ e
  have hou' : (userSt s k u).out u = max (s.out u) (s.out k + 1) := upd_same _ _ _
  have hlu' : (userSt s k u).left u = s.left u - 1 := upd_same _ _ _
  refine ⟨hu, hl1, hnd, hne, hou, hok, ⟨h.kn, h.kd, ?_, ?_, ?_, ?_, h.kk, ?_, ?_, ?_, ?_, h.cn⟩⟩
  · show (if s.left u - 1 = 0 then s.ready ++ [u] else s.ready).Nodup
    split
    · refine List.nodup_append.2 ⟨h.rn, by simp, ?_⟩
      intro a ha b hb
      rw [List.mem_singleton.1 hb]
      rintro rfl
      exact hur ha
    · exact h.rn
  · intro x hx
    have hx' : x ∈ (if s.left u - 1 = 0 then s.ready ++ [u] else s.ready) := hx
    by_cases e : x = u
    · subst e
      refine ⟨hu, hnd, ?_⟩
      rw [hlu']
      by_cases e0 : s.left x - 1 = 0
      · exact e0
      · rw [if_neg e0] at hx'
        exact absurd hx' hur
    · have hx2 : x ∈ s.ready := by
        by_cases e0 : s.left u - 1 = 0
        · rw [if_pos e0] at hx'
          rcases List.mem_append.1 hx' with h1 | h1
          · exact h1
          · exact absurd (List.mem_singleton.1 h1) e
        · rw [if_neg e0] at hx'; exact hx'
      have := h.rl x hx2
      exact ⟨this.1, this.2.1, by rw [hl x e]; exact this.2.2⟩
  · intro x hx hd h0
    show x ∈ (if s.left u - 1 = 0 then s.ready ++ [u] else s.ready)
    by_cases e : x = u
    · subst e
      rw [hlu'] at h0
      rw [if_pos h0]
      simp
    · rw [hl x e] at h0
      have := h.rc x hx hd h0
      split
      · exact List.mem_append_left _ this
      · exact this
  · intro x hx
    rw [List.count_append]
    show (userSt s k u).left x + (p.count x + [u].count x) = (hs x).countP (fun h => !s.done h) + (hs x).count k
    by_cases e : x = u
    · subst e
      rw [hlu', ← hlf]
      simp
      omega
    · rw [hl x e, ← h.lf x hx]
      have : (u == x) = false := by simpa using fun e' => e (e'.symm)
      rw [List.count_cons, this]
      simp
  · intro x hx hd
    have e : x ≠ u := by
      rintro rfl
      have : s.done x = true := hd
      rw [hnd] at this
      cases this
    rw [hl x e]
    exact h.dl x hx hd
  · intro x hx
    by_cases e : x = u
    · subst e
      rw [hou']
      refine ⟨?_, fun hd => ?_⟩
      · show max (s.out x) (s.out k + 1) ≤ s.cnt
        omega
      · have : s.done x = true := hd
        rw [hnd] at this
        cases this
    · rw [ho x e]
      exact h.ob x hx
  · intro x hx y hy hd hp
    have ey : y ≠ u := by
      rintro rfl
      have : s.done y = true := hd
      rw [hnd] at this
      cases this
    rw [ho y ey]
    by_cases e : x = u
    · subst e
      rw [hou']
      by_cases ek : y = k
      · subst ek; omega
      · have := h.o1 x hx y hy hd (fun e' => absurd e' ek)
        omega
    · rw [ho x e]
      refine h.o1 x hx y hy hd (fun e' => ?_)
      rcases List.mem_append.1 (hp e') with h1 | h1
      · exact h1
      · exact absurd (List.mem_singleton.1 h1) e
  · intro x hx
    by_cases e : x = u
    · subst e
      rw [hou']
      rcases Nat.le_total (s.out k + 1) (s.out x) with hle | hle
      · rw [Nat.max_eq_left hle]
        rcases h.o2 x hx with h1 | ⟨y, hy, hd, h1⟩
        · exact Or.inl h1
        · have ey : y ≠ x := by rintro rfl; rw [hnd] at hd; cases hd
          exact Or.inr ⟨y, hy, hd, by rw [ho y ey]; exact h1⟩
      · rw [Nat.max_eq_right hle]
        exact Or.inr ⟨k, hkm, h.kd, by rw [ho k (Ne.symm hne)]⟩
    · rw [ho x e]
      rcases h.o2 x hx with h1 | ⟨y, hy, hd, h1⟩
      · exact Or.inl h1
      · have ey : y ≠ u := by rintro rfl; rw [hnd] at hd; cases hd
        exact Or.inr ⟨y, hy, hd, by rw [ho y ey]; exact h1⟩
theorem LMid.fin {n : Nat} {hs us : Nat → List Nat} {s : LSt} {k : Nat} (h : LMid n hs us k (us k) s) (hU : Users n hs us) : LInv n hs s := by
  refine ⟨h.rn, h.rl, h.rc, ?_, h.dl, h.ob, ?_, h.o2, h.cn⟩
  · intro u hu
    have := h.lf u hu
    have := hU.cnt k u h.kn hu
    omega
  · intro u hu x hx hd
    refine h.o1 u hu x hx hd (fun e => ?_)
    subst e
    have := hU.cnt x u h.kn hu
    have h2 := List.count_pos_iff.2 hx
    exact List.count_pos_iff.1 (by omega)

/-- the levels of what hangs on no loop -/
structure LRes (n : Nat) (hs : Nat → List Nat) (out : Nat → Nat) (done : Nat → Bool) (cnt : Nat) : Prop where
  ok1 : ∀ u, u < n → done u = true → ∀ h ∈ hs u, done h = true ∧ out h + 1 ≤ out u
  ok2 : ∀ u, u < n → done u = true → out u = 0 ∨ ∃ h ∈ hs u, out u = out h + 1
  ob : ∀ u, u < n → out u ≤ cnt ∧ (done u = true → out u < cnt)
  no : ∀ u, u < n → done u = false → ∃ h ∈ hs u, done h = false
  cn : cnt = (List.range n).countP done
theorem LInv.res {n : Nat} {hs : Nat → List Nat} {s : LSt} (h : LInv n hs s) (hr : s.ready = []) : LRes n hs s.out s.done s.cnt := by
  have hz : ∀ u, u < n → s.left u = 0 → ∀ x ∈ hs u, s.done x = true := by
    intro u hu h0 x hx
    have := h.lf u hu
    rw [h0] at this
    have := List.countP_eq_zero.1 this.symm x hx
    simpa using this
  refine ⟨?_, ?_, h.ob, ?_, h.cn⟩
  · intro u hu hd x hx
    have := hz u hu (h.dl u hu hd) x hx
    exact ⟨this, h.o1 u hu x hx this⟩
  · intro u hu hd
    rcases h.o2 u hu with h1 | ⟨x, hx, _, h1⟩
    · exact Or.inl h1
    · exact Or.inr ⟨x, hx, h1⟩
  · intro u hu hd
    by_cases h0 : s.left u = 0
    · have := h.rc u hu hd h0
      rw [hr] at this
      cases this
    · have hl := h.lf u hu
      have hp : 0 < (hs u).countP (fun h => !s.done h) := by omega
      obtain ⟨x, hx, hd⟩ := List.countP_pos_iff.1 hp
      exact ⟨x, hx, by simpa using hd⟩
theorem LInv.le {n : Nat} {hs : Nat → List Nat} {s : LSt} (h : LInv n hs s) : s.cnt ≤ n := by
  rw [h.cn]
  have := List.countP_le_length (p := s.done) (l := List.range n)
  rwa [List.length_range] at this
theorem LMid.le {n : Nat} {hs us : Nat → List Nat} {k : Nat} {p : List Nat} {s : LSt} (h : LMid n hs us k p s) : s.cnt ≤ n := by
  rw [h.cn]
  have := List.countP_le_length (p := s.done) (l := List.range n)
  rwa [List.length_range] at this
theorem LRes.le {n : Nat} {hs : Nat → List Nat} {out : Nat → Nat} {done : Nat → Bool} {cnt : Nat} (h : LRes n hs out done cnt) : cnt ≤ n := by
  rw [h.cn]
  have := List.countP_le_length (p := done) (l := List.range n)
  rwa [List.length_range] at this
theorem LRes.all {n : Nat} {hs : Nat → List Nat} {out : Nat → Nat} {done : Nat → Bool} (h : LRes n hs out done n) : ∀ u, u < n → done u = true := by
  intro u hu
  have h1 := h.cn
  have h2 : (List.range n).countP done = (List.range n).length := by rw [← h1, List.length_range]
  exact List.countP_eq_length.1 h2 u (List.mem_range.2 hu)
theorem LRes.some {n : Nat} {hs : Nat → List Nat} {out : Nat → Nat} {done : Nat → Bool} {cnt : Nat} (h : LRes n hs out done cnt) (hc : cnt < n) : ∃ u, u < n ∧ done u = false := by
  apply Classical.byContradiction
  intro hn
  have h2 : (List.range n).countP done = (List.range n).length := by
    refine List.countP_eq_length.2 fun u hu => ?_
    cases hd : done u
    · exact absurd ⟨u, List.mem_range.1 hu, hd⟩ hn
    · rfl
  rw [List.length_range, ← h.cn] at h2
  omega

/-- levels of all -/
structure IsLev (n : Nat) (hs : Nat → List Nat) (L : Nat → Nat) : Prop where
  lt : ∀ u, u < n → L u < n
  up : ∀ u, u < n → ∀ h ∈ hs u, L h + 1 ≤ L u
  at_ : ∀ u, u < n → L u = 0 ∨ ∃ h ∈ hs u, L u = L h + 1
theorem LRes.lev {n : Nat} {hs : Nat → List Nat} {out : Nat → Nat} {done : Nat → Bool} (h : LRes n hs out done n) : IsLev n hs out :=
  ⟨fun u hu => (h.ob u hu).2 (h.all u hu), fun u hu x hx => (h.ok1 u hu (h.all u hu) x hx).2, fun u hu => h.ok2 u hu (h.all u hu)⟩
/-- levels are one and the same -/
theorem IsLev.uniq {n : Nat} {hs : Nat → List Nat} {L M : Nat → Nat} (hl : ∀ k, k < n → ∀ h ∈ hs k, h < n) (h1 : IsLev n hs L) (h2 : IsLev n hs M) : ∀ u, u < n → L u = M u := by
  have key : ∀ d, ∀ u, u < n → L u = d → M u = d := by
    intro d
    induction d using Nat.strongRecOn with
    | _ d ih =>
      intro u hu hd
      have hge : d ≤ M u := by
        rcases h1.at_ u hu with h0 | ⟨x, hx, he⟩
        · omega
        · have hxn := hl u hu x hx
          have := ih (L x) (by omega) x hxn rfl
          have := h2.up u hu x hx
          omega
      rcases h2.at_ u hu with h0 | ⟨x, hx, he⟩
      · omega
      · have hxn := hl u hu x hx
        have hup := h1.up u hu x hx
        have := ih (L x) (by omega) x hxn rfl
        omega
  intro u hu
  exact (key (L u) u hu rfl).symm
/-- where some are not done, no numbers rise along what nodes hang on -/
theorem LRes.nofix {n : Nat} {hs : Nat → List Nat} {out : Nat → Nat} {done : Nat → Bool} {cnt : Nat} (h : LRes n hs out done cnt) (hl : ∀ k, k < n → ∀ h ∈ hs k, h < n) (hc : cnt < n) (F : Nat → Nat) (hF : ∀ u, u < n → ∀ h ∈ hs u, F h + 1 ≤ F u) : False := by
  obtain ⟨u, hu, hd⟩ := h.some hc
  have key : ∀ d, ∀ u, u < n → done u = false → F u = d → False := by
    intro d
    induction d using Nat.strongRecOn with
    | _ d ih =>
      intro u hu hd he
      obtain ⟨x, hx, hdx⟩ := h.no u hu hd
      have := hF u hu x hx
      exact ih (F x) (by omega) x (hl u hu x hx) hdx rfl
  exact key (F u) u hu hd rfl

def lim (r i : Nat) : Nat := r * 1048576 + i * 256
theorem lim_next (r i : Nat) : lim r (i + 1) = lim r i + 256 := by unfold lim; omega
theorem lim_round (r n : Nat) (hn : n ≤ 4096) : lim r n ≤ lim (r + 1) 0 := by unfold lim; omega
theorem lim_le (r i : Nat) (hr : r ≤ 4097) (hi : i ≤ 4096) : lim r i ≤ 8589934592 := by unfold lim; omega
/-- again and again each node is put behind those that it hangs on -/
structure BInv (n : Nat) (hs : Nat → List Nat) (r i : Nat) (p : List Nat) (out : Nat → Nat) (ch : Bool) : Prop where
  b1 : ∀ L, IsLev n hs L → ∀ u, u < n → out u ≤ L u ∧ (L u < r → out u = L u) ∧ (u < i → L u ≤ r → out u = L u)
  bp : ∀ L, IsLev n hs L → ∀ h ∈ p, out h + 1 ≤ out i
  b2 : ch = false → (∀ u, u < i → ∀ h ∈ hs u, out h + 1 ≤ out u) ∧ (∀ h ∈ p, out h + 1 ≤ out i)
  b3 : ∀ L, IsLev n hs L → r = n → ch = false
  b4 : ∀ u, u < n → out u ≤ lim r i + p.length
theorem BInv.start (n : Nat) (hs : Nat → List Nat) : BInv n hs 0 0 [] (fun _ => 0) false :=
  ⟨fun L _ u _ => ⟨Nat.zero_le _, fun h => absurd h (Nat.not_lt_zero _), fun h => absurd h (Nat.not_lt_zero _)⟩, fun _ _ _ h => (by cases h), fun _ => ⟨fun _ h => absurd h (Nat.not_lt_zero _), fun _ h => (by cases h)⟩, fun _ _ _ => rfl, fun _ _ => Nat.zero_le _⟩
theorem BInv.relax {n : Nat} {hs : Nat → List Nat} {r i : Nat} {p q : List Nat} {out : Nat → Nat} {ch : Bool} {h : Nat} (hb : BInv n hs r i p out ch) (hi : i < n) (hq : hs i = p ++ h :: q) (hl : ∀ k, k < n → ∀ h ∈ hs k, h < n) (hc : out i < out h + 1) : BInv n hs r i (p ++ [h]) (upd out i (out h + 1)) true := by
  have hm : h ∈ hs i := by rw [hq]; simp
  have hh := hl i hi h hm
  refine ⟨?_, ?_, fun e => (by cases e), ?_, ?_⟩
  · intro L hL u hu
    have := hb.b1 L hL u hu
    by_cases e : u = i
    · subst e
      rw [upd_same]
      have h1 := hb.b1 L hL h hh
      have h2 := hL.up u hu h hm
      refine ⟨by omega, fun h3 => ?_, fun h3 => absurd h3 (Nat.lt_irrefl _)⟩
      have := this.2.1 h3
      have := h1.1
      omega
    · rw [upd_ne _ _ e]
      exact this
  · intro L hL x hx
    rw [upd_same]
    have hxi : x ≠ i := by
      rintro rfl
      have hxm : x ∈ hs x := by
        rw [hq]
        rcases List.mem_append.1 hx with h1 | h1
        · exact List.mem_append_left _ h1
        · rw [List.mem_singleton.1 h1]; simp
      have := hL.up x hi x hxm
      omega
    rw [upd_ne _ _ hxi]
    rcases List.mem_append.1 hx with h1 | h1
    · have := hb.bp L hL x h1
      omega
    · rw [List.mem_singleton.1 h1]; exact Nat.le_refl _
  · intro L hL er
    exfalso
    have h1 := hb.b1 L hL i hi
    have h2 := hb.b1 L hL h hh
    have h3 := hL.up i hi h hm
    have := hL.lt i hi
    have := h1.2.1 (by omega)
    have := h2.1
    omega
  · intro u hu
    rw [List.length_append, List.length_singleton]
    by_cases e : u = i
    · subst e
      rw [upd_same]
      have := hb.b4 h hh
      omega
    · rw [upd_ne _ _ e]
      have := hb.b4 u hu
      omega
theorem BInv.stay {n : Nat} {hs : Nat → List Nat} {r i : Nat} {p : List Nat} {out : Nat → Nat} {ch : Bool} {h : Nat} (hb : BInv n hs r i p out ch) (hc : ¬ out i < out h + 1) : BInv n hs r i (p ++ [h]) out ch := by
  refine ⟨hb.b1, ?_, ?_, hb.b3, ?_⟩
  · intro L hL x hx
    rcases List.mem_append.1 hx with h1 | h1
    · exact hb.bp L hL x h1
    · rw [List.mem_singleton.1 h1]; omega
  · intro e
    refine ⟨(hb.b2 e).1, fun x hx => ?_⟩
    rcases List.mem_append.1 hx with h1 | h1
    · exact (hb.b2 e).2 x h1
    · rw [List.mem_singleton.1 h1]; omega
  · intro u hu
    rw [List.length_append]
    have := hb.b4 u hu
    omega
theorem BInv.next {n : Nat} {hs : Nat → List Nat} {r i : Nat} {out : Nat → Nat} {ch : Bool} (hb : BInv n hs r i (hs i) out ch) (hi : i < n) (hlen : (hs i).length ≤ 256) (hl : ∀ k, k < n → ∀ h ∈ hs k, h < n) : BInv n hs r (i + 1) [] out ch := by
  refine ⟨?_, fun _ _ _ h => (by cases h), ?_, hb.b3, ?_⟩
  · intro L hL u hu
    have := hb.b1 L hL u hu
    refine ⟨this.1, this.2.1, fun h1 h2 => ?_⟩
    by_cases e : u = i
    · subst e
      rcases hL.at_ u hu with h0 | ⟨x, hx, he⟩
      · omega
      · have h3 := hb.bp L hL x hx
        have h4 := (hb.b1 L hL x (hl u hu x hx)).2.1 (by omega)
        omega
    · exact this.2.2 (by omega) h2
  · intro e
    refine ⟨fun u hu x hx => ?_, fun _ h => (by cases h)⟩
    by_cases e2 : u = i
    · subst e2; exact (hb.b2 e).2 x hx
    · exact (hb.b2 e).1 u (by omega) x hx
  · intro u hu
    have := hb.b4 u hu
    rw [List.length_nil, lim_next]
    omega
theorem BInv.round {n : Nat} {hs : Nat → List Nat} {r : Nat} {out : Nat → Nat} {ch : Bool} (hb : BInv n hs r n [] out ch) (hn : n ≤ 4096) : BInv n hs (r + 1) 0 [] out false := by
  refine ⟨?_, fun _ _ _ h => (by cases h), fun _ => ⟨fun _ h => absurd h (Nat.not_lt_zero _), fun _ h => (by cases h)⟩, fun _ _ _ => rfl, ?_⟩
  · intro L hL u hu
    have := hb.b1 L hL u hu
    exact ⟨this.1, fun h => this.2.2 hu (by omega), fun h => absurd h (Nat.not_lt_zero _)⟩
  · intro u hu
    have := hb.b4 u hu
    have := lim_round r n hn
    rw [List.length_nil] at *
    omega
theorem BInv.fixed {n : Nat} {hs : Nat → List Nat} {r : Nat} {out : Nat → Nat} (hb : BInv n hs r n [] out false) : (∀ u, u < n → ∀ h ∈ hs u, out h + 1 ≤ out u) ∧ ∀ L, IsLev n hs L → (∀ k, k < n → ∀ h ∈ hs k, h < n) → ∀ u, u < n → out u = L u := by
  have hf := (hb.b2 rfl).1
  refine ⟨hf, fun L hL hl => ?_⟩
  have key : ∀ d, ∀ u, u < n → L u = d → d ≤ out u := by
    intro d
    induction d using Nat.strongRecOn with
    | _ d ih =>
      intro u hu hd
      rcases hL.at_ u hu with h0 | ⟨x, hx, he⟩
      · omega
      · have := ih (L x) (by omega) x (hl u hu x hx) rfl
        have := hf u hu x hx
        omega
  intro u hu
  have h1 := key (L u) u hu rfl
  have h2 := (hb.b1 L hL u hu).1
  omega
end Go.Proofs.YtonnmkhmhndalaaDoor
namespace Go.Proofs.YtonnmkhmhndalaaDoor
set_option linter.unusedVariables false
set_option linter.unusedSimpArgs false

/-- nodes are a loop, each once -/
structure Looped (n : Nat) (hs : Nat → List Nat) (p : List Nat) : Prop where
  ne : p ≠ []
  nd : p.Nodup
  lt : ∀ x ∈ p, x < n
  ho : ∀ j, j < p.length → p.getD ((j + 1) % p.length) 0 ∈ hs (p.getD j 0)
/-- a way so far, and where it goes on -/
structure LPath (n : Nat) (hs : Nat → List Nat) (done : Nat → Bool) (p : List Nat) (k : Nat) : Prop where
  nd : p.Nodup
  lt : ∀ x ∈ p, x < n ∧ done x = false
  kn : k < n ∧ done k = false
  st : ∀ j, j + 1 < p.length → p.getD (j + 1) 0 ∈ hs (p.getD j 0)
  la : p ≠ [] → k ∈ hs (p.getD (p.length - 1) 0)
theorem getD_snoc (p : List Nat) (k j : Nat) : (p ++ [k]).getD j 0 = if j < p.length then p.getD j 0 else if j = p.length then k else 0 := by
  rw [List.getD_eq_getElem?_getD]
  by_cases h : j < p.length
  · rw [if_pos h, List.getElem?_append_left h, List.getD_eq_getElem?_getD]
  · rw [if_neg h, List.getElem?_append_right (by omega)]
    by_cases e : j = p.length
    · subst e; rw [if_pos rfl, Nat.sub_self]; rfl
    · rw [if_neg e, List.getElem?_eq_none (by simp; omega)]; rfl
theorem LPath.step {n : Nat} {hs : Nat → List Nat} {done : Nat → Bool} {p : List Nat} {k u : Nat} (h : LPath n hs done p k) (hk : k ∉ p) (hu : u ∈ hs k) (hn : u < n ∧ done u = false) : LPath n hs done (p ++ [k]) u := by
  refine ⟨?_, ?_, hn, ?_, fun _ => ?_⟩
  · refine List.nodup_append.2 ⟨h.nd, by simp, ?_⟩
    intro a ha b hb
    rw [List.mem_singleton.1 hb]
    rintro rfl
    exact hk ha
  · intro x hx
    rcases List.mem_append.1 hx with h1 | h1
    · exact h.lt x h1
    · rw [List.mem_singleton.1 h1]; exact h.kn
  · intro j hj
    rw [List.length_append, List.length_singleton] at hj
    rw [getD_snoc, getD_snoc, if_pos (show j < p.length by omega)]
    by_cases e : j + 1 < p.length
    · rw [if_pos e]; exact h.st j e
    · rw [if_neg e, if_pos (by omega)]
      have hne : p ≠ [] := fun e => by subst e; simp at hj
      have := h.la hne
      rw [show p.length - 1 = j by omega] at this
      exact this
  · rw [List.length_append, List.length_singleton, getD_snoc, if_neg (by omega), if_pos (by omega)]
    exact hu
theorem getD_drop (p : List Nat) (a j : Nat) : (p.drop a).getD j 0 = p.getD (a + j) 0 := by
  rw [List.getD_eq_getElem?_getD, List.getD_eq_getElem?_getD, List.getElem?_drop]
theorem LPath.loop {n : Nat} {hs : Nat → List Nat} {done : Nat → Bool} {p : List Nat} {k a : Nat} (h : LPath n hs done p k) (ha : a < p.length) (hk : p.getD a 0 = k) : Looped n hs (p.drop a) := by
  have hl : (p.drop a).length = p.length - a := List.length_drop
  refine ⟨fun e => ?_, h.nd.sublist (List.drop_sublist _ _), fun x hx => (h.lt x (List.mem_of_mem_drop hx)).1, fun j hj => ?_⟩
  · rw [e] at hl
    simp at hl
    omega
  · rw [hl] at hj ⊢
    rw [getD_drop, getD_drop]
    by_cases e : j + 1 < p.length - a
    · rw [Nat.mod_eq_of_lt e]
      exact h.st (a + j) (by omega)
    · have e1 : j + 1 = p.length - a := by omega
      rw [e1, Nat.mod_self, Nat.add_zero, hk, show a + j = p.length - 1 by omega]
      exact h.la (fun e => by subst e; simp at ha)
theorem LPath.start {n : Nat} {hs : Nat → List Nat} {done : Nat → Bool} {k : Nat} (hk : k < n ∧ done k = false) : LPath n hs done [] k :=
  ⟨List.nodup_nil, fun _ h => (by cases h), hk, fun _ h => absurd h (Nat.not_lt_zero _), fun h => absurd rfl h⟩
/-- where a node stands on the way, or that it doesn't -/
def atN (p : List Nat) (x : Nat) : Option Int := if x ∈ p then some (p.idxOf x : Int) else none
theorem atN_nil : atN [] = fun _ => none := by funext x; unfold atN; rw [if_neg (by simp)]
theorem atN_snoc (p : List Nat) (k : Nat) (hk : k ∉ p) : upd (atN p) k (some (p.length : Int)) = atN (p ++ [k]) := by
  funext x
  unfold upd atN
  by_cases e : x = k
  · subst e
    rw [if_pos rfl, if_pos (by simp), List.idxOf_append, if_neg hk]
    simp
  · rw [if_neg e]
    by_cases h : x ∈ p
    · rw [if_pos h, if_pos (List.mem_append_left _ h), List.idxOf_append, if_pos h]
    · rw [if_neg h, if_neg (by
        intro h1
        rcases List.mem_append.1 h1 with h2 | h2
        · exact h h2
        · exact e (List.mem_singleton.1 h2))]
theorem idx_at (p : List Nat) (k : Nat) (h : k ∈ p) : p.idxOf k < p.length ∧ p.getD (p.idxOf k) 0 = k := by
  have hl := List.idxOf_lt_length_iff.2 h
  refine ⟨hl, ?_⟩
  rw [List.getD_eq_getElem?_getD, List.getElem?_eq_getElem hl]
  exact List.getElem_idxOf hl
end Go.Proofs.YtonnmkhmhndalaaDoor
