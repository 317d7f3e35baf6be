/- What a run of the directives does, on lists; how a run lies in memory. The contracts of no, kept and name; how a run's words move. The contracts of kept, last, put. The contract of put: the token stands at the row's end, or the run ends. The contract of turns (an else). -/
import Derived.Test.YtimcmhfcmnooeaaLx0
import Derived.WalkSpells
import Derived.WalkLawsBesides
import Derived.Outline
import Derived.Deep.QuietTactic
import Derived.BigQuiet
import Derived.Deep.RegionWith
import Derived.Lib.Hide
import Derived.Handy
import Derived.StillTailTactics
import Derived.Deep.RegionLaw
import Derived.Deep.RegionHeld3
import Derived.Maps.Own
import Derived.Maps.OwnSet
import Derived.Maps.AppendAt
import Derived.Deep.AppendLies
namespace Go.Proofs.Ytimcmhfcmnooeaa
set_option linter.unusedVariables false
set_option linter.unusedSimpArgs false
open Go.RowKit Go.Proofs.YtimcmhfcmnooeaaW.PrintWords Go.Proofs.YtimcmhfcmnooeaaW.PrintLast Go.Proofs.YtimcmhfcmnooeaaW.PrintMore

abbrev pan (a e : Int) : Ending := .panicked [{ v := .iface 41 (.agg #[.int .i64 a, .int .i64 e]), recovered := false }]

theorem no_any (a e : Int) (w : World) : Calls Try.prog 16 #[.int .i64 a, .int .i64 e] w fun en w' => en = pan a e ∧ w = w' := by
  go_enter Try.func16, Try.ntmps16
  go_wp2
  exact ⟨rfl, rfl, rfl⟩

/-- what stands between an ifdef and its endif -/
structure Part where
  at_ : Int
  keep : Bool
  behind : Bool
  around : Bool
instance : Inhabited Part := ⟨⟨0, false, false, false⟩⟩
def Part.cl (p : Part) : List Value := [.int .i64 p.at_, .bool p.keep, .bool p.behind, .bool p.around]
def pflat (L : List Part) : List Value := L.flatMap Part.cl
def tcl (x : S35) : List Value := [.int .i64 x.f0, .string x.f1, .int .i64 x.f2]
def tflat (L : List S35) : List Value := L.flatMap tcl

theorem flatMap_len {α : Type} (f : α → List Value) (m : Nat) (hf : ∀ x, (f x).length = m) (L : List α) : (L.flatMap f).length = L.length * m := by
  induction L with
  | nil => simp
  | cons x L ih => simp only [List.flatMap_cons, List.length_append, hf, ih, List.length_cons, Nat.add_mul]; omega
theorem pflat_len (L : List Part) : (pflat L).length = L.length * 4 := flatMap_len _ 4 (fun _ => rfl) L
theorem tflat_len (L : List S35) : (tflat L).length = L.length * 3 := flatMap_len _ 3 (fun _ => rfl) L
theorem flatMap_get {α : Type} (f : α → List Value) (m : Nat) (hf : ∀ x, (f x).length = m) (L : List α) : ∀ (i : Nat) (x : α), L[i]? = some x → ∀ k, k < m → (L.flatMap f)[i * m + k]? = (f x)[k]? := by
  induction L with
  | nil => intro i x h; simp at h
  | cons y L ih =>
    intro i x h k hk
    simp only [List.flatMap_cons]
    cases i with
    | zero =>
      simp at h; subst h
      rw [List.getElem?_append_left (by rw [hf]; omega), Nat.zero_mul, Nat.zero_add]
    | succ i =>
      rw [List.getElem?_append_right (by rw [hf, Nat.add_mul]; omega), hf, show (i + 1) * m + k - m = i * m + k from by rw [Nat.add_mul]; omega]
      exact ih i x (by simpa using h) k hk

/-- the state of a run: tokens to come, words, parts, tokens kept, fuel -/
structure St where
  l : List S35
  words : List (ByteArray × List S35)
  parts : List Part
  out : List S35
  fuel : Int

abbrev Res (α : Type) := Except (Int × Int) α

def lookW (ws : List (ByteArray × List S35)) (s : ByteArray) : Option (List S35) := (ws.find? (fun p => p.1 == s)).map (·.2)
def keptF (s : St) : Bool := match s.parts.getLast? with
  | none => true
  | some p => p.keep
def putF (t : S35) (s : St) : Res St := if 16384 ≤ s.out.length then .error (t.f2, 2) else .ok { s with out := s.out ++ [t] }
def nameF (a : Int) (s : St) : Res (ByteArray × St) := match s.l with
  | [] => .error (a, 30)
  | x :: r => if x.f0 = 1 then .ok (x.f1, { s with l := r }) else .error (a, 30)
def beginsF (t : S35) (there : Bool) (s : St) : Res St := match nameF t.f2 s with
  | .error e => .error e
  | .ok (nm, s1) => .ok { s1 with parts := s1.parts ++ [⟨t.f2, keptF s && ((lookW s1.words nm).isSome == there), false, keptF s⟩] }
def turnsF (a : Int) (s : St) : Res St := match s.parts.getLast? with
  | none => .error (a, 30)
  | some p => if p.behind = true then .error (a, 30) else .ok { s with parts := s.parts.dropLast ++ [{ p with behind := true, keep := p.around && !p.keep }] }
def notEnd (x : S35) : Bool := x.f0 != 5 && x.f0 != 6
def defineF (a : Int) (s : St) : Res St := match nameF a s with
  | .error e => .error e
  | .ok (nm, s1) => .ok { s1 with words := (nm, s1.l.takeWhile notEnd) :: s1.words, l := s1.l.dropWhile notEnd }
def undefF (a : Int) (s : St) : Res St := match nameF a s with
  | .error e => .error e
  | .ok (nm, s1) => .ok { s1 with words := s1.words.filter (fun p => !(p.1 == nm)) }
def sDefine : ByteArray := ⟨#[100, 101, 102, 105, 110, 101]⟩
def sUndef : ByteArray := ⟨#[117, 110, 100, 101, 102]⟩
def sIfdef : ByteArray := ⟨#[105, 102, 100, 101, 102]⟩
def sIfndef : ByteArray := ⟨#[105, 102, 110, 100, 101, 102]⟩
def sElse : ByteArray := ⟨#[101, 108, 115, 101]⟩
def sEndif : ByteArray := ⟨#[101, 110, 100, 105, 102]⟩
def isDir (s : ByteArray) : Bool := s == sDefine || s == sUndef || s == sIfdef || s == sIfndef || s == sElse || s == sEndif
def useL (rec : ByteArray → St → Res St) (a : Int) : List S35 → St → Res St
  | [], s => .ok s
  | t :: r, s =>
    if s.fuel + 1 > 4096 then .error (a, 31) else
    if t.f0 = 4 then
      if isDir t.f1 then .error (a, 30) else
      match rec t.f1 { s with fuel := s.fuel + 1 } with
      | .error e => .error e
      | .ok s1 => useL rec a r s1
    else match putF ⟨t.f0, t.f1, a⟩ { s with fuel := s.fuel + 1 } with
      | .error e => .error e
      | .ok s1 => useL rec a r s1
def useF : Nat → Int → ByteArray → St → Res St
  | 0, a, _, _ => .error (a, 31)
  | k + 1, a, nm, s => match lookW s.words nm with
    | none => .error (a, 30)
    | some body => useL (useF k a) a body s
def tickF (t : S35) (s : St) : Res St :=
  if t.f1 == sIfdef then beginsF t true s else
  if t.f1 == sIfndef then beginsF t false s else
  if t.f1 == sElse then turnsF t.f2 s else
  if t.f1 == sEndif then (match s.parts with
    | [] => .error (t.f2, 30)
    | _ => .ok { s with parts := s.parts.dropLast }) else
  if keptF s = false then .ok s else
  if t.f1 == sDefine then defineF t.f2 s else
  if t.f1 == sUndef then undefF t.f2 s else
  useF 4097 t.f2 t.f1 { s with fuel := 0 }
def stepF (t : S35) (s : St) : Res St :=
  if t.f0 = 4 then tickF t s else if t.f0 = 5 then .ok s else if keptF s then putF t s else .ok s
def runL : Nat → St → Res St
  | 0, s => .ok s
  | k + 1, s => match s.l with
    | [] => .ok s
    | t :: r => if t.f0 = 6 then .ok s else match stepF t { s with l := r } with
      | .error e => .error e
      | .ok s1 => runL k s1
def runF (l : List S35) : List S35 × List S31 :=
  match l.getLast? with
  | none => ([], [⟨0, 1⟩])
  | some x => if x.f0 = 6 then
      match runL l.length ⟨l, [], [], [], 0⟩ with
      | .error e => ([], [⟨e.1, e.2⟩])
      | .ok s => match s.parts with
        | p :: _ => ([], [⟨p.at_, 30⟩])
        | [] => (s.out ++ s.l.take 1, [])
    else ([], [⟨0, 1⟩])

/-- The tokens L lie in block b. -/
def SrcAt (w : World) (b : Nat) (L : List S35) : Prop := ∀ i x, L[i]? = some x →
  w.cell? ⟨b, i * 3, none⟩ = some (.int .i64 x.f0) ∧ w.cell? ⟨b, i * 3 + 1, none⟩ = some (.string x.f1) ∧ w.cell? ⟨b, i * 3 + 2, none⟩ = some (.int .i64 x.f2)

def RV (v : Value) : Option (DataW Value × List MemPlace) := some (.held v, [])

def WRel (L0 : List S35) (b : Nat) (D : DataW Value) (ws : List (ByteArray × List S35)) : Prop :=
  ∀ s : ByteArray, match lookW ws s with
    | none => Maps.has D (.string s.data.toList) = false
    | some body => Maps.has D (.string s.data.toList) = true ∧ ∃ i n, i + n < L0.length ∧ body = (L0.drop i).take n ∧ ∀ z, D.atKey (.string s.data.toList) z = .held (.slice (some ⟨b, i * 3, none⟩) n n)

/-- The last token, and no other, is an end. -/
def Ends (L0 : List S35) : Prop := ∀ (i : Nat) (x : S35), L0[i]? = some x → (x.f0 ≠ 6 → i + 1 < L0.length)

/-- A run at block g, made from base on, over the tokens L0 in block b. -/
structure PS (L0 : List S35) (b c0 base g : Nat) (w : World) (s : St) (i B n : Nat) (D : DataW Value) (pv ov : Value) : Prop where
  hi : i < L0.length
  hl : s.l = L0.drop i
  hc : L0.length ≤ c0
  hm : c0 ≤ maxLen
  blk : w.heap[g]? = some (.cells #[.slice (some ⟨b, i * 3, none⟩) (L0.length - i) (c0 - i), .map (some B), pv, ov, .int .i64 s.fuel] 46 (0, 0))
  src : SrcAt w b L0
  low : b < base
  map : w.ownsMap Try.prog 9 RV B n D
  hn : n ≤ i
  wrel : WRel L0 b D s.words
  parts : w.ownsRow base 50 4 pv s.parts.length (pflat s.parts)
  out : w.ownsRow base 35 3 ov s.out.length (tflat s.out)
  bg : base ≤ g
  bB : base ≤ B
def PSx (L0 : List S35) (b c0 base g : Nat) (w : World) (s : St) : Prop := ∃ i B n D pv ov, PS L0 b c0 base g w s i B n D pv ov
end Go.Proofs.Ytimcmhfcmnooeaa
namespace Go.Proofs.Ytimcmhfcmnooeaa
set_option linter.unusedVariables false
set_option linter.unusedSimpArgs false
open Go.RowKit Go.Proofs.YtimcmhfcmnooeaaW.PrintWords Go.Proofs.YtimcmhfcmnooeaaW.PrintLast Go.Proofs.YtimcmhfcmnooeaaW.PrintMore

theorem blk_set {w : World} {g : Nat} {t : TypeId} {cs : Array Value} (h : w.heap[g]? = some (.cells cs t (0, 0))) (i : Nat) (u : Value) : (w.setCell ⟨g, i, none⟩ u).heap[g]? = some (.cells (cs.setIfInBounds i u) t (0, 0)) := by
  simp [World.setCell, Array.getElem?_modify, h]
theorem blk_cell {w : World} {g : Nat} {t : TypeId} {cs : Array Value} (h : w.heap[g]? = some (.cells cs t (0, 0))) (i : Nat) : w.cell? ⟨g, i, none⟩ = cs[i]? := cell_of_row w g i cs t (0, 0) h
theorem blk_frozen {w : World} {g : Nat} {t : TypeId} {cs : Array Value} (h : w.heap[g]? = some (.cells cs t (0, 0))) (i : Nat) : w.frozen? ⟨g, i, none⟩ = false := by simp [World.frozen?, h]

theorem own_ne_blk {w : World} {base : Nat} {e t : TypeId} {size n g : Nat} {v : Value} {xs : List Value} {cs : Array Value} (h : w.ownsRow base e size v n xs) (hg : w.heap[g]? = some (.cells cs t (0, 0))) (hne : e ≠ t) : some g ≠ v.ownBlock := by
  rcases h.2 with ⟨rfl, _⟩ | ⟨g', cap, cur, rfl, _, hh, _⟩
  · simp [Value.ownBlock]
  · intro he
    have : g = g' := by simpa [Value.ownBlock] using he
    subst this
    rw [hg] at hh
    injection hh with hh
    injection hh with _ ht
    exact hne ht.symm
theorem own_setCell' {w : World} {base : Nat} {e : TypeId} {size n : Nat} {v : Value} {xs : List Value} (h : w.ownsRow base e size v n xs) {p : Addr} (hne : some p.block ≠ v.ownBlock) (u : Value) : (w.setCell p u).ownsRow base e size v n xs := by
  obtain ⟨h1, h2⟩ := h
  refine ⟨h1, ?_⟩
  rcases h2 with h2 | ⟨g, cap, cur, rfl, hg, hh, r⟩
  · exact .inl h2
  · exact .inr ⟨g, cap, cur, rfl, hg, by rw [Below.heap_setCell _ _ _ _ (fun e => hne (by rw [e]; rfl))]; exact hh, r⟩

theorem drop_head {L : List S35} {i : Nat} (h : i < L.length) : ∃ x, L[i]? = some x ∧ L.drop i = x :: L.drop (i + 1) :=
  ⟨L[i], List.getElem?_eq_getElem h, (List.drop_eq_getElem_cons h)⟩

theorem SrcAt.below {w w' : World} {b base : Nat} {L : List S35} (h : SrcAt w b L) (hb : Below base w w') (hl : b < base) : SrcAt w' b L := fun i x hx => by
  obtain ⟨h0, h1, h2⟩ := h i x hx
  exact ⟨(hb.cell (p := ⟨b, i * 3, none⟩) hl).trans h0, (hb.cell (p := ⟨b, i * 3 + 1, none⟩) hl).trans h1, (hb.cell (p := ⟨b, i * 3 + 2, none⟩) hl).trans h2⟩

section
variable {L0 : List S35} {b c0 base g : Nat} {w : World} {s : St} {i B n : Nat} {D : DataW Value} {pv ov : Value}
theorem PS.gB (H : PS L0 b c0 base g w s i B n D pv ov) : B ≠ g := by
  obtain ⟨es, clock, hb, _⟩ := H.map
  rintro rfl
  rw [H.blk] at hb
  injection hb with hb
  cases hb
theorem PS.glt (H : PS L0 b c0 base g w s i B n D pv ov) : g < w.heap.size := (Array.getElem?_eq_some_iff.1 H.blk).1
theorem PS.base_le (H : PS L0 b c0 base g w s i B n D pv ov) : base ≤ w.heap.size := Nat.le_of_lt (Nat.lt_of_le_of_lt H.bg H.glt)
theorem PS.upd (H : PS L0 b c0 base g w s i B n D pv ov) (k : Nat) (u : Value) (s' : St) (j : Nat) (hj : i ≤ j) (hjl : j < L0.length) (hl : s'.l = L0.drop j)
    (hblk : (#[.slice (some ⟨b, i * 3, none⟩) (L0.length - i) (c0 - i), .map (some B), pv, ov, .int .i64 s.fuel] : Array Value).setIfInBounds k u = #[.slice (some ⟨b, j * 3, none⟩) (L0.length - j) (c0 - j), .map (some B), pv, ov, .int .i64 s'.fuel])
    (hw : s'.words = s.words) (hp : s'.parts = s.parts) (ho : s'.out = s.out) : PS L0 b c0 base g (w.setCell ⟨g, k, none⟩ u) s' j B n D pv ov where
  hi := hjl
  hl := hl
  hc := H.hc
  hm := H.hm
  blk := by rw [blk_set H.blk, hblk]
  src := H.src.below ((Below.refl base w).setCell (p := ⟨g, k, none⟩) H.bg u) H.low
  low := H.low
  map := H.map.setCell H.gB u
  hn := Nat.le_trans H.hn hj
  wrel := hw ▸ H.wrel
  parts := hp ▸ own_setCell' H.parts (own_ne_blk H.parts H.blk (by decide)) u
  out := ho ▸ own_setCell' H.out (own_ne_blk H.out H.blk (by decide)) u
  bg := H.bg
  bB := H.bB
theorem PS.drew (H : PS L0 b c0 base g w s i B n D pv ov) : PS L0 b c0 base g w.drew s i B n D pv ov := ⟨H.hi, H.hl, H.hc, H.hm, H.blk, H.src, H.low, H.map, H.hn, H.wrel, H.parts, H.out, H.bg, H.bB⟩
theorem PS.drewN (H : PS L0 b c0 base g w s i B n D pv ov) (m : Nat) : PS L0 b c0 base g (w.drewN m) s i B n D pv ov := ⟨H.hi, H.hl, H.hc, H.hm, H.blk, H.src, H.low, H.map, H.hn, H.wrel, H.parts, H.out, H.bg, H.bB⟩
/-- nothing of it has turned -/
theorem PS.kept (H : PS L0 b c0 base g w s i B n D pv ov) {w' : World} (hb : Below w.heap.size w w') : PS L0 b c0 base g w' s i B n D pv ov where
  hi := H.hi
  hl := H.hl
  hc := H.hc
  hm := H.hm
  blk := (hb.block g H.glt).trans H.blk
  src := H.src.below hb (Nat.lt_of_lt_of_le H.low H.base_le)
  low := H.low
  map := H.map.kept (grown_of_below hb none) (by simp)
  hn := H.hn
  wrel := H.wrel
  parts := pw_own_below H.parts hb
  out := pw_own_below H.out hb
  bg := H.bg
  bB := H.bB
end

set_option maxHeartbeats 1000000 in
theorem name_ok (L0 : List S35) (b c0 base g : Nat) (w : World) (s : St) (a : Int) (hL : L0.length ≤ 20000) (hE : Ends L0) (i B n : Nat) (D : DataW Value) (pv ov : Value) (H : PS L0 b c0 base g w s i B n D pv ov) (nm : ByteArray) (s1 : St) (hm : nameF a s = .ok (nm, s1)) :
    Calls Try.prog 25 #[.pointer (some ⟨g, 0, none⟩), .int .i64 a] w fun e w' => e = .returned (.string nm) ∧ PS L0 b c0 base g w' s1 (i + 1) B n D pv ov ∧ w' = w.setCell ⟨g, 0, none⟩ (.slice (some ⟨b, i * 3 + 3, none⟩) (L0.length - i - 1) (c0 - i - 1)) := by
  obtain ⟨x, hx, hd⟩ := drop_head H.hi
  have hl := H.hl
  rw [hd] at hl
  simp only [nameF, hl] at hm
  split at hm
  · rename_i h1
    injection hm with hm
    injection hm with e1 e2
    obtain ⟨x0, x1, x2⟩ := H.src i x hx
    have c0' := blk_cell H.blk 0
    have f0' := blk_frozen H.blk 0
    have hlt : i + 1 < L0.length := hE i x hx (by rw [h1]; decide)
    have hcap := H.hc
    rw [h1] at x0
    subst e1
    have HE := Lib.hid e2
    have HL := Lib.hid hl
    have Hx := Lib.hid hx
    have HD := Lib.hid hd
    have HH := Lib.hid H
    clear e2 hl hx hd H h1
    have hcm : c0 ≤ 9223372036854775807 := by have := HH.out.hm; simpa [maxLen] using this
    go_enter Try.func25, Try.ntmps25
    go_wp2
    go_ret
    refine ⟨rfl, HH.out.upd 0 _ s1 (i + 1) (by omega) hlt (by rw [← HE.out]) ?_ (by rw [← HE.out]) (by rw [← HE.out]) (by rw [← HE.out]), rfl⟩
    rw [← HE.out, show (i + 1) * 3 = i * 3 + 3 from by omega, show L0.length - (i + 1) = L0.length - i - 1 from by omega, show c0 - (i + 1) = c0 - i - 1 from by omega]
    rfl
  · cases hm

set_option maxHeartbeats 1000000 in
theorem name_no (L0 : List S35) (b c0 base g : Nat) (w : World) (s : St) (a : Int) (hL : L0.length ≤ 20000) (i B n : Nat) (D : DataW Value) (pv ov : Value) (H : PS L0 b c0 base g w s i B n D pv ov) (e2 : Int × Int) (hm : nameF a s = .error e2) :
    Calls Try.prog 25 #[.pointer (some ⟨g, 0, none⟩), .int .i64 a] w fun e w' => e = pan e2.1 e2.2 ∧ w = w' := by
  obtain ⟨x, hx, hd⟩ := drop_head H.hi
  have hl := H.hl
  rw [hd] at hl
  simp only [nameF, hl] at hm
  split at hm
  · cases hm
  · rename_i h1
    injection hm with hm
    subst hm
    obtain ⟨x0, x1, x2⟩ := H.src i x hx
    have c0' := blk_cell H.blk 0
    have hlt : i < L0.length := H.hi
    have hcap := H.hc
    have h1' : (x.f0 != 1) = true := by simpa using h1
    have h1'' : (x.f0 == 1) = false := by simpa using h1
    have HH := Lib.hid H
    clear hl hx hd H h1
    have hcm : c0 ≤ 9223372036854775807 := by have := HH.out.hm; simpa [maxLen] using this
    go_enter Try.func25, Try.ntmps25
    go_wp2_with fail
    with_reducible refine (no_any a 30 _).mono ?_
    rintro e w' ⟨rfl, rfl⟩
    go_wp2
    exact ⟨rfl, rfl, rfl⟩
end Go.Proofs.Ytimcmhfcmnooeaa
namespace Go.Proofs.Ytimcmhfcmnooeaa
set_option linter.unusedVariables false
set_option linter.unusedSimpArgs false
open Go.RowKit Go.Proofs.YtimcmhfcmnooeaaW.PrintWords Go.Proofs.YtimcmhfcmnooeaaW.PrintLast Go.Proofs.YtimcmhfcmnooeaaW.PrintMore

/-- the parts' row -/
theorem parts_row {w : World} {base : Nat} {pv : Value} {ps : List Part} (h : w.ownsRow base 50 4 pv ps.length (pflat ps)) : 
    ∃ A c, pv = .slice A ps.length c ∧ ps.length ≤ c ∧ c ≤ maxLen ∧ (ps ≠ [] → ∃ pb, A = some ⟨pb, 0, none⟩ ∧ base ≤ pb ∧ ∀ i p, ps[i]? = some p → w.cell? ⟨pb, i * 4, none⟩ = some (.int .i64 p.at_) ∧ w.cell? ⟨pb, i * 4 + 1, none⟩ = some (.bool p.keep) ∧ w.cell? ⟨pb, i * 4 + 2, none⟩ = some (.bool p.behind) ∧ w.cell? ⟨pb, i * 4 + 3, none⟩ = some (.bool p.around)) := by
  rcases h.2 with ⟨rfl, hn⟩ | ⟨pb, c, cur, rfl, hb, hh, h1, h2, h3, h4⟩
  · exact ⟨none, 0, by rw [hn], by omega, by simp [maxLen], fun hne => absurd (List.length_eq_zero_iff.1 hn) hne⟩
  · refine ⟨_, c, rfl, h1, h2, fun _ => ⟨pb, rfl, hb, fun i p hp => ?_⟩⟩
    have hc : ∀ j u, (pflat ps)[j]? = some u → w.cell? ⟨pb, j, none⟩ = some u := fun j u hu => by have := h.cells (g := pb) rfl j u hu; rwa [add_plain] at this
    have hf := flatMap_get Part.cl 4 (fun _ => rfl) ps i p hp
    exact ⟨hc _ _ (hf 0 (by omega)), hc _ _ (hf 1 (by omega)), hc _ _ (hf 2 (by omega)), hc _ _ (hf 3 (by omega))⟩

theorem getLast_at {α : Type} {l : List α} {p : α} (h : l.getLast? = some p) : l ≠ [] ∧ l[l.length - 1]? = some p := by
  rw [List.getLast?_eq_getElem?] at h
  exact ⟨by rintro rfl; simp at h, h⟩

set_option maxHeartbeats 1000000 in
theorem kept_any (L0 : List S35) (b c0 base g : Nat) (w : World) (s : St) (i B n : Nat) (D : DataW Value) (pv ov : Value) (H : PS L0 b c0 base g w s i B n D pv ov) :
    Calls Try.prog 14 #[.pointer (some ⟨g, 0, none⟩)] w fun e w' => e = .returned (.bool (keptF s)) ∧ ∃ m, w' = w.drewN m := by
  obtain ⟨A, c, rfl, hlc, hcm, hr⟩ := parts_row H.parts
  have c2 := blk_cell H.blk 2
  clear H
  unfold maxLen at hcm
  cases hp : s.parts.getLast? with
  | none =>
    have hk : keptF s = true := by simp [keptF, hp]
    have hp0 : s.parts = [] := by simpa using hp
    rw [hk]
    rw [hp0] at c2
    clear hr hlc hk hp hp0
    have hz : (((0 : Nat) : Int) == 0) = true := rfl
    go_enter Try.func14, Try.ntmps14
    go_wp2
    go_quiet (fail)
    go_wp2
    go_ret
    exact ⟨rfl, nq, rfl⟩
  | some p =>
    have hk : keptF s = p.keep := by simp [keptF, hp]
    obtain ⟨hne, hat⟩ := getLast_at hp
    obtain ⟨pb, rfl, hpb, hcell⟩ := hr hne
    obtain ⟨h0, h1, h2, h3⟩ := hcell _ _ hat
    have hpos : 0 < s.parts.length := List.length_pos_iff.2 hne
    rw [hk]
    generalize hln : s.parts.length = ln at *
    clear hcell hk hp hne hat hr hln
    obtain ⟨m, rfl⟩ : ∃ m, ln = m + 1 := ⟨ln - 1, by omega⟩
    rw [Nat.add_sub_cancel] at h0 h1 h2 h3
    have hz : (((m + 1 : Nat) : Int) == 0) = false := by rw [beq_eq_false_iff_ne]; omega
    have hz2 : ((m : Int) + 1 == 0) = false := by rw [beq_eq_false_iff_ne]; omega
    go_enter Try.func14, Try.ntmps14
    go_wp2
    go_quiet (fail)
    go_wp2
    go_ret
    exact ⟨rfl, nq, rfl⟩

theorem last_no (L0 : List S35) (b c0 base g : Nat) (w : World) (s : St) (a : Int) (i B n : Nat) (D : DataW Value) (pv ov : Value) (H : PS L0 b c0 base g w s i B n D pv ov) (hp0 : s.parts = []) :
    Calls Try.prog 23 #[.pointer (some ⟨g, 0, none⟩), .int .i64 a] w fun e w' => e = pan a 30 ∧ w = w' := by
  obtain ⟨A, c, rfl, hlc, hcm, hr⟩ := parts_row H.parts
  have c2 := blk_cell H.blk 2
  clear H
  unfold maxLen at hcm
  rw [hp0] at c2
  clear hr hlc hp0
  go_enter Try.func23, Try.ntmps23
  go_wp2_with fail
  with_reducible refine (no_any a 30 _).mono ?_
  rintro e w' ⟨rfl, rfl⟩
  go_wp2
  exact ⟨rfl, rfl, rfl⟩

set_option maxHeartbeats 1000000 in
theorem last_ok (L0 : List S35) (b c0 base g : Nat) (w : World) (s : St) (a : Int) (i B n : Nat) (D : DataW Value) (ov : Value) (pb c ln : Nat) (H : PS L0 b c0 base g w s i B n D (.slice (some ⟨pb, 0, none⟩) (ln + 1) c) ov) (hl : ln + 1 ≤ c) (hcm : c ≤ maxLen) :
    Calls Try.prog 23 #[.pointer (some ⟨g, 0, none⟩), .int .i64 a] w fun e w' => e = .returned (.pointer (some ⟨pb, ln * 4, none⟩)) ∧ ∃ m, w' = w.drewN m := by
  have c2 := blk_cell H.blk 2
  clear H
  unfold maxLen at hcm
  have hz : (((ln + 1 : Nat) : Int) == 0) = false := by rw [beq_eq_false_iff_ne]; omega
  have hz2 : ((ln : Int) + 1 == 0) = false := by rw [beq_eq_false_iff_ne]; omega
  go_enter Try.func23, Try.ntmps23
  go_wp2
  go_quiet (fail)
  go_wp2
  go_ret
  exact ⟨rfl, nq, rfl⟩
end Go.Proofs.Ytimcmhfcmnooeaa
namespace Go.Proofs.Ytimcmhfcmnooeaa
set_option linter.unusedVariables false
set_option linter.unusedSimpArgs false
open Go.RowKit Go.Proofs.YtimcmhfcmnooeaaW.PrintWords Go.Proofs.YtimcmhfcmnooeaaW.PrintLast Go.Proofs.YtimcmhfcmnooeaaW.PrintMore

/-- 'append' of a literal's elements onto a row of one's own, as one step of a region that draws. -/
theorem step_append_mine {P : Program} {ops : Array Oper} {o : Oper} {a : Act} {w : World} {K : Act → World → Prop} {Q : Exit → Act → World → Prop} {E : Prop}
    (hgd : o.guard = none) (s x : Operand) (t : TypeId) (ho : o.op = .call { callee := .builtin .append, args := #[s, x], argTypes := #[t, t] })
    (base : Nat) (e : TypeId) (z : Value) (size bytes : Nat) (ht : P.underlying t = some (.slice e))
    (hinfo : (P.info? e).map (fun i => (i.zero, i.size, i.bytes)) = some (some z, size, bytes)) (hzs : z.cells.size = size) (hsz : 0 < size)
    (v : Value) (n : Nat) (xs : List Value) (hs : a.eval s = v) (hown : w.ownsRow base e size v n xs)
    (ad : Addr) (m c : Nat) (news : List Value) (hx : a.eval x = .slice (some ad) m c) (hl : news.length = m * size) (hnews : ∀ j u, news[j]? = some u → w.cell? (ad.add j) = some u) (h1 : ∀ u ∈ news, u.oneCell' = true)
    (h63 : n + m ≤ maxLen) (hbytes : (n + m) * bytes ≤ 140737488355328) (hbase : base ≤ w.heap.size)
    (h : ∀ v' w', w'.ownsRow base e size v' (n + m) (xs ++ news) → w.grownBy w' v.ownBlock → (v'.ownBlock = v.ownBlock ∨ v'.ownBlock = some w.heap.size) → K (a.put o.dst v') w') :
    if Region.wanted o (yielded ops a.tmps) = true then Oper.wp P o a w K Q else E := by
  have hw : Region.wanted o (yielded ops a.tmps) = true := by simp [Region.wanted, hgd]
  rw [if_pos hw]
  obtain ⟨i0, hi, hzz⟩ := Option.map_eq_some_iff.1 hinfo
  simp only [Prod.mk.injEq] at hzz
  obtain ⟨hz0, hz1, hz2⟩ := hzz
  obtain ⟨v', w', hrun, h2, h3, _, h4⟩ := run_append_own_at (P := P) w base t o.type e i0 z size bytes ht hi hz0 hz1 hz2 hzs hsz v n xs hown ad m c news hl hnews h1 h63 hbytes hbase
  unfold Oper.wp execOp
  simp only [ho, resolve, invoke, builtin, Sem.run_bind, Sem.run_pure, Result.andThen_ok, List.map_toArray, List.map_cons, List.map_nil, hs, hx, hrun]
  exact h v' w' h2 h3 h4

theorem own_lower {w : World} {base base' : Nat} {e : TypeId} {size n : Nat} {v : Value} {xs : List Value} (h : w.ownsRow base e size v n xs) (hb : base' ≤ base) : w.ownsRow base' e size v n xs := own_weaken h hb

section
variable {L0 : List S35} {b c0 base g : Nat} {w w1 : World} {s : St} {i B n : Nat} {D : DataW Value} {pv ov ov' : Value} {x : S35}
/-- The kept tokens' row has been written, and its place laid anew. -/
theorem PS.outed (H : PS L0 b c0 base g w s i B n D pv ov) (hg : w.grownBy w1 ov.ownBlock) (ho : w1.ownsRow base 35 3 ov' (s.out.length + 1) (tflat s.out ++ tcl x))
    (hat : ov'.ownBlock = ov.ownBlock ∨ ∃ k, ov'.ownBlock = some k ∧ w.heap.size ≤ k) : PS L0 b c0 base g (w1.setCell ⟨g, 3, none⟩ ov') { s with out := s.out ++ [x] } i B n D pv ov' ∧ Below base w (w1.setCell ⟨g, 3, none⟩ ov') := by
  have hgl := H.glt
  have hne : some g ≠ ov.ownBlock := own_ne_blk H.out H.blk (by decide)
  have hgk : w1.heap[g]? = some (.cells #[.slice (some ⟨b, i * 3, none⟩) (L0.length - i) (c0 - i), .map (some B), pv, ov, .int .i64 s.fuel] 46 (0, 0)) := (hg.block g hgl hne).trans H.blk
  have hbel : Below base w w1 := (Below.refl base w).grown hg H.base_le (fun k hk => own_base H.out k hk)
  have hBne : some B ≠ ov.ownBlock := by
    intro e
    obtain ⟨es, clock, hb, _⟩ := H.map
    obtain ⟨cells, hc⟩ := own_typed H.out B e.symm
    rw [hb] at hc
    injection hc with hc
    cases hc
  have hpne : pv.ownBlock = none ∨ pv.ownBlock ≠ ov.ownBlock := own_type_ne H.parts H.out (by decide)
  refine ⟨⟨H.hi, H.hl, H.hc, H.hm, ?_, ?_, H.low, ?_, H.hn, H.wrel, ?_, ?_, H.bg, H.bB⟩, hbel.setCell (p := ⟨g, 3, none⟩) H.bg _⟩
  · rw [blk_set hgk 3]; rfl
  · exact H.src.below (hbel.setCell (p := ⟨g, 3, none⟩) H.bg ov') H.low
  · exact (H.map.kept hg hBne).setCell H.gB _
  · exact own_setCell' (H.parts.kept hg hpne) (own_ne_blk (H.parts.kept hg hpne) hgk (by decide)) _
  · have e1 : (s.out ++ [x]).length = s.out.length + 1 := by simp
    have e2 : tflat (s.out ++ [x]) = tflat s.out ++ tcl x := by simp [tflat]
    show World.ownsRow _ _ _ _ _ (s.out ++ [x]).length (tflat (s.out ++ [x]))
    rw [e1, e2]
    exact own_setCell' ho (own_ne_blk ho hgk (by decide)) _
end

set_option maxRecDepth 100000 in
theorem put_no (L0 : List S35) (b c0 base g : Nat) (w : World) (s : St) (t : S35) (i B n : Nat) (D : DataW Value) (pv ov : Value) (H : PS L0 b c0 base g w s i B n D pv ov) (hm : 16384 ≤ s.out.length) :
    Calls Try.prog 15 #[.pointer (some ⟨g, 0, none⟩), .agg #[.int .i64 t.f0, .string t.f1, .int .i64 t.f2]] w fun e w' => e = pan t.f2 2 ∧ Below base w w' := by
  obtain ⟨A, c, rfl⟩ := own_slice H.out
  have c3 : ∀ o, (w.alloc o).cell? ⟨g, 3, none⟩ = some (.slice A s.out.length c) := fun o => (World.cell?_alloc_lt w o _ H.glt).trans (blk_cell H.blk 3)
  have HH := Lib.hid H
  clear H
  generalize s.out.length = m at c3 hm
  have hd : decide ((16384 : Int) ≤ (m : Int)) = true := by simp; omega
  clear hm
  go_enter Try.func15, Try.ntmps15
  go_wp2_with fail
  with_reducible refine (no_any t.f2 2 _).mono ?_
  rintro e w' ⟨rfl, rfl⟩
  go_wp2
  exact ⟨rfl, rfl, (Below.refl _ _).alloc HH.out.base_le _⟩

set_option maxRecDepth 100000 in
set_option maxHeartbeats 1000000 in
theorem put_ok (L0 : List S35) (b c0 base g : Nat) (w : World) (s : St) (t : S35) (i B n : Nat) (D : DataW Value) (pv ov : Value) (H : PS L0 b c0 base g w s i B n D pv ov) (hm : s.out.length < 16384) :
    Calls Try.prog 15 #[.pointer (some ⟨g, 0, none⟩), .agg #[.int .i64 t.f0, .string t.f1, .int .i64 t.f2]] w fun e w' => e = .returned (.tuple #[]) ∧ (∃ ov', PS L0 b c0 base g w' { s with out := s.out ++ [t] } i B n D pv ov') ∧ Below base w w' := by
  obtain ⟨A, c, rfl⟩ := own_slice H.out
  have c3 : ∀ o, (w.alloc o).cell? ⟨g, 3, none⟩ = some (.slice A s.out.length c) := fun o => (World.cell?_alloc_lt w o _ H.glt).trans (blk_cell H.blk 3)
  have H1 := H.kept ((Below.refl w.heap.size w).alloc (Nat.le_refl _) (.cells #[.int .i64 t.f0, .string t.f1, .int .i64 t.f2] 35))
  have HH := Lib.hid H
  have HH1 := Lib.hid H1
  clear H H1
  have hm0 := hm
  have ho := HH1.out.out
  have Ho := Lib.hid ho
  have hgl := HH.out.glt
  clear ho
  generalize hmm : s.out.length = m at c3 hm
  have Hmm := Lib.hid hmm
  clear hmm hm0
  have hd : decide ((16384 : Int) ≤ (m : Int)) = false := by simp; omega
  go_enter Try.func15, Try.ntmps15
  go_wp2
  have hn1 : ∀ (j : Nat) (u : Value), ([.int .i64 t.f0, .string t.f1, .int .i64 t.f2] : List Value)[j]? = some u → ((w.alloc (.cells #[.int .i64 t.f0, .string t.f1, .int .i64 t.f2] 35)).alloc (.cells #[.int .i64 t.f0, .string t.f1, .int .i64 t.f2] 35)).drew.cell? ((⟨w.heap.size + 1, 0, none⟩ : Addr).add j) = some u := by
    intro j u hu
    have hx := heap_alloc_new (w.alloc (.cells #[.int .i64 t.f0, .string t.f1, .int .i64 t.f2] 35)) (.cells #[.int .i64 t.f0, .string t.f1, .int .i64 t.f2] 35)
    rw [World.size_alloc] at hx
    have hz := World.news_of_block (w := ((w.alloc (.cells #[.int .i64 t.f0, .string t.f1, .int .i64 t.f2] 35)).alloc (.cells #[.int .i64 t.f0, .string t.f1, .int .i64 t.f2] 35)).drew) (cs := #[.int .i64 t.f0, .string t.f1, .int .i64 t.f2]) (t := 35) (fr := (0, 0)) hx
    exact hz j u hu
  have Hn1 := Lib.hid hn1
  clear hn1
  have H2 := (HH1.out.kept ((Below.refl _ _).alloc (Nat.le_refl _) (.cells #[.int .i64 t.f0, .string t.f1, .int .i64 t.f2] 35))).drew
  have hgk : ∀ w1 : World, ((w.alloc (.cells #[.int .i64 t.f0, .string t.f1, .int .i64 t.f2] 35)).alloc (.cells #[.int .i64 t.f0, .string t.f1, .int .i64 t.f2] 35)).drew.grownBy w1 (Value.slice A m c).ownBlock → w1.heap[g]? = some (.cells #[.slice (some ⟨b, i * 3, none⟩) (L0.length - i) (c0 - i), .map (some B), pv, .slice A m c, .int .i64 s.fuel] 46 (0, 0)) := by
    intro w1 hg
    have e := Hmm.out
    subst e
    exact (hg.block g H2.glt (own_ne_blk H2.out H2.blk (by decide))).trans H2.blk
  have HH2 := Lib.hid H2
  have Hgk := Lib.hid hgk
  clear H2 hgk
  go_region_law (refine step_append_mine rfl (.tmp 17) (.tmp 19) 22 rfl base 35 _ 3 32 Try.underlying22 info35 rfl (by decide) (.slice A m c) m (tflat s.out) (by simp [Act.eval, Act.put]) (by have := Ho.out; rw [Hmm.out] at this; exact this.alloc _) ⟨w.heap.size + 1, 0, none⟩ 1 1 [.int .i64 t.f0, .string t.f1, .int .i64 t.f2] (by simp [Act.eval, Act.put]) rfl (by exact Hn1.out) (by simp [Value.oneCell']) (by unfold maxLen; omega) (by omega) (by exact HH2.out.base_le) ?_; intro sv1 w1 hown1 hg1 hat1; obtain ⟨b1, c1, hv1, _, _⟩ := hown1.form (by omega); subst hv1; have hgb := Hgk.out w1 hg1; have hcell := blk_cell hgb 3; have hfro := blk_frozen hgb 3; have Hgb := Lib.hid hgb; have Hown1 := Lib.hid hown1; have Hg1 := Lib.hid hg1; have Hat1 := Lib.hid hat1; clear hgb hown1 hg1 hat1)
  all_goals
    go_end0
    have e := Hmm.out
    subst e
    obtain ⟨k1, k2⟩ := HH2.out.outed (x := t) Hg1.out Hown1.out (by
      rcases Hat1.out with h | h
      · exact .inl h
      · exact .inr ⟨_, h, Nat.le_refl _⟩)
    exact ⟨rfl, ⟨_, k1⟩, Below.trans (below_drew (((Below.refl base w).alloc HH.out.base_le _).alloc HH1.out.base_le _)) k2⟩
end Go.Proofs.Ytimcmhfcmnooeaa
namespace Go.Proofs.Ytimcmhfcmnooeaa
set_option linter.unusedVariables false
set_option linter.unusedSimpArgs false
open Go.RowKit Go.Proofs.YtimcmhfcmnooeaaW.PrintWords Go.Proofs.YtimcmhfcmnooeaaW.PrintLast Go.Proofs.YtimcmhfcmnooeaaW.PrintMore

theorem turns_none (L0 : List S35) (b c0 base g : Nat) (w : World) (s : St) (a : Int) (i B n : Nat) (D : DataW Value) (pv ov : Value) (H : PS L0 b c0 base g w s i B n D pv ov) (hp0 : s.parts = []) :
    Calls Try.prog 22 #[.pointer (some ⟨g, 0, none⟩), .int .i64 a] w fun e w' => e = pan a 30 ∧ w = w' := by
  have hl := fun w H => last_no L0 b c0 base g w s a i B n D pv ov H hp0
  go_enter Try.func22, Try.ntmps22
  go_wp2_with fail
  with_reducible refine (hl _ H).mono ?_
  rintro e w' ⟨rfl, rfl⟩
  go_wp2
  exact ⟨rfl, rfl, rfl⟩

/-- the row of the parts, its last one at ln -/
theorem parts_last {L0 : List S35} {b c0 base g : Nat} {w : World} {s : St} {i B n : Nat} {D : DataW Value} {pv ov : Value} (H : PS L0 b c0 base g w s i B n D pv ov) {p : Part} (hp : s.parts.getLast? = some p) :
    ∃ pb c ln, s.parts.length = ln + 1 ∧ pv = .slice (some ⟨pb, 0, none⟩) (ln + 1) c ∧ ln + 1 ≤ c ∧ c ≤ maxLen ∧ base ≤ pb ∧ pb < w.heap.size ∧ pb ≠ g ∧ (∀ o, w.frozen? ⟨pb, o, none⟩ = false) ∧
      w.cell? ⟨pb, ln * 4, none⟩ = some (.int .i64 p.at_) ∧ w.cell? ⟨pb, ln * 4 + 1, none⟩ = some (.bool p.keep) ∧ w.cell? ⟨pb, ln * 4 + 2, none⟩ = some (.bool p.behind) ∧ w.cell? ⟨pb, ln * 4 + 3, none⟩ = some (.bool p.around) := by
  obtain ⟨hne, hat⟩ := getLast_at hp
  have hpos : 0 < s.parts.length := List.length_pos_iff.2 hne
  obtain ⟨A, c, rfl, hlc, hcm, hr⟩ := parts_row H.parts
  obtain ⟨pb, rfl, hpb, hcell⟩ := hr hne
  obtain ⟨h0, h1, h2, h3⟩ := hcell _ _ hat
  obtain ⟨cells, hb⟩ := own_typed H.parts pb rfl
  refine ⟨pb, c, s.parts.length - 1, by omega, by rw [show s.parts.length - 1 + 1 = s.parts.length from by omega], by omega, hcm, hpb, (Array.getElem?_eq_some_iff.1 hb).1, ?_, fun o => blk_frozen hb o, h0, h1, h2, h3⟩
  rintro rfl
  rw [H.blk] at hb
  injection hb with hb
  injection hb with _ hb
  exact absurd hb (by decide)

set_option maxHeartbeats 1000000 in
theorem turns_behind (L0 : List S35) (b c0 base g : Nat) (w : World) (s : St) (a : Int) (i B n : Nat) (D : DataW Value) (pv ov : Value) (H : PS L0 b c0 base g w s i B n D pv ov) (p : Part) (hp : s.parts.getLast? = some p) (hb : p.behind = true) :
    Calls Try.prog 22 #[.pointer (some ⟨g, 0, none⟩), .int .i64 a] w fun e w' => e = pan a 30 ∧ ∃ m, w' = w.drewN m := by
  obtain ⟨pb, c, ln, hln, rfl, hlc, hcm, hpb, hpl, hpg, hf, h0, h1, h2, h3⟩ := parts_last H hp
  rw [hb] at h2
  have HH := Lib.hid H
  clear H hp hb hln h0 h1 h3 hf
  go_enter Try.func22, Try.ntmps22
  go_wp2_with fail
  with_reducible refine (last_ok L0 b c0 base g w s a i B n D ov pb c ln HH.out hlc hcm).mono ?_
  rintro e w' ⟨rfl, m, rfl⟩
  go_wp2_with fail
  with_reducible refine (no_any a 30 _).mono ?_
  rintro e w' ⟨rfl, rfl⟩
  go_wp2
  exact ⟨rfl, rfl, m, rfl⟩

theorem pflat_snoc (L : List Part) (p : Part) : pflat (L ++ [p]) = pflat L ++ p.cl := by simp [pflat]

/-- two cells of the last part are written -/
theorem parts_put {w : World} {base pb c : Nat} {q : List Part} {p : Part} (h : w.ownsRow base 50 4 (.slice (some ⟨pb, 0, none⟩) (q ++ [p]).length c) (q ++ [p]).length (pflat (q ++ [p]))) (k v : Bool) :
    ((w.setCell ⟨pb, q.length * 4 + 2, none⟩ (.bool v)).setCell ⟨pb, q.length * 4 + 1, none⟩ (.bool k)).ownsRow base 50 4 (.slice (some ⟨pb, 0, none⟩) (q ++ [p]).length c) (q ++ [p]).length (pflat (q ++ [{ p with keep := k, behind := v }])) := by
  obtain ⟨h1, h2⟩ := h
  rcases h2 with ⟨h2, _⟩ | ⟨g', cap, cur, he, hg, hh, r1, r2, r3, r4⟩
  · cases h2
  · injection he with e1 e2 e3
    injection e1 with e1
    injection e1 with e1
    subst e1
    subst e3
    have hlen : (q ++ [p]).length = q.length + 1 := by simp
    refine ⟨by rw [pflat_len]; simp, .inr ⟨pb, c, _, rfl, hg, blk_set (blk_set hh _ _) _ _, r1, r2, by simpa using r3, ?_⟩⟩
    have r5 : (pflat (q ++ [p])).length = (q.length + 1) * 4 := by rw [pflat_len, hlen]
    have hsz : (q.length + 1) * 4 ≤ cur.size := by rw [r3]; rw [hlen] at r1; omega
    apply List.ext_getElem?
    intro m
    rw [hlen] at r4 ⊢
    have r4m := congrArg (fun l : List Value => l[m]?) r4
    simp only [pflat_snoc] at r4m ⊢
    by_cases hm : m < (q.length + 1) * 4
    · rw [List.getElem?_take, if_pos hm] at r4m ⊢
      simp only [Array.getElem?_toList, Array.getElem?_setIfInBounds, Array.size_setIfInBounds] at r4m ⊢
      by_cases hm2 : m < q.length * 4
      · rw [if_neg (by omega), if_neg (by omega), r4m, List.getElem?_append_left (by rw [pflat_len]; exact hm2), List.getElem?_append_left (by rw [pflat_len]; exact hm2)]
      · rw [List.getElem?_append_right (by rw [pflat_len]; omega), pflat_len] at r4m ⊢
        rcases (by omega : m = q.length * 4 ∨ m = q.length * 4 + 1 ∨ m = q.length * 4 + 2 ∨ m = q.length * 4 + 3) with rfl | rfl | rfl | rfl
        · rw [if_neg (by omega), if_neg (by omega), r4m]; simp [Part.cl]
        · rw [if_pos rfl, if_pos (by omega)]; simp [Part.cl]
        · rw [if_neg (by omega), if_pos rfl, if_pos (by omega)]; simp [Part.cl]
        · rw [if_neg (by omega), if_neg (by omega), r4m]; simp [Part.cl]
    · rw [List.getElem?_eq_none (by rw [List.length_take]; omega), List.getElem?_eq_none (by rw [List.length_append, pflat_len]; simp [Part.cl]; omega)]

theorem split_last {α : Type} {l : List α} {p : α} (h : l.getLast? = some p) : l = l.dropLast ++ [p] := by
  obtain ⟨ys, rfl⟩ := List.getLast?_eq_some_iff.1 h
  simp

theorem last_of_snoc {α : Type} {l : List α} {p : α} (h : l.getLast? = some p) : ∃ q, l = q ++ [p] := List.getLast?_eq_some_iff.1 h

set_option maxHeartbeats 1000000 in
theorem turns_ok (L0 : List S35) (b c0 base g : Nat) (w : World) (s : St) (a : Int) (i B n : Nat) (D : DataW Value) (pv ov : Value) (H : PS L0 b c0 base g w s i B n D pv ov) (p : Part) (hp : s.parts.getLast? = some p) (hb : p.behind = false) :
    Calls Try.prog 22 #[.pointer (some ⟨g, 0, none⟩), .int .i64 a] w fun e w' => e = .returned (.tuple #[]) ∧ PS L0 b c0 base g w' { s with parts := s.parts.dropLast ++ [{ p with behind := true, keep := p.around && !p.keep }] } i B n D pv ov ∧ Below base w w' := by
  have hpg0 : pv.ownBlock ≠ some g := fun e => own_ne_blk H.parts H.blk (by decide) e.symm
  have hpB : pv.ownBlock ≠ some B := by
    intro e
    obtain ⟨es, clock, hb, _⟩ := H.map
    obtain ⟨cells, hc⟩ := own_typed H.parts B e
    rw [hb] at hc
    injection hc with hc
    cases hc
  have hpo : pv.ownBlock = none ∨ pv.ownBlock ≠ ov.ownBlock := own_type_ne H.parts H.out (by decide)
  obtain ⟨pb, c, ln, hln, rfl, hlc, hcm, hpb, hpl, hpg, hf, h0, h1, h2, h3⟩ := parts_last H hp
  rw [hb] at h2
  -- what the two stores leave
  have hfin : PS L0 b c0 base g ((w.setCell ⟨pb, ln * 4 + 2, none⟩ (.bool true)).setCell ⟨pb, ln * 4 + 1, none⟩ (.bool (p.around && !p.keep))) { s with parts := s.parts.dropLast ++ [{ p with behind := true, keep := p.around && !p.keep }] } i B n D (.slice (some ⟨pb, 0, none⟩) (ln + 1) c) ov ∧ Below base w ((w.setCell ⟨pb, ln * 4 + 2, none⟩ (.bool true)).setCell ⟨pb, ln * 4 + 1, none⟩ (.bool (p.around && !p.keep))) := by
    obtain ⟨q, hq⟩ := last_of_snoc hp
    have hbel : Below base w ((w.setCell ⟨pb, ln * 4 + 2, none⟩ (.bool true)).setCell ⟨pb, ln * 4 + 1, none⟩ (.bool (p.around && !p.keep))) := ((Below.refl base w).setCell (p := ⟨pb, ln * 4 + 2, none⟩) hpb _).setCell (p := ⟨pb, ln * 4 + 1, none⟩) hpb _
    have hql : q.length = ln := by rw [hq] at hln; simpa using hln
    have hpr := H.parts
    have hsl : s.parts.length = (q ++ [p]).length := by rw [hq]
    refine ⟨⟨H.hi, H.hl, H.hc, H.hm, ?_, H.src.below hbel H.low, H.low, ?_, H.hn, H.wrel, ?_, ?_, H.bg, H.bB⟩, hbel⟩
    · rw [Below.heap_setCell _ _ _ _ (fun e => hpg e.symm), Below.heap_setCell _ _ _ _ (fun e => hpg e.symm)]; exact H.blk
    · exact (H.map.setCell (a := ⟨pb, ln * 4 + 2, none⟩) (fun e => hpB (by simp [Value.ownBlock, e])) _).setCell (a := ⟨pb, ln * 4 + 1, none⟩) (fun e => hpB (by simp [Value.ownBlock, e])) _
    · rw [hq] at hpr
      have e1 : ln + 1 = (q ++ [p]).length := by simp [hql]
      rw [e1] at hpr ⊢
      have hr := parts_put hpr (p.around && !p.keep) true
      rw [hql] at hr
      show World.ownsRow _ _ _ _ _ (s.parts.dropLast ++ [_]).length (pflat (s.parts.dropLast ++ [_]))
      have e2 : s.parts.dropLast = q := by rw [hq]; simp
      rw [e2]
      have e3 : (q ++ [({ p with behind := true, keep := p.around && !p.keep } : Part)]).length = (q ++ [p]).length := by simp
      rw [e3]
      exact hr
    · have hn1 : some pb ≠ ov.ownBlock := by
        rcases hpo with h | h
        · simp [Value.ownBlock] at h
        · exact h
      exact own_setCell' (own_setCell' H.out (p := ⟨pb, ln * 4 + 2, none⟩) hn1 _) (p := ⟨pb, ln * 4 + 1, none⟩) hn1 _
  have Hfin := Lib.hid hfin
  have HH := Lib.hid H
  have hf1 := hf (ln * 4 + 1)
  have hf2 := hf (ln * 4 + 2)
  clear H hp hb hln h0 hfin hpo hpB hpg0 hf
  obtain ⟨pat, pk, pbe, par⟩ := p
  dsimp only at h1 h2 h3
  dsimp only at Hfin
  cases par <;> cases pk
  all_goals
    go_enter Try.func22, Try.ntmps22
    go_wp2_with fail
    with_reducible refine (last_ok L0 b c0 base g w s a i B n D ov pb c ln HH.out hlc hcm).mono ?_
    rintro e w' ⟨rfl, m, rfl⟩
    go_wp2
    go_end0
    exact ⟨rfl, Hfin.out.1.drewN m, pw_below_drewN Hfin.out.2 m⟩
end Go.Proofs.Ytimcmhfcmnooeaa
