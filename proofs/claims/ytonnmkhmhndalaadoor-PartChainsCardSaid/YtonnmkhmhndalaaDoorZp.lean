/- part.ahead: how soon parts reach one another, walked. Rows of numbers compared, walked; one's own rows read. part.Check, walked. -/
import Derived.Test.YtonnmkhmhndalaaDoorZo
import Derived.Test.YtonnmkhmhndalaaDoorZa
import Derived.Test.YtonnmkhmhndalaaDoorZc
import Derived.Deep.RegionHeld3
section
namespace Go.Proofs.YtonnmkhmhndalaaDoor
set_option linter.unusedVariables false
set_option linter.unusedSimpArgs false
open Go.RowKit Go.Proofs.YtonnmkhmhndalaaDoorW.PrintWords Go.Proofs.YtonnmkhmhndalaaDoorW.PrintLast Go.Proofs.YtonnmkhmhndalaaDoorW.PrintMore
theorem Cl.toInt {W : World} {b n : Nat} {f : Nat → Nat} (h : Cl eI W b n f) : Cl (Value.int .i64) W b n (fun j => (f j : Int)) := ⟨h.c, h.f, h.s⟩
structure AMem (W : World) (D N : Nat) (F : Nat → Nat → Int) : Prop where
  c : Cl (fun v : Value => v) W D N (fun i => .slice (some ⟨D + 1 + i, 0, none⟩) N N)
  r : ∀ i, i < N → Cl (Value.int .i64) W (D + 1 + i) N (F i)
theorem AMem.belowB {W W' : World} {D N B : Nat} {F : Nat → Nat → Int} (h : AMem W D N F) (hb : Below B W W') (hB : D + N < B) : AMem W' D N F :=
  ⟨h.c.below hb (by omega), fun i hi => (h.r i hi).below hb (by omega)⟩
theorem AMem.below {W W' : World} {D N : Nat} {F : Nat → Nat → Int} (h : AMem W D N F) (hb : Below W.heap.size W W') : AMem W' D N F :=
  ⟨h.c.below hb h.c.s, fun i hi => (h.r i hi).below hb (h.r i hi).s⟩
def upd2 (F : Nat → Nat → Int) (i j : Nat) (v : Int) : Nat → Nat → Int := fun a b => if a = i ∧ b = j then v else F a b
theorem AMem.set {W : World} {D N : Nat} {F : Nat → Nat → Int} (h : AMem W D N F) {i : Nat} (hi : i < N) (j : Nat) (v : Int) : AMem (W.setCell ⟨D + 1 + i, j, none⟩ (.int .i64 v)) D N (upd2 F i j v) := by
  refine ⟨h.c.far (by omega) _, fun a ha => ?_⟩
  by_cases e : a = i
  · subst e
    refine ((h.r a ha).set j v).size (fun b _ => ?_)
    unfold upd2
    by_cases e2 : b = j
    · subst e2; rw [upd_same, if_pos ⟨rfl, rfl⟩]
    · rw [upd_ne _ _ e2, if_neg (fun hc => e2 hc.2)]
  · refine ((h.r a ha).far (by omega) _).size (fun b _ => ?_)
    unfold upd2
    rw [if_neg (fun hc => e hc.1)]
theorem AMem.size {W : World} {D N : Nat} {F G : Nat → Nat → Int} (h : AMem W D N F) (e : ∀ i j, i < N → j < N → F i j = G i j) : AMem W D N G :=
  ⟨h.c, fun i hi => (h.r i hi).size (fun j hj => e i j hi hj)⟩
def AheadP (w : World) (nd : List S39) (of : List Int) (N : Nat) (e : Ending) (w' : World) : Prop :=
  ∃ D, w.heap.size ≤ D ∧ e = .returned (.slice (some ⟨D, 0, none⟩) N N) ∧ AMem w' D N (fun i j => ahS nd of i j nd.length) ∧ D + N < w'.heap.size ∧ Below w.heap.size w w'
set_option maxRecDepth 100000 in
set_option maxHeartbeats 8000000 in
theorem ahead2_any (x : NL) (A : Option Addr) (c : Nat) (B : Option Addr) (d : Nat) (p : PV) (A2 : Option Addr) (c2 : Nat) (B2 : Option Addr) (d2 : Nat) (N : Nat) (w : World) (hI : NIn w x A c B d) (hP : PIn w p A2 c2 B2 d2) (hm : MayP x) (hlo : p.of.length = x.nd.length) (hN : p.n = (N : Int)) (hN2 : N ≤ 64)
    (hof : ∀ i, i < x.nd.length → 0 ≤ p.of.getD i 0 ∧ p.of.getD i 0 < (N : Int)) :
    Calls Tryd.prog 40 #[nlV x A c B d, pV p A2 c2 B2 d2] w (AheadP w x.nd p.of N) := by
  obtain ⟨n, hn⟩ : ∃ n, x.nd.length = n := ⟨_, rfl⟩
  have hn4 : n ≤ 4096 := by rw [← hn]; exact hm.n
  obtain ⟨na, hna⟩ : ∃ k, p.ah.length = k := ⟨_, rfl⟩
  rw [hn] at hlo hof
  have HI := Lib.hid hI
  have HP := Lib.hid hP
  have HM := Lib.hid hm
  have HN := Lib.hid hn
  have HL := Lib.hid hlo
  have HOf := Lib.hid hof
  clear hI hP hm hof
  obtain ⟨W0, hW0⟩ : ∃ W, w.alloc (Obj.cells #[.slice A n c, .slice B x.nt.length d, .int .i64 x.pt] 25) = W := ⟨_, rfl⟩
  obtain ⟨hx0, hb0, hz0⟩ := box_list hW0
  obtain ⟨W1, hW1⟩ : ∃ W, W0.alloc (Obj.cells #[.slice A2 n c2, .int .i64 N, .slice B2 na d2] 46) = W := ⟨_, rfl⟩
  obtain ⟨hx1, hb1, hz1⟩ := box_parts hW1
  obtain ⟨P, hPs⟩ : ∃ P, w.heap.size = P := ⟨_, rfl⟩
  rw [hz0, hPs] at hx1
  rw [hPs] at hx0 
  have HX0 := Lib.hid (hx0.below hb1)
  have HX1 := Lib.hid hx1
  have HB1 := Lib.hid (hb0.trans (hb1.mono (by omega)))
  have HPs := Lib.hid hPs
  have HZ1 := Lib.hid (show W1.heap.size = P + 2 by omega)
  have HZ0 := Lib.hid (show W0.heap.size = P + 1 by omega)
  clear hx0 hb0 hz0 hx1 hb1 hz1
  obtain ⟨W2, m2, hb2, hz2, hu2⟩ := make44 N (by omega) W1
  rw [HZ1.out] at m2 hu2
  have hAM : (∀ j, j < N → W2.cell? ⟨P + 2, j, none⟩ = some (if j < 0 then .slice (some ⟨P + 3 + j, 0, none⟩) N N else .slice none 0 0)) := fun j hj => by rw [if_neg (Nat.not_lt_zero j)]; exact hu2.c j hj
  have HU2 : Hid (Cl (fun v : Value => v) W2 (P + 2) N (fun j => if j < 0 then .slice (some ⟨P + 3 + j, 0, none⟩) N N else .slice none 0 0)) := Lib.hid (hu2.size fun j _ => by rw [if_neg (Nat.not_lt_zero j)])
  have HB2 := Lib.hid (HB1.out.trans (hb2.mono HB1.out.size))
  have HZ2 := Lib.hid (show W2.heap.size = P + 3 by have := HZ1.out; omega)
  have HX2 := Lib.hid (HX1.out.below hb2)
  have HY2 := Lib.hid (HX0.out.below hb2)
  obtain ⟨p0, p1, p2⟩ := HX1.out
  clear hb2 hz2 hu2 hAM
  go_enter Tryd.func40, Tryd.ntmps40
  go_upto_region 1 with fail
  try rw [HZ0.out]
  clear hW0 hW1
  go_upto_region 3 with fail
  clear m2 p0 p1 p2
  go_loopw [6, 16] (fun _ v16 wx => ∃ i : Nat, v16 = .int .i64 i ∧ i ≤ N ∧ Hid (Cl (fun v : Value => v) wx (P + 2) N (fun j => if j < i then .slice (some ⟨P + 3 + j, 0, none⟩) N N else .slice none 0 0)) ∧ Hid (∀ j, j < i → Cl (Value.int .i64) wx (P + 3 + j) N (fun _ => 0)) ∧ Hid (wx.heap.size = P + 3 + i) ∧ Hid (Below (P + 2) W2 wx)) (fun _ v16 _ => N - (intOf v16).toNat)
  case atStart => exact ⟨0, rfl, Nat.zero_le _, HU2, Lib.hid (fun j hj => absurd hj (Nat.not_lt_zero j)), HZ2, Lib.hid (Below.refl _ _)⟩
  case round =>
    obtain ⟨i, rfl, hi, HU, HR, HZ, HBx⟩ := hrel
    by_cases hlt : i < N
    · have HLt := Lib.hid hlt
      obtain ⟨p0, p1, p2⟩ := HX2.out.belowB HBx.out (by omega)
      obtain ⟨W3, m3, hb3, hz3, hu3⟩ := make23 N (by omega) wr
      rw [HZ.out] at m3 hu3
      have hc3 := HU.out.below hb3 HU.out.s
      have u1 := hc3.c i hlt
      have u2 := hc3.f i hlt
      have HUn := Lib.hid ((hc3.set i (.slice (some ⟨P + 3 + i, 0, none⟩) N N)).size (g := fun j => if j < i + 1 then .slice (some ⟨P + 3 + j, 0, none⟩) N N else .slice none 0 0) (fun j _ => by
        by_cases e : j = i
        · subst e; rw [upd_same, if_pos (Nat.lt_succ_self j)]
        · rw [upd_ne _ _ e]
          by_cases e2 : j < i
          · rw [if_pos e2, if_pos (by omega)]
          · rw [if_neg e2, if_neg (by omega)]))
      have HRn : Hid (∀ j, j < i + 1 → Cl (Value.int .i64) (W3.setCell ⟨P + 2, i, none⟩ (.slice (some ⟨P + 3 + i, 0, none⟩) N N)) (P + 3 + j) N (fun _ => 0)) := Lib.hid (fun j hj => by
        refine Cl.far ?_ (by omega) _
        by_cases e : j < i
        · exact (HR.out j e).below hb3 (HR.out j e).s
        · obtain rfl : j = i := by omega
          exact hu3.toInt)
      have HZn : Hid ((W3.setCell ⟨P + 2, i, none⟩ (.slice (some ⟨P + 3 + i, 0, none⟩) N N)).heap.size = P + 3 + (i + 1)) := Lib.hid (by have := HZ.out; simp; omega)
      have HBn : Hid (Below (P + 2) W2 (W3.setCell ⟨P + 2, i, none⟩ (.slice (some ⟨P + 3 + i, 0, none⟩) N N))) := Lib.hid (below_set2 (Nat.le_refl _) (HBx.out.trans (hb3.mono (by have := HZ.out; omega))))
      obtain ⟨W4, hW4⟩ : ∃ W, W3.setCell ⟨P + 2, i, none⟩ (.slice (some ⟨P + 3 + i, 0, none⟩) N N) = W := ⟨_, rfl⟩
      rw [hW4] at HUn HRn HZn HBn
      clear hb3 hz3 hu3 hc3
      go_wp2_with fail
      try rw [hW4]
      refine ⟨⟨i + 1, by simp, HLt.out, HUn, HRn, HZn, HBn⟩, by have := HLt.out; simp [intOf]; omega⟩
    · obtain rfl : N = i := by omega
      have HAM : Hid (AMem wr (P + 2) N (fun i j => ahS x.nd p.of i j 0)) := Lib.hid ⟨HU.out.size fun j hj => by rw [if_pos hj], fun i hi => HR.out i hi⟩
      clear hlt hi
      obtain ⟨y0, y1, y2⟩ := HY2.out.belowB HBx.out (by omega)
      go_upto_region 8 with fail
      clear y0 y1 y2
      obtain ⟨W3, hW3⟩ : ∃ W, wr = W := ⟨_, rfl⟩
      have HX3 := Lib.hid (HX2.out.belowB HBx.out (by omega))
      have HB3 := Lib.hid (HB2.out.trans (HBx.out.mono (by rw [HPs.out]; omega)))
      have HZ3 := HZ
      rw [hW3] at HAM HX3 HB3 HZ3 ⊢
      clear hW3 HU HR HBx HZ HX2 HY2 HX0 HX1 HU2 HB2 HZ2 HZ1 HZ0
      obtain ⟨D, hD⟩ : ∃ D, P + 2 = D := ⟨_, rfl⟩
      rw [hD] at HAM ⊢
      have HD := Lib.hid hD
      clear hD
      go_loopw [7, 8, 9, 10, 29] (fun _ _ _ _ v29 wx => ∃ k : Nat, v29 = .int .i64 k ∧ k ≤ n ∧ Hid (AMem wx D N (fun i j => ahS x.nd p.of i j k)) ∧ Hid (Below D W3 wx)) (fun _ _ _ _ v29 _ => n - (intOf v29).toNat)
      case atStart => exact ⟨0, rfl, Nat.zero_le _, HAM, Lib.hid (Below.refl _ _)⟩
      case round =>
        obtain ⟨k, rfl, hk, HAx, HBx⟩ := hrel
        have HWx := Lib.hid (HB3.out.trans (HBx.out.mono (by rw [HPs.out]; have := HD.out; omega)))
        by_cases hlt : k < n
        · have HLt := Lib.hid hlt
          have hk' : k < x.nd.length := by rw [HN.out]; exact hlt
          obtain ⟨b, o, A3, c3, hAn, hl3, hbs, hND⟩ := nodes_in HI.out.h0 k hk'
          subst hAn
          have hDl := HM.out.dly k hk'
          have hhit := fun i j => ahS_hit x.nd p.of i j k
          have hmiss := fun i j => ahS_miss x.nd p.of i j k
          have hin : inAt x.nd k 0 = ((x.nd.getD k z39).f3.getD 0 0).toNat := rfl
          generalize x.nd.getD k z39 = y at *
          obtain ⟨h0, h1, h2, h3, h4, h5, h6, h7, hC3⟩ := hND _ HWx.out
          have HC3 := Lib.hid hC3
          have HHit := Lib.hid hhit
          have HMiss := Lib.hid hmiss
          clear hk' hC3 hbs hND hhit hmiss
          go_upto_region 10 with fail
          obtain ⟨W5, hW5⟩ : ∃ W, wr.alloc (Obj.cells #[Value.int IntKind.i64 y.f0, Value.int IntKind.i64 y.f1, Value.int IntKind.i64 y.f2, Value.slice A3 y.f3.length c3, Value.string y.f4, Value.int IntKind.i64 y.f5, Value.int IntKind.i64 y.f6, Value.int IntKind.i64 y.f7] 39) = W := ⟨_, rfl⟩
          rw [hW5]
          obtain ⟨hbx, hb5⟩ := box_node HC3.out hW5
          have hDw : D ≤ wr.heap.size := Nat.le_of_lt HAx.out.c.s
          have HB5 := Lib.hid (HBx.out.trans (hb5.mono hDw))
          have HW5 := Lib.hid (HWx.out.trans (hb5.mono HWx.out.size))
          have HA5 := Lib.hid (HAx.out.below hb5)
          obtain ⟨G, hG⟩ : ∃ G, wr.heap.size = G := ⟨_, rfl⟩
          rw [hG] at hbx ⊢
          have HXn := Lib.hid hbx
          obtain ⟨z0, z1, z2, z3, z4, z5, z6, z7, hC5⟩ := hbx
          rw [Nat.zero_add] at z1 z2 z3 z4 z5 z6 z7
          clear h0 h1 h2 h3 h4 h5 h6 h7 hW5 hb5 hG HAx hDw
          by_cases h8 : y.f0 = 8
          · obtain ⟨hl1, ⟨hv0, hv1⟩, ht0, ht1⟩ := hDl h8
            obtain ⟨a, ha⟩ : ∃ a : Nat, y.f3.getD 0 0 = (a : Int) := ⟨(y.f3.getD 0 0).toNat, by omega⟩
            rw [ha] at hv1 hin
            rw [Int.toNat_natCast] at hin
            have han : a < n := by rw [HN.out] at hv1; omega
            obtain ⟨b3, o3, hA3, r3, -⟩ := ints_at hC5 0 (by omega)
            subst hA3
            rw [ha, Nat.add_zero] at r3
            have hP5 := HP.out.below HW5.out
            obtain ⟨b2, o2, hA2, r2, -⟩ := ints_at hP5.h0 a (by rw [HL.out]; exact han)
            obtain ⟨b2', o2', hA2', r2', -⟩ := ints_at hP5.h0 k (by rw [HL.out]; exact hlt)
            rw [hA2] at hA2'
            injection hA2' with hA2'
            injection hA2' with e1 e2
            subst e1 e2 hA2
            rw [hl1] at z3
            have p5 := (HX3.out.belowB HB5.out (by have := HD.out; omega)).k0
            have hoa := HOf.out a han
            have hok := HOf.out k hlt
            obtain ⟨va, hva⟩ : ∃ v : Nat, p.of.getD a 0 = (v : Int) := ⟨(p.of.getD a 0).toNat, by omega⟩
            obtain ⟨vk, hvk⟩ : ∃ v : Nat, p.of.getD k 0 = (v : Int) := ⟨(p.of.getD k 0).toNat, by omega⟩
            rw [hva] at r2 hoa
            rw [hvk] at r2' hok
            have hvaN : va < N := by omega
            have hvkN : vk < N := by omega
            have HKey : Hid ((inAt x.nd k 0 = a) ∧ p.of.getD a 0 = (va : Int) ∧ p.of.getD k 0 = (vk : Int)) := Lib.hid ⟨hin, hva, hvk⟩
            have H8 := Lib.hid h8
            have HT := Lib.hid (And.intro ht0 ht1)
            clear hva hvk ha hDl hin hoa hok hv0 hv1
            rw [h8] at z0
            clear h8
            go_upto_region 11 with fail
            go_quiet (fail)
            obtain ⟨W6, hW6⟩ : ∃ W, W5.drewN nq = W := ⟨_, rfl⟩
            rw [hW6]
            have hb6 : Below W5.heap.size W5 W6 := by rw [← hW6]; exact pw_below_drewN (Below.refl _ _) _
            have HB6 := Lib.hid (HB5.out.trans (hb6.mono (Nat.le_of_lt HA5.out.c.s)) : Below D W3 W6)
            have HA6 := Lib.hid (HA5.out.below hb6)
            have HX6 := Lib.hid (HXn.out.below hb6)
            clear hW6 hb6 z0 z1 z2 z3 z4 z5 z6 z7 r2 r2' r3 p5 hC5 hP5
            go_upto_region 12 with fail
            have e7 := HX6.out.k7
            rw [Nat.zero_add] at e7
            have c1 := HA6.out.c.c va hvaN
            have c2 := (HA6.out.r va hvaN).c vk hvkN
            obtain ⟨cur, hcur⟩ : ∃ v, ahS x.nd p.of va vk k = v := ⟨_, rfl⟩
            rw [hcur] at c2
            have HCur := Lib.hid hcur
            have hbd := ahS_bd HM.out p.of va vk k (by rw [HN.out]; exact hk)
            rw [hcur] at hbd
            clear hcur
            have hstay : (¬ (va ≠ vk ∧ (cur = 0 ∨ y.f7 < cur))) → ∀ i j, i < N → j < N → ahS x.nd p.of i j k = ahS x.nd p.of i j (k + 1) := fun hno i j hi hj => by
              refine (HMiss.out i j (fun hc => ?_)).symm
              obtain ⟨q1, q2, q3⟩ := HKey.out
              obtain ⟨-, f1, f2, f3, f4⟩ := hc
              rw [q1, q2] at f2
              rw [q3] at f3
              have e1 : va = i := by omega
              have e2 : vk = j := by omega
              subst e1 e2
              rw [HCur.out] at f4
              exact hno ⟨fun e => f1 (by rw [e]), f4⟩
            have hmove : (va ≠ vk ∧ (cur = 0 ∨ y.f7 < cur)) → ∀ i j, i < N → j < N → upd2 (fun i j => ahS x.nd p.of i j k) va vk y.f7 i j = ahS x.nd p.of i j (k + 1) := fun hyes i j hi hj => by
              obtain ⟨q1, q2, q3⟩ := HKey.out
              unfold upd2
              by_cases e : i = va ∧ j = vk
              · obtain ⟨rfl, rfl⟩ := e
                rw [if_pos ⟨rfl, rfl⟩]
                exact (HHit.out _ _ ⟨H8.out, fun e => hyes.1 (by omega), by rw [q1, q2], q3, by rw [HCur.out]; exact hyes.2⟩).symm
              · rw [if_neg e]
                refine (HMiss.out i j (fun hc => e ?_)).symm
                obtain ⟨-, f1, f2, f3, f4⟩ := hc
                rw [q1, q2] at f2
                rw [q3] at f3
                omega
            have HStay := Lib.hid hstay
            have HMove := Lib.hid hmove
            clear hstay hmove
            by_cases hij : va = vk
            · have hno : ¬ (va ≠ vk ∧ (cur = 0 ∨ y.f7 < cur)) := fun h => h.1 hij
              have g1 : ((va : Int) != (vk : Int)) = false := by rw [hij]; simp
              go_quiet (fail)
              obtain ⟨W7, hW6⟩ : ∃ W, W6.drewN nq = W := ⟨_, rfl⟩
              rw [hW6]
              have hb6 : Below W6.heap.size W6 W7 := by rw [← hW6]; exact pw_below_drewN (Below.refl _ _) _
              have HB7 := Lib.hid (HB6.out.trans (hb6.mono (Nat.le_of_lt HA6.out.c.s)) : Below D W3 W7)
              have HA7 : Hid (AMem W7 D N (fun i j => ahS x.nd p.of i j (k + 1))) := Lib.hid ((HA6.out.below hb6).size (HStay.out hno))
              clear hW6 hb6 c1 c2 e7 hno
              go_wp2_with fail
              refine ⟨⟨k + 1, by simp, HLt.out, HA7, HB7⟩, by have := HLt.out; simp [intOf]; omega⟩
            · have g1 : ((va : Int) != (vk : Int)) = true := by rw [bne_iff_ne]; omega
              by_cases h5 : cur = 0
              · have hyes : va ≠ vk ∧ (cur = 0 ∨ y.f7 < cur) := ⟨hij, Or.inl h5⟩
                have g5 : (cur == 0) = true := beq_iff_eq.2 h5
                clear h5
                go_quiet (fail)
                obtain ⟨W7, hW6⟩ : ∃ W, W6.drewN nq = W := ⟨_, rfl⟩
                rw [hW6]
                have hb6 : Below W6.heap.size W6 W7 := by rw [← hW6]; exact pw_below_drewN (Below.refl _ _) _
                have HB7 := Lib.hid (HB6.out.trans (hb6.mono (Nat.le_of_lt HA6.out.c.s)) : Below D W3 W7)
                have hA7 := HA6.out.below hb6
                have hX7 := HX6.out.below hb6
                have HA7 := Lib.hid ((hA7.set hvaN vk y.f7).size (HMove.out hyes))
                have HB8 := Lib.hid (below_set2 (j := vk) (v := .int .i64 y.f7) (by omega : D ≤ D + 1 + va) HB7.out)
                clear hW6 hb6 c1 c2 e7 hyes
                have e7 := hX7.k7
                rw [Nat.zero_add] at e7
                have c1 := hA7.c.c va hvaN
                have c2 := (hA7.r va hvaN).c vk hvkN
                have c3 := (hA7.r va hvaN).f vk hvkN
                have d1 : ¬ D + 1 + va = D := by omega
                have d2 : ¬ D = D + 1 + va := by omega
                clear hA7 hX7
                go_upto_region 13 with fail
                go_region
                clear c1 c2 c3 d1 d2 e7
                go_wp2_with fail
                refine ⟨⟨k + 1, by simp, HLt.out, Lib.hid (HA7.out.below (Below.refl _ _).drew), Lib.hid HB8.out.drew⟩, by have := HLt.out; simp [intOf]; omega⟩
              · have g5 : (cur == 0) = false := beq_eq_false_iff_ne.2 h5
                by_cases h6 : y.f7 < cur
                · have hyes : va ≠ vk ∧ (cur = 0 ∨ y.f7 < cur) := ⟨hij, Or.inr h6⟩
                  have g6 : decide (y.f7 < cur) = true := decide_eq_true h6
                  go_quiet (fail)
                  obtain ⟨W7, hW6⟩ : ∃ W, W6.drewN nq = W := ⟨_, rfl⟩
                  rw [hW6]
                  have hb6 : Below W6.heap.size W6 W7 := by rw [← hW6]; exact pw_below_drewN (Below.refl _ _) _
                  have HB7 := Lib.hid (HB6.out.trans (hb6.mono (Nat.le_of_lt HA6.out.c.s)) : Below D W3 W7)
                  have hA7 := HA6.out.below hb6
                  have hX7 := HX6.out.below hb6
                  have HA7 := Lib.hid ((hA7.set hvaN vk y.f7).size (HMove.out hyes))
                  have HB8 := Lib.hid (below_set2 (j := vk) (v := .int .i64 y.f7) (by omega : D ≤ D + 1 + va) HB7.out)
                  clear hW6 hb6 c1 c2 e7 hyes
                  have e7 := hX7.k7
                  rw [Nat.zero_add] at e7
                  have c1 := hA7.c.c va hvaN
                  have c2 := (hA7.r va hvaN).c vk hvkN
                  have c3 := (hA7.r va hvaN).f vk hvkN
                  have d1 : ¬ D + 1 + va = D := by omega
                  have d2 : ¬ D = D + 1 + va := by omega
                  clear hA7 hX7
                  go_upto_region 13 with fail
                  go_region
                  clear c1 c2 c3 d1 d2 e7
                  go_wp2_with fail
                  refine ⟨⟨k + 1, by simp, HLt.out, Lib.hid (HA7.out.below (Below.refl _ _).drew), Lib.hid HB8.out.drew⟩, by have := HLt.out; simp [intOf]; omega⟩
                · have hno : ¬ (va ≠ vk ∧ (cur = 0 ∨ y.f7 < cur)) := fun h => h.2.elim h5 h6
                  have g6 : decide (y.f7 < cur) = false := decide_eq_false h6
                  go_quiet (fail)
                  obtain ⟨W7, hW6⟩ : ∃ W, W6.drewN nq = W := ⟨_, rfl⟩
                  rw [hW6]
                  have hb6 : Below W6.heap.size W6 W7 := by rw [← hW6]; exact pw_below_drewN (Below.refl _ _) _
                  have HB7 := Lib.hid (HB6.out.trans (hb6.mono (Nat.le_of_lt HA6.out.c.s)) : Below D W3 W7)
                  have HA7 : Hid (AMem W7 D N (fun i j => ahS x.nd p.of i j (k + 1))) := Lib.hid ((HA6.out.below hb6).size (HStay.out hno))
                  clear hW6 hb6 c1 c2 e7 hno
                  go_wp2_with fail
                  refine ⟨⟨k + 1, by simp, HLt.out, HA7, HB7⟩, by have := HLt.out; simp [intOf]; omega⟩
          · have g1 : (y.f0 != 8) = true := by simpa using h8
            have HAn : Hid (AMem W5 D N (fun i j => ahS x.nd p.of i j (k + 1))) := Lib.hid (HA5.out.size fun i j _ _ => (HMiss.out i j (fun hc => h8 hc.1)).symm)
            clear h8 hDl hin
            go_wp2_with fail
            refine ⟨⟨k + 1, by simp, HLt.out, HAn, HB5⟩, by have := HLt.out; simp [intOf]; omega⟩
        · obtain rfl : n = k := by omega
          have hDN : D + N < wr.heap.size := by
            have h1 := HBx.out.size
            have h2 := HZ3.out
            have h3 := HD.out
            omega
          have HFin : Hid (AheadP w x.nd p.of N (.returned (.slice (some ⟨D, 0, none⟩) N N)) wr) := Lib.hid ⟨D, by rw [HPs.out]; have := HD.out; omega, rfl, HAx.out.size (fun i j _ _ => by rw [HN.out]), hDN, HWx.out⟩
          clear hlt hk hDN
          go_wp2_with fail
          go_ret
          exact HFin.out
end Go.Proofs.YtonnmkhmhndalaaDoor
end
section
namespace Go.Proofs.YtonnmkhmhndalaaDoor
set_option linter.unusedVariables false
set_option linter.unusedSimpArgs false
open Go.RowKit Go.Proofs.YtonnmkhmhndalaaDoorW.PrintWords Go.Proofs.YtonnmkhmhndalaaDoorW.PrintLast Go.Proofs.YtonnmkhmhndalaaDoorW.PrintMore
theorem C_of_cl {W : World} {b n : Nat} {f : Nat → Int} (h : Cl (Value.int .i64) W b n f) (hn : n ≤ 9223372036854775807) : Kd.C (Kd.int .i64) W (some ⟨b, 0, none⟩) n ((List.range n).map f) := by
  have hl : ((List.range n).map f).length = n := by rw [List.length_map, List.length_range]
  refine ⟨hl, by omega, fun _ => ⟨_, rfl, fun j p hj => ?_⟩⟩
  have hlt : j < n := by
    rcases Nat.lt_or_ge j n with h1 | h1
    · exact h1
    · rw [List.getElem?_eq_none (by omega)] at hj; cases hj
  have hp : f j = p := by
    rw [List.getElem?_map, List.getElem?_range hlt] at hj
    exact Option.some.inj hj
  refine ⟨[.int .i64 p], rfl, rfl, fun i u hu => ?_⟩
  match i, hu with
  | 0, hu =>
    injection hu with hu
    subst hu
    rw [add_plain, Nat.zero_add]
    have := h.c j hlt
    rw [hp] at this
    show W.cell? ⟨b, j * 1 + 0, none⟩ = _
    rw [Nat.mul_one, Nat.add_zero]
    exact this
theorem C_of_amem {W : World} {D N : Nat} {F : Nat → Nat → Int} (h : AMem W D N F) (hN : N ≤ 1000000) : Kd.C (Kd.slice 3 (Kd.int .i64)) W (some ⟨D, 0, none⟩) N ((List.range N).map fun i => (List.range N).map (F i)) := by
  have hl : ((List.range N).map fun i => (List.range N).map (F i)).length = N := by rw [List.length_map, List.length_range]
  refine ⟨hl, by omega, fun _ => ⟨_, rfl, fun j p hj => ?_⟩⟩
  have hlt : j < N := by
    rcases Nat.lt_or_ge j N with h1 | h1
    · exact h1
    · rw [List.getElem?_eq_none (by omega)] at hj; cases hj
  have hp : (List.range N).map (F j) = p := by
    rw [List.getElem?_map, List.getElem?_range hlt] at hj
    exact Option.some.inj hj
  have hpl : p.length = N := by rw [← hp, List.length_map, List.length_range]
  refine ⟨[.slice (some ⟨D + 1 + j, 0, none⟩) N N], rfl, ⟨_, _, by rw [hpl], by omega, by rw [hpl, ← hp]; exact C_of_cl (h.r j hlt) (by omega)⟩, fun i u hu => ?_⟩
  match i, hu with
  | 0, hu =>
    injection hu with hu
    subst hu
    rw [add_plain, Nat.zero_add]
    show W.cell? ⟨D, j * 1 + 0, none⟩ = _
    rw [Nat.mul_one, Nat.add_zero]
    exact h.c.c j hlt
theorem eq_of_getD (a b : List Int) (hl : a.length = b.length) (h : ∀ j, j < a.length → a.getD j 0 = b.getD j 0) : a = b := by
  apply List.ext_getElem hl
  intro j h1 h2
  have := h j h1
  rw [List.getD_eq_getElem?_getD, List.getElem?_eq_getElem h1, List.getD_eq_getElem?_getD, List.getElem?_eq_getElem h2] at this
  exact this
def EqP (w : World) (P : Prop) (e : Ending) (w' : World) : Prop := ∃ b : Bool, e = .returned (.bool b) ∧ (b = true ↔ P) ∧ Below w.heap.size w w'
theorem EqP.no {w w' : World} {P : Prop} (h : ¬ P) (hb : Below w.heap.size w w') : EqP w P (.returned (.bool false)) w' := ⟨false, rfl, ⟨fun e => (by cases e), fun e => absurd e h⟩, hb⟩
theorem EqP.yes {w w' : World} {P : Prop} (h : P) (hb : Below w.heap.size w w') : EqP w P (.returned (.bool true)) w' := ⟨true, rfl, ⟨fun _ => h, fun _ => rfl⟩, hb⟩
set_option maxRecDepth 100000 in
set_option maxHeartbeats 4000000 in
theorem equal_any (a b : List Int) (A : Option Addr) (c : Nat) (B : Option Addr) (d : Nat) (w : World) (ha : Kd.C (Kd.int .i64) w A a.length a) (hb : Kd.C (Kd.int .i64) w B b.length b) (hl : b.length ≤ 1000000000) :
    Calls Tryd.prog 43 #[.slice A a.length c, .slice B b.length d] w (EqP w (a = b)) := by
  obtain ⟨b1, o1, hA, hra⟩ := ints_row ha
  obtain ⟨b2, o2, hB, hrb⟩ := ints_row hb
  have HA := Lib.hid hA
  have HB := Lib.hid hB
  have HRa := Lib.hid hra
  have HRb := Lib.hid hrb
  clear ha hb hA hB hra hrb
  obtain ⟨n, hn⟩ : ∃ n, a.length = n := ⟨_, rfl⟩
  obtain ⟨m, hm⟩ : ∃ m, b.length = m := ⟨_, rfl⟩
  rw [hm] at hl
  have HN := Lib.hid hn
  have HM := Lib.hid hm
  by_cases hnm : n = m
  · subst hnm
    go_enter Tryd.func43, Tryd.ntmps43
    go_upto_region 4 with fail
    go_loopw [5, 13] (fun _ v13 wx => ∃ i : Nat, v13 = .int .i64 i ∧ i ≤ n ∧ Hid (∀ j, j < i → a.getD j 0 = b.getD j 0) ∧ Hid (Below w.heap.size w wx)) (fun _ v13 _ => n - (intOf v13).toNat)
    case atStart => exact ⟨0, rfl, Nat.zero_le _, Lib.hid (fun j hj => absurd hj (Nat.not_lt_zero j)), Lib.hid (Below.refl _ _)⟩
    case round =>
      obtain ⟨i, rfl, hi, HE, HBx⟩ := hrel
      by_cases hlt : i < n
      · have HLt := Lib.hid hlt
        obtain ⟨rfl, -⟩ := HA.out (by rw [HN.out]; omega)
        obtain ⟨rfl, -⟩ := HB.out (by rw [HM.out]; omega)
        have r1 := HRa.out i (by rw [HN.out]; exact hlt) wr HBx.out
        have r2 := HRb.out i (by rw [HM.out]; exact hlt) wr HBx.out
        obtain ⟨u, hu⟩ : ∃ v, a.getD i 0 = v := ⟨_, rfl⟩
        obtain ⟨v, hv⟩ : ∃ v, b.getD i 0 = v := ⟨_, rfl⟩
        rw [hu] at r1
        rw [hv] at r2
        have HU := Lib.hid hu
        have HV := Lib.hid hv
        clear hu hv
        go_upto_region 6 with fail
        by_cases huv : u = v
        · have e : (u != v) = false := by rw [huv]; simp
          have HEn : Hid (∀ j, j < i + 1 → a.getD j 0 = b.getD j 0) := Lib.hid (fun j hj => by
            by_cases e : j < i
            · exact HE.out j e
            · obtain rfl : j = i := by omega
              rw [HU.out, HV.out, huv])
          clear huv
          go_quiet (fail)
          obtain ⟨W6, hW6⟩ : ∃ W, wr.drewN nq = W := ⟨_, rfl⟩
          rw [hW6]
          have HB6 : Hid (Below w.heap.size w W6) := Lib.hid (by rw [← hW6]; exact pw_below_drewN HBx.out _)
          clear hW6 r1 r2
          go_wp2_with fail
          refine ⟨⟨i + 1, by simp, HLt.out, HEn, HB6⟩, by have := HLt.out; simp [intOf]; omega⟩
        · have e : (u != v) = true := by simpa using huv
          have HNot : Hid (¬ a = b) := Lib.hid (fun h => by rw [h, HV.out] at HU; exact huv HU.out.symm)
          clear huv
          go_quiet (fail)
          obtain ⟨W6, hW6⟩ : ∃ W, wr.drewN nq = W := ⟨_, rfl⟩
          rw [hW6]
          have HB6 : Hid (Below w.heap.size w W6) := Lib.hid (by rw [← hW6]; exact pw_below_drewN HBx.out _)
          clear hW6 r1 r2
          go_wp2_with fail
          go_ret
          exact EqP.no HNot.out HB6.out
      · obtain rfl : n = i := by omega
        have HYes : Hid (a = b) := Lib.hid (eq_of_getD a b (HN.out.trans HM.out.symm) (by rw [HN.out]; exact HE.out))
        clear hlt hi
        go_wp2_with fail
        go_ret
        exact EqP.yes HYes.out HBx.out
  · have hne : ((n : Int) != (m : Int)) = true := by rw [bne_iff_ne]; omega
    have HNot : Hid (¬ a = b) := Lib.hid (fun h => hnm (by rw [← HN.out, ← HM.out, h]))
    clear hnm
    go_enter Tryd.func43, Tryd.ntmps43
    go_wp2_with fail
    go_ret
    exact EqP.no HNot.out (Below.refl _ _)
theorem eq_of_rows (a b : List (List Int)) (hl : a.length = b.length) (h : ∀ j, j < a.length → a.getD j [] = b.getD j []) : a = b := by
  apply List.ext_getElem hl
  intro j h1 h2
  have := h j h1
  rw [List.getD_eq_getElem?_getD, List.getElem?_eq_getElem h1, List.getD_eq_getElem?_getD, List.getElem?_eq_getElem h2] at this
  exact this
set_option maxRecDepth 100000 in
set_option maxHeartbeats 4000000 in
theorem eqf_any (a b : List (List Int)) (A : Option Addr) (c : Nat) (B : Option Addr) (d : Nat) (w : World) (ha : Kd.C (Kd.slice 3 (Kd.int .i64)) w A a.length a) (hb : Kd.C (Kd.slice 3 (Kd.int .i64)) w B b.length b) (hl : b.length ≤ 1000000) (hr : ∀ j, j < b.length → (b.getD j []).length ≤ 1000000) :
    Calls Tryd.prog 42 #[.slice A a.length c, .slice B b.length d, .func (.func 43) #[] #[]] w (EqP w (a = b)) := by
  obtain ⟨b1, o1, hA, hra⟩ := rows_row ha
  obtain ⟨b2, o2, hB, hrb⟩ := rows_row hb
  have HA := Lib.hid hA
  have HB := Lib.hid hB
  have HRa := Lib.hid hra
  have HRb := Lib.hid hrb
  have HR := Lib.hid hr
  clear ha hb hA hB hra hrb hr
  obtain ⟨n, hn⟩ : ∃ n, a.length = n := ⟨_, rfl⟩
  obtain ⟨m, hm⟩ : ∃ m, b.length = m := ⟨_, rfl⟩
  rw [hm] at hl
  have HN := Lib.hid hn
  have HM := Lib.hid hm
  by_cases hnm : n = m
  · subst hnm
    go_enter Tryd.func42, Tryd.ntmps42
    go_upto_region 4 with fail
    rw [hn, hm]
    go_loopw [7, 8, 9, 17] (fun _ _ _ v17 wx => ∃ i : Nat, v17 = .int .i64 i ∧ i ≤ n ∧ Hid (∀ j, j < i → a.getD j [] = b.getD j []) ∧ Hid (Below w.heap.size w wx)) (fun _ _ _ v17 _ => n - (intOf v17).toNat)
    case atStart => exact ⟨0, rfl, Nat.zero_le _, Lib.hid (fun j hj => absurd hj (Nat.not_lt_zero j)), Lib.hid (Below.refl _ _)⟩
    case round =>
      obtain ⟨i, rfl, hi, HE, HBx⟩ := hrel
      by_cases hlt : i < n
      · have HLt := Lib.hid hlt
        obtain ⟨rfl, -⟩ := HA.out (by rw [HN.out]; omega)
        obtain ⟨rfl, -⟩ := HB.out (by rw [HM.out]; omega)
        obtain ⟨A0, c0, hl0, hq0⟩ := HRa.out i (by rw [HN.out]; exact hlt)
        obtain ⟨B0, d0, hl1, hq1⟩ := HRb.out i (by rw [HM.out]; exact hlt)
        have r1 := (hq0 wr HBx.out).1
        have r2 := (hq1 wr HBx.out).1
        have hcall := equal_any (a.getD i []) (b.getD i []) A0 c0 B0 d0 wr (hq0 wr HBx.out).2 (hq1 wr HBx.out).2 (Nat.le_trans (HR.out i (by rw [HM.out]; exact hlt)) (by decide))
        obtain ⟨ra, hra⟩ : ∃ r, a.getD i [] = r := ⟨_, rfl⟩
        obtain ⟨rb, hrb⟩ : ∃ r, b.getD i [] = r := ⟨_, rfl⟩
        rw [hra] at r1
        rw [hrb] at r2
        rw [hra, hrb] at hcall
        have HC := Lib.hid hcall
        have HRA := Lib.hid hra
        have HRB := Lib.hid hrb
        clear hl0 hl1 hq0 hq1 hcall hra hrb
        go_wp2_with fail
        refine HC.out.mono ?_
        rintro e w6 ⟨v, rfl, hv, hb6⟩
        have HB6 := Lib.hid (HBx.out.trans (hb6.mono HBx.out.size))
        cases v
        · have HNot : Hid (¬ a = b) := Lib.hid (fun h => by
            have := hv.2 (by rw [← HRA.out, ← HRB.out, h])
            cases this)
          clear hv hb6 r1 r2
          go_wp2_with fail
          go_ret
          exact EqP.no HNot.out HB6.out
        · have HEn : Hid (∀ j, j < i + 1 → a.getD j [] = b.getD j []) := Lib.hid (fun j hj => by
            by_cases e : j < i
            · exact HE.out j e
            · obtain rfl : j = i := by omega
              rw [HRA.out, HRB.out]; exact hv.1 rfl)
          clear hv hb6 r1 r2
          go_wp2_with fail
          refine ⟨⟨i + 1, by simp, HLt.out, HEn, HB6⟩, by have := HLt.out; simp [intOf]; omega⟩
      · obtain rfl : n = i := by omega
        have HYes : Hid (a = b) := Lib.hid (eq_of_rows a b (HN.out.trans HM.out.symm) (by rw [HN.out]; exact HE.out))
        clear hlt hi
        go_wp2_with fail
        go_ret
        exact EqP.yes HYes.out HBx.out
  · have hne : ((n : Int) != (m : Int)) = true := by rw [bne_iff_ne]; omega
    have HNot : Hid (¬ a = b) := Lib.hid (fun h => hnm (by rw [← HN.out, ← HM.out, h]))
    clear hnm
    go_enter Tryd.func42, Tryd.ntmps42
    go_wp2_with fail
    go_ret
    exact EqP.no HNot.out (Below.refl _ _)
end Go.Proofs.YtonnmkhmhndalaaDoor
end
section
namespace Go.Proofs.YtonnmkhmhndalaaDoor
set_option linter.unusedVariables false
set_option linter.unusedSimpArgs false
open Go.RowKit Go.Proofs.YtonnmkhmhndalaaDoorW.PrintWords Go.Proofs.YtonnmkhmhndalaaDoorW.PrintLast Go.Proofs.YtonnmkhmhndalaaDoorW.PrintMore
theorem countP_upd_same (f : Nat → Bool) (a : Nat) : ∀ N, N ≤ a → (List.range N).countP (upd f a true) = (List.range N).countP f := by
  intro N hN
  apply List.countP_congr
  intro x hx
  rw [upd_ne _ _ (by have := List.mem_range.1 hx; omega)]
theorem countP_upd_true (f : Nat → Bool) (a : Nat) : ∀ N, a < N → (List.range N).countP (upd f a true) = if f a then (List.range N).countP f else (List.range N).countP f + 1
  | 0, h => absurd h (Nat.not_lt_zero _)
  | N + 1, h => by
    rw [List.range_succ, List.countP_append, List.countP_append, List.countP_singleton, List.countP_singleton]
    by_cases e : a = N
    · subst e
      rw [upd_same, countP_upd_same f a a (Nat.le_refl _), if_pos rfl]
      cases f a <;> simp
    · rw [countP_upd_true f a N (by omega), upd_ne _ _ (Ne.symm e)]
      cases f a <;> simp <;> omega
theorem countP_all (f : Nat → Bool) (N : Nat) : (List.range N).countP f = N ↔ ∀ b, b < N → f b = true := by
  have h : (List.range N).countP f = (List.range N).length ↔ ∀ b ∈ List.range N, f b = true := List.countP_eq_length
  rw [List.length_range] at h
  rw [h]
  exact ⟨fun h b hb => h b (List.mem_range.2 hb), fun h b hb => h b (List.mem_range.1 hb)⟩
theorem MB.congr {W : World} {b N sz : Nat} {f g : Nat → Bool} (h : MB W b N f sz) (e : ∀ k, f k = g k) : MB W b N g sz := by
  have : f = g := funext e
  rw [← this]
  exact h
def CkE (w : World) (x : NL) (p : PV) (e : Ending) (w' : World) : Prop := ∃ r : Int, e = .returned (.int .i64 r) ∧ (r = 0 ∨ r = 1) ∧ (r = 0 ↔ PMay x.nd p) ∧ Below w.heap.size w w'
theorem CkE.no {w w' : World} {x : NL} {p : PV} (h : ¬ PMay x.nd p) (hb : Below w.heap.size w w') : CkE w x p (.returned (.int .i64 1)) w' := ⟨1, rfl, Or.inr rfl, ⟨fun e => absurd e (by decide), fun e => absurd e h⟩, hb⟩
theorem CkE.yes {w w' : World} {x : NL} {p : PV} (h : PMay x.nd p) (hb : Below w.heap.size w w') : CkE w x p (.returned (.int .i64 0)) w' := ⟨0, rfl, Or.inl rfl, ⟨fun _ => h, fun _ => rfl⟩, hb⟩
set_option maxRecDepth 100000 in
set_option maxHeartbeats 8000000 in
theorem pcheck_any (x : NL) (A : Option Addr) (c : Nat) (B : Option Addr) (d : Nat) (p : PV) (A2 : Option Addr) (c2 : Nat) (B2 : Option Addr) (d2 : Nat) (w : World) (hI : NIn w x A c B d) (hP : PIn w p A2 c2 B2 d2) (hm : MayP x) :
    Calls Tryd.prog 24 #[nlV x A c B d, pV p A2 c2 B2 d2] w (CkE w x p) := by
  obtain ⟨n, hn⟩ : ∃ n, x.nd.length = n := ⟨_, rfl⟩
  have hn4 : n ≤ 4096 := by rw [← hn]; exact hm.n
  obtain ⟨no, hno⟩ : ∃ k, p.of.length = k := ⟨_, rfl⟩
  obtain ⟨na, hna⟩ : ∃ k, p.ah.length = k := ⟨_, rfl⟩
  have HI := Lib.hid hI
  have HP := Lib.hid hP
  have HM := Lib.hid hm
  have HN := Lib.hid hn
  have HNo := Lib.hid hno
  have HNa := Lib.hid hna
  clear hI hP hm
  obtain ⟨W0, hW0⟩ : ∃ W, w.alloc (Obj.cells #[.slice A n c, .slice B x.nt.length d, .int .i64 x.pt] 25) = W := ⟨_, rfl⟩
  obtain ⟨hx0, hb0, hz0⟩ := box_list hW0
  obtain ⟨W1, hW1⟩ : ∃ W, W0.alloc (Obj.cells #[.slice A2 no c2, .int .i64 p.n, .slice B2 na d2] 46) = W := ⟨_, rfl⟩
  obtain ⟨hx1, hb1, hz1⟩ := box_parts hW1
  obtain ⟨P, hPs⟩ : ∃ P, w.heap.size = P := ⟨_, rfl⟩
  rw [hz0, hPs] at hx1
  rw [hPs] at hx0 
  have HX0 := Lib.hid (hx0.below hb1)
  have HX1 := Lib.hid hx1
  have HB1 := Lib.hid (hb0.trans (hb1.mono (by omega)))
  have HZ1 := Lib.hid (show W1.heap.size = P + 2 by omega)
  have HZ0 := Lib.hid (show W0.heap.size = P + 1 by omega)
  have HPs := Lib.hid hPs
  have hck : Calls Tryd.prog 25 #[.agg #[.slice A n c, .slice B x.nt.length d, .int .i64 x.pt]] W1 fun e w' => e = .returned (.int .i64 0) ∧ Below W1.heap.size W1 w' := by
    have h := check_any x A c B d W1 (HI.out.below HB1.out)
    have e : chkI x = 0 := by unfold chkI; rw [(may_iff x).2 HM.out]; rfl
    rw [e] at h
    dsimp only [nlV] at h
    rw [hn] at h
    exact h
  have HCk := Lib.hid hck
  clear hx0 hb0 hz0 hx1 hb1 hz1 hck
  by_cases hok : (1 ≤ p.n ∧ p.n ≤ 64) ∧ no = n ∧ (na : Int) = p.n
  · obtain ⟨⟨ho1, ho2⟩, rfl, ho4⟩ := hok
    obtain ⟨N, hN⟩ : ∃ N : Nat, p.n = (N : Int) := ⟨p.n.toNat, by omega⟩
    rw [hN] at ho1 ho2 ho4 HX1 hW1
    obtain rfl : na = N := by omega
    have hN1 : 1 ≤ na := by omega
    have hN2 : na ≤ 64 := by omega
    have HNn := Lib.hid hN
    have HOk := Lib.hid (And.intro hN1 hN2)
    have hI1 : decide ((na : Int) < 1) = false := decide_eq_false (by omega)
    have hI2 : decide ((na : Int) > 64) = false := decide_eq_false (by omega)
    go_enter Tryd.func24, Tryd.ntmps24
    go_upto_region 1 with fail
    try rw [HZ0.out]
    obtain ⟨x0, x1, x2⟩ := HX0.out
    clear hN hW0 hW1 ho4
    go_upto_region 3 with (first | fail | (go_at_call 25; refine HCk.out.mono ?_; rintro e w2 ⟨rfl, hb2⟩; have HB2 := Lib.hid (HB1.out.trans (hb2.mono HB1.out.size)); have HX2 := Lib.hid (HX1.out.below hb2); have HY2 := Lib.hid (HX0.out.below hb2); have HZ2 := Lib.hid (Nat.le_trans (Nat.le_of_eq HZ1.out.symm) hb2.size); obtain ⟨p0, p1, p2⟩ := HX2.out; obtain ⟨y0, y1, y2⟩ := HY2.out; clear hb2 x0 x1 x2))
    have hmm := @run_makeMap Tryd.prog
    go_upto_region 4 with fail
    clear hmm
    obtain ⟨W3, hW3⟩ : ∃ W, w2.alloc (Obj.map #[] 0) = W := ⟨_, rfl⟩
    rw [hW3]
    have hmb := MB.made w2
    rw [hW3] at hmb
    have hb3 : Below w2.heap.size w2 W3 := by rw [← hW3]; exact below_alloc (Below.refl _ _) _
    have hz3 : W3.heap.size = w2.heap.size + 1 := by rw [← hW3]; simp
    obtain ⟨Mp, hMp⟩ : ∃ m, w2.heap.size = m := ⟨_, rfl⟩
    rw [hMp] at hmb hz3 HZ2 ⊢
    have HX3 := Lib.hid (HX2.out.below hb3)
    have HY3 := Lib.hid (HY2.out.below hb3)
    have HB3 := Lib.hid (HB2.out.trans (hb3.mono HB2.out.size))
    have HM3 : Hid (MB W3 Mp 0 (usedN p.of 0) ((List.range na).countP (usedN p.of 0))) := Lib.hid (by
      have e : (List.range na).countP (usedN p.of 0) = 0 := by
        rw [List.countP_eq_zero]
        intro b _
        rw [usedN_zero]
        decide
      rw [e]
      exact hmb.congr fun k => (usedN_zero p.of k).symm)
    have HZ3 := Lib.hid (show P + 2 ≤ Mp ∧ W3.heap.size = Mp + 1 from ⟨HZ2.out, hz3⟩)
    clear hmb hb3 hz3 hMp hW3 p0 p1 p2 y0 y1 y2 HX2 HY2 HB2 HZ2
    obtain ⟨p0, p1, p2⟩ := HX3.out
    go_upto_region 5 with fail
    clear p0 p1 p2
    obtain ⟨bo, oo, hAo, hco⟩ := ints_row HP.out.h0
    have HAo := Lib.hid hAo
    have HCo := Lib.hid hco
    clear hAo hco
    have hgB : ∀ W, W3.grownBy W (some Mp) → Below Mp W3 W := fun W hg => (Below.refl Mp W3).grown hg (by have := HZ3.out; omega) (fun k hk => by injection hk with hk; omega)
    have HgB := Lib.hid hgB
    clear hgB
    go_loopw [7, 46] (fun _ v46 wx => ∃ i : Nat, v46 = .int .i64 i ∧ i ≤ no ∧ Hid (∀ j, j < i → 0 ≤ p.of.getD j 0 ∧ p.of.getD j 0 < (na : Int)) ∧ Hid (MB wx Mp i (usedN p.of i) ((List.range na).countP (usedN p.of i))) ∧ Hid (W3.grownBy wx (some Mp))) (fun _ v46 _ => no - (intOf v46).toNat)
    case atStart => exact ⟨0, rfl, Nat.zero_le _, Lib.hid (fun j hj => absurd hj (Nat.not_lt_zero j)), HM3, Lib.hid (World.grownBy.refl _ _)⟩
    case round =>
      obtain ⟨i, rfl, hi, HF, HMx, HGx⟩ := hrel
      have HBx := Lib.hid (HgB.out _ HGx.out)
      have HW := Lib.hid (HB3.out.trans (HBx.out.mono (by rw [HPs.out]; have := HZ3.out; omega)))
      by_cases hlt : i < no
      · obtain ⟨p0, p1, p2⟩ := HX3.out.belowB HBx.out (by have := HZ3.out; omega)
        obtain ⟨rfl, -⟩ := HAo.out (by rw [HNo.out]; omega)
        have r2 := HCo.out i (by rw [HNo.out]; exact hlt) wr HW.out
        obtain ⟨v, hv⟩ : ∃ v, p.of.getD i 0 = v := ⟨_, rfl⟩
        rw [hv] at r2
        have HV := Lib.hid hv
        have HLt := Lib.hid hlt
        clear hv
        go_upto_region 7 with fail
        by_cases hv0 : v < 0
        · have g1 : decide (v < 0) = true := decide_eq_true hv0
          have HNot : Hid (¬ PMay x.nd p) := Lib.hid (fun h => by have := (h.ofl i (by rw [HN.out]; exact HLt.out)).1; rw [HV.out] at this; omega)
          have HB9 := HW
          go_wp2_with fail
          go_ret
          exact CkE.no HNot.out HB9.out
        · have g1 : decide (v < 0) = false := decide_eq_false hv0
          by_cases hv1 : v ≥ (na : Int)
          · have g2 : decide (v ≥ (na : Int)) = true := decide_eq_true hv1
            have HNot : Hid (¬ PMay x.nd p) := Lib.hid (fun h => by have := (h.ofl i (by rw [HN.out]; exact HLt.out)).2; rw [HV.out, HNn.out] at this; omega)
            have HB9 := HW
            go_wp2_with fail
            go_ret
            exact CkE.no HNot.out HB9.out
          · have g2 : decide (v ≥ (na : Int)) = false := decide_eq_false hv1
            obtain ⟨a, rfl⟩ : ∃ a : Nat, v = (a : Int) := ⟨v.toNat, by omega⟩
            have hal : a < na := by omega
            obtain ⟨W4, hrun, hmb4, hg4⟩ := HMx.out.store a (by omega) (by omega)
            have HM4 : Hid (MB W4 Mp (i + 1) (usedN p.of (i + 1)) ((List.range na).countP (usedN p.of (i + 1)))) := Lib.hid (by
              have e : upd (usedN p.of i) a true = usedN p.of (i + 1) := funext (usedN_succ p.of i a HV.out)
              rw [← countP_upd_true _ a na hal, e] at hmb4
              exact hmb4)
            have HG4 := Lib.hid (HGx.out.trans hg4)
            have HFn : Hid (∀ j, j < i + 1 → 0 ≤ p.of.getD j 0 ∧ p.of.getD j 0 < (na : Int)) := Lib.hid (fun j hj => by
              by_cases e : j < i
              · exact HF.out j e
              · obtain rfl : j = i := by omega
                rw [HV.out]; omega)
            clear hmb4 hg4
            go_wp2_with fail
            refine ⟨⟨i + 1, by simp, HLt.out, HFn, HM4, HG4⟩, by have := HLt.out; simp [intOf]; omega⟩
      · obtain rfl : no = i := by omega
        obtain ⟨y0, y1, y2⟩ := HY3.out.belowB HBx.out (by have := HZ3.out; omega)
        clear hlt hi
        go_upto_region 12 with fail
        clear y0 y1 y2
        have HX4 := Lib.hid (HX3.out.belowB HBx.out (by have := HZ3.out; omega))
        have HY4 := Lib.hid (HY3.out.belowB HBx.out (by have := HZ3.out; omega))
        obtain ⟨W4, hW4⟩ : ∃ W, wr = W := ⟨_, rfl⟩
        rw [hW4] at HW HMx HX4 HY4 ⊢
        clear hW4 HBx HGx HgB HM3 HX3 HY3
        go_loopw [8, 9, 11, 64] (fun _ _ _ v64 wx => ∃ i : Nat, v64 = .int .i64 i ∧ i ≤ no ∧ Hid (∀ a, a < i → (x.nd.getD a z39).f0 ≠ 8 → ∀ v ∈ (x.nd.getD a z39).f3, p.of.getD v.toNat 0 = p.of.getD a 0) ∧ Hid (Below W4.heap.size W4 wx)) (fun _ _ _ v64 _ => no - (intOf v64).toNat)
        case atStart => exact ⟨0, rfl, Nat.zero_le _, Lib.hid (fun a ha => absurd ha (Nat.not_lt_zero a)), Lib.hid (Below.refl _ _)⟩
        case round =>
          obtain ⟨i, rfl, hi, HO, HBx⟩ := hrel
          have HWx := Lib.hid (HW.out.trans (HBx.out.mono HW.out.size))
          by_cases hlt : i < no
          · have HLt := Lib.hid hlt
            have hk' : i < x.nd.length := by rw [HN.out]; exact hlt
            obtain ⟨b, o, A3, c3, hAn, hl3, hbs, hND⟩ := nodes_in HI.out.h0 i hk'
            subst hAn
            have hins := HM.out.ins i hk'
            have hlen := HI.out.b0 (x.nd.getD i z39) (by rw [List.getD_eq_getElem?_getD, List.getElem?_eq_getElem hk']; exact List.getElem_mem hk')
            have HOi := Lib.hid (fun (hq : (x.nd.getD i z39).f0 ≠ 8 → ∀ v ∈ (x.nd.getD i z39).f3, p.of.getD v.toNat 0 = p.of.getD i 0) (a : Nat) (ha : a < i + 1) => show (x.nd.getD a z39).f0 ≠ 8 → ∀ v ∈ (x.nd.getD a z39).f3, p.of.getD v.toNat 0 = p.of.getD a 0 from (by
              by_cases e : a < i
              · exact HO.out a e
              · obtain rfl : a = i := by omega
                exact hq))
            have HOn := Lib.hid (fun (h : PMay x.nd p) => h.one i hk')
            generalize x.nd.getD i z39 = y at *
            obtain ⟨h0, h1, h2, h3, h4, h5, h6, h7, hC3⟩ := hND _ HWx.out
            have HC3 := Lib.hid hC3
            have HIn := Lib.hid hins
            clear hk' hC3 hbs hND hins
            obtain ⟨m, hm⟩ : ∃ m, y.f3.length = m := ⟨_, rfl⟩
            go_upto_region 14 with fail
            obtain ⟨W6, hW6⟩ : ∃ W, wr.alloc (Obj.cells #[Value.int IntKind.i64 y.f0, Value.int IntKind.i64 y.f1, Value.int IntKind.i64 y.f2, Value.slice A3 m c3, Value.string y.f4, Value.int IntKind.i64 y.f5, Value.int IntKind.i64 y.f6, Value.int IntKind.i64 y.f7] 39) = W := ⟨_, rfl⟩
            rw [hW6]
            obtain ⟨hbx, hb6⟩ := box_node (W' := W6) HC3.out (by rw [hm]; exact hW6)
            have HB6 := Lib.hid (HBx.out.trans (hb6.mono HBx.out.size))
            obtain ⟨G, hG⟩ : ∃ G, wr.heap.size = G := ⟨_, rfl⟩
            rw [hG] at hbx ⊢
            have HXn := Lib.hid hbx
            have HMm := Lib.hid hm
            obtain ⟨-, -, -, s3, -, -, -, -, -⟩ := hbx
            rw [hm, Nat.zero_add] at s3
            clear h0 h1 h2 h3 h4 h5 h6 h7 hW6 hb6 hG
            go_upto_region 15 with fail
            clear s3
            go_loopw [11, 72] (fun _ v72 wy => ∃ k : Nat, v72 = .int .i64 k ∧ k ≤ m ∧ Hid (y.f0 ≠ 8 → ∀ j, j < k → p.of.getD (y.f3.getD j 0).toNat 0 = p.of.getD i 0) ∧ Hid (Below W6.heap.size W6 wy)) (fun _ v72 _ => m - (intOf v72).toNat)
            case atStart => exact ⟨0, rfl, Nat.zero_le _, Lib.hid (fun _ j hj => absurd hj (Nat.not_lt_zero j)), Lib.hid (Below.refl _ _)⟩
            case round =>
              obtain ⟨k, rfl, hk, HK, HBy⟩ := hrel
              obtain ⟨y0, y1, y2, y3, y4, y5, y6, y7, hCy⟩ := HXn.out.below HBy.out
              have HBz := Lib.hid (HB6.out.trans (HBy.out.mono HB6.out.size))
              have HWz := Lib.hid (HW.out.trans (HBz.out.mono HW.out.size))
              by_cases hlk : k < m
              · have HLk := Lib.hid hlk
                have hkl : k < y.f3.length := by rw [HMm.out]; exact hlk
                have hmem : y.f3.getD k 0 ∈ y.f3 := by rw [List.getD_eq_getElem?_getD, List.getElem?_eq_getElem hkl]; exact List.getElem_mem hkl
                obtain ⟨hv0, hv1⟩ := HIn.out _ hmem
                obtain ⟨a, ha⟩ : ∃ a : Nat, y.f3.getD k 0 = (a : Int) := ⟨(y.f3.getD k 0).toNat, by omega⟩
                obtain ⟨b3, o3, rfl, r3, -⟩ := ints_at hCy k hkl
                rw [ha] at r3 hv1
                rw [HN.out] at hv1
                have han : a < no := by omega
                obtain ⟨rfl, -⟩ := HAo.out (by rw [HNo.out]; omega)
                have r1 := HCo.out a (by rw [HNo.out]; exact han) wr HWz.out
                have r2 := HCo.out i (by rw [HNo.out]; exact hlt) wr HWz.out
                obtain ⟨p0, p1, p2⟩ := HX4.out.below HBz.out
                obtain ⟨va, hva⟩ : ∃ v, p.of.getD a 0 = v := ⟨_, rfl⟩
                obtain ⟨vi, hvi⟩ : ∃ v, p.of.getD i 0 = v := ⟨_, rfl⟩
                rw [hva] at r1
                rw [hvi] at r2
                have HVa := Lib.hid hva
                have HVi := Lib.hid hvi
                have HAa := Lib.hid ha
                have HMe := Lib.hid hmem
                clear hva hvi ha hmem hkl hv0
                go_upto_region 17 with fail
                by_cases h8 : y.f0 = 8
                · have g8 : (y.f0 != 8) = false := by rw [h8]; rfl
                  have HKn : Hid (y.f0 ≠ 8 → ∀ j, j < k + 1 → p.of.getD (y.f3.getD j 0).toNat 0 = p.of.getD i 0) := Lib.hid (fun hq => absurd h8 hq)
                  clear h8
                  go_quiet (fail)
                  obtain ⟨W7, hW7⟩ : ∃ W, wr.drewN nq = W := ⟨_, rfl⟩
                  rw [hW7]
                  have hb7 : Below wr.heap.size wr W7 := by rw [← hW7]; exact pw_below_drewN (Below.refl _ _) _
                  have HB7 := Lib.hid (HBy.out.trans (hb7.mono HBy.out.size))
                  clear hW7 hb7 r1 r2 r3 p0 p1 p2 y0 y1 y2 y3 y4 y5 y6 y7
                  go_wp2_with fail
                  refine ⟨⟨k + 1, by simp, HLk.out, HKn, HB7⟩, by have := HLk.out; simp [intOf]; omega⟩
                · have g8 : (y.f0 != 8) = true := by simpa using h8
                  by_cases hvv : va = vi
                  · have e : (va != vi) = false := by rw [hvv]; simp
                    have HKn : Hid (y.f0 ≠ 8 → ∀ j, j < k + 1 → p.of.getD (y.f3.getD j 0).toNat 0 = p.of.getD i 0) := Lib.hid (fun hq j hj => by
                      by_cases e : j < k
                      · exact HK.out hq j e
                      · obtain rfl : j = k := by omega
                        rw [HAa.out, Int.toNat_natCast, HVa.out, HVi.out, hvv])
                    clear hvv
                    go_quiet (fail)
                    obtain ⟨W7, hW7⟩ : ∃ W, wr.drewN nq = W := ⟨_, rfl⟩
                    rw [hW7]
                    have hb7 : Below wr.heap.size wr W7 := by rw [← hW7]; exact pw_below_drewN (Below.refl _ _) _
                    have HB7 := Lib.hid (HBy.out.trans (hb7.mono HBy.out.size))
                    clear hW7 hb7 r1 r2 r3 p0 p1 p2 y0 y1 y2 y3 y4 y5 y6 y7
                    go_wp2_with fail
                    refine ⟨⟨k + 1, by simp, HLk.out, HKn, HB7⟩, by have := HLk.out; simp [intOf]; omega⟩
                  · have e : (va != vi) = true := by simpa using hvv
                    have HNot : Hid (¬ PMay x.nd p) := Lib.hid (fun h => by
                      have := HOn.out h h8 _ HMe.out
                      rw [HAa.out, Int.toNat_natCast, HVa.out, HVi.out] at this
                      exact hvv this)
                    clear hvv
                    go_quiet (fail)
                    obtain ⟨W7, hW7⟩ : ∃ W, wr.drewN nq = W := ⟨_, rfl⟩
                    rw [hW7]
                    have hb7 : Below wr.heap.size wr W7 := by rw [← hW7]; exact pw_below_drewN (Below.refl _ _) _
                    have HB9 := Lib.hid (HWz.out.trans (hb7.mono HWz.out.size))
                    clear hW7 hb7 r1 r2 r3 p0 p1 p2 y0 y1 y2 y3 y4 y5 y6 y7
                    go_wp2_with fail
                    go_ret
                    exact CkE.no HNot.out HB9.out
              · obtain rfl : m = k := by omega
                have HOx : Hid (y.f0 ≠ 8 → ∀ v ∈ y.f3, p.of.getD v.toNat 0 = p.of.getD i 0) := Lib.hid (fun hq v hv => by
                  obtain ⟨j, hj, rfl⟩ := List.getElem_of_mem hv
                  have := HK.out hq j (by rw [← HMm.out]; exact hj)
                  rw [List.getD_eq_getElem?_getD (l := y.f3), List.getElem?_eq_getElem hj] at this
                  exact this)
                clear hlk hk
                go_wp2_with fail
                refine ⟨⟨i + 1, by simp, HLt.out, Lib.hid (HOi.out HOx.out), HBz⟩, by have := HLt.out; simp [intOf]; omega⟩
          · obtain rfl : no = i := by omega
            clear hlt hi
            go_upto_region 21 with fail
            have HMw := Lib.hid (HMx.out.below HBx.out)
            obtain ⟨p0, p1, p2⟩ := HX4.out.below HBx.out
            obtain ⟨y0, y1, y2⟩ := HY4.out.below HBx.out
            obtain ⟨cnt, hcnt⟩ : ∃ k, (List.range na).countP (usedN p.of no) = k := ⟨_, rfl⟩
            rw [hcnt] at HMw
            have HCnt := Lib.hid hcnt
            clear hcnt HMx
            have hlen := fun ty => HMw.out.len ty
            by_cases hcn : cnt = na
            · subst hcn
              clear hlen
              have hah : ∀ W, Below wr.heap.size wr W → Calls Tryd.prog 40 #[.agg #[.slice A no c, .slice B x.nt.length d, .int .i64 x.pt], .agg #[.slice A2 no c2, .int .i64 (cnt : Int), .slice B2 cnt d2]] W (AheadP W x.nd p.of cnt) := fun W hW => by
                have hWq := HWx.out.trans (hW.mono HWx.out.size)
                have h := ahead2_any x A c B d p A2 c2 B2 d2 cnt W (HI.out.below hWq) (HP.out.below hWq) HM.out (HNo.out.trans HN.out.symm) HNn.out HOk.out.2 (fun i hi => HF.out i (by rw [← HN.out]; exact hi))
                dsimp only [nlV, pV] at h
                rw [HN.out, HNo.out, HNn.out, HNa.out] at h
                exact h
              have heq : ∀ D W, Below wr.heap.size wr W → AMem W D cnt (fun i j => ahS x.nd p.of i j x.nd.length) → Calls Tryd.prog 42 #[.slice B2 cnt d2, .slice (some ⟨D, 0, none⟩) cnt cnt, .func (.func 43) #[] #[]] W (EqP W (p.ah = ahL x.nd p.of cnt)) := fun D W hW hA => by
                have hWq := HWx.out.trans (hW.mono HWx.out.size)
                have hC := C_of_amem hA (by have := HOk.out; omega)
                have hl2 : ((List.range cnt).map fun i : Nat => (List.range cnt).map fun j : Nat => ahS x.nd p.of i j x.nd.length).length = cnt := by rw [List.length_map, List.length_range]
                have h := eqf_any p.ah ((List.range cnt).map fun i : Nat => (List.range cnt).map fun j : Nat => ahS x.nd p.of i j x.nd.length) B2 d2 (some ⟨D, 0, none⟩) cnt W (HP.out.below hWq).h1 (by rw [hl2]; exact hC) (by rw [hl2]; have := HOk.out; omega) (fun j hj => by
                  rw [hl2] at hj
                  have e := ahL_row x.nd p.of cnt j hj
                  unfold ahL at e
                  rw [e, List.length_map, List.length_range]
                  have := HOk.out; omega)
                rw [hl2, HNa.out] at h
                exact h
              have HAh := Lib.hid hah
              have HEq := Lib.hid heq
              have mkS : ∀ w', Below wr.heap.size wr w' → Below wr.heap.size wr w' ∧ w'.cell? ⟨P, 0, none⟩ = some (.slice A no c) ∧ w'.cell? ⟨P, 1, none⟩ = some (.slice B x.nt.length d) ∧ w'.cell? ⟨P, 2, none⟩ = some (.int .i64 x.pt) ∧ w'.cell? ⟨P + 1, 0, none⟩ = some (.slice A2 no c2) ∧ w'.cell? ⟨P + 1, 1, none⟩ = some (.int .i64 (cnt : Int)) ∧ w'.cell? ⟨P + 1, 2, none⟩ = some (.slice B2 cnt d2) ∧ ∀ ty, (Builtin.len_ #[81] ty #[.map (some Mp)]).run Tryd.prog w' = .ok (.int .i64 (cnt : Int)) w' := fun w' h => by
                have hx := HX4.out.below (HBx.out.trans (h.mono HBx.out.size))
                have hy := HY4.out.below (HBx.out.trans (h.mono HBx.out.size))
                exact ⟨h, hy.k0, hy.k1, hy.k2, hx.k0, hx.k1, hx.k2, fun ty => (HMw.out.below h).len ty⟩
              have MkS := Lib.hid mkS
              clear hah heq mkS p0 p1 p2 y0 y1 y2
              go_region_held3 (fun w' => Below wr.heap.size wr w' ∧ w'.cell? ⟨P, 0, none⟩ = some (.slice A no c) ∧ w'.cell? ⟨P, 1, none⟩ = some (.slice B x.nt.length d) ∧ w'.cell? ⟨P, 2, none⟩ = some (.int .i64 x.pt) ∧ w'.cell? ⟨P + 1, 0, none⟩ = some (.slice A2 no c2) ∧ w'.cell? ⟨P + 1, 1, none⟩ = some (.int .i64 (cnt : Int)) ∧ w'.cell? ⟨P + 1, 2, none⟩ = some (.slice B2 cnt d2) ∧ ∀ ty, (Builtin.len_ #[81] ty #[.map (some Mp)]).run Tryd.prog w' = .ok (.int .i64 (cnt : Int)) w')
                (first | exact MkS.out _ (Below.refl _ _).drew | exact MkS.out _ hnew)
                (first
                  | (go_at_call 40; go_split_ands; refine (HAh.out _ ?_).mono ?_; assumption; rintro e w9 ⟨D, -, rfl, hAM, -, hb9⟩; have HAM := Lib.hid hAM; have hnew := Below.trans (a := wr) (by assumption) (hb9.mono (Below.size (w := wr) (by assumption))); clear hb9 hAM)
                  | (go_at_call 42; go_split_ands; refine (HEq.out _ _ ?_ HAM.out).mono ?_; assumption; rintro e w10 ⟨v, rfl, hv, hb10⟩; have HVv := Lib.hid hv; have hnew := Below.trans (a := wr) (by assumption) (hb10.mono (Below.size (w := wr) (by assumption))); clear hb10 hv))
              have HB9 := Lib.hid (HWx.out.trans (hnew.mono HWx.out.size))
              have HYes : Hid (PMay x.nd p ↔ p.ah = ahL x.nd p.of cnt) := Lib.hid (by
                rw [may_check, HNn.out, Int.toNat_natCast]
                refine ⟨fun h => h.2.2.2.2, fun h => ⟨⟨by have := HOk.out; omega, by have := HOk.out; omega, HNo.out.trans HN.out.symm, by rw [HNa.out]⟩, fun i hi => HF.out i (by rw [← HN.out]; exact hi), fun i hi => HO.out i (by rw [← HN.out]; exact hi), fun b hb => ?_, h⟩⟩
                obtain ⟨i, hi, h1⟩ := (usedN_iff p.of no b).1 ((countP_all _ _).1 HCnt.out b (by omega))
                exact ⟨i, by rw [HN.out]; exact hi, h1⟩)
              clear hnew
              cases v
              · have HNot : Hid (¬ PMay x.nd p) := Lib.hid (fun h => by
                  have := HVv.out.2 (HYes.out.1 h)
                  cases this)
                go_wp2_with fail
                go_ret
                exact CkE.no HNot.out HB9.out
              · have HYs : Hid (PMay x.nd p) := Lib.hid (HYes.out.2 (HVv.out.1 rfl))
                go_wp2_with fail
                go_ret
                exact CkE.yes HYs.out HB9.out
            · have hlen2 := fun (m : Nat) ty => (HMw.out.below (pw_below_drewN (Below.refl wr.heap.size wr) m)).len ty
              have g1 : ((cnt : Int) != (na : Int)) = true := by rw [bne_iff_ne]; omega
              have HNot : Hid (¬ PMay x.nd p) := Lib.hid (fun h => by
                refine hcn (HCnt.out.symm.trans ((countP_all _ _).2 fun b hb => ?_))
                obtain ⟨i, hi, h1⟩ := h.us b (by rw [HNn.out]; omega)
                exact (usedN_iff p.of no b).2 ⟨i, by rw [← HN.out]; exact hi, h1⟩)
              clear hcn
              go_quiet (fail)
              obtain ⟨W7, hW6⟩ : ∃ W, wr.drewN nq = W := ⟨_, rfl⟩
              rw [hW6]
              have hb6 : Below wr.heap.size wr W7 := by rw [← hW6]; exact pw_below_drewN (Below.refl _ _) _
              have HB9 := Lib.hid (HWx.out.trans (hb6.mono HWx.out.size))
              clear hW6 hb6 p0 p1 p2 y0 y1 y2 hlen
              go_wp2_with fail
              go_ret
              exact CkE.no HNot.out HB9.out
  · obtain ⟨x0, x1, x2⟩ := HX0.out
    have HNot : Hid (¬ PMay x.nd p) := Lib.hid (fun h => hok ⟨⟨h.n1, h.n2⟩, by rw [← HNo.out, ← HN.out]; exact h.lo, by rw [← HNa.out]; exact h.la⟩)
    obtain ⟨N, hN⟩ : ∃ N, p.n = N := ⟨_, rfl⟩
    rw [hN] at hok HX1
    rw [hN] at hW1
    by_cases h1 : N < 1
    · have g1 : decide (N < 1) = true := decide_eq_true h1
      clear hok
      go_enter Tryd.func24, Tryd.ntmps24
      go_upto_region 1 with fail
      try rw [HZ0.out]
      go_wp2_with (first | fail | (go_at_call 25; refine HCk.out.mono ?_; rintro e w2 ⟨rfl, hb2⟩; have HB2 := Lib.hid (HB1.out.trans (hb2.mono HB1.out.size)); have HX2 := Lib.hid (HX1.out.below hb2); have HY2 := Lib.hid (HX0.out.below hb2); obtain ⟨p0, p1, p2⟩ := HX2.out; obtain ⟨y0, y1, y2⟩ := HY2.out; clear hb2 x0 x1 x2))
      go_ret
      exact CkE.no HNot.out HB2.out
    · have g1 : decide (N < 1) = false := decide_eq_false h1
      by_cases h2 : N > 64
      · have g2 : decide (N > 64) = true := decide_eq_true h2
        have g2' : decide (64 < N) = true := decide_eq_true h2
        clear hok
        go_enter Tryd.func24, Tryd.ntmps24
        go_upto_region 1 with fail
        try rw [HZ0.out]
        go_wp2_with (first | fail | (go_at_call 25; refine HCk.out.mono ?_; rintro e w2 ⟨rfl, hb2⟩; have HB2 := Lib.hid (HB1.out.trans (hb2.mono HB1.out.size)); have HX2 := Lib.hid (HX1.out.below hb2); have HY2 := Lib.hid (HX0.out.below hb2); obtain ⟨p0, p1, p2⟩ := HX2.out; obtain ⟨y0, y1, y2⟩ := HY2.out; clear hb2 x0 x1 x2))
        go_ret
        exact CkE.no HNot.out HB2.out
      · have g2 : decide (N > 64) = false := decide_eq_false h2
        have g2' : decide (64 < N) = false := decide_eq_false h2
        by_cases h3 : no = n
        · subst h3
          have h4 : (na : Int) ≠ N := fun e => hok ⟨by omega, rfl, e⟩
          have g4 : ((na : Int) != N) = true := by simpa using h4
          have g5 : ((na : Int) == N) = false := beq_eq_false_iff_ne.2 h4
          clear hok
          go_enter Tryd.func24, Tryd.ntmps24
          go_upto_region 1 with fail
          try rw [HZ0.out]
          go_wp2_with (first | fail | (go_at_call 25; refine HCk.out.mono ?_; rintro e w2 ⟨rfl, hb2⟩; have HB2 := Lib.hid (HB1.out.trans (hb2.mono HB1.out.size)); have HX2 := Lib.hid (HX1.out.below hb2); have HY2 := Lib.hid (HX0.out.below hb2); obtain ⟨p0, p1, p2⟩ := HX2.out; obtain ⟨y0, y1, y2⟩ := HY2.out; clear hb2 x0 x1 x2))
          go_ret
          exact CkE.no HNot.out HB2.out
        · have g3 : ((no : Int) != (n : Int)) = true := by rw [bne_iff_ne]; omega
          clear hok
          go_enter Tryd.func24, Tryd.ntmps24
          go_upto_region 1 with fail
          try rw [HZ0.out]
          go_wp2_with (first | fail | (go_at_call 25; refine HCk.out.mono ?_; rintro e w2 ⟨rfl, hb2⟩; have HB2 := Lib.hid (HB1.out.trans (hb2.mono HB1.out.size)); have HX2 := Lib.hid (HX1.out.below hb2); have HY2 := Lib.hid (HX0.out.below hb2); obtain ⟨p0, p1, p2⟩ := HX2.out; obtain ⟨y0, y1, y2⟩ := HY2.out; clear hb2 x0 x1 x2))
          go_ret
          exact CkE.no HNot.out HB2.out
end Go.Proofs.YtonnmkhmhndalaaDoor
end
