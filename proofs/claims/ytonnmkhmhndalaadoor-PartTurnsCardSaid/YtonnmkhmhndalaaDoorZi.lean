/- Made: a round, of kind 5. Made: a round, of kind 6. Made: a round, of kind 7. Made: a round, of kind 8. -/
import Derived.Test.YtonnmkhmhndalaaDoorZf
import Derived.Deep.RegionHeld3
section
namespace Go.Proofs.YtonnmkhmhndalaaDoor
set_option linter.unusedVariables false
set_option linter.unusedSimpArgs false
open Go.RowKit Go.Proofs.YtonnmkhmhndalaaDoorW.PrintWords Go.Proofs.YtonnmkhmhndalaaDoorW.PrintLast Go.Proofs.YtonnmkhmhndalaaDoorW.PrintMore
set_option maxRecDepth 1000000 in
set_option maxHeartbeats 8000000 in
theorem made_case5 (gs : List S71) (Ag : Option Addr) (cg : Nat) (w W4 : World) (X base N dN i : Nat) (l : List S39) (A : Option Addr) (c : Nat) (wr : World) (hE : REnv w W4 X base N dN gs Ag cg) (hS : RSt w W4 wr X base N dN i l A c) (hlg : i < gs.length) (hlt : i < 40)
    (qk : Nat) (hqk : bits .and .i64 (gs.getD i z71).f0 65535 = (qk : Int)) (hk9 : qk % 9 = 5) (Q : Exit → Act → World → Prop)
    (c1 c2 c20 c21 c22 c23 c24 c25 c26 c27 c28 c29 c30 c31 c32 c33 c266 c267 c268 c269 c270 c271 c272 c273 c274 c275 c276 c277 c278 c279 c280 c281 c282 c283 c284 c285 c286 c287 c288 c289 c290 c291 c292 c293 c294 c295 c296 c297 c298 c299 c300 c301 c302 c303 c304 c305 c306 c307 c308 c309 c310 c311 c312 c313 c314 c315 c316 c317 c318 : Value)
    (u5 u6 u7 u8 u9 u10 u11 u12 u13 u14 u15 u16 u17 u18 u19 u34 u35 u36 u37 u38 u39 u40 u41 u42 u43 u44 u45 u46 u47 u48 u49 u50 u51 u52 u53 u54 u55 u56 u57 u58 u59 u60 u61 u62 u63 u64 u65 u66 u67 u68 u69 u70 u71 u72 u73 u74 u75 u76 u77 u78 u79 u80 u81 u82 u83 u84 u85 u86 u87 u88 u89 u90 u91 u92 u93 u94 u95 u96 u97 u98 u99 u100 u101 u102 u103 u104 u105 u106 u107 u108 u109 u110 u111 u112 u113 u114 u115 u116 u117 u118 u119 u120 u121 u122 u123 u124 u125 u126 u127 u128 u129 u130 u131 u132 u133 u134 u135 u136 u137 u138 u139 u140 u141 u142 u143 u144 u145 u146 u147 u148 u149 u150 u151 u152 u153 u154 u155 u156 u157 u158 u159 u160 u161 u162 u163 u164 u165 u166 u167 u168 u169 u170 u171 u172 u173 u174 u175 u176 u177 u178 u179 u180 u181 u182 u183 u184 u185 u186 u187 u188 u189 u190 u191 u192 u193 u194 u195 u196 u197 u198 u199 u200 u201 u202 u203 u204 u205 u206 u207 u208 u209 u210 u211 u212 u213 u214 u215 u216 u217 u218 u219 u220 u221 u222 u223 u224 u225 u226 u227 u228 u229 u230 u231 u232 u233 u234 u235 u236 u237 u238 u239 u240 u241 u242 u243 u244 u245 u246 u247 u248 u249 u250 u251 u252 u253 u254 u255 u256 u257 u258 u259 u260 u261 u262 u263 u264 u265 : Value)
    (hrnd : ∀ a' w', RFrame gs Ag cg X c1 c2 c20 c21 c22 c23 c24 c25 c26 c27 c28 c29 c30 c31 c32 c33 c266 c267 c268 c269 c270 c271 c272 c273 c274 c275 c276 c277 c278 c279 c280 c281 c282 c283 c284 c285 c286 c287 c288 c289 c290 c291 c292 c293 c294 c295 c296 c297 c298 c299 c300 c301 c302 c303 c304 c305 c306 c307 c308 c309 c310 c311 c312 c313 c314 c315 c316 c317 c318 ((i : Int) + 1) a' → (∃ l' A' c', RSt w W4 w' X base N dN (i + 1) l' A' c') → Q .normal a' w') :
    Code.wp Tryd.prog body18 Q ⟨#[.slice Ag gs.length cg, c1, c2, .pointer (some ⟨X, 0, none⟩), .int .i64 (i : Int), u5, u6, u7, u8, u9, u10, u11, u12, u13, u14, u15, u16, u17, u18, u19, c20, c21, c22, c23, c24, c25, c26, c27, c28, c29, c30, c31, c32, c33, u34, u35, u36, u37, u38, u39, u40, u41, u42, u43, u44, u45, u46, u47, u48, u49, u50, u51, u52, u53, u54, u55, u56, u57, u58, u59, u60, u61, u62, u63, u64, u65, u66, u67, u68, u69, u70, u71, u72, u73, u74, u75, u76, u77, u78, u79, u80, u81, u82, u83, u84, u85, u86, u87, u88, u89, u90, u91, u92, u93, u94, u95, u96, u97, u98, u99, u100, u101, u102, u103, u104, u105, u106, u107, u108, u109, u110, u111, u112, u113, u114, u115, u116, u117, u118, u119, u120, u121, u122, u123, u124, u125, u126, u127, u128, u129, u130, u131, u132, u133, u134, u135, u136, u137, u138, u139, u140, u141, u142, u143, u144, u145, u146, u147, u148, u149, u150, u151, u152, u153, u154, u155, u156, u157, u158, u159, u160, u161, u162, u163, u164, u165, u166, u167, u168, u169, u170, u171, u172, u173, u174, u175, u176, u177, u178, u179, u180, u181, u182, u183, u184, u185, u186, u187, u188, u189, u190, u191, u192, u193, u194, u195, u196, u197, u198, u199, u200, u201, u202, u203, u204, u205, u206, u207, u208, u209, u210, u211, u212, u213, u214, u215, u216, u217, u218, u219, u220, u221, u222, u223, u224, u225, u226, u227, u228, u229, u230, u231, u232, u233, u234, u235, u236, u237, u238, u239, u240, u241, u242, u243, u244, u245, u246, u247, u248, u249, u250, u251, u252, u253, u254, u255, u256, u257, u258, u259, u260, u261, u262, u263, u264, u265, c266, c267, c268, c269, c270, c271, c272, c273, c274, c275, c276, c277, c278, c279, c280, c281, c282, c283, c284, c285, c286, c287, c288, c289, c290, c291, c292, c293, c294, c295, c296, c297, c298, c299, c300, c301, c302, c303, c304, c305, c306, c307, c308, c309, c310, c311, c312, c313, c314, c315, c316, c317, c318], []⟩ wr := by
  have HRnd := Lib.hid hrnd
  have HEnv := Lib.hid hE
  have HCg := Lib.hid hE.gl
  have HGs := Lib.hid hE.gc
  have HX := Lib.hid hE.x
  have HN2 := Lib.hid hE.n
  have HNX := Lib.hid hE.nx
  have HNt := Lib.hid hE.nt
  have HSx := Lib.hid hS.s
  have HGx := Lib.hid hS.g
  have HLx := Lib.hid hS.len
  have HKx := Lib.hid hS.k
  have HBx := Lib.hid hS.b
  clear hrnd hE hS
  conv => arg 2; whnf
  obtain ⟨n, hn⟩ : ∃ n, l.length = n := ⟨_, rfl⟩
  have hn2 : 2 ≤ n := by rw [← hn]; exact HGx.out.two
  have hn122 : n ≤ 122 := by have := HLx.out; omega
  have hn0 : ¬ (n : Int) = 0 := by omega
  obtain ⟨bg, og, hAg, hbg, hGA⟩ := gates_at (HGs.out wr HBx.out) i hlg
  obtain ⟨gy, hgy⟩ : ∃ v, gs.getD i z71 = v := ⟨_, rfl⟩
  rw [hgy] at hGA
  obtain ⟨qa, hqa, hqa2⟩ := mask_lt gy.f1 65535 16 (by decide) (by decide)
  obtain ⟨qb, hqb, hqb2⟩ := mask_lt gy.f2 65535 16 (by decide) (by decide)
  obtain ⟨qc, hqc, hqc2⟩ := mask_lt gy.f3 65535 16 (by decide) (by decide)
  obtain ⟨qw, hqw, hqw2⟩ := mask_lt gy.f4 3 2 (by decide) (by decide)
  have ma : bits .and .i64 gy.f1 65535 = (qa : Int) := hqa
  have mb : bits .and .i64 gy.f2 65535 = (qb : Int) := hqb
  have mc : bits .and .i64 gy.f3 65535 = (qc : Int) := hqc
  rw [hgy] at hqk
  have mk : bits .and .i64 gy.f0 65535 = (qk : Int) := hqk
  have mw : bits .and .i64 gy.f4 3 = (qw : Int) := hqw
  clear hqa hqb hqc hqk hqw
  obtain ⟨a, ha⟩ : ∃ t, qa % n = t := ⟨_, rfl⟩
  obtain ⟨b, hb⟩ : ∃ t, qb % n = t := ⟨_, rfl⟩
  obtain ⟨cc, hc⟩ : ∃ t, qc % n = t := ⟨_, rfl⟩
  have han : a < n := by rw [← ha]; exact Nat.mod_lt _ (by omega)
  have hbn : b < n := by rw [← hb]; exact Nat.mod_lt _ (by omega)
  have hcn : cc < n := by rw [← hc]; exact Nat.mod_lt _ (by omega)
  have ea1 : Int.tmod (qa : Int) (n : Int) = (a : Int) := by rw [← ha]; rfl
  have eb1 : Int.tmod (qb : Int) (n : Int) = (b : Int) := by rw [← hb]; rfl
  have ec1 : Int.tmod (qc : Int) (n : Int) = (cc : Int) := by rw [← hc]; rfl
  have ea2 : (qa : Int) % (n : Int) = (a : Int) := by rw [← ha]; rfl
  have eb2 : (qb : Int) % (n : Int) = (b : Int) := by rw [← hb]; rfl
  have ec2 : (qc : Int) % (n : Int) = (cc : Int) := by rw [← hc]; rfl
  have q0 := HSx.out.k0
  rw [hn] at q0
  obtain ⟨k0, k1, k2, k3, k4⟩ := hGA
  have hgc := HCg.out
  have HAn := Lib.hid han
  have HBn := Lib.hid hbn
  have HCn := Lib.hid hcn
  have HNl := Lib.hid hn
  have HLt := Lib.hid hlt
  have d40 : decide ((i : Int) < 40) = true := decide_eq_true (by omega)
  subst hAg
  clear ha hb hc han hbn hcn hn hgy hqa2 hqb2 hqc2
  go_upto_region 7 with fail
  obtain ⟨W5, hW5⟩ : ∃ W, wr.alloc (Obj.cells #[.int .i64 gy.f0, .int .i64 gy.f1, .int .i64 gy.f2, .int .i64 gy.f3, .int .i64 gy.f4] 71) = W := ⟨_, rfl⟩
  rw [hW5]
  obtain ⟨G, hG⟩ : ∃ G, wr.heap.size = G := ⟨_, rfl⟩
  have hb5 : Below wr.heap.size wr W5 := by rw [← hW5]; exact below_alloc (Below.refl _ _) _
  have hs5 : W5.heap.size = G + 1 := by rw [← hW5, ← hG]; simp
  have hgt : GAt W5 G 0 gy := by
    rw [← hW5, ← hG]
    exact ⟨by simp [go_sem], by simp [go_sem], by simp [go_sem], by simp [go_sem], by simp [go_sem]⟩
  rw [hG]
  have hNw := Nat.lt_of_lt_of_le HN2.out HKx.out.1
  have hM5 : MSt W5 W5 X base (fun b => (b ≠ base ∧ b ≠ N) ∧ b ≠ G) l A c (some ⟨N, 0, none⟩) 2 dN G gy :=
    ⟨(HSx.out.mono (G := fun b => (b ≠ base ∧ b ≠ N) ∧ b ≠ G) (fun b h1 h2 => ⟨h1, by omega⟩)).below hb5, HGx.out, Kept.refl _ _, Below.refl _ _, hgt, fun h => by
      rcases h with h | h
      · have := HSx.out.x; omega
      · exact h.2 rfl, fun b hb => ⟨⟨by have := HX.out; have := HSx.out.x; omega, by omega⟩, by omega⟩⟩
  have HM5 := Lib.hid hM5
  have hk5 : Kept W4 W5 (fun b => b = X ∨ (b ≠ base ∧ b ≠ N)) := HKx.out.below hb5
  have hb5' : Below base w W5 := HBx.out.trans (hb5.mono (Nat.le_trans HSx.out.hb (Nat.le_of_lt HSx.out.x)))
  have HK5 := Lib.hid hk5
  have HB5 := Lib.hid hb5'
  have q5 := (hb5.cell (p := ⟨X, 0, none⟩) HSx.out.x).trans q0
  obtain ⟨k0, k1, k2, k3, k4⟩ := hgt
  clear hW5 hG hb5 hs5 hM5 hk5 hb5' q0 hNw HSx HKx HBx HGx hbg
  clear k0 k1 k2 k3 k4
  obtain ⟨k0, k1, k2, k3, k4⟩ := HM5.out.gt
  go_upto_region 8 with fail
  go_quiet (fail)
  obtain ⟨W6, hW6⟩ : ∃ W, W5.drewN nq = W := ⟨_, rfl⟩
  rw [hW6]
  have hb6 : Below W5.heap.size W5 W6 := by rw [← hW6]; exact pw_below_drewN (Below.refl _ _) _
  have HM6 := Lib.hid (HM5.out.below hb6)
  clear q5 k0 k1 k2 k3 k4 hW6 hb6 HM5
  obtain ⟨k0, k1, k2, k3, k4⟩ := HM6.out.gt
  have hk1 := hk9
  have ek1 : Int.tmod (qk : Int) 9 = (5 : Int) := by show ((qk % 9 : Nat) : Int) = _; rw [hk1]; rfl
  have ek2 : (qk : Int) % 9 = (5 : Int) := by show ((qk % 9 : Nat) : Int) = _; rw [hk1]; rfl
  have hw1 : (1 : Int) + (qw : Int) = ((1 + qw : Nat) : Int) := by omega
  obtain ⟨wd, hwd⟩ : ∃ v, 1 + qw = v := ⟨_, rfl⟩
  rw [hwd] at hw1
  have HW1 := Lib.hid (show 1 ≤ wd ∧ wd ≤ 4 by omega)
  clear hk1 hk9 hwd hqw2
  go_upto_region 16 with fail
  have hw64 : wrap64 (wd : Int) = (wd : Int) := w64 (by have := HW1.out; omega) (by have := HW1.out; omega)
  rw [hw64]
  have hend : ∀ w' l' A' c', MSt W5 w' X base (fun b => (b ≠ base ∧ b ≠ N) ∧ b ≠ G) l' A' c' (some ⟨N, 0, none⟩) 2 dN G gy → l'.length ≤ n + 3 → ∃ l' A' c', RSt w W4 w' X base N dN (i + 1) l' A' c' := fun w' l' A' c' h hl => by
    have h1 := HLx.out
    have h2 := HNl.out
    exact ⟨l', A', c', h.s.mono fun b hb _ => hb.1, h.g, by omega, HK5.out.then_ h.k (fun k hk => Or.inl (hk.elim Or.inl fun h => Or.inr h.1)), HB5.out.trans h.b⟩
  have HEnd := Lib.hid hend
  have hn1000 : l.length ≤ 1000 := by have := HNl.out; omega
  have HL1 := Lib.hid hn1000
  clear hend hn1000 ea1 ea2 eb1 eb2 ec1 ec2 ek1 ek2 ma mb mk mw hw1 hw64
  clear k0 k1 k2 k3 k4
  go_upto_region 5 with (first
    | fail
    | (go_at_call 30; refine (HM8.out.add (x := ⟨5, 0, 1, [(r7 : Int), (r8 : Int)], ⟨#[]⟩, 0, 0, 0⟩) (grown_below HGr.out) HOl.out (g_same (At.nat (by have := HE7.out.2.2.1; have := HE8.out.1.1; omega)) (At.nat HE8.out.2.2.1) ((HE8.out.1.2 r7 HE7.out.2.2.1).trans HE7.out.2.2.2) HE8.out.2.2.2) (by have := HNl.out; have := HE7.out.2.1; have := HE8.out.2.1; have := HL1.out; omega)).mono ?_; rintro e w11 ⟨rfl, A', c', hm⟩; have HM11 := Lib.hid hm; clear hm)
    | ((with_reducible refine gate_dst (N := 228) rfl ?_); refine Kd.R_lit (Kd.int .i64) (w0 := w8) base 3 ?hg (N := 228) ?hd (xs := [(r7 : Int), (r8 : Int)]) (inner := [.int .i64 (r7 : Int), .int .i64 (r8 : Int)]) (ok := fun b => w8.heap.size ≤ b) (okp := fun _ => False) ?hr ?hp (fun _ hk => hk.elim) (Nat.le_refl _) (Below.refl _ _) HM8.out.row ?hm ?_; (case hm => simp); (case hd => rfl); (case hg => rfl); (case hr => first | (go_simp; done) | (go_simp; rfl)); (case hp => exact (Reps.one (show Kd.M (Kd.int .i64) _ _ _ (r7 : Int) [.int .i64 (r7 : Int)] from rfl) (Reps.one (show Kd.M (Kd.int .i64) _ _ _ (r8 : Int) [.int .i64 (r8 : Int)] from rfl) (Reps.none _ _)))); intro vl w9 ho hb hg _; obtain ⟨Al, cl, hvl⟩ := Kd.R_slice ho; subst hvl; have HOl := Lib.hid ho; have HGr := Lib.hid hg; clear ho hb hg)
    | (go_at_call 32; refine (HM7.out.fit b (wd : Int) (by have := HNl.out; have := HBn.out; have := HE7.out.1.1; omega) (by have := HW1.out; omega) (by have := HW1.out; omega) (by have := HNl.out; have := HE7.out.2.1; have := HL1.out; omega)).mono ?_; rintro e w8 ⟨r8, l8, A8, c8, rfl, hm, he, hl, hr, hw⟩; have HM8 := Lib.hid hm; have HE8 := Lib.hid (And.intro he (And.intro hl (And.intro hr hw))); clear hm he hl hr hw)
    | (go_at_call 32; refine (HM6.out.fit a (wd : Int) (by have := HNl.out; have := HAn.out; omega) (by have := HW1.out; omega) (by have := HW1.out; omega) HL1.out).mono ?_; rintro e w7 ⟨r7, l7, A7, c7, rfl, hm, he, hl, hr, hw⟩; have HM7 := Lib.hid hm; have HE7 := Lib.hid (And.intro he (And.intro hl (And.intro hr hw))); clear hm he hl hr hw))
  have e1 := HEnd.out _ _ _ _ HM11.out (by have := HNl.out; have := HE7.out.2.1; have := HE8.out.2.1; simp; omega)
  have HE1 := Lib.hid e1
  clear e1
  go_wp2_with fail
  exact HRnd.out _ _ ⟨_, _, _, _, _, _, _, _, _, _, _, _, _, _, _, _, _, _, _, _, _, _, _, _, _, _, _, _, _, _, _, _, _, _, _, _, _, _, _, _, _, _, _, _, _, _, _, _, _, _, _, _, _, _, _, _, _, _, _, _, _, _, _, _, _, _, _, _, _, _, _, _, _, _, _, _, _, _, _, _, _, _, _, _, _, _, _, _, _, _, _, _, _, _, _, _, _, _, _, _, _, _, _, _, _, _, _, _, _, _, _, _, _, _, _, _, _, _, _, _, _, _, _, _, _, _, _, _, _, _, _, _, _, _, _, _, _, _, _, _, _, _, _, _, _, _, _, _, _, _, _, _, _, _, _, _, _, _, _, _, _, _, _, _, _, _, _, _, _, _, _, _, _, _, _, _, _, _, _, _, _, _, _, _, _, _, _, _, _, _, _, _, _, _, _, _, _, _, _, _, _, _, _, _, _, _, _, _, _, _, _, _, _, _, _, _, _, _, _, _, _, _, _, _, _, _, _, _, _, _, _, _, _, _, _, _, _, _, _, _, _, _, _, _, _, _, _, rfl⟩ HE1.out
end Go.Proofs.YtonnmkhmhndalaaDoor
end
section
namespace Go.Proofs.YtonnmkhmhndalaaDoor
set_option linter.unusedVariables false
set_option linter.unusedSimpArgs false
open Go.RowKit Go.Proofs.YtonnmkhmhndalaaDoorW.PrintWords Go.Proofs.YtonnmkhmhndalaaDoorW.PrintLast Go.Proofs.YtonnmkhmhndalaaDoorW.PrintMore
set_option maxRecDepth 1000000 in
set_option maxHeartbeats 8000000 in
theorem made_case6 (gs : List S71) (Ag : Option Addr) (cg : Nat) (w W4 : World) (X base N dN i : Nat) (l : List S39) (A : Option Addr) (c : Nat) (wr : World) (hE : REnv w W4 X base N dN gs Ag cg) (hS : RSt w W4 wr X base N dN i l A c) (hlg : i < gs.length) (hlt : i < 40)
    (qk : Nat) (hqk : bits .and .i64 (gs.getD i z71).f0 65535 = (qk : Int)) (hk9 : qk % 9 = 6) (Q : Exit → Act → World → Prop)
    (c1 c2 c20 c21 c22 c23 c24 c25 c26 c27 c28 c29 c30 c31 c32 c33 c266 c267 c268 c269 c270 c271 c272 c273 c274 c275 c276 c277 c278 c279 c280 c281 c282 c283 c284 c285 c286 c287 c288 c289 c290 c291 c292 c293 c294 c295 c296 c297 c298 c299 c300 c301 c302 c303 c304 c305 c306 c307 c308 c309 c310 c311 c312 c313 c314 c315 c316 c317 c318 : Value)
    (u5 u6 u7 u8 u9 u10 u11 u12 u13 u14 u15 u16 u17 u18 u19 u34 u35 u36 u37 u38 u39 u40 u41 u42 u43 u44 u45 u46 u47 u48 u49 u50 u51 u52 u53 u54 u55 u56 u57 u58 u59 u60 u61 u62 u63 u64 u65 u66 u67 u68 u69 u70 u71 u72 u73 u74 u75 u76 u77 u78 u79 u80 u81 u82 u83 u84 u85 u86 u87 u88 u89 u90 u91 u92 u93 u94 u95 u96 u97 u98 u99 u100 u101 u102 u103 u104 u105 u106 u107 u108 u109 u110 u111 u112 u113 u114 u115 u116 u117 u118 u119 u120 u121 u122 u123 u124 u125 u126 u127 u128 u129 u130 u131 u132 u133 u134 u135 u136 u137 u138 u139 u140 u141 u142 u143 u144 u145 u146 u147 u148 u149 u150 u151 u152 u153 u154 u155 u156 u157 u158 u159 u160 u161 u162 u163 u164 u165 u166 u167 u168 u169 u170 u171 u172 u173 u174 u175 u176 u177 u178 u179 u180 u181 u182 u183 u184 u185 u186 u187 u188 u189 u190 u191 u192 u193 u194 u195 u196 u197 u198 u199 u200 u201 u202 u203 u204 u205 u206 u207 u208 u209 u210 u211 u212 u213 u214 u215 u216 u217 u218 u219 u220 u221 u222 u223 u224 u225 u226 u227 u228 u229 u230 u231 u232 u233 u234 u235 u236 u237 u238 u239 u240 u241 u242 u243 u244 u245 u246 u247 u248 u249 u250 u251 u252 u253 u254 u255 u256 u257 u258 u259 u260 u261 u262 u263 u264 u265 : Value)
    (hrnd : ∀ a' w', RFrame gs Ag cg X c1 c2 c20 c21 c22 c23 c24 c25 c26 c27 c28 c29 c30 c31 c32 c33 c266 c267 c268 c269 c270 c271 c272 c273 c274 c275 c276 c277 c278 c279 c280 c281 c282 c283 c284 c285 c286 c287 c288 c289 c290 c291 c292 c293 c294 c295 c296 c297 c298 c299 c300 c301 c302 c303 c304 c305 c306 c307 c308 c309 c310 c311 c312 c313 c314 c315 c316 c317 c318 ((i : Int) + 1) a' → (∃ l' A' c', RSt w W4 w' X base N dN (i + 1) l' A' c') → Q .normal a' w') :
    Code.wp Tryd.prog body18 Q ⟨#[.slice Ag gs.length cg, c1, c2, .pointer (some ⟨X, 0, none⟩), .int .i64 (i : Int), u5, u6, u7, u8, u9, u10, u11, u12, u13, u14, u15, u16, u17, u18, u19, c20, c21, c22, c23, c24, c25, c26, c27, c28, c29, c30, c31, c32, c33, u34, u35, u36, u37, u38, u39, u40, u41, u42, u43, u44, u45, u46, u47, u48, u49, u50, u51, u52, u53, u54, u55, u56, u57, u58, u59, u60, u61, u62, u63, u64, u65, u66, u67, u68, u69, u70, u71, u72, u73, u74, u75, u76, u77, u78, u79, u80, u81, u82, u83, u84, u85, u86, u87, u88, u89, u90, u91, u92, u93, u94, u95, u96, u97, u98, u99, u100, u101, u102, u103, u104, u105, u106, u107, u108, u109, u110, u111, u112, u113, u114, u115, u116, u117, u118, u119, u120, u121, u122, u123, u124, u125, u126, u127, u128, u129, u130, u131, u132, u133, u134, u135, u136, u137, u138, u139, u140, u141, u142, u143, u144, u145, u146, u147, u148, u149, u150, u151, u152, u153, u154, u155, u156, u157, u158, u159, u160, u161, u162, u163, u164, u165, u166, u167, u168, u169, u170, u171, u172, u173, u174, u175, u176, u177, u178, u179, u180, u181, u182, u183, u184, u185, u186, u187, u188, u189, u190, u191, u192, u193, u194, u195, u196, u197, u198, u199, u200, u201, u202, u203, u204, u205, u206, u207, u208, u209, u210, u211, u212, u213, u214, u215, u216, u217, u218, u219, u220, u221, u222, u223, u224, u225, u226, u227, u228, u229, u230, u231, u232, u233, u234, u235, u236, u237, u238, u239, u240, u241, u242, u243, u244, u245, u246, u247, u248, u249, u250, u251, u252, u253, u254, u255, u256, u257, u258, u259, u260, u261, u262, u263, u264, u265, c266, c267, c268, c269, c270, c271, c272, c273, c274, c275, c276, c277, c278, c279, c280, c281, c282, c283, c284, c285, c286, c287, c288, c289, c290, c291, c292, c293, c294, c295, c296, c297, c298, c299, c300, c301, c302, c303, c304, c305, c306, c307, c308, c309, c310, c311, c312, c313, c314, c315, c316, c317, c318], []⟩ wr := by
  have HRnd := Lib.hid hrnd
  have HEnv := Lib.hid hE
  have HCg := Lib.hid hE.gl
  have HGs := Lib.hid hE.gc
  have HX := Lib.hid hE.x
  have HN2 := Lib.hid hE.n
  have HNX := Lib.hid hE.nx
  have HNt := Lib.hid hE.nt
  have HSx := Lib.hid hS.s
  have HGx := Lib.hid hS.g
  have HLx := Lib.hid hS.len
  have HKx := Lib.hid hS.k
  have HBx := Lib.hid hS.b
  clear hrnd hE hS
  conv => arg 2; whnf
  obtain ⟨n, hn⟩ : ∃ n, l.length = n := ⟨_, rfl⟩
  have hn2 : 2 ≤ n := by rw [← hn]; exact HGx.out.two
  have hn122 : n ≤ 122 := by have := HLx.out; omega
  have hn0 : ¬ (n : Int) = 0 := by omega
  obtain ⟨bg, og, hAg, hbg, hGA⟩ := gates_at (HGs.out wr HBx.out) i hlg
  obtain ⟨gy, hgy⟩ : ∃ v, gs.getD i z71 = v := ⟨_, rfl⟩
  rw [hgy] at hGA
  obtain ⟨qa, hqa, hqa2⟩ := mask_lt gy.f1 65535 16 (by decide) (by decide)
  obtain ⟨qb, hqb, hqb2⟩ := mask_lt gy.f2 65535 16 (by decide) (by decide)
  obtain ⟨qc, hqc, hqc2⟩ := mask_lt gy.f3 65535 16 (by decide) (by decide)
  obtain ⟨qw, hqw, hqw2⟩ := mask_lt gy.f4 3 2 (by decide) (by decide)
  have ma : bits .and .i64 gy.f1 65535 = (qa : Int) := hqa
  have mb : bits .and .i64 gy.f2 65535 = (qb : Int) := hqb
  have mc : bits .and .i64 gy.f3 65535 = (qc : Int) := hqc
  rw [hgy] at hqk
  have mk : bits .and .i64 gy.f0 65535 = (qk : Int) := hqk
  have mw : bits .and .i64 gy.f4 3 = (qw : Int) := hqw
  clear hqa hqb hqc hqk hqw
  obtain ⟨a, ha⟩ : ∃ t, qa % n = t := ⟨_, rfl⟩
  obtain ⟨b, hb⟩ : ∃ t, qb % n = t := ⟨_, rfl⟩
  obtain ⟨cc, hc⟩ : ∃ t, qc % n = t := ⟨_, rfl⟩
  have han : a < n := by rw [← ha]; exact Nat.mod_lt _ (by omega)
  have hbn : b < n := by rw [← hb]; exact Nat.mod_lt _ (by omega)
  have hcn : cc < n := by rw [← hc]; exact Nat.mod_lt _ (by omega)
  have ea1 : Int.tmod (qa : Int) (n : Int) = (a : Int) := by rw [← ha]; rfl
  have eb1 : Int.tmod (qb : Int) (n : Int) = (b : Int) := by rw [← hb]; rfl
  have ec1 : Int.tmod (qc : Int) (n : Int) = (cc : Int) := by rw [← hc]; rfl
  have ea2 : (qa : Int) % (n : Int) = (a : Int) := by rw [← ha]; rfl
  have eb2 : (qb : Int) % (n : Int) = (b : Int) := by rw [← hb]; rfl
  have ec2 : (qc : Int) % (n : Int) = (cc : Int) := by rw [← hc]; rfl
  have q0 := HSx.out.k0
  rw [hn] at q0
  obtain ⟨k0, k1, k2, k3, k4⟩ := hGA
  have hgc := HCg.out
  have HAn := Lib.hid han
  have HBn := Lib.hid hbn
  have HCn := Lib.hid hcn
  have HNl := Lib.hid hn
  have HLt := Lib.hid hlt
  have d40 : decide ((i : Int) < 40) = true := decide_eq_true (by omega)
  subst hAg
  clear ha hb hc han hbn hcn hn hgy hqa2 hqb2 hqc2
  go_upto_region 7 with fail
  obtain ⟨W5, hW5⟩ : ∃ W, wr.alloc (Obj.cells #[.int .i64 gy.f0, .int .i64 gy.f1, .int .i64 gy.f2, .int .i64 gy.f3, .int .i64 gy.f4] 71) = W := ⟨_, rfl⟩
  rw [hW5]
  obtain ⟨G, hG⟩ : ∃ G, wr.heap.size = G := ⟨_, rfl⟩
  have hb5 : Below wr.heap.size wr W5 := by rw [← hW5]; exact below_alloc (Below.refl _ _) _
  have hs5 : W5.heap.size = G + 1 := by rw [← hW5, ← hG]; simp
  have hgt : GAt W5 G 0 gy := by
    rw [← hW5, ← hG]
    exact ⟨by simp [go_sem], by simp [go_sem], by simp [go_sem], by simp [go_sem], by simp [go_sem]⟩
  rw [hG]
  have hNw := Nat.lt_of_lt_of_le HN2.out HKx.out.1
  have hM5 : MSt W5 W5 X base (fun b => (b ≠ base ∧ b ≠ N) ∧ b ≠ G) l A c (some ⟨N, 0, none⟩) 2 dN G gy :=
    ⟨(HSx.out.mono (G := fun b => (b ≠ base ∧ b ≠ N) ∧ b ≠ G) (fun b h1 h2 => ⟨h1, by omega⟩)).below hb5, HGx.out, Kept.refl _ _, Below.refl _ _, hgt, fun h => by
      rcases h with h | h
      · have := HSx.out.x; omega
      · exact h.2 rfl, fun b hb => ⟨⟨by have := HX.out; have := HSx.out.x; omega, by omega⟩, by omega⟩⟩
  have HM5 := Lib.hid hM5
  have hk5 : Kept W4 W5 (fun b => b = X ∨ (b ≠ base ∧ b ≠ N)) := HKx.out.below hb5
  have hb5' : Below base w W5 := HBx.out.trans (hb5.mono (Nat.le_trans HSx.out.hb (Nat.le_of_lt HSx.out.x)))
  have HK5 := Lib.hid hk5
  have HB5 := Lib.hid hb5'
  have q5 := (hb5.cell (p := ⟨X, 0, none⟩) HSx.out.x).trans q0
  obtain ⟨k0, k1, k2, k3, k4⟩ := hgt
  clear hW5 hG hb5 hs5 hM5 hk5 hb5' q0 hNw HSx HKx HBx HGx hbg
  clear k0 k1 k2 k3 k4
  obtain ⟨k0, k1, k2, k3, k4⟩ := HM5.out.gt
  go_upto_region 8 with fail
  go_quiet (fail)
  obtain ⟨W6, hW6⟩ : ∃ W, W5.drewN nq = W := ⟨_, rfl⟩
  rw [hW6]
  have hb6 : Below W5.heap.size W5 W6 := by rw [← hW6]; exact pw_below_drewN (Below.refl _ _) _
  have HM6 := Lib.hid (HM5.out.below hb6)
  clear q5 k0 k1 k2 k3 k4 hW6 hb6 HM5
  obtain ⟨k0, k1, k2, k3, k4⟩ := HM6.out.gt
  have hk1 := hk9
  have ek1 : Int.tmod (qk : Int) 9 = (6 : Int) := by show ((qk % 9 : Nat) : Int) = _; rw [hk1]; rfl
  have ek2 : (qk : Int) % 9 = (6 : Int) := by show ((qk % 9 : Nat) : Int) = _; rw [hk1]; rfl
  have hw1 : (1 : Int) + (qw : Int) = ((1 + qw : Nat) : Int) := by omega
  obtain ⟨wd, hwd⟩ : ∃ v, 1 + qw = v := ⟨_, rfl⟩
  rw [hwd] at hw1
  have HW1 := Lib.hid (show 1 ≤ wd ∧ wd ≤ 4 by omega)
  clear hk1 hk9 hwd hqw2
  go_upto_region 16 with fail
  have hw64 : wrap64 (wd : Int) = (wd : Int) := w64 (by have := HW1.out; omega) (by have := HW1.out; omega)
  rw [hw64]
  have hend : ∀ w' l' A' c', MSt W5 w' X base (fun b => (b ≠ base ∧ b ≠ N) ∧ b ≠ G) l' A' c' (some ⟨N, 0, none⟩) 2 dN G gy → l'.length ≤ n + 3 → ∃ l' A' c', RSt w W4 w' X base N dN (i + 1) l' A' c' := fun w' l' A' c' h hl => by
    have h1 := HLx.out
    have h2 := HNl.out
    exact ⟨l', A', c', h.s.mono fun b hb _ => hb.1, h.g, by omega, HK5.out.then_ h.k (fun k hk => Or.inl (hk.elim Or.inl fun h => Or.inr h.1)), HB5.out.trans h.b⟩
  have HEnd := Lib.hid hend
  have hn1000 : l.length ≤ 1000 := by have := HNl.out; omega
  have HL1 := Lib.hid hn1000
  clear hend hn1000 ea1 ea2 eb1 eb2 ec1 ec2 ek1 ek2 ma mb mk mw hw1 hw64
  obtain ⟨qt, hqt, hqt2⟩ := mask_lt gy.f3 7 3 (by decide) (by decide)
  have mt : bits .and .i64 gy.f3 7 = (qt : Int) := hqt
  obtain ⟨qs, hqs, hqs2⟩ := mask_lt (gy.f3 / 8) 65535 16 (by decide) (by decide)
  have ms : bits .and .i64 (gy.f3 / 8) 65535 = (qs : Int) := hqs
  clear hqt hqs
  go_upto_region 40 with (first
    | fail
    | (go_at_call 32; refine (HM6.out.fit a (wd : Int) (by have := HNl.out; have := HAn.out; omega) (by have := HW1.out; omega) (by have := HW1.out; omega) HL1.out).mono ?_; rintro e w7 ⟨r7, l7, A7, c7, rfl, hm, he, hl, hr, hw⟩; have HM7 := Lib.hid hm; have HE7 := Lib.hid (And.intro he (And.intro hl (And.intro hr hw))); clear hm he hl hr hw))
  clear k0 k1 k2 k3 k4
  obtain ⟨k0, k1, k2, k3, k4⟩ := HM7.out.gt
  simp only [Nat.zero_add] at k1 k2 k3 k4
  have hck : ∃ kc : Nat, silkwormbook_clock.f l7 [0, 1] 0 gy.f3 = some (kc : Int) ∧ kc < l7.length := by
    unfold silkwormbook_clock.f
    have h2 := HM7.out.g.two
    rw [mt, ms]
    split
    · rw [if_neg (by omega)]
      refine ⟨qs % l7.length, rfl, Nat.mod_lt _ (by omega)⟩
    · exact ⟨0, rfl, by omega⟩
  obtain ⟨kc, hkc, hkl⟩ := hck
  have HKc := Lib.hid hkc
  have HKl := Lib.hid hkl
  clear hkc hkl mt ms hqt2 hqs2
  have q1 := HM7.out.s.k0
  have q2 := HM7.out.s.k1
  have q3 := HM7.out.s.k2
  have hk57 := HK5.out.then_ HM7.out.k (S := fun b => b = X ∨ (b ≠ base ∧ b ≠ N)) (fun k hk => Or.inl (hk.elim Or.inl fun h => Or.inr h.1))
  have hnt7 := (Kd.R_reads' (Kd.R_kept HNt.out hk57 (fun k hk h => by have := HNX.out; have hk' : k = N := hk; subst hk'; rcases h with h | h; exact this h; exact h.2 rfl))).2.2
  have hnd7 := (Kd.R_reads' HM7.out.s.r).2.2
  have hcap7 := HM7.out.s.cap
  have hcap7n : 2 ≤ dN := (Kd.R_reads' HNt.out).2.1
  have hcl : ∀ W, Below w7.heap.size w7 W → Calls Tryd.prog 34 #[.agg #[.slice A7 l7.length c7, .slice (some ⟨N, 0, none⟩) 2 dN, .int .i64 0], .int .i64 gy.f3] W fun e w' => e = .returned (.int .i64 (kc : Int)) ∧ Below W.heap.size W w' := fun W hW =>
    silkwormbook_clock.calls A7 c7 l7 (some ⟨N, 0, none⟩) dN [0, 1] 0 gy.f3 (kc : Int) W (Kd.C_below hnd7 hW) hcap7 (Kd.C_below hnt7 hW) hcap7n HKc.out
  have HCl := Lib.hid hcl
  clear hk57 hnt7 hnd7 hcap7 hcap7n hcl
  refine wp_region_noPanic ?_
  go_region_with (first
    | (go_at_call 34; refine (HCl.out _ ?_).mono ?_; exact (Below.refl _ _).drew; rintro e w9 ⟨rfl, hb9⟩; have hM9 := HM7.out.below ((Below.refl _ w7).drew.trans hb9); have HM9 := Lib.hid hM9; clear hb9 hM9)
    | (go_at_call 30; refine (HM9.out.add (x := ⟨7, 0, wd, [(kc : Int), (r7 : Int)], ⟨#[]⟩, 0, 0, 0⟩) (A3 := some ⟨w9.heap.size, 0, none⟩) (c3 := 2) (below_alloc (Below.refl _ _) _) (lit2 w9 base _ _ HM9.out.row) (g_flip (At.nat HKl.out) (by have := HKl.out; omega) (At.nat HE7.out.2.2.1) HE7.out.2.2.2 (by have := HW1.out; omega) (by have := HW1.out; omega)) (by have := HNl.out; have := HE7.out.2.1; have := HL1.out; omega)).mono ?_; rintro e w10 ⟨rfl, A', c', hm⟩; have HM10 := Lib.hid hm; clear hm))
  all_goals
    refine NoPanic.normal ?_
    have e1 := HEnd.out _ _ _ _ HM10.out (by have := HNl.out; have := HE7.out.2.1; simp; omega)
    have HE1 := Lib.hid e1
    clear e1
    clear k0 k1 k2 k3 k4 q1 q2 q3
    go_wp2_with fail
    exact HRnd.out _ _ ⟨_, _, _, _, _, _, _, _, _, _, _, _, _, _, _, _, _, _, _, _, _, _, _, _, _, _, _, _, _, _, _, _, _, _, _, _, _, _, _, _, _, _, _, _, _, _, _, _, _, _, _, _, _, _, _, _, _, _, _, _, _, _, _, _, _, _, _, _, _, _, _, _, _, _, _, _, _, _, _, _, _, _, _, _, _, _, _, _, _, _, _, _, _, _, _, _, _, _, _, _, _, _, _, _, _, _, _, _, _, _, _, _, _, _, _, _, _, _, _, _, _, _, _, _, _, _, _, _, _, _, _, _, _, _, _, _, _, _, _, _, _, _, _, _, _, _, _, _, _, _, _, _, _, _, _, _, _, _, _, _, _, _, _, _, _, _, _, _, _, _, _, _, _, _, _, _, _, _, _, _, _, _, _, _, _, _, _, _, _, _, _, _, _, _, _, _, _, _, _, _, _, _, _, _, _, _, _, _, _, _, _, _, _, _, _, _, _, _, _, _, _, _, _, _, _, _, _, _, _, _, _, _, _, _, _, _, _, _, _, _, _, _, _, _, _, _, _, rfl⟩ HE1.out
end Go.Proofs.YtonnmkhmhndalaaDoor
end
section
namespace Go.Proofs.YtonnmkhmhndalaaDoor
set_option linter.unusedVariables false
set_option linter.unusedSimpArgs false
open Go.RowKit Go.Proofs.YtonnmkhmhndalaaDoorW.PrintWords Go.Proofs.YtonnmkhmhndalaaDoorW.PrintLast Go.Proofs.YtonnmkhmhndalaaDoorW.PrintMore
set_option maxRecDepth 1000000 in
set_option maxHeartbeats 8000000 in
theorem made_case7 (gs : List S71) (Ag : Option Addr) (cg : Nat) (w W4 : World) (X base N dN i : Nat) (l : List S39) (A : Option Addr) (c : Nat) (wr : World) (hE : REnv w W4 X base N dN gs Ag cg) (hS : RSt w W4 wr X base N dN i l A c) (hlg : i < gs.length) (hlt : i < 40)
    (qk : Nat) (hqk : bits .and .i64 (gs.getD i z71).f0 65535 = (qk : Int)) (hk9 : qk % 9 = 7) (Q : Exit → Act → World → Prop)
    (c1 c2 c20 c21 c22 c23 c24 c25 c26 c27 c28 c29 c30 c31 c32 c33 c266 c267 c268 c269 c270 c271 c272 c273 c274 c275 c276 c277 c278 c279 c280 c281 c282 c283 c284 c285 c286 c287 c288 c289 c290 c291 c292 c293 c294 c295 c296 c297 c298 c299 c300 c301 c302 c303 c304 c305 c306 c307 c308 c309 c310 c311 c312 c313 c314 c315 c316 c317 c318 : Value)
    (u5 u6 u7 u8 u9 u10 u11 u12 u13 u14 u15 u16 u17 u18 u19 u34 u35 u36 u37 u38 u39 u40 u41 u42 u43 u44 u45 u46 u47 u48 u49 u50 u51 u52 u53 u54 u55 u56 u57 u58 u59 u60 u61 u62 u63 u64 u65 u66 u67 u68 u69 u70 u71 u72 u73 u74 u75 u76 u77 u78 u79 u80 u81 u82 u83 u84 u85 u86 u87 u88 u89 u90 u91 u92 u93 u94 u95 u96 u97 u98 u99 u100 u101 u102 u103 u104 u105 u106 u107 u108 u109 u110 u111 u112 u113 u114 u115 u116 u117 u118 u119 u120 u121 u122 u123 u124 u125 u126 u127 u128 u129 u130 u131 u132 u133 u134 u135 u136 u137 u138 u139 u140 u141 u142 u143 u144 u145 u146 u147 u148 u149 u150 u151 u152 u153 u154 u155 u156 u157 u158 u159 u160 u161 u162 u163 u164 u165 u166 u167 u168 u169 u170 u171 u172 u173 u174 u175 u176 u177 u178 u179 u180 u181 u182 u183 u184 u185 u186 u187 u188 u189 u190 u191 u192 u193 u194 u195 u196 u197 u198 u199 u200 u201 u202 u203 u204 u205 u206 u207 u208 u209 u210 u211 u212 u213 u214 u215 u216 u217 u218 u219 u220 u221 u222 u223 u224 u225 u226 u227 u228 u229 u230 u231 u232 u233 u234 u235 u236 u237 u238 u239 u240 u241 u242 u243 u244 u245 u246 u247 u248 u249 u250 u251 u252 u253 u254 u255 u256 u257 u258 u259 u260 u261 u262 u263 u264 u265 : Value)
    (hrnd : ∀ a' w', RFrame gs Ag cg X c1 c2 c20 c21 c22 c23 c24 c25 c26 c27 c28 c29 c30 c31 c32 c33 c266 c267 c268 c269 c270 c271 c272 c273 c274 c275 c276 c277 c278 c279 c280 c281 c282 c283 c284 c285 c286 c287 c288 c289 c290 c291 c292 c293 c294 c295 c296 c297 c298 c299 c300 c301 c302 c303 c304 c305 c306 c307 c308 c309 c310 c311 c312 c313 c314 c315 c316 c317 c318 ((i : Int) + 1) a' → (∃ l' A' c', RSt w W4 w' X base N dN (i + 1) l' A' c') → Q .normal a' w') :
    Code.wp Tryd.prog body18 Q ⟨#[.slice Ag gs.length cg, c1, c2, .pointer (some ⟨X, 0, none⟩), .int .i64 (i : Int), u5, u6, u7, u8, u9, u10, u11, u12, u13, u14, u15, u16, u17, u18, u19, c20, c21, c22, c23, c24, c25, c26, c27, c28, c29, c30, c31, c32, c33, u34, u35, u36, u37, u38, u39, u40, u41, u42, u43, u44, u45, u46, u47, u48, u49, u50, u51, u52, u53, u54, u55, u56, u57, u58, u59, u60, u61, u62, u63, u64, u65, u66, u67, u68, u69, u70, u71, u72, u73, u74, u75, u76, u77, u78, u79, u80, u81, u82, u83, u84, u85, u86, u87, u88, u89, u90, u91, u92, u93, u94, u95, u96, u97, u98, u99, u100, u101, u102, u103, u104, u105, u106, u107, u108, u109, u110, u111, u112, u113, u114, u115, u116, u117, u118, u119, u120, u121, u122, u123, u124, u125, u126, u127, u128, u129, u130, u131, u132, u133, u134, u135, u136, u137, u138, u139, u140, u141, u142, u143, u144, u145, u146, u147, u148, u149, u150, u151, u152, u153, u154, u155, u156, u157, u158, u159, u160, u161, u162, u163, u164, u165, u166, u167, u168, u169, u170, u171, u172, u173, u174, u175, u176, u177, u178, u179, u180, u181, u182, u183, u184, u185, u186, u187, u188, u189, u190, u191, u192, u193, u194, u195, u196, u197, u198, u199, u200, u201, u202, u203, u204, u205, u206, u207, u208, u209, u210, u211, u212, u213, u214, u215, u216, u217, u218, u219, u220, u221, u222, u223, u224, u225, u226, u227, u228, u229, u230, u231, u232, u233, u234, u235, u236, u237, u238, u239, u240, u241, u242, u243, u244, u245, u246, u247, u248, u249, u250, u251, u252, u253, u254, u255, u256, u257, u258, u259, u260, u261, u262, u263, u264, u265, c266, c267, c268, c269, c270, c271, c272, c273, c274, c275, c276, c277, c278, c279, c280, c281, c282, c283, c284, c285, c286, c287, c288, c289, c290, c291, c292, c293, c294, c295, c296, c297, c298, c299, c300, c301, c302, c303, c304, c305, c306, c307, c308, c309, c310, c311, c312, c313, c314, c315, c316, c317, c318], []⟩ wr := by
  have HRnd := Lib.hid hrnd
  have HEnv := Lib.hid hE
  have HCg := Lib.hid hE.gl
  have HGs := Lib.hid hE.gc
  have HX := Lib.hid hE.x
  have HN2 := Lib.hid hE.n
  have HNX := Lib.hid hE.nx
  have HNt := Lib.hid hE.nt
  have HSx := Lib.hid hS.s
  have HGx := Lib.hid hS.g
  have HLx := Lib.hid hS.len
  have HKx := Lib.hid hS.k
  have HBx := Lib.hid hS.b
  clear hrnd hE hS
  conv => arg 2; whnf
  obtain ⟨n, hn⟩ : ∃ n, l.length = n := ⟨_, rfl⟩
  have hn2 : 2 ≤ n := by rw [← hn]; exact HGx.out.two
  have hn122 : n ≤ 122 := by have := HLx.out; omega
  have hn0 : ¬ (n : Int) = 0 := by omega
  obtain ⟨bg, og, hAg, hbg, hGA⟩ := gates_at (HGs.out wr HBx.out) i hlg
  obtain ⟨gy, hgy⟩ : ∃ v, gs.getD i z71 = v := ⟨_, rfl⟩
  rw [hgy] at hGA
  obtain ⟨qa, hqa, hqa2⟩ := mask_lt gy.f1 65535 16 (by decide) (by decide)
  obtain ⟨qb, hqb, hqb2⟩ := mask_lt gy.f2 65535 16 (by decide) (by decide)
  obtain ⟨qc, hqc, hqc2⟩ := mask_lt gy.f3 65535 16 (by decide) (by decide)
  obtain ⟨qw, hqw, hqw2⟩ := mask_lt gy.f4 3 2 (by decide) (by decide)
  have ma : bits .and .i64 gy.f1 65535 = (qa : Int) := hqa
  have mb : bits .and .i64 gy.f2 65535 = (qb : Int) := hqb
  have mc : bits .and .i64 gy.f3 65535 = (qc : Int) := hqc
  rw [hgy] at hqk
  have mk : bits .and .i64 gy.f0 65535 = (qk : Int) := hqk
  have mw : bits .and .i64 gy.f4 3 = (qw : Int) := hqw
  clear hqa hqb hqc hqk hqw
  obtain ⟨a, ha⟩ : ∃ t, qa % n = t := ⟨_, rfl⟩
  obtain ⟨b, hb⟩ : ∃ t, qb % n = t := ⟨_, rfl⟩
  obtain ⟨cc, hc⟩ : ∃ t, qc % n = t := ⟨_, rfl⟩
  have han : a < n := by rw [← ha]; exact Nat.mod_lt _ (by omega)
  have hbn : b < n := by rw [← hb]; exact Nat.mod_lt _ (by omega)
  have hcn : cc < n := by rw [← hc]; exact Nat.mod_lt _ (by omega)
  have ea1 : Int.tmod (qa : Int) (n : Int) = (a : Int) := by rw [← ha]; rfl
  have eb1 : Int.tmod (qb : Int) (n : Int) = (b : Int) := by rw [← hb]; rfl
  have ec1 : Int.tmod (qc : Int) (n : Int) = (cc : Int) := by rw [← hc]; rfl
  have ea2 : (qa : Int) % (n : Int) = (a : Int) := by rw [← ha]; rfl
  have eb2 : (qb : Int) % (n : Int) = (b : Int) := by rw [← hb]; rfl
  have ec2 : (qc : Int) % (n : Int) = (cc : Int) := by rw [← hc]; rfl
  have q0 := HSx.out.k0
  rw [hn] at q0
  obtain ⟨k0, k1, k2, k3, k4⟩ := hGA
  have hgc := HCg.out
  have HAn := Lib.hid han
  have HBn := Lib.hid hbn
  have HCn := Lib.hid hcn
  have HNl := Lib.hid hn
  have HLt := Lib.hid hlt
  have d40 : decide ((i : Int) < 40) = true := decide_eq_true (by omega)
  subst hAg
  clear ha hb hc han hbn hcn hn hgy hqa2 hqb2 hqc2
  go_upto_region 7 with fail
  obtain ⟨W5, hW5⟩ : ∃ W, wr.alloc (Obj.cells #[.int .i64 gy.f0, .int .i64 gy.f1, .int .i64 gy.f2, .int .i64 gy.f3, .int .i64 gy.f4] 71) = W := ⟨_, rfl⟩
  rw [hW5]
  obtain ⟨G, hG⟩ : ∃ G, wr.heap.size = G := ⟨_, rfl⟩
  have hb5 : Below wr.heap.size wr W5 := by rw [← hW5]; exact below_alloc (Below.refl _ _) _
  have hs5 : W5.heap.size = G + 1 := by rw [← hW5, ← hG]; simp
  have hgt : GAt W5 G 0 gy := by
    rw [← hW5, ← hG]
    exact ⟨by simp [go_sem], by simp [go_sem], by simp [go_sem], by simp [go_sem], by simp [go_sem]⟩
  rw [hG]
  have hNw := Nat.lt_of_lt_of_le HN2.out HKx.out.1
  have hM5 : MSt W5 W5 X base (fun b => (b ≠ base ∧ b ≠ N) ∧ b ≠ G) l A c (some ⟨N, 0, none⟩) 2 dN G gy :=
    ⟨(HSx.out.mono (G := fun b => (b ≠ base ∧ b ≠ N) ∧ b ≠ G) (fun b h1 h2 => ⟨h1, by omega⟩)).below hb5, HGx.out, Kept.refl _ _, Below.refl _ _, hgt, fun h => by
      rcases h with h | h
      · have := HSx.out.x; omega
      · exact h.2 rfl, fun b hb => ⟨⟨by have := HX.out; have := HSx.out.x; omega, by omega⟩, by omega⟩⟩
  have HM5 := Lib.hid hM5
  have hk5 : Kept W4 W5 (fun b => b = X ∨ (b ≠ base ∧ b ≠ N)) := HKx.out.below hb5
  have hb5' : Below base w W5 := HBx.out.trans (hb5.mono (Nat.le_trans HSx.out.hb (Nat.le_of_lt HSx.out.x)))
  have HK5 := Lib.hid hk5
  have HB5 := Lib.hid hb5'
  have q5 := (hb5.cell (p := ⟨X, 0, none⟩) HSx.out.x).trans q0
  obtain ⟨k0, k1, k2, k3, k4⟩ := hgt
  clear hW5 hG hb5 hs5 hM5 hk5 hb5' q0 hNw HSx HKx HBx HGx hbg
  clear k0 k1 k2 k3 k4
  obtain ⟨k0, k1, k2, k3, k4⟩ := HM5.out.gt
  go_upto_region 8 with fail
  go_quiet (fail)
  obtain ⟨W6, hW6⟩ : ∃ W, W5.drewN nq = W := ⟨_, rfl⟩
  rw [hW6]
  have hb6 : Below W5.heap.size W5 W6 := by rw [← hW6]; exact pw_below_drewN (Below.refl _ _) _
  have HM6 := Lib.hid (HM5.out.below hb6)
  clear q5 k0 k1 k2 k3 k4 hW6 hb6 HM5
  obtain ⟨k0, k1, k2, k3, k4⟩ := HM6.out.gt
  have hk1 := hk9
  have ek1 : Int.tmod (qk : Int) 9 = (7 : Int) := by show ((qk % 9 : Nat) : Int) = _; rw [hk1]; rfl
  have ek2 : (qk : Int) % 9 = (7 : Int) := by show ((qk % 9 : Nat) : Int) = _; rw [hk1]; rfl
  have hw1 : (1 : Int) + (qw : Int) = ((1 + qw : Nat) : Int) := by omega
  obtain ⟨wd, hwd⟩ : ∃ v, 1 + qw = v := ⟨_, rfl⟩
  rw [hwd] at hw1
  have HW1 := Lib.hid (show 1 ≤ wd ∧ wd ≤ 4 by omega)
  clear hk1 hk9 hwd hqw2
  go_upto_region 16 with fail
  have hw64 : wrap64 (wd : Int) = (wd : Int) := w64 (by have := HW1.out; omega) (by have := HW1.out; omega)
  rw [hw64]
  have hend : ∀ w' l' A' c', MSt W5 w' X base (fun b => (b ≠ base ∧ b ≠ N) ∧ b ≠ G) l' A' c' (some ⟨N, 0, none⟩) 2 dN G gy → l'.length ≤ n + 3 → ∃ l' A' c', RSt w W4 w' X base N dN (i + 1) l' A' c' := fun w' l' A' c' h hl => by
    have h1 := HLx.out
    have h2 := HNl.out
    exact ⟨l', A', c', h.s.mono fun b hb _ => hb.1, h.g, by omega, HK5.out.then_ h.k (fun k hk => Or.inl (hk.elim Or.inl fun h => Or.inr h.1)), HB5.out.trans h.b⟩
  have HEnd := Lib.hid hend
  have hn1000 : l.length ≤ 1000 := by have := HNl.out; omega
  have HL1 := Lib.hid hn1000
  clear hend hn1000 ea1 ea2 eb1 eb2 ec1 ec2 ek1 ek2 ma mb mk mw hw1 hw64
  obtain ⟨qt, hqt, hqt2⟩ := mask_lt gy.f3 3 2 (by decide) (by decide)
  have mt : bits .and .i64 gy.f3 3 = (qt : Int) := hqt
  clear hqt
  go_upto_region 43 with (first
    | fail
    | (go_at_call 32; refine (HM6.out.fit a (wd : Int) (by have := HNl.out; have := HAn.out; omega) (by have := HW1.out; omega) (by have := HW1.out; omega) HL1.out).mono ?_; rintro e w7 ⟨r7, l7, A7, c7, rfl, hm, he, hl, hr, hw⟩; have HM7 := Lib.hid hm; have HE7 := Lib.hid (And.intro he (And.intro hl (And.intro hr hw))); clear hm he hl hr hw))
  clear k0 k1 k2 k3 k4
  obtain ⟨k0, k1, k2, k3, k4⟩ := HM7.out.gt
  simp only [Nat.zero_add] at k1 k2 k3 k4
  have tt : (1 : Int) + (qt : Int) = ((1 + qt : Nat) : Int) := by omega
  obtain ⟨td, htd⟩ : ∃ v, 1 + qt = v := ⟨_, rfl⟩
  rw [htd] at tt
  have HTd := Lib.hid (show 1 ≤ td ∧ td ≤ 4 by omega)
  have tt64 : wrap64 (td : Int) = (td : Int) := w64 (by have := HTd.out; omega) (by have := HTd.out; omega)
  clear htd
  go_upto_region 5 with (first
    | fail
    | ((with_reducible refine gate_dst (N := 259) rfl ?_); refine Kd.R_lit (Kd.int .i64) (w0 := w7) base 3 ?hg (N := 259) ?hd (xs := [(r7 : Int)]) (inner := [.int .i64 (r7 : Int)]) (ok := fun b => w7.heap.size ≤ b) (okp := fun _ => False) ?hr ?hp (fun _ hk => hk.elim) (Nat.le_refl _) (Below.refl _ _) HM7.out.row ?hm ?_; (case hm => simp); (case hd => rfl); (case hg => rfl); (case hr => first | (go_simp; done) | (go_simp; rfl)); (case hp => exact (Reps.one (show Kd.M (Kd.int .i64) _ _ _ (r7 : Int) [.int .i64 (r7 : Int)] from rfl) (Reps.none _ _))); intro vl w8 ho hb hg _; obtain ⟨Al, cl, hvl⟩ := Kd.R_slice ho; subst hvl; have HOl := Lib.hid ho; have HGr := Lib.hid hg; obtain ⟨p0, p1, p2, p3, p4⟩ := (HM7.out.below (grown_below hg)).gt; simp only [Nat.zero_add] at p1 p2 p3 p4; clear ho hb hg)
    | (go_at_call 30; refine (HM7.out.add (x := ⟨8, 0, wd, [(r7 : Int)], ⟨#[]⟩, 0, 0, (td : Int)⟩) (grown_below HGr.out) HOl.out (g_delay (At.nat HE7.out.2.2.1) HE7.out.2.2.2 (by have := HW1.out; omega) (by have := HW1.out; omega) (by have := HTd.out; omega) (by have := HTd.out; omega)) (by have := HNl.out; have := HE7.out.2.1; have := HL1.out; omega)).mono ?_; rintro e w9 ⟨rfl, A', c', hm⟩; have HM9 := Lib.hid hm; clear hm))
  have e1 := HEnd.out _ _ _ _ HM9.out (by have := HNl.out; have := HE7.out.2.1; simp; omega)
  have HE1 := Lib.hid e1
  clear e1
  clear k0 k1 k2 k3 k4
  go_wp2_with fail
  exact HRnd.out _ _ ⟨_, _, _, _, _, _, _, _, _, _, _, _, _, _, _, _, _, _, _, _, _, _, _, _, _, _, _, _, _, _, _, _, _, _, _, _, _, _, _, _, _, _, _, _, _, _, _, _, _, _, _, _, _, _, _, _, _, _, _, _, _, _, _, _, _, _, _, _, _, _, _, _, _, _, _, _, _, _, _, _, _, _, _, _, _, _, _, _, _, _, _, _, _, _, _, _, _, _, _, _, _, _, _, _, _, _, _, _, _, _, _, _, _, _, _, _, _, _, _, _, _, _, _, _, _, _, _, _, _, _, _, _, _, _, _, _, _, _, _, _, _, _, _, _, _, _, _, _, _, _, _, _, _, _, _, _, _, _, _, _, _, _, _, _, _, _, _, _, _, _, _, _, _, _, _, _, _, _, _, _, _, _, _, _, _, _, _, _, _, _, _, _, _, _, _, _, _, _, _, _, _, _, _, _, _, _, _, _, _, _, _, _, _, _, _, _, _, _, _, _, _, _, _, _, _, _, _, _, _, _, _, _, _, _, _, _, _, _, _, _, _, _, _, _, _, _, _, rfl⟩ HE1.out
end Go.Proofs.YtonnmkhmhndalaaDoor
end
section
namespace Go.Proofs.YtonnmkhmhndalaaDoor
set_option linter.unusedVariables false
set_option linter.unusedSimpArgs false
open Go.RowKit Go.Proofs.YtonnmkhmhndalaaDoorW.PrintWords Go.Proofs.YtonnmkhmhndalaaDoorW.PrintLast Go.Proofs.YtonnmkhmhndalaaDoorW.PrintMore
set_option maxRecDepth 1000000 in
set_option maxHeartbeats 8000000 in
theorem made_case8 (gs : List S71) (Ag : Option Addr) (cg : Nat) (w W4 : World) (X base N dN i : Nat) (l : List S39) (A : Option Addr) (c : Nat) (wr : World) (hE : REnv w W4 X base N dN gs Ag cg) (hS : RSt w W4 wr X base N dN i l A c) (hlg : i < gs.length) (hlt : i < 40)
    (qk : Nat) (hqk : bits .and .i64 (gs.getD i z71).f0 65535 = (qk : Int)) (hk9 : qk % 9 = 8) (Q : Exit → Act → World → Prop)
    (c1 c2 c20 c21 c22 c23 c24 c25 c26 c27 c28 c29 c30 c31 c32 c33 c266 c267 c268 c269 c270 c271 c272 c273 c274 c275 c276 c277 c278 c279 c280 c281 c282 c283 c284 c285 c286 c287 c288 c289 c290 c291 c292 c293 c294 c295 c296 c297 c298 c299 c300 c301 c302 c303 c304 c305 c306 c307 c308 c309 c310 c311 c312 c313 c314 c315 c316 c317 c318 : Value)
    (u5 u6 u7 u8 u9 u10 u11 u12 u13 u14 u15 u16 u17 u18 u19 u34 u35 u36 u37 u38 u39 u40 u41 u42 u43 u44 u45 u46 u47 u48 u49 u50 u51 u52 u53 u54 u55 u56 u57 u58 u59 u60 u61 u62 u63 u64 u65 u66 u67 u68 u69 u70 u71 u72 u73 u74 u75 u76 u77 u78 u79 u80 u81 u82 u83 u84 u85 u86 u87 u88 u89 u90 u91 u92 u93 u94 u95 u96 u97 u98 u99 u100 u101 u102 u103 u104 u105 u106 u107 u108 u109 u110 u111 u112 u113 u114 u115 u116 u117 u118 u119 u120 u121 u122 u123 u124 u125 u126 u127 u128 u129 u130 u131 u132 u133 u134 u135 u136 u137 u138 u139 u140 u141 u142 u143 u144 u145 u146 u147 u148 u149 u150 u151 u152 u153 u154 u155 u156 u157 u158 u159 u160 u161 u162 u163 u164 u165 u166 u167 u168 u169 u170 u171 u172 u173 u174 u175 u176 u177 u178 u179 u180 u181 u182 u183 u184 u185 u186 u187 u188 u189 u190 u191 u192 u193 u194 u195 u196 u197 u198 u199 u200 u201 u202 u203 u204 u205 u206 u207 u208 u209 u210 u211 u212 u213 u214 u215 u216 u217 u218 u219 u220 u221 u222 u223 u224 u225 u226 u227 u228 u229 u230 u231 u232 u233 u234 u235 u236 u237 u238 u239 u240 u241 u242 u243 u244 u245 u246 u247 u248 u249 u250 u251 u252 u253 u254 u255 u256 u257 u258 u259 u260 u261 u262 u263 u264 u265 : Value)
    (hrnd : ∀ a' w', RFrame gs Ag cg X c1 c2 c20 c21 c22 c23 c24 c25 c26 c27 c28 c29 c30 c31 c32 c33 c266 c267 c268 c269 c270 c271 c272 c273 c274 c275 c276 c277 c278 c279 c280 c281 c282 c283 c284 c285 c286 c287 c288 c289 c290 c291 c292 c293 c294 c295 c296 c297 c298 c299 c300 c301 c302 c303 c304 c305 c306 c307 c308 c309 c310 c311 c312 c313 c314 c315 c316 c317 c318 ((i : Int) + 1) a' → (∃ l' A' c', RSt w W4 w' X base N dN (i + 1) l' A' c') → Q .normal a' w') :
    Code.wp Tryd.prog body18 Q ⟨#[.slice Ag gs.length cg, c1, c2, .pointer (some ⟨X, 0, none⟩), .int .i64 (i : Int), u5, u6, u7, u8, u9, u10, u11, u12, u13, u14, u15, u16, u17, u18, u19, c20, c21, c22, c23, c24, c25, c26, c27, c28, c29, c30, c31, c32, c33, u34, u35, u36, u37, u38, u39, u40, u41, u42, u43, u44, u45, u46, u47, u48, u49, u50, u51, u52, u53, u54, u55, u56, u57, u58, u59, u60, u61, u62, u63, u64, u65, u66, u67, u68, u69, u70, u71, u72, u73, u74, u75, u76, u77, u78, u79, u80, u81, u82, u83, u84, u85, u86, u87, u88, u89, u90, u91, u92, u93, u94, u95, u96, u97, u98, u99, u100, u101, u102, u103, u104, u105, u106, u107, u108, u109, u110, u111, u112, u113, u114, u115, u116, u117, u118, u119, u120, u121, u122, u123, u124, u125, u126, u127, u128, u129, u130, u131, u132, u133, u134, u135, u136, u137, u138, u139, u140, u141, u142, u143, u144, u145, u146, u147, u148, u149, u150, u151, u152, u153, u154, u155, u156, u157, u158, u159, u160, u161, u162, u163, u164, u165, u166, u167, u168, u169, u170, u171, u172, u173, u174, u175, u176, u177, u178, u179, u180, u181, u182, u183, u184, u185, u186, u187, u188, u189, u190, u191, u192, u193, u194, u195, u196, u197, u198, u199, u200, u201, u202, u203, u204, u205, u206, u207, u208, u209, u210, u211, u212, u213, u214, u215, u216, u217, u218, u219, u220, u221, u222, u223, u224, u225, u226, u227, u228, u229, u230, u231, u232, u233, u234, u235, u236, u237, u238, u239, u240, u241, u242, u243, u244, u245, u246, u247, u248, u249, u250, u251, u252, u253, u254, u255, u256, u257, u258, u259, u260, u261, u262, u263, u264, u265, c266, c267, c268, c269, c270, c271, c272, c273, c274, c275, c276, c277, c278, c279, c280, c281, c282, c283, c284, c285, c286, c287, c288, c289, c290, c291, c292, c293, c294, c295, c296, c297, c298, c299, c300, c301, c302, c303, c304, c305, c306, c307, c308, c309, c310, c311, c312, c313, c314, c315, c316, c317, c318], []⟩ wr := by
  have HRnd := Lib.hid hrnd
  have HEnv := Lib.hid hE
  have HCg := Lib.hid hE.gl
  have HGs := Lib.hid hE.gc
  have HX := Lib.hid hE.x
  have HN2 := Lib.hid hE.n
  have HNX := Lib.hid hE.nx
  have HNt := Lib.hid hE.nt
  have HSx := Lib.hid hS.s
  have HGx := Lib.hid hS.g
  have HLx := Lib.hid hS.len
  have HKx := Lib.hid hS.k
  have HBx := Lib.hid hS.b
  clear hrnd hE hS
  conv => arg 2; whnf
  obtain ⟨n, hn⟩ : ∃ n, l.length = n := ⟨_, rfl⟩
  have hn2 : 2 ≤ n := by rw [← hn]; exact HGx.out.two
  have hn122 : n ≤ 122 := by have := HLx.out; omega
  have hn0 : ¬ (n : Int) = 0 := by omega
  obtain ⟨bg, og, hAg, hbg, hGA⟩ := gates_at (HGs.out wr HBx.out) i hlg
  obtain ⟨gy, hgy⟩ : ∃ v, gs.getD i z71 = v := ⟨_, rfl⟩
  rw [hgy] at hGA
  obtain ⟨qa, hqa, hqa2⟩ := mask_lt gy.f1 65535 16 (by decide) (by decide)
  obtain ⟨qb, hqb, hqb2⟩ := mask_lt gy.f2 65535 16 (by decide) (by decide)
  obtain ⟨qc, hqc, hqc2⟩ := mask_lt gy.f3 65535 16 (by decide) (by decide)
  obtain ⟨qw, hqw, hqw2⟩ := mask_lt gy.f4 3 2 (by decide) (by decide)
  have ma : bits .and .i64 gy.f1 65535 = (qa : Int) := hqa
  have mb : bits .and .i64 gy.f2 65535 = (qb : Int) := hqb
  have mc : bits .and .i64 gy.f3 65535 = (qc : Int) := hqc
  rw [hgy] at hqk
  have mk : bits .and .i64 gy.f0 65535 = (qk : Int) := hqk
  have mw : bits .and .i64 gy.f4 3 = (qw : Int) := hqw
  clear hqa hqb hqc hqk hqw
  obtain ⟨a, ha⟩ : ∃ t, qa % n = t := ⟨_, rfl⟩
  obtain ⟨b, hb⟩ : ∃ t, qb % n = t := ⟨_, rfl⟩
  obtain ⟨cc, hc⟩ : ∃ t, qc % n = t := ⟨_, rfl⟩
  have han : a < n := by rw [← ha]; exact Nat.mod_lt _ (by omega)
  have hbn : b < n := by rw [← hb]; exact Nat.mod_lt _ (by omega)
  have hcn : cc < n := by rw [← hc]; exact Nat.mod_lt _ (by omega)
  have ea1 : Int.tmod (qa : Int) (n : Int) = (a : Int) := by rw [← ha]; rfl
  have eb1 : Int.tmod (qb : Int) (n : Int) = (b : Int) := by rw [← hb]; rfl
  have ec1 : Int.tmod (qc : Int) (n : Int) = (cc : Int) := by rw [← hc]; rfl
  have ea2 : (qa : Int) % (n : Int) = (a : Int) := by rw [← ha]; rfl
  have eb2 : (qb : Int) % (n : Int) = (b : Int) := by rw [← hb]; rfl
  have ec2 : (qc : Int) % (n : Int) = (cc : Int) := by rw [← hc]; rfl
  have q0 := HSx.out.k0
  rw [hn] at q0
  obtain ⟨k0, k1, k2, k3, k4⟩ := hGA
  have hgc := HCg.out
  have HAn := Lib.hid han
  have HBn := Lib.hid hbn
  have HCn := Lib.hid hcn
  have HNl := Lib.hid hn
  have HLt := Lib.hid hlt
  have d40 : decide ((i : Int) < 40) = true := decide_eq_true (by omega)
  subst hAg
  clear ha hb hc han hbn hcn hn hgy hqa2 hqb2 hqc2
  go_upto_region 7 with fail
  obtain ⟨W5, hW5⟩ : ∃ W, wr.alloc (Obj.cells #[.int .i64 gy.f0, .int .i64 gy.f1, .int .i64 gy.f2, .int .i64 gy.f3, .int .i64 gy.f4] 71) = W := ⟨_, rfl⟩
  rw [hW5]
  obtain ⟨G, hG⟩ : ∃ G, wr.heap.size = G := ⟨_, rfl⟩
  have hb5 : Below wr.heap.size wr W5 := by rw [← hW5]; exact below_alloc (Below.refl _ _) _
  have hs5 : W5.heap.size = G + 1 := by rw [← hW5, ← hG]; simp
  have hgt : GAt W5 G 0 gy := by
    rw [← hW5, ← hG]
    exact ⟨by simp [go_sem], by simp [go_sem], by simp [go_sem], by simp [go_sem], by simp [go_sem]⟩
  rw [hG]
  have hNw := Nat.lt_of_lt_of_le HN2.out HKx.out.1
  have hM5 : MSt W5 W5 X base (fun b => (b ≠ base ∧ b ≠ N) ∧ b ≠ G) l A c (some ⟨N, 0, none⟩) 2 dN G gy :=
    ⟨(HSx.out.mono (G := fun b => (b ≠ base ∧ b ≠ N) ∧ b ≠ G) (fun b h1 h2 => ⟨h1, by omega⟩)).below hb5, HGx.out, Kept.refl _ _, Below.refl _ _, hgt, fun h => by
      rcases h with h | h
      · have := HSx.out.x; omega
      · exact h.2 rfl, fun b hb => ⟨⟨by have := HX.out; have := HSx.out.x; omega, by omega⟩, by omega⟩⟩
  have HM5 := Lib.hid hM5
  have hk5 : Kept W4 W5 (fun b => b = X ∨ (b ≠ base ∧ b ≠ N)) := HKx.out.below hb5
  have hb5' : Below base w W5 := HBx.out.trans (hb5.mono (Nat.le_trans HSx.out.hb (Nat.le_of_lt HSx.out.x)))
  have HK5 := Lib.hid hk5
  have HB5 := Lib.hid hb5'
  have q5 := (hb5.cell (p := ⟨X, 0, none⟩) HSx.out.x).trans q0
  obtain ⟨k0, k1, k2, k3, k4⟩ := hgt
  clear hW5 hG hb5 hs5 hM5 hk5 hb5' q0 hNw HSx HKx HBx HGx hbg
  clear k0 k1 k2 k3 k4
  obtain ⟨k0, k1, k2, k3, k4⟩ := HM5.out.gt
  go_upto_region 8 with fail
  go_quiet (fail)
  obtain ⟨W6, hW6⟩ : ∃ W, W5.drewN nq = W := ⟨_, rfl⟩
  rw [hW6]
  have hb6 : Below W5.heap.size W5 W6 := by rw [← hW6]; exact pw_below_drewN (Below.refl _ _) _
  have HM6 := Lib.hid (HM5.out.below hb6)
  clear q5 k0 k1 k2 k3 k4 hW6 hb6 HM5
  obtain ⟨k0, k1, k2, k3, k4⟩ := HM6.out.gt
  have hk1 := hk9
  have ek1 : Int.tmod (qk : Int) 9 = (8 : Int) := by show ((qk % 9 : Nat) : Int) = _; rw [hk1]; rfl
  have ek2 : (qk : Int) % 9 = (8 : Int) := by show ((qk % 9 : Nat) : Int) = _; rw [hk1]; rfl
  have hw1 : (1 : Int) + (qw : Int) = ((1 + qw : Nat) : Int) := by omega
  obtain ⟨wd, hwd⟩ : ∃ v, 1 + qw = v := ⟨_, rfl⟩
  rw [hwd] at hw1
  have HW1 := Lib.hid (show 1 ≤ wd ∧ wd ≤ 4 by omega)
  clear hk1 hk9 hwd hqw2
  go_upto_region 16 with fail
  have hw64 : wrap64 (wd : Int) = (wd : Int) := w64 (by have := HW1.out; omega) (by have := HW1.out; omega)
  rw [hw64]
  have hend : ∀ w' l' A' c', MSt W5 w' X base (fun b => (b ≠ base ∧ b ≠ N) ∧ b ≠ G) l' A' c' (some ⟨N, 0, none⟩) 2 dN G gy → l'.length ≤ n + 3 → ∃ l' A' c', RSt w W4 w' X base N dN (i + 1) l' A' c' := fun w' l' A' c' h hl => by
    have h1 := HLx.out
    have h2 := HNl.out
    exact ⟨l', A', c', h.s.mono fun b hb _ => hb.1, h.g, by omega, HK5.out.then_ h.k (fun k hk => Or.inl (hk.elim Or.inl fun h => Or.inr h.1)), HB5.out.trans h.b⟩
  have HEnd := Lib.hid hend
  have hn1000 : l.length ≤ 1000 := by have := HNl.out; omega
  have HL1 := Lib.hid hn1000
  clear hend hn1000 ea1 ea2 eb1 eb2 ec1 ec2 ek1 ek2 ma mb mk mw hw1 hw64
  obtain ⟨bx, ox, A3x, c3x, hAx, -, hbx, hNDx⟩ := HM6.out.s.node a (by have := HNl.out; have := HAn.out; omega)
  have nx := (hNDx _ (Below.refl _ _)).k2
  rw [← wAt_nat] at nx
  have hwx := HM6.out.g.wd (v := (a : Int)) (At.nat (by have := HNl.out; have := HAn.out; omega))
  obtain ⟨by_, oy, A3y, c3y, hAy, -, hby, hNDy⟩ := HM6.out.s.node b (by have := HNl.out; have := HBn.out; omega)
  have ny := (hNDy _ (Below.refl _ _)).k2
  rw [← wAt_nat] at ny
  have hwy := HM6.out.g.wd (v := (b : Int)) (At.nat (by have := HNl.out; have := HBn.out; omega))
  have q1 := HM6.out.s.k0
  rw [HNl.out, hAx] at q1
  have hcap := HM6.out.s.cap
  rw [HNl.out] at hcap
  obtain ⟨wa, hwa⟩ : ∃ v, wAt l (a : Int) = v := ⟨_, rfl⟩
  obtain ⟨wb, hwb⟩ : ∃ v, wAt l (b : Int) = v := ⟨_, rfl⟩
  have e := hAx.symm.trans hAy
  obtain ⟨rfl, rfl⟩ : bx = by_ ∧ ox = oy := by
    injection e with e
    injection e with e1 e2 e3
    exact ⟨e1, e2⟩
  rw [hwa] at nx hwx
  rw [hwb] at ny hwy
  have HWa := Lib.hid (And.intro hwa hwx)
  have HWb := Lib.hid (And.intro hwb hwy)
  obtain ⟨ws, hws⟩ : ∃ v, wa + wb = v := ⟨_, rfl⟩
  have hw0 : wrap64 ws = ws := w64 (by omega) (by omega)
  have HWs := Lib.hid hws
  have han := HAn.out
  have hbn := HBn.out
  have hw1' := hwx
  clear hwa hwb hwx hwy hNDx hNDy hbx hby e hAx hAy
  clear k0 k1 k2 k3 k4
  have hM6 := HM6.out
  go_upto_region 11 with fail
  go_quiet (fail)
  obtain ⟨W7, hW7⟩ : ∃ W, W6.drewN nq = W := ⟨_, rfl⟩
  rw [hW7]
  have hb7 : Below W6.heap.size W6 W7 := by rw [← hW7]; exact pw_below_drewN (Below.refl _ _) _
  have HM7 := Lib.hid (HM6.out.below hb7)
  have q1' := (hb7.cell (p := ⟨X, 0, none⟩) HM6.out.s.x).trans q1
  have nx' := (hb7.cell (p := ⟨bx, ox + a * 8 + 2, none⟩) (World.block_lt_of_cell? W6 _ nx)).trans nx
  clear hM6 hW7 hb7 q1 nx ny
  by_cases hsm : 200 < ws
  · have HSm := Lib.hid hsm
    have d200 : decide (200 < ws) = true := decide_eq_true hsm
    clear hsm
    go_upto_region 5 with (first
      | fail
      | (go_at_call 30; refine (HM7.out.add (x := ⟨3, 5, wa, [(a : Int)], ⟨#[]⟩, 0, 0, 0⟩) (grown_below HGr.out) HOl.out (g_cat1 (At.nat (by have := HNl.out; have := HAn.out; omega)) HWa.out.1 (by have := HWa.out.2; omega) (by have := HWa.out.2; omega)) HL1.out).mono ?_; rintro e w8 ⟨rfl, A', c', hm⟩; have HM8 := Lib.hid hm; clear hm)
      | ((with_reducible refine gate_dst (N := 110) rfl ?_); refine Kd.R_lit (Kd.int .i64) (w0 := W7) base 3 ?hg (N := 110) ?hd (xs := [(a : Int)]) (inner := [.int .i64 (a : Int)]) (ok := fun b => W7.heap.size ≤ b) (okp := fun _ => False) ?hr ?hp (fun _ hk => hk.elim) (Nat.le_refl _) (Below.refl _ _) HM7.out.row ?hm ?_; (case hm => simp); (case hd => rfl); (case hg => rfl); (case hr => first | (go_simp; done) | (go_simp; rfl)); (case hp => exact (Reps.one (show Kd.M (Kd.int .i64) _ _ _ (a : Int) [.int .i64 (a : Int)] from rfl) (Reps.none _ _))); intro vl w8 ho hb hg _; obtain ⟨Al, cl, hvl⟩ := Kd.R_slice ho; subst hvl; have HOl := Lib.hid ho; have HGr := Lib.hid hg; clear ho hb hg))
    have e1 := HEnd.out _ _ _ _ HM8.out (by have := HNl.out;  simp; omega)
    have HE1 := Lib.hid e1
    clear e1
    clear k0 k1 k2 k3 k4
    go_wp2_with fail
    exact HRnd.out _ _ ⟨_, _, _, _, _, _, _, _, _, _, _, _, _, _, _, _, _, _, _, _, _, _, _, _, _, _, _, _, _, _, _, _, _, _, _, _, _, _, _, _, _, _, _, _, _, _, _, _, _, _, _, _, _, _, _, _, _, _, _, _, _, _, _, _, _, _, _, _, _, _, _, _, _, _, _, _, _, _, _, _, _, _, _, _, _, _, _, _, _, _, _, _, _, _, _, _, _, _, _, _, _, _, _, _, _, _, _, _, _, _, _, _, _, _, _, _, _, _, _, _, _, _, _, _, _, _, _, _, _, _, _, _, _, _, _, _, _, _, _, _, _, _, _, _, _, _, _, _, _, _, _, _, _, _, _, _, _, _, _, _, _, _, _, _, _, _, _, _, _, _, _, _, _, _, _, _, _, _, _, _, _, _, _, _, _, _, _, _, _, _, _, _, _, _, _, _, _, _, _, _, _, _, _, _, _, _, _, _, _, _, _, _, _, _, _, _, _, _, _, _, _, _, _, _, _, _, _, _, _, _, _, _, _, _, _, _, _, _, _, _, _, _, _, _, _, _, _, rfl⟩ HE1.out
  · have HSm := Lib.hid (Int.not_lt.1 hsm)
    have d200 : decide (200 < ws) = false := decide_eq_false hsm
    clear hsm
    go_upto_region 5 with (first
      | fail
      | (go_at_call 30; refine (HM7.out.add (x := ⟨3, 5, ws, [(a : Int), (b : Int)], ⟨#[]⟩, 0, 0, 0⟩) (grown_below HGr.out) HOl.out (g_cat2 (At.nat (by have := HNl.out; have := HAn.out; omega)) (At.nat (by have := HNl.out; have := HBn.out; omega)) (by rw [HWa.out.1, HWb.out.1]; exact HWs.out) (by have := HWa.out.2; have := HWb.out.2; have := HWs.out; omega) HSm.out) HL1.out).mono ?_; rintro e w8 ⟨rfl, A', c', hm⟩; have HM8 := Lib.hid hm; clear hm)
      | ((with_reducible refine gate_dst (N := 117) rfl ?_); refine Kd.R_lit (Kd.int .i64) (w0 := W7) base 3 ?hg (N := 117) ?hd (xs := [(a : Int), (b : Int)]) (inner := [.int .i64 (a : Int), .int .i64 (b : Int)]) (ok := fun b => W7.heap.size ≤ b) (okp := fun _ => False) ?hr ?hp (fun _ hk => hk.elim) (Nat.le_refl _) (Below.refl _ _) HM7.out.row ?hm ?_; (case hm => simp); (case hd => rfl); (case hg => rfl); (case hr => first | (go_simp; done) | (go_simp; rfl)); (case hp => exact (Reps.one (show Kd.M (Kd.int .i64) _ _ _ (a : Int) [.int .i64 (a : Int)] from rfl) (Reps.one (show Kd.M (Kd.int .i64) _ _ _ (b : Int) [.int .i64 (b : Int)] from rfl) (Reps.none _ _)))); intro vl w8 ho hb hg _; obtain ⟨Al, cl, hvl⟩ := Kd.R_slice ho; subst hvl; have HOl := Lib.hid ho; have HGr := Lib.hid hg; clear ho hb hg))
    have e1 := HEnd.out _ _ _ _ HM8.out (by have := HNl.out;  simp; omega)
    have HE1 := Lib.hid e1
    clear e1
    clear k0 k1 k2 k3 k4
    go_wp2_with fail
    exact HRnd.out _ _ ⟨_, _, _, _, _, _, _, _, _, _, _, _, _, _, _, _, _, _, _, _, _, _, _, _, _, _, _, _, _, _, _, _, _, _, _, _, _, _, _, _, _, _, _, _, _, _, _, _, _, _, _, _, _, _, _, _, _, _, _, _, _, _, _, _, _, _, _, _, _, _, _, _, _, _, _, _, _, _, _, _, _, _, _, _, _, _, _, _, _, _, _, _, _, _, _, _, _, _, _, _, _, _, _, _, _, _, _, _, _, _, _, _, _, _, _, _, _, _, _, _, _, _, _, _, _, _, _, _, _, _, _, _, _, _, _, _, _, _, _, _, _, _, _, _, _, _, _, _, _, _, _, _, _, _, _, _, _, _, _, _, _, _, _, _, _, _, _, _, _, _, _, _, _, _, _, _, _, _, _, _, _, _, _, _, _, _, _, _, _, _, _, _, _, _, _, _, _, _, _, _, _, _, _, _, _, _, _, _, _, _, _, _, _, _, _, _, _, _, _, _, _, _, _, _, _, _, _, _, _, _, _, _, _, _, _, _, _, _, _, _, _, _, _, _, _, _, _, rfl⟩ HE1.out
end Go.Proofs.YtonnmkhmhndalaaDoor
end
