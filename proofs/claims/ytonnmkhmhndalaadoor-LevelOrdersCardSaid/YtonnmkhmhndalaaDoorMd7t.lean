/- Made: what stands behind its first loop. -/
import Derived.Test.YtonnmkhmhndalaaDoorMgL
namespace Go.Proofs.YtonnmkhmhndalaaDoor
set_option linter.unusedVariables false
set_option linter.unusedSimpArgs false
open Go.RowKit Go.Proofs.YtonnmkhmhndalaaDoorW.PrintWords Go.Proofs.YtonnmkhmhndalaaDoorW.PrintLast Go.Proofs.YtonnmkhmhndalaaDoorW.PrintMore

/-- what stands behind the first loop -/
def afterLoop : Code → Option Code
  | .seq a b => match firstLoop a with
    | some _ => some b
    | none => afterLoop b
  | .block _ c => afterLoop c
  | .scope c => afterLoop c
  | _ => none
noncomputable def tail18 : Code := (Tryd.f18.body.bind afterLoop).getD .skip
/-- what stands behind the first loop, in memory -/
structure TEnv (w W4 : World) (X base N dN : Nat) (gs : List S71) (Ag : Option Addr) (cg : Nat) : Prop where
  e : REnv w W4 X base N dN gs Ag cg
  hb : w.heap.size = base
  nb : N ≠ base
  rb : RBx W4 base
  hF : ∀ b, W4.heap.size ≤ b → b ≠ base ∧ b ≠ N
set_option maxRecDepth 1000000 in
set_option maxHeartbeats 8000000 in
theorem made_tail (gs : List S71) (Ag : Option Addr) (cg : Nat) (w W4 : World) (X base N dN i : Nat) (l : List S39) (A : Option Addr) (c : Nat) (wr : World) (hE : TEnv w W4 X base N dN gs Ag cg) (hS : RSt w W4 wr X base N dN i l A c) (hi : i ≤ 40)
    (c1 c4 c5 c6 c7 c8 c9 c10 c11 c12 c13 c14 c15 c16 c17 c18 c19 c20 c21 c22 c23 c24 c25 c26 c27 c28 c29 c30 c31 c32 c33 c34 c35 c36 c37 c38 c39 c40 c41 c42 c43 c44 c45 c46 c47 c48 c49 c50 c51 c52 c53 c54 c55 c56 c57 c58 c59 c60 c61 c62 c63 c64 c65 c66 c67 c68 c69 c70 c71 c72 c73 c74 c75 c76 c77 c78 c79 c80 c81 c82 c83 c84 c85 c86 c87 c88 c89 c90 c91 c92 c93 c94 c95 c96 c97 c98 c99 c100 c101 c102 c103 c104 c105 c106 c107 c108 c109 c110 c111 c112 c113 c114 c115 c116 c117 c118 c119 c120 c121 c122 c123 c124 c125 c126 c127 c128 c129 c130 c131 c132 c133 c134 c135 c136 c137 c138 c139 c140 c141 c142 c143 c144 c145 c146 c147 c148 c149 c150 c151 c152 c153 c154 c155 c156 c157 c158 c159 c160 c161 c162 c163 c164 c165 c166 c167 c168 c169 c170 c171 c172 c173 c174 c175 c176 c177 c178 c179 c180 c181 c182 c183 c184 c185 c186 c187 c188 c189 c190 c191 c192 c193 c194 c195 c196 c197 c198 c199 c200 c201 c202 c203 c204 c205 c206 c207 c208 c209 c210 c211 c212 c213 c214 c215 c216 c217 c218 c219 c220 c221 c222 c223 c224 c225 c226 c227 c228 c229 c230 c231 c232 c233 c234 c235 c236 c237 c238 c239 c240 c241 c242 c243 c244 c245 c246 c247 c248 c249 c250 c251 c252 c253 c254 c255 c256 c257 c258 c259 c260 c261 c262 c263 c264 c265 c266 c267 c268 c269 c270 c271 c272 c273 c274 c275 c276 c277 c278 c279 c280 c281 c282 c283 c284 c285 c286 c287 c288 c289 c290 c291 c292 c293 c294 c295 c296 c297 c298 c299 c300 c301 c302 c303 c304 c305 c306 c307 c308 c309 c310 c311 c312 c313 c314 c315 c316 c317 c318 : Value) :
    Code.wp Tryd.prog tail18 (bodyPost Tryd.prog Tryd.f18 fun e w' => ∃ (x : NL) (A : Option Addr) (c : Nat) (B : Option Addr) (d : Nat), e = .returned (nlV x A c B d) ∧ NIn w' x A c B d ∧ GL x.nd ∧ mayL x = true ∧ x.nd.length ≤ 130 ∧ Below w.heap.size w w') ⟨#[.slice Ag gs.length cg, c1, .pointer (some ⟨base, 0, none⟩), .pointer (some ⟨X, 0, none⟩), c4, c5, c6, c7, c8, c9, c10, c11, c12, c13, c14, c15, c16, c17, c18, c19, c20, c21, c22, c23, c24, c25, c26, c27, c28, c29, c30, c31, c32, c33, c34, c35, c36, c37, c38, c39, c40, c41, c42, c43, c44, c45, c46, c47, c48, c49, c50, c51, c52, c53, c54, c55, c56, c57, c58, c59, c60, c61, c62, c63, c64, c65, c66, c67, c68, c69, c70, c71, c72, c73, c74, c75, c76, c77, c78, c79, c80, c81, c82, c83, c84, c85, c86, c87, c88, c89, c90, c91, c92, c93, c94, c95, c96, c97, c98, c99, c100, c101, c102, c103, c104, c105, c106, c107, c108, c109, c110, c111, c112, c113, c114, c115, c116, c117, c118, c119, c120, c121, c122, c123, c124, c125, c126, c127, c128, c129, c130, c131, c132, c133, c134, c135, c136, c137, c138, c139, c140, c141, c142, c143, c144, c145, c146, c147, c148, c149, c150, c151, c152, c153, c154, c155, c156, c157, c158, c159, c160, c161, c162, c163, c164, c165, c166, c167, c168, c169, c170, c171, c172, c173, c174, c175, c176, c177, c178, c179, c180, c181, c182, c183, c184, c185, c186, c187, c188, c189, c190, c191, c192, c193, c194, c195, c196, c197, c198, c199, c200, c201, c202, c203, c204, c205, c206, c207, c208, c209, c210, c211, c212, c213, c214, c215, c216, c217, c218, c219, c220, c221, c222, c223, c224, c225, c226, c227, c228, c229, c230, c231, c232, c233, c234, c235, c236, c237, c238, c239, c240, c241, c242, c243, c244, c245, c246, c247, c248, c249, c250, c251, c252, c253, c254, c255, c256, c257, c258, c259, c260, c261, c262, c263, c264, c265, c266, c267, c268, c269, c270, c271, c272, c273, c274, c275, c276, c277, c278, c279, c280, c281, c282, c283, c284, c285, c286, c287, c288, c289, c290, c291, c292, c293, c294, c295, c296, c297, c298, c299, c300, c301, c302, c303, c304, c305, c306, c307, c308, c309, c310, c311, c312, c313, c314, c315, c316, c317, c318], []⟩ wr := by
  have HCg := Lib.hid hE.e.gl
  have HGs := Lib.hid hE.e.gc
  have HX := Lib.hid hE.e.x
  have HN2 := Lib.hid hE.e.n
  have HNX := Lib.hid hE.e.nx
  have HNt := Lib.hid hE.e.nt
  have HBa := Lib.hid hE.hb
  have HNB := Lib.hid hE.nb
  have HR4 := Lib.hid hE.rb
  have HF := Lib.hid hE.hF
  have HSx := Lib.hid hS.s
  have HGx := Lib.hid hS.g
  have HLx := Lib.hid hS.len
  have HKx := Lib.hid hS.k
  have HBx := Lib.hid hS.b
  clear hE hS
  conv => arg 2; whnf
  obtain ⟨s0, hs0⟩ : ∃ s, wr.heap.size = s := ⟨_, rfl⟩
  have hk4 := HKx.out.1
  have hLl : l.length ≤ 1000 := by have := HLx.out; omega
  have hgw : ∀ W, Below base wr W → Kd.C k71 W Ag gs.length gs := fun W hW => HGs.out W (HBx.out.trans hW)
  have hfw : ∀ b, wr.heap.size ≤ b → (fun b => b ≠ base ∧ b ≠ N) b := fun b hb => HF.out b (Nat.le_trans hk4 hb)
  have hbk := fun W (hW : wr = W) => back_any X base (fun b => b ≠ base ∧ b ≠ N) l A c (some ⟨N, 0, none⟩) 2 dN 0 gs Ag cg W (by rw [← hW]; exact HSx.out) HGx.out (by rw [← hW]; exact hgw) HCg.out (by rw [← hW]; exact hfw) hLl
  have HBk := Lib.hid hbk
  clear hk4 hLl hgw hfw hbk
  go_upto_region 45 with (first
    | fail
    | (go_at_call 35; refine (HBk.out _ rfl).mono ?_; rintro e w5 ⟨l5, rfl, hs5, hg5, hn5, hk5, hb5⟩; have HS5 := Lib.hid hs5; have HG5 := Lib.hid hg5; have HN5 := Lib.hid hn5; have HK5 := Lib.hid hk5; have HB5 := Lib.hid hb5; clear hs5 hg5 hn5 hk5 hb5))
  obtain ⟨S0, hS0⟩ : ∃ s, w5.heap.size = s := ⟨_, rfl⟩
  have hst6 := HS5.out.mono (G := fun b => (b ≠ base ∧ b ≠ N) ∧ b < S0) (fun b h1 h2 => ⟨h1, by omega⟩)
  have hW45 : Kept W4 w5 (fun b => b = X ∨ b ≠ base ∧ b ≠ N) := HKx.out.then_ HK5.out (fun k hk => Or.inl hk)
  have hnt6 : Kd.R (Kd.int .i64) 3 w5 base (fun b => b = N ∨ S0 ≤ b) (.slice (some ⟨N, 0, none⟩) 2 dN) [0, 1] :=
    Kd.R_mono (Kd.R_kept HNt.out hW45 (fun k hk h => by have h1 := HNX.out; have hk' : k = N := hk; subst hk'; rcases h with h | h; exact h1 h; exact h.2 rfl)) (fun b hb => Or.inl hb)
  have hrb6 : RBx w5 base := HR4.out.kept hW45 (fun h => by have h1 := HX.out; rcases h with h | h; omega; exact h.1 rfl)
  have hb6 : Below base w w5 := HBx.out.trans HB5.out
  have HS6 := Lib.hid hst6
  have HT6 := Lib.hid hnt6
  have HR6 := Lib.hid hrb6
  have HB6 := Lib.hid hb6
  have HXS := Lib.hid (show X < S0 by rw [← hS0]; exact HS5.out.x)
  have HSZ := Lib.hid (Nat.le_of_eq hS0.symm)
  obtain ⟨m1, hm1⟩ : ∃ m, l5.length = m + 1 := ⟨l5.length - 1, by have := HG5.out.two; omega⟩
  have HM1 := Lib.hid hm1
  have HM2 := Lib.hid (show m1 ≤ 121 by have := HN5.out; have := HLx.out; omega)
  clear hst6 hW45 hnt6 hrb6 hb6 hS0 HS5 HK5 HB5 HKx HBx HSx HBk hs0 hm1 HGx
  go_wp2_with fail
  go_loopw [20] (fun v20 wx => ∃ (j : Nat) (ns : List Int) (B : Option Addr) (dB : Nat), v20 = .int .i64 j ∧ j ≤ 4 ∧ Hid (LState wx X base (fun b => (b ≠ base ∧ b ≠ N) ∧ b < S0) l5 A c B ns.length dB 0) ∧ Hid (Kd.R (Kd.int .i64) 3 wx base (fun b => b = N ∨ S0 ≤ b) (.slice B ns.length dB) ns) ∧ Hid (∃ tl, ns = [0, 1] ++ tl ∧ tl.length = j ∧ ∀ v : Int, v ∈ tl → 1 < v ∧ v < (l5.length : Int)) ∧ Hid (RBx wx base) ∧ Hid (Below base w wx) ∧ Hid (S0 ≤ wx.heap.size)) (fun v20 _ => 4 - (intOf v20).toNat)
  case atStart => exact ⟨0, [0, 1], some ⟨N, 0, none⟩, dN, rfl, Nat.zero_le _, HS6, HT6, Lib.hid ⟨[], rfl, rfl, fun v hv => by cases hv⟩, HR6, HB6, HSZ⟩
  case round =>
    obtain ⟨j, ns, B, dB, rfl, hj, HSy, HTy, HTl, HRy, HBy, HZy⟩ := hrel
    obtain ⟨q, hq⟩ : ∃ q, ns.length = q := ⟨_, rfl⟩
    have q0 := HSy.out.k0
    rw [HM1.out] at q0
    have q1 := HSy.out.k1
    rw [hq] at q1
    obtain ⟨dv, hdv⟩ : ∃ v : Int, (m1 : Int) - (j : Int) = v := ⟨_, rfl⟩
    have HDv := Lib.hid hdv
    have HQ := Lib.hid hq
    have HJ := Lib.hid hj
    have hdw : wrap64 dv = dv := w64 (by have := HM2.out; omega) (by have := HM2.out; omega)
    have hmw : wrap64 (m1 : Int) = (m1 : Int) := w64 (by have := HM2.out; omega) (by have := HM2.out; omega)
    clear hq
    by_cases hlt : j < 4
    · have e4 : decide ((j : Int) < 4) = true := decide_eq_true (by omega)
      by_cases hgt : 1 < dv
      · have e1 : decide (1 < dv) = true := decide_eq_true hgt
        have hX1 := HSy.out.x
        have nx0 : (wr.alloc (Obj.cells #[.int .i64 dv] 3)).cell? ⟨X, 0, none⟩ = some (.slice A (m1 + 1) c) := (World.cell?_alloc_lt wr _ ⟨X, 0, none⟩ hX1).trans q0
        have nx1 : (wr.alloc (Obj.cells #[.int .i64 dv] 3)).cell? ⟨X, 1, none⟩ = some (.slice B q dB) := (World.cell?_alloc_lt wr _ ⟨X, 1, none⟩ hX1).trans q1
        obtain ⟨-, -, q2, r0, r1, r2, -, -⟩ := HSy.out
        have HX1 := Lib.hid hX1
        have HNo := Lib.hid (show some X ≠ (Value.slice B q dB).ownBlock from fun e => by
          rw [← HQ.out] at e
          have h1 := HTy.out.1 X e.symm
          have h2 := HXS.out
          have h3 := HNX.out
          rcases h1 with h | h
          · exact h3 h.symm
          · omega)
        have HGt := Lib.hid hgt
        clear hX1 hgt
        have hT' := HTy.out
        rw [HQ.out] at hT'
        have HT' := Lib.hid hT'
        clear hT'
        go_upto_region 48 with fail
        have iw1 : IntKind.i64.wrap (m1 : Int) = (m1 : Int) := IntWalk.i64_in _ ⟨by have := HM2.out; omega, by have := HM2.out; omega⟩
        have iw2 : IntKind.i64.wrap dv = dv := IntWalk.i64_in _ ⟨by have := HM2.out; omega, by have := HM2.out; omega⟩
        go_region_law (refine Kd.R_append_step (Kd.int .i64) (w0 := wr) (W := wr.drew) base rfl (.tmp 290) (.tmp 300) 23 3 (.int .i64 0) 8 rfl Tryd.underlying23 info3' rfl (by decide) (by decide) (.slice B q dB) ns dv [.int .i64 dv] (fun b => b = N ∨ S0 ≤ b) (fun _ => False) rfl rfl rfl (fun _ h => h.elim) (fun b hb => Or.inr (Nat.le_trans HZy.out hb)) (Kd.R_drew HT'.out) (Below.refl _ _).drew (Nat.le_trans HSy.out.hb (Nat.le_of_lt HX1.out)) (by have := HQ.out; have := HJ.out; have h := HTl.out; obtain ⟨tl, h1, h2, -⟩ := h; subst h1; simp; omega) ?_; intro v1 w9 ho hb hg hat; obtain ⟨B1, d1, hv1⟩ := Kd.R_slice ho; subst hv1; rw [show (ns ++ [dv]).length = q + 1 from (by rw [List.length_append, HQ.out]; rfl)] at ho; rw [show (ns ++ [dv]).length = q + 1 from (by rw [List.length_append, HQ.out]; rfl)]; have y0 := (hg.cell_far ⟨X, 0, none⟩ HX1.out HNo.out).trans q0; have y1 := (hg.cell_far ⟨X, 1, none⟩ HX1.out HNo.out).trans q1; have y2 := (hg.cell_far ⟨X, 2, none⟩ HX1.out HNo.out).trans q2; have z0 := (hg.frozen_far ⟨X, 0, none⟩ HX1.out HNo.out).trans r0; have z1 := (hg.frozen_far ⟨X, 1, none⟩ HX1.out HNo.out).trans r1; have z2 := (hg.frozen_far ⟨X, 2, none⟩ HX1.out HNo.out).trans r2; have HO := Lib.hid ho; have HBo := Lib.hid hb; have HGo := Lib.hid hg; clear ho hb hg hat)
        all_goals
          have hk9 : Kept wr w9 (fun b => b = N ∨ S0 ≤ b) := Kept.of_grown HGo.out ((Kept.refl _ _).drew) (fun k hk => Or.inl (HT'.out.1 k hk))
          have hS9 := (HSy.out.kept hk9 (fun h => by have h1 := HNX.out; have h2 := HXS.out; rcases h with h | h; exact h1 h.symm; omega) (fun b _ hF h => by rcases h with h | h; exact hF.1.2 h; have := hF.2; omega)).putB B1 (q + 1) d1
          have hnx : ∀ k, (k = N ∨ S0 ≤ k) → k ≠ X := fun k hk e => by
            have h1 := HNX.out
            have h2 := HXS.out
            rcases hk with h | h
            · exact h1 (h.symm.trans e)
            · omega
          have hT9 := Kd.R_far (p := ⟨X, 1, none⟩) HO.out hnx (.slice B1 (q + 1) d1)
          have hR9 := (HRy.out.kept hk9 (fun h => by have h1 := HNB.out; have h2 := HXS.out; have h3 := HX.out; rcases h with h | h; exact h1 h.symm; omega)).far (p := ⟨X, 1, none⟩) (by have := HX.out; show X ≠ base; omega) (.slice B1 (q + 1) d1)
          have hB9 := (HBy.out.trans HBo.out).setCell (p := ⟨X, 1, none⟩) HSy.out.hb (.slice B1 (q + 1) d1)
          have hZ9 : S0 ≤ (w9.setCell ⟨X, 1, none⟩ (.slice B1 (q + 1) d1)).heap.size := by
            have h1 := HZy.out
            have h2 := hk9.1
            have h3 : (w9.setCell ⟨X, 1, none⟩ (.slice B1 (q + 1) d1)).heap.size = w9.heap.size := by simp [World.setCell]
            omega
          generalize w9.setCell ⟨X, 1, none⟩ (.slice B1 (q + 1) d1) = W9 at *
          have hlen : (ns ++ [dv]).length = q + 1 := by rw [List.length_append, HQ.out]; rfl
          rw [← hlen] at hS9 hT9
          have HS9 := Lib.hid hS9
          have HT9 := Lib.hid hT9
          have HR9 := Lib.hid hR9
          have HB9 := Lib.hid hB9
          have HZ9 := Lib.hid hZ9
          have hn9 : ∃ tl : List Int, ns ++ [dv] = [0, 1] ++ tl ∧ tl.length = j + 1 ∧ ∀ v : Int, v ∈ tl → 1 < v ∧ v < (l5.length : Int) := by
            obtain ⟨tl, h1, h2, h3⟩ := HTl.out
            refine ⟨tl ++ [dv], by rw [h1, List.append_assoc], by rw [List.length_append, h2]; rfl, fun v hv => ?_⟩
            rcases List.mem_append.1 hv with h | h
            · exact h3 v h
            · rw [List.mem_singleton.1 h]
              have h4 := HGt.out
              have h5 := HDv.out
              have h6 := HM1.out
              omega
          have HN9 := Lib.hid hn9
          clear hS9 hT9 hR9 hB9 hZ9 hn9 hnx hk9 q0 q1 q2 nx0 nx1 r0 r1 r2 y0 y1 y2 z0 z1 z2 iw1 iw2 hlen
          go_wp2_with fail
          refine ⟨⟨j + 1, ns ++ [dv], B1, d1, by simp, by have := HJ.out; omega, HS9, HT9, HN9, HR9, HB9, HZ9⟩, by simp [intOf]; omega⟩
      · have e1 : decide (1 < dv) = false := decide_eq_false hgt
        as_aux_lemma =>
          obtain ⟨-, -, q2, r0, r1, r2, -, -⟩ := HSy.out
          go_upto_region 50 with fail
          obtain ⟨W9, hW9⟩ : ∃ W, wr.setCell ⟨X, 2, none⟩ (.int .i64 q) = W := ⟨_, rfl⟩
          rw [hW9]
          have hS9 := HSy.out.putP (q : Int)
          have hT9 := Kd.R_far (p := ⟨X, 2, none⟩) HTy.out (fun k hk e => by have h1 := HNX.out; have h2 := HXS.out; have hk' : k = X := e; rcases hk with h | h; exact h1 (h.symm.trans hk'); omega) (.int .i64 q)
          have hR9 := HRy.out.far (p := ⟨X, 2, none⟩) (by have := HX.out; show X ≠ base; omega) (.int .i64 q)
          have hB9 := HBy.out.setCell (p := ⟨X, 2, none⟩) HSy.out.hb (.int .i64 q)
          rw [hW9] at hS9 hT9 hR9 hB9
          have q0 := hS9.k0
          have q1 := hS9.k1
          have q2 := hS9.k2
          rw [HQ.out] at q1
          have b0 := blk_cell hR9.blk 0
          have b1 := blk_cell hR9.blk 1
          have b2 := blk_cell hR9.blk 2
          have g0 := blk_frozen hR9.blk 0
          have g1 := blk_frozen hR9.blk 1
          have g2 := blk_frozen hR9.blk 2
          have HS9 := Lib.hid hS9
          have HT9 := Lib.hid hT9
          have HR9 := Lib.hid hR9
          have HB9 := Lib.hid hB9
          clear hS9 hT9 hR9 hB9 hW9
          go_wp2_with fail
          refine bodyPost_ret (results_cell_row rfl _ _ base 25 #[.slice A l5.length c, .slice B ns.length dB, .int .i64 ns.length] (0, 0) _ rfl ?_ Tryd.underlying25 rfl (by kernel_rfl)) rfl ?_
          · rw [HQ.out]
            refine blk_put (cs := #[.slice A l5.length c, .slice B q dB, .int .i64 0]) ?_ 2 _ rfl
            refine blk_put (cs := #[.slice A l5.length c, .slice none 0 0, .int .i64 0]) ?_ 1 _ rfl
            refine blk_put (cs := #[.slice none 0 0, .slice none 0 0, .int .i64 0]) ?_ 0 _ (by rw [HM1.out]; rfl)
            exact HR9.out.blk
          · refine made_fin (F := fun b => b ≠ X ∧ (b ≠ base ∧ b ≠ N) ∧ b < S0) (P := fun b => b = N ∨ S0 ≤ b) (base := base) (p := 0) (X := X) ?_ ?_ HG5.out (by have := HM1.out; have := HM2.out; omega) (by have h := HTl.out; obtain ⟨tl, h1, h2, h3⟩ := h; exact ⟨tl, h1, by have := HJ.out; omega, h3⟩) ?_ HBa.out
            · refine Kd.R_far (Kd.R_far (Kd.R_far HS9.out.r (fun k hk => hk.2.1.1) _) (fun k hk => hk.2.1.1) _) (fun k hk => hk.2.1.1) _
            · have hnb : ∀ k, (k = N ∨ S0 ≤ k) → k ≠ base := fun k hk e => by
                have h1 := HNB.out
                have h2 := HXS.out
                have h3 := HX.out
                rcases hk with h | h
                · exact h1 (h.symm.trans e)
                · omega
              refine Kd.R_far (Kd.R_far (Kd.R_far HT9.out hnb _) hnb _) hnb _
            · exact ((HB9.out.setCell (Nat.le_refl _) _).setCell (Nat.le_refl _) _).setCell (Nat.le_refl _) _
    · have e4 : decide ((j : Int) < 4) = false := decide_eq_false (by omega)
      as_aux_lemma =>
        obtain ⟨-, -, q2, r0, r1, r2, -, -⟩ := HSy.out
        go_upto_region 50 with fail
        obtain ⟨W9, hW9⟩ : ∃ W, wr.setCell ⟨X, 2, none⟩ (.int .i64 q) = W := ⟨_, rfl⟩
        rw [hW9]
        have hS9 := HSy.out.putP (q : Int)
        have hT9 := Kd.R_far (p := ⟨X, 2, none⟩) HTy.out (fun k hk e => by have h1 := HNX.out; have h2 := HXS.out; have hk' : k = X := e; rcases hk with h | h; exact h1 (h.symm.trans hk'); omega) (.int .i64 q)
        have hR9 := HRy.out.far (p := ⟨X, 2, none⟩) (by have := HX.out; show X ≠ base; omega) (.int .i64 q)
        have hB9 := HBy.out.setCell (p := ⟨X, 2, none⟩) HSy.out.hb (.int .i64 q)
        rw [hW9] at hS9 hT9 hR9 hB9
        have q0 := hS9.k0
        have q1 := hS9.k1
        have q2 := hS9.k2
        rw [HQ.out] at q1
        have b0 := blk_cell hR9.blk 0
        have b1 := blk_cell hR9.blk 1
        have b2 := blk_cell hR9.blk 2
        have g0 := blk_frozen hR9.blk 0
        have g1 := blk_frozen hR9.blk 1
        have g2 := blk_frozen hR9.blk 2
        have HS9 := Lib.hid hS9
        have HT9 := Lib.hid hT9
        have HR9 := Lib.hid hR9
        have HB9 := Lib.hid hB9
        clear hS9 hT9 hR9 hB9 hW9
        go_wp2_with fail
        refine bodyPost_ret (results_cell_row rfl _ _ base 25 #[.slice A l5.length c, .slice B ns.length dB, .int .i64 ns.length] (0, 0) _ rfl ?_ Tryd.underlying25 rfl (by kernel_rfl)) rfl ?_
        · rw [HQ.out]
          refine blk_put (cs := #[.slice A l5.length c, .slice B q dB, .int .i64 0]) ?_ 2 _ rfl
          refine blk_put (cs := #[.slice A l5.length c, .slice none 0 0, .int .i64 0]) ?_ 1 _ rfl
          refine blk_put (cs := #[.slice none 0 0, .slice none 0 0, .int .i64 0]) ?_ 0 _ (by rw [HM1.out]; rfl)
          exact HR9.out.blk
        · refine made_fin (F := fun b => b ≠ X ∧ (b ≠ base ∧ b ≠ N) ∧ b < S0) (P := fun b => b = N ∨ S0 ≤ b) (base := base) (p := 0) (X := X) ?_ ?_ HG5.out (by have := HM1.out; have := HM2.out; omega) (by have h := HTl.out; obtain ⟨tl, h1, h2, h3⟩ := h; exact ⟨tl, h1, by have := HJ.out; omega, h3⟩) ?_ HBa.out
          · refine Kd.R_far (Kd.R_far (Kd.R_far HS9.out.r (fun k hk => hk.2.1.1) _) (fun k hk => hk.2.1.1) _) (fun k hk => hk.2.1.1) _
          · have hnb : ∀ k, (k = N ∨ S0 ≤ k) → k ≠ base := fun k hk e => by
              have h1 := HNB.out
              have h2 := HXS.out
              have h3 := HX.out
              rcases hk with h | h
              · exact h1 (h.symm.trans e)
              · omega
            refine Kd.R_far (Kd.R_far (Kd.R_far HT9.out hnb _) hnb _) hnb _
          · exact ((HB9.out.setCell (Nat.le_refl _) _).setCell (Nat.le_refl _) _).setCell (Nat.le_refl _) _
end Go.Proofs.YtonnmkhmhndalaaDoor
