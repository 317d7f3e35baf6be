/- Made: what its walk wants. Made: its first loop's body, and what stands at each round. -/
import Derived.Test.YtonnmkhmhndalaaDoorMgK
namespace Go.Proofs.YtonnmkhmhndalaaDoor
set_option linter.unusedVariables false
set_option linter.unusedSimpArgs false
open Go.RowKit Go.Proofs.YtonnmkhmhndalaaDoorW.PrintWords Go.Proofs.YtonnmkhmhndalaaDoorW.PrintLast Go.Proofs.YtonnmkhmhndalaaDoorW.PrintMore

theorem R_head0 {α : Type} {d : Kd α} {e base : Nat} {ok : Nat → Prop} {w : World} {v : Value} {xs : List α} (h : d.R e w base ok v xs) (hn : 0 < xs.length) : ∃ g c, v = .slice (some ⟨g, 0, none⟩) xs.length c ∧ ok g ∧ g < w.heap.size := by
  have hl := Kd.R_lt h
  obtain ⟨h0, inner, hown, hr⟩ := h
  rcases hown.2 with ⟨rfl, h1⟩ | ⟨g, cap, cur, rfl, hb, hcur, -⟩
  · omega
  · exact ⟨g, cap, rfl, h0 g rfl, hl g rfl⟩
theorem LState.putB {W : World} {X base : Nat} {F : Nat → Prop} {l : List S39} {A : Option Addr} {c : Nat} {B : Option Addr} {m d : Nat} {p : Int} (h : LState W X base F l A c B m d p) (B' : Option Addr) (m' d' : Nat) : LState (W.setCell ⟨X, 1, none⟩ (.slice B' m' d')) X base F l A c B' m' d' p :=
  ⟨by simp [go_sem, h.k0], by simp [go_sem, h.k1], by simp [go_sem, h.k2], by simp [go_sem, h.f0], by simp [go_sem, h.f1], by simp [go_sem, h.f2], Kd.R_far h.r (fun k hk => hk.1) _, h.hb⟩
theorem LState.putP {W : World} {X base : Nat} {F : Nat → Prop} {l : List S39} {A : Option Addr} {c : Nat} {B : Option Addr} {m d : Nat} {p : Int} (h : LState W X base F l A c B m d p) (p' : Int) : LState (W.setCell ⟨X, 2, none⟩ (.int .i64 p')) X base F l A c B m d p' :=
  ⟨by simp [go_sem, h.k0], by simp [go_sem, h.k1], by simp [go_sem, h.k2], by simp [go_sem, h.f0], by simp [go_sem, h.f1], by simp [go_sem, h.f2], Kd.R_far h.r (fun k hk => hk.1) _, h.hb⟩
/-- the block that the answer lies in -/
structure RBx (W : World) (R : Nat) : Prop where mk ::
  blk : W.heap[R]? = some (.cells #[.slice none 0 0, .slice none 0 0, .int .i64 0] 25)
theorem frozen_kept {W W2 : World} {S : Nat → Prop} {a : Addr} {b : Bool} (hc : W.frozen? a = b) (hlt : a.block < W.heap.size) (hk : Kept W W2 S) (hne : ¬ S a.block) : W2.frozen? a = b := by
  have := hk.2 a.block hlt hne
  rw [← hc]
  simp [World.frozen?, this]
theorem blk_new (w : World) (o : Obj) : (w.alloc o).heap[w.heap.size]? = some o := by
  show (w.heap.push o)[w.heap.size]? = some o
  simp
theorem RBx.new (w : World) (o : Obj) : RBx ((w.alloc (.cells #[.slice none 0 0, .slice none 0 0, .int .i64 0] 25)).alloc o) w.heap.size :=
  ⟨(Below.heap_alloc _ _ _ (by simp)).trans (blk_new _ _)⟩
theorem RBx.kept {W W' : World} {R : Nat} {S : Nat → Prop} (h : RBx W R) (hk : Kept W W' S) (hne : ¬ S R) : RBx W' R := ⟨blk_kept h.blk hk hne⟩
theorem RBx.far {W : World} {R : Nat} (h : RBx W R) {p : Addr} (hp : p.block ≠ R) (u : Value) : RBx (W.setCell p u) R := ⟨(Below.heap_setCell W p u R (fun e => hp e.symm)).trans h.blk⟩
theorem LState.kept {W W' : World} {X base : Nat} {F S : Nat → Prop} {l : List S39} {A : Option Addr} {c : Nat} {B : Option Addr} {m d : Nat} {p : Int} (h : LState W X base F l A c B m d p) (hk : Kept W W' S) (hX : ¬ S X) (hS : ∀ b, b ≠ X → F b → ¬ S b) : LState W' X base F l A c B m d p :=
  ⟨cell_kept h.k0 hk hX, cell_kept h.k1 hk hX, cell_kept h.k2 hk hX, frozen_kept h.f0 h.x hk hX, frozen_kept h.f1 h.x hk hX, frozen_kept h.f2 h.x hk hX, Kd.R_kept h.r hk (fun k hk' => hS k hk'.1 hk'.2), h.hb⟩
theorem info3' : (Tryd.prog.info? 3).map (fun i => (i.zero, i.size, i.bytes)) = some (some (.int .i64 0), 1, 8) := by kernel_rfl
/-- the end -/
theorem made_fin {w W : World} {X base : Nat} {F P : Nat → Prop} {l : List S39} {A : Option Addr} {c : Nat} {B : Option Addr} {ns : List Int} {d : Nat} {p : Int}
    (hS : Kd.R k39 39 W base F (.slice A l.length c) l) (hT : Kd.R (Kd.int .i64) 3 W base P (.slice B ns.length d) ns) (hG : GL l) (hl : l.length ≤ 130) (hn : ∃ tl : List Int, ns = [0, 1] ++ tl ∧ tl.length ≤ 4 ∧ ∀ v : Int, v ∈ tl → 1 < v ∧ v < (l.length : Int)) (hb : Below base w W) (hbase : w.heap.size = base) :
    ∃ (x : NL) (A' : Option Addr) (c' : Nat) (B' : Option Addr) (d' : Nat), Ending.returned (.agg #[.slice A l.length c, .slice B ns.length d, .int .i64 ns.length]) = Ending.returned (nlV x A' c' B' d') ∧ NIn W x A' c' B' d' ∧ GL x.nd ∧ mayL x = true ∧ x.nd.length ≤ 130 ∧ Below w.heap.size w W := by
  obtain ⟨tl, rfl, ht, hv⟩ := hn
  have hm : ∀ s ∈ l, s.f4.size ≤ 4 ∧ s.f3.length ≤ 3 := fun s hs => by
    obtain ⟨j, hj, rfl⟩ := List.getElem_of_mem hs
    have g := hG.nd j hj
    rw [List.getD_eq_getElem?_getD, List.getElem?_eq_getElem hj, Option.getD_some] at g
    exact ⟨g.s4, g.s3⟩
  refine ⟨⟨l, [0, 1] ++ tl, (([0, 1] ++ tl).length : Nat)⟩, A, c, B, d, rfl, ⟨(Kd.R_reads' hS).2.2, (Kd.R_reads' hT).2.2, (Kd.R_reads' hS).2.1, (Kd.R_reads' hT).2.1, fun s hs => ?_, fun s hs => ?_, ?_⟩, hG, hG.may (by omega) tl hv, hl, by rw [hbase]; exact hb⟩
  · exact Nat.le_trans (hm s hs).1 (by decide)
  · exact Nat.le_trans (Nat.mul_le_mul_right 8 (hm s hs).2) (by decide)
  · show ([0, 1] ++ tl).length * 8 ≤ _
    simp
    omega
end Go.Proofs.YtonnmkhmhndalaaDoor
namespace Go.Proofs.YtonnmkhmhndalaaDoor
set_option linter.unusedVariables false
set_option linter.unusedSimpArgs false
open Go.RowKit Go.Proofs.YtonnmkhmhndalaaDoorW.PrintWords Go.Proofs.YtonnmkhmhndalaaDoorW.PrintLast Go.Proofs.YtonnmkhmhndalaaDoorW.PrintMore

/-- the first loop's body -/
def firstLoop : Code → Option Code
  | .loop c => some c
  | .seq a b => match firstLoop a with
    | some c => some c
    | none => firstLoop b
  | .block _ c => firstLoop c
  | .scope c => firstLoop c
  | .cond _ a b => match firstLoop a with
    | some c => some c
    | none => firstLoop b
  | _ => none
noncomputable def body18 : Code := (Tryd.f18.body.bind firstLoop).getD .skip
/-- what stands at each round -/
structure RSt (w W4 W : World) (X base N dN i : Nat) (l : List S39) (A : Option Addr) (c : Nat) : Prop where
  s : LState W X base (fun b => b ≠ base ∧ b ≠ N) l A c (some ⟨N, 0, none⟩) 2 dN 0
  g : GL l
  len : l.length ≤ 2 + 3 * i
  k : Kept W4 W (fun b => b = X ∨ (b ≠ base ∧ b ≠ N))
  b : Below base w W
/-- what stands at all rounds -/
structure REnv (w W4 : World) (X base N dN : Nat) (gs : List S71) (Ag : Option Addr) (cg : Nat) : Prop where
  gc : ∀ W, Below base w W → Kd.C k71 W Ag gs.length gs
  gl : gs.length ≤ cg
  x : base + 1 = X
  n : N < W4.heap.size
  nx : N ≠ X
  nt : Kd.R (Kd.int .i64) 3 W4 base (fun b => b = N) (.slice (some ⟨N, 0, none⟩) 2 dN) [0, 1]
set_option maxRecDepth 1000000 in
/-- the frame of a round -/
def RFrame (gs : List S71) (Ag : Option Addr) (cg X : Nat) (c1 c2 c20 c21 c22 c23 c24 c25 c26 c27 c28 c29 c30 c31 c32 c33 c266 c267 c268 c269 c270 c271 c272 c273 c274 c275 c276 c277 c278 c279 c280 c281 c282 c283 c284 c285 c286 c287 c288 c289 c290 c291 c292 c293 c294 c295 c296 c297 c298 c299 c300 c301 c302 c303 c304 c305 c306 c307 c308 c309 c310 c311 c312 c313 c314 c315 c316 c317 c318 : Value) (i : Int) (a : Act) : Prop :=
  ∃ u5 u6 u7 u8 u9 u10 u11 u12 u13 u14 u15 u16 u17 u18 u19 u34 u35 u36 u37 u38 u39 u40 u41 u42 u43 u44 u45 u46 u47 u48 u49 u50 u51 u52 u53 u54 u55 u56 u57 u58 u59 u60 u61 u62 u63 u64 u65 u66 u67 u68 u69 u70 u71 u72 u73 u74 u75 u76 u77 u78 u79 u80 u81 u82 u83 u84 u85 u86 u87 u88 u89 u90 u91 u92 u93 u94 u95 u96 u97 u98 u99 u100 u101 u102 u103 u104 u105 u106 u107 u108 u109 u110 u111 u112 u113 u114 u115 u116 u117 u118 u119 u120 u121 u122 u123 u124 u125 u126 u127 u128 u129 u130 u131 u132 u133 u134 u135 u136 u137 u138 u139 u140 u141 u142 u143 u144 u145 u146 u147 u148 u149 u150 u151 u152 u153 u154 u155 u156 u157 u158 u159 u160 u161 u162 u163 u164 u165 u166 u167 u168 u169 u170 u171 u172 u173 u174 u175 u176 u177 u178 u179 u180 u181 u182 u183 u184 u185 u186 u187 u188 u189 u190 u191 u192 u193 u194 u195 u196 u197 u198 u199 u200 u201 u202 u203 u204 u205 u206 u207 u208 u209 u210 u211 u212 u213 u214 u215 u216 u217 u218 u219 u220 u221 u222 u223 u224 u225 u226 u227 u228 u229 u230 u231 u232 u233 u234 u235 u236 u237 u238 u239 u240 u241 u242 u243 u244 u245 u246 u247 u248 u249 u250 u251 u252 u253 u254 u255 u256 u257 u258 u259 u260 u261 u262 u263 u264 u265 : Value, a = ⟨#[.slice Ag gs.length cg, c1, c2, .pointer (some ⟨X, 0, none⟩), .int .i64 i, u5, u6, u7, u8, u9, u10, u11, u12, u13, u14, u15, u16, u17, u18, u19, c20, c21, c22, c23, c24, c25, c26, c27, c28, c29, c30, c31, c32, c33, u34, u35, u36, u37, u38, u39, u40, u41, u42, u43, u44, u45, u46, u47, u48, u49, u50, u51, u52, u53, u54, u55, u56, u57, u58, u59, u60, u61, u62, u63, u64, u65, u66, u67, u68, u69, u70, u71, u72, u73, u74, u75, u76, u77, u78, u79, u80, u81, u82, u83, u84, u85, u86, u87, u88, u89, u90, u91, u92, u93, u94, u95, u96, u97, u98, u99, u100, u101, u102, u103, u104, u105, u106, u107, u108, u109, u110, u111, u112, u113, u114, u115, u116, u117, u118, u119, u120, u121, u122, u123, u124, u125, u126, u127, u128, u129, u130, u131, u132, u133, u134, u135, u136, u137, u138, u139, u140, u141, u142, u143, u144, u145, u146, u147, u148, u149, u150, u151, u152, u153, u154, u155, u156, u157, u158, u159, u160, u161, u162, u163, u164, u165, u166, u167, u168, u169, u170, u171, u172, u173, u174, u175, u176, u177, u178, u179, u180, u181, u182, u183, u184, u185, u186, u187, u188, u189, u190, u191, u192, u193, u194, u195, u196, u197, u198, u199, u200, u201, u202, u203, u204, u205, u206, u207, u208, u209, u210, u211, u212, u213, u214, u215, u216, u217, u218, u219, u220, u221, u222, u223, u224, u225, u226, u227, u228, u229, u230, u231, u232, u233, u234, u235, u236, u237, u238, u239, u240, u241, u242, u243, u244, u245, u246, u247, u248, u249, u250, u251, u252, u253, u254, u255, u256, u257, u258, u259, u260, u261, u262, u263, u264, u265, c266, c267, c268, c269, c270, c271, c272, c273, c274, c275, c276, c277, c278, c279, c280, c281, c282, c283, c284, c285, c286, c287, c288, c289, c290, c291, c292, c293, c294, c295, c296, c297, c298, c299, c300, c301, c302, c303, c304, c305, c306, c307, c308, c309, c310, c311, c312, c313, c314, c315, c316, c317, c318], []⟩
end Go.Proofs.YtonnmkhmhndalaaDoor
