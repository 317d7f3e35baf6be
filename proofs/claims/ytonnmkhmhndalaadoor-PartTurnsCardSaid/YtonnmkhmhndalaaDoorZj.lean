/- Made: a round. Made: what stands behind its first loop. Made: the walk. -/
import Derived.Test.YtonnmkhmhndalaaDoorZg
import Derived.Test.YtonnmkhmhndalaaDoorZh
import Derived.Test.YtonnmkhmhndalaaDoorZi
import Derived.Test.YtonnmkhmhndalaaDoorZf
section
namespace Go.Proofs.YtonnmkhmhndalaaDoor
set_option linter.unusedVariables false
set_option linter.unusedSimpArgs false
open Go.RowKit Go.Proofs.YtonnmkhmhndalaaDoorW.PrintWords Go.Proofs.YtonnmkhmhndalaaDoorW.PrintLast Go.Proofs.YtonnmkhmhndalaaDoorW.PrintMore
set_option maxRecDepth 1000000 in
set_option maxHeartbeats 8000000 in
theorem made_round (gs : List S71) (Ag : Option Addr) (cg : Nat) (w W4 : World) (X base N dN i : Nat) (l : List S39) (A : Option Addr) (c : Nat) (wr : World) (hE : REnv w W4 X base N dN gs Ag cg) (hS : RSt w W4 wr X base N dN i l A c) (hlg : i < gs.length) (hlt : i < 40)
    (Q : Exit → Act → World → Prop)
    (c1 c2 c20 c21 c22 c23 c24 c25 c26 c27 c28 c29 c30 c31 c32 c33 c266 c267 c268 c269 c270 c271 c272 c273 c274 c275 c276 c277 c278 c279 c280 c281 c282 c283 c284 c285 c286 c287 c288 c289 c290 c291 c292 c293 c294 c295 c296 c297 c298 c299 c300 c301 c302 c303 c304 c305 c306 c307 c308 c309 c310 c311 c312 c313 c314 c315 c316 c317 c318 : Value)
    (u5 u6 u7 u8 u9 u10 u11 u12 u13 u14 u15 u16 u17 u18 u19 u34 u35 u36 u37 u38 u39 u40 u41 u42 u43 u44 u45 u46 u47 u48 u49 u50 u51 u52 u53 u54 u55 u56 u57 u58 u59 u60 u61 u62 u63 u64 u65 u66 u67 u68 u69 u70 u71 u72 u73 u74 u75 u76 u77 u78 u79 u80 u81 u82 u83 u84 u85 u86 u87 u88 u89 u90 u91 u92 u93 u94 u95 u96 u97 u98 u99 u100 u101 u102 u103 u104 u105 u106 u107 u108 u109 u110 u111 u112 u113 u114 u115 u116 u117 u118 u119 u120 u121 u122 u123 u124 u125 u126 u127 u128 u129 u130 u131 u132 u133 u134 u135 u136 u137 u138 u139 u140 u141 u142 u143 u144 u145 u146 u147 u148 u149 u150 u151 u152 u153 u154 u155 u156 u157 u158 u159 u160 u161 u162 u163 u164 u165 u166 u167 u168 u169 u170 u171 u172 u173 u174 u175 u176 u177 u178 u179 u180 u181 u182 u183 u184 u185 u186 u187 u188 u189 u190 u191 u192 u193 u194 u195 u196 u197 u198 u199 u200 u201 u202 u203 u204 u205 u206 u207 u208 u209 u210 u211 u212 u213 u214 u215 u216 u217 u218 u219 u220 u221 u222 u223 u224 u225 u226 u227 u228 u229 u230 u231 u232 u233 u234 u235 u236 u237 u238 u239 u240 u241 u242 u243 u244 u245 u246 u247 u248 u249 u250 u251 u252 u253 u254 u255 u256 u257 u258 u259 u260 u261 u262 u263 u264 u265 : Value)
    (hrnd : ∀ a' w', RFrame gs Ag cg X c1 c2 c20 c21 c22 c23 c24 c25 c26 c27 c28 c29 c30 c31 c32 c33 c266 c267 c268 c269 c270 c271 c272 c273 c274 c275 c276 c277 c278 c279 c280 c281 c282 c283 c284 c285 c286 c287 c288 c289 c290 c291 c292 c293 c294 c295 c296 c297 c298 c299 c300 c301 c302 c303 c304 c305 c306 c307 c308 c309 c310 c311 c312 c313 c314 c315 c316 c317 c318 ((i : Int) + 1) a' → (∃ l' A' c', RSt w W4 w' X base N dN (i + 1) l' A' c') → Q .normal a' w') :
    Code.wp Tryd.prog body18 Q ⟨#[.slice Ag gs.length cg, c1, c2, .pointer (some ⟨X, 0, none⟩), .int .i64 (i : Int), u5, u6, u7, u8, u9, u10, u11, u12, u13, u14, u15, u16, u17, u18, u19, c20, c21, c22, c23, c24, c25, c26, c27, c28, c29, c30, c31, c32, c33, u34, u35, u36, u37, u38, u39, u40, u41, u42, u43, u44, u45, u46, u47, u48, u49, u50, u51, u52, u53, u54, u55, u56, u57, u58, u59, u60, u61, u62, u63, u64, u65, u66, u67, u68, u69, u70, u71, u72, u73, u74, u75, u76, u77, u78, u79, u80, u81, u82, u83, u84, u85, u86, u87, u88, u89, u90, u91, u92, u93, u94, u95, u96, u97, u98, u99, u100, u101, u102, u103, u104, u105, u106, u107, u108, u109, u110, u111, u112, u113, u114, u115, u116, u117, u118, u119, u120, u121, u122, u123, u124, u125, u126, u127, u128, u129, u130, u131, u132, u133, u134, u135, u136, u137, u138, u139, u140, u141, u142, u143, u144, u145, u146, u147, u148, u149, u150, u151, u152, u153, u154, u155, u156, u157, u158, u159, u160, u161, u162, u163, u164, u165, u166, u167, u168, u169, u170, u171, u172, u173, u174, u175, u176, u177, u178, u179, u180, u181, u182, u183, u184, u185, u186, u187, u188, u189, u190, u191, u192, u193, u194, u195, u196, u197, u198, u199, u200, u201, u202, u203, u204, u205, u206, u207, u208, u209, u210, u211, u212, u213, u214, u215, u216, u217, u218, u219, u220, u221, u222, u223, u224, u225, u226, u227, u228, u229, u230, u231, u232, u233, u234, u235, u236, u237, u238, u239, u240, u241, u242, u243, u244, u245, u246, u247, u248, u249, u250, u251, u252, u253, u254, u255, u256, u257, u258, u259, u260, u261, u262, u263, u264, u265, c266, c267, c268, c269, c270, c271, c272, c273, c274, c275, c276, c277, c278, c279, c280, c281, c282, c283, c284, c285, c286, c287, c288, c289, c290, c291, c292, c293, c294, c295, c296, c297, c298, c299, c300, c301, c302, c303, c304, c305, c306, c307, c308, c309, c310, c311, c312, c313, c314, c315, c316, c317, c318], []⟩ wr := by
  obtain ⟨qk, hqk, -⟩ := mask_lt (gs.getD i z71).f0 65535 16 (by decide) (by decide)
  obtain ⟨k, hk, hk9⟩ : ∃ k, qk % 9 = k ∧ k < 9 := ⟨_, rfl, Nat.mod_lt _ (by decide)⟩
  rcases (show k = 0 ∨ k = 1 ∨ k = 2 ∨ k = 3 ∨ k = 4 ∨ k = 5 ∨ k = 6 ∨ k = 7 ∨ k = 8 by omega) with rfl | rfl | rfl | rfl | rfl | rfl | rfl | rfl | rfl
  · exact made_case0 gs Ag cg w W4 X base N dN i l A c wr hE hS hlg hlt qk hqk hk Q c1 c2 c20 c21 c22 c23 c24 c25 c26 c27 c28 c29 c30 c31 c32 c33 c266 c267 c268 c269 c270 c271 c272 c273 c274 c275 c276 c277 c278 c279 c280 c281 c282 c283 c284 c285 c286 c287 c288 c289 c290 c291 c292 c293 c294 c295 c296 c297 c298 c299 c300 c301 c302 c303 c304 c305 c306 c307 c308 c309 c310 c311 c312 c313 c314 c315 c316 c317 c318 u5 u6 u7 u8 u9 u10 u11 u12 u13 u14 u15 u16 u17 u18 u19 u34 u35 u36 u37 u38 u39 u40 u41 u42 u43 u44 u45 u46 u47 u48 u49 u50 u51 u52 u53 u54 u55 u56 u57 u58 u59 u60 u61 u62 u63 u64 u65 u66 u67 u68 u69 u70 u71 u72 u73 u74 u75 u76 u77 u78 u79 u80 u81 u82 u83 u84 u85 u86 u87 u88 u89 u90 u91 u92 u93 u94 u95 u96 u97 u98 u99 u100 u101 u102 u103 u104 u105 u106 u107 u108 u109 u110 u111 u112 u113 u114 u115 u116 u117 u118 u119 u120 u121 u122 u123 u124 u125 u126 u127 u128 u129 u130 u131 u132 u133 u134 u135 u136 u137 u138 u139 u140 u141 u142 u143 u144 u145 u146 u147 u148 u149 u150 u151 u152 u153 u154 u155 u156 u157 u158 u159 u160 u161 u162 u163 u164 u165 u166 u167 u168 u169 u170 u171 u172 u173 u174 u175 u176 u177 u178 u179 u180 u181 u182 u183 u184 u185 u186 u187 u188 u189 u190 u191 u192 u193 u194 u195 u196 u197 u198 u199 u200 u201 u202 u203 u204 u205 u206 u207 u208 u209 u210 u211 u212 u213 u214 u215 u216 u217 u218 u219 u220 u221 u222 u223 u224 u225 u226 u227 u228 u229 u230 u231 u232 u233 u234 u235 u236 u237 u238 u239 u240 u241 u242 u243 u244 u245 u246 u247 u248 u249 u250 u251 u252 u253 u254 u255 u256 u257 u258 u259 u260 u261 u262 u263 u264 u265 hrnd
  · exact made_case1 gs Ag cg w W4 X base N dN i l A c wr hE hS hlg hlt qk hqk hk Q c1 c2 c20 c21 c22 c23 c24 c25 c26 c27 c28 c29 c30 c31 c32 c33 c266 c267 c268 c269 c270 c271 c272 c273 c274 c275 c276 c277 c278 c279 c280 c281 c282 c283 c284 c285 c286 c287 c288 c289 c290 c291 c292 c293 c294 c295 c296 c297 c298 c299 c300 c301 c302 c303 c304 c305 c306 c307 c308 c309 c310 c311 c312 c313 c314 c315 c316 c317 c318 u5 u6 u7 u8 u9 u10 u11 u12 u13 u14 u15 u16 u17 u18 u19 u34 u35 u36 u37 u38 u39 u40 u41 u42 u43 u44 u45 u46 u47 u48 u49 u50 u51 u52 u53 u54 u55 u56 u57 u58 u59 u60 u61 u62 u63 u64 u65 u66 u67 u68 u69 u70 u71 u72 u73 u74 u75 u76 u77 u78 u79 u80 u81 u82 u83 u84 u85 u86 u87 u88 u89 u90 u91 u92 u93 u94 u95 u96 u97 u98 u99 u100 u101 u102 u103 u104 u105 u106 u107 u108 u109 u110 u111 u112 u113 u114 u115 u116 u117 u118 u119 u120 u121 u122 u123 u124 u125 u126 u127 u128 u129 u130 u131 u132 u133 u134 u135 u136 u137 u138 u139 u140 u141 u142 u143 u144 u145 u146 u147 u148 u149 u150 u151 u152 u153 u154 u155 u156 u157 u158 u159 u160 u161 u162 u163 u164 u165 u166 u167 u168 u169 u170 u171 u172 u173 u174 u175 u176 u177 u178 u179 u180 u181 u182 u183 u184 u185 u186 u187 u188 u189 u190 u191 u192 u193 u194 u195 u196 u197 u198 u199 u200 u201 u202 u203 u204 u205 u206 u207 u208 u209 u210 u211 u212 u213 u214 u215 u216 u217 u218 u219 u220 u221 u222 u223 u224 u225 u226 u227 u228 u229 u230 u231 u232 u233 u234 u235 u236 u237 u238 u239 u240 u241 u242 u243 u244 u245 u246 u247 u248 u249 u250 u251 u252 u253 u254 u255 u256 u257 u258 u259 u260 u261 u262 u263 u264 u265 hrnd
  · exact made_case2 gs Ag cg w W4 X base N dN i l A c wr hE hS hlg hlt qk hqk hk Q c1 c2 c20 c21 c22 c23 c24 c25 c26 c27 c28 c29 c30 c31 c32 c33 c266 c267 c268 c269 c270 c271 c272 c273 c274 c275 c276 c277 c278 c279 c280 c281 c282 c283 c284 c285 c286 c287 c288 c289 c290 c291 c292 c293 c294 c295 c296 c297 c298 c299 c300 c301 c302 c303 c304 c305 c306 c307 c308 c309 c310 c311 c312 c313 c314 c315 c316 c317 c318 u5 u6 u7 u8 u9 u10 u11 u12 u13 u14 u15 u16 u17 u18 u19 u34 u35 u36 u37 u38 u39 u40 u41 u42 u43 u44 u45 u46 u47 u48 u49 u50 u51 u52 u53 u54 u55 u56 u57 u58 u59 u60 u61 u62 u63 u64 u65 u66 u67 u68 u69 u70 u71 u72 u73 u74 u75 u76 u77 u78 u79 u80 u81 u82 u83 u84 u85 u86 u87 u88 u89 u90 u91 u92 u93 u94 u95 u96 u97 u98 u99 u100 u101 u102 u103 u104 u105 u106 u107 u108 u109 u110 u111 u112 u113 u114 u115 u116 u117 u118 u119 u120 u121 u122 u123 u124 u125 u126 u127 u128 u129 u130 u131 u132 u133 u134 u135 u136 u137 u138 u139 u140 u141 u142 u143 u144 u145 u146 u147 u148 u149 u150 u151 u152 u153 u154 u155 u156 u157 u158 u159 u160 u161 u162 u163 u164 u165 u166 u167 u168 u169 u170 u171 u172 u173 u174 u175 u176 u177 u178 u179 u180 u181 u182 u183 u184 u185 u186 u187 u188 u189 u190 u191 u192 u193 u194 u195 u196 u197 u198 u199 u200 u201 u202 u203 u204 u205 u206 u207 u208 u209 u210 u211 u212 u213 u214 u215 u216 u217 u218 u219 u220 u221 u222 u223 u224 u225 u226 u227 u228 u229 u230 u231 u232 u233 u234 u235 u236 u237 u238 u239 u240 u241 u242 u243 u244 u245 u246 u247 u248 u249 u250 u251 u252 u253 u254 u255 u256 u257 u258 u259 u260 u261 u262 u263 u264 u265 hrnd
  · exact made_case3 gs Ag cg w W4 X base N dN i l A c wr hE hS hlg hlt qk hqk hk Q c1 c2 c20 c21 c22 c23 c24 c25 c26 c27 c28 c29 c30 c31 c32 c33 c266 c267 c268 c269 c270 c271 c272 c273 c274 c275 c276 c277 c278 c279 c280 c281 c282 c283 c284 c285 c286 c287 c288 c289 c290 c291 c292 c293 c294 c295 c296 c297 c298 c299 c300 c301 c302 c303 c304 c305 c306 c307 c308 c309 c310 c311 c312 c313 c314 c315 c316 c317 c318 u5 u6 u7 u8 u9 u10 u11 u12 u13 u14 u15 u16 u17 u18 u19 u34 u35 u36 u37 u38 u39 u40 u41 u42 u43 u44 u45 u46 u47 u48 u49 u50 u51 u52 u53 u54 u55 u56 u57 u58 u59 u60 u61 u62 u63 u64 u65 u66 u67 u68 u69 u70 u71 u72 u73 u74 u75 u76 u77 u78 u79 u80 u81 u82 u83 u84 u85 u86 u87 u88 u89 u90 u91 u92 u93 u94 u95 u96 u97 u98 u99 u100 u101 u102 u103 u104 u105 u106 u107 u108 u109 u110 u111 u112 u113 u114 u115 u116 u117 u118 u119 u120 u121 u122 u123 u124 u125 u126 u127 u128 u129 u130 u131 u132 u133 u134 u135 u136 u137 u138 u139 u140 u141 u142 u143 u144 u145 u146 u147 u148 u149 u150 u151 u152 u153 u154 u155 u156 u157 u158 u159 u160 u161 u162 u163 u164 u165 u166 u167 u168 u169 u170 u171 u172 u173 u174 u175 u176 u177 u178 u179 u180 u181 u182 u183 u184 u185 u186 u187 u188 u189 u190 u191 u192 u193 u194 u195 u196 u197 u198 u199 u200 u201 u202 u203 u204 u205 u206 u207 u208 u209 u210 u211 u212 u213 u214 u215 u216 u217 u218 u219 u220 u221 u222 u223 u224 u225 u226 u227 u228 u229 u230 u231 u232 u233 u234 u235 u236 u237 u238 u239 u240 u241 u242 u243 u244 u245 u246 u247 u248 u249 u250 u251 u252 u253 u254 u255 u256 u257 u258 u259 u260 u261 u262 u263 u264 u265 hrnd
  · exact made_case4 gs Ag cg w W4 X base N dN i l A c wr hE hS hlg hlt qk hqk hk Q c1 c2 c20 c21 c22 c23 c24 c25 c26 c27 c28 c29 c30 c31 c32 c33 c266 c267 c268 c269 c270 c271 c272 c273 c274 c275 c276 c277 c278 c279 c280 c281 c282 c283 c284 c285 c286 c287 c288 c289 c290 c291 c292 c293 c294 c295 c296 c297 c298 c299 c300 c301 c302 c303 c304 c305 c306 c307 c308 c309 c310 c311 c312 c313 c314 c315 c316 c317 c318 u5 u6 u7 u8 u9 u10 u11 u12 u13 u14 u15 u16 u17 u18 u19 u34 u35 u36 u37 u38 u39 u40 u41 u42 u43 u44 u45 u46 u47 u48 u49 u50 u51 u52 u53 u54 u55 u56 u57 u58 u59 u60 u61 u62 u63 u64 u65 u66 u67 u68 u69 u70 u71 u72 u73 u74 u75 u76 u77 u78 u79 u80 u81 u82 u83 u84 u85 u86 u87 u88 u89 u90 u91 u92 u93 u94 u95 u96 u97 u98 u99 u100 u101 u102 u103 u104 u105 u106 u107 u108 u109 u110 u111 u112 u113 u114 u115 u116 u117 u118 u119 u120 u121 u122 u123 u124 u125 u126 u127 u128 u129 u130 u131 u132 u133 u134 u135 u136 u137 u138 u139 u140 u141 u142 u143 u144 u145 u146 u147 u148 u149 u150 u151 u152 u153 u154 u155 u156 u157 u158 u159 u160 u161 u162 u163 u164 u165 u166 u167 u168 u169 u170 u171 u172 u173 u174 u175 u176 u177 u178 u179 u180 u181 u182 u183 u184 u185 u186 u187 u188 u189 u190 u191 u192 u193 u194 u195 u196 u197 u198 u199 u200 u201 u202 u203 u204 u205 u206 u207 u208 u209 u210 u211 u212 u213 u214 u215 u216 u217 u218 u219 u220 u221 u222 u223 u224 u225 u226 u227 u228 u229 u230 u231 u232 u233 u234 u235 u236 u237 u238 u239 u240 u241 u242 u243 u244 u245 u246 u247 u248 u249 u250 u251 u252 u253 u254 u255 u256 u257 u258 u259 u260 u261 u262 u263 u264 u265 hrnd
  · exact made_case5 gs Ag cg w W4 X base N dN i l A c wr hE hS hlg hlt qk hqk hk Q c1 c2 c20 c21 c22 c23 c24 c25 c26 c27 c28 c29 c30 c31 c32 c33 c266 c267 c268 c269 c270 c271 c272 c273 c274 c275 c276 c277 c278 c279 c280 c281 c282 c283 c284 c285 c286 c287 c288 c289 c290 c291 c292 c293 c294 c295 c296 c297 c298 c299 c300 c301 c302 c303 c304 c305 c306 c307 c308 c309 c310 c311 c312 c313 c314 c315 c316 c317 c318 u5 u6 u7 u8 u9 u10 u11 u12 u13 u14 u15 u16 u17 u18 u19 u34 u35 u36 u37 u38 u39 u40 u41 u42 u43 u44 u45 u46 u47 u48 u49 u50 u51 u52 u53 u54 u55 u56 u57 u58 u59 u60 u61 u62 u63 u64 u65 u66 u67 u68 u69 u70 u71 u72 u73 u74 u75 u76 u77 u78 u79 u80 u81 u82 u83 u84 u85 u86 u87 u88 u89 u90 u91 u92 u93 u94 u95 u96 u97 u98 u99 u100 u101 u102 u103 u104 u105 u106 u107 u108 u109 u110 u111 u112 u113 u114 u115 u116 u117 u118 u119 u120 u121 u122 u123 u124 u125 u126 u127 u128 u129 u130 u131 u132 u133 u134 u135 u136 u137 u138 u139 u140 u141 u142 u143 u144 u145 u146 u147 u148 u149 u150 u151 u152 u153 u154 u155 u156 u157 u158 u159 u160 u161 u162 u163 u164 u165 u166 u167 u168 u169 u170 u171 u172 u173 u174 u175 u176 u177 u178 u179 u180 u181 u182 u183 u184 u185 u186 u187 u188 u189 u190 u191 u192 u193 u194 u195 u196 u197 u198 u199 u200 u201 u202 u203 u204 u205 u206 u207 u208 u209 u210 u211 u212 u213 u214 u215 u216 u217 u218 u219 u220 u221 u222 u223 u224 u225 u226 u227 u228 u229 u230 u231 u232 u233 u234 u235 u236 u237 u238 u239 u240 u241 u242 u243 u244 u245 u246 u247 u248 u249 u250 u251 u252 u253 u254 u255 u256 u257 u258 u259 u260 u261 u262 u263 u264 u265 hrnd
  · exact made_case6 gs Ag cg w W4 X base N dN i l A c wr hE hS hlg hlt qk hqk hk Q c1 c2 c20 c21 c22 c23 c24 c25 c26 c27 c28 c29 c30 c31 c32 c33 c266 c267 c268 c269 c270 c271 c272 c273 c274 c275 c276 c277 c278 c279 c280 c281 c282 c283 c284 c285 c286 c287 c288 c289 c290 c291 c292 c293 c294 c295 c296 c297 c298 c299 c300 c301 c302 c303 c304 c305 c306 c307 c308 c309 c310 c311 c312 c313 c314 c315 c316 c317 c318 u5 u6 u7 u8 u9 u10 u11 u12 u13 u14 u15 u16 u17 u18 u19 u34 u35 u36 u37 u38 u39 u40 u41 u42 u43 u44 u45 u46 u47 u48 u49 u50 u51 u52 u53 u54 u55 u56 u57 u58 u59 u60 u61 u62 u63 u64 u65 u66 u67 u68 u69 u70 u71 u72 u73 u74 u75 u76 u77 u78 u79 u80 u81 u82 u83 u84 u85 u86 u87 u88 u89 u90 u91 u92 u93 u94 u95 u96 u97 u98 u99 u100 u101 u102 u103 u104 u105 u106 u107 u108 u109 u110 u111 u112 u113 u114 u115 u116 u117 u118 u119 u120 u121 u122 u123 u124 u125 u126 u127 u128 u129 u130 u131 u132 u133 u134 u135 u136 u137 u138 u139 u140 u141 u142 u143 u144 u145 u146 u147 u148 u149 u150 u151 u152 u153 u154 u155 u156 u157 u158 u159 u160 u161 u162 u163 u164 u165 u166 u167 u168 u169 u170 u171 u172 u173 u174 u175 u176 u177 u178 u179 u180 u181 u182 u183 u184 u185 u186 u187 u188 u189 u190 u191 u192 u193 u194 u195 u196 u197 u198 u199 u200 u201 u202 u203 u204 u205 u206 u207 u208 u209 u210 u211 u212 u213 u214 u215 u216 u217 u218 u219 u220 u221 u222 u223 u224 u225 u226 u227 u228 u229 u230 u231 u232 u233 u234 u235 u236 u237 u238 u239 u240 u241 u242 u243 u244 u245 u246 u247 u248 u249 u250 u251 u252 u253 u254 u255 u256 u257 u258 u259 u260 u261 u262 u263 u264 u265 hrnd
  · exact made_case7 gs Ag cg w W4 X base N dN i l A c wr hE hS hlg hlt qk hqk hk Q c1 c2 c20 c21 c22 c23 c24 c25 c26 c27 c28 c29 c30 c31 c32 c33 c266 c267 c268 c269 c270 c271 c272 c273 c274 c275 c276 c277 c278 c279 c280 c281 c282 c283 c284 c285 c286 c287 c288 c289 c290 c291 c292 c293 c294 c295 c296 c297 c298 c299 c300 c301 c302 c303 c304 c305 c306 c307 c308 c309 c310 c311 c312 c313 c314 c315 c316 c317 c318 u5 u6 u7 u8 u9 u10 u11 u12 u13 u14 u15 u16 u17 u18 u19 u34 u35 u36 u37 u38 u39 u40 u41 u42 u43 u44 u45 u46 u47 u48 u49 u50 u51 u52 u53 u54 u55 u56 u57 u58 u59 u60 u61 u62 u63 u64 u65 u66 u67 u68 u69 u70 u71 u72 u73 u74 u75 u76 u77 u78 u79 u80 u81 u82 u83 u84 u85 u86 u87 u88 u89 u90 u91 u92 u93 u94 u95 u96 u97 u98 u99 u100 u101 u102 u103 u104 u105 u106 u107 u108 u109 u110 u111 u112 u113 u114 u115 u116 u117 u118 u119 u120 u121 u122 u123 u124 u125 u126 u127 u128 u129 u130 u131 u132 u133 u134 u135 u136 u137 u138 u139 u140 u141 u142 u143 u144 u145 u146 u147 u148 u149 u150 u151 u152 u153 u154 u155 u156 u157 u158 u159 u160 u161 u162 u163 u164 u165 u166 u167 u168 u169 u170 u171 u172 u173 u174 u175 u176 u177 u178 u179 u180 u181 u182 u183 u184 u185 u186 u187 u188 u189 u190 u191 u192 u193 u194 u195 u196 u197 u198 u199 u200 u201 u202 u203 u204 u205 u206 u207 u208 u209 u210 u211 u212 u213 u214 u215 u216 u217 u218 u219 u220 u221 u222 u223 u224 u225 u226 u227 u228 u229 u230 u231 u232 u233 u234 u235 u236 u237 u238 u239 u240 u241 u242 u243 u244 u245 u246 u247 u248 u249 u250 u251 u252 u253 u254 u255 u256 u257 u258 u259 u260 u261 u262 u263 u264 u265 hrnd
  · exact made_case8 gs Ag cg w W4 X base N dN i l A c wr hE hS hlg hlt qk hqk hk Q c1 c2 c20 c21 c22 c23 c24 c25 c26 c27 c28 c29 c30 c31 c32 c33 c266 c267 c268 c269 c270 c271 c272 c273 c274 c275 c276 c277 c278 c279 c280 c281 c282 c283 c284 c285 c286 c287 c288 c289 c290 c291 c292 c293 c294 c295 c296 c297 c298 c299 c300 c301 c302 c303 c304 c305 c306 c307 c308 c309 c310 c311 c312 c313 c314 c315 c316 c317 c318 u5 u6 u7 u8 u9 u10 u11 u12 u13 u14 u15 u16 u17 u18 u19 u34 u35 u36 u37 u38 u39 u40 u41 u42 u43 u44 u45 u46 u47 u48 u49 u50 u51 u52 u53 u54 u55 u56 u57 u58 u59 u60 u61 u62 u63 u64 u65 u66 u67 u68 u69 u70 u71 u72 u73 u74 u75 u76 u77 u78 u79 u80 u81 u82 u83 u84 u85 u86 u87 u88 u89 u90 u91 u92 u93 u94 u95 u96 u97 u98 u99 u100 u101 u102 u103 u104 u105 u106 u107 u108 u109 u110 u111 u112 u113 u114 u115 u116 u117 u118 u119 u120 u121 u122 u123 u124 u125 u126 u127 u128 u129 u130 u131 u132 u133 u134 u135 u136 u137 u138 u139 u140 u141 u142 u143 u144 u145 u146 u147 u148 u149 u150 u151 u152 u153 u154 u155 u156 u157 u158 u159 u160 u161 u162 u163 u164 u165 u166 u167 u168 u169 u170 u171 u172 u173 u174 u175 u176 u177 u178 u179 u180 u181 u182 u183 u184 u185 u186 u187 u188 u189 u190 u191 u192 u193 u194 u195 u196 u197 u198 u199 u200 u201 u202 u203 u204 u205 u206 u207 u208 u209 u210 u211 u212 u213 u214 u215 u216 u217 u218 u219 u220 u221 u222 u223 u224 u225 u226 u227 u228 u229 u230 u231 u232 u233 u234 u235 u236 u237 u238 u239 u240 u241 u242 u243 u244 u245 u246 u247 u248 u249 u250 u251 u252 u253 u254 u255 u256 u257 u258 u259 u260 u261 u262 u263 u264 u265 hrnd
end Go.Proofs.YtonnmkhmhndalaaDoor
end
section
namespace Go.Proofs.YtonnmkhmhndalaaDoor
set_option linter.unusedVariables false
set_option linter.unusedSimpArgs false
open Go.RowKit Go.Proofs.YtonnmkhmhndalaaDoorW.PrintWords Go.Proofs.YtonnmkhmhndalaaDoorW.PrintLast Go.Proofs.YtonnmkhmhndalaaDoorW.PrintMore
def afterLoop : Code → Option Code
  | .seq a b => match firstLoop a with
    | some _ => some b
    | none => afterLoop b
  | .block _ c => afterLoop c
  | .scope c => afterLoop c
  | _ => none
noncomputable def tail18 : Code := (Tryd.f18.body.bind afterLoop).getD .skip
structure TEnv (w W4 : World) (X base N dN : Nat) (gs : List S71) (Ag : Option Addr) (cg : Nat) : Prop where
  e : REnv w W4 X base N dN gs Ag cg
  hb : w.heap.size = base
  nb : N ≠ base
  rb : RBx W4 base
  hF : ∀ b, W4.heap.size ≤ b → b ≠ base ∧ b ≠ N
set_option maxRecDepth 1000000 in
set_option maxHeartbeats 8000000 in
theorem made_tail (gs : List S71) (Ag : Option Addr) (cg : Nat) (w W4 : World) (X base N dN i : Nat) (l : List S39) (A : Option Addr) (c : Nat) (wr : World) (hE : TEnv w W4 X base N dN gs Ag cg) (hS : RSt w W4 wr X base N dN i l A c) (hi : i ≤ 40)
    (c1 c4 c5 c6 c7 c8 c9 c10 c11 c12 c13 c14 c15 c16 c17 c18 c19 c20 c21 c22 c23 c24 c25 c26 c27 c28 c29 c30 c31 c32 c33 c34 c35 c36 c37 c38 c39 c40 c41 c42 c43 c44 c45 c46 c47 c48 c49 c50 c51 c52 c53 c54 c55 c56 c57 c58 c59 c60 c61 c62 c63 c64 c65 c66 c67 c68 c69 c70 c71 c72 c73 c74 c75 c76 c77 c78 c79 c80 c81 c82 c83 c84 c85 c86 c87 c88 c89 c90 c91 c92 c93 c94 c95 c96 c97 c98 c99 c100 c101 c102 c103 c104 c105 c106 c107 c108 c109 c110 c111 c112 c113 c114 c115 c116 c117 c118 c119 c120 c121 c122 c123 c124 c125 c126 c127 c128 c129 c130 c131 c132 c133 c134 c135 c136 c137 c138 c139 c140 c141 c142 c143 c144 c145 c146 c147 c148 c149 c150 c151 c152 c153 c154 c155 c156 c157 c158 c159 c160 c161 c162 c163 c164 c165 c166 c167 c168 c169 c170 c171 c172 c173 c174 c175 c176 c177 c178 c179 c180 c181 c182 c183 c184 c185 c186 c187 c188 c189 c190 c191 c192 c193 c194 c195 c196 c197 c198 c199 c200 c201 c202 c203 c204 c205 c206 c207 c208 c209 c210 c211 c212 c213 c214 c215 c216 c217 c218 c219 c220 c221 c222 c223 c224 c225 c226 c227 c228 c229 c230 c231 c232 c233 c234 c235 c236 c237 c238 c239 c240 c241 c242 c243 c244 c245 c246 c247 c248 c249 c250 c251 c252 c253 c254 c255 c256 c257 c258 c259 c260 c261 c262 c263 c264 c265 c266 c267 c268 c269 c270 c271 c272 c273 c274 c275 c276 c277 c278 c279 c280 c281 c282 c283 c284 c285 c286 c287 c288 c289 c290 c291 c292 c293 c294 c295 c296 c297 c298 c299 c300 c301 c302 c303 c304 c305 c306 c307 c308 c309 c310 c311 c312 c313 c314 c315 c316 c317 c318 : Value) :
    Code.wp Tryd.prog tail18 (bodyPost Tryd.prog Tryd.f18 fun e w' => ∃ (x : NL) (A : Option Addr) (c : Nat) (B : Option Addr) (d : Nat), e = .returned (nlV x A c B d) ∧ NIn w' x A c B d ∧ GL x.nd ∧ mayL x = true ∧ x.nd.length ≤ 130 ∧ Below w.heap.size w w') ⟨#[.slice Ag gs.length cg, c1, .pointer (some ⟨base, 0, none⟩), .pointer (some ⟨X, 0, none⟩), c4, c5, c6, c7, c8, c9, c10, c11, c12, c13, c14, c15, c16, c17, c18, c19, c20, c21, c22, c23, c24, c25, c26, c27, c28, c29, c30, c31, c32, c33, c34, c35, c36, c37, c38, c39, c40, c41, c42, c43, c44, c45, c46, c47, c48, c49, c50, c51, c52, c53, c54, c55, c56, c57, c58, c59, c60, c61, c62, c63, c64, c65, c66, c67, c68, c69, c70, c71, c72, c73, c74, c75, c76, c77, c78, c79, c80, c81, c82, c83, c84, c85, c86, c87, c88, c89, c90, c91, c92, c93, c94, c95, c96, c97, c98, c99, c100, c101, c102, c103, c104, c105, c106, c107, c108, c109, c110, c111, c112, c113, c114, c115, c116, c117, c118, c119, c120, c121, c122, c123, c124, c125, c126, c127, c128, c129, c130, c131, c132, c133, c134, c135, c136, c137, c138, c139, c140, c141, c142, c143, c144, c145, c146, c147, c148, c149, c150, c151, c152, c153, c154, c155, c156, c157, c158, c159, c160, c161, c162, c163, c164, c165, c166, c167, c168, c169, c170, c171, c172, c173, c174, c175, c176, c177, c178, c179, c180, c181, c182, c183, c184, c185, c186, c187, c188, c189, c190, c191, c192, c193, c194, c195, c196, c197, c198, c199, c200, c201, c202, c203, c204, c205, c206, c207, c208, c209, c210, c211, c212, c213, c214, c215, c216, c217, c218, c219, c220, c221, c222, c223, c224, c225, c226, c227, c228, c229, c230, c231, c232, c233, c234, c235, c236, c237, c238, c239, c240, c241, c242, c243, c244, c245, c246, c247, c248, c249, c250, c251, c252, c253, c254, c255, c256, c257, c258, c259, c260, c261, c262, c263, c264, c265, c266, c267, c268, c269, c270, c271, c272, c273, c274, c275, c276, c277, c278, c279, c280, c281, c282, c283, c284, c285, c286, c287, c288, c289, c290, c291, c292, c293, c294, c295, c296, c297, c298, c299, c300, c301, c302, c303, c304, c305, c306, c307, c308, c309, c310, c311, c312, c313, c314, c315, c316, c317, c318], []⟩ wr := by
  have HCg := Lib.hid hE.e.gl
  have HGs := Lib.hid hE.e.gc
  have HX := Lib.hid hE.e.x
  have HN2 := Lib.hid hE.e.n
  have HNX := Lib.hid hE.e.nx
  have HNt := Lib.hid hE.e.nt
  have HBa := Lib.hid hE.hb
  have HNB := Lib.hid hE.nb
  have HR4 := Lib.hid hE.rb
  have HF := Lib.hid hE.hF
  have HSx := Lib.hid hS.s
  have HGx := Lib.hid hS.g
  have HLx := Lib.hid hS.len
  have HKx := Lib.hid hS.k
  have HBx := Lib.hid hS.b
  clear hE hS
  conv => arg 2; whnf
  obtain ⟨s0, hs0⟩ : ∃ s, wr.heap.size = s := ⟨_, rfl⟩
  have hk4 := HKx.out.1
  have hLl : l.length ≤ 1000 := by have := HLx.out; omega
  have hgw : ∀ W, Below base wr W → Kd.C k71 W Ag gs.length gs := fun W hW => HGs.out W (HBx.out.trans hW)
  have hfw : ∀ b, wr.heap.size ≤ b → (fun b => b ≠ base ∧ b ≠ N) b := fun b hb => HF.out b (Nat.le_trans hk4 hb)
  have hbk := fun W (hW : wr = W) => back_any X base (fun b => b ≠ base ∧ b ≠ N) l A c (some ⟨N, 0, none⟩) 2 dN 0 gs Ag cg W (by rw [← hW]; exact HSx.out) HGx.out (by rw [← hW]; exact hgw) HCg.out (by rw [← hW]; exact hfw) hLl
  have HBk := Lib.hid hbk
  clear hk4 hLl hgw hfw hbk
  go_upto_region 45 with (first
    | fail
    | (go_at_call 35; refine (HBk.out _ rfl).mono ?_; rintro e w5 ⟨l5, rfl, hs5, hg5, hn5, hk5, hb5⟩; have HS5 := Lib.hid hs5; have HG5 := Lib.hid hg5; have HN5 := Lib.hid hn5; have HK5 := Lib.hid hk5; have HB5 := Lib.hid hb5; clear hs5 hg5 hn5 hk5 hb5))
  obtain ⟨S0, hS0⟩ : ∃ s, w5.heap.size = s := ⟨_, rfl⟩
  have hst6 := HS5.out.mono (G := fun b => (b ≠ base ∧ b ≠ N) ∧ b < S0) (fun b h1 h2 => ⟨h1, by omega⟩)
  have hW45 : Kept W4 w5 (fun b => b = X ∨ b ≠ base ∧ b ≠ N) := HKx.out.then_ HK5.out (fun k hk => Or.inl hk)
  have hnt6 : Kd.R (Kd.int .i64) 3 w5 base (fun b => b = N ∨ S0 ≤ b) (.slice (some ⟨N, 0, none⟩) 2 dN) [0, 1] :=
    Kd.R_mono (Kd.R_kept HNt.out hW45 (fun k hk h => by have h1 := HNX.out; have hk' : k = N := hk; subst hk'; rcases h with h | h; exact h1 h; exact h.2 rfl)) (fun b hb => Or.inl hb)
  have hrb6 : RBx w5 base := HR4.out.kept hW45 (fun h => by have h1 := HX.out; rcases h with h | h; omega; exact h.1 rfl)
  have hb6 : Below base w w5 := HBx.out.trans HB5.out
  have HS6 := Lib.hid hst6
  have HT6 := Lib.hid hnt6
  have HR6 := Lib.hid hrb6
  have HB6 := Lib.hid hb6
  have HXS := Lib.hid (show X < S0 by rw [← hS0]; exact HS5.out.x)
  have HSZ := Lib.hid (Nat.le_of_eq hS0.symm)
  obtain ⟨m1, hm1⟩ : ∃ m, l5.length = m + 1 := ⟨l5.length - 1, by have := HG5.out.two; omega⟩
  have HM1 := Lib.hid hm1
  have HM2 := Lib.hid (show m1 ≤ 121 by have := HN5.out; have := HLx.out; omega)
  clear hst6 hW45 hnt6 hrb6 hb6 hS0 HS5 HK5 HB5 HKx HBx HSx HBk hs0 hm1 HGx
  go_wp2_with fail
  go_loopw [20] (fun v20 wx => ∃ (j : Nat) (ns : List Int) (B : Option Addr) (dB : Nat), v20 = .int .i64 j ∧ j ≤ 4 ∧ Hid (LState wx X base (fun b => (b ≠ base ∧ b ≠ N) ∧ b < S0) l5 A c B ns.length dB 0) ∧ Hid (Kd.R (Kd.int .i64) 3 wx base (fun b => b = N ∨ S0 ≤ b) (.slice B ns.length dB) ns) ∧ Hid (∃ tl, ns = [0, 1] ++ tl ∧ tl.length = j ∧ ∀ v : Int, v ∈ tl → 1 < v ∧ v < (l5.length : Int)) ∧ Hid (RBx wx base) ∧ Hid (Below base w wx) ∧ Hid (S0 ≤ wx.heap.size)) (fun v20 _ => 4 - (intOf v20).toNat)
  case atStart => exact ⟨0, [0, 1], some ⟨N, 0, none⟩, dN, rfl, Nat.zero_le _, HS6, HT6, Lib.hid ⟨[], rfl, rfl, fun v hv => by cases hv⟩, HR6, HB6, HSZ⟩
  case round =>
    obtain ⟨j, ns, B, dB, rfl, hj, HSy, HTy, HTl, HRy, HBy, HZy⟩ := hrel
    obtain ⟨q, hq⟩ : ∃ q, ns.length = q := ⟨_, rfl⟩
    have q0 := HSy.out.k0
    rw [HM1.out] at q0
    have q1 := HSy.out.k1
    rw [hq] at q1
    obtain ⟨dv, hdv⟩ : ∃ v : Int, (m1 : Int) - (j : Int) = v := ⟨_, rfl⟩
    have HDv := Lib.hid hdv
    have HQ := Lib.hid hq
    have HJ := Lib.hid hj
    have hdw : wrap64 dv = dv := w64 (by have := HM2.out; omega) (by have := HM2.out; omega)
    have hmw : wrap64 (m1 : Int) = (m1 : Int) := w64 (by have := HM2.out; omega) (by have := HM2.out; omega)
    clear hq
    by_cases hlt : j < 4
    · have e4 : decide ((j : Int) < 4) = true := decide_eq_true (by omega)
      by_cases hgt : 1 < dv
      · have e1 : decide (1 < dv) = true := decide_eq_true hgt
        have hX1 := HSy.out.x
        have nx0 : (wr.alloc (Obj.cells #[.int .i64 dv] 3)).cell? ⟨X, 0, none⟩ = some (.slice A (m1 + 1) c) := (World.cell?_alloc_lt wr _ ⟨X, 0, none⟩ hX1).trans q0
        have nx1 : (wr.alloc (Obj.cells #[.int .i64 dv] 3)).cell? ⟨X, 1, none⟩ = some (.slice B q dB) := (World.cell?_alloc_lt wr _ ⟨X, 1, none⟩ hX1).trans q1
        obtain ⟨-, -, q2, r0, r1, r2, -, -⟩ := HSy.out
        have HX1 := Lib.hid hX1
        have HNo := Lib.hid (show some X ≠ (Value.slice B q dB).ownBlock from fun e => by
          rw [← HQ.out] at e
          have h1 := HTy.out.1 X e.symm
          have h2 := HXS.out
          have h3 := HNX.out
          rcases h1 with h | h
          · exact h3 h.symm
          · omega)
        have HGt := Lib.hid hgt
        clear hX1 hgt
        have hT' := HTy.out
        rw [HQ.out] at hT'
        have HT' := Lib.hid hT'
        clear hT'
        go_upto_region 48 with fail
        have iw1 : IntKind.i64.wrap (m1 : Int) = (m1 : Int) := IntWalk.i64_in _ ⟨by have := HM2.out; omega, by have := HM2.out; omega⟩
        have iw2 : IntKind.i64.wrap dv = dv := IntWalk.i64_in _ ⟨by have := HM2.out; omega, by have := HM2.out; omega⟩
        go_region_law (refine Kd.R_append_step (Kd.int .i64) (w0 := wr) (W := wr.drew) base rfl (.tmp 290) (.tmp 300) 23 3 (.int .i64 0) 8 rfl Tryd.underlying23 info3' rfl (by decide) (by decide) (.slice B q dB) ns dv [.int .i64 dv] (fun b => b = N ∨ S0 ≤ b) (fun _ => False) rfl rfl rfl (fun _ h => h.elim) (fun b hb => Or.inr (Nat.le_trans HZy.out hb)) (Kd.R_drew HT'.out) (Below.refl _ _).drew (Nat.le_trans HSy.out.hb (Nat.le_of_lt HX1.out)) (by have := HQ.out; have := HJ.out; have h := HTl.out; obtain ⟨tl, h1, h2, -⟩ := h; subst h1; simp; omega) ?_; intro v1 w9 ho hb hg hat; obtain ⟨B1, d1, hv1⟩ := Kd.R_slice ho; subst hv1; rw [show (ns ++ [dv]).length = q + 1 from (by rw [List.length_append, HQ.out]; rfl)] at ho; rw [show (ns ++ [dv]).length = q + 1 from (by rw [List.length_append, HQ.out]; rfl)]; have y0 := (hg.cell_far ⟨X, 0, none⟩ HX1.out HNo.out).trans q0; have y1 := (hg.cell_far ⟨X, 1, none⟩ HX1.out HNo.out).trans q1; have y2 := (hg.cell_far ⟨X, 2, none⟩ HX1.out HNo.out).trans q2; have z0 := (hg.frozen_far ⟨X, 0, none⟩ HX1.out HNo.out).trans r0; have z1 := (hg.frozen_far ⟨X, 1, none⟩ HX1.out HNo.out).trans r1; have z2 := (hg.frozen_far ⟨X, 2, none⟩ HX1.out HNo.out).trans r2; have HO := Lib.hid ho; have HBo := Lib.hid hb; have HGo := Lib.hid hg; clear ho hb hg hat)
        all_goals
          have hk9 : Kept wr w9 (fun b => b = N ∨ S0 ≤ b) := Kept.of_grown HGo.out ((Kept.refl _ _).drew) (fun k hk => Or.inl (HT'.out.1 k hk))
          have hS9 := (HSy.out.kept hk9 (fun h => by have h1 := HNX.out; have h2 := HXS.out; rcases h with h | h; exact h1 h.symm; omega) (fun b _ hF h => by rcases h with h | h; exact hF.1.2 h; have := hF.2; omega)).putB B1 (q + 1) d1
          have hnx : ∀ k, (k = N ∨ S0 ≤ k) → k ≠ X := fun k hk e => by
            have h1 := HNX.out
            have h2 := HXS.out
            rcases hk with h | h
            · exact h1 (h.symm.trans e)
            · omega
          have hT9 := Kd.R_far (p := ⟨X, 1, none⟩) HO.out hnx (.slice B1 (q + 1) d1)
          have hR9 := (HRy.out.kept hk9 (fun h => by have h1 := HNB.out; have h2 := HXS.out; have h3 := HX.out; rcases h with h | h; exact h1 h.symm; omega)).far (p := ⟨X, 1, none⟩) (by have := HX.out; show X ≠ base; omega) (.slice B1 (q + 1) d1)
          have hB9 := (HBy.out.trans HBo.out).setCell (p := ⟨X, 1, none⟩) HSy.out.hb (.slice B1 (q + 1) d1)
          have hZ9 : S0 ≤ (w9.setCell ⟨X, 1, none⟩ (.slice B1 (q + 1) d1)).heap.size := by
            have h1 := HZy.out
            have h2 := hk9.1
            have h3 : (w9.setCell ⟨X, 1, none⟩ (.slice B1 (q + 1) d1)).heap.size = w9.heap.size := by simp [World.setCell]
            omega
          generalize w9.setCell ⟨X, 1, none⟩ (.slice B1 (q + 1) d1) = W9 at *
          have hlen : (ns ++ [dv]).length = q + 1 := by rw [List.length_append, HQ.out]; rfl
          rw [← hlen] at hS9 hT9
          have HS9 := Lib.hid hS9
          have HT9 := Lib.hid hT9
          have HR9 := Lib.hid hR9
          have HB9 := Lib.hid hB9
          have HZ9 := Lib.hid hZ9
          have hn9 : ∃ tl : List Int, ns ++ [dv] = [0, 1] ++ tl ∧ tl.length = j + 1 ∧ ∀ v : Int, v ∈ tl → 1 < v ∧ v < (l5.length : Int) := by
            obtain ⟨tl, h1, h2, h3⟩ := HTl.out
            refine ⟨tl ++ [dv], by rw [h1, List.append_assoc], by rw [List.length_append, h2]; rfl, fun v hv => ?_⟩
            rcases List.mem_append.1 hv with h | h
            · exact h3 v h
            · rw [List.mem_singleton.1 h]
              have h4 := HGt.out
              have h5 := HDv.out
              have h6 := HM1.out
              omega
          have HN9 := Lib.hid hn9
          clear hS9 hT9 hR9 hB9 hZ9 hn9 hnx hk9 q0 q1 q2 nx0 nx1 r0 r1 r2 y0 y1 y2 z0 z1 z2 iw1 iw2 hlen
          go_wp2_with fail
          refine ⟨⟨j + 1, ns ++ [dv], B1, d1, by simp, by have := HJ.out; omega, HS9, HT9, HN9, HR9, HB9, HZ9⟩, by simp [intOf]; omega⟩
      · have e1 : decide (1 < dv) = false := decide_eq_false hgt
        as_aux_lemma =>
          obtain ⟨-, -, q2, r0, r1, r2, -, -⟩ := HSy.out
          go_upto_region 50 with fail
          obtain ⟨W9, hW9⟩ : ∃ W, wr.setCell ⟨X, 2, none⟩ (.int .i64 q) = W := ⟨_, rfl⟩
          rw [hW9]
          have hS9 := HSy.out.putP (q : Int)
          have hT9 := Kd.R_far (p := ⟨X, 2, none⟩) HTy.out (fun k hk e => by have h1 := HNX.out; have h2 := HXS.out; have hk' : k = X := e; rcases hk with h | h; exact h1 (h.symm.trans hk'); omega) (.int .i64 q)
          have hR9 := HRy.out.far (p := ⟨X, 2, none⟩) (by have := HX.out; show X ≠ base; omega) (.int .i64 q)
          have hB9 := HBy.out.setCell (p := ⟨X, 2, none⟩) HSy.out.hb (.int .i64 q)
          rw [hW9] at hS9 hT9 hR9 hB9
          have q0 := hS9.k0
          have q1 := hS9.k1
          have q2 := hS9.k2
          rw [HQ.out] at q1
          have b0 := blk_cell hR9.blk 0
          have b1 := blk_cell hR9.blk 1
          have b2 := blk_cell hR9.blk 2
          have g0 := blk_frozen hR9.blk 0
          have g1 := blk_frozen hR9.blk 1
          have g2 := blk_frozen hR9.blk 2
          have HS9 := Lib.hid hS9
          have HT9 := Lib.hid hT9
          have HR9 := Lib.hid hR9
          have HB9 := Lib.hid hB9
          clear hS9 hT9 hR9 hB9 hW9
          go_wp2_with fail
          refine bodyPost_ret (results_cell_row rfl _ _ base 25 #[.slice A l5.length c, .slice B ns.length dB, .int .i64 ns.length] (0, 0) _ rfl ?_ Tryd.underlying25 rfl (by kernel_rfl)) rfl ?_
          · rw [HQ.out]
            refine blk_put (cs := #[.slice A l5.length c, .slice B q dB, .int .i64 0]) ?_ 2 _ rfl
            refine blk_put (cs := #[.slice A l5.length c, .slice none 0 0, .int .i64 0]) ?_ 1 _ rfl
            refine blk_put (cs := #[.slice none 0 0, .slice none 0 0, .int .i64 0]) ?_ 0 _ (by rw [HM1.out]; rfl)
            exact HR9.out.blk
          · refine made_fin (F := fun b => b ≠ X ∧ (b ≠ base ∧ b ≠ N) ∧ b < S0) (P := fun b => b = N ∨ S0 ≤ b) (base := base) (p := 0) (X := X) ?_ ?_ HG5.out (by have := HM1.out; have := HM2.out; omega) (by have h := HTl.out; obtain ⟨tl, h1, h2, h3⟩ := h; exact ⟨tl, h1, by have := HJ.out; omega, h3⟩) ?_ HBa.out
            · refine Kd.R_far (Kd.R_far (Kd.R_far HS9.out.r (fun k hk => hk.2.1.1) _) (fun k hk => hk.2.1.1) _) (fun k hk => hk.2.1.1) _
            · have hnb : ∀ k, (k = N ∨ S0 ≤ k) → k ≠ base := fun k hk e => by
                have h1 := HNB.out
                have h2 := HXS.out
                have h3 := HX.out
                rcases hk with h | h
                · exact h1 (h.symm.trans e)
                · omega
              refine Kd.R_far (Kd.R_far (Kd.R_far HT9.out hnb _) hnb _) hnb _
            · exact ((HB9.out.setCell (Nat.le_refl _) _).setCell (Nat.le_refl _) _).setCell (Nat.le_refl _) _
    · have e4 : decide ((j : Int) < 4) = false := decide_eq_false (by omega)
      as_aux_lemma =>
        obtain ⟨-, -, q2, r0, r1, r2, -, -⟩ := HSy.out
        go_upto_region 50 with fail
        obtain ⟨W9, hW9⟩ : ∃ W, wr.setCell ⟨X, 2, none⟩ (.int .i64 q) = W := ⟨_, rfl⟩
        rw [hW9]
        have hS9 := HSy.out.putP (q : Int)
        have hT9 := Kd.R_far (p := ⟨X, 2, none⟩) HTy.out (fun k hk e => by have h1 := HNX.out; have h2 := HXS.out; have hk' : k = X := e; rcases hk with h | h; exact h1 (h.symm.trans hk'); omega) (.int .i64 q)
        have hR9 := HRy.out.far (p := ⟨X, 2, none⟩) (by have := HX.out; show X ≠ base; omega) (.int .i64 q)
        have hB9 := HBy.out.setCell (p := ⟨X, 2, none⟩) HSy.out.hb (.int .i64 q)
        rw [hW9] at hS9 hT9 hR9 hB9
        have q0 := hS9.k0
        have q1 := hS9.k1
        have q2 := hS9.k2
        rw [HQ.out] at q1
        have b0 := blk_cell hR9.blk 0
        have b1 := blk_cell hR9.blk 1
        have b2 := blk_cell hR9.blk 2
        have g0 := blk_frozen hR9.blk 0
        have g1 := blk_frozen hR9.blk 1
        have g2 := blk_frozen hR9.blk 2
        have HS9 := Lib.hid hS9
        have HT9 := Lib.hid hT9
        have HR9 := Lib.hid hR9
        have HB9 := Lib.hid hB9
        clear hS9 hT9 hR9 hB9 hW9
        go_wp2_with fail
        refine bodyPost_ret (results_cell_row rfl _ _ base 25 #[.slice A l5.length c, .slice B ns.length dB, .int .i64 ns.length] (0, 0) _ rfl ?_ Tryd.underlying25 rfl (by kernel_rfl)) rfl ?_
        · rw [HQ.out]
          refine blk_put (cs := #[.slice A l5.length c, .slice B q dB, .int .i64 0]) ?_ 2 _ rfl
          refine blk_put (cs := #[.slice A l5.length c, .slice none 0 0, .int .i64 0]) ?_ 1 _ rfl
          refine blk_put (cs := #[.slice none 0 0, .slice none 0 0, .int .i64 0]) ?_ 0 _ (by rw [HM1.out]; rfl)
          exact HR9.out.blk
        · refine made_fin (F := fun b => b ≠ X ∧ (b ≠ base ∧ b ≠ N) ∧ b < S0) (P := fun b => b = N ∨ S0 ≤ b) (base := base) (p := 0) (X := X) ?_ ?_ HG5.out (by have := HM1.out; have := HM2.out; omega) (by have h := HTl.out; obtain ⟨tl, h1, h2, h3⟩ := h; exact ⟨tl, h1, by have := HJ.out; omega, h3⟩) ?_ HBa.out
          · refine Kd.R_far (Kd.R_far (Kd.R_far HS9.out.r (fun k hk => hk.2.1.1) _) (fun k hk => hk.2.1.1) _) (fun k hk => hk.2.1.1) _
          · have hnb : ∀ k, (k = N ∨ S0 ≤ k) → k ≠ base := fun k hk e => by
              have h1 := HNB.out
              have h2 := HXS.out
              have h3 := HX.out
              rcases hk with h | h
              · exact h1 (h.symm.trans e)
              · omega
            refine Kd.R_far (Kd.R_far (Kd.R_far HT9.out hnb _) hnb _) hnb _
          · exact ((HB9.out.setCell (Nat.le_refl _) _).setCell (Nat.le_refl _) _).setCell (Nat.le_refl _) _
end Go.Proofs.YtonnmkhmhndalaaDoor
end
section
namespace Go.Proofs.YtonnmkhmhndalaaDoor
set_option linter.unusedVariables false
set_option linter.unusedSimpArgs false
open Go.RowKit Go.Proofs.YtonnmkhmhndalaaDoorW.PrintWords Go.Proofs.YtonnmkhmhndalaaDoorW.PrintLast Go.Proofs.YtonnmkhmhndalaaDoorW.PrintMore
set_option maxRecDepth 1000000 in
set_option maxHeartbeats 8000000 in
theorem made_any (gs : List S71) (Ag : Option Addr) (cg : Nat) (w : World) (hg : Kd.C k71 w Ag gs.length gs) (hcg : gs.length ≤ cg) :
    Calls Tryd.prog 18 #[.slice Ag gs.length cg] w fun e w' => ∃ (x : NL) (A : Option Addr) (c : Nat) (B : Option Addr) (d : Nat), e = .returned (nlV x A c B d) ∧ NIn w' x A c B d ∧ GL x.nd ∧ mayL x = true ∧ x.nd.length ≤ 130 ∧ Below w.heap.size w w' := by
  have HGs := Lib.hid (fun W (hb : Below w.heap.size w W) => Kd.C_below hg hb)
  have HCg := Lib.hid hcg
  clear hg hcg
  go_enter Tryd.func18, Tryd.ntmps18
  go_upto_region 2 with fail
  obtain ⟨W0, hW0⟩ : ∃ W, ((w.alloc (Obj.cells #[Value.slice none 0 0, Value.slice none 0 0, Value.int IntKind.i64 0] 25)).alloc (Obj.cells #[Value.slice none 0 0, Value.slice none 0 0, Value.int IntKind.i64 0] 68)) = W := ⟨_, rfl⟩
  rw [hW0]
  obtain ⟨base, hbase⟩ : ∃ b, w.heap.size = b := ⟨_, rfl⟩
  have hs0 : W0.heap.size = base + 2 := by rw [← hW0, ← hbase]; simp
  have hb0 : Below w.heap.size w W0 := by rw [← hW0]; exact below_alloc (below_alloc (Below.refl _ _) _) _
  have hst : LState W0 (base + 1) base (fun b => b ≠ base) [] none 0 none 0 0 0 := by
    rw [← hW0, ← hbase]
    exact ⟨by simp [go_sem], by simp [go_sem], by simp [go_sem], by simp [go_sem], by simp [go_sem], by simp [go_sem], Kd.R_nil _ _ _ _ _, Nat.le_succ _⟩
  have hrb : RBx W0 base := by
    rw [← hW0, ← hbase]
    exact RBx.new w _
  rw [hbase] at hb0 HGs ⊢
  have HS0 := Lib.hid hst
  have HB0 := Lib.hid hb0
  have HZ0 := Lib.hid hs0
  have HRb := Lib.hid hrb
  have HBa := Lib.hid hbase
  obtain ⟨X, hX⟩ : ∃ X, base + 1 = X := ⟨_, rfl⟩
  rw [hX] at HS0 ⊢
  have HX := Lib.hid hX
  clear hst hb0 hs0 hrb hW0 hbase hX
  have hF0 : ∀ W : World, W0.heap.size ≤ W.heap.size → ∀ b, W.heap.size ≤ b → (fun b => b ≠ base) b := fun W h b hb => by
    have := HZ0.out
    show b ≠ base
    omega
  have HF0 := Lib.hid hF0
  have hF1 : (List.length ([] : List S39)) ≤ 1000 := by decide
  have hF2 : [in1].length ≤ 1000 := by decide
  have HF1 := Lib.hid hF1
  have HF2 := Lib.hid hF2
  clear hF0 hF1 hF2
  go_upto_region 3 with (first
    | fail
    | (go_at_call 30; (first
        | (refine (adds_lit (x := in3) (c3 := 0) (A3 := none) HS1.out (Below.refl _ _) (Kd.R_nil _ _ _ _ _) (HF0.out w1 HK1.out.1) HF2.out).mono ?_; rintro e w2 ⟨rfl, A2, c2, hs2, hk2, hb2⟩; have HS2 := Lib.hid hs2; have HK2 := Lib.hid hk2; have HB2 := Lib.hid hb2; clear hs2 hk2 hb2)
        | (refine (adds_lit (x := in1) (c3 := 0) (A3 := none) HS0.out (Below.refl _ _) (Kd.R_nil _ _ _ _ _) (HF0.out W0 (Nat.le_refl _)) HF1.out).mono ?_; rintro e w1 ⟨rfl, A1, c1, hs1, hk1, hb1⟩; have HS1 := Lib.hid hs1; have HK1 := Lib.hid hk1; have HB1 := Lib.hid hb1; clear hs1 hk1 hb1)))
    | ((with_reducible refine gate_dst (N := 30) rfl ?_); refine Kd.R_lit (Kd.int .i64) (w0 := w2) base 3 ?hg (N := 30) ?hd (xs := [0, 1]) (inner := [.int .i64 0, .int .i64 1]) (ok := fun b => w2.heap.size ≤ b) (okp := fun _ => False) ?hr ?hp (fun _ hk => hk.elim) (Nat.le_refl _) (Below.refl _ _) (Nat.le_trans HS2.out.hb (Nat.le_of_lt HS2.out.x)) ?hm ?_; (case hm => simp); (case hd => rfl); (case hg => rfl); (case hr => first | (go_simp; done) | (go_simp; rfl)); (case hp => exact (Reps.one (show Kd.M (Kd.int .i64) _ _ _ (0 : Int) [.int .i64 0] from rfl) (Reps.one (show Kd.M (Kd.int .i64) _ _ _ (1 : Int) [.int .i64 1] from rfl) (Reps.none _ _)))); intro vl w3 ho hb hg hnew; obtain ⟨N, dN, hvl, hN1, hN2⟩ := R_head0 ho (by decide); subst hvl; have HOl := Lib.hid ho; have HBl := Lib.hid hb; have HGr := Lib.hid hg; have hq := (HS2.out.below (grown_below hg)); have HS3 := Lib.hid hq; obtain ⟨q0, q1, q2, r0, r1, r2, -, -⟩ := HS3.out; clear ho hb hg hq))
  have hF : ∀ b, w3.heap.size ≤ b → (fun b => b ≠ base ∧ b ≠ N) b := fun b hb => by
    have h1 := HZ0.out
    have h2 := HK1.out.1
    have h3 := HK2.out.1
    have h4 := HGr.out.size
    show b ≠ base ∧ b ≠ N
    omega
  have hst4 : LState (w3.setCell ⟨X, 1, none⟩ (.slice (some ⟨N, 0, none⟩) 2 dN)) X base (fun b => b ≠ base ∧ b ≠ N) [in1, in3] A2 c2 (some ⟨N, 0, none⟩) 2 dN 0 :=
    ((HS2.out.mono (G := fun b => b ≠ base ∧ b ≠ N) (fun b h1 h2 => ⟨h1, by omega⟩)).below (grown_below HGr.out)).putB _ _ _
  have hk4 : Kept W0 (w3.setCell ⟨X, 1, none⟩ (.slice (some ⟨N, 0, none⟩) 2 dN)) (fun b => b = X ∨ b ≠ base) :=
    (((HK1.out.then_ HK2.out (fun k hk => Or.inl hk)).below (grown_below HGr.out))).setCell (Or.inl (Or.inl rfl)) _
  have hnX : N ≠ X := by have := HS2.out.x; omega
  have HNB := Lib.hid (show N ≠ base by have := HS2.out.x; have := HX.out; omega)
  have hb4 : Below base w (w3.setCell ⟨X, 1, none⟩ (.slice (some ⟨N, 0, none⟩) 2 dN)) := by
    have h1 := ((HB0.out.trans HB1.out).trans HB2.out).trans HBl.out
    exact ⟨h1.os, h1.tape, h1.output, by simpa [World.setCell] using h1.size, fun k hk => (Below.heap_setCell w3 _ _ k (by have := HX.out; show k ≠ X; omega)).trans (h1.block k hk)⟩
  have hnt0 := Kd.R_far (p := ⟨X, 1, none⟩) HOl.out (fun k hk e => by have := HS2.out.x; have e2 : k = X := e; have h3 : w2.heap.size ≤ k := hk; omega) (.slice (some ⟨N, 0, none⟩) 2 dN)
  have hnown : ∀ k, (Value.slice (some ⟨N, 0, none⟩) 2 dN).ownBlock = some k → k = N := fun k hk => by
    have : N = k := by simpa [Value.ownBlock] using hk
    exact this.symm
  have hnt : Kd.R (Kd.int .i64) 3 (w3.setCell ⟨X, 1, none⟩ (.slice (some ⟨N, 0, none⟩) 2 dN)) base (fun b => b = N) (.slice (some ⟨N, 0, none⟩) 2 dN) [0, 1] := Kd.R_flat (fun h => h) hnt0 (fun k hk _ => hnown k hk)
  have hnb : ¬ (base = X ∨ base ≠ base) := fun h => by
    have := HX.out
    rcases h with h | h
    · omega
    · exact h rfl
  have hrb4 := HRb.out.kept hk4 hnb
  have hsz4 : w3.heap.size = (w3.setCell ⟨X, 1, none⟩ (.slice (some ⟨N, 0, none⟩) 2 dN)).heap.size := by simp [World.setCell]
  rw [hsz4] at hF hN2
  generalize w3.setCell ⟨X, 1, none⟩ (.slice (some ⟨N, 0, none⟩) 2 dN) = W4 at *
  have HS4 := Lib.hid hst4
  have HB4 := Lib.hid hb4
  have HNt := Lib.hid hnt
  have HR4 := Lib.hid hrb4
  have HF := Lib.hid hF
  have HNX := Lib.hid hnX
  have HN2 := Lib.hid hN2
  clear hst4 hb4 hnt hnt0 hnown hnb hnew hrb4 hF hnX hN2 hN1 hk4 hsz4 q0 q1 q2 r0 r1 r2 HS0 HS1 HS2 HS3 HK1 HK2 HB0 HB1 HB2 HBl HOl HGr HRb HF0 HF1 HF2 HZ0
  rename_i Kt ht Kl hl
  have hte : TEnv w W4 X base N dN gs Ag cg := ⟨⟨HGs.out, HCg.out, HX.out, HN2.out, HNX.out, HNt.out⟩, HBa.out, HNB.out, HR4.out, HF.out⟩
  have ht2 : ∀ (c1 c4 c5 c6 c7 c8 c9 c10 c11 c12 c13 c14 c15 c16 c17 c18 c19 c20 c21 c22 c23 c24 c25 c26 c27 c28 c29 c30 c31 c32 c33 c34 c35 c36 c37 c38 c39 c40 c41 c42 c43 c44 c45 c46 c47 c48 c49 c50 c51 c52 c53 c54 c55 c56 c57 c58 c59 c60 c61 c62 c63 c64 c65 c66 c67 c68 c69 c70 c71 c72 c73 c74 c75 c76 c77 c78 c79 c80 c81 c82 c83 c84 c85 c86 c87 c88 c89 c90 c91 c92 c93 c94 c95 c96 c97 c98 c99 c100 c101 c102 c103 c104 c105 c106 c107 c108 c109 c110 c111 c112 c113 c114 c115 c116 c117 c118 c119 c120 c121 c122 c123 c124 c125 c126 c127 c128 c129 c130 c131 c132 c133 c134 c135 c136 c137 c138 c139 c140 c141 c142 c143 c144 c145 c146 c147 c148 c149 c150 c151 c152 c153 c154 c155 c156 c157 c158 c159 c160 c161 c162 c163 c164 c165 c166 c167 c168 c169 c170 c171 c172 c173 c174 c175 c176 c177 c178 c179 c180 c181 c182 c183 c184 c185 c186 c187 c188 c189 c190 c191 c192 c193 c194 c195 c196 c197 c198 c199 c200 c201 c202 c203 c204 c205 c206 c207 c208 c209 c210 c211 c212 c213 c214 c215 c216 c217 c218 c219 c220 c221 c222 c223 c224 c225 c226 c227 c228 c229 c230 c231 c232 c233 c234 c235 c236 c237 c238 c239 c240 c241 c242 c243 c244 c245 c246 c247 c248 c249 c250 c251 c252 c253 c254 c255 c256 c257 c258 c259 c260 c261 c262 c263 c264 c265 c266 c267 c268 c269 c270 c271 c272 c273 c274 c275 c276 c277 c278 c279 c280 c281 c282 c283 c284 c285 c286 c287 c288 c289 c290 c291 c292 c293 c294 c295 c296 c297 c298 c299 c300 c301 c302 c303 c304 c305 c306 c307 c308 c309 c310 c311 c312 c313 c314 c315 c316 c317 c318 : Value) (i : Nat) (l : List S39) (A : Option Addr) (c : Nat) (wr : World), RSt w W4 wr X base N dN i l A c → i ≤ 40 → Kt ⟨#[.slice Ag gs.length cg, c1, .pointer (some ⟨base, 0, none⟩), .pointer (some ⟨X, 0, none⟩), c4, c5, c6, c7, c8, c9, c10, c11, c12, c13, c14, c15, c16, c17, c18, c19, c20, c21, c22, c23, c24, c25, c26, c27, c28, c29, c30, c31, c32, c33, c34, c35, c36, c37, c38, c39, c40, c41, c42, c43, c44, c45, c46, c47, c48, c49, c50, c51, c52, c53, c54, c55, c56, c57, c58, c59, c60, c61, c62, c63, c64, c65, c66, c67, c68, c69, c70, c71, c72, c73, c74, c75, c76, c77, c78, c79, c80, c81, c82, c83, c84, c85, c86, c87, c88, c89, c90, c91, c92, c93, c94, c95, c96, c97, c98, c99, c100, c101, c102, c103, c104, c105, c106, c107, c108, c109, c110, c111, c112, c113, c114, c115, c116, c117, c118, c119, c120, c121, c122, c123, c124, c125, c126, c127, c128, c129, c130, c131, c132, c133, c134, c135, c136, c137, c138, c139, c140, c141, c142, c143, c144, c145, c146, c147, c148, c149, c150, c151, c152, c153, c154, c155, c156, c157, c158, c159, c160, c161, c162, c163, c164, c165, c166, c167, c168, c169, c170, c171, c172, c173, c174, c175, c176, c177, c178, c179, c180, c181, c182, c183, c184, c185, c186, c187, c188, c189, c190, c191, c192, c193, c194, c195, c196, c197, c198, c199, c200, c201, c202, c203, c204, c205, c206, c207, c208, c209, c210, c211, c212, c213, c214, c215, c216, c217, c218, c219, c220, c221, c222, c223, c224, c225, c226, c227, c228, c229, c230, c231, c232, c233, c234, c235, c236, c237, c238, c239, c240, c241, c242, c243, c244, c245, c246, c247, c248, c249, c250, c251, c252, c253, c254, c255, c256, c257, c258, c259, c260, c261, c262, c263, c264, c265, c266, c267, c268, c269, c270, c271, c272, c273, c274, c275, c276, c277, c278, c279, c280, c281, c282, c283, c284, c285, c286, c287, c288, c289, c290, c291, c292, c293, c294, c295, c296, c297, c298, c299, c300, c301, c302, c303, c304, c305, c306, c307, c308, c309, c310, c311, c312, c313, c314, c315, c316, c317, c318], []⟩ wr := fun c1 c4 c5 c6 c7 c8 c9 c10 c11 c12 c13 c14 c15 c16 c17 c18 c19 c20 c21 c22 c23 c24 c25 c26 c27 c28 c29 c30 c31 c32 c33 c34 c35 c36 c37 c38 c39 c40 c41 c42 c43 c44 c45 c46 c47 c48 c49 c50 c51 c52 c53 c54 c55 c56 c57 c58 c59 c60 c61 c62 c63 c64 c65 c66 c67 c68 c69 c70 c71 c72 c73 c74 c75 c76 c77 c78 c79 c80 c81 c82 c83 c84 c85 c86 c87 c88 c89 c90 c91 c92 c93 c94 c95 c96 c97 c98 c99 c100 c101 c102 c103 c104 c105 c106 c107 c108 c109 c110 c111 c112 c113 c114 c115 c116 c117 c118 c119 c120 c121 c122 c123 c124 c125 c126 c127 c128 c129 c130 c131 c132 c133 c134 c135 c136 c137 c138 c139 c140 c141 c142 c143 c144 c145 c146 c147 c148 c149 c150 c151 c152 c153 c154 c155 c156 c157 c158 c159 c160 c161 c162 c163 c164 c165 c166 c167 c168 c169 c170 c171 c172 c173 c174 c175 c176 c177 c178 c179 c180 c181 c182 c183 c184 c185 c186 c187 c188 c189 c190 c191 c192 c193 c194 c195 c196 c197 c198 c199 c200 c201 c202 c203 c204 c205 c206 c207 c208 c209 c210 c211 c212 c213 c214 c215 c216 c217 c218 c219 c220 c221 c222 c223 c224 c225 c226 c227 c228 c229 c230 c231 c232 c233 c234 c235 c236 c237 c238 c239 c240 c241 c242 c243 c244 c245 c246 c247 c248 c249 c250 c251 c252 c253 c254 c255 c256 c257 c258 c259 c260 c261 c262 c263 c264 c265 c266 c267 c268 c269 c270 c271 c272 c273 c274 c275 c276 c277 c278 c279 c280 c281 c282 c283 c284 c285 c286 c287 c288 c289 c290 c291 c292 c293 c294 c295 c296 c297 c298 c299 c300 c301 c302 c303 c304 c305 c306 c307 c308 c309 c310 c311 c312 c313 c314 c315 c316 c317 c318 i l A c wr h1 h2 => ht _ _ (made_tail gs Ag cg w W4 X base N dN i l A c wr hte h1 h2 c1 c4 c5 c6 c7 c8 c9 c10 c11 c12 c13 c14 c15 c16 c17 c18 c19 c20 c21 c22 c23 c24 c25 c26 c27 c28 c29 c30 c31 c32 c33 c34 c35 c36 c37 c38 c39 c40 c41 c42 c43 c44 c45 c46 c47 c48 c49 c50 c51 c52 c53 c54 c55 c56 c57 c58 c59 c60 c61 c62 c63 c64 c65 c66 c67 c68 c69 c70 c71 c72 c73 c74 c75 c76 c77 c78 c79 c80 c81 c82 c83 c84 c85 c86 c87 c88 c89 c90 c91 c92 c93 c94 c95 c96 c97 c98 c99 c100 c101 c102 c103 c104 c105 c106 c107 c108 c109 c110 c111 c112 c113 c114 c115 c116 c117 c118 c119 c120 c121 c122 c123 c124 c125 c126 c127 c128 c129 c130 c131 c132 c133 c134 c135 c136 c137 c138 c139 c140 c141 c142 c143 c144 c145 c146 c147 c148 c149 c150 c151 c152 c153 c154 c155 c156 c157 c158 c159 c160 c161 c162 c163 c164 c165 c166 c167 c168 c169 c170 c171 c172 c173 c174 c175 c176 c177 c178 c179 c180 c181 c182 c183 c184 c185 c186 c187 c188 c189 c190 c191 c192 c193 c194 c195 c196 c197 c198 c199 c200 c201 c202 c203 c204 c205 c206 c207 c208 c209 c210 c211 c212 c213 c214 c215 c216 c217 c218 c219 c220 c221 c222 c223 c224 c225 c226 c227 c228 c229 c230 c231 c232 c233 c234 c235 c236 c237 c238 c239 c240 c241 c242 c243 c244 c245 c246 c247 c248 c249 c250 c251 c252 c253 c254 c255 c256 c257 c258 c259 c260 c261 c262 c263 c264 c265 c266 c267 c268 c269 c270 c271 c272 c273 c274 c275 c276 c277 c278 c279 c280 c281 c282 c283 c284 c285 c286 c287 c288 c289 c290 c291 c292 c293 c294 c295 c296 c297 c298 c299 c300 c301 c302 c303 c304 c305 c306 c307 c308 c309 c310 c311 c312 c313 c314 c315 c316 c317 c318)
  have HT := Lib.hid ht2
  clear ht ht2 hte
  go_wp2_with fail
  go_loopw [4, 5, 6, 7, 8, 9, 10, 11, 12, 13, 14, 15, 16, 17, 18, 19] (fun v4 v5 v6 v7 v8 v9 v10 v11 v12 v13 v14 v15 v16 v17 v18 v19 wx => ∃ (i : Nat) (l : List S39) (A : Option Addr) (c : Nat), v4 = .int .i64 i ∧ i ≤ 40 ∧ Hid (LState wx X base (fun b => b ≠ base ∧ b ≠ N) l A c (some ⟨N, 0, none⟩) 2 dN 0) ∧ Hid (GL l) ∧ Hid (l.length ≤ 2 + 3 * i) ∧ Hid (Kept W4 wx (fun b => b = X ∨ (b ≠ base ∧ b ≠ N))) ∧ Hid (Below base w wx)) (fun v4 _ _ _ _ _ _ _ _ _ _ _ _ _ _ _ _ => 40 - (intOf v4).toNat)
  case atStart => exact ⟨0, _, A2, c2, rfl, Nat.zero_le _, HS4, Lib.hid gl_two, Lib.hid (by decide), Lib.hid (Kept.refl _ _), HB4⟩
  case round =>
    obtain ⟨i, l, A, c, rfl, hi, HSx, HGx, HLx, HKx, HBx⟩ := hrel
    by_cases hlt : i < gs.length ∧ i < 40
    · obtain ⟨hlg, hlt⟩ := hlt
      refine made_round gs Ag cg w W4 X base N dN i l A c wr ⟨HGs.out, HCg.out, HX.out, HN2.out, HNX.out, HNt.out⟩ ⟨HSx.out, HGx.out, HLx.out, HKx.out, HBx.out⟩ hlg hlt _ _ _ _ _ _ _ _ _ _ _ _ _ _ _ _ _ _ _ _ _ _ _ _ _ _ _ _ _ _ _ _ _ _ _ _ _ _ _ _ _ _ _ _ _ _ _ _ _ _ _ _ _ _ _ _ _ _ _ _ _ _ _ _ _ _ _ _ _ _ _ _ _ _ _ _ _ _ _ _ _ _ _ _ _ _ _ _ _ _ _ _ _ _ _ _ _ _ _ _ _ _ _ _ _ _ _ _ _ _ _ _ _ _ _ _ _ _ _ _ _ _ _ _ _ _ _ _ _ _ _ _ _ _ _ _ _ _ _ _ _ _ _ _ _ _ _ _ _ _ _ _ _ _ _ _ _ _ _ _ _ _ _ _ _ _ _ _ _ _ _ _ _ _ _ _ _ _ _ _ _ _ _ _ _ _ _ _ _ _ _ _ _ _ _ _ _ _ _ _ _ _ _ _ _ _ _ _ _ _ _ _ _ _ _ _ _ _ _ _ _ _ _ _ _ _ _ _ _ _ _ _ _ _ _ _ _ _ _ _ _ _ _ _ _ _ _ _ _ _ _ _ _ _ _ _ _ _ _ _ _ _ _ _ _ _ _ _ _ _ _ _ _ _ _ _ _ _ _ _ _ _ _ _ _ _ _ _ _ _ _ _ _ _ _ _ _ _ _ _ _ _ _ _ _ _ _ _ _ _ _ _ _ _ _ _ _ ?_
      intro a' w' hf he
      obtain ⟨l', A', c', hR⟩ := he
      obtain ⟨v5, hf⟩ := hf
      obtain ⟨v6, hf⟩ := hf
      obtain ⟨v7, hf⟩ := hf
      obtain ⟨v8, hf⟩ := hf
      obtain ⟨v9, hf⟩ := hf
      obtain ⟨v10, hf⟩ := hf
      obtain ⟨v11, hf⟩ := hf
      obtain ⟨v12, hf⟩ := hf
      obtain ⟨v13, hf⟩ := hf
      obtain ⟨v14, hf⟩ := hf
      obtain ⟨v15, hf⟩ := hf
      obtain ⟨v16, hf⟩ := hf
      obtain ⟨v17, hf⟩ := hf
      obtain ⟨v18, hf⟩ := hf
      obtain ⟨v19, hf⟩ := hf
      obtain ⟨v34, hf⟩ := hf
      obtain ⟨v35, hf⟩ := hf
      obtain ⟨v36, hf⟩ := hf
      obtain ⟨v37, hf⟩ := hf
      obtain ⟨v38, hf⟩ := hf
      obtain ⟨v39, hf⟩ := hf
      obtain ⟨v40, hf⟩ := hf
      obtain ⟨v41, hf⟩ := hf
      obtain ⟨v42, hf⟩ := hf
      obtain ⟨v43, hf⟩ := hf
      obtain ⟨v44, hf⟩ := hf
      obtain ⟨v45, hf⟩ := hf
      obtain ⟨v46, hf⟩ := hf
      obtain ⟨v47, hf⟩ := hf
      obtain ⟨v48, hf⟩ := hf
      obtain ⟨v49, hf⟩ := hf
      obtain ⟨v50, hf⟩ := hf
      obtain ⟨v51, hf⟩ := hf
      obtain ⟨v52, hf⟩ := hf
      obtain ⟨v53, hf⟩ := hf
      obtain ⟨v54, hf⟩ := hf
      obtain ⟨v55, hf⟩ := hf
      obtain ⟨v56, hf⟩ := hf
      obtain ⟨v57, hf⟩ := hf
      obtain ⟨v58, hf⟩ := hf
      obtain ⟨v59, hf⟩ := hf
      obtain ⟨v60, hf⟩ := hf
      obtain ⟨v61, hf⟩ := hf
      obtain ⟨v62, hf⟩ := hf
      obtain ⟨v63, hf⟩ := hf
      obtain ⟨v64, hf⟩ := hf
      obtain ⟨v65, hf⟩ := hf
      obtain ⟨v66, hf⟩ := hf
      obtain ⟨v67, hf⟩ := hf
      obtain ⟨v68, hf⟩ := hf
      obtain ⟨v69, hf⟩ := hf
      obtain ⟨v70, hf⟩ := hf
      obtain ⟨v71, hf⟩ := hf
      obtain ⟨v72, hf⟩ := hf
      obtain ⟨v73, hf⟩ := hf
      obtain ⟨v74, hf⟩ := hf
      obtain ⟨v75, hf⟩ := hf
      obtain ⟨v76, hf⟩ := hf
      obtain ⟨v77, hf⟩ := hf
      obtain ⟨v78, hf⟩ := hf
      obtain ⟨v79, hf⟩ := hf
      obtain ⟨v80, hf⟩ := hf
      obtain ⟨v81, hf⟩ := hf
      obtain ⟨v82, hf⟩ := hf
      obtain ⟨v83, hf⟩ := hf
      obtain ⟨v84, hf⟩ := hf
      obtain ⟨v85, hf⟩ := hf
      obtain ⟨v86, hf⟩ := hf
      obtain ⟨v87, hf⟩ := hf
      obtain ⟨v88, hf⟩ := hf
      obtain ⟨v89, hf⟩ := hf
      obtain ⟨v90, hf⟩ := hf
      obtain ⟨v91, hf⟩ := hf
      obtain ⟨v92, hf⟩ := hf
      obtain ⟨v93, hf⟩ := hf
      obtain ⟨v94, hf⟩ := hf
      obtain ⟨v95, hf⟩ := hf
      obtain ⟨v96, hf⟩ := hf
      obtain ⟨v97, hf⟩ := hf
      obtain ⟨v98, hf⟩ := hf
      obtain ⟨v99, hf⟩ := hf
      obtain ⟨v100, hf⟩ := hf
      obtain ⟨v101, hf⟩ := hf
      obtain ⟨v102, hf⟩ := hf
      obtain ⟨v103, hf⟩ := hf
      obtain ⟨v104, hf⟩ := hf
      obtain ⟨v105, hf⟩ := hf
      obtain ⟨v106, hf⟩ := hf
      obtain ⟨v107, hf⟩ := hf
      obtain ⟨v108, hf⟩ := hf
      obtain ⟨v109, hf⟩ := hf
      obtain ⟨v110, hf⟩ := hf
      obtain ⟨v111, hf⟩ := hf
      obtain ⟨v112, hf⟩ := hf
      obtain ⟨v113, hf⟩ := hf
      obtain ⟨v114, hf⟩ := hf
      obtain ⟨v115, hf⟩ := hf
      obtain ⟨v116, hf⟩ := hf
      obtain ⟨v117, hf⟩ := hf
      obtain ⟨v118, hf⟩ := hf
      obtain ⟨v119, hf⟩ := hf
      obtain ⟨v120, hf⟩ := hf
      obtain ⟨v121, hf⟩ := hf
      obtain ⟨v122, hf⟩ := hf
      obtain ⟨v123, hf⟩ := hf
      obtain ⟨v124, hf⟩ := hf
      obtain ⟨v125, hf⟩ := hf
      obtain ⟨v126, hf⟩ := hf
      obtain ⟨v127, hf⟩ := hf
      obtain ⟨v128, hf⟩ := hf
      obtain ⟨v129, hf⟩ := hf
      obtain ⟨v130, hf⟩ := hf
      obtain ⟨v131, hf⟩ := hf
      obtain ⟨v132, hf⟩ := hf
      obtain ⟨v133, hf⟩ := hf
      obtain ⟨v134, hf⟩ := hf
      obtain ⟨v135, hf⟩ := hf
      obtain ⟨v136, hf⟩ := hf
      obtain ⟨v137, hf⟩ := hf
      obtain ⟨v138, hf⟩ := hf
      obtain ⟨v139, hf⟩ := hf
      obtain ⟨v140, hf⟩ := hf
      obtain ⟨v141, hf⟩ := hf
      obtain ⟨v142, hf⟩ := hf
      obtain ⟨v143, hf⟩ := hf
      obtain ⟨v144, hf⟩ := hf
      obtain ⟨v145, hf⟩ := hf
      obtain ⟨v146, hf⟩ := hf
      obtain ⟨v147, hf⟩ := hf
      obtain ⟨v148, hf⟩ := hf
      obtain ⟨v149, hf⟩ := hf
      obtain ⟨v150, hf⟩ := hf
      obtain ⟨v151, hf⟩ := hf
      obtain ⟨v152, hf⟩ := hf
      obtain ⟨v153, hf⟩ := hf
      obtain ⟨v154, hf⟩ := hf
      obtain ⟨v155, hf⟩ := hf
      obtain ⟨v156, hf⟩ := hf
      obtain ⟨v157, hf⟩ := hf
      obtain ⟨v158, hf⟩ := hf
      obtain ⟨v159, hf⟩ := hf
      obtain ⟨v160, hf⟩ := hf
      obtain ⟨v161, hf⟩ := hf
      obtain ⟨v162, hf⟩ := hf
      obtain ⟨v163, hf⟩ := hf
      obtain ⟨v164, hf⟩ := hf
      obtain ⟨v165, hf⟩ := hf
      obtain ⟨v166, hf⟩ := hf
      obtain ⟨v167, hf⟩ := hf
      obtain ⟨v168, hf⟩ := hf
      obtain ⟨v169, hf⟩ := hf
      obtain ⟨v170, hf⟩ := hf
      obtain ⟨v171, hf⟩ := hf
      obtain ⟨v172, hf⟩ := hf
      obtain ⟨v173, hf⟩ := hf
      obtain ⟨v174, hf⟩ := hf
      obtain ⟨v175, hf⟩ := hf
      obtain ⟨v176, hf⟩ := hf
      obtain ⟨v177, hf⟩ := hf
      obtain ⟨v178, hf⟩ := hf
      obtain ⟨v179, hf⟩ := hf
      obtain ⟨v180, hf⟩ := hf
      obtain ⟨v181, hf⟩ := hf
      obtain ⟨v182, hf⟩ := hf
      obtain ⟨v183, hf⟩ := hf
      obtain ⟨v184, hf⟩ := hf
      obtain ⟨v185, hf⟩ := hf
      obtain ⟨v186, hf⟩ := hf
      obtain ⟨v187, hf⟩ := hf
      obtain ⟨v188, hf⟩ := hf
      obtain ⟨v189, hf⟩ := hf
      obtain ⟨v190, hf⟩ := hf
      obtain ⟨v191, hf⟩ := hf
      obtain ⟨v192, hf⟩ := hf
      obtain ⟨v193, hf⟩ := hf
      obtain ⟨v194, hf⟩ := hf
      obtain ⟨v195, hf⟩ := hf
      obtain ⟨v196, hf⟩ := hf
      obtain ⟨v197, hf⟩ := hf
      obtain ⟨v198, hf⟩ := hf
      obtain ⟨v199, hf⟩ := hf
      obtain ⟨v200, hf⟩ := hf
      obtain ⟨v201, hf⟩ := hf
      obtain ⟨v202, hf⟩ := hf
      obtain ⟨v203, hf⟩ := hf
      obtain ⟨v204, hf⟩ := hf
      obtain ⟨v205, hf⟩ := hf
      obtain ⟨v206, hf⟩ := hf
      obtain ⟨v207, hf⟩ := hf
      obtain ⟨v208, hf⟩ := hf
      obtain ⟨v209, hf⟩ := hf
      obtain ⟨v210, hf⟩ := hf
      obtain ⟨v211, hf⟩ := hf
      obtain ⟨v212, hf⟩ := hf
      obtain ⟨v213, hf⟩ := hf
      obtain ⟨v214, hf⟩ := hf
      obtain ⟨v215, hf⟩ := hf
      obtain ⟨v216, hf⟩ := hf
      obtain ⟨v217, hf⟩ := hf
      obtain ⟨v218, hf⟩ := hf
      obtain ⟨v219, hf⟩ := hf
      obtain ⟨v220, hf⟩ := hf
      obtain ⟨v221, hf⟩ := hf
      obtain ⟨v222, hf⟩ := hf
      obtain ⟨v223, hf⟩ := hf
      obtain ⟨v224, hf⟩ := hf
      obtain ⟨v225, hf⟩ := hf
      obtain ⟨v226, hf⟩ := hf
      obtain ⟨v227, hf⟩ := hf
      obtain ⟨v228, hf⟩ := hf
      obtain ⟨v229, hf⟩ := hf
      obtain ⟨v230, hf⟩ := hf
      obtain ⟨v231, hf⟩ := hf
      obtain ⟨v232, hf⟩ := hf
      obtain ⟨v233, hf⟩ := hf
      obtain ⟨v234, hf⟩ := hf
      obtain ⟨v235, hf⟩ := hf
      obtain ⟨v236, hf⟩ := hf
      obtain ⟨v237, hf⟩ := hf
      obtain ⟨v238, hf⟩ := hf
      obtain ⟨v239, hf⟩ := hf
      obtain ⟨v240, hf⟩ := hf
      obtain ⟨v241, hf⟩ := hf
      obtain ⟨v242, hf⟩ := hf
      obtain ⟨v243, hf⟩ := hf
      obtain ⟨v244, hf⟩ := hf
      obtain ⟨v245, hf⟩ := hf
      obtain ⟨v246, hf⟩ := hf
      obtain ⟨v247, hf⟩ := hf
      obtain ⟨v248, hf⟩ := hf
      obtain ⟨v249, hf⟩ := hf
      obtain ⟨v250, hf⟩ := hf
      obtain ⟨v251, hf⟩ := hf
      obtain ⟨v252, hf⟩ := hf
      obtain ⟨v253, hf⟩ := hf
      obtain ⟨v254, hf⟩ := hf
      obtain ⟨v255, hf⟩ := hf
      obtain ⟨v256, hf⟩ := hf
      obtain ⟨v257, hf⟩ := hf
      obtain ⟨v258, hf⟩ := hf
      obtain ⟨v259, hf⟩ := hf
      obtain ⟨v260, hf⟩ := hf
      obtain ⟨v261, hf⟩ := hf
      obtain ⟨v262, hf⟩ := hf
      obtain ⟨v263, hf⟩ := hf
      obtain ⟨v264, hf⟩ := hf
      obtain ⟨v265, hf⟩ := hf
      subst hf
      refine ⟨⟨_, _, _, _, _, _, _, _, _, _, _, _, _, _, _, _, _, _, _, _, _, _, _, _, _, _, _, _, _, _, _, _, _, _, _, _, _, _, _, _, _, _, _, _, _, _, _, _, _, _, _, _, _, _, _, _, _, _, _, _, _, _, _, _, _, _, _, _, _, _, _, _, _, _, _, _, _, _, _, _, _, _, _, _, _, _, _, _, _, _, _, _, _, _, _, _, _, _, _, _, _, _, _, _, _, _, _, _, _, _, _, _, _, _, _, _, _, _, _, _, _, _, _, _, _, _, _, _, _, _, _, _, _, _, _, _, _, _, _, _, _, _, _, _, _, _, _, _, _, _, _, _, _, _, _, _, _, _, _, _, _, _, _, _, _, _, _, _, _, _, _, _, _, _, _, _, _, _, _, _, _, _, _, _, _, _, _, _, _, _, _, _, _, _, _, _, _, _, _, _, _, _, _, _, _, _, _, _, _, _, _, _, _, _, _, _, _, _, _, _, _, _, _, _, _, _, _, _, _, _, _, _, _, _, _, _, _, _, _, _, _, _, _, _, _, _, _, _, ⟨i + 1, l', A', c', by simp, by omega, Lib.hid hR.s, Lib.hid hR.g, Lib.hid hR.len, Lib.hid hR.k, Lib.hid hR.b⟩, rfl⟩, ?_⟩
      simp [intOf]
      omega
    · have hrs : RSt w W4 wr X base N dN i l A c := ⟨HSx.out, HGx.out, HLx.out, HKx.out, HBx.out⟩
      have HRs := Lib.hid hrs
      have HI := Lib.hid hi
      have hgc := HCg.out
      have d40 : i < gs.length ∨ ¬ i < gs.length := Decidable.em _
      clear hrs
      rcases d40 with hlg | hlg
      · have h40 : decide ((i : Int) < 40) = false := decide_eq_false (by omega)
        clear hlt
        go_wp2_with fail
        exact HT.out _ _ _ _ _ _ _ _ _ _ _ _ _ _ _ _ _ _ _ _ _ _ _ _ _ _ _ _ _ _ _ _ _ _ _ _ _ _ _ _ _ _ _ _ _ _ _ _ _ _ _ _ _ _ _ _ _ _ _ _ _ _ _ _ _ _ _ _ _ _ _ _ _ _ _ _ _ _ _ _ _ _ _ _ _ _ _ _ _ _ _ _ _ _ _ _ _ _ _ _ _ _ _ _ _ _ _ _ _ _ _ _ _ _ _ _ _ _ _ _ _ _ _ _ _ _ _ _ _ _ _ _ _ _ _ _ _ _ _ _ _ _ _ _ _ _ _ _ _ _ _ _ _ _ _ _ _ _ _ _ _ _ _ _ _ _ _ _ _ _ _ _ _ _ _ _ _ _ _ _ _ _ _ _ _ _ _ _ _ _ _ _ _ _ _ _ _ _ _ _ _ _ _ _ _ _ _ _ _ _ _ _ _ _ _ _ _ _ _ _ _ _ _ _ _ _ _ _ _ _ _ _ _ _ _ _ _ _ _ _ _ _ _ _ _ _ _ _ _ _ _ _ _ _ _ _ _ _ _ _ _ _ _ _ _ _ _ _ _ _ _ _ _ _ _ _ _ _ _ _ _ _ _ _ _ _ _ _ _ _ _ _ _ _ _ _ _ _ _ _ _ _ _ _ _ _ _ _ _ _ _ _ _ _ _ _ _ _ _ _ _ HRs.out HI.out
      · have hlg0 : decide ((i : Int) < (gs.length : Int)) = false := decide_eq_false (by omega)
        clear hlt
        go_wp2_with fail
        exact HT.out _ _ _ _ _ _ _ _ _ _ _ _ _ _ _ _ _ _ _ _ _ _ _ _ _ _ _ _ _ _ _ _ _ _ _ _ _ _ _ _ _ _ _ _ _ _ _ _ _ _ _ _ _ _ _ _ _ _ _ _ _ _ _ _ _ _ _ _ _ _ _ _ _ _ _ _ _ _ _ _ _ _ _ _ _ _ _ _ _ _ _ _ _ _ _ _ _ _ _ _ _ _ _ _ _ _ _ _ _ _ _ _ _ _ _ _ _ _ _ _ _ _ _ _ _ _ _ _ _ _ _ _ _ _ _ _ _ _ _ _ _ _ _ _ _ _ _ _ _ _ _ _ _ _ _ _ _ _ _ _ _ _ _ _ _ _ _ _ _ _ _ _ _ _ _ _ _ _ _ _ _ _ _ _ _ _ _ _ _ _ _ _ _ _ _ _ _ _ _ _ _ _ _ _ _ _ _ _ _ _ _ _ _ _ _ _ _ _ _ _ _ _ _ _ _ _ _ _ _ _ _ _ _ _ _ _ _ _ _ _ _ _ _ _ _ _ _ _ _ _ _ _ _ _ _ _ _ _ _ _ _ _ _ _ _ _ _ _ _ _ _ _ _ _ _ _ _ _ _ _ _ _ _ _ _ _ _ _ _ _ _ _ _ _ _ _ _ _ _ _ _ _ _ _ _ _ _ _ _ _ _ _ _ _ _ _ _ _ _ _ _ HRs.out HI.out
end Go.Proofs.YtonnmkhmhndalaaDoor
end
