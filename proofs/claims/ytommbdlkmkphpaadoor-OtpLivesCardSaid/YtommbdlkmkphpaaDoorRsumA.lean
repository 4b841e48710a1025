/- The great regions of the document's sum, each over a frame of letters. -/
import Derived.Test.YtommbdlkmkphpaaDoorRtG
import Derived.Test.YtommbdlkmkphpaaDoorHshB
namespace Go.Proofs.YtommbdlkmkphpaaDoor
open Go.RowKit
def findR (n : Nat) : Code → Option Code
  | .region id ops d => if id = n then some (.region id ops d) else none
  | .seq a b => match findR n a with
    | some c => some c
    | none => findR n b
  | .block _ c => findR n c
  | .loop c => findR n c
  | .scope c => findR n c
  | .cond _ a b => match findR n a with
    | some c => some c
    | none => findR n b
  | _ => none
noncomputable def sumR (n : Nat) : Code := (Tryd.f32.body.bind (findR n)).getD .skip
theorem ror_quiet {w : World} {n m : Nat} {x : U32} (h0 : 1 ≤ m) (h1 : m ≤ 31) : Calls Tryd.prog 46 #[.int .u32 x.toNat, .int .i64 m] (w.drewN n) fun e w' => e = .returned (.int .u32 (Sha.ror x m).toNat) ∧ ∃ k, w' = w.drewN k :=
  (rror_any x m _ h0 h1).mono fun _ _ ⟨he, k, hk⟩ => ⟨he, n + k, by rw [hk]; simp [World.drewN, Nat.add_assoc]⟩
section
variable (a b c d e f g h k w : U32)
theorem t_eq : ((h.toNat : Int) + bits .xor .u32 (bits .xor .u32 ((Sha.ror e 6).toNat : Int) ((Sha.ror e 11).toNat : Int)) ((Sha.ror e 25).toNat : Int) +
    bits .xor .u32 (bits .and .u32 (e.toNat : Int) (f.toNat : Int)) (bits .and .u32 (bits .xor .u32 4294967295 (e.toNat : Int)) (g.toNat : Int)) + (k.toNat : Int) + (w.toNat : Int)) % (4294967296 : Int) = ((Sha.tOf ⟨a, b, c, d, e, f, g, h⟩ k w).toNat : Int) := by
  rw [x_e1, x_not, x_and, x_and, x_xor, x_add5]; rfl
theorem t_eq2 : (((h.toNat : Int) + bits .xor .u32 (bits .xor .u32 ((Sha.ror e 6).toNat : Int) ((Sha.ror e 11).toNat : Int)) ((Sha.ror e 25).toNat : Int) +
    bits .xor .u32 (bits .and .u32 (e.toNat : Int) (f.toNat : Int)) (bits .and .u32 (bits .xor .u32 4294967295 (e.toNat : Int)) (g.toNat : Int)) + (k.toNat : Int)) % (4294967296 : Int) + (w.toNat : Int)) % (4294967296 : Int) = ((Sha.tOf ⟨a, b, c, d, e, f, g, h⟩ k w).toNat : Int) := by
  rw [← t_eq a b c d e f g h k w]; omega
theorem u_eq : (bits .xor .u32 (bits .xor .u32 ((Sha.ror a 2).toNat : Int) ((Sha.ror a 13).toNat : Int)) ((Sha.ror a 22).toNat : Int) +
    bits .xor .u32 (bits .xor .u32 (bits .and .u32 (a.toNat : Int) (b.toNat : Int)) (bits .and .u32 (a.toNat : Int) (c.toNat : Int))) (bits .and .u32 (b.toNat : Int) (c.toNat : Int))) % (4294967296 : Int) = ((Sha.uOf ⟨a, b, c, d, e, f, g, h⟩).toNat : Int) := by
  rw [x_e0, x_maj, x_add]; rfl
end

set_option maxHeartbeats 20000000 in
set_option maxRecDepth 1000000 in
theorem sum_r21 {u0 u1 u2 u3 u4 u6 u7 u8 u9 u10 u14 u15 u16 u17 u18 u19 u20 u21 u22 u23 u24 u25 u26 u27 u28 u29 u30 u31 u32 u33 u34 u35 u36 u37 u38 u39 u40 u41 u42 u43 u44 u45 u46 u47 u48 u49 u50 u51 u52 u53 u54 u55 u56 u57 u58 u59 u60 u61 u62 u63 u64 u65 u66 u67 u68 u69 u70 u71 u72 u73 u74 u75 u76 u77 u78 u79 u80 u81 u82 u83 u84 u85 u86 u87 u88 u89 u90 u91 u92 u93 u94 u95 u96 u97 u98 u99 u100 u101 u102 u103 u104 u105 u106 u107 u108 u109 u110 u111 u112 u113 u114 u115 u116 u117 u118 u119 u120 u121 u122 u123 u124 u125 u126 u127 u128 u129 u130 u131 u132 u133 u134 u135 u136 u137 u138 u139 u140 u141 u142 u143 u144 u145 u146 u147 u148 u149 u150 u151 u152 u153 u154 u155 u156 u157 u158 u159 u160 u161 u162 u163 u164 u165 u166 u167 u168 u169 u170 u171 u172 u173 u174 u175 u176 u177 u178 u179 u180 u181 u182 u183 u184 u185 u186 u187 u188 u189 u190 u191 u192 u193 u194 u195 u196 u197 u198 u199 u200 u201 u202 u203 u204 u205 u206 u207 u208 u209 u210 u211 u212 u213 u214 u215 u216 u217 u218 u219 u220 u221 u222 u223 u224 u225 u226 u227 u228 u229 u230 u231 u232 u233 u234 u235 u236 u237 u238 u239 u240 u241 u242 u243 u244 u245 u246 u247 u248 u249 u250 u251 u252 u253 u254 u255 u256 u257 u258 u259 u260 u261 u262 u263 u264 u265 u266 u267 u268 u269 u270 u271 u272 u273 u274 u275 u276 u277 u278 u279 u280 u281 u282 u283 u284 u285 u286 u287 u288 u289 u290 : Value} {GB LB cb GW q k : Nat} {x0 x1 x2 x3 : UInt8} {y : U32} {w : World} {Q : Exit → Act → World → Prop} (hq : q < 16) (hkL : k + 3 < LB) (hLl : LB ≤ 140737488355328)
    (b0 : w.cell? ⟨GB, k, none⟩ = some (.int .u8 x0.toNat)) (b1 : w.cell? ⟨GB, k + 1, none⟩ = some (.int .u8 x1.toNat)) (b2 : w.cell? ⟨GB, k + 2, none⟩ = some (.int .u8 x2.toNat)) (b3 : w.cell? ⟨GB, k + 3, none⟩ = some (.int .u8 x3.toNat))
    (c0 : w.cell? ⟨GW, q, none⟩ = some (.int .u32 y.toNat)) (f0 : w.frozen? ⟨GW, q, none⟩ = false) {z : U32} (hz : BitVec.ofNat 32 (Sha.val [x0, x1, x2, x3]) = z)
    (h : ∀ v82 v83 v84 v85 v86 v87 v88 v89 v90 v91 v92 v93 v94 v95 v96 v97 v98 v99 v100 v101 v102 v103 v104 v105 v106 v107 v108 v109 v110 v111 v112 v113 : Value, Q .normal ⟨#[u0, u1, u2, u3, u4, .slice (some ⟨GB, 0, none⟩) LB cb, u6, u7, u8, u9, u10, .slice (some ⟨GW, 0, none⟩) 64 64, .int .i64 (q : Int), .int .i64 (k : Int), u14, u15, u16, u17, u18, u19, u20, u21, u22, u23, u24, u25, u26, u27, u28, u29, u30, u31, u32, u33, u34, u35, u36, u37, u38, u39, u40, u41, u42, u43, u44, u45, u46, u47, u48, u49, u50, u51, u52, u53, u54, u55, u56, u57, u58, u59, u60, u61, u62, u63, u64, u65, u66, u67, u68, u69, u70, u71, u72, u73, u74, u75, u76, u77, u78, u79, u80, u81, v82, v83, v84, v85, v86, v87, v88, v89, v90, v91, v92, v93, v94, v95, v96, v97, v98, v99, v100, v101, v102, v103, v104, v105, v106, v107, v108, v109, v110, v111, v112, v113, u114, u115, u116, u117, u118, u119, u120, u121, u122, u123, u124, u125, u126, u127, u128, u129, u130, u131, u132, u133, u134, u135, u136, u137, u138, u139, u140, u141, u142, u143, u144, u145, u146, u147, u148, u149, u150, u151, u152, u153, u154, u155, u156, u157, u158, u159, u160, u161, u162, u163, u164, u165, u166, u167, u168, u169, u170, u171, u172, u173, u174, u175, u176, u177, u178, u179, u180, u181, u182, u183, u184, u185, u186, u187, u188, u189, u190, u191, u192, u193, u194, u195, u196, u197, u198, u199, u200, u201, u202, u203, u204, u205, u206, u207, u208, u209, u210, u211, u212, u213, u214, u215, u216, u217, u218, u219, u220, u221, u222, u223, u224, u225, u226, u227, u228, u229, u230, u231, u232, u233, u234, u235, u236, u237, u238, u239, u240, u241, u242, u243, u244, u245, u246, u247, u248, u249, u250, u251, u252, u253, u254, u255, u256, u257, u258, u259, u260, u261, u262, u263, u264, u265, u266, u267, u268, u269, u270, u271, u272, u273, u274, u275, u276, u277, u278, u279, u280, u281, u282, u283, u284, u285, u286, u287, u288, u289, u290], []⟩ (w.drew.setCell ⟨GW, q, none⟩ (.int .u32 (z.toNat : Int)))) :
    Code.wp Tryd.prog (sumR 21) Q ⟨#[u0, u1, u2, u3, u4, .slice (some ⟨GB, 0, none⟩) LB cb, u6, u7, u8, u9, u10, .slice (some ⟨GW, 0, none⟩) 64 64, .int .i64 (q : Int), .int .i64 (k : Int), u14, u15, u16, u17, u18, u19, u20, u21, u22, u23, u24, u25, u26, u27, u28, u29, u30, u31, u32, u33, u34, u35, u36, u37, u38, u39, u40, u41, u42, u43, u44, u45, u46, u47, u48, u49, u50, u51, u52, u53, u54, u55, u56, u57, u58, u59, u60, u61, u62, u63, u64, u65, u66, u67, u68, u69, u70, u71, u72, u73, u74, u75, u76, u77, u78, u79, u80, u81, u82, u83, u84, u85, u86, u87, u88, u89, u90, u91, u92, u93, u94, u95, u96, u97, u98, u99, u100, u101, u102, u103, u104, u105, u106, u107, u108, u109, u110, u111, u112, u113, u114, u115, u116, u117, u118, u119, u120, u121, u122, u123, u124, u125, u126, u127, u128, u129, u130, u131, u132, u133, u134, u135, u136, u137, u138, u139, u140, u141, u142, u143, u144, u145, u146, u147, u148, u149, u150, u151, u152, u153, u154, u155, u156, u157, u158, u159, u160, u161, u162, u163, u164, u165, u166, u167, u168, u169, u170, u171, u172, u173, u174, u175, u176, u177, u178, u179, u180, u181, u182, u183, u184, u185, u186, u187, u188, u189, u190, u191, u192, u193, u194, u195, u196, u197, u198, u199, u200, u201, u202, u203, u204, u205, u206, u207, u208, u209, u210, u211, u212, u213, u214, u215, u216, u217, u218, u219, u220, u221, u222, u223, u224, u225, u226, u227, u228, u229, u230, u231, u232, u233, u234, u235, u236, u237, u238, u239, u240, u241, u242, u243, u244, u245, u246, u247, u248, u249, u250, u251, u252, u253, u254, u255, u256, u257, u258, u259, u260, u261, u262, u263, u264, u265, u266, u267, u268, u269, u270, u271, u272, u273, u274, u275, u276, u277, u278, u279, u280, u281, u282, u283, u284, u285, u286, u287, u288, u289, u290], []⟩ w := by
  have hw := Sha.word_or' x0 x1 x2 x3
  rw [hz] at hw
  rw [← hw] at h
  have H := Lib.hid h
  clear h hw hz
  have hq64 : (q : Int) < 64 := by omega
  have hkL0 : (k : Int) < (LB : Int) := by omega
  have hkL1 : (k : Int) + 1 < (LB : Int) := by omega
  have hkL2 : (k : Int) + 2 < (LB : Int) := by omega
  have hkL3 : (k : Int) + 3 < (LB : Int) := by omega
  have e1 : IntKind.i64.wrap ((k : Int) + 1) = (k : Int) + 1 := IntWalk.i64_in _ (by omega)
  have e2 : IntKind.i64.wrap ((k : Int) + 2) = (k : Int) + 2 := IntWalk.i64_in _ (by omega)
  have e3 : IntKind.i64.wrap ((k : Int) + 3) = (k : Int) + 3 := IntWalk.i64_in _ (by omega)
  have p1 : (0 : Int) ≤ (k : Int) + 1 := by omega
  have p2 : (0 : Int) ≤ (k : Int) + 2 := by omega
  have p3 : (0 : Int) ≤ (k : Int) + 3 := by omega
  have n1 : ((k : Int) + 1).toNat = k + 1 := by omega
  have n2 : ((k : Int) + 2).toNat = k + 2 := by omega
  have n3 : ((k : Int) + 3).toNat = k + 3 := by omega
  conv => arg 2; whnf
  refine region_tail 32 (by kernel_rfl) (by kernel_rfl) ?_
  intro wy hwy
  replace b0 : wy.cell? ⟨GB, k, none⟩ = some (.int .u8 x0.toNat) := by rw [hwy.out]; exact b0
  replace b1 : wy.cell? ⟨GB, k + 1, none⟩ = some (.int .u8 x1.toNat) := by rw [hwy.out]; exact b1
  replace b2 : wy.cell? ⟨GB, k + 2, none⟩ = some (.int .u8 x2.toNat) := by rw [hwy.out]; exact b2
  replace b3 : wy.cell? ⟨GB, k + 3, none⟩ = some (.int .u8 x3.toNat) := by rw [hwy.out]; exact b3
  replace c0 : wy.cell? ⟨GW, q, none⟩ = some (.int .u32 y.toNat) := by rw [hwy.out]; exact c0
  replace f0 : wy.frozen? ⟨GW, q, none⟩ = false := by rw [hwy.out]; exact f0
  rw [← hwy.out] at H
  simp only [List.take_succ_cons, List.take_zero, List.drop_succ_cons, List.drop_zero]
  iterate 32 still_step
  refine wpStill_nil ?_
  clear e1 e2 e3 n1 n2 n3 b0 b1 b2 b3
  go_wp2_with fail
  exact H.out _ _ _ _ _ _ _ _ _ _ _ _ _ _ _ _ _ _ _ _ _ _ _ _ _ _ _ _ _ _ _ _ 

set_option maxHeartbeats 20000000 in
set_option maxRecDepth 1000000 in
theorem sum_r26 {u0 u1 u2 u3 u4 u5 u6 u7 u8 u9 u10 u12 u13 u17 u18 u19 u20 u21 u22 u23 u24 u25 u26 u27 u28 u29 u30 u31 u32 u33 u34 u35 u36 u37 u38 u39 u40 u41 u42 u43 u44 u45 u46 u47 u48 u49 u50 u51 u52 u53 u54 u55 u56 u57 u58 u59 u60 u61 u62 u63 u64 u65 u66 u67 u68 u69 u70 u71 u72 u73 u74 u75 u76 u77 u78 u79 u80 u81 u82 u83 u84 u85 u86 u87 u88 u89 u90 u91 u92 u93 u94 u95 u96 u97 u98 u99 u100 u101 u102 u103 u104 u105 u106 u107 u108 u109 u110 u111 u112 u113 u114 u115 u116 u117 u118 u119 u120 u121 u122 u123 u124 u125 u126 u127 u128 u129 u130 u131 u132 u133 u134 u135 u136 u137 u138 u139 u140 u141 u142 u143 u144 u145 u146 u147 u148 u149 u150 u151 u152 u153 u154 u155 u156 u157 u158 u159 u160 u161 u162 u163 u164 u165 u166 u167 u168 u169 u170 u171 u172 u173 u174 u175 u176 u177 u178 u179 u180 u181 u182 u183 u184 u185 u186 u187 u188 u189 u190 u191 u192 u193 u194 u195 u196 u197 u198 u199 u200 u201 u202 u203 u204 u205 u206 u207 u208 u209 u210 u211 u212 u213 u214 u215 u216 u217 u218 u219 u220 u221 u222 u223 u224 u225 u226 u227 u228 u229 u230 u231 u232 u233 u234 u235 u236 u237 u238 u239 u240 u241 u242 u243 u244 u245 u246 u247 u248 u249 u250 u251 u252 u253 u254 u255 u256 u257 u258 u259 u260 u261 u262 u263 u264 u265 u266 u267 u268 u269 u270 u271 u272 u273 u274 u275 u276 u277 u278 u279 u280 u281 u282 u283 u284 u285 u286 u287 u288 u289 u290 : Value} {GW k : Nat} {ws : List U32} {x16 x15 x7 x2 : U32} {w : World} {Q : Exit → Act → World → Prop} (hk16 : 16 ≤ k) (hkl : k < 64) (hrow : RowV w GW (wcells ws)) (hlen : ws.length = 64)
    (h16 : ws.getD (k - 16) 0 = x16) (h7 : ws.getD (k - 7) 0 = x7) {z : U32} (hz : x16 + Sha.s0 x15 + x7 + Sha.s1 x2 = z)
    (h : ∀ (v128 v129 v130 v131 v132 v133 v134 v135 v136 v137 v138 v139 v140 v141 v142 v143 v144 v145 v146 v147 v148 v149 v150 v151 v152 v153 v154 v155 v156 v157 v158 v159 : Value) (wz : World), (∃ m, wz = w.drewN m) → Q .normal ⟨#[u0, u1, u2, u3, u4, u5, u6, u7, u8, u9, u10, .slice (some ⟨GW, 0, none⟩) 64 64, u12, u13, .int .i64 (k : Int), .int .u32 (x15.toNat : Int), .int .u32 (x2.toNat : Int), u17, u18, u19, u20, u21, u22, u23, u24, u25, u26, u27, u28, u29, u30, u31, u32, u33, u34, u35, u36, u37, u38, u39, u40, u41, u42, u43, u44, u45, u46, u47, u48, u49, u50, u51, u52, u53, u54, u55, u56, u57, u58, u59, u60, u61, u62, u63, u64, u65, u66, u67, u68, u69, u70, u71, u72, u73, u74, u75, u76, u77, u78, u79, u80, u81, u82, u83, u84, u85, u86, u87, u88, u89, u90, u91, u92, u93, u94, u95, u96, u97, u98, u99, u100, u101, u102, u103, u104, u105, u106, u107, u108, u109, u110, u111, u112, u113, u114, u115, u116, u117, u118, u119, u120, u121, u122, u123, u124, u125, u126, u127, v128, v129, v130, v131, v132, v133, v134, v135, v136, v137, v138, v139, v140, v141, v142, v143, v144, v145, v146, v147, v148, v149, v150, v151, v152, v153, v154, v155, v156, v157, v158, v159, u160, u161, u162, u163, u164, u165, u166, u167, u168, u169, u170, u171, u172, u173, u174, u175, u176, u177, u178, u179, u180, u181, u182, u183, u184, u185, u186, u187, u188, u189, u190, u191, u192, u193, u194, u195, u196, u197, u198, u199, u200, u201, u202, u203, u204, u205, u206, u207, u208, u209, u210, u211, u212, u213, u214, u215, u216, u217, u218, u219, u220, u221, u222, u223, u224, u225, u226, u227, u228, u229, u230, u231, u232, u233, u234, u235, u236, u237, u238, u239, u240, u241, u242, u243, u244, u245, u246, u247, u248, u249, u250, u251, u252, u253, u254, u255, u256, u257, u258, u259, u260, u261, u262, u263, u264, u265, u266, u267, u268, u269, u270, u271, u272, u273, u274, u275, u276, u277, u278, u279, u280, u281, u282, u283, u284, u285, u286, u287, u288, u289, u290], []⟩ (wz.setCell ⟨GW, k, none⟩ (.int .u32 (z.toNat : Int)))) :
    Code.wp Tryd.prog (sumR 26) Q ⟨#[u0, u1, u2, u3, u4, u5, u6, u7, u8, u9, u10, .slice (some ⟨GW, 0, none⟩) 64 64, u12, u13, .int .i64 (k : Int), .int .u32 (x15.toNat : Int), .int .u32 (x2.toNat : Int), u17, u18, u19, u20, u21, u22, u23, u24, u25, u26, u27, u28, u29, u30, u31, u32, u33, u34, u35, u36, u37, u38, u39, u40, u41, u42, u43, u44, u45, u46, u47, u48, u49, u50, u51, u52, u53, u54, u55, u56, u57, u58, u59, u60, u61, u62, u63, u64, u65, u66, u67, u68, u69, u70, u71, u72, u73, u74, u75, u76, u77, u78, u79, u80, u81, u82, u83, u84, u85, u86, u87, u88, u89, u90, u91, u92, u93, u94, u95, u96, u97, u98, u99, u100, u101, u102, u103, u104, u105, u106, u107, u108, u109, u110, u111, u112, u113, u114, u115, u116, u117, u118, u119, u120, u121, u122, u123, u124, u125, u126, u127, u128, u129, u130, u131, u132, u133, u134, u135, u136, u137, u138, u139, u140, u141, u142, u143, u144, u145, u146, u147, u148, u149, u150, u151, u152, u153, u154, u155, u156, u157, u158, u159, u160, u161, u162, u163, u164, u165, u166, u167, u168, u169, u170, u171, u172, u173, u174, u175, u176, u177, u178, u179, u180, u181, u182, u183, u184, u185, u186, u187, u188, u189, u190, u191, u192, u193, u194, u195, u196, u197, u198, u199, u200, u201, u202, u203, u204, u205, u206, u207, u208, u209, u210, u211, u212, u213, u214, u215, u216, u217, u218, u219, u220, u221, u222, u223, u224, u225, u226, u227, u228, u229, u230, u231, u232, u233, u234, u235, u236, u237, u238, u239, u240, u241, u242, u243, u244, u245, u246, u247, u248, u249, u250, u251, u252, u253, u254, u255, u256, u257, u258, u259, u260, u261, u262, u263, u264, u265, u266, u267, u268, u269, u270, u271, u272, u273, u274, u275, u276, u277, u278, u279, u280, u281, u282, u283, u284, u285, u286, u287, u288, u289, u290], []⟩ w := by
  have E : ((x16.toNat : Int) + bits .xor .u32 (bits .xor .u32 (Sha.ror x15 7).toNat (Sha.ror x15 18).toNat) ((x15.toNat : Int) / 8) + (x7.toNat : Int) +
      bits .xor .u32 (bits .xor .u32 (Sha.ror x2 17).toNat (Sha.ror x2 19).toNat) ((x2.toNat : Int) / 1024)) % 4294967296 = ((x16 + Sha.s0 x15 + x7 + Sha.s1 x2).toNat : Int) := by
    simp only [x_xor, x_shr3, x_shr10, x_add4, Sha.s0, Sha.s1]
  rw [hz] at E
  rw [← E] at h
  have H := Lib.hid h
  clear h E hz
  have c16 := (hrow.w32 (j := k - 16) (by rw [hlen]; omega)).1
  have c7 := (hrow.w32 (j := k - 7) (by rw [hlen]; omega)).1
  rw [h16] at c16
  rw [h7] at c7
  have HROW := Lib.hid hrow
  have HLEN := Lib.hid hlen
  have hkl' : (k : Int) < 64 := by omega
  have e16 : IntKind.i64.wrap ((k : Int) - 16) = (k : Int) - 16 := IntWalk.i64_in _ (by omega)
  have e7 : IntKind.i64.wrap ((k : Int) - 7) = (k : Int) - 7 := IntWalk.i64_in _ (by omega)
  have p16 : 16 ≤ (k : Int) := by omega
  have p7 : 7 ≤ (k : Int) := by omega
  have q16 : (k : Int) - 16 < 64 := by omega
  have q7 : (k : Int) - 7 < 64 := by omega
  have n16 : ((k : Int) - 16).toNat = k - 16 := by omega
  have n7 : ((k : Int) - 7).toNat = k - 7 := by omega
  clear hrow hlen h16 h7
  conv => arg 2; whnf
  refine wp_region_quiet_tail 32 (by kernel_rfl) (by kernel_rfl) ?_
  simp only [List.take_succ_cons, List.take_zero, List.drop_succ_cons, List.drop_zero]
  iterate 32 (first | go_big_quiet_step ((go_at_call 46; exact ror_quiet (by decide) (by decide))) | quiet_step ((go_at_call 46; exact ror_quiet (by decide) (by decide))))
  refine wpQuiet_nil ?_
  intro wz hwz
  have hrz : RowV wz GW (wcells ws) := by obtain ⟨m, hm⟩ := hwz; rw [hm]; exact HROW.out.below (below_drewN (Below.refl _ _) _)
  obtain ⟨c0, f0⟩ := hrz.w32 (j := k) (by rw [HLEN.out]; omega)
  have HWZ := Lib.hid hwz
  clear hrz hwz e16 e7 p16 p7 q16 q7 n16 n7 c16 c7
  go_wp2_with fail
  exact H.out _ _ _ _ _ _ _ _ _ _ _ _ _ _ _ _ _ _ _ _ _ _ _ _ _ _ _ _ _ _ _ _  _ HWZ.out

set_option maxHeartbeats 20000000 in
set_option maxRecDepth 1000000 in
theorem sum_r32 {u0 u2 u3 u4 u5 u6 u7 u8 u9 u10 u12 u13 u14 u15 u16 u20 u21 u22 u23 u24 u25 u26 u27 u28 u29 u30 u31 u32 u33 u34 u35 u36 u37 u38 u39 u40 u41 u42 u43 u44 u45 u46 u47 u48 u49 u50 u51 u52 u53 u54 u55 u56 u57 u58 u59 u60 u61 u62 u63 u64 u65 u66 u67 u68 u69 u70 u71 u72 u73 u74 u75 u76 u77 u78 u79 u80 u81 u82 u83 u84 u85 u86 u87 u88 u89 u90 u91 u92 u93 u94 u95 u96 u97 u98 u99 u100 u101 u102 u103 u104 u105 u106 u107 u108 u109 u110 u111 u112 u113 u114 u115 u116 u117 u118 u119 u120 u121 u122 u123 u124 u125 u126 u127 u128 u129 u130 u131 u132 u133 u134 u135 u136 u137 u138 u139 u140 u141 u142 u143 u144 u145 u146 u147 u148 u149 u150 u151 u152 u153 u154 u155 u156 u157 u158 u159 u160 u161 u162 u163 u164 u165 u166 u167 u168 u169 u170 u171 u172 u173 u174 u175 u176 u177 u178 u179 u180 u181 u182 u183 u184 u185 u186 u187 u188 u189 u190 u191 u192 u193 u194 u195 u196 u197 u198 u199 u200 u201 u202 u203 u204 u205 u206 u207 u208 u209 u210 u211 u212 u213 u214 u215 u216 u217 u218 u219 u220 u221 u222 u223 u224 u225 u226 u227 u228 u229 u230 u231 u232 u233 u234 u235 u236 u237 u238 u239 u240 u241 u242 u243 u244 u245 u246 u247 u248 u249 u250 u251 u252 u253 u254 u255 u256 u257 u258 u259 u260 u261 u262 u263 u264 u265 u266 u267 u268 u269 u270 u271 u272 u273 u274 u275 u276 u277 u278 u279 u280 u281 u282 u283 u284 u285 u286 u287 u288 u289 u290 : Value} {gk ck GW gv cv k : Nat} {sch : List U32} {va vb vc vd ve vf vg vh kk ww : U32} {w : World} {Q : Exit → Act → World → Prop} (hkl : k < 64) (_hck : 64 ≤ ck) (_hcv : 8 ≤ cv) (rk : RowV w gk (wcells Sha.K)) (rw' : RowV w GW (wcells sch)) (hsl : sch.length = 64)
    (rv : RowV w gv (wcells (Sha.St.list ⟨va, vb, vc, vd, ve, vf, vg, vh⟩))) (hkk : Sha.K.getD k 0 = kk) (hww : sch.getD k 0 = ww)
    (h : ∀ (v173 v174 v175 v176 v177 v178 v179 v180 v181 v182 v183 v184 v185 v186 v187 v188 v189 v190 v191 v192 v193 v194 v195 v196 v197 v198 v199 v200 v201 v202 v203 v204 v205 v206 v207 : Value) (wz : World), (∃ m, wz = w.drewN m) → Q .normal ⟨#[u0, .slice (some ⟨gk, 0, none⟩) 64 ck, u2, u3, u4, u5, u6, u7, u8, u9, u10, .slice (some ⟨GW, 0, none⟩) 64 64, u12, u13, u14, u15, u16, .slice (some ⟨gv, 0, none⟩) 8 cv, .int .i64 (k : Int), .int .u32 (ve.toNat : Int), u20, .int .u32 ((Sha.tOf ⟨va, vb, vc, vd, ve, vf, vg, vh⟩ kk ww).toNat : Int), u22, u23, u24, u25, u26, u27, u28, u29, u30, u31, u32, u33, u34, u35, u36, u37, u38, u39, u40, u41, u42, u43, u44, u45, u46, u47, u48, u49, u50, u51, u52, u53, u54, u55, u56, u57, u58, u59, u60, u61, u62, u63, u64, u65, u66, u67, u68, u69, u70, u71, u72, u73, u74, u75, u76, u77, u78, u79, u80, u81, u82, u83, u84, u85, u86, u87, u88, u89, u90, u91, u92, u93, u94, u95, u96, u97, u98, u99, u100, u101, u102, u103, u104, u105, u106, u107, u108, u109, u110, u111, u112, u113, u114, u115, u116, u117, u118, u119, u120, u121, u122, u123, u124, u125, u126, u127, u128, u129, u130, u131, u132, u133, u134, u135, u136, u137, u138, u139, u140, u141, u142, u143, u144, u145, u146, u147, u148, u149, u150, u151, u152, u153, u154, u155, u156, u157, u158, u159, u160, u161, u162, u163, u164, u165, u166, u167, u168, u169, u170, u171, u172, v173, v174, v175, v176, v177, v178, v179, v180, v181, v182, v183, v184, v185, v186, v187, v188, v189, v190, v191, v192, v193, v194, v195, v196, v197, v198, v199, v200, v201, v202, v203, v204, v205, v206, v207, u208, u209, u210, u211, u212, u213, u214, u215, u216, u217, u218, u219, u220, u221, u222, u223, u224, u225, u226, u227, u228, u229, u230, u231, u232, u233, u234, u235, u236, u237, u238, u239, u240, u241, u242, u243, u244, u245, u246, u247, u248, u249, u250, u251, u252, u253, u254, u255, u256, u257, u258, u259, u260, u261, u262, u263, u264, u265, u266, u267, u268, u269, u270, u271, u272, u273, u274, u275, u276, u277, u278, u279, u280, u281, u282, u283, u284, u285, u286, u287, u288, u289, u290], []⟩ wz) :
    Code.wp Tryd.prog (sumR 32) Q ⟨#[u0, .slice (some ⟨gk, 0, none⟩) 64 ck, u2, u3, u4, u5, u6, u7, u8, u9, u10, .slice (some ⟨GW, 0, none⟩) 64 64, u12, u13, u14, u15, u16, .slice (some ⟨gv, 0, none⟩) 8 cv, .int .i64 (k : Int), .int .u32 (ve.toNat : Int), u20, u21, u22, u23, u24, u25, u26, u27, u28, u29, u30, u31, u32, u33, u34, u35, u36, u37, u38, u39, u40, u41, u42, u43, u44, u45, u46, u47, u48, u49, u50, u51, u52, u53, u54, u55, u56, u57, u58, u59, u60, u61, u62, u63, u64, u65, u66, u67, u68, u69, u70, u71, u72, u73, u74, u75, u76, u77, u78, u79, u80, u81, u82, u83, u84, u85, u86, u87, u88, u89, u90, u91, u92, u93, u94, u95, u96, u97, u98, u99, u100, u101, u102, u103, u104, u105, u106, u107, u108, u109, u110, u111, u112, u113, u114, u115, u116, u117, u118, u119, u120, u121, u122, u123, u124, u125, u126, u127, u128, u129, u130, u131, u132, u133, u134, u135, u136, u137, u138, u139, u140, u141, u142, u143, u144, u145, u146, u147, u148, u149, u150, u151, u152, u153, u154, u155, u156, u157, u158, u159, u160, u161, u162, u163, u164, u165, u166, u167, u168, u169, u170, u171, u172, u173, u174, u175, u176, u177, u178, u179, u180, u181, u182, u183, u184, u185, u186, u187, u188, u189, u190, u191, u192, u193, u194, u195, u196, u197, u198, u199, u200, u201, u202, u203, u204, u205, u206, u207, u208, u209, u210, u211, u212, u213, u214, u215, u216, u217, u218, u219, u220, u221, u222, u223, u224, u225, u226, u227, u228, u229, u230, u231, u232, u233, u234, u235, u236, u237, u238, u239, u240, u241, u242, u243, u244, u245, u246, u247, u248, u249, u250, u251, u252, u253, u254, u255, u256, u257, u258, u259, u260, u261, u262, u263, u264, u265, u266, u267, u268, u269, u270, u271, u272, u273, u274, u275, u276, u277, u278, u279, u280, u281, u282, u283, u284, u285, u286, u287, u288, u289, u290], []⟩ w := by
  have E := Lib.hid (t_eq2 va vb vc vd ve vf vg vh kk ww)
  have H := Lib.hid h
  clear h
  have hck0 := (rk.w32 (j := k) hkl).1
  have hcw0 := (rw'.w32 (j := k) (by rw [hsl]; exact hkl)).1
  rw [hkk] at hck0
  rw [hww] at hcw0
  obtain ⟨c0, c1, c2, c3, c4, c5, c6, c7⟩ := rv.st
  simp only [] at c0 c1 c2 c3 c4 c5 c6 c7
  have hkl' : (k : Int) < 64 := by omega
  clear rk rw' rv hkk hww hsl
  conv => arg 2; whnf
  refine wp_region_quiet_lit (by kernel_rfl) (by kernel_rfl) ?_
  iterate 36 (first | go_big_quiet_step ((go_at_call 46; exact ror_quiet (by decide) (by decide))) | quiet_step ((go_at_call 46; exact ror_quiet (by decide) (by decide))))
  refine wpQuiet_nil ?_
  intro wz hwz
  rw [E.out]
  exact H.out _ _ _ _ _ _ _ _ _ _ _ _ _ _ _ _ _ _ _ _ _ _ _ _ _ _ _ _ _ _ _ _ _ _ _  wz hwz

set_option maxHeartbeats 20000000 in
set_option maxRecDepth 1000000 in
theorem sum_r33 {u0 u1 u2 u3 u4 u5 u6 u7 u8 u9 u10 u11 u12 u13 u14 u15 u16 u18 u19 u21 u22 u23 u24 u25 u26 u27 u28 u29 u30 u31 u32 u33 u34 u35 u36 u37 u38 u39 u40 u41 u42 u43 u44 u45 u46 u47 u48 u49 u50 u51 u52 u53 u54 u55 u56 u57 u58 u59 u60 u61 u62 u63 u64 u65 u66 u67 u68 u69 u70 u71 u72 u73 u74 u75 u76 u77 u78 u79 u80 u81 u82 u83 u84 u85 u86 u87 u88 u89 u90 u91 u92 u93 u94 u95 u96 u97 u98 u99 u100 u101 u102 u103 u104 u105 u106 u107 u108 u109 u110 u111 u112 u113 u114 u115 u116 u117 u118 u119 u120 u121 u122 u123 u124 u125 u126 u127 u128 u129 u130 u131 u132 u133 u134 u135 u136 u137 u138 u139 u140 u141 u142 u143 u144 u145 u146 u147 u148 u149 u150 u151 u152 u153 u154 u155 u156 u157 u158 u159 u160 u161 u162 u163 u164 u165 u166 u167 u168 u169 u170 u171 u172 u173 u174 u175 u176 u177 u178 u179 u180 u181 u182 u183 u184 u185 u186 u187 u188 u189 u190 u191 u192 u193 u194 u195 u196 u197 u198 u199 u200 u201 u202 u203 u204 u205 u206 u207 u208 u209 u210 u211 u212 u213 u214 u215 u216 u217 u218 u219 u220 u221 u222 u223 u224 u225 u226 u227 u228 u229 u230 u231 u232 u233 u234 u235 u236 u237 u238 u239 u240 u241 u242 u243 u244 u245 u246 u247 u248 u249 u250 u251 u252 u253 u254 u255 u256 u257 u258 u259 u260 u261 u262 u263 u264 u265 u266 u267 u268 u269 u270 u271 u272 u273 u274 u275 u276 u277 u278 u279 u280 u281 u282 u283 u284 u285 u286 u287 u288 u289 u290 : Value} {gv cv : Nat} {va vb vc vd ve vf vg vh : U32} {w : World} {Q : Exit → Act → World → Prop} (_hcv : 8 ≤ cv)
    (rv : RowV w gv (wcells (Sha.St.list ⟨va, vb, vc, vd, ve, vf, vg, vh⟩)))
    (h : ∀ (v208 v209 v210 v211 v212 v213 v214 v215 v216 v217 v218 v219 v220 v221 v222 v223 v224 v225 v226 v227 v228 v229 v230 v231 v232 v233 v234 v235 : Value) (wz : World), (∃ m, wz = w.drewN m) → Q .normal ⟨#[u0, u1, u2, u3, u4, u5, u6, u7, u8, u9, u10, u11, u12, u13, u14, u15, u16, .slice (some ⟨gv, 0, none⟩) 8 cv, u18, u19, .int .u32 (va.toNat : Int), u21, .int .u32 ((Sha.uOf ⟨va, vb, vc, vd, ve, vf, vg, vh⟩).toNat : Int), u23, u24, u25, u26, u27, u28, u29, u30, u31, u32, u33, u34, u35, u36, u37, u38, u39, u40, u41, u42, u43, u44, u45, u46, u47, u48, u49, u50, u51, u52, u53, u54, u55, u56, u57, u58, u59, u60, u61, u62, u63, u64, u65, u66, u67, u68, u69, u70, u71, u72, u73, u74, u75, u76, u77, u78, u79, u80, u81, u82, u83, u84, u85, u86, u87, u88, u89, u90, u91, u92, u93, u94, u95, u96, u97, u98, u99, u100, u101, u102, u103, u104, u105, u106, u107, u108, u109, u110, u111, u112, u113, u114, u115, u116, u117, u118, u119, u120, u121, u122, u123, u124, u125, u126, u127, u128, u129, u130, u131, u132, u133, u134, u135, u136, u137, u138, u139, u140, u141, u142, u143, u144, u145, u146, u147, u148, u149, u150, u151, u152, u153, u154, u155, u156, u157, u158, u159, u160, u161, u162, u163, u164, u165, u166, u167, u168, u169, u170, u171, u172, u173, u174, u175, u176, u177, u178, u179, u180, u181, u182, u183, u184, u185, u186, u187, u188, u189, u190, u191, u192, u193, u194, u195, u196, u197, u198, u199, u200, u201, u202, u203, u204, u205, u206, u207, v208, v209, v210, v211, v212, v213, v214, v215, v216, v217, v218, v219, v220, v221, v222, v223, v224, v225, v226, v227, v228, v229, v230, v231, v232, v233, v234, v235, u236, u237, u238, u239, u240, u241, u242, u243, u244, u245, u246, u247, u248, u249, u250, u251, u252, u253, u254, u255, u256, u257, u258, u259, u260, u261, u262, u263, u264, u265, u266, u267, u268, u269, u270, u271, u272, u273, u274, u275, u276, u277, u278, u279, u280, u281, u282, u283, u284, u285, u286, u287, u288, u289, u290], []⟩ wz) :
    Code.wp Tryd.prog (sumR 33) Q ⟨#[u0, u1, u2, u3, u4, u5, u6, u7, u8, u9, u10, u11, u12, u13, u14, u15, u16, .slice (some ⟨gv, 0, none⟩) 8 cv, u18, u19, .int .u32 (va.toNat : Int), u21, u22, u23, u24, u25, u26, u27, u28, u29, u30, u31, u32, u33, u34, u35, u36, u37, u38, u39, u40, u41, u42, u43, u44, u45, u46, u47, u48, u49, u50, u51, u52, u53, u54, u55, u56, u57, u58, u59, u60, u61, u62, u63, u64, u65, u66, u67, u68, u69, u70, u71, u72, u73, u74, u75, u76, u77, u78, u79, u80, u81, u82, u83, u84, u85, u86, u87, u88, u89, u90, u91, u92, u93, u94, u95, u96, u97, u98, u99, u100, u101, u102, u103, u104, u105, u106, u107, u108, u109, u110, u111, u112, u113, u114, u115, u116, u117, u118, u119, u120, u121, u122, u123, u124, u125, u126, u127, u128, u129, u130, u131, u132, u133, u134, u135, u136, u137, u138, u139, u140, u141, u142, u143, u144, u145, u146, u147, u148, u149, u150, u151, u152, u153, u154, u155, u156, u157, u158, u159, u160, u161, u162, u163, u164, u165, u166, u167, u168, u169, u170, u171, u172, u173, u174, u175, u176, u177, u178, u179, u180, u181, u182, u183, u184, u185, u186, u187, u188, u189, u190, u191, u192, u193, u194, u195, u196, u197, u198, u199, u200, u201, u202, u203, u204, u205, u206, u207, u208, u209, u210, u211, u212, u213, u214, u215, u216, u217, u218, u219, u220, u221, u222, u223, u224, u225, u226, u227, u228, u229, u230, u231, u232, u233, u234, u235, u236, u237, u238, u239, u240, u241, u242, u243, u244, u245, u246, u247, u248, u249, u250, u251, u252, u253, u254, u255, u256, u257, u258, u259, u260, u261, u262, u263, u264, u265, u266, u267, u268, u269, u270, u271, u272, u273, u274, u275, u276, u277, u278, u279, u280, u281, u282, u283, u284, u285, u286, u287, u288, u289, u290], []⟩ w := by
  have E := u_eq va vb vc vd ve vf vg vh
  rw [← E] at h
  have H := Lib.hid h
  clear h E
  obtain ⟨c0, c1, c2, c3, c4, c5, c6, c7⟩ := rv.st
  simp only [] at c0 c1 c2 c3 c4 c5 c6 c7
  clear rv
  conv => arg 2; whnf
  refine wp_region_quiet_lit (by kernel_rfl) (by kernel_rfl) ?_
  iterate 29 (first | go_big_quiet_step ((go_at_call 46; exact ror_quiet (by decide) (by decide))) | quiet_step ((go_at_call 46; exact ror_quiet (by decide) (by decide))))
  refine wpQuiet_nil ?_
  intro wz hwz
  exact H.out _ _ _ _ _ _ _ _ _ _ _ _ _ _ _ _ _ _ _ _ _ _ _ _ _ _ _ _  wz hwz

set_option maxHeartbeats 20000000 in
set_option maxRecDepth 1000000 in
theorem sum_r34 {u0 u1 u2 u3 u4 u5 u6 u7 u8 u9 u10 u11 u12 u13 u14 u15 u16 u18 u19 u20 u23 u24 u25 u26 u27 u28 u29 u30 u31 u32 u33 u34 u35 u36 u37 u38 u39 u40 u41 u42 u43 u44 u45 u46 u47 u48 u49 u50 u51 u52 u53 u54 u55 u56 u57 u58 u59 u60 u61 u62 u63 u64 u65 u66 u67 u68 u69 u70 u71 u72 u73 u74 u75 u76 u77 u78 u79 u80 u81 u82 u83 u84 u85 u86 u87 u88 u89 u90 u91 u92 u93 u94 u95 u96 u97 u98 u99 u100 u101 u102 u103 u104 u105 u106 u107 u108 u109 u110 u111 u112 u113 u114 u115 u116 u117 u118 u119 u120 u121 u122 u123 u124 u125 u126 u127 u128 u129 u130 u131 u132 u133 u134 u135 u136 u137 u138 u139 u140 u141 u142 u143 u144 u145 u146 u147 u148 u149 u150 u151 u152 u153 u154 u155 u156 u157 u158 u159 u160 u161 u162 u163 u164 u165 u166 u167 u168 u169 u170 u171 u172 u173 u174 u175 u176 u177 u178 u179 u180 u181 u182 u183 u184 u185 u186 u187 u188 u189 u190 u191 u192 u193 u194 u195 u196 u197 u198 u199 u200 u201 u202 u203 u204 u205 u206 u207 u208 u209 u210 u211 u212 u213 u214 u215 u216 u217 u218 u219 u220 u221 u222 u223 u224 u225 u226 u227 u228 u229 u230 u231 u232 u233 u234 u235 u236 u237 u238 u239 u240 u241 u242 u243 u244 u245 u246 u247 u248 u249 u250 u251 u252 u253 u254 u255 u256 u257 u258 u259 u260 u261 u262 u263 u264 u265 u266 u267 u268 u269 u270 u271 u272 u273 u274 u275 u276 u277 u278 u279 u280 u281 u282 u283 u284 u285 u286 u287 u288 u289 u290 : Value} {gv cv : Nat} {va vb vc vd ve vf vg vh tt uu : U32} {w : World} {Q : Exit → Act → World → Prop} (_hcv : 8 ≤ cv)
    (rv : RowV w gv (wcells (Sha.St.list ⟨va, vb, vc, vd, ve, vf, vg, vh⟩)))
    (h : ∀ (v236 v237 v238 v239 v240 v241 v242 v243 v244 v245 v246 v247 v248 v249 v250 v251 v252 v253 v254 v255 v256 v257 v258 v259 v260 v261 v262 : Value) (wz : World), (∃ m, wz = w.drewN m) → Q .normal ⟨#[u0, u1, u2, u3, u4, u5, u6, u7, u8, u9, u10, u11, u12, u13, u14, u15, u16, .slice (some ⟨wz.heap.size, 0, none⟩) 8 8, u18, u19, u20, .int .u32 (tt.toNat : Int), .int .u32 (uu.toNat : Int), u23, u24, u25, u26, u27, u28, u29, u30, u31, u32, u33, u34, u35, u36, u37, u38, u39, u40, u41, u42, u43, u44, u45, u46, u47, u48, u49, u50, u51, u52, u53, u54, u55, u56, u57, u58, u59, u60, u61, u62, u63, u64, u65, u66, u67, u68, u69, u70, u71, u72, u73, u74, u75, u76, u77, u78, u79, u80, u81, u82, u83, u84, u85, u86, u87, u88, u89, u90, u91, u92, u93, u94, u95, u96, u97, u98, u99, u100, u101, u102, u103, u104, u105, u106, u107, u108, u109, u110, u111, u112, u113, u114, u115, u116, u117, u118, u119, u120, u121, u122, u123, u124, u125, u126, u127, u128, u129, u130, u131, u132, u133, u134, u135, u136, u137, u138, u139, u140, u141, u142, u143, u144, u145, u146, u147, u148, u149, u150, u151, u152, u153, u154, u155, u156, u157, u158, u159, u160, u161, u162, u163, u164, u165, u166, u167, u168, u169, u170, u171, u172, u173, u174, u175, u176, u177, u178, u179, u180, u181, u182, u183, u184, u185, u186, u187, u188, u189, u190, u191, u192, u193, u194, u195, u196, u197, u198, u199, u200, u201, u202, u203, u204, u205, u206, u207, u208, u209, u210, u211, u212, u213, u214, u215, u216, u217, u218, u219, u220, u221, u222, u223, u224, u225, u226, u227, u228, u229, u230, u231, u232, u233, u234, u235, v236, v237, v238, v239, v240, v241, v242, v243, v244, v245, v246, v247, v248, v249, v250, v251, v252, v253, v254, v255, v256, v257, v258, v259, v260, v261, v262, u263, u264, u265, u266, u267, u268, u269, u270, u271, u272, u273, u274, u275, u276, u277, u278, u279, u280, u281, u282, u283, u284, u285, u286, u287, u288, u289, u290], []⟩ (wz.alloc (.cells #[.int .u32 ((tt + uu).toNat : Int), .int .u32 (va.toNat : Int), .int .u32 (vb.toNat : Int), .int .u32 (vc.toNat : Int), .int .u32 ((vd + tt).toNat : Int), .int .u32 (ve.toNat : Int), .int .u32 (vf.toNat : Int), .int .u32 (vg.toNat : Int)] 48))) :
    Code.wp Tryd.prog (sumR 34) Q ⟨#[u0, u1, u2, u3, u4, u5, u6, u7, u8, u9, u10, u11, u12, u13, u14, u15, u16, .slice (some ⟨gv, 0, none⟩) 8 cv, u18, u19, u20, .int .u32 (tt.toNat : Int), .int .u32 (uu.toNat : Int), u23, u24, u25, u26, u27, u28, u29, u30, u31, u32, u33, u34, u35, u36, u37, u38, u39, u40, u41, u42, u43, u44, u45, u46, u47, u48, u49, u50, u51, u52, u53, u54, u55, u56, u57, u58, u59, u60, u61, u62, u63, u64, u65, u66, u67, u68, u69, u70, u71, u72, u73, u74, u75, u76, u77, u78, u79, u80, u81, u82, u83, u84, u85, u86, u87, u88, u89, u90, u91, u92, u93, u94, u95, u96, u97, u98, u99, u100, u101, u102, u103, u104, u105, u106, u107, u108, u109, u110, u111, u112, u113, u114, u115, u116, u117, u118, u119, u120, u121, u122, u123, u124, u125, u126, u127, u128, u129, u130, u131, u132, u133, u134, u135, u136, u137, u138, u139, u140, u141, u142, u143, u144, u145, u146, u147, u148, u149, u150, u151, u152, u153, u154, u155, u156, u157, u158, u159, u160, u161, u162, u163, u164, u165, u166, u167, u168, u169, u170, u171, u172, u173, u174, u175, u176, u177, u178, u179, u180, u181, u182, u183, u184, u185, u186, u187, u188, u189, u190, u191, u192, u193, u194, u195, u196, u197, u198, u199, u200, u201, u202, u203, u204, u205, u206, u207, u208, u209, u210, u211, u212, u213, u214, u215, u216, u217, u218, u219, u220, u221, u222, u223, u224, u225, u226, u227, u228, u229, u230, u231, u232, u233, u234, u235, u236, u237, u238, u239, u240, u241, u242, u243, u244, u245, u246, u247, u248, u249, u250, u251, u252, u253, u254, u255, u256, u257, u258, u259, u260, u261, u262, u263, u264, u265, u266, u267, u268, u269, u270, u271, u272, u273, u274, u275, u276, u277, u278, u279, u280, u281, u282, u283, u284, u285, u286, u287, u288, u289, u290], []⟩ w := by
  rw [← x_add tt uu, ← x_add vd tt] at h
  have H := Lib.hid h
  clear h
  obtain ⟨c0, c1, c2, c3, c4, c5, c6, c7⟩ := rv.st
  simp only [] at c0 c1 c2 c3 c4 c5 c6 c7
  have hx1 := x_lt tt
  have hx2 := x_lt uu
  clear rv
  conv => arg 2; whnf
  refine wp_region_quiet_tail 26 (by kernel_rfl) (by kernel_rfl) ?_
  simp only [List.take_succ_cons, List.take_zero, List.drop_succ_cons, List.drop_zero]
  iterate 26 (first | go_big_quiet_step (fail) | quiet_step (fail))
  refine wpQuiet_nil ?_
  intro wz hwz
  have HWZ := Lib.hid hwz
  clear hwz c0 c1 c2 c3 c4 c5 c6 c7
  go_wp2_with fail
  exact H.out _ _ _ _ _ _ _ _ _ _ _ _ _ _ _ _ _ _ _ _ _ _ _ _ _ _ _  _ HWZ.out

end Go.Proofs.YtommbdlkmkphpaaDoor
