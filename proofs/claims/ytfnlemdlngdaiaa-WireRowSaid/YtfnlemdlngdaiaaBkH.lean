/-
  WireRow: the round's end: Copy, Swap.
-/
import Derived.Test.YtfnlemdlngdaiaaBkE
namespace Go.Proofs.Ytfnlemdlngdaiaa
open Go.RowKit

set_option maxRecDepth 1000000 in
set_option maxHeartbeats 4000000 in
theorem tail_copy1 (w0 w5 : World) (p : Nat) (W' : Wr) (es : List BkE) (kA : Option Addr) (ln kc : Nat) (gA : Option Addr) (gd : Nat) (s' : WA) (H H2 : Nat) (kd n m kk tn te : Int) (vA : Option Addr) (vc : Nat) (l : List UInt8) (A1 : Option Addr) (x1 : Nat) (tb : List UInt8) (tb0 : Bool) (Q : Exit → Act → World → Prop) (c0 c1 c3 c4 c5 c8 c12 c14 c15 c16 c17 c18 c19 c20 c21 c22 c23 c24 c25 c26 c27 c28 c29 c30 c31 c32 c33 c34 c35 c36 c37 c38 c39 c40 c41 c42 c43 c44 c45 c46 c47 c48 c49 c50 c51 c52 c53 c54 c55 c56 c57 c58 c59 c60 c61 c62 c63 c64 c65 c66 c67 c68 c69 c70 c259 c260 c261 c262 c263 u2 u13 u71 u72 u73 u74 u75 u76 u77 u78 u79 u80 u81 u82 u83 u84 u85 u86 u87 u88 u89 u90 u91 u92 u93 u94 u95 u96 u97 u98 u99 u100 u101 u102 u103 u104 u105 u106 u107 u108 u109 u110 u111 u112 u113 u114 u115 u116 u117 u118 u119 u120 u121 u122 u123 u124 u125 u126 u127 u128 u129 u130 u131 u132 u133 u134 u135 u136 u137 u138 u139 u140 u141 u142 u143 u144 u145 u146 u147 u148 u149 u150 u151 u152 u153 u154 u155 u156 u157 u158 u159 u160 u161 u162 u163 u164 u165 u166 u167 u168 u169 u170 u171 u172 u173 u174 u175 u176 u177 u178 u179 u180 u181 u182 u183 u184 u185 u186 u187 u188 u189 u190 u191 u192 u193 u194 u195 u196 u197 u198 u199 u200 u201 u202 u203 u204 u205 u206 u207 u208 u209 u210 u211 u212 u213 u214 u215 u216 u217 u218 u219 u220 u221 u222 u223 u224 u225 u226 u227 u228 u229 u230 u231 u232 u233 u234 u235 u236 u237 u238 u239 u240 u241 u242 u243 u244 u245 u246 u247 u248 u249 u250 u251 u252 u253 u254 u255 u256 u257 u258 : Value)
    (h : RowAt w0 w5 p W' es kA ln kc gA gd s' H H2 kd n m kk tn te vA vc l A1 x1 tb) (j : Nat) (e : BkE) (hnj : n = (j : Int) + 1) (he : es[j]? = some e) (heg : e.g = false) (hb0 : tb0 = true) (hkd : kd = 5) (ht : te = 234) (hl2 : 4096 ≤ ln) (hB : BSim (bAbs es) s') (hO : s'.Ok)
    (hP : ∀ (c : _) (d : Option Tmp) (v : Value) (a : Act) (w' : World), Q (.panic c) (a.put d v) w' → Q (.panic c) a w')
    (hQ : ∀ (kv gv : Value) (v2 v13 v71 v72 v73 v74 v75 v76 v77 v78 v79 v80 v81 v82 v83 v84 v85 v86 v87 v88 v89 v90 v91 v92 v93 v94 v95 v96 v97 v98 v99 v100 v101 v102 v103 v104 v105 v106 v107 v108 v109 v110 v111 v112 v113 v114 v115 v116 v117 v118 v119 v120 v121 v122 v123 v124 v125 v126 v127 v128 v129 v130 v131 v132 v133 v134 v135 v136 v137 v138 v139 v140 v141 v142 v143 v144 v145 v146 v147 v148 v149 v150 v151 v152 v153 v154 v155 v156 v157 v158 v159 v160 v161 v162 v163 v164 v165 v166 v167 v168 v169 v170 v171 v172 v173 v174 v175 v176 v177 v178 v179 v180 v181 v182 v183 v184 v185 v186 v187 v188 v189 v190 v191 v192 v193 v194 v195 v196 v197 v198 v199 v200 v201 v202 v203 v204 v205 v206 v207 v208 v209 v210 v211 v212 v213 v214 v215 v216 v217 v218 v219 v220 v221 v222 v223 v224 v225 v226 v227 v228 v229 v230 v231 v232 v233 v234 v235 v236 v237 v238 v239 v240 v241 v242 v243 v244 v245 v246 v247 v248 v249 v250 v251 v252 v253 v254 v255 v256 v257 v258 : Value) (w' : World), RowRel w0 p kv gv w' → Q .normal ⟨#[c0, c1, v2, c3, c4, c5, kv, gv, c8, (.pointer (some ⟨H, 0, none⟩)), (.bool tb0), (.pointer (some ⟨H2, 0, none⟩)), c12, v13, c14, c15, c16, c17, c18, c19, c20, c21, c22, c23, c24, c25, c26, c27, c28, c29, c30, c31, c32, c33, c34, c35, c36, c37, c38, c39, c40, c41, c42, c43, c44, c45, c46, c47, c48, c49, c50, c51, c52, c53, c54, c55, c56, c57, c58, c59, c60, c61, c62, c63, c64, c65, c66, c67, c68, c69, c70, v71, v72, v73, v74, v75, v76, v77, v78, v79, v80, v81, v82, v83, v84, v85, v86, v87, v88, v89, v90, v91, v92, v93, v94, v95, v96, v97, v98, v99, v100, v101, v102, v103, v104, v105, v106, v107, v108, v109, v110, v111, v112, v113, v114, v115, v116, v117, v118, v119, v120, v121, v122, v123, v124, v125, v126, v127, v128, v129, v130, v131, v132, v133, v134, v135, v136, v137, v138, v139, v140, v141, v142, v143, v144, v145, v146, v147, v148, v149, v150, v151, v152, v153, v154, v155, v156, v157, v158, v159, v160, v161, v162, v163, v164, v165, v166, v167, v168, v169, v170, v171, v172, v173, v174, v175, v176, v177, v178, v179, v180, v181, v182, v183, v184, v185, v186, v187, v188, v189, v190, v191, v192, v193, v194, v195, v196, v197, v198, v199, v200, v201, v202, v203, v204, v205, v206, v207, v208, v209, v210, v211, v212, v213, v214, v215, v216, v217, v218, v219, v220, v221, v222, v223, v224, v225, v226, v227, v228, v229, v230, v231, v232, v233, v234, v235, v236, v237, v238, v239, v240, v241, v242, v243, v244, v245, v246, v247, v248, v249, v250, v251, v252, v253, v254, v255, v256, v257, v258, c259, c260, c261, c262, c263], []⟩ w' ∧ Q (.exit 1) ⟨#[c0, c1, v2, c3, c4, c5, kv, gv, c8, (.pointer (some ⟨H, 0, none⟩)), (.bool tb0), (.pointer (some ⟨H2, 0, none⟩)), c12, v13, c14, c15, c16, c17, c18, c19, c20, c21, c22, c23, c24, c25, c26, c27, c28, c29, c30, c31, c32, c33, c34, c35, c36, c37, c38, c39, c40, c41, c42, c43, c44, c45, c46, c47, c48, c49, c50, c51, c52, c53, c54, c55, c56, c57, c58, c59, c60, c61, c62, c63, c64, c65, c66, c67, c68, c69, c70, v71, v72, v73, v74, v75, v76, v77, v78, v79, v80, v81, v82, v83, v84, v85, v86, v87, v88, v89, v90, v91, v92, v93, v94, v95, v96, v97, v98, v99, v100, v101, v102, v103, v104, v105, v106, v107, v108, v109, v110, v111, v112, v113, v114, v115, v116, v117, v118, v119, v120, v121, v122, v123, v124, v125, v126, v127, v128, v129, v130, v131, v132, v133, v134, v135, v136, v137, v138, v139, v140, v141, v142, v143, v144, v145, v146, v147, v148, v149, v150, v151, v152, v153, v154, v155, v156, v157, v158, v159, v160, v161, v162, v163, v164, v165, v166, v167, v168, v169, v170, v171, v172, v173, v174, v175, v176, v177, v178, v179, v180, v181, v182, v183, v184, v185, v186, v187, v188, v189, v190, v191, v192, v193, v194, v195, v196, v197, v198, v199, v200, v201, v202, v203, v204, v205, v206, v207, v208, v209, v210, v211, v212, v213, v214, v215, v216, v217, v218, v219, v220, v221, v222, v223, v224, v225, v226, v227, v228, v229, v230, v231, v232, v233, v234, v235, v236, v237, v238, v239, v240, v241, v242, v243, v244, v245, v246, v247, v248, v249, v250, v251, v252, v253, v254, v255, v256, v257, v258, c259, c260, c261, c262, c263], []⟩ w') :
    Code.wp Try.prog tail11 Q ⟨#[c0, c1, u2, c3, c4, c5, (.slice kA ln kc), (.slice gA ln gd), c8, (.pointer (some ⟨H, 0, none⟩)), (.bool tb0), (.pointer (some ⟨H2, 0, none⟩)), c12, u13, c14, c15, c16, c17, c18, c19, c20, c21, c22, c23, c24, c25, c26, c27, c28, c29, c30, c31, c32, c33, c34, c35, c36, c37, c38, c39, c40, c41, c42, c43, c44, c45, c46, c47, c48, c49, c50, c51, c52, c53, c54, c55, c56, c57, c58, c59, c60, c61, c62, c63, c64, c65, c66, c67, c68, c69, c70, u71, u72, u73, u74, u75, u76, u77, u78, u79, u80, u81, u82, u83, u84, u85, u86, u87, u88, u89, u90, u91, u92, u93, u94, u95, u96, u97, u98, u99, u100, u101, u102, u103, u104, u105, u106, u107, u108, u109, u110, u111, u112, u113, u114, u115, u116, u117, u118, u119, u120, u121, u122, u123, u124, u125, u126, u127, u128, u129, u130, u131, u132, u133, u134, u135, u136, u137, u138, u139, u140, u141, u142, u143, u144, u145, u146, u147, u148, u149, u150, u151, u152, u153, u154, u155, u156, u157, u158, u159, u160, u161, u162, u163, u164, u165, u166, u167, u168, u169, u170, u171, u172, u173, u174, u175, u176, u177, u178, u179, u180, u181, u182, u183, u184, u185, u186, u187, u188, u189, u190, u191, u192, u193, u194, u195, u196, u197, u198, u199, u200, u201, u202, u203, u204, u205, u206, u207, u208, u209, u210, u211, u212, u213, u214, u215, u216, u217, u218, u219, u220, u221, u222, u223, u224, u225, u226, u227, u228, u229, u230, u231, u232, u233, u234, u235, u236, u237, u238, u239, u240, u241, u242, u243, u244, u245, u246, u247, u248, u249, u250, u251, u252, u253, u254, u255, u256, u257, u258, c259, c260, c261, c262, c263], []⟩ w5 := by
  subst hkd
  subst ht
  subst hnj
  subst hb0
  obtain ⟨hmo, hk1, hk2, hg1, hg2⟩ := h.facts
  have p0 := h.p0
  have p1 := h.p1
  have p2 := h.p2
  have p3 := h.p3
  have p4 := h.p4
  have r0 := h.r0
  have r1 := h.r1
  have r2 := h.r2
  obtain ⟨hvc1, hvc2⟩ := h.vcap
  have hll := h.llen
  simp only [maxLen] at hk2 hg2 hvc2
  replace hQ := Lib.hid hQ
  replace hP := Lib.hid hP
  replace h := Lib.hid h
  replace hB := Lib.hid hB
  replace hO := Lib.hid hO
  obtain ⟨kb, gb, rfl, rfl, e0, e1, f0, f1, hjl⟩ := h.out.place he
  rw [heg] at e1
  have hmem := List.mem_of_getElem? he
  have heb := h.out.two.bok.byt e hmem
  have hel := h.out.two.bok.small e hmem
  obtain ⟨eA, ec, hev, hec1, hec2, heA⟩ := heb.form
  simp only [maxLen] at hec2
  rw [hev] at e0
  have herd := heb.rd
  rw [hev] at herd
  have hjw : IntKind.i64.wrap (j : Int) = j := by rw [IntKind.wrap_i64]; omega
  have hj0 : (0 : Int) ≤ j := by omega
  have hjl2 : (j : Int) < ln := by omega
  obtain ⟨el, hell⟩ : ∃ el, el = e.l.length := ⟨_, rfl⟩
  rw [← hell] at hev hec1 hel heA e0 herd
  have hlen := Lib.hid h.out.len
  replace he := Lib.hid he
  replace heb := Lib.hid heb
  replace hev := Lib.hid hev
  replace herd := Lib.hid herd
  replace heg := Lib.hid heg
  replace hell := Lib.hid hell
  clear hmem
  conv => arg 2; whnf
  go_wp2
  refine (hQ.out _ _ _ _ _ _ _ _ _ _ _ _ _ _ _ _ _ _ _ _ _ _ _ _ _ _ _ _ _ _ _ _ _ _ _ _ _ _ _ _ _ _ _ _ _ _ _ _ _ _ _ _ _ _ _ _ _ _ _ _ _ _ _ _ _ _ _ _ _ _ _ _ _ _ _ _ _ _ _ _ _ _ _ _ _ _ _ _ _ _ _ _ _ _ _ _ _ _ _ _ _ _ _ _ _ _ _ _ _ _ _ _ _ _ _ _ _ _ _ _ _ _ _ _ _ _ _ _ _ _ _ _ _ _ _ _ _ _ _ _ _ _ _ _ _ _ _ _ _ _ _ _ _ _ _ _ _ _ _ _ _ _ _ _ _ _ _ _ _ _ _ _ _ _ _ _ _ _ _ _ _ _ _ _ _ _ _ _ _ _ _ _ _ ?_).1
  exact ⟨W', es, h.out.same, h.out.two, by rw [h.out.abs]; exact hB.out, by rw [h.out.abs]; exact hO.out⟩


set_option maxRecDepth 1000000 in
set_option maxHeartbeats 4000000 in
theorem tail_copy2 (w0 w5 : World) (p : Nat) (W' : Wr) (es : List BkE) (kA : Option Addr) (ln kc : Nat) (gA : Option Addr) (gd : Nat) (s' : WA) (H H2 : Nat) (kd n m kk tn te : Int) (vA : Option Addr) (vc : Nat) (l : List UInt8) (A1 : Option Addr) (x1 : Nat) (tb : List UInt8) (tb0 : Bool) (Q : Exit → Act → World → Prop) (c0 c1 c3 c4 c5 c8 c12 c14 c15 c16 c17 c18 c19 c20 c21 c22 c23 c24 c25 c26 c27 c28 c29 c30 c31 c32 c33 c34 c35 c36 c37 c38 c39 c40 c41 c42 c43 c44 c45 c46 c47 c48 c49 c50 c51 c52 c53 c54 c55 c56 c57 c58 c59 c60 c61 c62 c63 c64 c65 c66 c67 c68 c69 c70 c259 c260 c261 c262 c263 u2 u13 u71 u72 u73 u74 u75 u76 u77 u78 u79 u80 u81 u82 u83 u84 u85 u86 u87 u88 u89 u90 u91 u92 u93 u94 u95 u96 u97 u98 u99 u100 u101 u102 u103 u104 u105 u106 u107 u108 u109 u110 u111 u112 u113 u114 u115 u116 u117 u118 u119 u120 u121 u122 u123 u124 u125 u126 u127 u128 u129 u130 u131 u132 u133 u134 u135 u136 u137 u138 u139 u140 u141 u142 u143 u144 u145 u146 u147 u148 u149 u150 u151 u152 u153 u154 u155 u156 u157 u158 u159 u160 u161 u162 u163 u164 u165 u166 u167 u168 u169 u170 u171 u172 u173 u174 u175 u176 u177 u178 u179 u180 u181 u182 u183 u184 u185 u186 u187 u188 u189 u190 u191 u192 u193 u194 u195 u196 u197 u198 u199 u200 u201 u202 u203 u204 u205 u206 u207 u208 u209 u210 u211 u212 u213 u214 u215 u216 u217 u218 u219 u220 u221 u222 u223 u224 u225 u226 u227 u228 u229 u230 u231 u232 u233 u234 u235 u236 u237 u238 u239 u240 u241 u242 u243 u244 u245 u246 u247 u248 u249 u250 u251 u252 u253 u254 u255 u256 u257 u258 : Value)
    (h : RowAt w0 w5 p W' es kA ln kc gA gd s' H H2 kd n m kk tn te vA vc l A1 x1 tb) (j : Nat) (e : BkE) (hnj : n = (j : Int) + 1) (he : es[j]? = some e) (heg : e.g = false) (hb0 : tb0 = true) (hkd : kd = 5) (ht : te = 0) (hn : tn = (ln : Int) + 1) (hl2 : ln < 4096) (hB : BSim (bAbs es ++ [(e.l, false)]) s') (hO : s'.Ok)
    (hP : ∀ (c : _) (d : Option Tmp) (v : Value) (a : Act) (w' : World), Q (.panic c) (a.put d v) w' → Q (.panic c) a w')
    (hQ : ∀ (kv gv : Value) (v2 v13 v71 v72 v73 v74 v75 v76 v77 v78 v79 v80 v81 v82 v83 v84 v85 v86 v87 v88 v89 v90 v91 v92 v93 v94 v95 v96 v97 v98 v99 v100 v101 v102 v103 v104 v105 v106 v107 v108 v109 v110 v111 v112 v113 v114 v115 v116 v117 v118 v119 v120 v121 v122 v123 v124 v125 v126 v127 v128 v129 v130 v131 v132 v133 v134 v135 v136 v137 v138 v139 v140 v141 v142 v143 v144 v145 v146 v147 v148 v149 v150 v151 v152 v153 v154 v155 v156 v157 v158 v159 v160 v161 v162 v163 v164 v165 v166 v167 v168 v169 v170 v171 v172 v173 v174 v175 v176 v177 v178 v179 v180 v181 v182 v183 v184 v185 v186 v187 v188 v189 v190 v191 v192 v193 v194 v195 v196 v197 v198 v199 v200 v201 v202 v203 v204 v205 v206 v207 v208 v209 v210 v211 v212 v213 v214 v215 v216 v217 v218 v219 v220 v221 v222 v223 v224 v225 v226 v227 v228 v229 v230 v231 v232 v233 v234 v235 v236 v237 v238 v239 v240 v241 v242 v243 v244 v245 v246 v247 v248 v249 v250 v251 v252 v253 v254 v255 v256 v257 v258 : Value) (w' : World), RowRel w0 p kv gv w' → Q .normal ⟨#[c0, c1, v2, c3, c4, c5, kv, gv, c8, (.pointer (some ⟨H, 0, none⟩)), (.bool tb0), (.pointer (some ⟨H2, 0, none⟩)), c12, v13, c14, c15, c16, c17, c18, c19, c20, c21, c22, c23, c24, c25, c26, c27, c28, c29, c30, c31, c32, c33, c34, c35, c36, c37, c38, c39, c40, c41, c42, c43, c44, c45, c46, c47, c48, c49, c50, c51, c52, c53, c54, c55, c56, c57, c58, c59, c60, c61, c62, c63, c64, c65, c66, c67, c68, c69, c70, v71, v72, v73, v74, v75, v76, v77, v78, v79, v80, v81, v82, v83, v84, v85, v86, v87, v88, v89, v90, v91, v92, v93, v94, v95, v96, v97, v98, v99, v100, v101, v102, v103, v104, v105, v106, v107, v108, v109, v110, v111, v112, v113, v114, v115, v116, v117, v118, v119, v120, v121, v122, v123, v124, v125, v126, v127, v128, v129, v130, v131, v132, v133, v134, v135, v136, v137, v138, v139, v140, v141, v142, v143, v144, v145, v146, v147, v148, v149, v150, v151, v152, v153, v154, v155, v156, v157, v158, v159, v160, v161, v162, v163, v164, v165, v166, v167, v168, v169, v170, v171, v172, v173, v174, v175, v176, v177, v178, v179, v180, v181, v182, v183, v184, v185, v186, v187, v188, v189, v190, v191, v192, v193, v194, v195, v196, v197, v198, v199, v200, v201, v202, v203, v204, v205, v206, v207, v208, v209, v210, v211, v212, v213, v214, v215, v216, v217, v218, v219, v220, v221, v222, v223, v224, v225, v226, v227, v228, v229, v230, v231, v232, v233, v234, v235, v236, v237, v238, v239, v240, v241, v242, v243, v244, v245, v246, v247, v248, v249, v250, v251, v252, v253, v254, v255, v256, v257, v258, c259, c260, c261, c262, c263], []⟩ w' ∧ Q (.exit 1) ⟨#[c0, c1, v2, c3, c4, c5, kv, gv, c8, (.pointer (some ⟨H, 0, none⟩)), (.bool tb0), (.pointer (some ⟨H2, 0, none⟩)), c12, v13, c14, c15, c16, c17, c18, c19, c20, c21, c22, c23, c24, c25, c26, c27, c28, c29, c30, c31, c32, c33, c34, c35, c36, c37, c38, c39, c40, c41, c42, c43, c44, c45, c46, c47, c48, c49, c50, c51, c52, c53, c54, c55, c56, c57, c58, c59, c60, c61, c62, c63, c64, c65, c66, c67, c68, c69, c70, v71, v72, v73, v74, v75, v76, v77, v78, v79, v80, v81, v82, v83, v84, v85, v86, v87, v88, v89, v90, v91, v92, v93, v94, v95, v96, v97, v98, v99, v100, v101, v102, v103, v104, v105, v106, v107, v108, v109, v110, v111, v112, v113, v114, v115, v116, v117, v118, v119, v120, v121, v122, v123, v124, v125, v126, v127, v128, v129, v130, v131, v132, v133, v134, v135, v136, v137, v138, v139, v140, v141, v142, v143, v144, v145, v146, v147, v148, v149, v150, v151, v152, v153, v154, v155, v156, v157, v158, v159, v160, v161, v162, v163, v164, v165, v166, v167, v168, v169, v170, v171, v172, v173, v174, v175, v176, v177, v178, v179, v180, v181, v182, v183, v184, v185, v186, v187, v188, v189, v190, v191, v192, v193, v194, v195, v196, v197, v198, v199, v200, v201, v202, v203, v204, v205, v206, v207, v208, v209, v210, v211, v212, v213, v214, v215, v216, v217, v218, v219, v220, v221, v222, v223, v224, v225, v226, v227, v228, v229, v230, v231, v232, v233, v234, v235, v236, v237, v238, v239, v240, v241, v242, v243, v244, v245, v246, v247, v248, v249, v250, v251, v252, v253, v254, v255, v256, v257, v258, c259, c260, c261, c262, c263], []⟩ w') :
    Code.wp Try.prog tail11 Q ⟨#[c0, c1, u2, c3, c4, c5, (.slice kA ln kc), (.slice gA ln gd), c8, (.pointer (some ⟨H, 0, none⟩)), (.bool tb0), (.pointer (some ⟨H2, 0, none⟩)), c12, u13, c14, c15, c16, c17, c18, c19, c20, c21, c22, c23, c24, c25, c26, c27, c28, c29, c30, c31, c32, c33, c34, c35, c36, c37, c38, c39, c40, c41, c42, c43, c44, c45, c46, c47, c48, c49, c50, c51, c52, c53, c54, c55, c56, c57, c58, c59, c60, c61, c62, c63, c64, c65, c66, c67, c68, c69, c70, u71, u72, u73, u74, u75, u76, u77, u78, u79, u80, u81, u82, u83, u84, u85, u86, u87, u88, u89, u90, u91, u92, u93, u94, u95, u96, u97, u98, u99, u100, u101, u102, u103, u104, u105, u106, u107, u108, u109, u110, u111, u112, u113, u114, u115, u116, u117, u118, u119, u120, u121, u122, u123, u124, u125, u126, u127, u128, u129, u130, u131, u132, u133, u134, u135, u136, u137, u138, u139, u140, u141, u142, u143, u144, u145, u146, u147, u148, u149, u150, u151, u152, u153, u154, u155, u156, u157, u158, u159, u160, u161, u162, u163, u164, u165, u166, u167, u168, u169, u170, u171, u172, u173, u174, u175, u176, u177, u178, u179, u180, u181, u182, u183, u184, u185, u186, u187, u188, u189, u190, u191, u192, u193, u194, u195, u196, u197, u198, u199, u200, u201, u202, u203, u204, u205, u206, u207, u208, u209, u210, u211, u212, u213, u214, u215, u216, u217, u218, u219, u220, u221, u222, u223, u224, u225, u226, u227, u228, u229, u230, u231, u232, u233, u234, u235, u236, u237, u238, u239, u240, u241, u242, u243, u244, u245, u246, u247, u248, u249, u250, u251, u252, u253, u254, u255, u256, u257, u258, c259, c260, c261, c262, c263], []⟩ w5 := by
  subst hkd
  subst ht
  subst hn
  subst hnj
  subst hb0
  obtain ⟨hmo, hk1, hk2, hg1, hg2⟩ := h.facts
  have p0 := h.p0
  have p1 := h.p1
  have p2 := h.p2
  have p3 := h.p3
  have p4 := h.p4
  have r0 := h.r0
  have r1 := h.r1
  have r2 := h.r2
  obtain ⟨hvc1, hvc2⟩ := h.vcap
  have hll := h.llen
  simp only [maxLen] at hk2 hg2 hvc2
  replace hQ := Lib.hid hQ
  replace hP := Lib.hid hP
  replace h := Lib.hid h
  replace hB := Lib.hid hB
  replace hO := Lib.hid hO
  obtain ⟨kb, gb, rfl, rfl, e0, e1, f0, f1, hjl⟩ := h.out.place he
  rw [heg] at e1
  have hmem := List.mem_of_getElem? he
  have heb := h.out.two.bok.byt e hmem
  have hel := h.out.two.bok.small e hmem
  obtain ⟨eA, ec, hev, hec1, hec2, heA⟩ := heb.form
  simp only [maxLen] at hec2
  rw [hev] at e0
  have herd := heb.rd
  rw [hev] at herd
  have hjw : IntKind.i64.wrap (j : Int) = j := by rw [IntKind.wrap_i64]; omega
  have hj0 : (0 : Int) ≤ j := by omega
  have hjl2 : (j : Int) < ln := by omega
  obtain ⟨el, hell⟩ : ∃ el, el = e.l.length := ⟨_, rfl⟩
  rw [← hell] at hev hec1 hel heA e0 herd
  have hlen := Lib.hid h.out.len
  replace he := Lib.hid he
  replace heb := Lib.hid heb
  replace hev := Lib.hid hev
  replace herd := Lib.hid herd
  replace heg := Lib.hid heg
  replace hell := Lib.hid hell
  clear hmem
  obtain ⟨i24, hi24a, hi24b, hi24c, hi24d⟩ := info_parts Try.info24
  have hi24 := Lib.hid (And.intro hi24a (And.intro hi24b (And.intro hi24c hi24d)))
  obtain ⟨i4, hi4a, hi4b, hi4c, hi4d⟩ := info_parts Try.info4
  have hi4 := Lib.hid (And.intro hi4a (And.intro hi4b (And.intro hi4c hi4d)))
  clear hi24a hi24b hi24c hi24d hi4a hi4b hi4c hi4d
  have hlen := h.out.len
  have hrow := h.out.two.bok.row
  have hgon := h.out.two.bok.gon
  rw [← hlen] at hrow hgon
  have hcp := copy_any (.slice eA el ec) e.l w5 herd.out (by rw [← hell.out]; omega)
  replace hcp := Lib.hid hcp
  replace hrow := Lib.hid hrow
  replace hgon := Lib.hid hgon
  replace hlen := Lib.hid hlen
  conv => arg 2; whnf
  go_wp2_with fail
  refine hcp.out.mono ?_
  rintro x w6 ⟨v', rfl, hown, hu6⟩
  obtain ⟨A', c', rfl, -⟩ := own_form hown
  have hone := own_one hown
  have hrow6 := own_upd hrow.out (hu6.alloc (.cells #[.slice A' e.l.length c'] 24)) fun _ _ h => h
  replace hrow6 := Lib.hid hrow6
  replace hone := Lib.hid hone
  have hb6 := Lib.hid (Blk.new w6 24 #[.slice A' e.l.length c'])
  replace hown := Lib.hid hown
  replace hu6 := Lib.hid hu6
  clear p0 p1 p2 p3 p4 r0 r1 r2
  go_wp2_with (first | (at_builtin; refine wpList_app _ rfl _ _ 53 rfl 0 24 i24 (.slice none 0 0) 1 24 Try.underlying53 hi24.out rfl (by decide) (.slice (some ⟨kb, 0, none⟩) ln kc) ln (bVals es) rfl hrow6.out _ 1 [.slice A' e.l.length c'] rfl (blk_rd hb6.out 1 1 (by simp [maxLen]) rfl) (one_val _ hone.out) (by simp only [maxLen]; omega) (by omega) (Nat.zero_le _) ?_; intro kv' w7 hown7 hgrow7 hat7; replace hown7 := Lib.hid hown7; replace hgrow7 := Lib.hid hgrow7; replace hat7 := Lib.hid hat7; have hne := (fun (k : Nat) (hk : Value.ownBlock (.slice (some ⟨gb, 0, none⟩) ln gd) = some k) (hk2 : Value.ownBlock (.slice (some ⟨kb, 0, none⟩) ln kc) = some k) => own_own_ne hgon.out hrow.out (by decide) hk hk2); have hgon7 := Lib.hid (own_upd (own_upd hgon.out (hu6.out.alloc (.cells #[.slice A' e.l.length c'] 24)) (fun _ _ h => h)) ((Upd.of_grown hgrow7.out).alloc (.cells #[.bool false] 4)) (fun k hk hS => hne k hk hS)); have hb7 := Lib.hid (Blk.new w7 4 #[.bool false]); clear hne hi24 hrow6) | (at_builtin; refine wpList_app _ rfl _ _ 54 rfl 0 4 i4 (.bool false) 1 1 Try.underlying54 hi4.out rfl (by decide) (.slice (some ⟨gb, 0, none⟩) ln gd) ln (gVals es) rfl hgon7.out _ 1 [.bool false] rfl (blk_rd hb7.out 1 1 (by simp [maxLen]) rfl) (one_val _ rfl) (by simp only [maxLen]; omega) (by omega) (Nat.zero_le _) ?_; intro gv' w8 hown8 hgrow8 hat8; replace hown8 := Lib.hid hown8; replace hgrow8 := Lib.hid hgrow8; replace hat8 := Lib.hid hat8))
  have hT8 := push_fin h.out.two hu6.out hown.out (by rw [← hlen.out]; exact hown7.out) hgrow7.out hat7.out (by rw [← hlen.out]; exact hown8.out) hgrow8.out hat8.out (by rw [← hell.out]; omega) (by have := hlen.out; omega)
  refine (hQ.out _ _ _ _ _ _ _ _ _ _ _ _ _ _ _ _ _ _ _ _ _ _ _ _ _ _ _ _ _ _ _ _ _ _ _ _ _ _ _ _ _ _ _ _ _ _ _ _ _ _ _ _ _ _ _ _ _ _ _ _ _ _ _ _ _ _ _ _ _ _ _ _ _ _ _ _ _ _ _ _ _ _ _ _ _ _ _ _ _ _ _ _ _ _ _ _ _ _ _ _ _ _ _ _ _ _ _ _ _ _ _ _ _ _ _ _ _ _ _ _ _ _ _ _ _ _ _ _ _ _ _ _ _ _ _ _ _ _ _ _ _ _ _ _ _ _ _ _ _ _ _ _ _ _ _ _ _ _ _ _ _ _ _ _ _ _ _ _ _ _ _ _ _ _ _ _ _ _ _ _ _ _ _ _ _ _ _ _ _ _ _ _ _ ?_).1
  exact ⟨W', _, h.out.same, hT8, by rw [h.out.abs]; unfold bAbs; rw [List.map_append]; exact hB.out, by rw [h.out.abs]; exact hO.out⟩


set_option maxRecDepth 1000000 in
set_option maxHeartbeats 4000000 in
theorem tail_swap (w0 w5 : World) (p : Nat) (W' : Wr) (es : List BkE) (kA : Option Addr) (ln kc : Nat) (gA : Option Addr) (gd : Nat) (s' : WA) (H H2 : Nat) (kd n m kk tn te : Int) (vA : Option Addr) (vc : Nat) (l : List UInt8) (A1 : Option Addr) (x1 : Nat) (tb : List UInt8) (tb0 : Bool) (Q : Exit → Act → World → Prop) (c0 c1 c3 c4 c5 c8 c12 c14 c15 c16 c17 c18 c19 c20 c21 c22 c23 c24 c25 c26 c27 c28 c29 c30 c31 c32 c33 c34 c35 c36 c37 c38 c39 c40 c41 c42 c43 c44 c45 c46 c47 c48 c49 c50 c51 c52 c53 c54 c55 c56 c57 c58 c59 c60 c61 c62 c63 c64 c65 c66 c67 c68 c69 c70 c259 c260 c261 c262 c263 u2 u13 u71 u72 u73 u74 u75 u76 u77 u78 u79 u80 u81 u82 u83 u84 u85 u86 u87 u88 u89 u90 u91 u92 u93 u94 u95 u96 u97 u98 u99 u100 u101 u102 u103 u104 u105 u106 u107 u108 u109 u110 u111 u112 u113 u114 u115 u116 u117 u118 u119 u120 u121 u122 u123 u124 u125 u126 u127 u128 u129 u130 u131 u132 u133 u134 u135 u136 u137 u138 u139 u140 u141 u142 u143 u144 u145 u146 u147 u148 u149 u150 u151 u152 u153 u154 u155 u156 u157 u158 u159 u160 u161 u162 u163 u164 u165 u166 u167 u168 u169 u170 u171 u172 u173 u174 u175 u176 u177 u178 u179 u180 u181 u182 u183 u184 u185 u186 u187 u188 u189 u190 u191 u192 u193 u194 u195 u196 u197 u198 u199 u200 u201 u202 u203 u204 u205 u206 u207 u208 u209 u210 u211 u212 u213 u214 u215 u216 u217 u218 u219 u220 u221 u222 u223 u224 u225 u226 u227 u228 u229 u230 u231 u232 u233 u234 u235 u236 u237 u238 u239 u240 u241 u242 u243 u244 u245 u246 u247 u248 u249 u250 u251 u252 u253 u254 u255 u256 u257 u258 : Value)
    (h : RowAt w0 w5 p W' es kA ln kc gA gd s' H H2 kd n m kk tn te vA vc l A1 x1 tb) (j : Nat) (e : BkE) (hnj : n = (j : Int) + 1) (he : es[j]? = some e) (heg : e.g = false) (hb0 : tb0 = true) (hkd : kd = 6) (hB : BSim (bAbs es) s') (hO : s'.Ok)
    (hP : ∀ (c : _) (d : Option Tmp) (v : Value) (a : Act) (w' : World), Q (.panic c) (a.put d v) w' → Q (.panic c) a w')
    (hQ : ∀ (kv gv : Value) (v2 v13 v71 v72 v73 v74 v75 v76 v77 v78 v79 v80 v81 v82 v83 v84 v85 v86 v87 v88 v89 v90 v91 v92 v93 v94 v95 v96 v97 v98 v99 v100 v101 v102 v103 v104 v105 v106 v107 v108 v109 v110 v111 v112 v113 v114 v115 v116 v117 v118 v119 v120 v121 v122 v123 v124 v125 v126 v127 v128 v129 v130 v131 v132 v133 v134 v135 v136 v137 v138 v139 v140 v141 v142 v143 v144 v145 v146 v147 v148 v149 v150 v151 v152 v153 v154 v155 v156 v157 v158 v159 v160 v161 v162 v163 v164 v165 v166 v167 v168 v169 v170 v171 v172 v173 v174 v175 v176 v177 v178 v179 v180 v181 v182 v183 v184 v185 v186 v187 v188 v189 v190 v191 v192 v193 v194 v195 v196 v197 v198 v199 v200 v201 v202 v203 v204 v205 v206 v207 v208 v209 v210 v211 v212 v213 v214 v215 v216 v217 v218 v219 v220 v221 v222 v223 v224 v225 v226 v227 v228 v229 v230 v231 v232 v233 v234 v235 v236 v237 v238 v239 v240 v241 v242 v243 v244 v245 v246 v247 v248 v249 v250 v251 v252 v253 v254 v255 v256 v257 v258 : Value) (w' : World), RowRel w0 p kv gv w' → Q .normal ⟨#[c0, c1, v2, c3, c4, c5, kv, gv, c8, (.pointer (some ⟨H, 0, none⟩)), (.bool tb0), (.pointer (some ⟨H2, 0, none⟩)), c12, v13, c14, c15, c16, c17, c18, c19, c20, c21, c22, c23, c24, c25, c26, c27, c28, c29, c30, c31, c32, c33, c34, c35, c36, c37, c38, c39, c40, c41, c42, c43, c44, c45, c46, c47, c48, c49, c50, c51, c52, c53, c54, c55, c56, c57, c58, c59, c60, c61, c62, c63, c64, c65, c66, c67, c68, c69, c70, v71, v72, v73, v74, v75, v76, v77, v78, v79, v80, v81, v82, v83, v84, v85, v86, v87, v88, v89, v90, v91, v92, v93, v94, v95, v96, v97, v98, v99, v100, v101, v102, v103, v104, v105, v106, v107, v108, v109, v110, v111, v112, v113, v114, v115, v116, v117, v118, v119, v120, v121, v122, v123, v124, v125, v126, v127, v128, v129, v130, v131, v132, v133, v134, v135, v136, v137, v138, v139, v140, v141, v142, v143, v144, v145, v146, v147, v148, v149, v150, v151, v152, v153, v154, v155, v156, v157, v158, v159, v160, v161, v162, v163, v164, v165, v166, v167, v168, v169, v170, v171, v172, v173, v174, v175, v176, v177, v178, v179, v180, v181, v182, v183, v184, v185, v186, v187, v188, v189, v190, v191, v192, v193, v194, v195, v196, v197, v198, v199, v200, v201, v202, v203, v204, v205, v206, v207, v208, v209, v210, v211, v212, v213, v214, v215, v216, v217, v218, v219, v220, v221, v222, v223, v224, v225, v226, v227, v228, v229, v230, v231, v232, v233, v234, v235, v236, v237, v238, v239, v240, v241, v242, v243, v244, v245, v246, v247, v248, v249, v250, v251, v252, v253, v254, v255, v256, v257, v258, c259, c260, c261, c262, c263], []⟩ w' ∧ Q (.exit 1) ⟨#[c0, c1, v2, c3, c4, c5, kv, gv, c8, (.pointer (some ⟨H, 0, none⟩)), (.bool tb0), (.pointer (some ⟨H2, 0, none⟩)), c12, v13, c14, c15, c16, c17, c18, c19, c20, c21, c22, c23, c24, c25, c26, c27, c28, c29, c30, c31, c32, c33, c34, c35, c36, c37, c38, c39, c40, c41, c42, c43, c44, c45, c46, c47, c48, c49, c50, c51, c52, c53, c54, c55, c56, c57, c58, c59, c60, c61, c62, c63, c64, c65, c66, c67, c68, c69, c70, v71, v72, v73, v74, v75, v76, v77, v78, v79, v80, v81, v82, v83, v84, v85, v86, v87, v88, v89, v90, v91, v92, v93, v94, v95, v96, v97, v98, v99, v100, v101, v102, v103, v104, v105, v106, v107, v108, v109, v110, v111, v112, v113, v114, v115, v116, v117, v118, v119, v120, v121, v122, v123, v124, v125, v126, v127, v128, v129, v130, v131, v132, v133, v134, v135, v136, v137, v138, v139, v140, v141, v142, v143, v144, v145, v146, v147, v148, v149, v150, v151, v152, v153, v154, v155, v156, v157, v158, v159, v160, v161, v162, v163, v164, v165, v166, v167, v168, v169, v170, v171, v172, v173, v174, v175, v176, v177, v178, v179, v180, v181, v182, v183, v184, v185, v186, v187, v188, v189, v190, v191, v192, v193, v194, v195, v196, v197, v198, v199, v200, v201, v202, v203, v204, v205, v206, v207, v208, v209, v210, v211, v212, v213, v214, v215, v216, v217, v218, v219, v220, v221, v222, v223, v224, v225, v226, v227, v228, v229, v230, v231, v232, v233, v234, v235, v236, v237, v238, v239, v240, v241, v242, v243, v244, v245, v246, v247, v248, v249, v250, v251, v252, v253, v254, v255, v256, v257, v258, c259, c260, c261, c262, c263], []⟩ w') :
    Code.wp Try.prog tail11 Q ⟨#[c0, c1, u2, c3, c4, c5, (.slice kA ln kc), (.slice gA ln gd), c8, (.pointer (some ⟨H, 0, none⟩)), (.bool tb0), (.pointer (some ⟨H2, 0, none⟩)), c12, u13, c14, c15, c16, c17, c18, c19, c20, c21, c22, c23, c24, c25, c26, c27, c28, c29, c30, c31, c32, c33, c34, c35, c36, c37, c38, c39, c40, c41, c42, c43, c44, c45, c46, c47, c48, c49, c50, c51, c52, c53, c54, c55, c56, c57, c58, c59, c60, c61, c62, c63, c64, c65, c66, c67, c68, c69, c70, u71, u72, u73, u74, u75, u76, u77, u78, u79, u80, u81, u82, u83, u84, u85, u86, u87, u88, u89, u90, u91, u92, u93, u94, u95, u96, u97, u98, u99, u100, u101, u102, u103, u104, u105, u106, u107, u108, u109, u110, u111, u112, u113, u114, u115, u116, u117, u118, u119, u120, u121, u122, u123, u124, u125, u126, u127, u128, u129, u130, u131, u132, u133, u134, u135, u136, u137, u138, u139, u140, u141, u142, u143, u144, u145, u146, u147, u148, u149, u150, u151, u152, u153, u154, u155, u156, u157, u158, u159, u160, u161, u162, u163, u164, u165, u166, u167, u168, u169, u170, u171, u172, u173, u174, u175, u176, u177, u178, u179, u180, u181, u182, u183, u184, u185, u186, u187, u188, u189, u190, u191, u192, u193, u194, u195, u196, u197, u198, u199, u200, u201, u202, u203, u204, u205, u206, u207, u208, u209, u210, u211, u212, u213, u214, u215, u216, u217, u218, u219, u220, u221, u222, u223, u224, u225, u226, u227, u228, u229, u230, u231, u232, u233, u234, u235, u236, u237, u238, u239, u240, u241, u242, u243, u244, u245, u246, u247, u248, u249, u250, u251, u252, u253, u254, u255, u256, u257, u258, c259, c260, c261, c262, c263], []⟩ w5 := by
  subst hkd
  subst hnj
  subst hb0
  obtain ⟨hmo, hk1, hk2, hg1, hg2⟩ := h.facts
  have p0 := h.p0
  have p1 := h.p1
  have p2 := h.p2
  have p3 := h.p3
  have p4 := h.p4
  have r0 := h.r0
  have r1 := h.r1
  have r2 := h.r2
  obtain ⟨hvc1, hvc2⟩ := h.vcap
  have hll := h.llen
  simp only [maxLen] at hk2 hg2 hvc2
  replace hQ := Lib.hid hQ
  replace hP := Lib.hid hP
  replace h := Lib.hid h
  replace hB := Lib.hid hB
  replace hO := Lib.hid hO
  obtain ⟨kb, gb, rfl, rfl, e0, e1, f0, f1, hjl⟩ := h.out.place he
  rw [heg] at e1
  have hmem := List.mem_of_getElem? he
  have heb := h.out.two.bok.byt e hmem
  have hel := h.out.two.bok.small e hmem
  obtain ⟨eA, ec, hev, hec1, hec2, heA⟩ := heb.form
  simp only [maxLen] at hec2
  rw [hev] at e0
  have herd := heb.rd
  rw [hev] at herd
  have hjw : IntKind.i64.wrap (j : Int) = j := by rw [IntKind.wrap_i64]; omega
  have hj0 : (0 : Int) ≤ j := by omega
  have hjl2 : (j : Int) < ln := by omega
  obtain ⟨el, hell⟩ : ∃ el, el = e.l.length := ⟨_, rfl⟩
  rw [← hell] at hev hec1 hel heA e0 herd
  have hlen := Lib.hid h.out.len
  replace he := Lib.hid he
  replace heb := Lib.hid heb
  replace hev := Lib.hid hev
  replace herd := Lib.hid herd
  replace heg := Lib.hid heg
  replace hell := Lib.hid hell
  clear hmem
  conv => arg 2; whnf
  go_wp2
  refine (hQ.out _ _ _ _ _ _ _ _ _ _ _ _ _ _ _ _ _ _ _ _ _ _ _ _ _ _ _ _ _ _ _ _ _ _ _ _ _ _ _ _ _ _ _ _ _ _ _ _ _ _ _ _ _ _ _ _ _ _ _ _ _ _ _ _ _ _ _ _ _ _ _ _ _ _ _ _ _ _ _ _ _ _ _ _ _ _ _ _ _ _ _ _ _ _ _ _ _ _ _ _ _ _ _ _ _ _ _ _ _ _ _ _ _ _ _ _ _ _ _ _ _ _ _ _ _ _ _ _ _ _ _ _ _ _ _ _ _ _ _ _ _ _ _ _ _ _ _ _ _ _ _ _ _ _ _ _ _ _ _ _ _ _ _ _ _ _ _ _ _ _ _ _ _ _ _ _ _ _ _ _ _ _ _ _ _ _ _ _ _ _ _ _ _ ?_).1
  exact ⟨W', es, h.out.same, h.out.two, by rw [h.out.abs]; exact hB.out, by rw [h.out.abs]; exact hO.out⟩


end Go.Proofs.Ytfnlemdlngdaiaa
