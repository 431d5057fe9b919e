/-
  WireRow: the round's end, from the switch over the call's kind on.
-/
import Derived.Test.YtfnlemdlngdaiaaBkC
namespace Go.Proofs.Ytfnlemdlngdaiaa
open Go.RowKit

def headRegion : Code → Option Nat
  | .region r _ _ => some r
  | .seq a _ => headRegion a
  | _ => none
def suffixAt (n : Nat) : Code → Option Code
  | .seq a b => match headRegion a with
    | some r => if r = n then some (.seq a b) else match suffixAt n a with
      | some c => some c
      | none => suffixAt n b
    | none => match suffixAt n a with
      | some c => some c
      | none => suffixAt n b
  | .block _ c => suffixAt n c
  | .loop c => suffixAt n c
  | .scope c => suffixAt n c
  | .cond _ a b => match suffixAt n a with
    | some c => some c
    | none => suffixAt n b
  | _ => none
noncomputable def tail11 : Code := (Try.f11.body.bind (suffixAt 17)).getD .skip

/-- What a round leaves. -/
def RowRel (w0 : World) (p : Nat) (kv gv : Value) (w' : World) : Prop := ∃ (W' : Wr) (es' : List BkE), W'.p = p ∧ Three w0 w' W' kv gv es' ∧ BSim (bAbs es') W'.abs ∧ W'.abs.Ok
/-- Where the round's tail begins. -/
structure RowAt (w0 w5 : World) (p : Nat) (W' : Wr) (es : List BkE) (kA : Option Addr) (ln kc : Nat) (gA : Option Addr) (gd : Nat) (s' : WA) (H H2 : Nat) (kd n m kk tn te : Int) (vA : Option Addr) (vc : Nat) (l : List UInt8) (A1 : Option Addr) (x1 : Nat) (tb : List UInt8) : Prop where
  two : Three w0 w5 W' (.slice kA ln kc) (.slice gA ln gd) es
  same : W'.p = p
  len : ln = es.length
  abs : W'.abs = s'
  p0 : w5.cell? ⟨H, 0, none⟩ = some (.int .i64 kd)
  p1 : w5.cell? ⟨H, 1, none⟩ = some (.int .i64 n)
  p2 : w5.cell? ⟨H, 2, none⟩ = some (.int .i64 m)
  p3 : w5.cell? ⟨H, 3, none⟩ = some (.int .i64 kk)
  p4 : w5.cell? ⟨H, 4, none⟩ = some (.slice vA l.length vc)
  r0 : w5.cell? ⟨H2, 0, none⟩ = some (.int .i64 tn)
  r1 : w5.cell? ⟨H2, 1, none⟩ = some (.slice A1 tb.length x1)
  r2 : w5.cell? ⟨H2, 2, none⟩ = some (.int .i64 te)
  src : RdB w5 (.slice vA l.length vc) l
  told : RdB w5 (.slice A1 tb.length x1) tb
  vcap : l.length ≤ vc ∧ vc ≤ maxLen
  llen : l.length ≤ 140737488351232
theorem RowAt.facts {w0 w5 : World} {p : Nat} {W' : Wr} {es : List BkE} {kA : Option Addr} {ln kc : Nat} {gA : Option Addr} {gd : Nat} {s' : WA} {H H2 : Nat} {kd n m kk tn te : Int} {vA : Option Addr} {vc : Nat} {l : List UInt8} {A1 : Option Addr} {x1 : Nat} {tb : List UInt8}
    (h : RowAt w0 w5 p W' es kA ln kc gA gd s' H H2 kd n m kk tn te vA vc l A1 x1 tb) : ln ≤ 4096 ∧ ln ≤ kc ∧ kc ≤ maxLen ∧ ln ≤ gd ∧ gd ≤ maxLen := by
  have hm := h.two.bok.most
  obtain ⟨A, c, G, d, e1, e2, h1, h2, h3, h4, -⟩ := h.two.bok.open_
  have hl := h.len
  simp only [Value.slice.injEq] at e1 e2
  obtain ⟨-, -, rfl⟩ := e1
  obtain ⟨-, -, rfl⟩ := e2
  omega
theorem RowAt.place {w0 w5 : World} {p : Nat} {W' : Wr} {es : List BkE} {kA : Option Addr} {ln kc : Nat} {gA : Option Addr} {gd : Nat} {s' : WA} {H H2 : Nat} {kd n m kk tn te : Int} {vA : Option Addr} {vc : Nat} {l : List UInt8} {A1 : Option Addr} {x1 : Nat} {tb : List UInt8} {j : Nat} {e : BkE}
    (h : RowAt w0 w5 p W' es kA ln kc gA gd s' H H2 kd n m kk tn te vA vc l A1 x1 tb) (he : es[j]? = some e) : ∃ kb gb, kA = some ⟨kb, 0, none⟩ ∧ gA = some ⟨gb, 0, none⟩ ∧ w5.cell? ⟨kb, j, none⟩ = some e.v ∧ w5.cell? ⟨gb, j, none⟩ = some (.bool e.g) ∧ w5.frozen? ⟨kb, j, none⟩ = false ∧ w5.frozen? ⟨gb, j, none⟩ = false ∧ j < ln := by
  obtain ⟨A, c, G, d, e1, e2, -, -, -, -, hat⟩ := h.two.bok.open_
  have hl := h.len
  simp only [Value.slice.injEq] at e1 e2
  obtain ⟨rfl, -, -⟩ := e1
  obtain ⟨rfl, -, -⟩ := e2
  obtain ⟨kb, gb, h1, h2, h3, h4, h5, h6⟩ := hat j e he
  exact ⟨kb, gb, h1, h2, h3, h4, h5, h6, by rw [hl]; exact (List.getElem?_eq_some_iff.1 he).1⟩


theorem Try.info24 : (Try.prog.info? 24).map (fun i => (i.zero, i.size, i.bytes)) = some (some (.slice none 0 0), 1, 24) := by kernel_rfl
theorem Try.info4 : (Try.prog.info? 4).map (fun i => (i.zero, i.size, i.bytes)) = some (some (.bool false), 1, 1) := by kernel_rfl
theorem one_val (v : Value) (h : v.oneCell' = true) : ∀ u ∈ [v], u.oneCell' = true := by
  intro u hu
  simp only [List.mem_singleton] at hu
  subst hu
  exact h
theorem push_fin {w0 w5 w6 w7 w8 : World} {W : Wr} {kv gv kv' gv' v' : Value} {es : List BkE} {l : List UInt8} {o1 o2 : Obj} (hT : Three w0 w5 W kv gv es) (hu6 : Upd noBlk w5 w6) (hv : OwnB w5.heap.size w6 v' l)
    (hrow7 : w7.ownsRow 0 24 1 kv' (es.length + 1) (bVals es ++ [v'])) (hg7 : (w6.alloc o1).grownBy w7 kv.ownBlock) (hat7 : kv'.ownBlock = kv.ownBlock ∨ kv'.ownBlock = some (w6.alloc o1).heap.size)
    (hrow8 : w8.ownsRow 0 4 1 gv' (es.length + 1) (gVals es ++ [.bool false])) (hg8 : (w7.alloc o2).grownBy w8 gv.ownBlock) (hat8 : gv'.ownBlock = gv.ownBlock ∨ gv'.ownBlock = some (w7.alloc o2).heap.size)
    (hl : l.length ≤ 1048576) (hm : es.length < 4096) : Three w0 w8 W kv' gv' (es ++ [⟨v', l, false⟩]) := by
  have u57 : Upd (fun k => kv.ownBlock = some k) w5 w7 := ((hu6.alloc o1).of_none (fun k => kv.ownBlock = some k)).grown hg7 fun k hk => .inl hk
  have u78 : Upd (fun k => gv.ownBlock = some k) w7 w8 := ((Upd.refl (fun k => gv.ownBlock = some k) w7).alloc o2).grown hg8 fun k hk => .inl hk
  have u58 : Upd (fun k => kv.ownBlock = some k ∨ gv.ownBlock = some k) w5 w8 := (u57.mono fun _ _ h => .inl h).trans_same (u78.mono fun _ _ h => .inr h)
  have hkl : ∀ k, kv.ownBlock = some k → k < w5.heap.size := fun k hk => (hT.bok.row.lt k hk).2
  have hgl : ∀ k, gv.ownBlock = some k → k < w5.heap.size := fun k hk => (hT.bok.gon.lt k hk).2
  have s6 : w5.heap.size ≤ (w6.alloc o1).heap.size := (hu6.alloc o1).size
  have s7 : w5.heap.size ≤ (w7.alloc o2).heap.size := ((u57.mono fun _ _ h => h).alloc o2).size
  have hk' : ∀ k, kv'.ownBlock = some k → kv.ownBlock = some k ∨ w5.heap.size ≤ k := fun k hk => by
    rcases hat7 with h | h
    · exact .inl (by rw [← h]; exact hk)
    · rw [h] at hk
      have : (w6.alloc o1).heap.size = k := by simpa using hk
      exact .inr (by omega)
  have hg' : ∀ k, gv'.ownBlock = some k → gv.ownBlock = some k ∨ w5.heap.size ≤ k := fun k hk => by
    rcases hat8 with h | h
    · exact .inl (by rw [← h]; exact hk)
    · rw [h] at hk
      have : (w7.alloc o2).heap.size = k := by simpa using hk
      exact .inr (by omega)
  have u67 : Upd (fun k => kv.ownBlock = some k) w6 w7 := ((Upd.refl (fun k => kv.ownBlock = some k) w6).alloc o1).grown hg7 fun k hk => .inl hk
  have u68 : Upd (fun k => kv.ownBlock = some k ∨ gv.ownBlock = some k) w6 w8 := (u67.mono fun _ _ h => .inl h).trans_same (u78.mono fun _ _ h => .inr h)
  have hv8 : EB w8 v' l := hv.eb.upd u68 fun k hk hS => by
    have h1 := hv.ge k hk
    rcases hS with h2 | h2
    · have := hkl k h2; omega
    · have := hgl k h2; omega
  have hrow8' : w8.ownsRow 0 24 1 kv' (es.length + 1) (bVals es ++ [v']) := own_upd hrow7 u78 fun k hk hg => by
    rcases hk' k hk with h | h
    · exact own_own_ne hT.bok.row hT.bok.gon (by decide) h hg
    · have := hgl k hg; omega
  refine hT.stepB (hT.bok.push u58 hrow8' hrow8 hv8 hv.ge hl hm) (u58.mono fun k _ hk => hk.elim .inl fun h => .inr (.inl h)) ?_
  rintro k (hk | hk | ⟨e, he, hk⟩)
  · exact (hk' k hk).imp .inl id
  · exact (hg' k hk).imp (fun h => .inr (.inl h)) id
  · simp only [List.mem_append, List.mem_singleton] at he
    rcases he with he | rfl
    · exact .inl (.inr (.inr ⟨e, he, hk⟩))
    · exact .inr (hv.ge k hk)

set_option maxRecDepth 1000000 in
set_option maxHeartbeats 4000000 in
theorem tail_9 (w0 w5 : World) (p : Nat) (W' : Wr) (es : List BkE) (kA : Option Addr) (ln kc : Nat) (gA : Option Addr) (gd : Nat) (s' : WA) (H H2 : Nat) (kd n m kk tn te : Int) (vA : Option Addr) (vc : Nat) (l : List UInt8) (A1 : Option Addr) (x1 : Nat) (tb : List UInt8) (tb0 : Bool) (Q : Exit → Act → World → Prop) (c0 c1 c3 c4 c5 c8 c12 c14 c15 c16 c17 c18 c19 c20 c21 c22 c23 c24 c25 c26 c27 c28 c29 c30 c31 c32 c33 c34 c35 c36 c37 c38 c39 c40 c41 c42 c43 c44 c45 c46 c47 c48 c49 c50 c51 c52 c53 c54 c55 c56 c57 c58 c59 c60 c61 c62 c63 c64 c65 c66 c67 c68 c69 c70 c259 c260 c261 c262 c263 u2 u13 u71 u72 u73 u74 u75 u76 u77 u78 u79 u80 u81 u82 u83 u84 u85 u86 u87 u88 u89 u90 u91 u92 u93 u94 u95 u96 u97 u98 u99 u100 u101 u102 u103 u104 u105 u106 u107 u108 u109 u110 u111 u112 u113 u114 u115 u116 u117 u118 u119 u120 u121 u122 u123 u124 u125 u126 u127 u128 u129 u130 u131 u132 u133 u134 u135 u136 u137 u138 u139 u140 u141 u142 u143 u144 u145 u146 u147 u148 u149 u150 u151 u152 u153 u154 u155 u156 u157 u158 u159 u160 u161 u162 u163 u164 u165 u166 u167 u168 u169 u170 u171 u172 u173 u174 u175 u176 u177 u178 u179 u180 u181 u182 u183 u184 u185 u186 u187 u188 u189 u190 u191 u192 u193 u194 u195 u196 u197 u198 u199 u200 u201 u202 u203 u204 u205 u206 u207 u208 u209 u210 u211 u212 u213 u214 u215 u216 u217 u218 u219 u220 u221 u222 u223 u224 u225 u226 u227 u228 u229 u230 u231 u232 u233 u234 u235 u236 u237 u238 u239 u240 u241 u242 u243 u244 u245 u246 u247 u248 u249 u250 u251 u252 u253 u254 u255 u256 u257 u258 : Value)
    (h : RowAt w0 w5 p W' es kA ln kc gA gd s' H H2 kd n m kk tn te vA vc l A1 x1 tb) (hkd : kd = 9) (hB : BSim (bAbs es) s') (hO : s'.Ok)
    (hP : ∀ (c : _) (d : Option Tmp) (v : Value) (a : Act) (w' : World), Q (.panic c) (a.put d v) w' → Q (.panic c) a w')
    (hQ : ∀ (kv gv : Value) (v2 v13 v71 v72 v73 v74 v75 v76 v77 v78 v79 v80 v81 v82 v83 v84 v85 v86 v87 v88 v89 v90 v91 v92 v93 v94 v95 v96 v97 v98 v99 v100 v101 v102 v103 v104 v105 v106 v107 v108 v109 v110 v111 v112 v113 v114 v115 v116 v117 v118 v119 v120 v121 v122 v123 v124 v125 v126 v127 v128 v129 v130 v131 v132 v133 v134 v135 v136 v137 v138 v139 v140 v141 v142 v143 v144 v145 v146 v147 v148 v149 v150 v151 v152 v153 v154 v155 v156 v157 v158 v159 v160 v161 v162 v163 v164 v165 v166 v167 v168 v169 v170 v171 v172 v173 v174 v175 v176 v177 v178 v179 v180 v181 v182 v183 v184 v185 v186 v187 v188 v189 v190 v191 v192 v193 v194 v195 v196 v197 v198 v199 v200 v201 v202 v203 v204 v205 v206 v207 v208 v209 v210 v211 v212 v213 v214 v215 v216 v217 v218 v219 v220 v221 v222 v223 v224 v225 v226 v227 v228 v229 v230 v231 v232 v233 v234 v235 v236 v237 v238 v239 v240 v241 v242 v243 v244 v245 v246 v247 v248 v249 v250 v251 v252 v253 v254 v255 v256 v257 v258 : Value) (w' : World), RowRel w0 p kv gv w' → Q .normal ⟨#[c0, c1, v2, c3, c4, c5, kv, gv, c8, (.pointer (some ⟨H, 0, none⟩)), (.bool tb0), (.pointer (some ⟨H2, 0, none⟩)), c12, v13, c14, c15, c16, c17, c18, c19, c20, c21, c22, c23, c24, c25, c26, c27, c28, c29, c30, c31, c32, c33, c34, c35, c36, c37, c38, c39, c40, c41, c42, c43, c44, c45, c46, c47, c48, c49, c50, c51, c52, c53, c54, c55, c56, c57, c58, c59, c60, c61, c62, c63, c64, c65, c66, c67, c68, c69, c70, v71, v72, v73, v74, v75, v76, v77, v78, v79, v80, v81, v82, v83, v84, v85, v86, v87, v88, v89, v90, v91, v92, v93, v94, v95, v96, v97, v98, v99, v100, v101, v102, v103, v104, v105, v106, v107, v108, v109, v110, v111, v112, v113, v114, v115, v116, v117, v118, v119, v120, v121, v122, v123, v124, v125, v126, v127, v128, v129, v130, v131, v132, v133, v134, v135, v136, v137, v138, v139, v140, v141, v142, v143, v144, v145, v146, v147, v148, v149, v150, v151, v152, v153, v154, v155, v156, v157, v158, v159, v160, v161, v162, v163, v164, v165, v166, v167, v168, v169, v170, v171, v172, v173, v174, v175, v176, v177, v178, v179, v180, v181, v182, v183, v184, v185, v186, v187, v188, v189, v190, v191, v192, v193, v194, v195, v196, v197, v198, v199, v200, v201, v202, v203, v204, v205, v206, v207, v208, v209, v210, v211, v212, v213, v214, v215, v216, v217, v218, v219, v220, v221, v222, v223, v224, v225, v226, v227, v228, v229, v230, v231, v232, v233, v234, v235, v236, v237, v238, v239, v240, v241, v242, v243, v244, v245, v246, v247, v248, v249, v250, v251, v252, v253, v254, v255, v256, v257, v258, c259, c260, c261, c262, c263], []⟩ w' ∧ Q (.exit 1) ⟨#[c0, c1, v2, c3, c4, c5, kv, gv, c8, (.pointer (some ⟨H, 0, none⟩)), (.bool tb0), (.pointer (some ⟨H2, 0, none⟩)), c12, v13, c14, c15, c16, c17, c18, c19, c20, c21, c22, c23, c24, c25, c26, c27, c28, c29, c30, c31, c32, c33, c34, c35, c36, c37, c38, c39, c40, c41, c42, c43, c44, c45, c46, c47, c48, c49, c50, c51, c52, c53, c54, c55, c56, c57, c58, c59, c60, c61, c62, c63, c64, c65, c66, c67, c68, c69, c70, v71, v72, v73, v74, v75, v76, v77, v78, v79, v80, v81, v82, v83, v84, v85, v86, v87, v88, v89, v90, v91, v92, v93, v94, v95, v96, v97, v98, v99, v100, v101, v102, v103, v104, v105, v106, v107, v108, v109, v110, v111, v112, v113, v114, v115, v116, v117, v118, v119, v120, v121, v122, v123, v124, v125, v126, v127, v128, v129, v130, v131, v132, v133, v134, v135, v136, v137, v138, v139, v140, v141, v142, v143, v144, v145, v146, v147, v148, v149, v150, v151, v152, v153, v154, v155, v156, v157, v158, v159, v160, v161, v162, v163, v164, v165, v166, v167, v168, v169, v170, v171, v172, v173, v174, v175, v176, v177, v178, v179, v180, v181, v182, v183, v184, v185, v186, v187, v188, v189, v190, v191, v192, v193, v194, v195, v196, v197, v198, v199, v200, v201, v202, v203, v204, v205, v206, v207, v208, v209, v210, v211, v212, v213, v214, v215, v216, v217, v218, v219, v220, v221, v222, v223, v224, v225, v226, v227, v228, v229, v230, v231, v232, v233, v234, v235, v236, v237, v238, v239, v240, v241, v242, v243, v244, v245, v246, v247, v248, v249, v250, v251, v252, v253, v254, v255, v256, v257, v258, c259, c260, c261, c262, c263], []⟩ w') :
    Code.wp Try.prog tail11 Q ⟨#[c0, c1, u2, c3, c4, c5, (.slice kA ln kc), (.slice gA ln gd), c8, (.pointer (some ⟨H, 0, none⟩)), (.bool tb0), (.pointer (some ⟨H2, 0, none⟩)), c12, u13, c14, c15, c16, c17, c18, c19, c20, c21, c22, c23, c24, c25, c26, c27, c28, c29, c30, c31, c32, c33, c34, c35, c36, c37, c38, c39, c40, c41, c42, c43, c44, c45, c46, c47, c48, c49, c50, c51, c52, c53, c54, c55, c56, c57, c58, c59, c60, c61, c62, c63, c64, c65, c66, c67, c68, c69, c70, u71, u72, u73, u74, u75, u76, u77, u78, u79, u80, u81, u82, u83, u84, u85, u86, u87, u88, u89, u90, u91, u92, u93, u94, u95, u96, u97, u98, u99, u100, u101, u102, u103, u104, u105, u106, u107, u108, u109, u110, u111, u112, u113, u114, u115, u116, u117, u118, u119, u120, u121, u122, u123, u124, u125, u126, u127, u128, u129, u130, u131, u132, u133, u134, u135, u136, u137, u138, u139, u140, u141, u142, u143, u144, u145, u146, u147, u148, u149, u150, u151, u152, u153, u154, u155, u156, u157, u158, u159, u160, u161, u162, u163, u164, u165, u166, u167, u168, u169, u170, u171, u172, u173, u174, u175, u176, u177, u178, u179, u180, u181, u182, u183, u184, u185, u186, u187, u188, u189, u190, u191, u192, u193, u194, u195, u196, u197, u198, u199, u200, u201, u202, u203, u204, u205, u206, u207, u208, u209, u210, u211, u212, u213, u214, u215, u216, u217, u218, u219, u220, u221, u222, u223, u224, u225, u226, u227, u228, u229, u230, u231, u232, u233, u234, u235, u236, u237, u238, u239, u240, u241, u242, u243, u244, u245, u246, u247, u248, u249, u250, u251, u252, u253, u254, u255, u256, u257, u258, c259, c260, c261, c262, c263], []⟩ w5 := by
  subst hkd
  obtain ⟨hmo, hk1, hk2, hg1, hg2⟩ := h.facts
  have p0 := h.p0
  have p1 := h.p1
  have p2 := h.p2
  have p3 := h.p3
  have p4 := h.p4
  have r0 := h.r0
  have r1 := h.r1
  have r2 := h.r2
  obtain ⟨hvc1, hvc2⟩ := h.vcap
  have hll := h.llen
  simp only [maxLen] at hk2 hg2 hvc2
  replace hQ := Lib.hid hQ
  replace hP := Lib.hid hP
  replace h := Lib.hid h
  replace hB := Lib.hid hB
  replace hO := Lib.hid hO
  conv => arg 2; whnf
  go_wp2
  refine (hQ.out _ _ _ _ _ _ _ _ _ _ _ _ _ _ _ _ _ _ _ _ _ _ _ _ _ _ _ _ _ _ _ _ _ _ _ _ _ _ _ _ _ _ _ _ _ _ _ _ _ _ _ _ _ _ _ _ _ _ _ _ _ _ _ _ _ _ _ _ _ _ _ _ _ _ _ _ _ _ _ _ _ _ _ _ _ _ _ _ _ _ _ _ _ _ _ _ _ _ _ _ _ _ _ _ _ _ _ _ _ _ _ _ _ _ _ _ _ _ _ _ _ _ _ _ _ _ _ _ _ _ _ _ _ _ _ _ _ _ _ _ _ _ _ _ _ _ _ _ _ _ _ _ _ _ _ _ _ _ _ _ _ _ _ _ _ _ _ _ _ _ _ _ _ _ _ _ _ _ _ _ _ _ _ _ _ _ _ _ _ _ _ _ _ ?_).2
  exact ⟨W', es, h.out.same, h.out.two, by rw [h.out.abs]; exact hB.out, by rw [h.out.abs]; exact hO.out⟩


set_option maxRecDepth 1000000 in
set_option maxHeartbeats 4000000 in
theorem tail_10 (w0 w5 : World) (p : Nat) (W' : Wr) (es : List BkE) (kA : Option Addr) (ln kc : Nat) (gA : Option Addr) (gd : Nat) (s' : WA) (H H2 : Nat) (kd n m kk tn te : Int) (vA : Option Addr) (vc : Nat) (l : List UInt8) (A1 : Option Addr) (x1 : Nat) (tb : List UInt8) (tb0 : Bool) (Q : Exit → Act → World → Prop) (c0 c1 c3 c4 c5 c8 c12 c14 c15 c16 c17 c18 c19 c20 c21 c22 c23 c24 c25 c26 c27 c28 c29 c30 c31 c32 c33 c34 c35 c36 c37 c38 c39 c40 c41 c42 c43 c44 c45 c46 c47 c48 c49 c50 c51 c52 c53 c54 c55 c56 c57 c58 c59 c60 c61 c62 c63 c64 c65 c66 c67 c68 c69 c70 c259 c260 c261 c262 c263 u2 u13 u71 u72 u73 u74 u75 u76 u77 u78 u79 u80 u81 u82 u83 u84 u85 u86 u87 u88 u89 u90 u91 u92 u93 u94 u95 u96 u97 u98 u99 u100 u101 u102 u103 u104 u105 u106 u107 u108 u109 u110 u111 u112 u113 u114 u115 u116 u117 u118 u119 u120 u121 u122 u123 u124 u125 u126 u127 u128 u129 u130 u131 u132 u133 u134 u135 u136 u137 u138 u139 u140 u141 u142 u143 u144 u145 u146 u147 u148 u149 u150 u151 u152 u153 u154 u155 u156 u157 u158 u159 u160 u161 u162 u163 u164 u165 u166 u167 u168 u169 u170 u171 u172 u173 u174 u175 u176 u177 u178 u179 u180 u181 u182 u183 u184 u185 u186 u187 u188 u189 u190 u191 u192 u193 u194 u195 u196 u197 u198 u199 u200 u201 u202 u203 u204 u205 u206 u207 u208 u209 u210 u211 u212 u213 u214 u215 u216 u217 u218 u219 u220 u221 u222 u223 u224 u225 u226 u227 u228 u229 u230 u231 u232 u233 u234 u235 u236 u237 u238 u239 u240 u241 u242 u243 u244 u245 u246 u247 u248 u249 u250 u251 u252 u253 u254 u255 u256 u257 u258 : Value)
    (h : RowAt w0 w5 p W' es kA ln kc gA gd s' H H2 kd n m kk tn te vA vc l A1 x1 tb) (hkd : kd = 10) (hB : BSim (bAbs es) s') (hO : s'.Ok)
    (hP : ∀ (c : _) (d : Option Tmp) (v : Value) (a : Act) (w' : World), Q (.panic c) (a.put d v) w' → Q (.panic c) a w')
    (hQ : ∀ (kv gv : Value) (v2 v13 v71 v72 v73 v74 v75 v76 v77 v78 v79 v80 v81 v82 v83 v84 v85 v86 v87 v88 v89 v90 v91 v92 v93 v94 v95 v96 v97 v98 v99 v100 v101 v102 v103 v104 v105 v106 v107 v108 v109 v110 v111 v112 v113 v114 v115 v116 v117 v118 v119 v120 v121 v122 v123 v124 v125 v126 v127 v128 v129 v130 v131 v132 v133 v134 v135 v136 v137 v138 v139 v140 v141 v142 v143 v144 v145 v146 v147 v148 v149 v150 v151 v152 v153 v154 v155 v156 v157 v158 v159 v160 v161 v162 v163 v164 v165 v166 v167 v168 v169 v170 v171 v172 v173 v174 v175 v176 v177 v178 v179 v180 v181 v182 v183 v184 v185 v186 v187 v188 v189 v190 v191 v192 v193 v194 v195 v196 v197 v198 v199 v200 v201 v202 v203 v204 v205 v206 v207 v208 v209 v210 v211 v212 v213 v214 v215 v216 v217 v218 v219 v220 v221 v222 v223 v224 v225 v226 v227 v228 v229 v230 v231 v232 v233 v234 v235 v236 v237 v238 v239 v240 v241 v242 v243 v244 v245 v246 v247 v248 v249 v250 v251 v252 v253 v254 v255 v256 v257 v258 : Value) (w' : World), RowRel w0 p kv gv w' → Q .normal ⟨#[c0, c1, v2, c3, c4, c5, kv, gv, c8, (.pointer (some ⟨H, 0, none⟩)), (.bool tb0), (.pointer (some ⟨H2, 0, none⟩)), c12, v13, c14, c15, c16, c17, c18, c19, c20, c21, c22, c23, c24, c25, c26, c27, c28, c29, c30, c31, c32, c33, c34, c35, c36, c37, c38, c39, c40, c41, c42, c43, c44, c45, c46, c47, c48, c49, c50, c51, c52, c53, c54, c55, c56, c57, c58, c59, c60, c61, c62, c63, c64, c65, c66, c67, c68, c69, c70, v71, v72, v73, v74, v75, v76, v77, v78, v79, v80, v81, v82, v83, v84, v85, v86, v87, v88, v89, v90, v91, v92, v93, v94, v95, v96, v97, v98, v99, v100, v101, v102, v103, v104, v105, v106, v107, v108, v109, v110, v111, v112, v113, v114, v115, v116, v117, v118, v119, v120, v121, v122, v123, v124, v125, v126, v127, v128, v129, v130, v131, v132, v133, v134, v135, v136, v137, v138, v139, v140, v141, v142, v143, v144, v145, v146, v147, v148, v149, v150, v151, v152, v153, v154, v155, v156, v157, v158, v159, v160, v161, v162, v163, v164, v165, v166, v167, v168, v169, v170, v171, v172, v173, v174, v175, v176, v177, v178, v179, v180, v181, v182, v183, v184, v185, v186, v187, v188, v189, v190, v191, v192, v193, v194, v195, v196, v197, v198, v199, v200, v201, v202, v203, v204, v205, v206, v207, v208, v209, v210, v211, v212, v213, v214, v215, v216, v217, v218, v219, v220, v221, v222, v223, v224, v225, v226, v227, v228, v229, v230, v231, v232, v233, v234, v235, v236, v237, v238, v239, v240, v241, v242, v243, v244, v245, v246, v247, v248, v249, v250, v251, v252, v253, v254, v255, v256, v257, v258, c259, c260, c261, c262, c263], []⟩ w' ∧ Q (.exit 1) ⟨#[c0, c1, v2, c3, c4, c5, kv, gv, c8, (.pointer (some ⟨H, 0, none⟩)), (.bool tb0), (.pointer (some ⟨H2, 0, none⟩)), c12, v13, c14, c15, c16, c17, c18, c19, c20, c21, c22, c23, c24, c25, c26, c27, c28, c29, c30, c31, c32, c33, c34, c35, c36, c37, c38, c39, c40, c41, c42, c43, c44, c45, c46, c47, c48, c49, c50, c51, c52, c53, c54, c55, c56, c57, c58, c59, c60, c61, c62, c63, c64, c65, c66, c67, c68, c69, c70, v71, v72, v73, v74, v75, v76, v77, v78, v79, v80, v81, v82, v83, v84, v85, v86, v87, v88, v89, v90, v91, v92, v93, v94, v95, v96, v97, v98, v99, v100, v101, v102, v103, v104, v105, v106, v107, v108, v109, v110, v111, v112, v113, v114, v115, v116, v117, v118, v119, v120, v121, v122, v123, v124, v125, v126, v127, v128, v129, v130, v131, v132, v133, v134, v135, v136, v137, v138, v139, v140, v141, v142, v143, v144, v145, v146, v147, v148, v149, v150, v151, v152, v153, v154, v155, v156, v157, v158, v159, v160, v161, v162, v163, v164, v165, v166, v167, v168, v169, v170, v171, v172, v173, v174, v175, v176, v177, v178, v179, v180, v181, v182, v183, v184, v185, v186, v187, v188, v189, v190, v191, v192, v193, v194, v195, v196, v197, v198, v199, v200, v201, v202, v203, v204, v205, v206, v207, v208, v209, v210, v211, v212, v213, v214, v215, v216, v217, v218, v219, v220, v221, v222, v223, v224, v225, v226, v227, v228, v229, v230, v231, v232, v233, v234, v235, v236, v237, v238, v239, v240, v241, v242, v243, v244, v245, v246, v247, v248, v249, v250, v251, v252, v253, v254, v255, v256, v257, v258, c259, c260, c261, c262, c263], []⟩ w') :
    Code.wp Try.prog tail11 Q ⟨#[c0, c1, u2, c3, c4, c5, (.slice kA ln kc), (.slice gA ln gd), c8, (.pointer (some ⟨H, 0, none⟩)), (.bool tb0), (.pointer (some ⟨H2, 0, none⟩)), c12, u13, c14, c15, c16, c17, c18, c19, c20, c21, c22, c23, c24, c25, c26, c27, c28, c29, c30, c31, c32, c33, c34, c35, c36, c37, c38, c39, c40, c41, c42, c43, c44, c45, c46, c47, c48, c49, c50, c51, c52, c53, c54, c55, c56, c57, c58, c59, c60, c61, c62, c63, c64, c65, c66, c67, c68, c69, c70, u71, u72, u73, u74, u75, u76, u77, u78, u79, u80, u81, u82, u83, u84, u85, u86, u87, u88, u89, u90, u91, u92, u93, u94, u95, u96, u97, u98, u99, u100, u101, u102, u103, u104, u105, u106, u107, u108, u109, u110, u111, u112, u113, u114, u115, u116, u117, u118, u119, u120, u121, u122, u123, u124, u125, u126, u127, u128, u129, u130, u131, u132, u133, u134, u135, u136, u137, u138, u139, u140, u141, u142, u143, u144, u145, u146, u147, u148, u149, u150, u151, u152, u153, u154, u155, u156, u157, u158, u159, u160, u161, u162, u163, u164, u165, u166, u167, u168, u169, u170, u171, u172, u173, u174, u175, u176, u177, u178, u179, u180, u181, u182, u183, u184, u185, u186, u187, u188, u189, u190, u191, u192, u193, u194, u195, u196, u197, u198, u199, u200, u201, u202, u203, u204, u205, u206, u207, u208, u209, u210, u211, u212, u213, u214, u215, u216, u217, u218, u219, u220, u221, u222, u223, u224, u225, u226, u227, u228, u229, u230, u231, u232, u233, u234, u235, u236, u237, u238, u239, u240, u241, u242, u243, u244, u245, u246, u247, u248, u249, u250, u251, u252, u253, u254, u255, u256, u257, u258, c259, c260, c261, c262, c263], []⟩ w5 := by
  subst hkd
  obtain ⟨hmo, hk1, hk2, hg1, hg2⟩ := h.facts
  have p0 := h.p0
  have p1 := h.p1
  have p2 := h.p2
  have p3 := h.p3
  have p4 := h.p4
  have r0 := h.r0
  have r1 := h.r1
  have r2 := h.r2
  obtain ⟨hvc1, hvc2⟩ := h.vcap
  have hll := h.llen
  simp only [maxLen] at hk2 hg2 hvc2
  replace hQ := Lib.hid hQ
  replace hP := Lib.hid hP
  replace h := Lib.hid h
  replace hB := Lib.hid hB
  replace hO := Lib.hid hO
  conv => arg 2; whnf
  go_wp2
  refine (hQ.out _ _ _ _ _ _ _ _ _ _ _ _ _ _ _ _ _ _ _ _ _ _ _ _ _ _ _ _ _ _ _ _ _ _ _ _ _ _ _ _ _ _ _ _ _ _ _ _ _ _ _ _ _ _ _ _ _ _ _ _ _ _ _ _ _ _ _ _ _ _ _ _ _ _ _ _ _ _ _ _ _ _ _ _ _ _ _ _ _ _ _ _ _ _ _ _ _ _ _ _ _ _ _ _ _ _ _ _ _ _ _ _ _ _ _ _ _ _ _ _ _ _ _ _ _ _ _ _ _ _ _ _ _ _ _ _ _ _ _ _ _ _ _ _ _ _ _ _ _ _ _ _ _ _ _ _ _ _ _ _ _ _ _ _ _ _ _ _ _ _ _ _ _ _ _ _ _ _ _ _ _ _ _ _ _ _ _ _ _ _ _ _ _ ?_).2
  exact ⟨W', es, h.out.same, h.out.two, by rw [h.out.abs]; exact hB.out, by rw [h.out.abs]; exact hO.out⟩


set_option maxRecDepth 1000000 in
set_option maxHeartbeats 4000000 in
theorem tail_lo (w0 w5 : World) (p : Nat) (W' : Wr) (es : List BkE) (kA : Option Addr) (ln kc : Nat) (gA : Option Addr) (gd : Nat) (s' : WA) (H H2 : Nat) (kd n m kk tn te : Int) (vA : Option Addr) (vc : Nat) (l : List UInt8) (A1 : Option Addr) (x1 : Nat) (tb : List UInt8) (tb0 : Bool) (Q : Exit → Act → World → Prop) (c0 c1 c3 c4 c5 c8 c12 c14 c15 c16 c17 c18 c19 c20 c21 c22 c23 c24 c25 c26 c27 c28 c29 c30 c31 c32 c33 c34 c35 c36 c37 c38 c39 c40 c41 c42 c43 c44 c45 c46 c47 c48 c49 c50 c51 c52 c53 c54 c55 c56 c57 c58 c59 c60 c61 c62 c63 c64 c65 c66 c67 c68 c69 c70 c259 c260 c261 c262 c263 u2 u13 u71 u72 u73 u74 u75 u76 u77 u78 u79 u80 u81 u82 u83 u84 u85 u86 u87 u88 u89 u90 u91 u92 u93 u94 u95 u96 u97 u98 u99 u100 u101 u102 u103 u104 u105 u106 u107 u108 u109 u110 u111 u112 u113 u114 u115 u116 u117 u118 u119 u120 u121 u122 u123 u124 u125 u126 u127 u128 u129 u130 u131 u132 u133 u134 u135 u136 u137 u138 u139 u140 u141 u142 u143 u144 u145 u146 u147 u148 u149 u150 u151 u152 u153 u154 u155 u156 u157 u158 u159 u160 u161 u162 u163 u164 u165 u166 u167 u168 u169 u170 u171 u172 u173 u174 u175 u176 u177 u178 u179 u180 u181 u182 u183 u184 u185 u186 u187 u188 u189 u190 u191 u192 u193 u194 u195 u196 u197 u198 u199 u200 u201 u202 u203 u204 u205 u206 u207 u208 u209 u210 u211 u212 u213 u214 u215 u216 u217 u218 u219 u220 u221 u222 u223 u224 u225 u226 u227 u228 u229 u230 u231 u232 u233 u234 u235 u236 u237 u238 u239 u240 u241 u242 u243 u244 u245 u246 u247 u248 u249 u250 u251 u252 u253 u254 u255 u256 u257 u258 : Value)
    (h : RowAt w0 w5 p W' es kA ln kc gA gd s' H H2 kd n m kk tn te vA vc l A1 x1 tb) (hkd : kd < 1) (hB : BSim (bAbs es) s') (hO : s'.Ok)
    (hP : ∀ (c : _) (d : Option Tmp) (v : Value) (a : Act) (w' : World), Q (.panic c) (a.put d v) w' → Q (.panic c) a w')
    (hQ : ∀ (kv gv : Value) (v2 v13 v71 v72 v73 v74 v75 v76 v77 v78 v79 v80 v81 v82 v83 v84 v85 v86 v87 v88 v89 v90 v91 v92 v93 v94 v95 v96 v97 v98 v99 v100 v101 v102 v103 v104 v105 v106 v107 v108 v109 v110 v111 v112 v113 v114 v115 v116 v117 v118 v119 v120 v121 v122 v123 v124 v125 v126 v127 v128 v129 v130 v131 v132 v133 v134 v135 v136 v137 v138 v139 v140 v141 v142 v143 v144 v145 v146 v147 v148 v149 v150 v151 v152 v153 v154 v155 v156 v157 v158 v159 v160 v161 v162 v163 v164 v165 v166 v167 v168 v169 v170 v171 v172 v173 v174 v175 v176 v177 v178 v179 v180 v181 v182 v183 v184 v185 v186 v187 v188 v189 v190 v191 v192 v193 v194 v195 v196 v197 v198 v199 v200 v201 v202 v203 v204 v205 v206 v207 v208 v209 v210 v211 v212 v213 v214 v215 v216 v217 v218 v219 v220 v221 v222 v223 v224 v225 v226 v227 v228 v229 v230 v231 v232 v233 v234 v235 v236 v237 v238 v239 v240 v241 v242 v243 v244 v245 v246 v247 v248 v249 v250 v251 v252 v253 v254 v255 v256 v257 v258 : Value) (w' : World), RowRel w0 p kv gv w' → Q .normal ⟨#[c0, c1, v2, c3, c4, c5, kv, gv, c8, (.pointer (some ⟨H, 0, none⟩)), (.bool tb0), (.pointer (some ⟨H2, 0, none⟩)), c12, v13, c14, c15, c16, c17, c18, c19, c20, c21, c22, c23, c24, c25, c26, c27, c28, c29, c30, c31, c32, c33, c34, c35, c36, c37, c38, c39, c40, c41, c42, c43, c44, c45, c46, c47, c48, c49, c50, c51, c52, c53, c54, c55, c56, c57, c58, c59, c60, c61, c62, c63, c64, c65, c66, c67, c68, c69, c70, v71, v72, v73, v74, v75, v76, v77, v78, v79, v80, v81, v82, v83, v84, v85, v86, v87, v88, v89, v90, v91, v92, v93, v94, v95, v96, v97, v98, v99, v100, v101, v102, v103, v104, v105, v106, v107, v108, v109, v110, v111, v112, v113, v114, v115, v116, v117, v118, v119, v120, v121, v122, v123, v124, v125, v126, v127, v128, v129, v130, v131, v132, v133, v134, v135, v136, v137, v138, v139, v140, v141, v142, v143, v144, v145, v146, v147, v148, v149, v150, v151, v152, v153, v154, v155, v156, v157, v158, v159, v160, v161, v162, v163, v164, v165, v166, v167, v168, v169, v170, v171, v172, v173, v174, v175, v176, v177, v178, v179, v180, v181, v182, v183, v184, v185, v186, v187, v188, v189, v190, v191, v192, v193, v194, v195, v196, v197, v198, v199, v200, v201, v202, v203, v204, v205, v206, v207, v208, v209, v210, v211, v212, v213, v214, v215, v216, v217, v218, v219, v220, v221, v222, v223, v224, v225, v226, v227, v228, v229, v230, v231, v232, v233, v234, v235, v236, v237, v238, v239, v240, v241, v242, v243, v244, v245, v246, v247, v248, v249, v250, v251, v252, v253, v254, v255, v256, v257, v258, c259, c260, c261, c262, c263], []⟩ w' ∧ Q (.exit 1) ⟨#[c0, c1, v2, c3, c4, c5, kv, gv, c8, (.pointer (some ⟨H, 0, none⟩)), (.bool tb0), (.pointer (some ⟨H2, 0, none⟩)), c12, v13, c14, c15, c16, c17, c18, c19, c20, c21, c22, c23, c24, c25, c26, c27, c28, c29, c30, c31, c32, c33, c34, c35, c36, c37, c38, c39, c40, c41, c42, c43, c44, c45, c46, c47, c48, c49, c50, c51, c52, c53, c54, c55, c56, c57, c58, c59, c60, c61, c62, c63, c64, c65, c66, c67, c68, c69, c70, v71, v72, v73, v74, v75, v76, v77, v78, v79, v80, v81, v82, v83, v84, v85, v86, v87, v88, v89, v90, v91, v92, v93, v94, v95, v96, v97, v98, v99, v100, v101, v102, v103, v104, v105, v106, v107, v108, v109, v110, v111, v112, v113, v114, v115, v116, v117, v118, v119, v120, v121, v122, v123, v124, v125, v126, v127, v128, v129, v130, v131, v132, v133, v134, v135, v136, v137, v138, v139, v140, v141, v142, v143, v144, v145, v146, v147, v148, v149, v150, v151, v152, v153, v154, v155, v156, v157, v158, v159, v160, v161, v162, v163, v164, v165, v166, v167, v168, v169, v170, v171, v172, v173, v174, v175, v176, v177, v178, v179, v180, v181, v182, v183, v184, v185, v186, v187, v188, v189, v190, v191, v192, v193, v194, v195, v196, v197, v198, v199, v200, v201, v202, v203, v204, v205, v206, v207, v208, v209, v210, v211, v212, v213, v214, v215, v216, v217, v218, v219, v220, v221, v222, v223, v224, v225, v226, v227, v228, v229, v230, v231, v232, v233, v234, v235, v236, v237, v238, v239, v240, v241, v242, v243, v244, v245, v246, v247, v248, v249, v250, v251, v252, v253, v254, v255, v256, v257, v258, c259, c260, c261, c262, c263], []⟩ w') :
    Code.wp Try.prog tail11 Q ⟨#[c0, c1, u2, c3, c4, c5, (.slice kA ln kc), (.slice gA ln gd), c8, (.pointer (some ⟨H, 0, none⟩)), (.bool tb0), (.pointer (some ⟨H2, 0, none⟩)), c12, u13, c14, c15, c16, c17, c18, c19, c20, c21, c22, c23, c24, c25, c26, c27, c28, c29, c30, c31, c32, c33, c34, c35, c36, c37, c38, c39, c40, c41, c42, c43, c44, c45, c46, c47, c48, c49, c50, c51, c52, c53, c54, c55, c56, c57, c58, c59, c60, c61, c62, c63, c64, c65, c66, c67, c68, c69, c70, u71, u72, u73, u74, u75, u76, u77, u78, u79, u80, u81, u82, u83, u84, u85, u86, u87, u88, u89, u90, u91, u92, u93, u94, u95, u96, u97, u98, u99, u100, u101, u102, u103, u104, u105, u106, u107, u108, u109, u110, u111, u112, u113, u114, u115, u116, u117, u118, u119, u120, u121, u122, u123, u124, u125, u126, u127, u128, u129, u130, u131, u132, u133, u134, u135, u136, u137, u138, u139, u140, u141, u142, u143, u144, u145, u146, u147, u148, u149, u150, u151, u152, u153, u154, u155, u156, u157, u158, u159, u160, u161, u162, u163, u164, u165, u166, u167, u168, u169, u170, u171, u172, u173, u174, u175, u176, u177, u178, u179, u180, u181, u182, u183, u184, u185, u186, u187, u188, u189, u190, u191, u192, u193, u194, u195, u196, u197, u198, u199, u200, u201, u202, u203, u204, u205, u206, u207, u208, u209, u210, u211, u212, u213, u214, u215, u216, u217, u218, u219, u220, u221, u222, u223, u224, u225, u226, u227, u228, u229, u230, u231, u232, u233, u234, u235, u236, u237, u238, u239, u240, u241, u242, u243, u244, u245, u246, u247, u248, u249, u250, u251, u252, u253, u254, u255, u256, u257, u258, c259, c260, c261, c262, c263], []⟩ w5 := by
  obtain ⟨hmo, hk1, hk2, hg1, hg2⟩ := h.facts
  have p0 := h.p0
  have p1 := h.p1
  have p2 := h.p2
  have p3 := h.p3
  have p4 := h.p4
  have r0 := h.r0
  have r1 := h.r1
  have r2 := h.r2
  obtain ⟨hvc1, hvc2⟩ := h.vcap
  have hll := h.llen
  simp only [maxLen] at hk2 hg2 hvc2
  replace hQ := Lib.hid hQ
  replace hP := Lib.hid hP
  replace h := Lib.hid h
  replace hB := Lib.hid hB
  replace hO := Lib.hid hO
  have q1 : (kd == 1) = false := beq_eq_false_iff_ne.2 (by omega)
  have q9 : (kd == 9) = false := beq_eq_false_iff_ne.2 (by omega)
  have q10 : (kd == 10) = false := beq_eq_false_iff_ne.2 (by omega)
  conv => arg 2; whnf
  go_wp2
  refine (hQ.out _ _ _ _ _ _ _ _ _ _ _ _ _ _ _ _ _ _ _ _ _ _ _ _ _ _ _ _ _ _ _ _ _ _ _ _ _ _ _ _ _ _ _ _ _ _ _ _ _ _ _ _ _ _ _ _ _ _ _ _ _ _ _ _ _ _ _ _ _ _ _ _ _ _ _ _ _ _ _ _ _ _ _ _ _ _ _ _ _ _ _ _ _ _ _ _ _ _ _ _ _ _ _ _ _ _ _ _ _ _ _ _ _ _ _ _ _ _ _ _ _ _ _ _ _ _ _ _ _ _ _ _ _ _ _ _ _ _ _ _ _ _ _ _ _ _ _ _ _ _ _ _ _ _ _ _ _ _ _ _ _ _ _ _ _ _ _ _ _ _ _ _ _ _ _ _ _ _ _ _ _ _ _ _ _ _ _ _ _ _ _ _ _ ?_).2
  exact ⟨W', es, h.out.same, h.out.two, by rw [h.out.abs]; exact hB.out, by rw [h.out.abs]; exact hO.out⟩


set_option maxRecDepth 1000000 in
set_option maxHeartbeats 4000000 in
theorem tail_hi (w0 w5 : World) (p : Nat) (W' : Wr) (es : List BkE) (kA : Option Addr) (ln kc : Nat) (gA : Option Addr) (gd : Nat) (s' : WA) (H H2 : Nat) (kd n m kk tn te : Int) (vA : Option Addr) (vc : Nat) (l : List UInt8) (A1 : Option Addr) (x1 : Nat) (tb : List UInt8) (tb0 : Bool) (Q : Exit → Act → World → Prop) (c0 c1 c3 c4 c5 c8 c12 c14 c15 c16 c17 c18 c19 c20 c21 c22 c23 c24 c25 c26 c27 c28 c29 c30 c31 c32 c33 c34 c35 c36 c37 c38 c39 c40 c41 c42 c43 c44 c45 c46 c47 c48 c49 c50 c51 c52 c53 c54 c55 c56 c57 c58 c59 c60 c61 c62 c63 c64 c65 c66 c67 c68 c69 c70 c259 c260 c261 c262 c263 u2 u13 u71 u72 u73 u74 u75 u76 u77 u78 u79 u80 u81 u82 u83 u84 u85 u86 u87 u88 u89 u90 u91 u92 u93 u94 u95 u96 u97 u98 u99 u100 u101 u102 u103 u104 u105 u106 u107 u108 u109 u110 u111 u112 u113 u114 u115 u116 u117 u118 u119 u120 u121 u122 u123 u124 u125 u126 u127 u128 u129 u130 u131 u132 u133 u134 u135 u136 u137 u138 u139 u140 u141 u142 u143 u144 u145 u146 u147 u148 u149 u150 u151 u152 u153 u154 u155 u156 u157 u158 u159 u160 u161 u162 u163 u164 u165 u166 u167 u168 u169 u170 u171 u172 u173 u174 u175 u176 u177 u178 u179 u180 u181 u182 u183 u184 u185 u186 u187 u188 u189 u190 u191 u192 u193 u194 u195 u196 u197 u198 u199 u200 u201 u202 u203 u204 u205 u206 u207 u208 u209 u210 u211 u212 u213 u214 u215 u216 u217 u218 u219 u220 u221 u222 u223 u224 u225 u226 u227 u228 u229 u230 u231 u232 u233 u234 u235 u236 u237 u238 u239 u240 u241 u242 u243 u244 u245 u246 u247 u248 u249 u250 u251 u252 u253 u254 u255 u256 u257 u258 : Value)
    (h : RowAt w0 w5 p W' es kA ln kc gA gd s' H H2 kd n m kk tn te vA vc l A1 x1 tb) (hkd : 10 < kd) (hB : BSim (bAbs es) s') (hO : s'.Ok)
    (hP : ∀ (c : _) (d : Option Tmp) (v : Value) (a : Act) (w' : World), Q (.panic c) (a.put d v) w' → Q (.panic c) a w')
    (hQ : ∀ (kv gv : Value) (v2 v13 v71 v72 v73 v74 v75 v76 v77 v78 v79 v80 v81 v82 v83 v84 v85 v86 v87 v88 v89 v90 v91 v92 v93 v94 v95 v96 v97 v98 v99 v100 v101 v102 v103 v104 v105 v106 v107 v108 v109 v110 v111 v112 v113 v114 v115 v116 v117 v118 v119 v120 v121 v122 v123 v124 v125 v126 v127 v128 v129 v130 v131 v132 v133 v134 v135 v136 v137 v138 v139 v140 v141 v142 v143 v144 v145 v146 v147 v148 v149 v150 v151 v152 v153 v154 v155 v156 v157 v158 v159 v160 v161 v162 v163 v164 v165 v166 v167 v168 v169 v170 v171 v172 v173 v174 v175 v176 v177 v178 v179 v180 v181 v182 v183 v184 v185 v186 v187 v188 v189 v190 v191 v192 v193 v194 v195 v196 v197 v198 v199 v200 v201 v202 v203 v204 v205 v206 v207 v208 v209 v210 v211 v212 v213 v214 v215 v216 v217 v218 v219 v220 v221 v222 v223 v224 v225 v226 v227 v228 v229 v230 v231 v232 v233 v234 v235 v236 v237 v238 v239 v240 v241 v242 v243 v244 v245 v246 v247 v248 v249 v250 v251 v252 v253 v254 v255 v256 v257 v258 : Value) (w' : World), RowRel w0 p kv gv w' → Q .normal ⟨#[c0, c1, v2, c3, c4, c5, kv, gv, c8, (.pointer (some ⟨H, 0, none⟩)), (.bool tb0), (.pointer (some ⟨H2, 0, none⟩)), c12, v13, c14, c15, c16, c17, c18, c19, c20, c21, c22, c23, c24, c25, c26, c27, c28, c29, c30, c31, c32, c33, c34, c35, c36, c37, c38, c39, c40, c41, c42, c43, c44, c45, c46, c47, c48, c49, c50, c51, c52, c53, c54, c55, c56, c57, c58, c59, c60, c61, c62, c63, c64, c65, c66, c67, c68, c69, c70, v71, v72, v73, v74, v75, v76, v77, v78, v79, v80, v81, v82, v83, v84, v85, v86, v87, v88, v89, v90, v91, v92, v93, v94, v95, v96, v97, v98, v99, v100, v101, v102, v103, v104, v105, v106, v107, v108, v109, v110, v111, v112, v113, v114, v115, v116, v117, v118, v119, v120, v121, v122, v123, v124, v125, v126, v127, v128, v129, v130, v131, v132, v133, v134, v135, v136, v137, v138, v139, v140, v141, v142, v143, v144, v145, v146, v147, v148, v149, v150, v151, v152, v153, v154, v155, v156, v157, v158, v159, v160, v161, v162, v163, v164, v165, v166, v167, v168, v169, v170, v171, v172, v173, v174, v175, v176, v177, v178, v179, v180, v181, v182, v183, v184, v185, v186, v187, v188, v189, v190, v191, v192, v193, v194, v195, v196, v197, v198, v199, v200, v201, v202, v203, v204, v205, v206, v207, v208, v209, v210, v211, v212, v213, v214, v215, v216, v217, v218, v219, v220, v221, v222, v223, v224, v225, v226, v227, v228, v229, v230, v231, v232, v233, v234, v235, v236, v237, v238, v239, v240, v241, v242, v243, v244, v245, v246, v247, v248, v249, v250, v251, v252, v253, v254, v255, v256, v257, v258, c259, c260, c261, c262, c263], []⟩ w' ∧ Q (.exit 1) ⟨#[c0, c1, v2, c3, c4, c5, kv, gv, c8, (.pointer (some ⟨H, 0, none⟩)), (.bool tb0), (.pointer (some ⟨H2, 0, none⟩)), c12, v13, c14, c15, c16, c17, c18, c19, c20, c21, c22, c23, c24, c25, c26, c27, c28, c29, c30, c31, c32, c33, c34, c35, c36, c37, c38, c39, c40, c41, c42, c43, c44, c45, c46, c47, c48, c49, c50, c51, c52, c53, c54, c55, c56, c57, c58, c59, c60, c61, c62, c63, c64, c65, c66, c67, c68, c69, c70, v71, v72, v73, v74, v75, v76, v77, v78, v79, v80, v81, v82, v83, v84, v85, v86, v87, v88, v89, v90, v91, v92, v93, v94, v95, v96, v97, v98, v99, v100, v101, v102, v103, v104, v105, v106, v107, v108, v109, v110, v111, v112, v113, v114, v115, v116, v117, v118, v119, v120, v121, v122, v123, v124, v125, v126, v127, v128, v129, v130, v131, v132, v133, v134, v135, v136, v137, v138, v139, v140, v141, v142, v143, v144, v145, v146, v147, v148, v149, v150, v151, v152, v153, v154, v155, v156, v157, v158, v159, v160, v161, v162, v163, v164, v165, v166, v167, v168, v169, v170, v171, v172, v173, v174, v175, v176, v177, v178, v179, v180, v181, v182, v183, v184, v185, v186, v187, v188, v189, v190, v191, v192, v193, v194, v195, v196, v197, v198, v199, v200, v201, v202, v203, v204, v205, v206, v207, v208, v209, v210, v211, v212, v213, v214, v215, v216, v217, v218, v219, v220, v221, v222, v223, v224, v225, v226, v227, v228, v229, v230, v231, v232, v233, v234, v235, v236, v237, v238, v239, v240, v241, v242, v243, v244, v245, v246, v247, v248, v249, v250, v251, v252, v253, v254, v255, v256, v257, v258, c259, c260, c261, c262, c263], []⟩ w') :
    Code.wp Try.prog tail11 Q ⟨#[c0, c1, u2, c3, c4, c5, (.slice kA ln kc), (.slice gA ln gd), c8, (.pointer (some ⟨H, 0, none⟩)), (.bool tb0), (.pointer (some ⟨H2, 0, none⟩)), c12, u13, c14, c15, c16, c17, c18, c19, c20, c21, c22, c23, c24, c25, c26, c27, c28, c29, c30, c31, c32, c33, c34, c35, c36, c37, c38, c39, c40, c41, c42, c43, c44, c45, c46, c47, c48, c49, c50, c51, c52, c53, c54, c55, c56, c57, c58, c59, c60, c61, c62, c63, c64, c65, c66, c67, c68, c69, c70, u71, u72, u73, u74, u75, u76, u77, u78, u79, u80, u81, u82, u83, u84, u85, u86, u87, u88, u89, u90, u91, u92, u93, u94, u95, u96, u97, u98, u99, u100, u101, u102, u103, u104, u105, u106, u107, u108, u109, u110, u111, u112, u113, u114, u115, u116, u117, u118, u119, u120, u121, u122, u123, u124, u125, u126, u127, u128, u129, u130, u131, u132, u133, u134, u135, u136, u137, u138, u139, u140, u141, u142, u143, u144, u145, u146, u147, u148, u149, u150, u151, u152, u153, u154, u155, u156, u157, u158, u159, u160, u161, u162, u163, u164, u165, u166, u167, u168, u169, u170, u171, u172, u173, u174, u175, u176, u177, u178, u179, u180, u181, u182, u183, u184, u185, u186, u187, u188, u189, u190, u191, u192, u193, u194, u195, u196, u197, u198, u199, u200, u201, u202, u203, u204, u205, u206, u207, u208, u209, u210, u211, u212, u213, u214, u215, u216, u217, u218, u219, u220, u221, u222, u223, u224, u225, u226, u227, u228, u229, u230, u231, u232, u233, u234, u235, u236, u237, u238, u239, u240, u241, u242, u243, u244, u245, u246, u247, u248, u249, u250, u251, u252, u253, u254, u255, u256, u257, u258, c259, c260, c261, c262, c263], []⟩ w5 := by
  obtain ⟨hmo, hk1, hk2, hg1, hg2⟩ := h.facts
  have p0 := h.p0
  have p1 := h.p1
  have p2 := h.p2
  have p3 := h.p3
  have p4 := h.p4
  have r0 := h.r0
  have r1 := h.r1
  have r2 := h.r2
  obtain ⟨hvc1, hvc2⟩ := h.vcap
  have hll := h.llen
  simp only [maxLen] at hk2 hg2 hvc2
  replace hQ := Lib.hid hQ
  replace hP := Lib.hid hP
  replace h := Lib.hid h
  replace hB := Lib.hid hB
  replace hO := Lib.hid hO
  have q1 : (kd == 1) = false := beq_eq_false_iff_ne.2 (by omega)
  have q9 : (kd == 9) = false := beq_eq_false_iff_ne.2 (by omega)
  have q10 : (kd == 10) = false := beq_eq_false_iff_ne.2 (by omega)
  conv => arg 2; whnf
  go_wp2
  refine (hQ.out _ _ _ _ _ _ _ _ _ _ _ _ _ _ _ _ _ _ _ _ _ _ _ _ _ _ _ _ _ _ _ _ _ _ _ _ _ _ _ _ _ _ _ _ _ _ _ _ _ _ _ _ _ _ _ _ _ _ _ _ _ _ _ _ _ _ _ _ _ _ _ _ _ _ _ _ _ _ _ _ _ _ _ _ _ _ _ _ _ _ _ _ _ _ _ _ _ _ _ _ _ _ _ _ _ _ _ _ _ _ _ _ _ _ _ _ _ _ _ _ _ _ _ _ _ _ _ _ _ _ _ _ _ _ _ _ _ _ _ _ _ _ _ _ _ _ _ _ _ _ _ _ _ _ _ _ _ _ _ _ _ _ _ _ _ _ _ _ _ _ _ _ _ _ _ _ _ _ _ _ _ _ _ _ _ _ _ _ _ _ _ _ _ ?_).2
  exact ⟨W', es, h.out.same, h.out.two, by rw [h.out.abs]; exact hB.out, by rw [h.out.abs]; exact hO.out⟩


set_option maxRecDepth 1000000 in
set_option maxHeartbeats 4000000 in
theorem tail_abs (w0 w5 : World) (p : Nat) (W' : Wr) (es : List BkE) (kA : Option Addr) (ln kc : Nat) (gA : Option Addr) (gd : Nat) (s' : WA) (H H2 : Nat) (kd n m kk tn te : Int) (vA : Option Addr) (vc : Nat) (l : List UInt8) (A1 : Option Addr) (x1 : Nat) (tb : List UInt8) (tb0 : Bool) (Q : Exit → Act → World → Prop) (c0 c1 c3 c4 c5 c8 c12 c14 c15 c16 c17 c18 c19 c20 c21 c22 c23 c24 c25 c26 c27 c28 c29 c30 c31 c32 c33 c34 c35 c36 c37 c38 c39 c40 c41 c42 c43 c44 c45 c46 c47 c48 c49 c50 c51 c52 c53 c54 c55 c56 c57 c58 c59 c60 c61 c62 c63 c64 c65 c66 c67 c68 c69 c70 c259 c260 c261 c262 c263 u2 u13 u71 u72 u73 u74 u75 u76 u77 u78 u79 u80 u81 u82 u83 u84 u85 u86 u87 u88 u89 u90 u91 u92 u93 u94 u95 u96 u97 u98 u99 u100 u101 u102 u103 u104 u105 u106 u107 u108 u109 u110 u111 u112 u113 u114 u115 u116 u117 u118 u119 u120 u121 u122 u123 u124 u125 u126 u127 u128 u129 u130 u131 u132 u133 u134 u135 u136 u137 u138 u139 u140 u141 u142 u143 u144 u145 u146 u147 u148 u149 u150 u151 u152 u153 u154 u155 u156 u157 u158 u159 u160 u161 u162 u163 u164 u165 u166 u167 u168 u169 u170 u171 u172 u173 u174 u175 u176 u177 u178 u179 u180 u181 u182 u183 u184 u185 u186 u187 u188 u189 u190 u191 u192 u193 u194 u195 u196 u197 u198 u199 u200 u201 u202 u203 u204 u205 u206 u207 u208 u209 u210 u211 u212 u213 u214 u215 u216 u217 u218 u219 u220 u221 u222 u223 u224 u225 u226 u227 u228 u229 u230 u231 u232 u233 u234 u235 u236 u237 u238 u239 u240 u241 u242 u243 u244 u245 u246 u247 u248 u249 u250 u251 u252 u253 u254 u255 u256 u257 u258 : Value)
    (h : RowAt w0 w5 p W' es kA ln kc gA gd s' H H2 kd n m kk tn te vA vc l A1 x1 tb) (k2 : 2 ≤ kd) (k8 : kd ≤ 8) (ht : te = 231) (hb0 : tb0 = false) (hB : BSim (bAbs es) s') (hO : s'.Ok)
    (hP : ∀ (c : _) (d : Option Tmp) (v : Value) (a : Act) (w' : World), Q (.panic c) (a.put d v) w' → Q (.panic c) a w')
    (hQ : ∀ (kv gv : Value) (v2 v13 v71 v72 v73 v74 v75 v76 v77 v78 v79 v80 v81 v82 v83 v84 v85 v86 v87 v88 v89 v90 v91 v92 v93 v94 v95 v96 v97 v98 v99 v100 v101 v102 v103 v104 v105 v106 v107 v108 v109 v110 v111 v112 v113 v114 v115 v116 v117 v118 v119 v120 v121 v122 v123 v124 v125 v126 v127 v128 v129 v130 v131 v132 v133 v134 v135 v136 v137 v138 v139 v140 v141 v142 v143 v144 v145 v146 v147 v148 v149 v150 v151 v152 v153 v154 v155 v156 v157 v158 v159 v160 v161 v162 v163 v164 v165 v166 v167 v168 v169 v170 v171 v172 v173 v174 v175 v176 v177 v178 v179 v180 v181 v182 v183 v184 v185 v186 v187 v188 v189 v190 v191 v192 v193 v194 v195 v196 v197 v198 v199 v200 v201 v202 v203 v204 v205 v206 v207 v208 v209 v210 v211 v212 v213 v214 v215 v216 v217 v218 v219 v220 v221 v222 v223 v224 v225 v226 v227 v228 v229 v230 v231 v232 v233 v234 v235 v236 v237 v238 v239 v240 v241 v242 v243 v244 v245 v246 v247 v248 v249 v250 v251 v252 v253 v254 v255 v256 v257 v258 : Value) (w' : World), RowRel w0 p kv gv w' → Q .normal ⟨#[c0, c1, v2, c3, c4, c5, kv, gv, c8, (.pointer (some ⟨H, 0, none⟩)), (.bool tb0), (.pointer (some ⟨H2, 0, none⟩)), c12, v13, c14, c15, c16, c17, c18, c19, c20, c21, c22, c23, c24, c25, c26, c27, c28, c29, c30, c31, c32, c33, c34, c35, c36, c37, c38, c39, c40, c41, c42, c43, c44, c45, c46, c47, c48, c49, c50, c51, c52, c53, c54, c55, c56, c57, c58, c59, c60, c61, c62, c63, c64, c65, c66, c67, c68, c69, c70, v71, v72, v73, v74, v75, v76, v77, v78, v79, v80, v81, v82, v83, v84, v85, v86, v87, v88, v89, v90, v91, v92, v93, v94, v95, v96, v97, v98, v99, v100, v101, v102, v103, v104, v105, v106, v107, v108, v109, v110, v111, v112, v113, v114, v115, v116, v117, v118, v119, v120, v121, v122, v123, v124, v125, v126, v127, v128, v129, v130, v131, v132, v133, v134, v135, v136, v137, v138, v139, v140, v141, v142, v143, v144, v145, v146, v147, v148, v149, v150, v151, v152, v153, v154, v155, v156, v157, v158, v159, v160, v161, v162, v163, v164, v165, v166, v167, v168, v169, v170, v171, v172, v173, v174, v175, v176, v177, v178, v179, v180, v181, v182, v183, v184, v185, v186, v187, v188, v189, v190, v191, v192, v193, v194, v195, v196, v197, v198, v199, v200, v201, v202, v203, v204, v205, v206, v207, v208, v209, v210, v211, v212, v213, v214, v215, v216, v217, v218, v219, v220, v221, v222, v223, v224, v225, v226, v227, v228, v229, v230, v231, v232, v233, v234, v235, v236, v237, v238, v239, v240, v241, v242, v243, v244, v245, v246, v247, v248, v249, v250, v251, v252, v253, v254, v255, v256, v257, v258, c259, c260, c261, c262, c263], []⟩ w' ∧ Q (.exit 1) ⟨#[c0, c1, v2, c3, c4, c5, kv, gv, c8, (.pointer (some ⟨H, 0, none⟩)), (.bool tb0), (.pointer (some ⟨H2, 0, none⟩)), c12, v13, c14, c15, c16, c17, c18, c19, c20, c21, c22, c23, c24, c25, c26, c27, c28, c29, c30, c31, c32, c33, c34, c35, c36, c37, c38, c39, c40, c41, c42, c43, c44, c45, c46, c47, c48, c49, c50, c51, c52, c53, c54, c55, c56, c57, c58, c59, c60, c61, c62, c63, c64, c65, c66, c67, c68, c69, c70, v71, v72, v73, v74, v75, v76, v77, v78, v79, v80, v81, v82, v83, v84, v85, v86, v87, v88, v89, v90, v91, v92, v93, v94, v95, v96, v97, v98, v99, v100, v101, v102, v103, v104, v105, v106, v107, v108, v109, v110, v111, v112, v113, v114, v115, v116, v117, v118, v119, v120, v121, v122, v123, v124, v125, v126, v127, v128, v129, v130, v131, v132, v133, v134, v135, v136, v137, v138, v139, v140, v141, v142, v143, v144, v145, v146, v147, v148, v149, v150, v151, v152, v153, v154, v155, v156, v157, v158, v159, v160, v161, v162, v163, v164, v165, v166, v167, v168, v169, v170, v171, v172, v173, v174, v175, v176, v177, v178, v179, v180, v181, v182, v183, v184, v185, v186, v187, v188, v189, v190, v191, v192, v193, v194, v195, v196, v197, v198, v199, v200, v201, v202, v203, v204, v205, v206, v207, v208, v209, v210, v211, v212, v213, v214, v215, v216, v217, v218, v219, v220, v221, v222, v223, v224, v225, v226, v227, v228, v229, v230, v231, v232, v233, v234, v235, v236, v237, v238, v239, v240, v241, v242, v243, v244, v245, v246, v247, v248, v249, v250, v251, v252, v253, v254, v255, v256, v257, v258, c259, c260, c261, c262, c263], []⟩ w') :
    Code.wp Try.prog tail11 Q ⟨#[c0, c1, u2, c3, c4, c5, (.slice kA ln kc), (.slice gA ln gd), c8, (.pointer (some ⟨H, 0, none⟩)), (.bool tb0), (.pointer (some ⟨H2, 0, none⟩)), c12, u13, c14, c15, c16, c17, c18, c19, c20, c21, c22, c23, c24, c25, c26, c27, c28, c29, c30, c31, c32, c33, c34, c35, c36, c37, c38, c39, c40, c41, c42, c43, c44, c45, c46, c47, c48, c49, c50, c51, c52, c53, c54, c55, c56, c57, c58, c59, c60, c61, c62, c63, c64, c65, c66, c67, c68, c69, c70, u71, u72, u73, u74, u75, u76, u77, u78, u79, u80, u81, u82, u83, u84, u85, u86, u87, u88, u89, u90, u91, u92, u93, u94, u95, u96, u97, u98, u99, u100, u101, u102, u103, u104, u105, u106, u107, u108, u109, u110, u111, u112, u113, u114, u115, u116, u117, u118, u119, u120, u121, u122, u123, u124, u125, u126, u127, u128, u129, u130, u131, u132, u133, u134, u135, u136, u137, u138, u139, u140, u141, u142, u143, u144, u145, u146, u147, u148, u149, u150, u151, u152, u153, u154, u155, u156, u157, u158, u159, u160, u161, u162, u163, u164, u165, u166, u167, u168, u169, u170, u171, u172, u173, u174, u175, u176, u177, u178, u179, u180, u181, u182, u183, u184, u185, u186, u187, u188, u189, u190, u191, u192, u193, u194, u195, u196, u197, u198, u199, u200, u201, u202, u203, u204, u205, u206, u207, u208, u209, u210, u211, u212, u213, u214, u215, u216, u217, u218, u219, u220, u221, u222, u223, u224, u225, u226, u227, u228, u229, u230, u231, u232, u233, u234, u235, u236, u237, u238, u239, u240, u241, u242, u243, u244, u245, u246, u247, u248, u249, u250, u251, u252, u253, u254, u255, u256, u257, u258, c259, c260, c261, c262, c263], []⟩ w5 := by
  subst ht
  subst hb0
  obtain ⟨hmo, hk1, hk2, hg1, hg2⟩ := h.facts
  have p0 := h.p0
  have p1 := h.p1
  have p2 := h.p2
  have p3 := h.p3
  have p4 := h.p4
  have r0 := h.r0
  have r1 := h.r1
  have r2 := h.r2
  obtain ⟨hvc1, hvc2⟩ := h.vcap
  have hll := h.llen
  simp only [maxLen] at hk2 hg2 hvc2
  replace hQ := Lib.hid hQ
  replace hP := Lib.hid hP
  replace h := Lib.hid h
  replace hB := Lib.hid hB
  replace hO := Lib.hid hO
  have q1 : (kd == 1) = false := beq_eq_false_iff_ne.2 (by omega)
  have q9 : (kd == 9) = false := beq_eq_false_iff_ne.2 (by omega)
  have q10 : (kd == 10) = false := beq_eq_false_iff_ne.2 (by omega)
  conv => arg 2; whnf
  go_wp2
  refine (hQ.out _ _ _ _ _ _ _ _ _ _ _ _ _ _ _ _ _ _ _ _ _ _ _ _ _ _ _ _ _ _ _ _ _ _ _ _ _ _ _ _ _ _ _ _ _ _ _ _ _ _ _ _ _ _ _ _ _ _ _ _ _ _ _ _ _ _ _ _ _ _ _ _ _ _ _ _ _ _ _ _ _ _ _ _ _ _ _ _ _ _ _ _ _ _ _ _ _ _ _ _ _ _ _ _ _ _ _ _ _ _ _ _ _ _ _ _ _ _ _ _ _ _ _ _ _ _ _ _ _ _ _ _ _ _ _ _ _ _ _ _ _ _ _ _ _ _ _ _ _ _ _ _ _ _ _ _ _ _ _ _ _ _ _ _ _ _ _ _ _ _ _ _ _ _ _ _ _ _ _ _ _ _ _ _ _ _ _ _ _ _ _ _ _ ?_).2
  exact ⟨W', es, h.out.same, h.out.two, by rw [h.out.abs]; exact hB.out, by rw [h.out.abs]; exact hO.out⟩


set_option maxRecDepth 1000000 in
set_option maxHeartbeats 4000000 in
theorem tail_send1 (w0 w5 : World) (p : Nat) (W' : Wr) (es : List BkE) (kA : Option Addr) (ln kc : Nat) (gA : Option Addr) (gd : Nat) (s' : WA) (H H2 : Nat) (kd n m kk tn te : Int) (vA : Option Addr) (vc : Nat) (l : List UInt8) (A1 : Option Addr) (x1 : Nat) (tb : List UInt8) (tb0 : Bool) (Q : Exit → Act → World → Prop) (c0 c1 c3 c4 c5 c8 c12 c14 c15 c16 c17 c18 c19 c20 c21 c22 c23 c24 c25 c26 c27 c28 c29 c30 c31 c32 c33 c34 c35 c36 c37 c38 c39 c40 c41 c42 c43 c44 c45 c46 c47 c48 c49 c50 c51 c52 c53 c54 c55 c56 c57 c58 c59 c60 c61 c62 c63 c64 c65 c66 c67 c68 c69 c70 c259 c260 c261 c262 c263 u2 u13 u71 u72 u73 u74 u75 u76 u77 u78 u79 u80 u81 u82 u83 u84 u85 u86 u87 u88 u89 u90 u91 u92 u93 u94 u95 u96 u97 u98 u99 u100 u101 u102 u103 u104 u105 u106 u107 u108 u109 u110 u111 u112 u113 u114 u115 u116 u117 u118 u119 u120 u121 u122 u123 u124 u125 u126 u127 u128 u129 u130 u131 u132 u133 u134 u135 u136 u137 u138 u139 u140 u141 u142 u143 u144 u145 u146 u147 u148 u149 u150 u151 u152 u153 u154 u155 u156 u157 u158 u159 u160 u161 u162 u163 u164 u165 u166 u167 u168 u169 u170 u171 u172 u173 u174 u175 u176 u177 u178 u179 u180 u181 u182 u183 u184 u185 u186 u187 u188 u189 u190 u191 u192 u193 u194 u195 u196 u197 u198 u199 u200 u201 u202 u203 u204 u205 u206 u207 u208 u209 u210 u211 u212 u213 u214 u215 u216 u217 u218 u219 u220 u221 u222 u223 u224 u225 u226 u227 u228 u229 u230 u231 u232 u233 u234 u235 u236 u237 u238 u239 u240 u241 u242 u243 u244 u245 u246 u247 u248 u249 u250 u251 u252 u253 u254 u255 u256 u257 u258 : Value)
    (h : RowAt w0 w5 p W' es kA ln kc gA gd s' H H2 kd n m kk tn te vA vc l A1 x1 tb) (hkd : kd = 1) (hl1 : 1048576 < l.length) (ht : te = 233) (hB : BSim (bAbs es) s') (hO : s'.Ok)
    (hP : ∀ (c : _) (d : Option Tmp) (v : Value) (a : Act) (w' : World), Q (.panic c) (a.put d v) w' → Q (.panic c) a w')
    (hQ : ∀ (kv gv : Value) (v2 v13 v71 v72 v73 v74 v75 v76 v77 v78 v79 v80 v81 v82 v83 v84 v85 v86 v87 v88 v89 v90 v91 v92 v93 v94 v95 v96 v97 v98 v99 v100 v101 v102 v103 v104 v105 v106 v107 v108 v109 v110 v111 v112 v113 v114 v115 v116 v117 v118 v119 v120 v121 v122 v123 v124 v125 v126 v127 v128 v129 v130 v131 v132 v133 v134 v135 v136 v137 v138 v139 v140 v141 v142 v143 v144 v145 v146 v147 v148 v149 v150 v151 v152 v153 v154 v155 v156 v157 v158 v159 v160 v161 v162 v163 v164 v165 v166 v167 v168 v169 v170 v171 v172 v173 v174 v175 v176 v177 v178 v179 v180 v181 v182 v183 v184 v185 v186 v187 v188 v189 v190 v191 v192 v193 v194 v195 v196 v197 v198 v199 v200 v201 v202 v203 v204 v205 v206 v207 v208 v209 v210 v211 v212 v213 v214 v215 v216 v217 v218 v219 v220 v221 v222 v223 v224 v225 v226 v227 v228 v229 v230 v231 v232 v233 v234 v235 v236 v237 v238 v239 v240 v241 v242 v243 v244 v245 v246 v247 v248 v249 v250 v251 v252 v253 v254 v255 v256 v257 v258 : Value) (w' : World), RowRel w0 p kv gv w' → Q .normal ⟨#[c0, c1, v2, c3, c4, c5, kv, gv, c8, (.pointer (some ⟨H, 0, none⟩)), (.bool tb0), (.pointer (some ⟨H2, 0, none⟩)), c12, v13, c14, c15, c16, c17, c18, c19, c20, c21, c22, c23, c24, c25, c26, c27, c28, c29, c30, c31, c32, c33, c34, c35, c36, c37, c38, c39, c40, c41, c42, c43, c44, c45, c46, c47, c48, c49, c50, c51, c52, c53, c54, c55, c56, c57, c58, c59, c60, c61, c62, c63, c64, c65, c66, c67, c68, c69, c70, v71, v72, v73, v74, v75, v76, v77, v78, v79, v80, v81, v82, v83, v84, v85, v86, v87, v88, v89, v90, v91, v92, v93, v94, v95, v96, v97, v98, v99, v100, v101, v102, v103, v104, v105, v106, v107, v108, v109, v110, v111, v112, v113, v114, v115, v116, v117, v118, v119, v120, v121, v122, v123, v124, v125, v126, v127, v128, v129, v130, v131, v132, v133, v134, v135, v136, v137, v138, v139, v140, v141, v142, v143, v144, v145, v146, v147, v148, v149, v150, v151, v152, v153, v154, v155, v156, v157, v158, v159, v160, v161, v162, v163, v164, v165, v166, v167, v168, v169, v170, v171, v172, v173, v174, v175, v176, v177, v178, v179, v180, v181, v182, v183, v184, v185, v186, v187, v188, v189, v190, v191, v192, v193, v194, v195, v196, v197, v198, v199, v200, v201, v202, v203, v204, v205, v206, v207, v208, v209, v210, v211, v212, v213, v214, v215, v216, v217, v218, v219, v220, v221, v222, v223, v224, v225, v226, v227, v228, v229, v230, v231, v232, v233, v234, v235, v236, v237, v238, v239, v240, v241, v242, v243, v244, v245, v246, v247, v248, v249, v250, v251, v252, v253, v254, v255, v256, v257, v258, c259, c260, c261, c262, c263], []⟩ w' ∧ Q (.exit 1) ⟨#[c0, c1, v2, c3, c4, c5, kv, gv, c8, (.pointer (some ⟨H, 0, none⟩)), (.bool tb0), (.pointer (some ⟨H2, 0, none⟩)), c12, v13, c14, c15, c16, c17, c18, c19, c20, c21, c22, c23, c24, c25, c26, c27, c28, c29, c30, c31, c32, c33, c34, c35, c36, c37, c38, c39, c40, c41, c42, c43, c44, c45, c46, c47, c48, c49, c50, c51, c52, c53, c54, c55, c56, c57, c58, c59, c60, c61, c62, c63, c64, c65, c66, c67, c68, c69, c70, v71, v72, v73, v74, v75, v76, v77, v78, v79, v80, v81, v82, v83, v84, v85, v86, v87, v88, v89, v90, v91, v92, v93, v94, v95, v96, v97, v98, v99, v100, v101, v102, v103, v104, v105, v106, v107, v108, v109, v110, v111, v112, v113, v114, v115, v116, v117, v118, v119, v120, v121, v122, v123, v124, v125, v126, v127, v128, v129, v130, v131, v132, v133, v134, v135, v136, v137, v138, v139, v140, v141, v142, v143, v144, v145, v146, v147, v148, v149, v150, v151, v152, v153, v154, v155, v156, v157, v158, v159, v160, v161, v162, v163, v164, v165, v166, v167, v168, v169, v170, v171, v172, v173, v174, v175, v176, v177, v178, v179, v180, v181, v182, v183, v184, v185, v186, v187, v188, v189, v190, v191, v192, v193, v194, v195, v196, v197, v198, v199, v200, v201, v202, v203, v204, v205, v206, v207, v208, v209, v210, v211, v212, v213, v214, v215, v216, v217, v218, v219, v220, v221, v222, v223, v224, v225, v226, v227, v228, v229, v230, v231, v232, v233, v234, v235, v236, v237, v238, v239, v240, v241, v242, v243, v244, v245, v246, v247, v248, v249, v250, v251, v252, v253, v254, v255, v256, v257, v258, c259, c260, c261, c262, c263], []⟩ w') :
    Code.wp Try.prog tail11 Q ⟨#[c0, c1, u2, c3, c4, c5, (.slice kA ln kc), (.slice gA ln gd), c8, (.pointer (some ⟨H, 0, none⟩)), (.bool tb0), (.pointer (some ⟨H2, 0, none⟩)), c12, u13, c14, c15, c16, c17, c18, c19, c20, c21, c22, c23, c24, c25, c26, c27, c28, c29, c30, c31, c32, c33, c34, c35, c36, c37, c38, c39, c40, c41, c42, c43, c44, c45, c46, c47, c48, c49, c50, c51, c52, c53, c54, c55, c56, c57, c58, c59, c60, c61, c62, c63, c64, c65, c66, c67, c68, c69, c70, u71, u72, u73, u74, u75, u76, u77, u78, u79, u80, u81, u82, u83, u84, u85, u86, u87, u88, u89, u90, u91, u92, u93, u94, u95, u96, u97, u98, u99, u100, u101, u102, u103, u104, u105, u106, u107, u108, u109, u110, u111, u112, u113, u114, u115, u116, u117, u118, u119, u120, u121, u122, u123, u124, u125, u126, u127, u128, u129, u130, u131, u132, u133, u134, u135, u136, u137, u138, u139, u140, u141, u142, u143, u144, u145, u146, u147, u148, u149, u150, u151, u152, u153, u154, u155, u156, u157, u158, u159, u160, u161, u162, u163, u164, u165, u166, u167, u168, u169, u170, u171, u172, u173, u174, u175, u176, u177, u178, u179, u180, u181, u182, u183, u184, u185, u186, u187, u188, u189, u190, u191, u192, u193, u194, u195, u196, u197, u198, u199, u200, u201, u202, u203, u204, u205, u206, u207, u208, u209, u210, u211, u212, u213, u214, u215, u216, u217, u218, u219, u220, u221, u222, u223, u224, u225, u226, u227, u228, u229, u230, u231, u232, u233, u234, u235, u236, u237, u238, u239, u240, u241, u242, u243, u244, u245, u246, u247, u248, u249, u250, u251, u252, u253, u254, u255, u256, u257, u258, c259, c260, c261, c262, c263], []⟩ w5 := by
  subst hkd
  subst ht
  obtain ⟨hmo, hk1, hk2, hg1, hg2⟩ := h.facts
  have p0 := h.p0
  have p1 := h.p1
  have p2 := h.p2
  have p3 := h.p3
  have p4 := h.p4
  have r0 := h.r0
  have r1 := h.r1
  have r2 := h.r2
  obtain ⟨hvc1, hvc2⟩ := h.vcap
  have hll := h.llen
  simp only [maxLen] at hk2 hg2 hvc2
  replace hQ := Lib.hid hQ
  replace hP := Lib.hid hP
  replace h := Lib.hid h
  replace hB := Lib.hid hB
  replace hO := Lib.hid hO
  generalize l.length = ll at *
  conv => arg 2; whnf
  go_wp2
  refine (hQ.out _ _ _ _ _ _ _ _ _ _ _ _ _ _ _ _ _ _ _ _ _ _ _ _ _ _ _ _ _ _ _ _ _ _ _ _ _ _ _ _ _ _ _ _ _ _ _ _ _ _ _ _ _ _ _ _ _ _ _ _ _ _ _ _ _ _ _ _ _ _ _ _ _ _ _ _ _ _ _ _ _ _ _ _ _ _ _ _ _ _ _ _ _ _ _ _ _ _ _ _ _ _ _ _ _ _ _ _ _ _ _ _ _ _ _ _ _ _ _ _ _ _ _ _ _ _ _ _ _ _ _ _ _ _ _ _ _ _ _ _ _ _ _ _ _ _ _ _ _ _ _ _ _ _ _ _ _ _ _ _ _ _ _ _ _ _ _ _ _ _ _ _ _ _ _ _ _ _ _ _ _ _ _ _ _ _ _ _ _ _ _ _ _ ?_).2
  exact ⟨W', es, h.out.same, h.out.two, by rw [h.out.abs]; exact hB.out, by rw [h.out.abs]; exact hO.out⟩


set_option maxRecDepth 1000000 in
set_option maxHeartbeats 4000000 in
theorem tail_send2 (w0 w5 : World) (p : Nat) (W' : Wr) (es : List BkE) (kA : Option Addr) (ln kc : Nat) (gA : Option Addr) (gd : Nat) (s' : WA) (H H2 : Nat) (kd n m kk tn te : Int) (vA : Option Addr) (vc : Nat) (l : List UInt8) (A1 : Option Addr) (x1 : Nat) (tb : List UInt8) (tb0 : Bool) (Q : Exit → Act → World → Prop) (c0 c1 c3 c4 c5 c8 c12 c14 c15 c16 c17 c18 c19 c20 c21 c22 c23 c24 c25 c26 c27 c28 c29 c30 c31 c32 c33 c34 c35 c36 c37 c38 c39 c40 c41 c42 c43 c44 c45 c46 c47 c48 c49 c50 c51 c52 c53 c54 c55 c56 c57 c58 c59 c60 c61 c62 c63 c64 c65 c66 c67 c68 c69 c70 c259 c260 c261 c262 c263 u2 u13 u71 u72 u73 u74 u75 u76 u77 u78 u79 u80 u81 u82 u83 u84 u85 u86 u87 u88 u89 u90 u91 u92 u93 u94 u95 u96 u97 u98 u99 u100 u101 u102 u103 u104 u105 u106 u107 u108 u109 u110 u111 u112 u113 u114 u115 u116 u117 u118 u119 u120 u121 u122 u123 u124 u125 u126 u127 u128 u129 u130 u131 u132 u133 u134 u135 u136 u137 u138 u139 u140 u141 u142 u143 u144 u145 u146 u147 u148 u149 u150 u151 u152 u153 u154 u155 u156 u157 u158 u159 u160 u161 u162 u163 u164 u165 u166 u167 u168 u169 u170 u171 u172 u173 u174 u175 u176 u177 u178 u179 u180 u181 u182 u183 u184 u185 u186 u187 u188 u189 u190 u191 u192 u193 u194 u195 u196 u197 u198 u199 u200 u201 u202 u203 u204 u205 u206 u207 u208 u209 u210 u211 u212 u213 u214 u215 u216 u217 u218 u219 u220 u221 u222 u223 u224 u225 u226 u227 u228 u229 u230 u231 u232 u233 u234 u235 u236 u237 u238 u239 u240 u241 u242 u243 u244 u245 u246 u247 u248 u249 u250 u251 u252 u253 u254 u255 u256 u257 u258 : Value)
    (h : RowAt w0 w5 p W' es kA ln kc gA gd s' H H2 kd n m kk tn te vA vc l A1 x1 tb) (hkd : kd = 1) (hl1 : l.length ≤ 1048576) (hl2 : 4096 ≤ ln) (ht : te = 234) (hB : BSim (bAbs es) s') (hO : s'.Ok)
    (hP : ∀ (c : _) (d : Option Tmp) (v : Value) (a : Act) (w' : World), Q (.panic c) (a.put d v) w' → Q (.panic c) a w')
    (hQ : ∀ (kv gv : Value) (v2 v13 v71 v72 v73 v74 v75 v76 v77 v78 v79 v80 v81 v82 v83 v84 v85 v86 v87 v88 v89 v90 v91 v92 v93 v94 v95 v96 v97 v98 v99 v100 v101 v102 v103 v104 v105 v106 v107 v108 v109 v110 v111 v112 v113 v114 v115 v116 v117 v118 v119 v120 v121 v122 v123 v124 v125 v126 v127 v128 v129 v130 v131 v132 v133 v134 v135 v136 v137 v138 v139 v140 v141 v142 v143 v144 v145 v146 v147 v148 v149 v150 v151 v152 v153 v154 v155 v156 v157 v158 v159 v160 v161 v162 v163 v164 v165 v166 v167 v168 v169 v170 v171 v172 v173 v174 v175 v176 v177 v178 v179 v180 v181 v182 v183 v184 v185 v186 v187 v188 v189 v190 v191 v192 v193 v194 v195 v196 v197 v198 v199 v200 v201 v202 v203 v204 v205 v206 v207 v208 v209 v210 v211 v212 v213 v214 v215 v216 v217 v218 v219 v220 v221 v222 v223 v224 v225 v226 v227 v228 v229 v230 v231 v232 v233 v234 v235 v236 v237 v238 v239 v240 v241 v242 v243 v244 v245 v246 v247 v248 v249 v250 v251 v252 v253 v254 v255 v256 v257 v258 : Value) (w' : World), RowRel w0 p kv gv w' → Q .normal ⟨#[c0, c1, v2, c3, c4, c5, kv, gv, c8, (.pointer (some ⟨H, 0, none⟩)), (.bool tb0), (.pointer (some ⟨H2, 0, none⟩)), c12, v13, c14, c15, c16, c17, c18, c19, c20, c21, c22, c23, c24, c25, c26, c27, c28, c29, c30, c31, c32, c33, c34, c35, c36, c37, c38, c39, c40, c41, c42, c43, c44, c45, c46, c47, c48, c49, c50, c51, c52, c53, c54, c55, c56, c57, c58, c59, c60, c61, c62, c63, c64, c65, c66, c67, c68, c69, c70, v71, v72, v73, v74, v75, v76, v77, v78, v79, v80, v81, v82, v83, v84, v85, v86, v87, v88, v89, v90, v91, v92, v93, v94, v95, v96, v97, v98, v99, v100, v101, v102, v103, v104, v105, v106, v107, v108, v109, v110, v111, v112, v113, v114, v115, v116, v117, v118, v119, v120, v121, v122, v123, v124, v125, v126, v127, v128, v129, v130, v131, v132, v133, v134, v135, v136, v137, v138, v139, v140, v141, v142, v143, v144, v145, v146, v147, v148, v149, v150, v151, v152, v153, v154, v155, v156, v157, v158, v159, v160, v161, v162, v163, v164, v165, v166, v167, v168, v169, v170, v171, v172, v173, v174, v175, v176, v177, v178, v179, v180, v181, v182, v183, v184, v185, v186, v187, v188, v189, v190, v191, v192, v193, v194, v195, v196, v197, v198, v199, v200, v201, v202, v203, v204, v205, v206, v207, v208, v209, v210, v211, v212, v213, v214, v215, v216, v217, v218, v219, v220, v221, v222, v223, v224, v225, v226, v227, v228, v229, v230, v231, v232, v233, v234, v235, v236, v237, v238, v239, v240, v241, v242, v243, v244, v245, v246, v247, v248, v249, v250, v251, v252, v253, v254, v255, v256, v257, v258, c259, c260, c261, c262, c263], []⟩ w' ∧ Q (.exit 1) ⟨#[c0, c1, v2, c3, c4, c5, kv, gv, c8, (.pointer (some ⟨H, 0, none⟩)), (.bool tb0), (.pointer (some ⟨H2, 0, none⟩)), c12, v13, c14, c15, c16, c17, c18, c19, c20, c21, c22, c23, c24, c25, c26, c27, c28, c29, c30, c31, c32, c33, c34, c35, c36, c37, c38, c39, c40, c41, c42, c43, c44, c45, c46, c47, c48, c49, c50, c51, c52, c53, c54, c55, c56, c57, c58, c59, c60, c61, c62, c63, c64, c65, c66, c67, c68, c69, c70, v71, v72, v73, v74, v75, v76, v77, v78, v79, v80, v81, v82, v83, v84, v85, v86, v87, v88, v89, v90, v91, v92, v93, v94, v95, v96, v97, v98, v99, v100, v101, v102, v103, v104, v105, v106, v107, v108, v109, v110, v111, v112, v113, v114, v115, v116, v117, v118, v119, v120, v121, v122, v123, v124, v125, v126, v127, v128, v129, v130, v131, v132, v133, v134, v135, v136, v137, v138, v139, v140, v141, v142, v143, v144, v145, v146, v147, v148, v149, v150, v151, v152, v153, v154, v155, v156, v157, v158, v159, v160, v161, v162, v163, v164, v165, v166, v167, v168, v169, v170, v171, v172, v173, v174, v175, v176, v177, v178, v179, v180, v181, v182, v183, v184, v185, v186, v187, v188, v189, v190, v191, v192, v193, v194, v195, v196, v197, v198, v199, v200, v201, v202, v203, v204, v205, v206, v207, v208, v209, v210, v211, v212, v213, v214, v215, v216, v217, v218, v219, v220, v221, v222, v223, v224, v225, v226, v227, v228, v229, v230, v231, v232, v233, v234, v235, v236, v237, v238, v239, v240, v241, v242, v243, v244, v245, v246, v247, v248, v249, v250, v251, v252, v253, v254, v255, v256, v257, v258, c259, c260, c261, c262, c263], []⟩ w') :
    Code.wp Try.prog tail11 Q ⟨#[c0, c1, u2, c3, c4, c5, (.slice kA ln kc), (.slice gA ln gd), c8, (.pointer (some ⟨H, 0, none⟩)), (.bool tb0), (.pointer (some ⟨H2, 0, none⟩)), c12, u13, c14, c15, c16, c17, c18, c19, c20, c21, c22, c23, c24, c25, c26, c27, c28, c29, c30, c31, c32, c33, c34, c35, c36, c37, c38, c39, c40, c41, c42, c43, c44, c45, c46, c47, c48, c49, c50, c51, c52, c53, c54, c55, c56, c57, c58, c59, c60, c61, c62, c63, c64, c65, c66, c67, c68, c69, c70, u71, u72, u73, u74, u75, u76, u77, u78, u79, u80, u81, u82, u83, u84, u85, u86, u87, u88, u89, u90, u91, u92, u93, u94, u95, u96, u97, u98, u99, u100, u101, u102, u103, u104, u105, u106, u107, u108, u109, u110, u111, u112, u113, u114, u115, u116, u117, u118, u119, u120, u121, u122, u123, u124, u125, u126, u127, u128, u129, u130, u131, u132, u133, u134, u135, u136, u137, u138, u139, u140, u141, u142, u143, u144, u145, u146, u147, u148, u149, u150, u151, u152, u153, u154, u155, u156, u157, u158, u159, u160, u161, u162, u163, u164, u165, u166, u167, u168, u169, u170, u171, u172, u173, u174, u175, u176, u177, u178, u179, u180, u181, u182, u183, u184, u185, u186, u187, u188, u189, u190, u191, u192, u193, u194, u195, u196, u197, u198, u199, u200, u201, u202, u203, u204, u205, u206, u207, u208, u209, u210, u211, u212, u213, u214, u215, u216, u217, u218, u219, u220, u221, u222, u223, u224, u225, u226, u227, u228, u229, u230, u231, u232, u233, u234, u235, u236, u237, u238, u239, u240, u241, u242, u243, u244, u245, u246, u247, u248, u249, u250, u251, u252, u253, u254, u255, u256, u257, u258, c259, c260, c261, c262, c263], []⟩ w5 := by
  subst hkd
  subst ht
  obtain ⟨hmo, hk1, hk2, hg1, hg2⟩ := h.facts
  have p0 := h.p0
  have p1 := h.p1
  have p2 := h.p2
  have p3 := h.p3
  have p4 := h.p4
  have r0 := h.r0
  have r1 := h.r1
  have r2 := h.r2
  obtain ⟨hvc1, hvc2⟩ := h.vcap
  have hll := h.llen
  simp only [maxLen] at hk2 hg2 hvc2
  replace hQ := Lib.hid hQ
  replace hP := Lib.hid hP
  replace h := Lib.hid h
  replace hB := Lib.hid hB
  replace hO := Lib.hid hO
  generalize l.length = ll at *
  conv => arg 2; whnf
  go_wp2
  refine (hQ.out _ _ _ _ _ _ _ _ _ _ _ _ _ _ _ _ _ _ _ _ _ _ _ _ _ _ _ _ _ _ _ _ _ _ _ _ _ _ _ _ _ _ _ _ _ _ _ _ _ _ _ _ _ _ _ _ _ _ _ _ _ _ _ _ _ _ _ _ _ _ _ _ _ _ _ _ _ _ _ _ _ _ _ _ _ _ _ _ _ _ _ _ _ _ _ _ _ _ _ _ _ _ _ _ _ _ _ _ _ _ _ _ _ _ _ _ _ _ _ _ _ _ _ _ _ _ _ _ _ _ _ _ _ _ _ _ _ _ _ _ _ _ _ _ _ _ _ _ _ _ _ _ _ _ _ _ _ _ _ _ _ _ _ _ _ _ _ _ _ _ _ _ _ _ _ _ _ _ _ _ _ _ _ _ _ _ _ _ _ _ _ _ _ ?_).2
  exact ⟨W', es, h.out.same, h.out.two, by rw [h.out.abs]; exact hB.out, by rw [h.out.abs]; exact hO.out⟩


end Go.Proofs.Ytfnlemdlngdaiaa
