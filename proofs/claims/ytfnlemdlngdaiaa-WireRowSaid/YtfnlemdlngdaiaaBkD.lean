/-
  WireRow: each message that was sent and neither taken nor dropped is in the row once, with its bytes but for its own flips and cuts.
-/
import Derived.Test.YtfnlemdlngdaiaaBkJ
import Derived.Deep.Cut
import Derived.Deep.CutRange
namespace Go.Proofs.Ytfnlemdlngdaiaa
open Go.RowKit

theorem size_alloc_ (w : World) (o : Obj) : (w.alloc o).heap.size = w.heap.size + 1 := by simp
def first5 : List UInt8 := [102, 105, 114, 115, 116]
theorem first_const (w : World) : w.alloc (.cells #[.int .u8 102, .int .u8 105, .int .u8 114, .int .u8 115, .int .u8 116] 5 (5, 6)) = constB w first5 := rfl
theorem first_rd (w : World) : RdB (constB w first5) (.slice (some ⟨w.heap.size, 0, none⟩) 5 5) first5 := constB_rd w first5 (by simp [maxLen, first5])
theorem first_send : WA.send ⟨[], 0⟩ first5 = ((⟨[], 0⟩ : WA).add first5, 1, 0) := rfl
theorem first_bsim : BSim [(first5, false)] ((⟨[], 0⟩ : WA).add first5) := BSim.add (b := []) ⟨rfl, by simp, by simp, rfl⟩ first5
theorem first_eb (w : World) : EB (constB w first5) (.slice (some ⟨w.heap.size, 0, none⟩) 5 5) first5 :=
  .inr ⟨w.heap.size, 5, (bvs first5).toArray, (5, 6), rfl, Nat.le_refl _, by simp [maxLen], heap_alloc_new w _, fun j u hj => by simpa using hj, fun j hj h => by
    have : first5.length = 5 := rfl
    omega⟩
/-- The book as it begins. -/
def book0 (w : World) : World := ((constB w first5).alloc (.cells #[.slice (some ⟨w.heap.size, 0, none⟩) 5 5] 24)).alloc (.cells #[.bool false] 4)
theorem book0_upd (w : World) : Upd noBlk w (book0 w) := ((constB_upd w first5).alloc _).alloc _
theorem book0_ok (w : World) : Bok (book0 w) (.slice (some ⟨w.heap.size + 1, 0, none⟩) 1 1) (.slice (some ⟨w.heap.size + 1 + 1, 0, none⟩) 1 1) [⟨.slice (some ⟨w.heap.size, 0, none⟩) 5 5, first5, false⟩] := by
  have hs1 : (constB w first5).heap.size = w.heap.size + 1 := by simp [constB]
  have hs2 : ((constB w first5).alloc (.cells #[.slice (some ⟨w.heap.size, 0, none⟩) 5 5] 24)).heap.size = w.heap.size + 1 + 1 := by simp [constB]
  have h1 := World.ownsRow_lit (base := 0) (e := 24) (size := 1) (constB w first5) #[.slice (some ⟨w.heap.size, 0, none⟩) 5 5] 1 (Nat.zero_le _) (by simp [maxLen]) rfl
  have h2 := World.ownsRow_lit (base := 0) (e := 4) (size := 1) ((constB w first5).alloc (.cells #[.slice (some ⟨w.heap.size, 0, none⟩) 5 5] 24)) #[.bool false] 1 (Nat.zero_le _) (by simp [maxLen]) rfl
  rw [hs1] at h1
  rw [hs2] at h2
  refine ⟨own_upd h1 ((Upd.refl noBlk _).alloc _) fun _ _ h => h, h2, ?_, by simp [Value.ownBlock], ?_, by simp⟩
  · intro e he
    simp only [List.mem_singleton] at he
    subst he
    exact (first_eb w).upd (((Upd.refl noBlk (constB w first5)).alloc _).alloc _) fun _ _ h => h
  · intro e he
    simp only [List.mem_singleton] at he
    subst he
    simp [first5]

set_option maxRecDepth 100000 in
set_option maxHeartbeats 16000000 in
theorem row_true (v : Value) (os : List OpD) (w : World) (hs : ScriptAt w v os) : Calls Try.prog 11 #[v] w (TrueP w) := by
  have kc := fun (w : World) (C : Array Value) (n c : Nat) => Lib.run_convert_bytes_const (P := Try.prog) w 24 5 C n c Try.underlying24 Try.underlying5
  obtain ⟨A, c, rfl, hc1, hc2, hat⟩ := hs.form
  replace hs := Lib.hid hs
  replace hat := Lib.hid hat
  have hln : os.length ≤ 9223372036854775807 := by simp only [maxLen] at hc2; omega
  clear hc2
  go_enter Try.func11, Try.ntmps11
  go_wp2_with fail
  refine (new_any _).mono ?_
  rintro e w1 ⟨W1, rfl, hW, ha, hu, hge⟩
  have h1 := Lib.hid (At.new hW ha hu hge)
  have u1 := Lib.hid (hu.of_none (fun k => ¬ older w k))
  clear hW ha hu hge
  go_wp2_with fail
  rw [first_const]
  have hA := h1.out.none (constB_upd w1 first5)
  have hU := u1.out.trans_same ((constB_upd w1 first5).of_none _)
  have hc := hA.does (send_any W1 _ first5 _ hA.ok (first_rd w1) (fun hk => by have h2 := h1.out.ok.blk.lt; simp only [Value.ownBlock, Option.some.injEq] at hk; omega))
  rw [hA.abs, first_send] at hc
  refine hc.mono ?_
  clear hc hA
  rintro e w2 ⟨W2, rfl, hp, hA2, hu2⟩
  rw [← hp]
  replace hU := Lib.hid (hU.trans_same hu2)
  replace hA := Lib.hid hA2
  clear h1 u1 hp hu2 hA2
  go_wp2_with fail
  go_loopw [6, 7, 8] (fun kv gv i wr => ∃ (k : Nat) (W : Wr) (es : List BkE), k ≤ os.length ∧ i = .int .i64 k ∧ W.p = W2.p ∧ Three w wr W kv gv es ∧ BSim (bAbs es) W.abs ∧ W.abs.Ok) (fun _ _ i _ => os.length - (intOf i).toNat)
  case atStart =>
    have hT0 : Three w (book0 w2) W2 (.slice (some ⟨w2.heap.size + 1, 0, none⟩) 1 1) (.slice (some ⟨w2.heap.size + 1 + 1, 0, none⟩) 1 1) [⟨.slice (some ⟨w2.heap.size, 0, none⟩) 5 5, first5, false⟩] := by
      have hf : ∀ k, bFoot (.slice (some ⟨w2.heap.size + 1, 0, none⟩) 1 1) (.slice (some ⟨w2.heap.size + 1 + 1, 0, none⟩) 1 1) [⟨.slice (some ⟨w2.heap.size, 0, none⟩) 5 5, first5, false⟩] k → w2.heap.size ≤ k := by
        rintro k (h | h | ⟨e, he, h⟩)
        · have : w2.heap.size + 1 = k := by simpa [Value.ownBlock] using h
          omega
        · have : w2.heap.size + 1 + 1 = k := by simpa [Value.ownBlock] using h
          omega
        · simp only [List.mem_singleton] at he
          subst he
          have : w2.heap.size = k := by simpa [Value.ownBlock] using h
          omega
      refine ⟨hA.out.ok.upd (book0_upd w2) fun _ _ h => h, book0_ok w2, fun k hk hb => ?_, fun k hk => ?_, fun k hk => Nat.le_trans hU.out.size (hf k hk), hU.out.trans_same ((book0_upd w2).of_none _)⟩
      · have := hA.out.ok.lt k hk
        have := hf k hb
        omega
      · have h1 := hA.out.far k hk
        unfold older at h1
        omega
    exact ⟨0, W2, _, Nat.zero_le _, rfl, rfl, hT0, by rw [hA.out.abs]; exact first_bsim, by rw [hA.out.abs]; exact WA.Ok.nil.add _⟩
  case round =>
    clear hA hU kc
    obtain ⟨k, W, es, hk, rfl, hpW, hT, hB, hO⟩ := hrel
    rw [← hpW]
    replace hpW := Lib.hid hpW
    by_cases hlt : k < os.length
    · obtain ⟨o, ho⟩ : ∃ o, os[k]? = some o := ⟨_, List.getElem?_eq_getElem hlt⟩
      obtain ⟨ad, vb, rfl, a0, a1, a2, a3, a4, a5, a6⟩ := hat.out k o ho
      obtain ⟨vA, vc, rfl, hvc1, hvc2, -⟩ := nil_empty a5
      rw [add_off _ _ _ (by decide)] at a1 a2 a3 a4
      have b0 := keep_old hT.upd a0
      have b1 := keep_old hT.upd a1
      have b2 := keep_old hT.upd a2
      have b3 := keep_old hT.upd a3
      have b4 := keep_old hT.upd a4
      have b5 := Lib.hid (a5.old hT.upd)
      obtain ⟨kA, kc, gA, gd, rfl, rfl, hk1, hk2, hg1, hg2, hbat⟩ := hT.bok.open_
      have hmo := hT.bok.most
      obtain ⟨kd, n, m, kk, l⟩ := o
      simp only at a0 a1 a2 a3 a4 a5 a6 b0 b1 b2 b3 b4 b5 hvc1
      have c1 : (wr.alloc (.cells #[.int .i64 kd, .int .i64 n, .int .i64 m, .int .i64 kk, .slice vA l.length vc] 50)).cell? ⟨wr.heap.size, 1, none⟩ = some (.int .i64 n) := by rw [(Blk.new _ _ _).cell]; rfl
      obtain ⟨ln, hln0⟩ : ∃ ln, ln = es.length := ⟨_, rfl⟩
      rw [← hln0] at hk1 hg1 hmo ⊢
      simp only [maxLen] at hk2 hg2
      replace hln0 := Lib.hid hln0
      have hT1 := Lib.hid (hT.keep ((Upd.refl noBlk wr).alloc (.cells #[.int .i64 kd, .int .i64 n, .int .i64 m, .int .i64 kk, .slice vA l.length vc] 50)))
      have hbo := Lib.hid (Blk.new wr 50 #[.int .i64 kd, .int .i64 n, .int .i64 m, .int .i64 kk, .slice vA l.length vc])
      have hHW := Lib.hid (fun hf => Nat.lt_irrefl _ (hT.wok.lt wr.heap.size hf))
      have hHB := Lib.hid (fun k hf => hT.bok.lt k hf)
      replace a5 := Lib.hid a5
      replace b5 := Lib.hid (b5.out.none ((Upd.refl noBlk wr).alloc (.cells #[.int .i64 kd, .int .i64 n, .int .i64 m, .int .i64 kk, .slice vA l.length vc] 50)))
      replace hT := Lib.hid hT
      replace hB := Lib.hid hB
      replace hO := Lib.hid hO
      replace hbat := Lib.hid hbat
      replace a6 := Lib.hid a6
      clear a0 a1 a2 a3 a4 ho hs
      go_upto_region 13 with fail
      go_cut [10] from 44 to 62 (fun tv wx => ∃ tb0 : Bool, tv = .bool tb0 ∧ (tb0 = true → ∃ (j : Nat) (e : BkE), n = (j : Int) + 1 ∧ es[j]? = some e ∧ e.g = false) ∧ (tb0 = false → W.abs.find n = none) ∧ wx = wr.alloc (.cells #[.int .i64 kd, .int .i64 n, .int .i64 m, .int .i64 kk, .slice vA l.length vc] 50))
      case first =>
        by_cases t1 : n < 1
        · go_wp2_with fail
          go_meet
          case rel => exact ⟨false, rfl, fun h => (by cases h), fun _ => hB.out.absent (.inl t1), rfl⟩
        · by_cases t2 : (ln : Int) < n
          · go_wp2_with fail
            go_meet
            case rel => exact ⟨false, rfl, fun h => (by cases h), fun _ => hB.out.absent (.inr (.inl (by rw [bAbs_length, ← hln0.out]; exact t2))), rfl⟩
          · obtain ⟨j, hnj⟩ : ∃ j : Nat, n = (j : Int) + 1 := ⟨(n - 1).toNat, by omega⟩
            subst hnj
            have hj : j < ln := by omega
            obtain ⟨e, he⟩ : ∃ e, es[j]? = some e := ⟨es[j]'(by rw [← hln0.out]; exact hj), List.getElem?_eq_getElem _⟩
            obtain ⟨kb, gb, rfl, rfl, e0, e1, -, -⟩ := hbat.out j e he
            have hjw : IntKind.i64.wrap (j : Int) = j := by rw [IntKind.wrap_i64]; omega
            have hj0 : (0 : Int) ≤ j := by omega
            have hjl : (j : Int) < ln := by omega
            have e1' : (wr.alloc (.cells #[.int .i64 kd, .int .i64 ((j : Int) + 1), .int .i64 m, .int .i64 kk, .slice vA l.length vc] 50)).cell? ⟨gb, j, none⟩ = some (.bool e.g) := ((Upd.refl noBlk wr).alloc _).cell_some e1 id
            have hba := bAbs_at he
            replace he := Lib.hid he
            cases hg : e.g with
            | true =>
              rw [hg] at e1' hba
              replace hba := Lib.hid hba
              go_wp2_with fail
              go_meet
              case rel => exact ⟨false, rfl, fun h => (by cases h), fun _ => hB.out.absent (.inr (.inr ⟨j, e.l, rfl, hba.out⟩)), rfl⟩
            | false =>
              rw [hg] at e1' hba
              replace hba := Lib.hid hba
              replace hg := Lib.hid hg
              go_wp2_with fail
              go_meet
              case rel => exact ⟨true, rfl, fun _ => ⟨j, e, rfl, he.out, hg.out⟩, fun h => (by cases h), rfl⟩
      case rest =>
        obtain ⟨tb0, rfl, hpres, habs, rfl⟩ := hcut
        replace hpres := Lib.hid hpres
        replace habs := Lib.hid habs
        have hT1' := hT1.out
        rw [← hln0.out] at hT1'
        replace hT1 := Lib.hid hT1'
        clear hT1'
        go_wp2_with fail
        generalize heq : W.abs.doOp ⟨kd, n, m, kk, l⟩ = st
        obtain ⟨s', tn, tb, te, tr⟩ := st
        have hc := do_any W ⟨kd, n, m, kk, l⟩ (.slice vA l.length vc) _ hT1.out.wok b5.out a6.out
        rw [heq] at hc
        replace heq := Lib.hid heq
        refine hc.mono ?_
        clear hc
        rintro e w4 ⟨bs, rv, ms, W', rfl, hon, hab, htd, -⟩
        obtain ⟨A1, x1, rfl, -⟩ := own_form htd.bytes
        obtain ⟨A2, x2, rfl, -⟩ := own_form htd.row.row
        dsimp only at hab htd
        have hT5 := (hT1.out.stepW hon).keep ((Upd.refl noBlk w4).alloc (.cells #[.int .i64 tn, .slice A1 tb.length x1, .int .i64 te, .slice A2 ms.length x2] 46))
        have hbo5 := (hbo.out.upd hon.upd hHW.out).alloc (.cells #[.int .i64 tn, .slice A1 tb.length x1, .int .i64 te, .slice A2 ms.length x2] 46)
        have hbt := Blk.new w4 46 #[.int .i64 tn, .slice A1 tb.length x1, .int .i64 te, .slice A2 ms.length x2]
        have p0 : (w4.alloc (.cells #[.int .i64 tn, .slice A1 tb.length x1, .int .i64 te, .slice A2 ms.length x2] 46)).cell? ⟨wr.heap.size, 0, none⟩ = some (.int .i64 kd) := by rw [hbo5.cell]; rfl
        have p1 : (w4.alloc (.cells #[.int .i64 tn, .slice A1 tb.length x1, .int .i64 te, .slice A2 ms.length x2] 46)).cell? ⟨wr.heap.size, 1, none⟩ = some (.int .i64 n) := by rw [hbo5.cell]; rfl
        have p2 : (w4.alloc (.cells #[.int .i64 tn, .slice A1 tb.length x1, .int .i64 te, .slice A2 ms.length x2] 46)).cell? ⟨wr.heap.size, 2, none⟩ = some (.int .i64 m) := by rw [hbo5.cell]; rfl
        have p3 : (w4.alloc (.cells #[.int .i64 tn, .slice A1 tb.length x1, .int .i64 te, .slice A2 ms.length x2] 46)).cell? ⟨wr.heap.size, 3, none⟩ = some (.int .i64 kk) := by rw [hbo5.cell]; rfl
        have p4 : (w4.alloc (.cells #[.int .i64 tn, .slice A1 tb.length x1, .int .i64 te, .slice A2 ms.length x2] 46)).cell? ⟨wr.heap.size, 4, none⟩ = some (.slice vA l.length vc) := by rw [hbo5.cell]; rfl
        have r0 : (w4.alloc (.cells #[.int .i64 tn, .slice A1 tb.length x1, .int .i64 te, .slice A2 ms.length x2] 46)).cell? ⟨w4.heap.size, 0, none⟩ = some (.int .i64 tn) := by rw [hbt.cell]; rfl
        have r1 : (w4.alloc (.cells #[.int .i64 tn, .slice A1 tb.length x1, .int .i64 te, .slice A2 ms.length x2] 46)).cell? ⟨w4.heap.size, 1, none⟩ = some (.slice A1 tb.length x1) := by rw [hbt.cell]; rfl
        have r2 : (w4.alloc (.cells #[.int .i64 tn, .slice A1 tb.length x1, .int .i64 te, .slice A2 ms.length x2] 46)).cell? ⟨w4.heap.size, 2, none⟩ = some (.int .i64 te) := by rw [hbt.cell]; rfl
        have hX : Upd noBlk w4 (w4.alloc (.cells #[.int .i64 tn, .slice A1 tb.length x1, .int .i64 te, .slice A2 ms.length x2] 46)) := (Upd.refl noBlk w4).alloc _
        have hHx : wr.heap.size < w4.heap.size := by
          have h := hon.upd.size
          simp only [size_alloc_] at h
          omega
        have hpp := Lib.hid hon.same
        have htb := Lib.hid (htd.bytes.rd.none hX)
        replace hT5 := Lib.hid hT5
        replace hab := Lib.hid hab
        have hRA : RowAt w (w4.alloc (.cells #[.int .i64 tn, .slice A1 tb.length x1, .int .i64 te, .slice A2 ms.length x2] 46)) W.p W' es kA ln kc gA gd s' wr.heap.size w4.heap.size kd n m kk tn te vA vc l A1 x1 tb :=
          ⟨hT5.out, hpp.out, hln0.out, hab.out, p0, p1, p2, p3, p4, r0, r1, r2, a5.out.old hT5.out.upd, htb.out, ⟨hvc1, hvc2⟩, a6.out⟩
        replace hRA := Lib.hid hRA
        clear hbo5 hbt hon htd hX c1 hT hT1 b5 b0 b1 b2 b3 b4 hbo hHW p0 p1 p2 p3 p4 r0 r1 r2 hT5 hab htb hHB a5
        go_upto_if 70 with fail
        go_step
        go_step
        go_step
        go_step
        refine tail_any w (w4.alloc (.cells #[.int .i64 tn, .slice A1 tb.length x1, .int .i64 te, .slice A2 ms.length x2] 46)) W.p W' es kA ln kc gA gd s' wr.heap.size w4.heap.size kd n m kk tn te vA vc l A1 x1 tb tb0 _ _ _ _ _ _ _ _ _ _ _ _ _ _ _ _ _ _ _ _ _ _ _ _ _ _ _ _ _ _ _ _ _ _ _ _ _ _ _ _ _ _ _ _ _ _ _ _ _ _ _ _ _ _ _ _ _ _ _ _ _ _ _ _ _ _ _ _ _ _ _ _ _ _ _ _ _ _ _ _ _ _ _ _ _ _ _ _ _ _ _ _ _ _ _ _ _ _ _ _ _ _ _ _ _ _ _ _ _ _ _ _ _ _ _ _ _ _ _ _ _ _ _ _ _ _ _ _ _ _ _ _ _ _ _ _ _ _ _ _ _ _ _ _ _ _ _ _ _ _ _ _ _ _ _ _ _ _ _ _ _ _ _ _ _ _ _ _ _ _ _ _ _ _ _ _ _ _ _ _ _ _ _ _ _ _ _ _ _ _ _ _ _ _ _ _ _ _ _ _ _ _ _ _ _ _ _ _ _ _ _ _ _ _ _ _ _ _ _ _ _ _ _ _ _ _ _ _ _ _ _ _ _ _ _ _ _ _ _ _ _ _ _ _ _ _ _ _ _ _ _ _ _ _ _ _ _ _ _ _ W.abs tr hRA.out hB.out hO.out heq.out hpres.out habs.out ?_ ?_
        · intro c9 d9 v9 a9 w9 h9
          cases d9 <;> exact h9
        intro kv' gv' v2 v13 v71 v72 v73 v74 v75 v76 v77 v78 v79 v80 v81 v82 v83 v84 v85 v86 v87 v88 v89 v90 v91 v92 v93 v94 v95 v96 v97 v98 v99 v100 v101 v102 v103 v104 v105 v106 v107 v108 v109 v110 v111 v112 v113 v114 v115 v116 v117 v118 v119 v120 v121 v122 v123 v124 v125 v126 v127 v128 v129 v130 v131 v132 v133 v134 v135 v136 v137 v138 v139 v140 v141 v142 v143 v144 v145 v146 v147 v148 v149 v150 v151 v152 v153 v154 v155 v156 v157 v158 v159 v160 v161 v162 v163 v164 v165 v166 v167 v168 v169 v170 v171 v172 v173 v174 v175 v176 v177 v178 v179 v180 v181 v182 v183 v184 v185 v186 v187 v188 v189 v190 v191 v192 v193 v194 v195 v196 v197 v198 v199 v200 v201 v202 v203 v204 v205 v206 v207 v208 v209 v210 v211 v212 v213 v214 v215 v216 v217 v218 v219 v220 v221 v222 v223 v224 v225 v226 v227 v228 v229 v230 v231 v232 v233 v234 v235 v236 v237 v238 v239 v240 v241 v242 v243 v244 v245 v246 v247 v248 v249 v250 v251 v252 v253 v254 v255 v256 v257 v258 w6 hrr
        obtain ⟨W6, es6, hp6, hT6, hB6, hO6⟩ := hrr
        replace hp6 := Lib.hid hp6
        replace hT6 := Lib.hid hT6
        replace hB6 := Lib.hid hB6
        replace hO6 := Lib.hid hO6
        constructor
        all_goals
          go_wp2
          go_roundw
          case rel => exact ⟨k + 1, W6, es6, by omega, by go_num, hp6.out, hT6.out, hB6.out, hO6.out⟩
          case measure => simp [intOf]; omega
    · obtain rfl : os.length = k := by omega
      replace hT := Lib.hid hT
      replace hB := Lib.hid hB
      replace hO := Lib.hid hO
      go_wp2_with fail
      refine (waiting_any W wr hT.out.wok).mono ?_
      rintro e w3 ⟨v3, ms3, rfl, ho3, hm3, hu3⟩
      have hT3 := hT.out.keep hu3
      have hib := Lib.hid (isbook_true v3 _ _ ms3 es W.abs w3 ho3.rd hT3.bok hB.out hO.out hm3)
      replace hT3 := Lib.hid hT3
      clear hT hu3 ho3 hm3
      go_wp2_with fail
      refine hib.out.mono ?_
      rintro e w4 ⟨rfl, q, rfl⟩
      go_wp2
      go_ret
      exact ⟨rfl, below_of_old (hT3.out.upd.drewN q)⟩
end Go.Proofs.Ytfnlemdlngdaiaa
