/-
  WireSends, WireTakes, WireSpoils, WireLooks, WireAll: the wire answers as the document says.
-/
import Derived.Test.YtfnlemdlngdaiaaLawG
namespace Go.Proofs.Ytfnlemdlngdaiaa
open Go.RowKit

set_option maxRecDepth 100000 in
set_option maxHeartbeats 1000000 in
theorem sends_true (v : Value) (os : List OpD) (w : World) (hs : ScriptAt w v os) : Calls Try.prog 6 #[v] w (TrueP w) := by
  have hc := plays_any v 1 1 os w hs
  obtain ⟨A, c, rfl, -⟩ := hs.form
  replace hc := Lib.hid hc
  clear hs
  go_enter Try.func6, Try.ntmps6
  go_wp2_with fail
  refine hc.out.mono ?_
  rintro e w1 ⟨W, R, rfl, hT, hS, -⟩
  replace hT := Lib.hid hT
  replace hS := Lib.hid hS
  go_wp2_with fail
  refine (ends_true W R w1 hT.out hS.out).mono ?_
  rintro e w2 ⟨rfl, hu⟩
  replace hu := Lib.hid hu
  go_wp2
  go_ret
  exact ⟨rfl, below_of_old (hT.out.keep hu.out).upd⟩

set_option maxRecDepth 100000 in
set_option maxHeartbeats 1000000 in
theorem takes_true (v : Value) (os : List OpD) (w : World) (hs : ScriptAt w v os) : Calls Try.prog 7 #[v] w (TrueP w) := by
  have hc := plays_any v 2 4 os w hs
  obtain ⟨A, c, rfl, -⟩ := hs.form
  replace hc := Lib.hid hc
  clear hs
  go_enter Try.func7, Try.ntmps7
  go_wp2_with fail
  refine hc.out.mono ?_
  rintro e w1 ⟨W, R, rfl, hT, hS, -⟩
  replace hT := Lib.hid hT
  replace hS := Lib.hid hS
  go_wp2_with fail
  refine (ends_true W R w1 hT.out hS.out).mono ?_
  rintro e w2 ⟨rfl, hu⟩
  replace hu := Lib.hid hu
  go_wp2
  go_ret
  exact ⟨rfl, below_of_old (hT.out.keep hu.out).upd⟩

set_option maxRecDepth 100000 in
set_option maxHeartbeats 1000000 in
theorem spoils_true (v : Value) (os : List OpD) (w : World) (hs : ScriptAt w v os) : Calls Try.prog 8 #[v] w (TrueP w) := by
  have hc := plays_any v 5 8 os w hs
  obtain ⟨A, c, rfl, -⟩ := hs.form
  replace hc := Lib.hid hc
  clear hs
  go_enter Try.func8, Try.ntmps8
  go_wp2_with fail
  refine hc.out.mono ?_
  rintro e w1 ⟨W, R, rfl, hT, hS, -⟩
  replace hT := Lib.hid hT
  replace hS := Lib.hid hS
  go_wp2_with fail
  refine (ends_true W R w1 hT.out hS.out).mono ?_
  rintro e w2 ⟨rfl, hu⟩
  replace hu := Lib.hid hu
  go_wp2
  go_ret
  exact ⟨rfl, below_of_old (hT.out.keep hu.out).upd⟩

set_option maxRecDepth 100000 in
set_option maxHeartbeats 1000000 in
theorem looks_true (v : Value) (os : List OpD) (w : World) (hs : ScriptAt w v os) : Calls Try.prog 9 #[v] w (TrueP w) := by
  have hc := plays_any v 9 10 os w hs
  obtain ⟨A, c, rfl, -⟩ := hs.form
  replace hc := Lib.hid hc
  clear hs
  go_enter Try.func9, Try.ntmps9
  go_wp2_with fail
  refine hc.out.mono ?_
  rintro e w1 ⟨W, R, rfl, hT, hS, -⟩
  replace hT := Lib.hid hT
  replace hS := Lib.hid hS
  go_wp2_with fail
  refine (ends_true W R w1 hT.out hS.out).mono ?_
  rintro e w2 ⟨rfl, hu⟩
  replace hu := Lib.hid hu
  go_wp2
  go_ret
  exact ⟨rfl, below_of_old (hT.out.keep hu.out).upd⟩

theorem one_upd (w : World) : Upd noBlk w (w.alloc (.cells #[.int .u8 1] 5)) := (Upd.refl noBlk w).alloc _
theorem one_rd (w : World) : RdB (w.alloc (.cells #[.int .u8 1] 5)) (.slice (some ⟨w.heap.size, 0, none⟩) 1 1) [1] := blk_rd (Blk.new w 5 #[.int .u8 1]) 1 1 (by simp [maxLen]) rfl

set_option maxRecDepth 100000 in
set_option maxHeartbeats 4000000 in
theorem all_true (v : Value) (os : List OpD) (w : World) (hs : ScriptAt w v os) : Calls Try.prog 10 #[v] w (TrueP w) := by
  obtain ⟨A, c, rfl, hc1, hc2, hat⟩ := hs.form
  replace hs := Lib.hid hs
  replace hat := Lib.hid hat
  have hln : os.length ≤ 9223372036854775807 := by simp only [maxLen] at hc2; omega
  clear hc2
  go_enter Try.func10, Try.ntmps10
  go_wp2_with fail
  refine (plays_any _ 0 0 [] w ⟨none, 0, rfl, Nat.le_refl _, by simp [maxLen], fun i o h => by simp at h⟩).mono ?_
  rintro e w2 ⟨W1, R1, rfl, hT, hS, hO⟩
  replace hT := Lib.hid hT
  replace hS := Lib.hid hS
  replace hO := Lib.hid hO
  go_wp2_with fail
  go_loopw [6] (fun i wr => ∃ (k : Nat) (W : Wr) (R : Rf), k ≤ os.length ∧ i = .int .i64 k ∧ W.p = W1.p ∧ R.p = R1.p ∧ Two w wr W R ∧ Sim R.abs W.abs ∧ W.abs.Ok) (fun i _ => os.length - (intOf i).toNat)
  case atStart => exact ⟨0, W1, R1, Nat.zero_le _, rfl, rfl, rfl, hT.out, hS.out, hO.out⟩
  case round =>
    clear hT hS hO
    obtain ⟨k, W, R, hk, rfl, hpW, hpR, hT, hS, hO⟩ := hrel
    rw [← hpW, ← hpR]
    replace hpW := Lib.hid hpW
    replace hpR := Lib.hid hpR
    by_cases hlt : k < os.length
    · obtain ⟨o, ho⟩ : ∃ o, os[k]? = some o := ⟨_, List.getElem?_eq_getElem hlt⟩
      obtain ⟨ad, vb, rfl, a0, a1, a2, a3, a4, a5, a6⟩ := hat.out k o ho
      rw [add_off _ _ _ (by decide)] at a1 a2 a3 a4
      have b0 := keep_old hT.upd a0
      have b1 := keep_old hT.upd a1
      have b2 := keep_old hT.upd a2
      have b3 := keep_old hT.upd a3
      have b4 := keep_old hT.upd a4
      have b5 := a5.old hT.upd
      have hne : o.bytes ≠ [] → vb.ownBlock ≠ some R.p := fun hb hk2 => by
        have h2 := a5.block_lt (by unfold bvs; simpa using hb) R.p hk2
        have h3 := hT.rnew R.p (.inl rfl)
        omega
      have hc := do_any W o vb wr hT.wok b5 a6
      obtain ⟨hop1, hop2⟩ := hS.op hO o
      have hO' := hO.doOp o
      generalize W.abs.doOp o = tw at *
      generalize hmo : R.abs.mustOp o = tr at *
      obtain ⟨s', t⟩ := tw
      obtain ⟨r', t'⟩ := tr
      simp only at hop1 hop2 hO' hc
      subst hop1
      replace hc := Lib.hid hc
      replace hT := Lib.hid hT
      replace hop2 := Lib.hid hop2
      replace hO' := Lib.hid hO'
      replace hne := Lib.hid hne
      replace a0 := Lib.hid a0
      replace a1 := Lib.hid a1
      replace a2 := Lib.hid a2
      replace a3 := Lib.hid a3
      replace a4 := Lib.hid a4
      replace a5 := Lib.hid a5
      replace a6 := Lib.hid a6
      replace hmo := Lib.hid hmo
      clear hS hO b5 ho
      go_wp2_with fail
      refine hc.out.mono ?_
      rintro e w3 ⟨bs, rv, ms, W', rfl, hon, hab, htd, -⟩
      obtain ⟨A1, c1, rfl, -⟩ := own_form htd.bytes
      obtain ⟨A2, c2, rfl, -⟩ := own_form htd.row.row
      have hM : Mid w (w3.alloc (.cells #[.int .i64 t'.n, .slice A1 t'.bytes.length c1, .int .i64 t'.err, .slice A2 ms.length c2] 46)) W' R w3.heap.size (.slice A1 t'.bytes.length c1) (.slice A2 ms.length c2) ms t' :=
        mid_of hT.out hon htd (Blk.new _ _ _) (Nat.le_refl _) ((Upd.refl noBlk w3).alloc _)
      have d0 := keep_old hM.two.upd a0.out
      have d1 := keep_old hM.two.upd a1.out
      have d2 := keep_old hM.two.upd a2.out
      have d3 := keep_old hM.two.upd a3.out
      have d4 := keep_old hM.two.upd a4.out
      have hpW' := hon.same
      replace hM := Lib.hid hM
      replace hab := Lib.hid hab
      replace hpW' := Lib.hid hpW'
      clear hon htd hT hc b0 b1 b2 b3 b4
      go_wp2_with fail
      generalize hw4 : w3.alloc (.cells #[.int .i64 t'.n, .slice A1 t'.bytes.length c1, .int .i64 t'.err, .slice A2 ms.length c2] 46) = w4 at *
      generalize hH : w3.heap.size = H at *
      clear hw4 hH w3
      have hd := must_any R o vb w4 hM.out.two.rok (a5.out.old hM.out.two.upd) hne.out
      rw [hmo.out] at hd
      refine hd.mono ?_
      clear hd
      rintro e w5 ⟨bs2, rv2, ms2, R', rfl, hon2, hab2, htd2, -⟩
      obtain ⟨A3, c3, rfl, -⟩ := own_form htd2.bytes
      obtain ⟨A4, c4, rfl, -⟩ := own_form htd2.row.row
      obtain ⟨hT6, hb6, x1, x2, x3, x4, x5⟩ := end_of hM.out hon2 htd2 ((Upd.refl noBlk w5).alloc (.cells #[.int .i64 t'.n, .slice A3 t'.bytes.length c3, .int .i64 t'.err, .slice A4 ms2.length c4] 46))
      have hb7 := Blk.new w5 46 #[.int .i64 t'.n, .slice A3 t'.bytes.length c3, .int .i64 t'.err, .slice A4 ms2.length c4]
      have q0 := keep_old hT6.upd a0.out
      have y0 : (w5.alloc (.cells #[.int .i64 t'.n, .slice A3 t'.bytes.length c3, .int .i64 t'.err, .slice A4 ms2.length c4] 46)).cell? ⟨H, 0, none⟩ = some (.int .i64 t'.n) := by rw [hb6.cell]; rfl
      have y1 : (w5.alloc (.cells #[.int .i64 t'.n, .slice A3 t'.bytes.length c3, .int .i64 t'.err, .slice A4 ms2.length c4] 46)).cell? ⟨H, 1, none⟩ = some (.slice A1 t'.bytes.length c1) := by rw [hb6.cell]; rfl
      have y2 : (w5.alloc (.cells #[.int .i64 t'.n, .slice A3 t'.bytes.length c3, .int .i64 t'.err, .slice A4 ms2.length c4] 46)).cell? ⟨H, 2, none⟩ = some (.int .i64 t'.err) := by rw [hb6.cell]; rfl
      have y3 : (w5.alloc (.cells #[.int .i64 t'.n, .slice A3 t'.bytes.length c3, .int .i64 t'.err, .slice A4 ms2.length c4] 46)).cell? ⟨H, 3, none⟩ = some (.slice A2 ms.length c2) := by rw [hb6.cell]; rfl
      have z0 : (w5.alloc (.cells #[.int .i64 t'.n, .slice A3 t'.bytes.length c3, .int .i64 t'.err, .slice A4 ms2.length c4] 46)).cell? ⟨w5.heap.size, 0, none⟩ = some (.int .i64 t'.n) := by rw [hb7.cell]; rfl
      have z1 : (w5.alloc (.cells #[.int .i64 t'.n, .slice A3 t'.bytes.length c3, .int .i64 t'.err, .slice A4 ms2.length c4] 46)).cell? ⟨w5.heap.size, 1, none⟩ = some (.slice A3 t'.bytes.length c3) := by rw [hb7.cell]; rfl
      have z2 : (w5.alloc (.cells #[.int .i64 t'.n, .slice A3 t'.bytes.length c3, .int .i64 t'.err, .slice A4 ms2.length c4] 46)).cell? ⟨w5.heap.size, 2, none⟩ = some (.int .i64 t'.err) := by rw [hb7.cell]; rfl
      have z3 : (w5.alloc (.cells #[.int .i64 t'.n, .slice A3 t'.bytes.length c3, .int .i64 t'.err, .slice A4 ms2.length c4] 46)).cell? ⟨w5.heap.size, 3, none⟩ = some (.slice A4 ms2.length c4) := by rw [hb7.cell]; rfl
      have hsm := same_true t' _ _ _ _ ms ms2 _ x1 x2 x3 x4 x5
      have hpR' := hon2.same
      replace hsm := Lib.hid hsm
      replace hT6 := Lib.hid hT6
      replace hab2 := Lib.hid hab2
      replace hpR' := Lib.hid hpR'
      clear hon2 htd2 hM x1 x2 x3 x4 x5 d0 d1 d2 d3 d4 hb6 hb7
      have hS' : Sim R'.abs W'.abs := by rw [hab.out, hab2.out]; exact hop2.out
      have hO2 : W'.abs.Ok := by rw [hab.out]; exact hO'.out
      replace hS' := Lib.hid hS'
      replace hO2 := Lib.hid hO2
      go_wp2_with fail
      refine hsm.out.mono ?_
      rintro e w7 ⟨rfl, hu7⟩
      have hT7 := hT6.out.keep hu7
      have hen := ends_true W' R' w7 hT7 hS'.out
      rw [hpW'.out, hpR'.out] at hen
      replace hT7 := Lib.hid hT7
      replace hen := Lib.hid hen
      clear hu7
      go_wp2_with fail
      refine hen.out.mono ?_
      rintro e w8 ⟨rfl, hu8⟩
      replace hu8 := Lib.hid hu8
      go_wp2
      go_roundw
      case rel => exact ⟨k + 1, W', R', by omega, by go_num, hpW'.out, hpR'.out, hT7.out.keep hu8.out, hS'.out, hO2.out⟩
      case measure => simp [intOf]; omega
    · obtain rfl : os.length = k := by omega
      replace hT := Lib.hid hT
      replace hS := Lib.hid hS
      replace hO := Lib.hid hO
      go_wp2_with fail
      have hT1 := hT.out.keep (one_upd wr)
      have hc := send_any W _ [1] _ hT1.wok (one_rd wr) (fun hk => by have h2 := hT.out.wok.blk.lt; simp only [Value.ownBlock, Option.some.injEq] at hk; omega)
      obtain ⟨hop1, hop2⟩ := hS.out.send [1]
      generalize W.abs.send [1] = tw at *
      obtain ⟨s', sn, se⟩ := tw
      refine hc.mono ?_
      clear hc
      rintro e w3 ⟨W', rfl, hon, hab⟩
      have hT2 := Lib.hid (hT1.stepW hon)
      have hp2 := Lib.hid hon.same
      replace hab := Lib.hid hab
      clear hT1 hon hT
      go_wp2_with fail
      have hT3 := hT2.out.keep (one_upd w3)
      have hc := rsend_any R _ [1] _ hT3.rok (one_rd w3) (fun _ hk => by have h2 := hT2.out.rok.blk.lt; simp only [Value.ownBlock, Option.some.injEq] at hk; omega)
      generalize R.abs.send [1] = tr at *
      obtain ⟨r', rn, re⟩ := tr
      simp only [Prod.mk.injEq] at hop1 hop2 hc
      obtain ⟨rfl, rfl⟩ := hop1
      refine hc.mono ?_
      clear hc
      rintro e w4 ⟨R', rfl, hon, hab2⟩
      have hT4 := hT3.stepR hon
      have hen := ends_true W' R' w4 hT4 (by rw [hab.out, hab2]; exact hop2)
      rw [hp2.out, hon.same] at hen
      replace hT4 := Lib.hid hT4
      replace hen := Lib.hid hen
      clear hT3 hon hT2 hop2
      go_wp2_with fail
      refine hen.out.mono ?_
      rintro e w5 ⟨rfl, hu5⟩
      replace hu5 := Lib.hid hu5
      go_wp2
      go_ret
      exact ⟨rfl, below_of_old (hT4.out.keep hu5.out).upd⟩
end Go.Proofs.Ytfnlemdlngdaiaa
