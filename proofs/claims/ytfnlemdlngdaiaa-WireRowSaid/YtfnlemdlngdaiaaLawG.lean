/-
  The law's 'same', 'ends', 'plays'.
-/
import Derived.Test.YtfnlemdlngdaiaaRfS
import Derived.Test.YtfnlemdlngdaiaaLawB
namespace Go.Proofs.Ytfnlemdlngdaiaa
open Go.RowKit

/-- A wire and a reference's wire, apart, both newer than w0. -/
structure Two (w0 w : World) (W : Wr) (R : Rf) : Prop where
  wok : WrOk w W
  rok : RfOk w R
  dis : ∀ k, W.foot k → ¬ R.foot k
  wnew : ∀ k, W.foot k → w0.heap.size ≤ k
  rnew : ∀ k, R.foot k → w0.heap.size ≤ k
  upd : Upd (fun k => ¬ older w0 k) w0 w
section
variable {w0 w w' : World} {W W' : Wr} {R R' : Rf}
theorem Two.keep (h : Two w0 w W R) (hu : Upd noBlk w w') : Two w0 w' W R :=
  ⟨h.wok.upd hu fun _ _ h => h, h.rok.keep hu, h.dis, h.wnew, h.rnew, h.upd.trans_same (hu.of_none _)⟩
theorem Two.stepW (h : Two w0 w W R) (ho : Onward w W w' W') : Two w0 w' W' R := by
  refine ⟨ho.ok, h.rok.upd ho.upd fun k hk hw => h.dis k hw hk, fun k hk hr => ?_, fun k hk => ?_, h.rnew, h.upd.trans_same (ho.upd.mono fun k _ hk ho => ?_)⟩
  · rcases ho.into k hk with h1 | h1
    · exact h.dis k h1 hr
    · have := h.rok.lt k hr; omega
  · rcases ho.into k hk with h1 | h1
    · exact h.wnew k h1
    · exact Nat.le_trans h.upd.size h1
  · have := h.wnew k hk; unfold older at ho; omega
theorem Two.stepR (h : Two w0 w W R) (ho : ROn w R w' R') : Two w0 w' W R' := by
  refine ⟨h.wok.upd ho.upd fun k hk hr => h.dis k hk hr, ho.ok, fun k hk hr => ?_, h.wnew, fun k hk => ?_, h.upd.trans_same (ho.upd.mono fun k _ hk ho => ?_)⟩
  · rcases ho.into k hr with h1 | h1
    · exact h.dis k hk h1
    · have := h.wok.lt k hk; omega
  · rcases ho.into k hk with h1 | h1
    · exact h.rnew k h1
    · exact Nat.le_trans h.upd.size h1
  · have := h.rnew k hk; unfold older at ho; omega
end

set_option maxRecDepth 100000 in
set_option maxHeartbeats 1000000 in
theorem same_true (t : TdA) (b1 r1 b2 r2 : Value) (m1 m2 : List Msg) (w : World) (h1 : RdB w b1 t.bytes) (h2 : RdB w b2 t.bytes) (h3 : RdM w r1 m1) (h4 : RdM w r2 m2) (he : m1.map Msg.abs = m2.map Msg.abs) :
    Calls Try.prog 29 #[.agg #[.int .i64 t.n, b1, .int .i64 t.err, r1], .agg #[.int .i64 t.n, b2, .int .i64 t.err, r2]] w fun e w' => e = .returned (.bool true) ∧ Upd noBlk w w' := by
  obtain ⟨tn, tb, te, tr⟩ := t
  simp only at h1 h2 ⊢
  have hu0 := ((Upd.refl noBlk w).alloc (.cells #[.int .i64 tn, b1, .int .i64 te, r1] 46)).alloc (.cells #[.int .i64 tn, b2, .int .i64 te, r2] 46)
  have k1 := (Blk.new w 46 #[.int .i64 tn, b1, .int .i64 te, r1]).alloc (.cells #[.int .i64 tn, b2, .int .i64 te, r2] 46)
  have k2 := Blk.new (w.alloc (.cells #[.int .i64 tn, b1, .int .i64 te, r1] 46)) 46 #[.int .i64 tn, b2, .int .i64 te, r2]
  obtain ⟨A1, c1, rfl, -⟩ := nil_empty h1
  obtain ⟨A2, c2, rfl, -⟩ := nil_empty h2
  obtain ⟨A3, c3, rfl, -⟩ := h3.form
  obtain ⟨A4, c4, rfl, -⟩ := h4.form
  have j1 := same_any _ _ tb tb _ (h1.none hu0) (h2.none hu0)
  rw [show decide (tb = tb) = true from decide_eq_true rfl] at j1
  replace h3 := Lib.hid h3
  replace h4 := Lib.hid h4
  replace hu0 := Lib.hid hu0
  replace j1 := Lib.hid j1
  clear h1 h2
  go_enter Try.func29, Try.ntmps29
  go_wp2_with fail
  refine j1.out.mono ?_
  rintro e w2 ⟨rfl, q, rfl⟩
  have hu2 := hu0.out.drewN q
  have hr := rows_any _ _ m1 m2 _ (h3.out.keep hu2) (h4.out.keep hu2)
  rw [show decide (m1.map Msg.abs = m2.map Msg.abs) = true from decide_eq_true he] at hr
  replace hr := Lib.hid hr
  replace hu2 := Lib.hid hu2
  go_wp2_with fail
  refine hr.out.mono ?_
  rintro e w3 ⟨rfl, q3, rfl⟩
  go_wp2
  go_ret
  exact ⟨rfl, hu0.out.drewN _⟩

/-- What 'ends' tells of two that go together. -/
theorem ends_true {w0 : World} (W : Wr) (R : Rf) (w : World) (h : Two w0 w W R) (hs : Sim R.abs W.abs) : Calls Try.prog 26 #[.pointer (some ⟨W.p, 0, none⟩), .pointer (some ⟨R.p, 0, none⟩)] w fun e w' => e = .returned (.bool true) ∧ Upd noBlk w w' := by
  replace h := Lib.hid h
  replace hs := Lib.hid hs
  go_enter Try.func26, Try.ntmps26
  go_wp2_with fail
  refine (waiting_any W w h.out.wok).mono ?_
  rintro e w1 ⟨v1, m1, rfl, ho1, hm1, hu1⟩
  have g1 := Lib.hid (h.out.keep hu1)
  obtain ⟨A1, c1, rfl, -⟩ := own_form ho1.row
  replace ho1 := Lib.hid ho1
  replace hm1 := Lib.hid hm1
  replace hu1 := Lib.hid hu1
  clear h
  go_wp2_with fail
  refine (rwait_any R w1 g1.out.rok).mono ?_
  rintro e w2 ⟨v2, m2, rfl, ho2, hm2, hu2⟩
  rw [hs.out.waiting] at hm2
  have g2 := Lib.hid (g1.out.keep hu2)
  obtain ⟨A2, c2, rfl, -⟩ := own_form ho2.row
  have r1 := Lib.hid (ho1.out.rd.keep hu2)
  have r2 := Lib.hid ho2.rd
  replace hm2 := Lib.hid hm2
  replace hu2 := Lib.hid (hu1.out.then_none hu2)
  clear g1 ho1 ho2 hu1
  go_wp2_with fail
  refine (next_any W w2 g2.out.wok).mono ?_
  rintro e w3 ⟨rfl, rfl⟩
  go_wp2_with fail
  have hr := rows_any _ _ m1 m2 w2 r1.out r2.out
  rw [show decide (m1.map Msg.abs = m2.map Msg.abs) = true from decide_eq_true (by rw [hm1.out, hm2.out])] at hr
  refine hr.mono ?_
  rintro e w3 ⟨rfl, q3, rfl⟩
  clear hr r1 r2
  have hu3 := Lib.hid (hu2.out.drewN q3)
  have g3 := Lib.hid (g2.out.keep ((Upd.refl noBlk w2).drewN q3))
  clear g2 hu2
  generalize w2.drewN q3 = w3 at *
  go_wp2_with fail
  refine (rnext_any R w3 g3.out.rok).mono ?_
  rintro e w4 ⟨rfl, q4, rfl⟩
  rw [hs.out.next]
  go_wp2
  go_ret
  exact ⟨rfl, hu3.out.drewN q4⟩
/-- A telling in a block of its own. -/
theorem tell_blk (w : World) (n er : Int) (bs rv : Value) :
    Blk (((((w.alloc (.cells #[.int .i64 0, .slice none 0 0, .int .i64 0, .slice none 0 0] 46)).setCell ⟨w.heap.size, 0, none⟩ (.int .i64 n)).setCell ⟨w.heap.size, 1, none⟩ bs).setCell ⟨w.heap.size, 2, none⟩ (.int .i64 er)).setCell ⟨w.heap.size, 3, none⟩ rv) w.heap.size 46 #[.int .i64 n, bs, .int .i64 er, rv] ∧
    Upd noBlk w (((((w.alloc (.cells #[.int .i64 0, .slice none 0 0, .int .i64 0, .slice none 0 0] 46)).setCell ⟨w.heap.size, 0, none⟩ (.int .i64 n)).setCell ⟨w.heap.size, 1, none⟩ bs).setCell ⟨w.heap.size, 2, none⟩ (.int .i64 er)).setCell ⟨w.heap.size, 3, none⟩ rv) :=
  ⟨((((Blk.new w 46 #[.int .i64 0, .slice none 0 0, .int .i64 0, .slice none 0 0]).set 0 (.int .i64 n)).set 1 bs).set 2 (.int .i64 er)).set 3 rv,
   ((((((Upd.refl noBlk w).alloc (.cells #[.int .i64 0, .slice none 0 0, .int .i64 0, .slice none 0 0] 46)).setCell (p := ⟨w.heap.size, 0, none⟩) (.inr (Nat.le_refl _)) _).setCell (p := ⟨w.heap.size, 1, none⟩) (.inr (Nat.le_refl _)) _).setCell (p := ⟨w.heap.size, 2, none⟩) (.inr (Nat.le_refl _)) _).setCell (p := ⟨w.heap.size, 3, none⟩) (.inr (Nat.le_refl _)) _)⟩

/-- A telling of 'do' laid by; the reference goes on. -/
structure Mid (w0 w3 : World) (W : Wr) (R : Rf) (H : Nat) (bs rv : Value) (ms : List Msg) (t : TdA) : Prop where
  two : Two w0 w3 W R
  blk : Blk w3 H 46 #[.int .i64 t.n, bs, .int .i64 t.err, rv]
  td : TdOk 0 w3 bs rv ms t
  far : ∀ k, TdFoot bs rv ms k → ¬ R.foot k
  hfar : ¬ R.foot H
theorem mid_of {w0 wr w2 w3 : World} {W W' : Wr} {R : Rf} {H : Nat} {bs rv : Value} {ms : List Msg} {t : TdA} (hT : Two w0 wr W R) (hon : Onward wr W w2 W') (htd : TdOk wr.heap.size w2 bs rv ms t)
    (hb : Blk w3 H 46 #[.int .i64 t.n, bs, .int .i64 t.err, rv]) (hH : w2.heap.size ≤ H) (hu : Upd noBlk w2 w3) : Mid w0 w3 W' R H bs rv ms t := by
  have h1 := htd.upd hu fun _ _ h => h
  refine ⟨(hT.stepW hon).keep hu, hb, ⟨h1.bytes.mono (Nat.zero_le _), h1.row.mono (Nat.zero_le _), h1.abs⟩, fun k hk hr => ?_, fun hr => ?_⟩
  · have := (htd.lt k hk).1
    have := hT.rok.lt k hr
    omega
  · have := hT.rok.lt H hr
    have := hon.upd.size
    omega
theorem end_of {w0 w3 w4 w5 : World} {W : Wr} {R R' : Rf} {H : Nat} {bs rv bs2 rv2 : Value} {ms ms2 : List Msg} {t : TdA} (h : Mid w0 w3 W R H bs rv ms t) (ho : ROn w3 R w4 R') (htd : TdOk w3.heap.size w4 bs2 rv2 ms2 t) (hu : Upd noBlk w4 w5) :
    Two w0 w5 W R' ∧ Blk w5 H 46 #[.int .i64 t.n, bs, .int .i64 t.err, rv] ∧ RdB w5 bs t.bytes ∧ RdB w5 bs2 t.bytes ∧ RdM w5 rv ms ∧ RdM w5 rv2 ms2 ∧ ms.map Msg.abs = ms2.map Msg.abs := by
  have h1 := (h.td.upd ho.upd fun k hk hr => h.far k hk hr).upd hu fun _ _ h => h
  have h2 := htd.upd hu fun _ _ h => h
  exact ⟨(h.two.stepR ho).keep hu, (h.blk.upd ho.upd h.hfar).upd hu fun h => h, h1.bytes.rd, h2.bytes.rd, h1.row.rd, h2.row.rd, by rw [h.td.abs, htd.abs]⟩

def PlaysP (w0 : World) (e : Ending) (w' : World) : Prop :=
  ∃ (W : Wr) (R : Rf), e = .returned (.tuple #[.pointer (some ⟨W.p, 0, none⟩), .pointer (some ⟨R.p, 0, none⟩), .bool true]) ∧ Two w0 w' W R ∧ Sim R.abs W.abs ∧ W.abs.Ok

set_option maxRecDepth 100000 in
set_option maxHeartbeats 4000000 in
theorem plays_any (v : Value) (lo hi : Int) (os : List OpD) (w : World) (hs : ScriptAt w v os) : Calls Try.prog 25 #[v, .int .i64 lo, .int .i64 hi] w (PlaysP w) := by
  obtain ⟨A, c, rfl, hc1, hc2, hat⟩ := hs.form
  replace hs := Lib.hid hs
  replace hat := Lib.hid hat
  have hln : os.length ≤ 9223372036854775807 := by simp only [maxLen] at hc2; omega
  clear hc2
  go_enter Try.func25, Try.ntmps25
  go_wp2_with fail
  refine (new_any _).mono ?_
  rintro e w1 ⟨W1, rfl, hW, ha, hu, hge⟩
  have h1 := Lib.hid hW
  have ha1 := Lib.hid ha
  have u1 := Lib.hid hu
  have g1 := Lib.hid hge
  clear hW ha hu hge
  go_wp2_with fail
  refine (rnew_any _).mono ?_
  rintro e w2 ⟨R1, rfl, hR, hra, hu, hge⟩
  have hT : Two w w2 W1 R1 := ⟨h1.out.upd hu fun _ _ h => h, hR, fun k hk hr => by have := hge k hr; have := h1.out.lt k hk; omega, g1.out, fun k hk => Nat.le_trans u1.out.size (hge k hk), (u1.out.of_none _).trans_same (hu.of_none _)⟩
  have hS : Sim R1.abs W1.abs := by rw [hra, ha1.out]; exact Sim.nil
  have hO : W1.abs.Ok := by rw [ha1.out]; exact WA.Ok.nil
  replace hT := Lib.hid hT
  replace hS := Lib.hid hS
  replace hO := Lib.hid hO
  clear h1 ha1 u1 g1 hR hra hu hge
  go_wp2_with fail
  go_loopw [11] (fun i wr => ∃ (k : Nat) (W : Wr) (R : Rf), k ≤ os.length ∧ i = .int .i64 k ∧ W.p = W1.p ∧ R.p = R1.p ∧ Two w wr W R ∧ Sim R.abs W.abs ∧ W.abs.Ok) (fun i _ => os.length - (intOf i).toNat)
  case atStart => exact ⟨0, W1, R1, Nat.zero_le _, rfl, rfl, rfl, hT.out, hS.out, hO.out⟩
  case round =>
    clear hT hS hO
    obtain ⟨k, W, R, hk, rfl, hpW, hpR, hT, hS, hO⟩ := hrel
    rw [← hpW, ← hpR]
    replace hpW := Lib.hid hpW
    replace hpR := Lib.hid hpR
    by_cases hlt : k < os.length
    · obtain ⟨o, ho⟩ : ∃ o, os[k]? = some o := ⟨_, List.getElem?_eq_getElem hlt⟩
      obtain ⟨ad, vb, rfl, a0, a1, a2, a3, a4, a5, a6⟩ := hat.out k o ho
      rw [add_off _ _ _ (by decide)] at a1 a2 a3 a4
      have b0 := keep_old hT.upd a0
      have b1 := keep_old hT.upd a1
      have b2 := keep_old hT.upd a2
      have b3 := keep_old hT.upd a3
      have b4 := keep_old hT.upd a4
      have b5 := a5.old hT.upd
      have hne : o.bytes ≠ [] → vb.ownBlock ≠ some R.p := fun hb hk2 => by
        have h2 := a5.block_lt (by unfold bvs; simpa using hb) R.p hk2
        have h3 := hT.rnew R.p (.inl rfl)
        omega
      have hc := do_any W o vb wr hT.wok b5 a6
      obtain ⟨hop1, hop2⟩ := hS.op hO o
      have hO' := hO.doOp o
      generalize W.abs.doOp o = tw at *
      generalize hmo : R.abs.mustOp o = tr at *
      obtain ⟨s', t⟩ := tw
      obtain ⟨r', t'⟩ := tr
      simp only at hop1 hop2 hO' hc
      subst hop1
      replace hc := Lib.hid hc
      replace hT := Lib.hid hT
      replace hop2 := Lib.hid hop2
      replace hO' := Lib.hid hO'
      replace hne := Lib.hid hne
      replace a0 := Lib.hid a0
      replace a1 := Lib.hid a1
      replace a2 := Lib.hid a2
      replace a3 := Lib.hid a3
      replace a4 := Lib.hid a4
      replace a5 := Lib.hid a5
      replace a6 := Lib.hid a6
      replace hmo := Lib.hid hmo
      clear hS hO b5 ho
      go_wp2_with fail
      refine hc.out.mono ?_
      rintro e w3 ⟨bs, rv, ms, W', rfl, hon, hab, htd, -⟩
      obtain ⟨A1, c1, rfl, -⟩ := own_form htd.bytes
      obtain ⟨A2, c2, rfl, -⟩ := own_form htd.row.row
      have hM : Mid w (w3.alloc (.cells #[.int .i64 t'.n, .slice A1 t'.bytes.length c1, .int .i64 t'.err, .slice A2 ms.length c2] 46)) W' R w3.heap.size (.slice A1 t'.bytes.length c1) (.slice A2 ms.length c2) ms t' :=
        mid_of hT.out hon htd (Blk.new _ _ _) (Nat.le_refl _) ((Upd.refl noBlk w3).alloc _)
      have d0 := keep_old hM.two.upd a0.out
      have d1 := keep_old hM.two.upd a1.out
      have d2 := keep_old hM.two.upd a2.out
      have d3 := keep_old hM.two.upd a3.out
      have d4 := keep_old hM.two.upd a4.out
      have hpW' := hon.same
      replace hM := Lib.hid hM
      replace hab := Lib.hid hab
      replace hpW' := Lib.hid hpW'
      clear hon htd hT hc b0 b1 b2 b3 b4
      go_wp2_with fail
      generalize hw4 : w3.alloc (.cells #[.int .i64 t'.n, .slice A1 t'.bytes.length c1, .int .i64 t'.err, .slice A2 ms.length c2] 46) = w4 at *
      generalize hH : w3.heap.size = H at *
      clear hw4 hH w3
      have hd := must_any R o vb w4 hM.out.two.rok (a5.out.old hM.out.two.upd) hne.out
      rw [hmo.out] at hd
      refine hd.mono ?_
      clear hd
      rintro e w5 ⟨bs2, rv2, ms2, R', rfl, hon2, hab2, htd2, -⟩
      obtain ⟨A3, c3, rfl, -⟩ := own_form htd2.bytes
      obtain ⟨A4, c4, rfl, -⟩ := own_form htd2.row.row
      obtain ⟨hT6, hb6, x1, x2, x3, x4, x5⟩ := end_of hM.out hon2 htd2 ((Upd.refl noBlk w5).alloc (.cells #[.int .i64 t'.n, .slice A3 t'.bytes.length c3, .int .i64 t'.err, .slice A4 ms2.length c4] 46))
      have hb7 := Blk.new w5 46 #[.int .i64 t'.n, .slice A3 t'.bytes.length c3, .int .i64 t'.err, .slice A4 ms2.length c4]
      have q0 := keep_old hT6.upd a0.out
      have y0 : (w5.alloc (.cells #[.int .i64 t'.n, .slice A3 t'.bytes.length c3, .int .i64 t'.err, .slice A4 ms2.length c4] 46)).cell? ⟨H, 0, none⟩ = some (.int .i64 t'.n) := by rw [hb6.cell]; rfl
      have y1 : (w5.alloc (.cells #[.int .i64 t'.n, .slice A3 t'.bytes.length c3, .int .i64 t'.err, .slice A4 ms2.length c4] 46)).cell? ⟨H, 1, none⟩ = some (.slice A1 t'.bytes.length c1) := by rw [hb6.cell]; rfl
      have y2 : (w5.alloc (.cells #[.int .i64 t'.n, .slice A3 t'.bytes.length c3, .int .i64 t'.err, .slice A4 ms2.length c4] 46)).cell? ⟨H, 2, none⟩ = some (.int .i64 t'.err) := by rw [hb6.cell]; rfl
      have y3 : (w5.alloc (.cells #[.int .i64 t'.n, .slice A3 t'.bytes.length c3, .int .i64 t'.err, .slice A4 ms2.length c4] 46)).cell? ⟨H, 3, none⟩ = some (.slice A2 ms.length c2) := by rw [hb6.cell]; rfl
      have z0 : (w5.alloc (.cells #[.int .i64 t'.n, .slice A3 t'.bytes.length c3, .int .i64 t'.err, .slice A4 ms2.length c4] 46)).cell? ⟨w5.heap.size, 0, none⟩ = some (.int .i64 t'.n) := by rw [hb7.cell]; rfl
      have z1 : (w5.alloc (.cells #[.int .i64 t'.n, .slice A3 t'.bytes.length c3, .int .i64 t'.err, .slice A4 ms2.length c4] 46)).cell? ⟨w5.heap.size, 1, none⟩ = some (.slice A3 t'.bytes.length c3) := by rw [hb7.cell]; rfl
      have z2 : (w5.alloc (.cells #[.int .i64 t'.n, .slice A3 t'.bytes.length c3, .int .i64 t'.err, .slice A4 ms2.length c4] 46)).cell? ⟨w5.heap.size, 2, none⟩ = some (.int .i64 t'.err) := by rw [hb7.cell]; rfl
      have z3 : (w5.alloc (.cells #[.int .i64 t'.n, .slice A3 t'.bytes.length c3, .int .i64 t'.err, .slice A4 ms2.length c4] 46)).cell? ⟨w5.heap.size, 3, none⟩ = some (.slice A4 ms2.length c4) := by rw [hb7.cell]; rfl
      have hsm := same_true t' _ _ _ _ ms ms2 _ x1 x2 x3 x4 x5
      have hpR' := hon2.same
      replace hsm := Lib.hid hsm
      replace hT6 := Lib.hid hT6
      replace hab2 := Lib.hid hab2
      replace hpR' := Lib.hid hpR'
      clear hon2 htd2 hM x1 x2 x3 x4 x5 d0 d1 d2 d3 d4 hb6 hb7
      have hS' : Sim R'.abs W'.abs := by rw [hab.out, hab2.out]; exact hop2.out
      have hO2 : W'.abs.Ok := by rw [hab.out]; exact hO'.out
      replace hS' := Lib.hid hS'
      replace hO2 := Lib.hid hO2
      by_cases h1 : lo ≤ o.kind
      · by_cases h2 : o.kind ≤ hi
        · go_wp2_with fail
          refine hsm.out.mono ?_
          rintro e w7 ⟨rfl, hu7⟩
          replace hu7 := Lib.hid hu7
          go_wp2
          go_roundw
          case rel => exact ⟨k + 1, W', R', by omega, by go_num, hpW'.out, hpR'.out, hT6.out.keep hu7.out, hS'.out, hO2.out⟩
          case measure => simp [intOf]; omega
        · go_wp2
          go_roundw
          case rel => exact ⟨k + 1, W', R', by omega, by go_num, hpW'.out, hpR'.out, hT6.out, hS'.out, hO2.out⟩
          case measure => simp [intOf]; omega
      · go_wp2
        go_roundw
        case rel => exact ⟨k + 1, W', R', by omega, by go_num, hpW'.out, hpR'.out, hT6.out, hS'.out, hO2.out⟩
        case measure => simp [intOf]; omega
    · obtain rfl : os.length = k := by omega
      replace hT := Lib.hid hT
      replace hS := Lib.hid hS
      replace hO := Lib.hid hO
      go_wp2
      refine bodyPost_ret (v := .tuple #[.pointer (some ⟨W.p, 0, none⟩), .pointer (some ⟨R.p, 0, none⟩), .bool true]) (by simp [results, Try.results25, go_sem]) rfl ?_
      exact ⟨W, R, rfl, hT.out, hS.out, hO.out⟩
end Go.Proofs.Ytfnlemdlngdaiaa
