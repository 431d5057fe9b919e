/-
  The reference's functions: Swap, Flip, Cut.
-/
import Derived.Test.YtfnlemdlngdaiaaRfC
import Derived.Test.YtfnlemdlngdaiaaLawD
namespace Go.Proofs.Ytfnlemdlngdaiaa
open Go.RowKit

def RA.swap (r : RA) (n m : Int) : RA × Int := match r.pick n, r.pick m with
  | some i, some k => ((r.set i ((r.get i).1, (r.get k).2)).set k ((r.get k).1, (r.get i).2), 0)
  | _, _ => (r, 231)
theorem RfOk.placeFacts {w : World} {R : Rf} {g c n : Nat} (hR : RfOk w R) (hrv : R.rv = .slice (some ⟨g, 0, none⟩) n c) : (∀ j, w.frozen? ⟨g, j, none⟩ = false) ∧ g < w.heap.size ∧ R.p ≠ g := by
  obtain ⟨A, c', hrv', -⟩ := own_form hR.row
  have h := hR.row
  refine ⟨fun j => ?_, (hR.row.lt g (by rw [hrv]; rfl)).2, fun e => own_blk_ne hR.row hR.blk (by decide) (by rw [hrv, e]; rfl)⟩
  rw [hrv] at hrv'
  simp only [Value.slice.injEq] at hrv'
  obtain ⟨rfl, rfl, rfl⟩ := hrv'
  rw [hrv] at h
  exact World.ownsRow.frozenAt h j

set_option maxRecDepth 100000 in
set_option maxHeartbeats 1000000 in
theorem rswap_none (R : Rf) (n m : Int) (w : World) (hR : RfOk w R) (h : R.abs.pick n = none ∨ R.abs.pick m = none) :
    Calls Try.prog 47 #[.pointer (some ⟨R.p, 0, none⟩), .int .i64 n, .int .i64 m] w (RDoes w R (.int .i64 231) R.abs) := by
  have h1 := there_any R n w hR
  have h2 := there_any R m w hR
  replace hR := Lib.hid hR
  cases hf : R.abs.pick n with
  | none =>
    rw [hf] at h1
    simp only [Option.isSome_none] at h1
    replace h1 := Lib.hid h1
    clear h h2 hf
    go_enter Try.func47, Try.ntmps47
    go_wp2_with fail
    refine h1.out.mono ?_; rintro e w' ⟨rfl, rfl⟩
    go_wp2
    go_ret
    exact ⟨R, rfl, ROn.of_none hR.out (Upd.refl _ _), rfl⟩
  | some k =>
    rw [hf] at h1 h
    have h3 : R.abs.pick m = none := by simpa using h
    rw [h3] at h2
    simp only [Option.isSome_none, Option.isSome_some] at h1 h2
    replace h1 := Lib.hid h1
    replace h2 := Lib.hid h2
    clear h h3 hf
    go_enter Try.func47, Try.ntmps47
    go_wp2_with fail
    refine h1.out.mono ?_; rintro e w' ⟨rfl, rfl⟩
    go_wp2_with fail
    refine h2.out.mono ?_; rintro e w' ⟨rfl, rfl⟩
    go_wp2
    go_ret
    exact ⟨R, rfl, ROn.of_none hR.out (Upd.refl _ _), rfl⟩

set_option maxRecDepth 100000 in
set_option maxHeartbeats 2000000 in
theorem rswap_some (R : Rf) (i k : Nat) (a b : RMsg) (w : World) (hR : RfOk w R) (ha : R.ms[i]? = some a) (hb : R.ms[k]? = some b) (hpa : 0 < a.a) (hpb : 0 < b.a) :
    Calls Try.prog 47 #[.pointer (some ⟨R.p, 0, none⟩), .int .i64 ((i : Int) + 1), .int .i64 ((k : Int) + 1)] w (RDoes w R (.int .i64 0) ((R.abs.set i (a.l, b.a)).set k (b.l, a.a))) := by
  have h1 := there_any R ((i : Int) + 1) w hR
  have h2 := there_any R ((k : Int) + 1) w hR
  rw [RA.pick_of (l := a.l) (a := a.a) (by unfold Rf.abs; rw [List.getElem?_map, ha]; rfl) hpa] at h1
  rw [RA.pick_of (l := b.l) (a := b.a) (by unfold Rf.abs; rw [List.getElem?_map, hb]; rfl) hpb] at h2
  simp only [Option.isSome_some] at h1 h2
  obtain ⟨A, cap, hrv, hc1, hc2, c0, c1, hat⟩ := hR.open_
  obtain ⟨g, rfl, -, va⟩ := hat i a ha
  obtain ⟨g', hg', -, vb⟩ := hat k b hb
  simp only [Option.some.injEq, Addr.mk.injEq, and_true] at hg'
  subst hg'
  obtain ⟨hfz, hgw, hpg⟩ := hR.placeFacts hrv
  have hm := hR.most
  have hi := (List.getElem?_eq_some_iff.1 ha).1
  have hk := (List.getElem?_eq_some_iff.1 hb).1
  have hai := hR.ats a (List.mem_of_getElem? ha)
  have hbi := hR.ats b (List.mem_of_getElem? hb)
  have hiw : IntKind.i64.wrap (i : Int) = i := by rw [IntKind.wrap_i64]; omega
  have hkw : IntKind.i64.wrap (k : Int) = k := by rw [IntKind.wrap_i64]; omega
  obtain ⟨x, hx⟩ : ∃ x, x = a.a := ⟨_, rfl⟩
  obtain ⟨y, hy⟩ : ∃ y, y = b.a := ⟨_, rfl⟩
  obtain ⟨ln, hln⟩ : ∃ ln, ln = R.ms.length := ⟨_, rfl⟩
  rw [← hx] at va hai hpa ⊢
  rw [← hy] at vb hbi hpb ⊢
  rw [← hln] at hrv hc1 c0 hm hi hk hai hbi
  have hon1 := fun w' (hu : Upd noBlk w w') => (hR.keep hu).turnA (a' := y) ha hrv hln.symm (by omega)
  have hfi := hfz (i * 2 + 1)
  have hfk := hfz (k * 2 + 1)
  have ei : ((i : Int)) < ln := by omega
  have ek : ((k : Int)) < ln := by omega
  have ei0 : (0 : Int) ≤ i := by omega
  have ek0 : (0 : Int) ≤ k := by omega
  replace h1 := Lib.hid h1
  replace h2 := Lib.hid h2
  replace hx := Lib.hid hx
  replace hy := Lib.hid hy
  simp only [maxLen] at hc2
  replace hR := Lib.hid hR
  replace hrv := Lib.hid hrv
  replace hln := Lib.hid hln
  replace hon1 := Lib.hid hon1
  replace ha := Lib.hid ha
  replace hb := Lib.hid hb
  clear hat c1 hfz
  go_enter Try.func47, Try.ntmps47
  go_wp2_with fail
  refine h1.out.mono ?_; rintro e w' ⟨rfl, rfl⟩
  go_wp2_with fail
  refine h2.out.mono ?_; rintro e w' ⟨rfl, rfl⟩
  go_wp2_with fail
  have hS : w.drew.cell? ⟨R.p, 0, none⟩ = some (.slice (some ⟨g, 0, none⟩) ln cap) ∧ w.drew.cell? ⟨g, k * 2 + 1, none⟩ = some (.int .i64 y) := ⟨c0, vb⟩
  refine wp_region_L (n := 18) (fun w : World => w.cell? ⟨R.p, 0, none⟩ = some (.slice (some ⟨g, 0, none⟩) ln cap) ∧ w.cell? ⟨g, k * 2 + 1, none⟩ = some (.int .i64 y)) [] [0, 1, 2, 3, 4, 5, 6, 7, 8, 9, 10, 11, 12, 13, 14, 15, 16] (by kernel_rfl) rfl ?_
  refine AnyL.pure (i := 0) (v := ?_) (some 27) rfl rfl (by kernel_rfl) (by kernel_rfl) (by kernel_rfl) rfl (fun _ _ _ h => h) (by rfl) (fun ww => ?_) ?_; rotate_left; · (go_simp; (try with_reducible rfl))
  refine AnyL.pure (i := 1) (v := ?_) (some 28) rfl rfl (by kernel_rfl) (by kernel_rfl) (by kernel_rfl) rfl (fun _ _ _ h => h) (by rfl) (fun ww => ?_) ?_; rotate_left; · (go_simp; (try with_reducible rfl))
  refine AnyL.pure (i := 2) (v := ?_) (some 29) rfl rfl (by kernel_rfl) (by kernel_rfl) (by kernel_rfl) rfl (fun _ _ _ h => h) (by rfl) (fun ww => ?_) ?_; rotate_left; · (go_simp; (try with_reducible rfl))
  refine AnyL.take (i := 3) (v := ?_) (some 30) rfl rfl (by kernel_rfl) (by kernel_rfl) (by kernel_rfl) rfl (by kernel_rfl) (fun _ _ _ h => h) (by rfl) (fun ww hww => ?_) hS ?_; rotate_left; · (obtain ⟨hs0, hs1⟩ := hww; go_simp; (try with_reducible rfl))
  refine AnyL.pure (i := 4) (v := ?_) (some 31) rfl rfl (by kernel_rfl) (by kernel_rfl) (by kernel_rfl) rfl (fun _ _ _ h => h) (by rfl) (fun ww => ?_) ?_; rotate_left; · (go_simp; (try with_reducible rfl))
  refine AnyL.pure (i := 5) (v := ?_) (some 32) rfl rfl (by kernel_rfl) (by kernel_rfl) (by kernel_rfl) rfl (fun _ _ _ h => h) (by rfl) (fun ww => ?_) ?_; rotate_left; · (go_simp; (try with_reducible rfl))
  refine AnyL.pure (i := 6) (v := ?_) (some 33) rfl rfl (by kernel_rfl) (by kernel_rfl) (by kernel_rfl) rfl (fun _ _ _ h => h) (by rfl) (fun ww => ?_) ?_; rotate_left; · (go_simp; (try with_reducible rfl))
  refine AnyL.pure (i := 7) (v := ?_) (some 34) rfl rfl (by kernel_rfl) (by kernel_rfl) (by kernel_rfl) rfl (fun _ _ _ h => h) (by rfl) (fun ww => ?_) ?_; rotate_left; · (go_simp; (try with_reducible rfl))
  refine AnyL.pure (i := 8) (v := ?_) (some 35) rfl rfl (by kernel_rfl) (by kernel_rfl) (by kernel_rfl) rfl (fun _ _ _ h => h) (by rfl) (fun ww => ?_) ?_; rotate_left; · (go_simp; (try with_reducible rfl))
  refine AnyL.take (i := 9) (v := ?_) (some 36) rfl rfl (by kernel_rfl) (by kernel_rfl) (by kernel_rfl) rfl (by kernel_rfl) (fun _ _ _ h => h) (by rfl) (fun ww hww => ?_) hS ?_; rotate_left; · (obtain ⟨hs0, hs1⟩ := hww; go_simp; (try with_reducible rfl))
  refine AnyL.pure (i := 10) (v := ?_) (some 37) rfl rfl (by kernel_rfl) (by kernel_rfl) (by kernel_rfl) rfl (fun _ _ _ h => h) (by rfl) (fun ww => ?_) ?_; rotate_left; · (go_simp; (try with_reducible rfl))
  refine AnyL.pure (i := 11) (v := ?_) (some 38) rfl rfl (by kernel_rfl) (by kernel_rfl) (by kernel_rfl) rfl (fun _ _ _ h => h) (by rfl) (fun ww => ?_) ?_; rotate_left; · (go_simp; (try with_reducible rfl))
  refine AnyL.pure (i := 12) (v := ?_) (some 39) rfl rfl (by kernel_rfl) (by kernel_rfl) (by kernel_rfl) rfl (fun _ _ _ h => h) (by rfl) (fun ww => ?_) ?_; rotate_left; · (go_simp; (try with_reducible rfl))
  refine AnyL.pure (i := 13) (v := ?_) (some 40) rfl rfl (by kernel_rfl) (by kernel_rfl) (by kernel_rfl) rfl (fun _ _ _ h => h) (by rfl) (fun ww => ?_) ?_; rotate_left; · (go_simp; (try with_reducible rfl))
  refine AnyL.take (i := 14) (v := ?_) (some 41) rfl rfl (by kernel_rfl) (by kernel_rfl) (by kernel_rfl) rfl (by kernel_rfl) (fun _ _ _ h => h) (by rfl) (fun ww hww => ?_) hS ?_; rotate_left; · (obtain ⟨hs0, hs1⟩ := hww; go_simp; (try with_reducible rfl))
  refine AnyL.pure (i := 15) (v := ?_) (some 42) rfl rfl (by kernel_rfl) (by kernel_rfl) (by kernel_rfl) rfl (fun _ _ _ h => h) (by rfl) (fun ww => ?_) ?_; rotate_left; · (go_simp; (try with_reducible rfl))
  refine AnyL.pure (i := 16) (v := ?_) (some 43) rfl rfl (by kernel_rfl) (by kernel_rfl) (by kernel_rfl) rfl (fun _ _ _ h => h) (by rfl) (fun ww => ?_) ?_; rotate_left; · (go_simp; (try with_reducible rfl))
  simp only [Act.put, List.setIfInBounds_toArray]; try simp only [List.set_cons_zero, List.set_cons_succ]
  refine AnyL.last (i := 17) (by kernel_rfl) rfl rfl rfl (fun K hK => ?_)
  go_simp
  refine hK _ _ ?_; clear hK K
  refine AnyL.done (by kernel_rfl) ?_
  have hon' := hon1.out w (Upd.refl noBlk w)
  have hon : ROn w R (w.setCell ⟨g, i * 2 + 1, none⟩ (.int .i64 y)).drew { R with ms := R.ms.set i ⟨a.v, a.l, y⟩ } := hon'.trans (ROn.of_none hon'.ok ((Upd.refl noBlk _).drewN 1))
  have hu2 : Upd (fun j => j = g) w (w.setCell ⟨g, i * 2 + 1, none⟩ (.int .i64 y)).drew := ((Upd.refl (fun j => j = g) w).setCell (p := ⟨g, i * 2 + 1, none⟩) (.inl rfl) _).drew
  clear hon'
  have d0 := hu2.cell_some (p := ⟨R.p, 0, none⟩) c0 hpg
  generalize (w.setCell ⟨g, i * 2 + 1, none⟩ (.int .i64 y)).drew = w2 at *
  obtain ⟨b', hb', hbv, hbl⟩ : ∃ b', (R.ms.set i ⟨a.v, a.l, y⟩)[k]? = some b' ∧ b'.v = b.v ∧ b'.l = b.l := by
    by_cases hik : i = k
    · subst hik
      have hab : a = b := Option.some.inj (ha.out.symm.trans hb.out)
      subst hab
      exact ⟨_, List.getElem?_set_self (by rw [← hln.out]; exact hi), rfl, rfl⟩
    · exact ⟨b, by rw [List.getElem?_set_ne hik]; exact hb.out, rfl, rfl⟩
  have hl1 : (R.ms.set i ⟨a.v, a.l, y⟩).length = ln := by rw [List.length_set]; exact hln.out.symm
  have hrv1 : Rf.rv { R with ms := R.ms.set i ⟨a.v, a.l, y⟩ } = .slice (some ⟨g, 0, none⟩) ln cap := hrv.out
  obtain ⟨A3, c3, e3, -, -, -, -, hat3⟩ := hon.ok.open_
  rw [hrv1] at e3
  simp only [Value.slice.injEq] at e3
  obtain ⟨rfl, -, -⟩ := e3
  obtain ⟨g3, e4, -, d1⟩ := hat3 k b' hb'
  simp only [Option.some.injEq, Addr.mk.injEq, and_true] at e4
  subst e4
  have d2 := (hon.ok.placeFacts hrv1).1 (k * 2 + 1)
  have hon2 := hon.ok.turnA (a' := x) hb' hrv1 hl1 hai
  replace hon := Lib.hid hon
  replace hon2 := Lib.hid hon2
  replace hb' := Lib.hid hb'
  replace hbv := Lib.hid hbv
  replace hbl := Lib.hid hbl
  clear hS hu2 hat3 hrv1 hl1
  go_wp2
  go_ret
  refine ⟨_, rfl, hon.out.trans hon2.out, ?_⟩
  simp only [Rf.abs, List.map_set, RMsg.abs, hbl.out]
theorem rswap_any (R : Rf) (n m : Int) (w : World) (hR : RfOk w R) :
    Calls Try.prog 47 #[.pointer (some ⟨R.p, 0, none⟩), .int .i64 n, .int .i64 m] w (RDoes w R (.int .i64 (R.abs.swap n m).2) (R.abs.swap n m).1) := by
  unfold RA.swap
  cases hf : R.abs.pick n with
  | none => exact rswap_none R n m w hR (.inl hf)
  | some i =>
    cases hg : R.abs.pick m with
    | none => exact rswap_none R n m w hR (.inr hg)
    | some k =>
      obtain ⟨rfl, l1, a1, h1, ha⟩ := RA.pick_some hf
      obtain ⟨rfl, l2, a2, h2, hb⟩ := RA.pick_some hg
      obtain ⟨a, ha1, rfl, rfl, -⟩ := Rf.at_abs h1
      obtain ⟨b, hb1, rfl, rfl, -⟩ := Rf.at_abs h2
      simp only
      rw [Rf.get_at ha1, Rf.get_at hb1]
      exact rswap_some R i k a b w hR ha1 hb1 ha hb

def RA.flip (r : RA) (n at_ bits : Int) : RA × Int := match r.pick n with
  | none => (r, 231)
  | some k => if at_ < 0 ∨ ((r.get k).1.length : Int) ≤ at_ then (r, 232) else (r.set k (WA.flipped (r.get k).1 at_.toNat bits, (r.get k).2), 0)
def RA.cut (r : RA) (n len : Int) : RA × Int := match r.pick n with
  | none => (r, 231)
  | some k => if len < 0 ∨ ((r.get k).1.length : Int) < len then (r, 232) else (r.set k ((r.get k).1.take len.toNat, (r.get k).2), 0)

theorem low_and (bits : Int) : WA.low (Go.bits .and .i64 bits 255) = WA.low bits := by
  unfold WA.low
  rw [and255, Int.emod_emod]

set_option maxRecDepth 100000 in
set_option maxHeartbeats 2000000 in
theorem rflip_any (R : Rf) (n at_ bits : Int) (w : World) (hR : RfOk w R) :
    Calls Try.prog 48 #[.pointer (some ⟨R.p, 0, none⟩), .int .i64 n, .int .i64 at_, .int .i64 bits] w (RDoes w R (.int .i64 (R.abs.flip n at_ bits).2) (R.abs.flip n at_ bits).1) := by
  have ht := there_any R n w hR
  unfold RA.flip
  cases hf : R.abs.pick n with
  | none =>
    rw [hf] at ht
    simp only [Option.isSome_none] at ht ⊢
    replace ht := Lib.hid ht
    replace hR := Lib.hid hR
    clear hf
    go_enter Try.func48, Try.ntmps48
    go_wp2_with (go_at_call 54; refine ht.out.mono ?_; rintro e w' ⟨rfl, rfl⟩)
    go_ret
    exact ⟨R, rfl, ROn.of_none hR.out (Upd.refl _ _), rfl⟩
  | some k =>
    rw [hf] at ht
    simp only [Option.isSome_some] at ht ⊢
    obtain ⟨rfl, l, a, hk, ha⟩ := RA.pick_some hf
    obtain ⟨m, hmk, rfl, rfl, hlt⟩ := Rf.at_abs hk
    rw [Rf.get_at hmk]
    obtain ⟨A, cap, hrv, hc1, hc2, c0, c1, hat⟩ := hR.open_
    obtain ⟨g, rfl, v0, v1⟩ := hat k m hmk
    obtain ⟨hfz, hgw, hpg⟩ := hR.placeFacts hrv
    have hfk := hfz (k * 2)
    have hm := hR.most
    have hmem := List.mem_of_getElem? hmk
    have hsm := hR.small m hmem
    have hpl := hR.blk.lt
    have hc := rcopy_any m.v m.l w (hR.byt m hmem).rd (by omega)
    replace hc := Lib.hid hc
    replace ht := Lib.hid ht
    have hkw : IntKind.i64.wrap (k : Int) = k := by rw [IntKind.wrap_i64]; omega
    obtain ⟨ln, hln⟩ : ∃ ln, ln = R.ms.length := ⟨_, rfl⟩
    rw [← hln] at hrv hc1 c0 hm hlt
    have hkl : (k : Int) < ln := by omega
    have hk0 : (0 : Int) ≤ k := by omega
    simp only [maxLen] at hc2
    replace hR := Lib.hid hR
    replace hmk := Lib.hid hmk
    replace hrv := Lib.hid hrv
    replace hln := Lib.hid hln
    clear hf hk hat hmem v1 hfz
    obtain ⟨ll, hll⟩ : ∃ ll, ll = m.l.length := ⟨_, rfl⟩
    rw [← hll] at hsm ⊢
    replace hll := Lib.hid hll
    by_cases h1 : at_ < 0
    · rw [if_pos (.inl h1)]
      go_enter Try.func48, Try.ntmps48
      go_wp2_with (first | (go_at_call 54; refine ht.out.mono ?_; rintro e w' ⟨rfl, rfl⟩) | (go_at_call 53; refine hc.out.mono ?_; rintro e w' ⟨v', rfl, hown, hu⟩; replace hown := Lib.hid hown; replace hu := Lib.hid hu))
      go_ret
      exact ⟨R, rfl, ROn.of_none hR.out hu.out, rfl⟩
    · by_cases h2 : (ll : Int) ≤ at_
      · rw [if_pos (.inr h2)]
        go_enter Try.func48, Try.ntmps48
        go_wp2_with (first | (go_at_call 54; refine ht.out.mono ?_; rintro e w' ⟨rfl, rfl⟩) | (go_at_call 53; refine hc.out.mono ?_; rintro e w' ⟨v', rfl, hown, hu⟩; have hfo := own_form hown; obtain ⟨A', c', rfl, -⟩ := hfo; rw [← hll.out]; replace hown := Lib.hid hown; replace hu := Lib.hid hu))
        go_ret
        exact ⟨R, rfl, ROn.of_none hR.out hu.out, rfl⟩
      · rw [if_neg (by omega)]
        obtain ⟨j, rfl⟩ := Int.eq_ofNat_of_zero_le (Int.not_lt.1 h1)
        have hj : j < ll := by omega
        go_enter Try.func48, Try.ntmps48
        go_wp2_with fail
        refine ht.out.mono ?_; rintro e w' ⟨rfl, rfl⟩
        go_wp2_with fail
        refine hc.out.mono ?_
        rintro e w1 ⟨v', rfl, hown, hu⟩
        obtain ⟨A', c', rfl, hcc, hcm, -, -, hcel⟩ := own_form hown
        rw [← hll.out] at hown hcc ⊢
        obtain ⟨gb, rfl, -⟩ := hcel j _ (bvs_at (List.getElem?_eq_getElem (by rw [← hll.out]; exact hj)))
        clear hcel
        obtain ⟨b, hb, e0, e1⟩ := hown.at_ hll.out.symm hj
        have hgb := hown.ge gb rfl
        have d0 := hu.cell_some c0 id
        have d1 := hu.cell_some v0 id
        have d2 := hu.free hgw hfk id
        have n1 : ¬ R.p = gb := by omega
        have n2 : ¬ g = gb := by omega
        simp only [maxLen] at hcm
        replace hown := Lib.hid hown
        replace hu := Lib.hid hu
        replace hb := Lib.hid hb
        clear c0 v0 hfk
        go_wp2
        go_ret
        rw [xor_low, low_and]
        have hon := hR.out.turnV (l' := m.l.set j (b ^^^ WA.low bits)) (w1 := w1.setCell ⟨gb, j, none⟩ (bv (b ^^^ WA.low bits))) hmk.out hrv.out hln.out.symm (hu.out.setCell (p := ⟨gb, j, none⟩) (.inr hgb) _) (hown.out.stored hll.out.symm) (by rw [List.length_set, ← hll.out]; omega)
        refine ⟨_, rfl, hon, ?_⟩
        rw [Rf.abs_set]
        have hx : (b ^^^ WA.low bits) = m.l.getD j 0 ^^^ WA.low bits := by rw [List.getD_eq_getElem?_getD, hb.out]; rfl
        rw [hx]
        rfl

set_option maxRecDepth 100000 in
set_option maxHeartbeats 2000000 in
theorem rcut_any (R : Rf) (n len : Int) (w : World) (hR : RfOk w R) :
    Calls Try.prog 49 #[.pointer (some ⟨R.p, 0, none⟩), .int .i64 n, .int .i64 len] w (RDoes w R (.int .i64 (R.abs.cut n len).2) (R.abs.cut n len).1) := by
  have ht := there_any R n w hR
  unfold RA.cut
  cases hf : R.abs.pick n with
  | none =>
    rw [hf] at ht
    simp only [Option.isSome_none] at ht ⊢
    replace ht := Lib.hid ht
    replace hR := Lib.hid hR
    clear hf
    go_enter Try.func49, Try.ntmps49
    go_wp2_with (go_at_call 54; refine ht.out.mono ?_; rintro e w' ⟨rfl, rfl⟩)
    go_ret
    exact ⟨R, rfl, ROn.of_none hR.out (Upd.refl _ _), rfl⟩
  | some k =>
    rw [hf] at ht
    simp only [Option.isSome_some] at ht ⊢
    obtain ⟨rfl, l, a, hk, ha⟩ := RA.pick_some hf
    obtain ⟨m, hmk, rfl, rfl, hlt⟩ := Rf.at_abs hk
    rw [Rf.get_at hmk]
    obtain ⟨A, cap, hrv, hc1, hc2, c0, c1, hat⟩ := hR.open_
    obtain ⟨g, rfl, v0, v1⟩ := hat k m hmk
    obtain ⟨hfz, hgw, hpg⟩ := hR.placeFacts hrv
    have hfk := hfz (k * 2)
    have hm := hR.most
    have hmem := List.mem_of_getElem? hmk
    have hsm := hR.small m hmem
    have hpl := hR.blk.lt
    obtain ⟨A', c', hmv, hcc, hcm, -, -, -⟩ := own_form (hR.byt m hmem)
    have hrd := (hR.byt m hmem).rd
    rw [hmv] at hrd v0
    replace ht := Lib.hid ht
    have hkw : IntKind.i64.wrap (k : Int) = k := by rw [IntKind.wrap_i64]; omega
    obtain ⟨ln, hln⟩ : ∃ ln, ln = R.ms.length := ⟨_, rfl⟩
    rw [← hln] at hrv hc1 c0 hm hlt
    have hkl : (k : Int) < ln := by omega
    have hk0 : (0 : Int) ≤ k := by omega
    simp only [maxLen] at hc2 hcm
    replace hR := Lib.hid hR
    replace hmk := Lib.hid hmk
    replace hrv := Lib.hid hrv
    replace hln := Lib.hid hln
    clear hf hk hat hmem v1 hfz
    obtain ⟨ll, hll⟩ : ∃ ll, ll = m.l.length := ⟨_, rfl⟩
    rw [← hll] at hsm hmv hrd v0 hcc ⊢
    replace hll := Lib.hid hll
    replace hmv := Lib.hid hmv
    by_cases h1 : len < 0
    · rw [if_pos (.inl h1)]
      go_enter Try.func49, Try.ntmps49
      go_wp2_with (go_at_call 54; refine ht.out.mono ?_; rintro e w' ⟨rfl, rfl⟩)
      go_ret
      exact ⟨R, rfl, ROn.of_none hR.out (Upd.refl _ _), rfl⟩
    · by_cases h2 : (ll : Int) < len
      · rw [if_pos (.inr h2)]
        go_enter Try.func49, Try.ntmps49
        go_wp2_with (go_at_call 54; refine ht.out.mono ?_; rintro e w' ⟨rfl, rfl⟩)
        go_ret
        exact ⟨R, rfl, ROn.of_none hR.out (Upd.refl _ _), rfl⟩
      · rw [if_neg (by omega)]
        obtain ⟨j, rfl⟩ := Int.eq_ofNat_of_zero_le (Int.not_lt.1 h1)
        have hj : j ≤ ll := by omega
        have hjc : j ≤ c' := by omega
        have hrd2 := rd_take hrd (k := j) (by rw [← hll.out]; exact hj)
        replace hrd2 := Lib.hid hrd2
        clear hrd
        go_enter Try.func49, Try.ntmps49
        go_wp2_with fail
        refine ht.out.mono ?_; rintro e w' ⟨rfl, rfl⟩
        go_wp2_with fail
        have hS : w.drew.cell? ⟨R.p, 0, none⟩ = some (.slice (some ⟨g, 0, none⟩) ln cap) := c0
        refine wp_region_L (n := 13) (fun w : World => w.cell? ⟨R.p, 0, none⟩ = some (.slice (some ⟨g, 0, none⟩) ln cap)) [9] [0, 1, 2, 3, 4, 5, 6, 7, 8, 10, 11] (by kernel_rfl) rfl ?_
        refine AnyL.pure (i := 0) (v := ?_) (some 29) rfl rfl (by kernel_rfl) (by kernel_rfl) (by kernel_rfl) rfl (fun _ _ _ h => h) (by rfl) (fun ww => ?_) ?_; rotate_left; · (go_simp; (try with_reducible rfl))
        refine AnyL.pure (i := 1) (v := ?_) (some 30) rfl rfl (by kernel_rfl) (by kernel_rfl) (by kernel_rfl) rfl (fun _ _ _ h => h) (by rfl) (fun ww => ?_) ?_; rotate_left; · (go_simp; (try with_reducible rfl))
        refine AnyL.pure (i := 2) (v := ?_) (some 31) rfl rfl (by kernel_rfl) (by kernel_rfl) (by kernel_rfl) rfl (fun _ _ _ h => h) (by rfl) (fun ww => ?_) ?_; rotate_left; · (go_simp; (try with_reducible rfl))
        refine AnyL.take (i := 3) (v := ?_) (some 32) rfl rfl (by kernel_rfl) (by kernel_rfl) (by kernel_rfl) rfl (by kernel_rfl) (fun _ _ _ h => h) (by rfl) (fun ww hww => ?_) hS ?_; rotate_left; · (obtain hs0 := hww; go_simp; (try with_reducible rfl))
        refine AnyL.pure (i := 4) (v := ?_) (some 33) rfl rfl (by kernel_rfl) (by kernel_rfl) (by kernel_rfl) rfl (fun _ _ _ h => h) (by rfl) (fun ww => ?_) ?_; rotate_left; · (go_simp; (try with_reducible rfl))
        refine AnyL.pure (i := 5) (v := ?_) (some 34) rfl rfl (by kernel_rfl) (by kernel_rfl) (by kernel_rfl) rfl (fun _ _ _ h => h) (by rfl) (fun ww => ?_) ?_; rotate_left; · (go_simp; (try with_reducible rfl))
        refine AnyL.pure (i := 6) (v := ?_) (some 35) rfl rfl (by kernel_rfl) (by kernel_rfl) (by kernel_rfl) rfl (fun _ _ _ h => h) (by rfl) (fun ww => ?_) ?_; rotate_left; · (go_simp; (try with_reducible rfl))
        refine AnyL.pure (i := 7) (v := ?_) (some 36) rfl rfl (by kernel_rfl) (by kernel_rfl) (by kernel_rfl) rfl (fun _ _ _ h => h) (by rfl) (fun ww => ?_) ?_; rotate_left; · (go_simp; (try with_reducible rfl))
        refine AnyL.pure (i := 8) (v := ?_) (some 37) rfl rfl (by kernel_rfl) (by kernel_rfl) (by kernel_rfl) rfl (fun _ _ _ h => h) (by rfl) (fun ww => ?_) ?_; rotate_left; · (go_simp; (try with_reducible rfl))
        simp only [Act.put, List.setIfInBounds_toArray]; try simp only [List.set_cons_zero, List.set_cons_succ]
        refine AnyL.step (i := 9) (by kernel_rfl) rfl rfl (fun K hK => ?_)
        go_simp
        refine (rcopy_any _ (m.l.take j) _ (hrd2.out.none ((Upd.refl _ w).drewN 1)) (by rw [List.length_take]; omega)).mono ?_
        rintro e w1 ⟨v', rfl, hown, hu⟩
        replace hu := hu.undrew
        obtain ⟨A2, c2, rfl, -⟩ := own_form hown
        have d0 := hu.cell_some c0 id
        have d1 := hu.cell_some v0 id
        have d2 := hu.free hgw hfk id
        replace hS : w1.cell? ⟨R.p, 0, none⟩ = some (.slice (some ⟨g, 0, none⟩) ln cap) := d0
        replace hown := Lib.hid hown; replace hu := Lib.hid hu
        refine hK _ _ hS ?_; clear hK K
        refine AnyL.pure (i := 10) (v := ?_) (some 39) rfl rfl (by kernel_rfl) (by kernel_rfl) (by kernel_rfl) rfl (fun _ _ _ h => h) (by rfl) (fun ww => ?_) ?_; rotate_left; · (go_simp; (try with_reducible rfl))
        refine AnyL.pure (i := 11) (v := ?_) (some 40) rfl rfl (by kernel_rfl) (by kernel_rfl) (by kernel_rfl) rfl (fun _ _ _ h => h) (by rfl) (fun ww => ?_) ?_; rotate_left; · (go_simp; (try with_reducible rfl))
        simp only [Act.put, List.setIfInBounds_toArray]; try simp only [List.set_cons_zero, List.set_cons_succ]
        refine AnyL.last (i := 12) (by kernel_rfl) rfl rfl rfl (fun K hK => ?_)
        go_simp
        refine hK _ _ ?_; clear hK K
        refine AnyL.done (by kernel_rfl) ?_
        go_wp2
        go_ret
        have hon := hR.out.turnV (l' := m.l.take j) (w1 := w1) hmk.out hrv.out hln.out.symm hu.out hown.out (by rw [List.length_take]; omega)
        simp only [List.length_take] at hon
        refine ⟨_, rfl, hon, ?_⟩
        rw [Rf.abs_set]
        rfl
end Go.Proofs.Ytfnlemdlngdaiaa
