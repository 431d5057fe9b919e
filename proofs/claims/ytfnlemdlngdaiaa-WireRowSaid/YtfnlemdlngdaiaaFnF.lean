/-
  The wire's functions: Swap.
-/
import Derived.Test.YtfnlemdlngdaiaaFnE
namespace Go.Proofs.Ytfnlemdlngdaiaa
open Go.RowKit

theorem row_set4 (ms : List Msg) (i k : Nat) (a b : Msg) : rowCells ((ms.set i b).set k a) = ((((rowCells ms).set (i * 2) (.int .i64 b.N)).set (i * 2 + 1) b.v).set (k * 2) (.int .i64 a.N)).set (k * 2 + 1) a.v := by
  rw [rowCells_set, rowCells_set]

/-- Two messages have changed places. -/
theorem WrOk.swapTo {w : World} {W : Wr} {i k g ln cap : Nat} {a b : Msg} (hW : WrOk w W) (ha : W.ms[i]? = some a) (hb : W.ms[k]? = some b) (hrv : W.rv = .slice (some ⟨g, 0, none⟩) ln cap) (hl : W.ms.length = ln) :
    Onward w W ((((w.setCell ⟨g, i * 2, none⟩ (.int .i64 b.N)).setCell ⟨g, i * 2 + 1, none⟩ b.v).setCell ⟨g, k * 2, none⟩ (.int .i64 a.N)).setCell ⟨g, k * 2 + 1, none⟩ a.v).drew { W with ms := (W.ms.set i b).set k a } := by
  subst hl
  obtain ⟨hi, rfl⟩ := List.getElem?_eq_some_iff.1 ha
  obtain ⟨hk, rfl⟩ := List.getElem?_eq_some_iff.1 hb
  have hperm : ((W.ms.set i W.ms[k]).set k W.ms[i]).Perm W.ms := List.set_set_perm hi hk
  have hrb : W.rv.ownBlock = some g := by rw [hrv]; rfl
  have hu : Upd (fun j => g = j) w ((((w.setCell ⟨g, i * 2, none⟩ (.int .i64 W.ms[k].N)).setCell ⟨g, i * 2 + 1, none⟩ W.ms[k].v).setCell ⟨g, k * 2, none⟩ (.int .i64 W.ms[i].N)).setCell ⟨g, k * 2 + 1, none⟩ W.ms[i].v).drew :=
    ((((((Upd.refl (fun j => g = j) w).setCell (p := ⟨g, i * 2, none⟩) (.inl rfl) _).setCell (p := ⟨g, i * 2 + 1, none⟩) (.inl rfl) _).setCell (p := ⟨g, k * 2, none⟩) (.inl rfl) _).setCell (p := ⟨g, k * 2 + 1, none⟩) (.inl rfl) _).drew)
  have hmem : ∀ x, x ∈ (W.ms.set i W.ms[k]).set k W.ms[i] → x ∈ W.ms := fun x hx => hperm.mem_iff.1 hx
  refine ⟨⟨?_, ?_, ?_, ?_, ?_, hW.most, ?_⟩, rfl, ?_, ?_⟩
  · exact hW.blk.upd hu fun h => own_blk_ne hW.row hW.blk (by decide) (by rw [hrb, h])
  · have h := hW.row
    rw [hrv] at h ⊢
    have h2 := ((((h.stored (i * 2) (.int .i64 W.ms[k].N)).1.stored (i * 2 + 1) W.ms[k].v).1.stored (k * 2) (.int .i64 W.ms[i].N)).1.stored (k * 2 + 1) W.ms[i].v).1
    simp only [List.length_set]
    rw [row_set4]
    exact h2
  · intro x hx
    exact (hW.byt x (hmem x hx)).upd hu fun j hj hgj => own_own_ne (hW.byt x (hmem x hx)) hW.row (by decide) hj (by rw [hrb, hgj])
  · exact (hperm.filterMap _).nodup_iff.2 hW.apart
  · intro x hx
    exact hW.small x (hmem x hx)
  · simpa using hW.many
  · refine hu.mono fun j _ hj => .inr (.inl (by rw [hrb, hj]))
  · rintro j (rfl | hj | ⟨x, hx, hj⟩)
    · exact .inl (.inl rfl)
    · exact .inl (.inr (.inl hj))
    · exact .inl (.inr (.inr ⟨x, hmem x hx, hj⟩))

theorem Wr.abs_swapped {W : Wr} {i k : Nat} {a b : Msg} (ha : W.ms[i]? = some a) (hb : W.ms[k]? = some b) : Wr.abs { W with ms := (W.ms.set i b).set k a } = W.abs.swapped i k := by
  unfold WA.swapped
  rw [W.get_abs ha, W.get_abs hb]
  simp [Wr.abs, List.map_set]

set_option maxRecDepth 100000 in
set_option maxHeartbeats 1000000 in
theorem swap_none1 (W : Wr) (n m : Int) (w : World) (hW : WrOk w W) (hf : W.find n = none) :
    Calls Try.prog 22 #[.pointer (some ⟨W.p, 0, none⟩), .int .i64 n, .int .i64 m] w (fun e w' => e = .returned (.int .i64 231) ∧ w = w') := by
  have hp := Lib.hid (place_none W n w hW hf)
  clear hf hW
  go_enter Try.func22, Try.ntmps22
  go_wp2_with (go_at_call 38; refine hp.out.mono ?_; rintro e w' ⟨rfl, rfl⟩)
  go_ret
  exact ⟨rfl, rfl⟩

set_option maxRecDepth 100000 in
set_option maxHeartbeats 1000000 in
theorem swap_none2 (W : Wr) (n m : Int) (i : Nat) (w : World) (hW : WrOk w W) (hf : W.find n = some i) (hg : W.find m = none) :
    Calls Try.prog 22 #[.pointer (some ⟨W.p, 0, none⟩), .int .i64 n, .int .i64 m] w (fun e w' => e = .returned (.int .i64 231) ∧ w = w') := by
  have hp := Lib.hid (place_some W n i w hW hf)
  have hq := Lib.hid (place_none W m w hW hg)
  clear hf hW hg
  go_enter Try.func22, Try.ntmps22
  go_wp2_with fail
  refine hp.out.mono ?_; rintro e w' ⟨rfl, rfl⟩
  go_wp2_with fail
  refine hq.out.mono ?_; rintro e w' ⟨rfl, rfl⟩
  go_wp2
  go_ret
  exact ⟨rfl, rfl⟩

set_option maxRecDepth 100000 in
set_option maxHeartbeats 1000000 in
theorem swap_two (W : Wr) (n m : Int) (i k : Nat) (w : World) (hW : WrOk w W) (hf : W.find n = some i) (hg : W.find m = some k) (hik : i ≠ k) :
    Calls Try.prog 22 #[.pointer (some ⟨W.p, 0, none⟩), .int .i64 n, .int .i64 m] w (Does w W (.int .i64 0) (W.abs.swapped i k)) := by
  have hp := Lib.hid (place_some W n i w hW hf)
  have hq := Lib.hid (place_some W m k w hW hg)
  obtain ⟨a, ha, hma, _, _⟩ := W.find_some hf
  obtain ⟨b, hb, hmb, _, _⟩ := W.find_some hg
  obtain ⟨g, cap, hrv, hi, _, _, ha0, ha1⟩ := row_at hW ha
  obtain ⟨g', cap', hrv', hk, _, _, hb0, hb1⟩ := row_at hW hb
  rw [hrv] at hrv'
  simp only [Value.slice.injEq, Option.some.injEq, Addr.mk.injEq, and_true, true_and] at hrv'
  obtain ⟨rfl, rfl⟩ := hrv'
  obtain ⟨A, c, hav, _⟩ := own_form (hW.byt a (List.mem_of_getElem? ha))
  obtain ⟨A', c', hbv, _⟩ := own_form (hW.byt b (List.mem_of_getElem? hb))
  rw [hav] at ha1
  rw [hbv] at hb1
  have h0 := hW.cell0
  rw [hrv] at h0
  have hlenW := hW.len
  have hfr : ∀ j, w.frozen? ⟨g, j, none⟩ = false := fun j => World.ownsRow.frozenAt (by have := hW.row; rw [hrv] at this; exact this) j
  have f0 := hfr (i * 2)
  have f1 := hfr (i * 2 + 1)
  have f2 := hfr (k * 2)
  have f3 := hfr (k * 2 + 1)
  clear hfr hf hg
  replace hW := Lib.hid hW
  replace ha := Lib.hid ha
  replace hb := Lib.hid hb
  replace hav := Lib.hid hav
  replace hbv := Lib.hid hbv
  replace hrv := Lib.hid hrv
  have e1 : ¬ i * 2 + 1 = k * 2 := by omega
  have e2 : ¬ k * 2 + 1 = i * 2 := by omega
  have e3 : ¬ i * 2 = k * 2 := by omega
  have e4 : ¬ k * 2 = i * 2 := by omega
  generalize hl1 : W.ms.length = ln at *
  generalize hl2 : a.l.length = la at *
  generalize hl3 : b.l.length = lb at *
  rw [hma] at ha0
  rw [hmb] at hb0
  replace hl1 := Lib.hid hl1
  replace hl2 := Lib.hid hl2
  replace hl3 := Lib.hid hl3
  replace hma := Lib.hid hma
  replace hmb := Lib.hid hmb
  go_enter Try.func22, Try.ntmps22
  go_wp2_with fail
  refine hp.out.mono ?_; rintro e w' ⟨rfl, rfl⟩
  go_wp2_with fail
  refine hq.out.mono ?_; rintro e w' ⟨rfl, rfl⟩
  go_wp2_with fail
  have hS : w.drew.cell? ⟨W.p, 0, none⟩ = some (.slice (some ⟨g, 0, none⟩) ln cap) ∧ w.drew.cell? ⟨g, i * 2, none⟩ = some (.int .i64 n) ∧ w.drew.cell? ⟨g, i * 2 + 1, none⟩ = some (.slice A la c) ∧ w.drew.cell? ⟨g, k * 2, none⟩ = some (.int .i64 m) ∧ w.drew.cell? ⟨g, k * 2 + 1, none⟩ = some (.slice A' lb c') := ⟨h0, ha0, ha1, hb0, hb1⟩
  refine wp_region_L (n := 28) (fun w : World => w.cell? ⟨W.p, 0, none⟩ = some (.slice (some ⟨g, 0, none⟩) ln cap) ∧ w.cell? ⟨g, i * 2, none⟩ = some (.int .i64 n) ∧ w.cell? ⟨g, i * 2 + 1, none⟩ = some (.slice A la c) ∧ w.cell? ⟨g, k * 2, none⟩ = some (.int .i64 m) ∧ w.cell? ⟨g, k * 2 + 1, none⟩ = some (.slice A' lb c')) [] [0, 1, 2, 3, 4, 5, 6, 7, 8, 9, 10, 11, 12, 13, 14, 15, 16, 17, 18, 19, 20, 21, 22, 23, 24, 26] (by kernel_rfl) rfl ?_
  refine AnyL.pure (i := 0) (v := ?_) (some 28) rfl rfl (by kernel_rfl) (by kernel_rfl) (by kernel_rfl) rfl (fun _ _ _ h => h) (by rfl) (fun ww => ?_) ?_; rotate_left; · (go_simp; (try with_reducible rfl))
  refine AnyL.pure (i := 1) (v := ?_) (some 29) rfl rfl (by kernel_rfl) (by kernel_rfl) (by kernel_rfl) rfl (fun _ _ _ h => h) (by rfl) (fun ww => ?_) ?_; rotate_left; · (go_simp; (try with_reducible rfl))
  refine AnyL.pure (i := 2) (v := ?_) (some 30) rfl rfl (by kernel_rfl) (by kernel_rfl) (by kernel_rfl) rfl (fun _ _ _ h => h) (by rfl) (fun ww => ?_) ?_; rotate_left; · (go_simp; (try with_reducible rfl))
  refine AnyL.take (i := 3) (v := ?_) (some 31) rfl rfl (by kernel_rfl) (by kernel_rfl) (by kernel_rfl) rfl (by kernel_rfl) (fun _ _ _ h => h) (by rfl) (fun ww hww => ?_) hS ?_; rotate_left; · (obtain ⟨hs0, hs1, hs2, hs3, hs4⟩ := hww; go_simp; (try with_reducible rfl))
  refine AnyL.pure (i := 4) (v := ?_) (some 32) rfl rfl (by kernel_rfl) (by kernel_rfl) (by kernel_rfl) rfl (fun _ _ _ h => h) (by rfl) (fun ww => ?_) ?_; rotate_left; · (go_simp; (try with_reducible rfl))
  refine AnyL.pure (i := 5) (v := ?_) (some 33) rfl rfl (by kernel_rfl) (by kernel_rfl) (by kernel_rfl) rfl (fun _ _ _ h => h) (by rfl) (fun ww => ?_) ?_; rotate_left; · (go_simp; (try with_reducible rfl))
  refine AnyL.pure (i := 6) (v := ?_) (some 34) rfl rfl (by kernel_rfl) (by kernel_rfl) (by kernel_rfl) rfl (fun _ _ _ h => h) (by rfl) (fun ww => ?_) ?_; rotate_left; · (go_simp; (try with_reducible rfl))
  refine AnyL.pure (i := 7) (v := ?_) (some 35) rfl rfl (by kernel_rfl) (by kernel_rfl) (by kernel_rfl) rfl (fun _ _ _ h => h) (by rfl) (fun ww => ?_) ?_; rotate_left; · (go_simp; (try with_reducible rfl))
  refine AnyL.take (i := 8) (v := ?_) (some 36) rfl rfl (by kernel_rfl) (by kernel_rfl) (by kernel_rfl) rfl (by kernel_rfl) (fun _ _ _ h => h) (by rfl) (fun ww hww => ?_) hS ?_; rotate_left; · (obtain ⟨hs0, hs1, hs2, hs3, hs4⟩ := hww; go_simp; (try with_reducible rfl))
  refine AnyL.pure (i := 9) (v := ?_) (some 37) rfl rfl (by kernel_rfl) (by kernel_rfl) (by kernel_rfl) rfl (fun _ _ _ h => h) (by rfl) (fun ww => ?_) ?_; rotate_left; · (go_simp; (try with_reducible rfl))
  refine AnyL.pure (i := 10) (v := ?_) (some 38) rfl rfl (by kernel_rfl) (by kernel_rfl) (by kernel_rfl) rfl (fun _ _ _ h => h) (by rfl) (fun ww => ?_) ?_; rotate_left; · (go_simp; (try with_reducible rfl))
  refine AnyL.pure (i := 11) (v := ?_) (some 39) rfl rfl (by kernel_rfl) (by kernel_rfl) (by kernel_rfl) rfl (fun _ _ _ h => h) (by rfl) (fun ww => ?_) ?_; rotate_left; · (go_simp; (try with_reducible rfl))
  refine AnyL.pure (i := 12) (v := ?_) (some 40) rfl rfl (by kernel_rfl) (by kernel_rfl) (by kernel_rfl) rfl (fun _ _ _ h => h) (by rfl) (fun ww => ?_) ?_; rotate_left; · (go_simp; (try with_reducible rfl))
  refine AnyL.take (i := 13) (v := ?_) (some 41) rfl rfl (by kernel_rfl) (by kernel_rfl) (by kernel_rfl) rfl (by kernel_rfl) (fun _ _ _ h => h) (by rfl) (fun ww hww => ?_) hS ?_; rotate_left; · (obtain ⟨hs0, hs1, hs2, hs3, hs4⟩ := hww; go_simp; (try with_reducible rfl))
  refine AnyL.pure (i := 14) (v := ?_) (some 42) rfl rfl (by kernel_rfl) (by kernel_rfl) (by kernel_rfl) rfl (fun _ _ _ h => h) (by rfl) (fun ww => ?_) ?_; rotate_left; · (go_simp; (try with_reducible rfl))
  refine AnyL.pure (i := 15) (v := ?_) (some 43) rfl rfl (by kernel_rfl) (by kernel_rfl) (by kernel_rfl) rfl (fun _ _ _ h => h) (by rfl) (fun ww => ?_) ?_; rotate_left; · (go_simp; (try with_reducible rfl))
  refine AnyL.take (i := 16) (v := ?_) (some 44) rfl rfl (by kernel_rfl) (by kernel_rfl) (by kernel_rfl) rfl (by kernel_rfl) (fun _ _ _ h => h) (by rfl) (fun ww hww => ?_) hS ?_; rotate_left; · (obtain ⟨hs0, hs1, hs2, hs3, hs4⟩ := hww; go_simp; (try with_reducible rfl))
  refine AnyL.pure (i := 17) (v := ?_) (some 45) rfl rfl (by kernel_rfl) (by kernel_rfl) (by kernel_rfl) rfl (fun _ _ _ h => h) (by rfl) (fun ww => ?_) ?_; rotate_left; · (go_simp; (try with_reducible rfl))
  refine AnyL.pure (i := 18) (v := ?_) (some 46) rfl rfl (by kernel_rfl) (by kernel_rfl) (by kernel_rfl) rfl (fun _ _ _ h => h) (by rfl) (fun ww => ?_) ?_; rotate_left; · (go_simp; (try with_reducible rfl))
  refine AnyL.pure (i := 19) (v := ?_) (some 47) rfl rfl (by kernel_rfl) (by kernel_rfl) (by kernel_rfl) rfl (fun _ _ _ h => h) (by rfl) (fun ww => ?_) ?_; rotate_left; · (go_simp; (try with_reducible rfl))
  refine AnyL.take (i := 20) (v := ?_) (some 48) rfl rfl (by kernel_rfl) (by kernel_rfl) (by kernel_rfl) rfl (by kernel_rfl) (fun _ _ _ h => h) (by rfl) (fun ww hww => ?_) hS ?_; rotate_left; · (obtain ⟨hs0, hs1, hs2, hs3, hs4⟩ := hww; go_simp; (try with_reducible rfl))
  refine AnyL.pure (i := 21) (v := ?_) (some 49) rfl rfl (by kernel_rfl) (by kernel_rfl) (by kernel_rfl) rfl (fun _ _ _ h => h) (by rfl) (fun ww => ?_) ?_; rotate_left; · (go_simp; (try with_reducible rfl))
  refine AnyL.pure (i := 22) (v := ?_) (some 50) rfl rfl (by kernel_rfl) (by kernel_rfl) (by kernel_rfl) rfl (fun _ _ _ h => h) (by rfl) (fun ww => ?_) ?_; rotate_left; · (go_simp; (try with_reducible rfl))
  refine AnyL.take (i := 23) (v := ?_) (some 51) rfl rfl (by kernel_rfl) (by kernel_rfl) (by kernel_rfl) rfl (by kernel_rfl) (fun _ _ _ h => h) (by rfl) (fun ww hww => ?_) hS ?_; rotate_left; · (obtain ⟨hs0, hs1, hs2, hs3, hs4⟩ := hww; go_simp; (try with_reducible rfl))
  refine AnyL.pure (i := 24) (v := ?_) (some 52) rfl rfl (by kernel_rfl) (by kernel_rfl) (by kernel_rfl) rfl (fun _ _ _ h => h) (by rfl) (fun ww => ?_) ?_; rotate_left; · (go_simp; (try with_reducible rfl))
  simp only [Act.put, List.setIfInBounds_toArray]; try simp only [List.set_cons_zero, List.set_cons_succ]
  refine AnyL.last (i := 25) (by kernel_rfl) rfl rfl rfl (fun K hK => ?_)
  go_simp
  refine hK _ _ ?_; clear hK K
  refine AnyL.pure (i := 26) (v := ?_) (some 53) rfl rfl (by kernel_rfl) (by kernel_rfl) (by kernel_rfl) rfl (fun _ _ _ h => h) (by rfl) (fun ww => ?_) ?_; rotate_left; · (go_simp; (try with_reducible rfl))
  simp only [Act.put, List.setIfInBounds_toArray]; try simp only [List.set_cons_zero, List.set_cons_succ]
  refine AnyL.last (i := 27) (by kernel_rfl) rfl rfl rfl (fun K hK => ?_)
  go_simp
  refine hK _ _ ?_; clear hK K
  refine AnyL.done (by kernel_rfl) ?_
  go_wp2
  go_ret
  have hn : (b.N : Int) = m := hmb.out
  have hm' : (a.N : Int) = n := hma.out
  have h := hW.out.swapTo ha.out hb.out hrv.out hl1.out
  rw [hn, hm', hav.out, hbv.out] at h
  exact ⟨_, rfl, h, W.abs_swapped ha.out hb.out⟩


set_option maxRecDepth 100000 in
set_option maxHeartbeats 1000000 in
theorem swap_one (W : Wr) (n m : Int) (i : Nat) (w : World) (hW : WrOk w W) (hf : W.find n = some i) (hg : W.find m = some i) :
    Calls Try.prog 22 #[.pointer (some ⟨W.p, 0, none⟩), .int .i64 n, .int .i64 m] w (Does w W (.int .i64 0) (W.abs.swapped i i)) := by
  have hp := Lib.hid (place_some W n i w hW hf)
  have hq := Lib.hid (place_some W m i w hW hg)
  obtain ⟨a, ha, hma, _, _⟩ := W.find_some hf
  obtain ⟨b, hb, hmb, _, _⟩ := W.find_some hg
  obtain rfl : a = b := by rw [ha] at hb; injection hb
  obtain ⟨g, cap, hrv, hi, _, _, ha0, ha1⟩ := row_at hW ha
  obtain ⟨A, c, hav, _⟩ := own_form (hW.byt a (List.mem_of_getElem? ha))
  rw [hav] at ha1
  have h0 := hW.cell0
  rw [hrv] at h0
  have hlenW := hW.len
  have hfr : ∀ j, w.frozen? ⟨g, j, none⟩ = false := fun j => World.ownsRow.frozenAt (by have := hW.row; rw [hrv] at this; exact this) j
  have f0 := hfr (i * 2)
  have f1 := hfr (i * 2 + 1)
  clear hfr hf hg
  replace hW := Lib.hid hW
  replace ha := Lib.hid ha
  replace hb := Lib.hid hb
  replace hav := Lib.hid hav
  replace hrv := Lib.hid hrv
  generalize hl1 : W.ms.length = ln at *
  generalize hl2 : a.l.length = la at *
  rw [hma] at ha0
  obtain rfl : n = m := hma.symm.trans hmb
  replace hl1 := Lib.hid hl1
  replace hl2 := Lib.hid hl2
  replace hma := Lib.hid hma
  replace hmb := Lib.hid hmb
  go_enter Try.func22, Try.ntmps22
  go_wp2_with fail
  refine hp.out.mono ?_; rintro e w' ⟨rfl, rfl⟩
  go_wp2_with fail
  refine hq.out.mono ?_; rintro e w' ⟨rfl, rfl⟩
  go_wp2_with fail
  have hS : w.drew.cell? ⟨W.p, 0, none⟩ = some (.slice (some ⟨g, 0, none⟩) ln cap) ∧ w.drew.cell? ⟨g, i * 2, none⟩ = some (.int .i64 n) ∧ w.drew.cell? ⟨g, i * 2 + 1, none⟩ = some (.slice A la c) := ⟨h0, ha0, ha1⟩
  refine wp_region_L (n := 28) (fun w : World => w.cell? ⟨W.p, 0, none⟩ = some (.slice (some ⟨g, 0, none⟩) ln cap) ∧ w.cell? ⟨g, i * 2, none⟩ = some (.int .i64 n) ∧ w.cell? ⟨g, i * 2 + 1, none⟩ = some (.slice A la c)) [] [0, 1, 2, 3, 4, 5, 6, 7, 8, 9, 10, 11, 12, 13, 14, 15, 16, 17, 18, 19, 20, 21, 22, 23, 24, 26] (by kernel_rfl) rfl ?_
  refine AnyL.pure (i := 0) (v := ?_) (some 28) rfl rfl (by kernel_rfl) (by kernel_rfl) (by kernel_rfl) rfl (fun _ _ _ h => h) (by rfl) (fun ww => ?_) ?_; rotate_left; · (go_simp; (try with_reducible rfl))
  refine AnyL.pure (i := 1) (v := ?_) (some 29) rfl rfl (by kernel_rfl) (by kernel_rfl) (by kernel_rfl) rfl (fun _ _ _ h => h) (by rfl) (fun ww => ?_) ?_; rotate_left; · (go_simp; (try with_reducible rfl))
  refine AnyL.pure (i := 2) (v := ?_) (some 30) rfl rfl (by kernel_rfl) (by kernel_rfl) (by kernel_rfl) rfl (fun _ _ _ h => h) (by rfl) (fun ww => ?_) ?_; rotate_left; · (go_simp; (try with_reducible rfl))
  refine AnyL.take (i := 3) (v := ?_) (some 31) rfl rfl (by kernel_rfl) (by kernel_rfl) (by kernel_rfl) rfl (by kernel_rfl) (fun _ _ _ h => h) (by rfl) (fun ww hww => ?_) hS ?_; rotate_left; · (obtain ⟨hs0, hs1, hs2⟩ := hww; go_simp; (try with_reducible rfl))
  refine AnyL.pure (i := 4) (v := ?_) (some 32) rfl rfl (by kernel_rfl) (by kernel_rfl) (by kernel_rfl) rfl (fun _ _ _ h => h) (by rfl) (fun ww => ?_) ?_; rotate_left; · (go_simp; (try with_reducible rfl))
  refine AnyL.pure (i := 5) (v := ?_) (some 33) rfl rfl (by kernel_rfl) (by kernel_rfl) (by kernel_rfl) rfl (fun _ _ _ h => h) (by rfl) (fun ww => ?_) ?_; rotate_left; · (go_simp; (try with_reducible rfl))
  refine AnyL.pure (i := 6) (v := ?_) (some 34) rfl rfl (by kernel_rfl) (by kernel_rfl) (by kernel_rfl) rfl (fun _ _ _ h => h) (by rfl) (fun ww => ?_) ?_; rotate_left; · (go_simp; (try with_reducible rfl))
  refine AnyL.pure (i := 7) (v := ?_) (some 35) rfl rfl (by kernel_rfl) (by kernel_rfl) (by kernel_rfl) rfl (fun _ _ _ h => h) (by rfl) (fun ww => ?_) ?_; rotate_left; · (go_simp; (try with_reducible rfl))
  refine AnyL.take (i := 8) (v := ?_) (some 36) rfl rfl (by kernel_rfl) (by kernel_rfl) (by kernel_rfl) rfl (by kernel_rfl) (fun _ _ _ h => h) (by rfl) (fun ww hww => ?_) hS ?_; rotate_left; · (obtain ⟨hs0, hs1, hs2⟩ := hww; go_simp; (try with_reducible rfl))
  refine AnyL.pure (i := 9) (v := ?_) (some 37) rfl rfl (by kernel_rfl) (by kernel_rfl) (by kernel_rfl) rfl (fun _ _ _ h => h) (by rfl) (fun ww => ?_) ?_; rotate_left; · (go_simp; (try with_reducible rfl))
  refine AnyL.pure (i := 10) (v := ?_) (some 38) rfl rfl (by kernel_rfl) (by kernel_rfl) (by kernel_rfl) rfl (fun _ _ _ h => h) (by rfl) (fun ww => ?_) ?_; rotate_left; · (go_simp; (try with_reducible rfl))
  refine AnyL.pure (i := 11) (v := ?_) (some 39) rfl rfl (by kernel_rfl) (by kernel_rfl) (by kernel_rfl) rfl (fun _ _ _ h => h) (by rfl) (fun ww => ?_) ?_; rotate_left; · (go_simp; (try with_reducible rfl))
  refine AnyL.pure (i := 12) (v := ?_) (some 40) rfl rfl (by kernel_rfl) (by kernel_rfl) (by kernel_rfl) rfl (fun _ _ _ h => h) (by rfl) (fun ww => ?_) ?_; rotate_left; · (go_simp; (try with_reducible rfl))
  refine AnyL.take (i := 13) (v := ?_) (some 41) rfl rfl (by kernel_rfl) (by kernel_rfl) (by kernel_rfl) rfl (by kernel_rfl) (fun _ _ _ h => h) (by rfl) (fun ww hww => ?_) hS ?_; rotate_left; · (obtain ⟨hs0, hs1, hs2⟩ := hww; go_simp; (try with_reducible rfl))
  refine AnyL.pure (i := 14) (v := ?_) (some 42) rfl rfl (by kernel_rfl) (by kernel_rfl) (by kernel_rfl) rfl (fun _ _ _ h => h) (by rfl) (fun ww => ?_) ?_; rotate_left; · (go_simp; (try with_reducible rfl))
  refine AnyL.pure (i := 15) (v := ?_) (some 43) rfl rfl (by kernel_rfl) (by kernel_rfl) (by kernel_rfl) rfl (fun _ _ _ h => h) (by rfl) (fun ww => ?_) ?_; rotate_left; · (go_simp; (try with_reducible rfl))
  refine AnyL.take (i := 16) (v := ?_) (some 44) rfl rfl (by kernel_rfl) (by kernel_rfl) (by kernel_rfl) rfl (by kernel_rfl) (fun _ _ _ h => h) (by rfl) (fun ww hww => ?_) hS ?_; rotate_left; · (obtain ⟨hs0, hs1, hs2⟩ := hww; go_simp; (try with_reducible rfl))
  refine AnyL.pure (i := 17) (v := ?_) (some 45) rfl rfl (by kernel_rfl) (by kernel_rfl) (by kernel_rfl) rfl (fun _ _ _ h => h) (by rfl) (fun ww => ?_) ?_; rotate_left; · (go_simp; (try with_reducible rfl))
  refine AnyL.pure (i := 18) (v := ?_) (some 46) rfl rfl (by kernel_rfl) (by kernel_rfl) (by kernel_rfl) rfl (fun _ _ _ h => h) (by rfl) (fun ww => ?_) ?_; rotate_left; · (go_simp; (try with_reducible rfl))
  refine AnyL.pure (i := 19) (v := ?_) (some 47) rfl rfl (by kernel_rfl) (by kernel_rfl) (by kernel_rfl) rfl (fun _ _ _ h => h) (by rfl) (fun ww => ?_) ?_; rotate_left; · (go_simp; (try with_reducible rfl))
  refine AnyL.take (i := 20) (v := ?_) (some 48) rfl rfl (by kernel_rfl) (by kernel_rfl) (by kernel_rfl) rfl (by kernel_rfl) (fun _ _ _ h => h) (by rfl) (fun ww hww => ?_) hS ?_; rotate_left; · (obtain ⟨hs0, hs1, hs2⟩ := hww; go_simp; (try with_reducible rfl))
  refine AnyL.pure (i := 21) (v := ?_) (some 49) rfl rfl (by kernel_rfl) (by kernel_rfl) (by kernel_rfl) rfl (fun _ _ _ h => h) (by rfl) (fun ww => ?_) ?_; rotate_left; · (go_simp; (try with_reducible rfl))
  refine AnyL.pure (i := 22) (v := ?_) (some 50) rfl rfl (by kernel_rfl) (by kernel_rfl) (by kernel_rfl) rfl (fun _ _ _ h => h) (by rfl) (fun ww => ?_) ?_; rotate_left; · (go_simp; (try with_reducible rfl))
  refine AnyL.take (i := 23) (v := ?_) (some 51) rfl rfl (by kernel_rfl) (by kernel_rfl) (by kernel_rfl) rfl (by kernel_rfl) (fun _ _ _ h => h) (by rfl) (fun ww hww => ?_) hS ?_; rotate_left; · (obtain ⟨hs0, hs1, hs2⟩ := hww; go_simp; (try with_reducible rfl))
  refine AnyL.pure (i := 24) (v := ?_) (some 52) rfl rfl (by kernel_rfl) (by kernel_rfl) (by kernel_rfl) rfl (fun _ _ _ h => h) (by rfl) (fun ww => ?_) ?_; rotate_left; · (go_simp; (try with_reducible rfl))
  simp only [Act.put, List.setIfInBounds_toArray]; try simp only [List.set_cons_zero, List.set_cons_succ]
  refine AnyL.last (i := 25) (by kernel_rfl) rfl rfl rfl (fun K hK => ?_)
  go_simp
  refine hK _ _ ?_; clear hK K
  refine AnyL.pure (i := 26) (v := ?_) (some 53) rfl rfl (by kernel_rfl) (by kernel_rfl) (by kernel_rfl) rfl (fun _ _ _ h => h) (by rfl) (fun ww => ?_) ?_; rotate_left; · (go_simp; (try with_reducible rfl))
  simp only [Act.put, List.setIfInBounds_toArray]; try simp only [List.set_cons_zero, List.set_cons_succ]
  refine AnyL.last (i := 27) (by kernel_rfl) rfl rfl rfl (fun K hK => ?_)
  go_simp
  refine hK _ _ ?_; clear hK K
  refine AnyL.done (by kernel_rfl) ?_
  go_wp2
  go_ret
  have hm' : (a.N : Int) = n := hma.out
  have h := hW.out.swapTo ha.out hb.out hrv.out hl1.out
  rw [hm', hav.out] at h
  exact ⟨_, rfl, h, W.abs_swapped ha.out hb.out⟩


theorem swap_any (W : Wr) (n m : Int) (w : World) (hW : WrOk w W) :
    Calls Try.prog 22 #[.pointer (some ⟨W.p, 0, none⟩), .int .i64 n, .int .i64 m] w (Does w W (.int .i64 (W.abs.swap n m).2) (W.abs.swap n m).1) := by
  unfold WA.swap
  rw [W.find_abs, W.find_abs]
  cases hf : W.find n with
  | none =>
    refine (swap_none1 W n m w hW hf).mono ?_
    rintro e w' ⟨rfl, rfl⟩
    exact ⟨W, rfl, Onward.refl hW, rfl⟩
  | some i =>
    cases hg : W.find m with
    | none =>
      refine (swap_none2 W n m i w hW hf hg).mono ?_
      rintro e w' ⟨rfl, rfl⟩
      exact ⟨W, rfl, Onward.refl hW, rfl⟩
    | some k =>
      by_cases hik : i = k
      · subst hik
        exact swap_one W n m i w hW hf hg
      · exact swap_two W n m i k w hW hf hg hik

end Go.Proofs.Ytfnlemdlngdaiaa
