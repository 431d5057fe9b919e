/-
  The reference's functions: put, Send, Copy.
-/
import Derived.Test.YtfnlemdlngdaiaaRfB
namespace Go.Proofs.Ytfnlemdlngdaiaa
open Go.RowKit

theorem Try.info79 : (Try.prog.info? 79).map (fun i => (i.zero, i.size, i.bytes)) = some (some (.agg #[.slice none 0 0, .int .i64 0]), 2, 32) := by kernel_rfl

theorem RfOk.grow {w w1 w3 : World} {R : Rf} {v rv' : Value} {l : List UInt8} (hR : RfOk w R) (hlt : R.ms.length < 4096) (hl : l.length ≤ 1048576)
    (hu1 : Upd (fun k => k = R.p) w w1) (hb1 : Blk w1 R.p 74 #[R.rv, .int .i64 (R.ms.length + 1 : Nat)]) (hu3 : Upd (fun k => R.rv.ownBlock = some k) w1 w3)
    (hown : OwnB w1.heap.size w3 v l) (hrow : w3.ownsRow 0 79 2 rv' (R.ms.length + 1) (rCells R.ms ++ [v, .int .i64 (R.ms.length + 1 : Nat)])) (hat : ∀ k, rv'.ownBlock = some k → R.rv.ownBlock = some k ∨ w1.heap.size ≤ k) :
    ROn w R (w3.setCell ⟨R.p, 0, none⟩ rv') { R with rv := rv', ms := R.ms ++ [⟨v, l, R.ms.length + 1⟩] } := by
  have hrvp : R.rv.ownBlock ≠ some R.p := own_blk_ne hR.row hR.blk (by decide)
  have hb3 : Blk w3 R.p 74 #[R.rv, .int .i64 (R.ms.length + 1 : Nat)] := hb1.upd hu3 hrvp
  have hu4 : Upd (fun k => k = R.p) w3 (w3.setCell ⟨R.p, 0, none⟩ rv') := (Upd.refl (fun k => k = R.p) w3).setCell (p := ⟨R.p, 0, none⟩) (.inl rfl) _
  have hu : Upd (fun k => k = R.p ∨ R.rv.ownBlock = some k) w (w3.setCell ⟨R.p, 0, none⟩ rv') :=
    ((hu1.mono fun _ _ h => .inl h).trans hu3 fun _ h => .inl (.inr h)).trans hu4 fun _ h => .inl (.inl h)
  have hn : ∀ m ∈ R.ms, ∀ k, m.v.ownBlock = some k → ¬ (k = R.p ∨ R.rv.ownBlock = some k) := by
    rintro m hm k hk (rfl | h)
    · exact own_blk_ne (hR.byt m hm) hR.blk (by decide) hk
    · exact own_own_ne (hR.byt m hm) hR.row (by decide) hk h
  have hvge : ∀ k, v.ownBlock = some k → w.heap.size ≤ k := fun k hk => Nat.le_trans hu1.size (hown.ge k hk)
  refine ⟨⟨?_, ?_, ?_, ?_, ?_, ?_⟩, rfl, ?_, ?_⟩
  · simp only [List.length_append, List.length_cons, List.length_nil]
    exact hb3.set 0 _
  · have h := own_upd hrow hu4 fun k hk hkp => own_blk_ne hrow hb3 (by decide) (by rw [hk, hkp])
    simpa [rCells] using h
  · intro m hm
    simp only [List.mem_append, List.mem_singleton] at hm
    rcases hm with hm | rfl
    · exact (hR.byt m hm).upd hu (hn m hm)
    · refine (OwnB.mono (hown.upd hu4 fun k hk hkp => ?_) (Nat.zero_le _))
      have h1 := hvge k hk
      have h2 := hR.blk.lt
      omega
  · intro m hm
    simp only [List.mem_append, List.mem_singleton] at hm
    rcases hm with hm | rfl
    · exact hR.small m hm
    · exact hl
  · simp only [List.length_append, List.length_cons, List.length_nil]
    omega
  · intro m hm
    simp only [List.mem_append, List.mem_singleton] at hm
    simp only [List.length_append, List.length_cons, List.length_nil]
    rcases hm with hm | rfl
    · have := hR.ats m hm
      omega
    · simp
  · exact hu.mono fun k _ hk => by
      rcases hk with rfl | hk
      · exact .inl rfl
      · exact .inr (.inl hk)
  · rintro k (rfl | hk | ⟨m, hm, hk⟩)
    · exact .inl (.inl rfl)
    · rcases hat k hk with h | h
      · exact .inl (.inr (.inl h))
      · exact .inr (Nat.le_trans hu1.size h)
    · simp only [List.mem_append, List.mem_singleton] at hm
      rcases hm with hm | rfl
      · exact .inl (.inr (.inr ⟨m, hm, hk⟩))
      · exact .inr (hvge k hk)

theorem rmsgCells (v : Value) (n : Int) (h : v.oneCell' = true) : ∀ u ∈ [v, .int .i64 n], u.oneCell' = true := by
  intro u hu
  simp only [List.mem_cons, List.not_mem_nil, or_false] at hu
  rcases hu with rfl | rfl
  · exact h
  · rfl

theorem RdB.upd_ {S : Nat → Prop} {w w' : World} {v : Value} {l : List UInt8} (h : RdB w v l) (hu : Upd S w w') (hn : l ≠ [] → ∀ k, v.ownBlock = some k → ¬ S k) : RdB w' v l := by
  by_cases hl : l = []
  · subst hl
    obtain ⟨h0, A, c, e, h1, h2, h3, _⟩ := h
    exact ⟨h0, A, c, e, h1, h2, h3, fun j u hj => by simp [bvs] at hj⟩
  · exact h.upd hu (hn hl)

def RA.add (r : RA) (l : List UInt8) : RA := r ++ [(l, r.length + 1)]
set_option maxRecDepth 100000 in
set_option maxHeartbeats 2000000 in
theorem rput_raw (R : Rf) (v : Value) (l : List UInt8) (w : World) (hR : RfOk w R) (hf : R.ms.length < 4096) (hv : RdB w v l) (hl : l.length ≤ 1048576) (hne : l ≠ [] → v.ownBlock ≠ some R.p) :
    Calls Try.prog 50 #[.pointer (some ⟨R.p, 0, none⟩), v] w (RDoes w R (.int .i64 ((R.ms.length + 1 : Nat) : Int)) (R.abs.add l)) := by
  have hc0 : w.cell? ⟨R.p, 0, none⟩ = some R.rv := by rw [hR.blk.cell]; rfl
  have hc1 : w.cell? ⟨R.p, 1, none⟩ = some (.int .i64 R.ms.length) := by rw [hR.blk.cell]; rfl
  have hfr : w.frozen? ⟨R.p, 1, none⟩ = false := hR.blk.free _ rfl
  obtain ⟨i79, hi⟩ := info_parts Try.info79
  have hu1 : Upd (fun k => k = R.p) w (w.setCell ⟨R.p, 1, none⟩ (.int .i64 (R.ms.length + 1))) := (Upd.refl (fun k => k = R.p) w).setCell (p := ⟨R.p, 1, none⟩) (.inl rfl) _
  have hb1 : Blk (w.setCell ⟨R.p, 1, none⟩ (.int .i64 (R.ms.length + 1))) R.p 74 #[R.rv, .int .i64 (R.ms.length + 1)] := hR.blk.set 1 _
  have hv1 : RdB (w.setCell ⟨R.p, 1, none⟩ (.int .i64 (R.ms.length + 1))) v l := hv.upd_ hu1 fun hl0 k hk hkp => hne hl0 (by rw [hk, hkp])
  have hr1 : (w.setCell ⟨R.p, 1, none⟩ (.int .i64 (R.ms.length + 1))).ownsRow 0 79 2 R.rv R.ms.length (rCells R.ms) := own_upd hR.row hu1 fun k hk hkp => own_blk_ne hR.row hR.blk (by decide) (by rw [hk, hkp])
  obtain ⟨p, rv, ms⟩ := R
  simp only at hc0 hc1 hfr hu1 hb1 hv1 hr1 hf hne
  obtain ⟨ln, hln⟩ : ∃ ln, ln = ms.length := ⟨_, rfl⟩
  simp only [← hln] at hc1 hu1 hb1 hv1 hr1 hf ⊢
  replace hR := Lib.hid hR
  replace hl := Lib.hid hl
  replace hne := Lib.hid hne
  replace hi := Lib.hid hi
  replace hv1 := Lib.hid hv1
  replace hr1 := Lib.hid hr1
  replace hb1 := Lib.hid hb1
  replace hu1 := Lib.hid hu1
  replace hln := Lib.hid hln
  clear hv
  go_enter Try.func50, Try.ntmps50
  go_wp2_with fail
  generalize hw1 : w.setCell ⟨p, 1, none⟩ (.int .i64 (ln + 1)) = w1 at hu1 hb1 hv1 hr1 ⊢
  clear hw1
  clear hc0 hc1 hfr
  have hd0 : w1.cell? ⟨p, 0, none⟩ = some rv := by rw [hb1.out.cell]; rfl
  have hd1 : w1.cell? ⟨p, 1, none⟩ = some (.int .i64 (ln + 1)) := by rw [hb1.out.cell]; rfl
  have hrvp : some p ≠ rv.ownBlock := fun h => own_blk_ne hr1.out hb1.out (by decide) h.symm
  replace hrvp := Lib.hid hrvp
  have hlp : p < w1.heap.size := hb1.out.lt
  have hfp : w1.frozen? ⟨p, 0, none⟩ = false := hb1.out.free _ rfl
  have hS : w1.drew.cell? ⟨p, 0, none⟩ = some rv ∧ w1.drew.cell? ⟨p, 1, none⟩ = some (.int .i64 (ln + 1)) := ⟨hd0, hd1⟩
  refine wp_region_L (n := 17) (fun w' : World => w'.cell? ⟨p, 0, none⟩ = some rv ∧ w'.cell? ⟨p, 1, none⟩ = some (.int .i64 (ln + 1))) [6, 12, 13] [0, 1, 2, 3, 4, 5, 7, 8, 9, 10, 11, 14, 15] (by kernel_rfl) rfl ?_
  refine AnyL.pure (i := 0) (v := ?_) (some 12) rfl rfl (by kernel_rfl) (by kernel_rfl) (by kernel_rfl) rfl (fun _ _ _ h => h) (by rfl) (fun ww => ?_) ?_; rotate_left; · (go_simp; (try with_reducible rfl))
  refine AnyL.pure (i := 1) (v := ?_) (some 13) rfl rfl (by kernel_rfl) (by kernel_rfl) (by kernel_rfl) rfl (fun _ _ _ h => h) (by rfl) (fun ww => ?_) ?_; rotate_left; · (go_simp; (try with_reducible rfl))
  refine AnyL.pure (i := 2) (v := ?_) (some 14) rfl rfl (by kernel_rfl) (by kernel_rfl) (by kernel_rfl) rfl (fun _ _ _ h => h) (by rfl) (fun ww => ?_) ?_; rotate_left; · (go_simp; (try with_reducible rfl))
  refine AnyL.pure (i := 3) (v := ?_) (some 15) rfl rfl (by kernel_rfl) (by kernel_rfl) (by kernel_rfl) rfl (fun _ _ _ h => h) (by rfl) (fun ww => ?_) ?_; rotate_left; · (go_simp; (try with_reducible rfl))
  refine AnyL.take (i := 4) (v := ?_) (some 16) rfl rfl (by kernel_rfl) (by kernel_rfl) (by kernel_rfl) rfl (by kernel_rfl) (fun _ _ _ h => h) (by rfl) (fun ww hww => ?_) hS ?_; rotate_left; · (obtain ⟨hs0, hs1⟩ := hww; go_simp; (try with_reducible rfl))
  refine AnyL.pure (i := 5) (v := ?_) (some 17) rfl rfl (by kernel_rfl) (by kernel_rfl) (by kernel_rfl) rfl (fun _ _ _ h => h) (by rfl) (fun ww => ?_) ?_; rotate_left; · (go_simp; (try with_reducible rfl))
  refine AnyL.pure (i := 7) (v := ?_) (some 19) rfl rfl (by kernel_rfl) (by kernel_rfl) (by kernel_rfl) rfl (fun _ _ _ h => h) (by rfl) (fun ww => ?_) ?_; rotate_left; · (go_simp; (try with_reducible rfl))
  refine AnyL.pure (i := 8) (v := ?_) (some 20) rfl rfl (by kernel_rfl) (by kernel_rfl) (by kernel_rfl) rfl (fun _ _ _ h => h) (by rfl) (fun ww => ?_) ?_; rotate_left; · (go_simp; (try with_reducible rfl))
  refine AnyL.pure (i := 9) (v := ?_) (some 21) rfl rfl (by kernel_rfl) (by kernel_rfl) (by kernel_rfl) rfl (fun _ _ _ h => h) (by rfl) (fun ww => ?_) ?_; rotate_left; · (go_simp; (try with_reducible rfl))
  refine AnyL.take (i := 10) (v := ?_) (some 22) rfl rfl (by kernel_rfl) (by kernel_rfl) (by kernel_rfl) rfl (by kernel_rfl) (fun _ _ _ h => h) (by rfl) (fun ww hww => ?_) hS ?_; rotate_left; · (obtain ⟨hs0, hs1⟩ := hww; go_simp; (try with_reducible rfl))
  simp only [Act.put, List.setIfInBounds_toArray]; try simp only [List.set_cons_zero, List.set_cons_succ]
  refine AnyL.step (i := 6) (by kernel_rfl) rfl rfl (fun K hK => ?_)
  go_simp
  refine (rcopy_any v l _ (by exact hv1.out) (by have := hl.out; omega)).mono ?_
  rintro e w2 ⟨v', rfl, hown, hupd⟩
  obtain ⟨A', c', rfl, -⟩ := own_form hown
  replace hupd := hupd.undrew
  replace hS := And.intro (hupd.cell_some hd0 id) (hupd.cell_some hd1 id)
  refine hK _ _ hS ?_; clear hK K
  refine AnyL.pure (i := 11) (v := ?_) (some 23) rfl rfl (by kernel_rfl) (by kernel_rfl) (by kernel_rfl) rfl (fun _ _ _ h => h) (by rfl) (fun ww => ?_) ?_; rotate_left; · (go_simp; (try with_reducible rfl))
  simp only [Act.put, List.setIfInBounds_toArray]; try simp only [List.set_cons_zero, List.set_cons_succ]
  refine AnyL.step (i := 12) (by kernel_rfl) rfl rfl (fun K hK => ?_)
  go_simp
  replace hupd := hupd.alloc (.cells #[.slice A' l.length c', .int .i64 (ln + 1)] 79)
  replace hS := And.intro (hupd.cell_some hd0 id) (hupd.cell_some hd1 id)
  refine hK _ _ hS ?_; clear hK K
  refine AnyL.step (i := 13) (by kernel_rfl) rfl rfl (fun K hK => ?_)
  refine step_app _ (by rfl) _ _ 72 (by rfl) 0 79 i79 _ 2 32 Try.underlying72 hi.out rfl (by decide) rv ln (rCells ms) (by rfl) (own_upd hr1.out hupd (fun _ _ h => h)) _ 1 [.slice A' l.length c', .int .i64 (ln + 1)] (by rfl) (blk_rd (Blk.new _ _ _) 2 1 (by simp [maxLen]) rfl) (rmsgCells _ _ (own_one hown)) (by simp only [maxLen]; omega) (by omega) (Nat.zero_le _) ?_
  intro rv' w3 hown3 hgrow hat
  obtain ⟨A3, c3, rfl, -⟩ := own_form hown3
  have hf3 := grown_free hgrow (Nat.lt_of_lt_of_le hlp hupd.size) (hupd.free hlp hfp id) hrvp.out
  replace hS := And.intro (hgrow.cell (hupd.cell_some hd0 id) hrvp.out) (hgrow.cell (hupd.cell_some hd1 id) hrvp.out)
  refine hK _ _ hS ?_; clear hK K
  replace hown := Lib.hid hown; replace hown3 := Lib.hid hown3; replace hgrow := Lib.hid hgrow; replace hat := Lib.hid hat; replace hupd := Lib.hid hupd
  obtain ⟨hS0, hS1⟩ := hS
  refine AnyL.pure (i := 14) (v := ?_) (some 26) rfl rfl (by kernel_rfl) (by kernel_rfl) (by kernel_rfl) rfl (fun _ _ _ h => h) (by rfl) (fun ww => ?_) ?_; rotate_left; · (go_simp; (try with_reducible rfl))
  refine AnyL.pure (i := 15) (v := ?_) (some 27) rfl rfl (by kernel_rfl) (by kernel_rfl) (by kernel_rfl) rfl (fun _ _ _ h => h) (by rfl) (fun ww => ?_) ?_; rotate_left; · (go_simp; (try with_reducible rfl))
  simp only [Act.put, List.setIfInBounds_toArray]; try simp only [List.set_cons_zero, List.set_cons_succ]
  refine AnyL.last (i := 16) (by kernel_rfl) rfl rfl rfl (fun K hK => ?_)
  go_simp
  refine hK _ _ ?_; clear hK K
  refine AnyL.done (by kernel_rfl) ?_
  go_wp2
  go_ret
  have hu3 := (hupd.out.of_none (fun k => rv.ownBlock = some k)).grown hgrow.out fun _ hk => .inl hk
  have hrow3 := hown3.out
  obtain rfl := hln.out
  refine ⟨_, rfl, RfOk.grow hR.out hf hl.out hu1.out hb1.out hu3 ?_ hrow3 ?_, by simp [Rf.abs, RA.add, RMsg.abs]⟩
  · refine (hown.out.upd (Upd.refl noBlk w2 |>.alloc _) fun _ _ h => h).upd (Upd.of_grown hgrow.out) fun k hk hkr => ?_
    have h1 := hown.out.ge k hk
    have h2 := (hr1.out.lt k hkr).2
    have h3 : w1.drew.heap.size = w1.heap.size := rfl
    omega
  · intro k hk
    rcases hat.out with h | h
    · exact .inl (by rw [← h]; exact hk)
    · rw [h] at hk
      injection hk with hk
      have := hupd.out.size
      exact .inr (by omega)

def RA.put (r : RA) (l : List UInt8) : RA × Int × Int := if 4096 ≤ r.length then (r, 0, 234) else (r.add l, ((r.length + 1 : Nat) : Int), 0)
def RA.send (r : RA) (l : List UInt8) : RA × Int × Int := if 1048576 < l.length then (r, 0, 233) else r.put l
def RA.copy (r : RA) (n : Int) : RA × Int × Int := match r.pick n with | none => (r, 0, 231) | some k => r.put (r.get k).1

set_option maxRecDepth 100000 in
set_option maxHeartbeats 1000000 in
theorem rsend_any (R : Rf) (v : Value) (l : List UInt8) (w : World) (hR : RfOk w R) (hv : RdB w v l) (hne : l ≠ [] → v.ownBlock ≠ some R.p) :
    Calls Try.prog 30 #[.pointer (some ⟨R.p, 0, none⟩), v] w (RDoes w R (.tuple #[.int .i64 (R.abs.send l).2.1, .int .i64 (R.abs.send l).2.2]) (R.abs.send l).1) := by
  obtain ⟨A, c, hvv, h1, h2, -⟩ := nil_empty hv
  simp only [maxLen] at h2
  unfold RA.send RA.put
  rw [R.abs_length]
  have hp := fun hl hf => rput_raw R v l w hR hf hv hl hne
  obtain ⟨A2, cap, hrv, hc1, hc2, c0, c1, hat⟩ := hR.open_
  have hm := hR.most
  subst hvv
  replace hR := Lib.hid hR
  replace hp := Lib.hid hp
  clear hv hne hat hrv c1
  generalize hll : l.length = ll at *
  generalize hln : R.ms.length = ln at *
  by_cases hl : 1048576 < ll
  · rw [if_pos hl]
    go_enter Try.func30, Try.ntmps30
    go_wp2
    go_ret2
    exact ⟨R, rfl, ROn.of_none hR.out (Upd.refl _ _), rfl⟩
  · rw [if_neg hl]
    by_cases hf : 4096 ≤ ln
    · rw [if_pos hf]
      go_enter Try.func30, Try.ntmps30
      go_wp2
      go_ret2
      exact ⟨R, rfl, ROn.of_none hR.out (Upd.refl _ _), rfl⟩
    · rw [if_neg hf]
      replace hp := Lib.hid (hp.out (by omega) (by omega))
      go_enter Try.func30, Try.ntmps30
      go_wp2_with (go_at_call 50; refine hp.out.mono ?_; rintro e w' ⟨R', rfl, hon, hab⟩; replace hon := Lib.hid hon; replace hab := Lib.hid hab)
      go_ret2
      exact ⟨R', by simp, hon.out, hab.out⟩

set_option maxRecDepth 100000 in
set_option maxHeartbeats 1000000 in
theorem rcpy_any (R : Rf) (n : Int) (w : World) (hR : RfOk w R) :
    Calls Try.prog 46 #[.pointer (some ⟨R.p, 0, none⟩), .int .i64 n] w (RDoes w R (.tuple #[.int .i64 (R.abs.copy n).2.1, .int .i64 (R.abs.copy n).2.2]) (R.abs.copy n).1) := by
  have ht := there_any R n w hR
  unfold RA.copy
  cases hf : R.abs.pick n with
  | none =>
    rw [hf] at ht
    simp only [Option.isSome_none] at ht ⊢
    replace ht := Lib.hid ht
    replace hR := Lib.hid hR
    clear hf
    go_enter Try.func46, Try.ntmps46
    go_wp2_with (go_at_call 54; refine ht.out.mono ?_; rintro e w' ⟨rfl, rfl⟩)
    go_ret2
    exact ⟨R, rfl, ROn.of_none hR.out (Upd.refl _ _), rfl⟩
  | some k =>
    rw [hf] at ht
    simp only [Option.isSome_some] at ht ⊢
    obtain ⟨rfl, l, a, hk, ha⟩ := RA.pick_some hf
    obtain ⟨m, hmk, rfl, rfl, hlt⟩ := Rf.at_abs hk
    rw [Rf.get_at hmk]
    unfold RA.put
    rw [R.abs_length]
    obtain ⟨A, cap, hrv, hc1, hc2, c0, c1, hat⟩ := hR.open_
    obtain ⟨g, rfl, v0, v1⟩ := hat k m hmk
    have hm := hR.most
    have hmem := List.mem_of_getElem? hmk
    have hp := fun hf => rput_raw R m.v m.l w hR hf (hR.byt m hmem).rd (hR.small m hmem) (fun _ => own_blk_ne (hR.byt m hmem) hR.blk (by decide))
    have hkw : IntKind.i64.wrap (k : Int) = k := by rw [IntKind.wrap_i64]; omega
    replace hp := Lib.hid hp
    replace ht := Lib.hid ht
    replace hR := Lib.hid hR
    generalize R.ms.length = ln at *
    clear hf hk hat hrv hmem v1
    by_cases hf : 4096 ≤ ln
    · rw [if_pos hf]
      go_enter Try.func46, Try.ntmps46
      go_wp2_with (go_at_call 54; refine ht.out.mono ?_; rintro e w' ⟨rfl, rfl⟩)
      go_ret2
      exact ⟨R, rfl, ROn.of_none hR.out (Upd.refl _ _), rfl⟩
    · rw [if_neg hf]
      replace hp := Lib.hid (hp.out (by omega))
      go_enter Try.func46, Try.ntmps46
      go_wp2_with (first | (go_at_call 54; refine ht.out.mono ?_; rintro e w' ⟨rfl, rfl⟩) | (go_at_call 50; refine hp.out.mono ?_; rintro e w' ⟨R', rfl, hon, hab⟩; replace hon := Lib.hid hon; replace hab := Lib.hid hab))
      go_ret2
      exact ⟨R', by simp, hon.out, hab.out⟩
end Go.Proofs.Ytfnlemdlngdaiaa
