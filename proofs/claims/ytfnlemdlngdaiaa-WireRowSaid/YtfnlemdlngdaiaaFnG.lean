/-
  The wire's functions: Drop, Take.
-/
import Derived.Test.YtfnlemdlngdaiaaFnF
import Derived.Test.YtfnlemdlngdaiaaCpy
namespace Go.Proofs.Ytfnlemdlngdaiaa
open Go.RowKit

theorem addr_at (g o j : Nat) : (⟨g, o, none⟩ : Addr).add j = ⟨g, o + j, none⟩ := by unfold Addr.add; split <;> simp_all

theorem splice_len {α : Type} (L : List α) (off : Nat) (cs : List α) (h : off + cs.length ≤ L.length) : (splice L off cs).length = L.length := by
  unfold splice
  simp only [List.length_append, List.length_take, List.length_drop]
  omega
theorem rowCells_take : ∀ (ms : List Msg) (i : Nat), rowCells (ms.take i) = (rowCells ms).take (i * 2)
  | [], i => by simp [rowCells]
  | a :: ms, 0 => by simp [rowCells]
  | a :: ms, i + 1 => by
    have ih := rowCells_take ms i
    simp only [rowCells, List.take_succ_cons, List.flatMap_cons, List.cons_append, List.nil_append] at ih ⊢
    rw [ih, show (i + 1) * 2 = i * 2 + 1 + 1 from by omega]
    simp only [List.take_succ_cons]
theorem rowCells_drop : ∀ (ms : List Msg) (i : Nat), rowCells (ms.drop i) = (rowCells ms).drop (i * 2)
  | [], i => by simp [rowCells]
  | a :: ms, 0 => by simp [rowCells]
  | a :: ms, i + 1 => by
    have ih := rowCells_drop ms i
    simp only [rowCells, List.drop_succ_cons, List.flatMap_cons, List.cons_append, List.nil_append] at ih ⊢
    rw [ih, show (i + 1) * 2 = i * 2 + 1 + 1 from by omega]
    simp only [List.drop_succ_cons]
theorem splice_take {α : Type} {L : List α} {off : Nat} {cs : List α} (h : off ≤ L.length) : (splice L off cs).take off = L.take off := by
  unfold splice
  rw [List.take_append_of_le_length (by simp; omega), List.take_take, Nat.min_self]
theorem splice_take_more {α : Type} {L : List α} {off : Nat} {cs : List α} (h : off ≤ L.length) : (splice L off cs).take (off + cs.length) = L.take off ++ cs := by
  unfold splice
  rw [← List.append_assoc, List.take_append_of_le_length (by simp; omega)]
  exact List.take_of_length_le (by simp; omega)
/-- The row behind the copy and the clear. -/
theorem row_erased {ms : List Msg} {cur zs : List Value} {ln cap i d : Nat} (hl : ms.length = ln) (hd : d = ln - (i + 1)) (hi : i < ln) (hlc : ln ≤ cap) (hsz : cur.length = cap * 2) (htk : cur.take (ln * 2) = rowCells ms) :
    (splice (splice cur (i * 2) ((rowCells ms).drop ((i + 1) * 2))) ((i + d) * 2) zs).take ((i + d) * 2) = rowCells (ms.eraseIdx i) := by
  have hlen : ((rowCells ms).drop ((i + 1) * 2)).length = d * 2 := by rw [List.length_drop, rowCells_length, hl, hd]; omega
  have hs : (splice cur (i * 2) ((rowCells ms).drop ((i + 1) * 2))).length = cap * 2 := by rw [splice_len _ _ _ (by rw [hlen]; omega), hsz]
  rw [splice_take (by rw [hs]; omega), show (i + d) * 2 = i * 2 + ((rowCells ms).drop ((i + 1) * 2)).length from by rw [hlen]; omega, splice_take_more (by omega)]
  rw [List.eraseIdx_eq_take_drop_succ, rowCells_append, rowCells_take, rowCells_drop, ← htk, List.take_take, Nat.min_eq_left (by omega)]

theorem filterMap_eraseIdx_nodup {α β : Type} {f : α → Option β} {l : List α} (h : (l.filterMap f).Nodup) (i : Nat) : ((l.eraseIdx i).filterMap f).Nodup :=
  h.sublist ((List.eraseIdx_sublist l i).filterMap f)

/-- A message has gone. -/
theorem WrOk.dropTo {w w2 : World} {W : Wr} {i d g ln cap : Nat} {cur2 : List Value} (hW : WrOk w W) (hi : i < ln) (hd : d = ln - (i + 1)) (hlc : ln ≤ cap) (hcm : cap ≤ maxLen) (hrv : W.rv = .slice (some ⟨g, 0, none⟩) ln cap) (hl : W.ms.length = ln)
    (hu : Upd (fun b => b = g) w w2) (hg2 : w2.heap[g]? = some (.cells cur2.toArray 63 (0, 0))) (hsz : cur2.length = cap * 2) (htk : cur2.take ((i + d) * 2) = rowCells (W.ms.eraseIdx i)) :
    Onward w W (w2.setCell ⟨W.p, 0, none⟩ (.slice (some ⟨g, 0, none⟩) (i + d) cap)) { W with rv := .slice (some ⟨g, 0, none⟩) (i + d) cap, ms := W.ms.eraseIdx i } := by
  have hrb : W.rv.ownBlock = some g := by rw [hrv]; rfl
  have hpg : W.p ≠ g := fun h => own_blk_ne hW.row hW.blk (by decide) (by rw [hrb, h])
  have hlen : (W.ms.eraseIdx i).length = i + d := by rw [List.length_eraseIdx, if_pos (by omega)]; omega
  have hu3 : Upd (fun b => b = W.p) w2 (w2.setCell ⟨W.p, 0, none⟩ (.slice (some ⟨g, 0, none⟩) (i + d) cap)) := (Upd.refl (fun b => b = W.p) w2).setCell (p := ⟨W.p, 0, none⟩) (.inl rfl) _
  have huu : Upd (fun b => b = g ∨ b = W.p) w (w2.setCell ⟨W.p, 0, none⟩ (.slice (some ⟨g, 0, none⟩) (i + d) cap)) := (hu.mono fun _ _ h => .inl h).trans hu3 fun _ h => .inl (.inr h)
  have hmem : ∀ x, x ∈ W.ms.eraseIdx i → x ∈ W.ms := fun x hx => List.mem_of_mem_eraseIdx hx
  have hrow2 : w2.ownsRow 0 63 2 (.slice (some ⟨g, 0, none⟩) (i + d) cap) (i + d) (rowCells (W.ms.eraseIdx i)) :=
    ⟨by rw [rowCells_length, hlen], .inr ⟨g, cap, cur2.toArray, rfl, Nat.zero_le _, hg2, by omega, hcm, by simpa using hsz, by simpa using htk⟩⟩
  refine ⟨⟨?_, ?_, ?_, ?_, ?_, hW.most, ?_⟩, rfl, ?_, ?_⟩
  · exact (hW.blk.upd hu hpg).set 0 _
  · simp only [hlen]
    exact own_upd hrow2 hu3 fun k hk hkp => hpg (by simp only [Value.ownBlock, Option.some.injEq] at hk; rw [hk, hkp])
  · intro x hx
    refine (hW.byt x (hmem x hx)).upd huu fun k hk => ?_
    rintro (h | h)
    · exact own_own_ne (hW.byt x (hmem x hx)) hW.row (by decide) hk (by rw [hrb, h])
    · exact own_blk_ne (hW.byt x (hmem x hx)) hW.blk (by decide) (by rw [hk, h])
  · exact filterMap_eraseIdx_nodup hW.apart i
  · intro x hx
    exact hW.small x (hmem x hx)
  · have := hW.many
    simp only [hlen]
    omega
  · refine huu.mono fun k _ hk => ?_
    rcases hk with hk | hk
    · exact .inr (.inl (by rw [hrb, hk]))
    · exact .inl hk
  · rintro k (rfl | hk | ⟨x, hx, hk⟩)
    · exact .inl (.inl rfl)
    · exact .inl (.inr (.inl (by rw [hrb]; exact hk)))
    · exact .inl (.inr (.inr ⟨x, hmem x hx, hk⟩))

theorem Wr.abs_gone (W : Wr) (i : Nat) (rv : Value) : Wr.abs { W with rv := rv, ms := W.ms.eraseIdx i } = W.abs.gone i := by
  simp [Wr.abs, WA.gone, List.eraseIdx_eq_take_drop_succ, List.map_take, List.map_drop]

theorem zeroOne : ∀ v ∈ [Value.int .i64 0, .slice none 0 0], v.oneCell' = true := msgCells 0 _ rfl
theorem zero63 (w : World) : (zeroValue 63).run Try.prog w = .ok (.agg #[.int .i64 0, .slice none 0 0]) w := by kernel_rfl

theorem drop_none (W : Wr) (n : Int) (w : World) (hW : WrOk w W) (hf : W.find n = none) :
    Calls Try.prog 20 #[.pointer (some ⟨W.p, 0, none⟩), .int .i64 n] w (fun e w' => e = .returned (.int .i64 231) ∧ w = w') := by
  have hp := Lib.hid (place_none W n w hW hf)
  clear hf hW
  set_option maxRecDepth 100000 in
  go_enter Try.func20, Try.ntmps20
  go_wp2_with (go_at_call 38; refine hp.out.mono ?_; rintro e w' ⟨rfl, rfl⟩)
  go_ret
  exact ⟨rfl, rfl⟩

set_option maxRecDepth 100000 in
set_option maxHeartbeats 1000000 in
theorem drop_some (W : Wr) (n : Int) (i : Nat) (w : World) (hW : WrOk w W) (hf : W.find n = some i) :
    Calls Try.prog 20 #[.pointer (some ⟨W.p, 0, none⟩), .int .i64 n] w (Does w W (.int .i64 0) (W.abs.gone i)) := by
  have hp := Lib.hid (place_some W n i w hW hf)
  obtain ⟨a, ha, _, _, _⟩ := W.find_some hf
  obtain ⟨g, cap, hrv, hi, hlc, hcm, _, _⟩ := row_at hW ha
  have h0 := hW.cell0
  rw [hrv] at h0
  have hlenW := hW.len
  obtain ⟨i63, hi63, _, hz1, _⟩ := info_parts Try.info63
  have hI := Lib.hid (And.intro hi63 hz1)
  have hcm' : cap ≤ 9223372036854775807 := by simp only [maxLen] at hcm; omega
  clear hf hcm hi63 hz1
  replace hW := Lib.hid hW
  replace ha := Lib.hid ha
  replace hrv := Lib.hid hrv
  generalize hl1 : W.ms.length = ln at *
  replace hl1 := Lib.hid hl1
  have hic : i ≤ cap := by omega
  have hic1 : i + 1 ≤ ln := by omega
  have hic2 : ¬ cap = i := by omega
  go_enter Try.func20, Try.ntmps20
  go_wp2_with (go_at_call 38; refine hp.out.mono ?_; rintro e w' ⟨rfl, rfl⟩)
  have hil : i ≤ ln := by omega
  have e1 : IntKind.i64.wrap ((i : Int) + 1) = (i : Int) + 1 := IntWalk.i64_in _ (by omega)
  have e2 : ((i : Int) + 1).toNat = i + 1 := by omega
  have e3 : (0 : Int) ≤ (i : Int) + 1 := by omega
  have e4 : (i : Int) + 1 ≤ (ln : Int) := by omega
  obtain ⟨d, hd⟩ : ∃ d, d = ln - (i + 1) := ⟨_, rfl⟩
  have hd1 : i + d < ln := by omega
  have hd2 : i + d ≤ ln := by omega
  have hd3 : ¬ cap = i + d := by omega
  have hd4 : ln - (i + d) = 1 := by omega
  have hd5 : i + d ≤ cap := by omega
  replace hd := Lib.hid hd
  replace hd4 := Lib.hid hd4
  obtain ⟨cur, hg, hcs, htk⟩ : ∃ cur : Array Value, w.heap[g]? = some (.cells cur 63 (0, 0)) ∧ cur.size = cap * 2 ∧ cur.toList.take (ln * 2) = rowCells W.ms := by
    rcases hW.out.row.2 with ⟨h, _⟩ | ⟨g', cap', cur, h, _, hg, _, _, hs, ht⟩
    · rw [hrv.out] at h; cases h
    · rw [hrv.out] at h
      simp only [Value.slice.injEq, Option.some.injEq, Addr.mk.injEq, and_true] at h
      obtain ⟨rfl, _, rfl⟩ := h
      exact ⟨cur, hg, hs, by rw [← hl1.out]; exact ht⟩
  have e5 : IntKind.i64.wrap ((i : Int) + (d : Int)) = (i : Int) + (d : Int) := IntWalk.i64_in _ (by omega)
  have e6 : ((i : Int) + (d : Int)).toNat = i + d := by omega
  have e7 : (0 : Int) ≤ (i : Int) + (d : Int) := by omega
  have e8 : (i : Int) + (d : Int) ≤ (ln : Int) := by omega
  have hpg : ¬ W.p = g := fun h => own_blk_ne hW.out.row hW.out.blk (by decide) (by rw [hrv.out, h]; rfl)
  have hpl : W.p < w.heap.size := hW.out.blk.lt
  have hpf : w.frozen? ⟨W.p, 0, none⟩ = false := hW.out.blk.free _ rfl
  have rowOne : ∀ v ∈ rowCells W.ms, v.oneCell' = true := by
    intro v hv
    simp only [rowCells, List.mem_flatMap, List.mem_cons, List.not_mem_nil, or_false] at hv
    obtain ⟨m, hm, rfl | rfl⟩ := hv
    · rfl
    · exact own_one (hW.out.byt m hm)
  have rowAt : ∀ (j : Nat) (v : Value), (rowCells W.ms)[j]? = some v → w.drew.cell? ⟨g, j, none⟩ = some v := by
    intro j v hj
    have h := hW.out.row
    rw [hrv.out] at h
    exact own_at (by rw [hl1.out] at h; exact h) hj
  replace rowOne := Lib.hid rowOne
  replace rowAt := Lib.hid rowAt
  replace hcs := Lib.hid hcs
  obtain ⟨sp, hsp⟩ : ∃ sp, (if cap = i + 1 then some (⟨g, 0, none⟩ : Addr) else some ⟨g, (i + 1) * 2, none⟩) = sp := ⟨_, rfl⟩
  replace hg := Lib.hid hg
  replace htk := Lib.hid htk
  have hS : w.drew.cell? ⟨W.p, 0, none⟩ = some (.slice (some ⟨g, 0, none⟩) ln cap) := h0
  refine wp_region_L (n := 17) (fun w : World => w.cell? ⟨W.p, 0, none⟩ = some (.slice (some ⟨g, 0, none⟩) ln cap)) [14] [0, 1, 2, 3, 4, 5, 6, 7, 8, 9, 10, 11, 12, 13, 15, 16] (by kernel_rfl) rfl ?_
  refine AnyL.pure (i := 0) (v := ?_) (some 17) rfl rfl (by kernel_rfl) (by kernel_rfl) (by kernel_rfl) rfl (fun _ _ _ h => h) (by rfl) (fun ww => ?_) ?_; rotate_left; · (go_simp; (try with_reducible rfl))
  refine AnyL.pure (i := 1) (v := ?_) (some 18) rfl rfl (by kernel_rfl) (by kernel_rfl) (by kernel_rfl) rfl (fun _ _ _ h => h) (by rfl) (fun ww => ?_) ?_; rotate_left; · (go_simp; (try with_reducible rfl))
  refine AnyL.pure (i := 2) (v := ?_) (some 19) rfl rfl (by kernel_rfl) (by kernel_rfl) (by kernel_rfl) rfl (fun _ _ _ h => h) (by rfl) (fun ww => ?_) ?_; rotate_left; · (go_simp; (try with_reducible rfl))
  refine AnyL.pure (i := 3) (v := ?_) (some 20) rfl rfl (by kernel_rfl) (by kernel_rfl) (by kernel_rfl) rfl (fun _ _ _ h => h) (by rfl) (fun ww => ?_) ?_; rotate_left; · (go_simp; (try with_reducible rfl))
  refine AnyL.take (i := 4) (v := ?_) (some 21) rfl rfl (by kernel_rfl) (by kernel_rfl) (by kernel_rfl) rfl (by kernel_rfl) (fun _ _ _ h => h) (by rfl) (fun ww hww => ?_) hS ?_; rotate_left; · (obtain hs0 := hww; go_simp; (try with_reducible rfl))
  refine AnyL.pure (i := 5) (v := ?_) (some 22) rfl rfl (by kernel_rfl) (by kernel_rfl) (by kernel_rfl) rfl (fun _ _ _ h => h) (by rfl) (fun ww => ?_) ?_; rotate_left; · (go_simp; (try with_reducible rfl))
  refine AnyL.pure (i := 6) (v := ?_) (some 23) rfl rfl (by kernel_rfl) (by kernel_rfl) (by kernel_rfl) rfl (fun _ _ _ h => h) (by rfl) (fun ww => ?_) ?_; rotate_left; · (go_simp; (try with_reducible rfl))
  refine AnyL.pure (i := 7) (v := ?_) (some 24) rfl rfl (by kernel_rfl) (by kernel_rfl) (by kernel_rfl) rfl (fun _ _ _ h => h) (by rfl) (fun ww => ?_) ?_; rotate_left; · (go_simp; (try with_reducible rfl))
  refine AnyL.pure (i := 8) (v := ?_) (some 25) rfl rfl (by kernel_rfl) (by kernel_rfl) (by kernel_rfl) rfl (fun _ _ _ h => h) (by rfl) (fun ww => ?_) ?_; rotate_left; · (go_simp; (try with_reducible rfl))
  refine AnyL.pure (i := 9) (v := ?_) (some 26) rfl rfl (by kernel_rfl) (by kernel_rfl) (by kernel_rfl) rfl (fun _ _ _ h => h) (by rfl) (fun ww => ?_) ?_; rotate_left; · (go_simp; (try with_reducible rfl))
  refine AnyL.take (i := 10) (v := ?_) (some 27) rfl rfl (by kernel_rfl) (by kernel_rfl) (by kernel_rfl) rfl (by kernel_rfl) (fun _ _ _ h => h) (by rfl) (fun ww hww => ?_) hS ?_; rotate_left; · (obtain hs0 := hww; go_simp; (try with_reducible rfl))
  refine AnyL.pure (i := 11) (v := ?_) (some 28) rfl rfl (by kernel_rfl) (by kernel_rfl) (by kernel_rfl) rfl (fun _ _ _ h => h) (by rfl) (fun ww => ?_) ?_; rotate_left; · (go_simp; (try with_reducible rfl))
  refine AnyL.pure (i := 12) (v := ?_) (some 29) rfl rfl (by kernel_rfl) (by kernel_rfl) (by kernel_rfl) rfl (fun _ _ _ h => h) (by rfl) (fun ww => ?_) ?_; rotate_left; · (go_simp; (try with_reducible rfl))
  refine AnyL.pure (i := 13) (v := ?_) (some 30) rfl rfl (by kernel_rfl) (by kernel_rfl) (by kernel_rfl) rfl (fun _ _ _ h => h) (by rfl) (fun ww => ?_) ?_; rotate_left; · (go_simp; (try with_reducible rfl))
  simp only [Act.put, List.setIfInBounds_toArray]; try simp only [List.set_cons_zero, List.set_cons_succ]
  refine AnyL.step (i := 14) (by kernel_rfl) rfl rfl (fun K hK => ?_)
  refine step_copy_cells _ (by rfl) _ _ 44 44 (by rfl) 63 i63 2 Try.underlying44 hI.out (some ⟨g, i * 2, none⟩) sp (ln - i) (cap - i) (ln - (i + 1)) (cap - (i + 1)) d (by rfl) (by rfl) ?hk g (i * 2) cur.toList 63 ?hg ((rowCells W.ms).drop ((i + 1) * 2)) ?hn ?hpos ?hfit ?h1 ?_
  case hk => rw [hd.out]; exact (Nat.min_eq_left (by omega)).symm
  case hg => exact hg.out
  case hn => rw [List.length_drop, rowCells_length, hl1.out, hd.out]; omega
  case hpos => exact fun hpos => ⟨rfl, ⟨g, (i + 1) * 2, none⟩, by rw [← hsp, if_neg (by omega)], fun j v hj => by rw [show (⟨g, (i + 1) * 2, none⟩ : Addr).add j = ⟨g, (i + 1) * 2 + j, none⟩ from addr_at _ _ _]; rw [List.getElem?_drop] at hj; exact rowAt.out _ _ hj⟩
  case hfit => rw [List.length_drop, rowCells_length, hl1.out, Array.length_toList, hcs.out]; omega
  case h1 => exact fun v hv => rowOne.out v (List.mem_of_mem_drop hv)
  intro w1 hg1 hu1
  have h1f : w1.frozen? ⟨W.p, 0, none⟩ = false := hu1.free hpl hpf hpg
  replace hS : w1.cell? ⟨W.p, 0, none⟩ = some (.slice (some ⟨g, 0, none⟩) ln cap) := hu1.cell_some h0 hpg
  replace hu1 := hu1.undrew
  have hl1' := hu1.size
  replace hg1 := Lib.hid hg1; replace hu1 := Lib.hid hu1
  refine hK _ _ hS ?_; clear hK K
  refine AnyL.pure (i := 15) (v := ?_) (some 32) rfl rfl (by kernel_rfl) (by kernel_rfl) (by kernel_rfl) rfl (fun _ _ _ h => h) (by rfl) (fun ww => ?_) ?_; rotate_left; · (go_simp; (try with_reducible rfl))
  refine AnyL.pure (i := 16) (v := ?_) (some 7) rfl rfl (by kernel_rfl) (by kernel_rfl) (by kernel_rfl) rfl (fun _ _ _ h => h) (by rfl) (fun ww => ?_) ?_; rotate_left; · (go_simp; (try with_reducible rfl))
  refine AnyL.done (by kernel_rfl) ?_
  obtain ⟨w2, hrun, hg2, hu2⟩ := run_clear_cells (P := Try.prog) w1 44 0 63 (.agg #[.int .i64 0, .slice none 0 0]) Try.underlying44 zero63 g ((i + d) * 2) (ln - (i + d)) (cap - (i + d)) (by rw [hd4.out]; decide) _ 63 hg1.out [.int .i64 0, .slice none 0 0] (by rw [hd4.out]; kernel_rfl) (by rw [splice_len _ _ _ (by rw [List.length_drop, rowCells_length, hl1.out, Array.length_toList, hcs.out]; omega)]; simp only [List.length_cons, List.length_nil, Array.length_toList, hcs.out]; omega) zeroOne
  have h2f : w2.frozen? ⟨W.p, 0, none⟩ = false := hu2.free (Nat.lt_of_lt_of_le hpl hl1') h1f hpg
  have h2c : w2.cell? ⟨W.p, 0, none⟩ = some (.slice (some ⟨g, 0, none⟩) ln cap) := hu2.cell_some hS hpg
  replace hg2 := Lib.hid hg2; replace hu2 := Lib.hid hu2
  go_wp2
  go_ret
  have hcs2 : cur.toList.length = cap * 2 := by rw [Array.length_toList]; exact hcs.out
  have hln : ((rowCells W.ms).drop ((i + 1) * 2)).length = d * 2 := by rw [List.length_drop, rowCells_length, hl1.out, hd.out]; omega
  refine ⟨_, rfl, hW.out.dropTo hi hd.out hlc (by simp only [maxLen]; omega) hrv.out hl1.out (hu1.out.trans_same hu2.out) hg2.out ?_ (row_erased hl1.out hd.out hi hlc hcs2 htk.out), W.abs_gone i _⟩
  rw [splice_len _ _ _ (by rw [splice_len _ _ _ (by rw [hln]; omega)]; simp only [List.length_cons, List.length_nil]; omega), splice_len _ _ _ (by rw [hln]; omega), hcs2]

theorem drop_any (W : Wr) (n : Int) (w : World) (hW : WrOk w W) :
    Calls Try.prog 20 #[.pointer (some ⟨W.p, 0, none⟩), .int .i64 n] w (Does w W (.int .i64 (W.abs.drop n).2) (W.abs.drop n).1) := by
  unfold WA.drop
  rw [W.find_abs]
  cases hf : W.find n with
  | none =>
    refine (drop_none W n w hW hf).mono ?_
    rintro e w' ⟨rfl, rfl⟩
    exact ⟨W, rfl, Onward.refl hW, rfl⟩
  | some i => exact drop_some W n i w hW hf

/-- What Take leaves: bytes in new memory, an error, the wire without the message. -/
def TakeP (w : World) (W : Wr) (s : WA) (l : List UInt8) (er : Int) (e : Ending) (w' : World) : Prop :=
  ∃ v W', e = .returned (.tuple #[v, .int .i64 er]) ∧ OwnB w.heap.size w' v l ∧ Onward w W w' W' ∧ W'.abs = s ∧ ∀ k, v.ownBlock = some k → ¬ W'.foot k

set_option maxRecDepth 100000 in
set_option maxHeartbeats 400000 in
theorem take_any (W : Wr) (n : Int) (w : World) (hW : WrOk w W) :
    Calls Try.prog 17 #[.pointer (some ⟨W.p, 0, none⟩), .int .i64 n] w (TakeP w W (W.abs.drop n).1 (W.abs.look n).1 (W.abs.look n).2) := by
  cases hf : W.find n with
  | none =>
    have h1 : W.abs.look n = ([], 231) := by unfold WA.look; rw [W.find_abs, hf]
    have h2 : W.abs.drop n = (W.abs, 231) := by unfold WA.drop; rw [W.find_abs, hf]
    have hp := Lib.hid (look_any W n w hW)
    rw [h1] at hp
    rw [h1, h2]
    replace hW := Lib.hid hW
    clear hf h1 h2
    go_enter Try.func17, Try.ntmps17
    go_wp2_with (go_at_call 21; refine hp.out.mono ?_; rintro e w' ⟨v, rfl, hown, hupd⟩; replace hown := Lib.hid hown; replace hupd := Lib.hid hupd)
    go_ret2
    exact ⟨_, W, rfl, World.ownsRow_nil _ _ _ _, Onward.of_none hW.out hupd.out, rfl, fun k hk => by simp [Value.ownBlock] at hk⟩
  | some i =>
    obtain ⟨a, ha, _, _, _⟩ := W.find_some hf
    have h1 : W.abs.look n = ((W.abs.get i).2, 0) := by unfold WA.look; rw [W.find_abs, hf]
    have h2 : W.abs.drop n = (W.abs.gone i, 0) := by unfold WA.drop; rw [W.find_abs, hf]
    have hp := Lib.hid (look_any W n w hW)
    have hq := Lib.hid (fun (w1 : World) (h : Upd noBlk w w1) => drop_any W n w1 (hW.upd h fun _ _ h => h))
    rw [h1] at hp
    rw [h2] at hq
    rw [h1, h2]
    simp only at hp hq ⊢
    replace hW := Lib.hid hW
    generalize (W.abs.get i).2 = l at *
    generalize W.abs.gone i = s at *
    clear hf ha h1 h2
    go_enter Try.func17, Try.ntmps17
    go_wp2_with fail
    refine hp.out.mono ?_; rintro e w1 ⟨v, rfl, hown, hupd⟩; replace hown := Lib.hid hown; replace hupd := Lib.hid hupd
    go_wp2_with fail
    refine (hq.out w1 hupd.out).mono ?_; rintro e w2 ⟨W', rfl, ho, hab⟩; replace ho := Lib.hid ho; replace hab := Lib.hid hab
    go_wp2
    go_ret2
    have hv1 := hown.out.lt
    have hlt := hW.out.lt
    refine ⟨_, W', rfl, hown.out.upd ho.out.upd fun k hk hkw => ?_, (Onward.of_none hW.out hupd.out).trans ho.out, hab.out, fun k hk hkw => ?_⟩
    · have h3 := hown.out.ge k hk
      have h4 := hlt k hkw
      omega
    · rcases ho.out.into k hkw with h | h
      · have h3 := hown.out.ge k hk
        have h4 := hlt k h
        omega
      · have h3 := hv1 k hk
        omega

end Go.Proofs.Ytfnlemdlngdaiaa
