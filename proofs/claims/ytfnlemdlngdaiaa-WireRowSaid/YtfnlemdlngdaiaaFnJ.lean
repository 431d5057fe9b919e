/-
  The law's 'do': Send.
-/
import Derived.Test.YtfnlemdlngdaiaaFnI
namespace Go.Proofs.Ytfnlemdlngdaiaa
open Go.RowKit

/-- What 'do' puts behind the bytes that are sent. -/
def tail6 : List UInt8 := [7, 11, 13, 17, 19, 23]

theorem xor_ff (b : UInt8) : Value.int .u8 (Go.bits .xor .u8 (b.toNat : Int) 255) = bv (b ^^^ 255) := by
  unfold bv
  rw [show (255 : Int) = ((255 : Nat) : Int) from rfl, u8_xor_nat _ _ b.toNat_lt (by decide), UInt8.toNat_xor]
  rfl

theorem do_fin2 {w w3 w4 w5 : World} {W W' : Wr} {H : Nat} {o : Array Value} {bs rv : Value} {ms : List Msg} {s : WA} {t : TdA} {S : Nat → Prop} (hb : Begun w w3 H o) (ho : Onward w3 W w4 W') (hs : W'.abs = s)
    (ht : TdOk w3.heap.size w4 bs rv ms t) (hn : ∀ k, TdFoot bs rv ms k → ¬ W'.foot k) (hu5 : Upd S w4 w5) (hS : ∀ k, S k → H ≤ k ∧ ¬ W'.foot k ∧ ¬ TdFoot bs rv ms k) :
    DoP w W s t (.returned (.tuple #[.agg #[.int .i64 t.n, bs, .int .i64 t.err, rv], .bool true])) w5 := by
  have h2 := hb.two
  have hsz := hb.upd.size
  have hH := hb.size
  refine ⟨bs, rv, ms, W', rfl, ⟨ho.ok.upd hu5 fun k hk hd => (hS k hd).2.1 hk, ho.same, ?_, fun k hk => ?_⟩, hs, ?_, hn⟩
  · refine ((hb.upd.of_none _).trans_same ho.upd).trans hu5 fun k hk => .inr ?_
    have := (hS k hk).1
    omega
  · exact (ho.into k hk).imp id fun h => by omega
  · have h := ht.upd hu5 fun k hk hd => (hS k hd).2.2 hk
    exact ⟨h.bytes.mono (by omega), h.row.mono (by omega), h.abs⟩

set_option maxRecDepth 100000 in
set_option maxHeartbeats 4000000 in
theorem do_1 (W : Wr) (n m k : Int) (v : Value) (l : List UInt8) (w : World) (hW : WrOk w W) (hv : RdB w v l) (hl : l.length ≤ 140737488351232) :
    Calls Try.prog 27 #[.pointer (some ⟨W.p, 0, none⟩), .agg #[.int .i64 1, .int .i64 n, .int .i64 m, .int .i64 k, v]] w (DoP w W (W.abs.doOp ⟨1, n, m, k, l⟩).1 (W.abs.doOp ⟨1, n, m, k, l⟩).2) := by
  have e1 : W.abs.doOp ⟨1, n, m, k, l⟩ = ((W.abs.send l).1, ⟨(W.abs.send l).2.1, [], (W.abs.send l).2.2, []⟩) := by simp [WA.doOp]
  rw [e1]
  clear e1
  simp only
  obtain ⟨i5, hi⟩ := info_parts Try.info5
  replace hi := Lib.hid hi
  obtain ⟨Av, cv, rfl, hv1, hv2, _⟩ := nil_empty hv
  have hc := fun (w' : World) (u : Value) (hu : Upd noBlk w w') (hr : RdB w' u l) (hne : u.ownBlock ≠ some W.p) => send_any W u l w' (hW.upd hu fun _ _ h => h) hr hne
  replace hc := Lib.hid hc
  generalize W.abs.send l = r at *
  obtain ⟨s', rn, re⟩ := r
  simp only at *
  have hlt := hW.lt
  replace hlt := Lib.hid hlt
  have hlb : l.length ≤ 9223372036854775807 := by omega
  replace hW := Lib.hid hW
  replace hl := Lib.hid hl
  replace hv := Lib.hid hv
  clear hv1 hv2
  generalize hll : l.length = ll at *
  replace hll := Lib.hid hll
  go_enter Try.func27, Try.ntmps27
  go_wp2_with fail
  have hb := begun_of w #[.int .i64 1, .int .i64 n, .int .i64 m, .int .i64 k, .slice Av ll cv]
  unfold begun3 at hb
  generalize w.heap.size = H at hb ⊢
  generalize ((w.alloc (.cells #[.int .i64 1, .int .i64 n, .int .i64 m, .int .i64 k, .slice Av ll cv] 50)).alloc _).alloc _ = w3 at hb ⊢
  have hv3 : RdB w3 (.slice Av ll cv) l := hv.out.none hb.upd
  refine (copy_any _ l w3 hv3 (by have := hl.out; have := hll.out; omega)).mono ?_
  rintro e w4 ⟨u, rfl, hown, hu⟩
  replace hv3 := Lib.hid hv3
  replace hown := Lib.hid hown
  replace hb := Lib.hid hb
  replace hu := Lib.hid hu
  have hb6 : Blk (w4.alloc (.cells (bvs tail6).toArray 5)) w4.heap.size 5 (bvs tail6).toArray := Blk.new _ _ _
  have hown' : OwnB w3.heap.size (w4.alloc (.cells (bvs tail6).toArray 5)) u l := hown.out.upd ((Upd.refl noBlk w4).alloc _) fun _ _ h => h
  have hsz4 : w3.heap.size ≤ (w4.alloc (.cells (bvs tail6).toArray 5)).heap.size := by have := hu.out.size; simp; omega
  replace hb6 := Lib.hid hb6
  replace hown' := Lib.hid hown'
  replace hsz4 := Lib.hid hsz4
  go_wp2_with (at_builtin; refine wpList_app _ rfl _ _ 24 rfl w3.heap.size 5 i5 (.int .u8 0) 1 1 Try.underlying24 hi.out rfl (by decide) u l.length (bvs l) rfl hown'.out _ 6 (bvs tail6) rfl (blk_rd hb6.out 1 6 (by simp [maxLen]) rfl) (bvs_one _) (by have := hl.out; have := hll.out; simp only [maxLen]; omega) (by have := hl.out; have := hll.out; omega) hsz4.out ?_; intro u2 w5 hown5 hgrow5 hat5)
  have hlen6 : (l ++ tail6).length = ll + 6 := by rw [List.length_append, hll.out]; rfl
  have ho5 : OwnB w3.heap.size w5 u2 (l ++ tail6) := by
    unfold OwnB
    rw [hlen6, bvs_append, ← hll.out]
    exact hown5
  have hu5 : Upd noBlk w3 w5 := (hu.out.alloc _).grown hgrow5 fun j hj => .inr (hown.out.ge j hj)
  clear hown5 hgrow5 hat5 hb6 hown' hsz4 hown hu
  obtain ⟨g, c2, rfl, hg3, hg5⟩ := World.ownsRow.form ho5 (by rw [hlen6]; omega)
  obtain ⟨A', c', hAc, hlc2, hcm2, -, -, -⟩ := own_form ho5
  simp only [Value.slice.injEq, true_and] at hAc
  obtain ⟨-, rfl⟩ := hAc
  refine (copy_any _ (l ++ tail6) w5 ho5.rd (by have := hl.out; have := hll.out; omega)).mono ?_
  rintro e w6 ⟨u3, rfl, ho6, hu6⟩
  have h5b : OwnB w3.heap.size w6 (.slice (some ⟨g, 0, none⟩) (l ++ tail6).length c2) (l ++ tail6) := ho5.upd hu6 fun _ _ h => h
  have hu36 : Upd noBlk w3 w6 := hu5.trans_same hu6
  have hcut : OwnB w3.heap.size w6 (.slice (some ⟨g, 0, none⟩) ll c2) l := by
    have h := h5b.cut rfl (k := ll) (by omega)
    rwa [List.take_append_of_le_length (by have := hll.out; omega), List.take_of_length_le (by have := hll.out; omega)] at h
  have hne : (Value.slice (some ⟨g, 0, none⟩) ll c2).ownBlock ≠ some W.p := fun hk => by
    have h1 := hcut.ge _ hk
    have h2 := hW.out.blk.lt
    have h3 := hb.out.upd.size
    omega
  have hc6 := hc.out w6 (.slice (some ⟨g, 0, none⟩) ll c2) (hb.out.upd.trans_same hu36) hcut.rd hne
  have hkb : ∀ j, (Value.slice (some ⟨g, 0, none⟩) (l ++ tail6).length c2).ownBlock = some j → w3.heap.size ≤ j := h5b.ge
  have hkc : ∀ j, u3.ownBlock = some j → w5.heap.size ≤ j := ho6.ge
  have hks : w3.heap.size ≤ w5.heap.size := hu5.size
  have h56 : w5.heap.size ≤ w6.heap.size := hu6.size
  replace h56 := Lib.hid h56
  rw [hlen6] at h5b hkb hlc2 ⊢
  have hcm2' : c2 ≤ 9223372036854775807 := by simp only [maxLen] at hcm2; omega
  have hll2 : ll ≤ c2 := by omega
  replace hc6 := Lib.hid hc6
  replace ho6 := Lib.hid ho6
  replace h5b := Lib.hid h5b
  replace hu36 := Lib.hid hu36
  replace hkb := Lib.hid hkb
  replace hkc := Lib.hid hkc
  replace hks := Lib.hid hks
  replace hlen6 := Lib.hid hlen6
  clear hc hne hcut ho5 hu6 hu5 hcm2
  have hd4 : w6.cell? ⟨H, 4, none⟩ = some (.slice Av ll cv) := hu36.out.cell_some (by rw [hb.out.b0.cell]; rfl) id
  go_wp2_with fail
  refine hc6.out.mono ?_
  rintro e w7 ⟨W', rfl, ho, hs⟩
  have hfH : ∀ k, W.foot k → k < H := fun k hk => by have := hlt.out k hk; have := hb.out.size; omega
  have hH3 := hb.out.two
  have ht := hb.out.tell ((hu36.out.of_none W.foot).trans_same ho.upd) hfH
  have h5c := h5b.out.upd ho.upd fun j hj hf => by have h1 := hkb.out j hj; have h2 := hfH j hf; omega
  have ho7 := ho6.out.upd ho.upd fun j hj hf => by have h1 := hkc.out j hj; have h2 := hfH j hf; have h3 := hks.out; omega
  obtain ⟨⟨a0, a1, a2, a3⟩, ⟨b0, b1, b2, b3⟩, ⟨f0, f1, f2, f3⟩, ⟨g0, g1, g2, g3⟩⟩ := ht.cells
  replace ho := Lib.hid ho
  replace hs := Lib.hid hs
  replace hfH := Lib.hid hfH
  replace ht := Lib.hid ht
  replace h5c := Lib.hid h5c
  replace ho7 := Lib.hid ho7
  clear hc6 hd4
  go_wp2_with fail
  have hb8 := (ht.out.b2.set 0 (.int .i64 rn)).set 2 (.int .i64 re)
  have hu78 : Upd (twoB H) w7 ((w7.setCell ⟨H + 1 + 1, 0, none⟩ (.int .i64 rn)).setCell ⟨H + 1 + 1, 2, none⟩ (.int .i64 re)) :=
    ((Upd.refl (twoB H) w7).setCell (p := ⟨H + 1 + 1, 0, none⟩) (.inl (.inr rfl)) _).setCell (p := ⟨H + 1 + 1, 2, none⟩) (.inl (.inr rfl)) _
  have hb18 := (ht.out.b1.far (p := ⟨H + 1 + 1, 0, none⟩) (by simp) (.int .i64 rn)).far (p := ⟨H + 1 + 1, 2, none⟩) (by simp) (.int .i64 re)
  generalize (w7.setCell ⟨H + 1 + 1, 0, none⟩ (.int .i64 rn)).setCell ⟨H + 1 + 1, 2, none⟩ (.int .i64 re) = w8 at hb8 hu78 hb18 ⊢
  have hg2 : ¬ twoB H g := by
    have h1 := hb.out.two
    rintro (h | h) <;> omega
  have h58 := h5c.out.upd hu78 fun j hj => by
    simp only [Value.ownBlock, Option.some.injEq] at hj
    subst hj
    exact hg2
  have ho8 := ho7.out.upd hu78 fun j hj hd => by
    have h1 := hkc.out j hj
    have h2 := hks.out
    have h3 := hb.out.two
    rcases hd with rfl | rfl <;> omega
  refine (same_any _ _ (l ++ tail6) (l ++ tail6) w8 h58.rd ho8.rd).mono ?_
  rintro e w9 ⟨rfl, q, rfl⟩
  rw [decide_eq_true rfl]
  have h59 : OwnB w3.heap.size (w8.drewN q) (.slice (some ⟨g, 0, none⟩) (ll + 6) c2) (l ++ tail6) := h58
  have hu79 : Upd (twoB H) w7 (w8.drewN q) := hu78.drewN q
  have hb9 : Blk (w8.drewN q) (H + 1 + 1) 46 #[.int .i64 rn, .slice none 0 0, .int .i64 re, .slice none 0 0] := hb8
  have hb19 : Blk (w8.drewN q) (H + 1) 46 #[.int .i64 0, .slice none 0 0, .int .i64 0, .slice none 0 0] := hb18
  generalize w8.drewN q = w9 at h59 hu79 hb9 hb19 ⊢
  replace h59 := Lib.hid h59
  replace hu79 := Lib.hid hu79
  replace hb9 := Lib.hid hb9
  replace hb19 := Lib.hid hb19
  replace hg2 := Lib.hid hg2
  clear h58 ho8 hb8 hu78 hb18 h5c ho7 a0 a1 a2 a3 b0 b1 b2 b3 f0 f1 f2 f3 g0 g1 g2 g3
  have h6b : ll + 6 ≤ 9223372036854775807 := by have := hl.out; omega
  go_wp2_with fail
  go_loopw [10] (fun i wr => ∃ (kk : Nat) (l' : List UInt8), kk ≤ ll + 6 ∧ i = .int .i64 kk ∧ l'.length = ll + 6 ∧ OwnB w3.heap.size wr (.slice (some ⟨g, 0, none⟩) (ll + 6) c2) l' ∧ Upd (fun j => j = g) w9 wr) (fun i _ => ll + 6 - (intOf i).toNat)
  case atStart => exact ⟨0, l ++ tail6, Nat.zero_le _, rfl, hlen6.out, h59.out, Upd.refl _ _⟩
  case round =>
    obtain ⟨kk, l', hkk, rfl, hl', hol, hul⟩ := hrel
    by_cases hlt2 : kk < ll + 6
    · obtain ⟨b, _, hcell, hfr⟩ := hol.at_ hl' hlt2
      replace hol := Lib.hid hol
      replace hl' := Lib.hid hl'
      replace hul := Lib.hid hul
      go_wp2
      rw [xor_ff]
      go_roundw
      case rel => exact ⟨kk + 1, l'.set kk (b ^^^ 255), by omega, by go_num, by rw [List.length_set]; exact hl'.out, hol.out.stored hl'.out, hul.out.setCell (p := ⟨g, kk, none⟩) (.inl rfl) _⟩
      case measure => simp [intOf]; omega
    · have hgH1 : ¬ H + 1 = g := fun h => hg2.out (.inl h.symm)
      have hgH2 : ¬ H + 1 + 1 = g := fun h => hg2.out (.inr h.symm)
      have c1 := hb19.out.upd hul hgH1
      have c2' := hb9.out.upd hul hgH2
      have a0 : wr.cell? ⟨H + 1, 0, none⟩ = some (.int .i64 0) := by rw [c1.cell]; rfl
      have a1 : wr.cell? ⟨H + 1, 1, none⟩ = some (.slice none 0 0) := by rw [c1.cell]; rfl
      have a2 : wr.cell? ⟨H + 1, 2, none⟩ = some (.int .i64 0) := by rw [c1.cell]; rfl
      have a3 : wr.cell? ⟨H + 1, 3, none⟩ = some (.slice none 0 0) := by rw [c1.cell]; rfl
      have b0 : wr.cell? ⟨H + 1 + 1, 0, none⟩ = some (.int .i64 rn) := by rw [c2'.cell]; rfl
      have b1 : wr.cell? ⟨H + 1 + 1, 1, none⟩ = some (.slice none 0 0) := by rw [c2'.cell]; rfl
      have b2 : wr.cell? ⟨H + 1 + 1, 2, none⟩ = some (.int .i64 re) := by rw [c2'.cell]; rfl
      have b3 : wr.cell? ⟨H + 1 + 1, 3, none⟩ = some (.slice none 0 0) := by rw [c2'.cell]; rfl
      have f0 : wr.frozen? ⟨H + 1, 0, none⟩ = false := c1.free _ rfl
      have f1 : wr.frozen? ⟨H + 1, 1, none⟩ = false := c1.free _ rfl
      have f2 : wr.frozen? ⟨H + 1, 2, none⟩ = false := c1.free _ rfl
      have f3 : wr.frozen? ⟨H + 1, 3, none⟩ = false := c1.free _ rfl
      replace hol := Lib.hid hol
      replace hl' := Lib.hid hl'
      replace hul := Lib.hid hul
      clear c1 c2'
      go_wp2
      refine bodyPost_ret (v := .tuple #[.agg #[.int .i64 rn, .slice none 0 0, .int .i64 re, .slice none 0 0], .bool true]) (by simp [results, Try.results27, go_sem, a0, a1, a2, a3]) rfl ?_
      have hw3 := hW.out.upd hb.out.upd fun _ _ h => h
      have hon := (Onward.of_none hw3 hu36.out).trans ho.out
      have hgf : ¬ W'.foot g := fun hf => by
        rcases ho.out.into g hf with h | h
        · have h1 := hfH.out g h
          have h2 := hb.out.two
          omega
        · have h1 := h56.out
          omega
      have hul2 : Upd (fun j => twoB H j ∨ j = g) w7 wr := (hu79.out.mono fun _ _ h => .inl h).trans hul.out fun j hj => .inl (.inr hj)
      refine do_fin2 (t := ⟨rn, [], re, []⟩) (S := fun j => twoB H j ∨ j = g) hb.out hon hs.out (TdOk.plain _ _ _ _) (fun j hj => (TdFoot.nil j hj).elim) (((((hul2.setCell ?_ _).setCell ?_ _).setCell ?_ _).setCell ?_ _)) ?_
      all_goals first | exact .inl (.inl (.inl rfl)) | skip
      rintro j (hj | rfl)
      · have h1 := hb.out.two
        refine ⟨by rcases hj with rfl | rfl <;> omega, fun hf => ?_, TdFoot.nil j⟩
        rcases hon.into j hf with h | h
        · have := hfH.out j h
          rcases hj with rfl | rfl <;> omega
        · rcases hj with rfl | rfl <;> omega
      · exact ⟨by have := hb.out.two; omega, hgf, TdFoot.nil _⟩

theorem do_any (W : Wr) (o : OpD) (v : Value) (w : World) (hW : WrOk w W) (hv : RdB w v o.bytes) (hl : o.bytes.length ≤ 140737488351232) :
    Calls Try.prog 27 #[.pointer (some ⟨W.p, 0, none⟩), .agg #[.int .i64 o.kind, .int .i64 o.n, .int .i64 o.m, .int .i64 o.k, v]] w (DoP w W (W.abs.doOp o).1 (W.abs.doOp o).2) := by
  obtain ⟨kd, n, m, k, l⟩ := o
  simp only at hv hl ⊢
  by_cases h : kd < 1 ∨ 10 < kd
  · exact do_else W kd n m k v l w hW h
  · have h' : kd = 1 ∨ kd = 2 ∨ kd = 3 ∨ kd = 4 ∨ kd = 5 ∨ kd = 6 ∨ kd = 7 ∨ kd = 8 ∨ kd = 9 ∨ kd = 10 := by omega
    rcases h' with rfl | rfl | rfl | rfl | rfl | rfl | rfl | rfl | rfl | rfl
    · exact do_1 W n m k v l w hW hv hl
    · exact do_2 W n m k v l w hW
    · exact do_3 W n m k v l w hW
    · exact do_4 W n m k v l w hW
    · exact do_5 W n m k v l w hW
    · exact do_6 W n m k v l w hW
    · exact do_7 W n m k v l w hW
    · exact do_8 W n m k v l w hW
    · exact do_9 W n m k v l w hW
    · exact do_10 W n m k v l w hW

end Go.Proofs.Ytfnlemdlngdaiaa
