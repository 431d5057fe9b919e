/-
  The wire's functions: New, Waiting.
-/
import Derived.Test.YtfnlemdlngdaiaaFnG
namespace Go.Proofs.Ytfnlemdlngdaiaa
open Go.RowKit

/-- A row of messages that the call owns. -/
structure OwnMs (B : Nat) (w : World) (v : Value) (ms : List Msg) : Prop where
  row : w.ownsRow B 63 2 v ms.length (rowCells ms)
  byt : ∀ m ∈ ms, OwnB B w m.v m.l
  apart : (ms.filterMap fun m => m.v.ownBlock).Nodup

def Msg.abs (m : Msg) : Nat × List UInt8 := (m.N, m.l)
def zeroMsg : Msg := ⟨0, .slice none 0 0, []⟩

theorem rowCells_zeros (n : Nat) : rowCells (List.replicate n zeroMsg) = (madeCells #[.int .i64 0, .slice none 0 0] (n * 2)).toList := by
  induction n with
  | zero => simp [rowCells, madeCells]
  | succ n ih =>
    rw [List.replicate_succ', rowCells_append, ih]
    simp only [madeCells, rowCells, zeroMsg, List.flatMap_cons, List.flatMap_nil, List.append_nil, Array.toList_map, Array.toList_range]
    rw [show (n + 1) * 2 = n * 2 + 1 + 1 from by omega, List.range_succ, List.range_succ]
    simp [List.map_append]

/-- A new wire. -/
def NewP (w : World) (e : Ending) (w' : World) : Prop := ∃ W : Wr, e = .returned (.pointer (some ⟨W.p, 0, none⟩)) ∧ WrOk w' W ∧ W.abs = ⟨[], 0⟩ ∧ Upd noBlk w w' ∧ ∀ k, W.foot k → w.heap.size ≤ k

set_option maxHeartbeats 400000 in
theorem new_any (w : World) : Calls Try.prog 15 #[] w (NewP w) := by
  go_enter Try.func15, Try.ntmps15
  go_wp2
  go_ret
  refine ⟨⟨w.heap.size, .slice none 0 0, [], 0⟩, rfl, ⟨Blk.new _ _ _, World.ownsRow_nil _ _ _ _, by simp, by simp, by simp, by simp, by simp⟩, rfl, (Upd.refl _ _).alloc _, ?_⟩
  rintro k (rfl | hk | ⟨m, hm, _⟩)
  · exact Nat.le_refl _
  · simp [Value.ownBlock] at hk
  · simp at hm

/-- What Waiting leaves. -/
def RowP (w : World) (l : List (Nat × List UInt8)) (e : Ending) (w' : World) : Prop := ∃ v ms, e = .returned v ∧ OwnMs w.heap.size w' v ms ∧ ms.map Msg.abs = l ∧ Upd noBlk w w'

/-- The row that Waiting fills: k messages are there. -/
def Filled (B H : Nat) (ms : List Msg) (w0 wr : World) (k : Nat) : Prop := ∃ done : List Msg, done.length = k ∧ done.map Msg.abs = (ms.take k).map Msg.abs ∧
  wr.ownsRow B 63 2 (.slice (some ⟨H, 0, none⟩) ms.length ms.length) ms.length (rowCells (done ++ List.replicate (ms.length - k) zeroMsg)) ∧ (∀ m ∈ done, OwnB B wr m.v m.l) ∧
  (done.filterMap fun m => m.v.ownBlock).Nodup ∧ Upd noBlk w0 wr

theorem set_zero (done : List Msg) (n k : Nat) (m : Msg) (hd : done.length = k) (hk : k < n) : (done ++ List.replicate (n - k) zeroMsg).set k m = (done ++ [m]) ++ List.replicate (n - (k + 1)) zeroMsg := by
  subst hd
  rw [List.set_append_right _ _ (Nat.le_refl _), Nat.sub_self, show n - done.length = (n - (done.length + 1)) + 1 from by omega, List.replicate_succ]
  simp

/-- The place that is filled next. -/
theorem Filled.place {B H k : Nat} {ms done : List Msg} {w2 : World} (hd : done.length = k) (hk : k < ms.length)
    (hrow : w2.ownsRow B 63 2 (.slice (some ⟨H, 0, none⟩) ms.length ms.length) ms.length (rowCells (done ++ List.replicate (ms.length - k) zeroMsg))) :
    w2.cell? ⟨H, k * 2, none⟩ = some (.int .i64 0) ∧ w2.cell? ⟨H, k * 2 + 1, none⟩ = some (.slice none 0 0) ∧ w2.frozen? ⟨H, k * 2, none⟩ = false ∧ w2.frozen? ⟨H, k * 2 + 1, none⟩ = false := by
  have hz : (done ++ List.replicate (ms.length - k) zeroMsg)[k]? = some zeroMsg := by
    rw [List.getElem?_append_right (by omega), hd, Nat.sub_self, List.getElem?_replicate, if_pos (by omega)]
  exact ⟨own_at hrow (rowCells_n hz), own_at hrow (rowCells_v hz), hrow.frozenAt _, hrow.frozenAt _⟩

theorem Filled.next {B H k : Nat} {ms done : List Msg} {m : Msg} {v : Value} {w0 wr w2 : World} (hk : k < ms.length) (hmk : ms[k]? = some m) (hd : done.length = k) (hd2 : done.map Msg.abs = (ms.take k).map Msg.abs)
    (hrow : wr.ownsRow B 63 2 (.slice (some ⟨H, 0, none⟩) ms.length ms.length) ms.length (rowCells (done ++ List.replicate (ms.length - k) zeroMsg))) (hby : ∀ x ∈ done, OwnB B wr x.v x.l)
    (hap : (done.filterMap fun x => x.v.ownBlock).Nodup) (hu0 : Upd noBlk w0 wr) (hu : Upd noBlk wr w2) (hH : w0.heap.size ≤ H) (hBw : B ≤ wr.heap.size) (hv : OwnB wr.heap.size w2 v m.l) :
    Filled B H ms w0 ((w2.setCell ⟨H, k * 2, none⟩ (.int .i64 m.N)).setCell ⟨H, k * 2 + 1, none⟩ v) (k + 1) := by
  have hrow2 := own_upd hrow hu fun _ _ h => h
  have hH2 : H < wr.heap.size := (hrow.lt H rfl).2
  have hu4 : Upd (fun b => b = H) w2 ((w2.setCell ⟨H, k * 2, none⟩ (.int .i64 m.N)).setCell ⟨H, k * 2 + 1, none⟩ v) :=
    ((Upd.refl (fun b => b = H) w2).setCell (p := ⟨H, k * 2, none⟩) (.inl rfl) _).setCell (p := ⟨H, k * 2 + 1, none⟩) (.inl rfl) _
  refine ⟨done ++ [⟨m.N, v, m.l⟩], by simp [hd], ?_, ?_, ?_, ?_, ?_⟩
  · rw [List.map_append, hd2, List.take_add_one, hmk]
    simp [Msg.abs]
  · have h := ((hrow2.stored (k * 2) (.int .i64 m.N)).1.stored (k * 2 + 1) v).1
    rw [← set_zero done ms.length k ⟨m.N, v, m.l⟩ hd hk, rowCells_set]
    exact h
  · intro x hx
    simp only [List.mem_append, List.mem_singleton] at hx
    rcases hx with hx | rfl
    · refine ((hby x hx).upd hu fun _ _ h => h).upd hu4 fun j hj hjH => ?_
      subst hjH
      exact own_own_ne (hby x hx) hrow (by decide) hj rfl
    · refine (hv.mono hBw).upd hu4 fun j hj hjH => ?_
      have := hv.ge j hj
      omega
  · refine nodup_concat hap fun b hb x hx hxb => ?_
    have h1 := hv.ge b hb
    have h2 := (hby x hx).lt b hxb
    omega
  · refine (hu0.trans_same hu).trans hu4 fun j hj => .inr ?_
    omega

set_option maxRecDepth 100000 in
set_option maxHeartbeats 1000000 in
theorem waiting_any (W : Wr) (w : World) (hW : WrOk w W) : Calls Try.prog 33 #[.pointer (some ⟨W.p, 0, none⟩)] w (RowP w W.abs.row) := by
  obtain ⟨A, cap, hrv, hnc, hcm, _, _, hat⟩ := own_form hW.row
  have h0 := hW.cell0
  rw [hrv] at h0
  have hlen := hW.len
  obtain ⟨i63, hi63, hz0, hz1, hz2⟩ := info_parts Try.info63
  have hI := Lib.hid (And.intro hi63 (And.intro hz0 (And.intro hz1 hz2)))
  clear hi63 hz0 hz1 hz2 hnc hcm
  replace hat := Lib.hid hat
  replace hrv := Lib.hid hrv
  replace hW := Lib.hid hW
  have habs := Lib.hid (show W.abs.row = W.ms.map Msg.abs from rfl)
  generalize W.abs.row = ar at *
  generalize hms : W.ms = ms at *
  replace hms := Lib.hid hms
  have hin := fun (wr : World) (h : Upd noBlk w wr) => hW.out.upd h fun _ _ h => h
  replace hin := Lib.hid hin
  go_enter Try.func33, Try.ntmps33
  go_wp2_with (refine wpList_make_full _ rfl (.tmp 10) (.tmp 10) 44 rfl w.heap.size 63 i63 (.agg #[.int .i64 0, .slice none 0 0]) 2 Try.underlying44 hI.out.1 hI.out.2.1 hI.out.2.2.1 .i64 .i64 ms.length ms.length ms.length rfl rfl rfl rfl (by rw [hI.out.2.2.2]; omega) (by simp only [maxLen]; omega) (Nat.le_refl _) ?_; intro w1 hown1 hgrow1; have hu1 : Upd noBlk w w1 := (Upd.refl noBlk w).grown (row := none) hgrow1 (fun k hk => by simp at hk); have h01 := hu1.cell_some h0 id; replace hown1 := Lib.hid hown1; replace hu1 := Lib.hid hu1; replace hgrow1 := Lib.hid hgrow1)
  have hfil : Filled w.heap.size w.heap.size ms w w1 0 := ⟨[], rfl, rfl, by rw [List.nil_append, Nat.sub_zero, rowCells_zeros]; exact hown1.out, by simp, by simp, hu1.out⟩
  have hB : w.heap.size < w1.heap.size := (hown1.out.lt _ rfl).2
  replace hfil := Lib.hid hfil
  go_loopw [17] (fun i wr => ∃ k : Nat, k ≤ ms.length ∧ i = .int .i64 k ∧ Filled w.heap.size w.heap.size ms w wr k) (fun i _ => ms.length - (intOf i).toNat)
  case atStart => exact ⟨0, Nat.zero_le _, rfl, hfil.out⟩
  case round =>
    obtain ⟨k, hk, rfl, hf⟩ := hrel
    by_cases hlt : k < ms.length
    · have hmk : ms[k]? = some ms[k] := List.getElem?_eq_getElem hlt
      generalize ms[k] = m at hmk
      obtain ⟨done, hd1, hd2, hd3, hd4, hd5, hd6⟩ := hf
      obtain ⟨g, hA, hc0⟩ := hat.out _ _ (rowCells_n hmk)
      obtain ⟨g', hA', hc1⟩ := hat.out _ _ (rowCells_v hmk)
      subst hA
      obtain rfl : g = g' := by simpa using hA'
      have hmem : m ∈ W.ms := by rw [hms.out]; exact List.mem_of_getElem? hmk
      have hby := (hW.out.byt m hmem).upd hd6 fun _ _ h => h
      have hsm := hW.out.small m hmem
      obtain ⟨Am, cm, hmv, -⟩ := own_form hby
      have hr0 := hd6.cell_some hc0 id
      have hr1 := hd6.cell_some hc1 id
      rw [hmv] at hr1
      have hHle : w.heap.size < wr.heap.size := (hd3.lt w.heap.size rfl).2
      replace hd1 := Lib.hid hd1
      replace hd2 := Lib.hid hd2
      replace hd3 := Lib.hid hd3
      replace hd4 := Lib.hid hd4
      replace hd5 := Lib.hid hd5
      replace hd6 := Lib.hid hd6
      replace hby := Lib.hid hby
      replace hmv := Lib.hid hmv
      replace hmk := Lib.hid hmk
      replace hmem := Lib.hid hmem
      go_wp2_with fail
      have hua : Upd noBlk wr (wr.alloc (.cells #[.int .i64 m.N, .slice Am m.l.length cm] 63)) := (Upd.refl noBlk wr).alloc _
      have hba : Blk (wr.alloc (.cells #[.int .i64 m.N, .slice Am m.l.length cm] 63)) wr.heap.size 63 #[.int .i64 m.N, .slice Am m.l.length cm] := Blk.new _ _ _
      generalize wr.alloc (.cells #[.int .i64 m.N, .slice Am m.l.length cm] 63) = wa at hua hba ⊢
      have ha0 : wa.cell? ⟨wr.heap.size, 0, none⟩ = some (.int .i64 m.N) := by rw [hba.cell]; rfl
      have ha1 : wa.cell? ⟨wr.heap.size, 1, none⟩ = some (.slice Am m.l.length cm) := by rw [hba.cell]; rfl
      have hrd : RdB wa (.slice Am m.l.length cm) m.l := by
        have h := (hby.out.upd hua fun _ _ h => h).rd
        rw [hmv.out] at h
        exact h
      clear hr0 hr1 hc0 hc1
      replace hrd := Lib.hid hrd
      replace hua := Lib.hid hua
      replace hba := Lib.hid hba
      have hS : wa.drew.cell? ⟨wr.heap.size, 0, none⟩ = some (.int .i64 m.N) ∧ wa.drew.cell? ⟨wr.heap.size, 1, none⟩ = some (.slice Am m.l.length cm) := ⟨ha0, ha1⟩
      refine wp_region_L (n := 10) (fun w : World => w.cell? ⟨wr.heap.size, 0, none⟩ = some (.int .i64 m.N) ∧ w.cell? ⟨wr.heap.size, 1, none⟩ = some (.slice Am m.l.length cm)) [6] [0, 1, 2, 3, 4, 5, 7, 8] (by kernel_rfl) rfl ?_
      refine AnyL.pure (i := 0) (v := ?_) (some 22) rfl rfl (by kernel_rfl) (by kernel_rfl) (by kernel_rfl) rfl (fun _ _ _ h => h) (by rfl) (fun ww => ?_) ?_; rotate_left; · (go_simp; (try with_reducible rfl))
      refine AnyL.pure (i := 1) (v := ?_) (some 23) rfl rfl (by kernel_rfl) (by kernel_rfl) (by kernel_rfl) rfl (fun _ _ _ h => h) (by rfl) (fun ww => ?_) ?_; rotate_left; · (go_simp; (try with_reducible rfl))
      refine AnyL.pure (i := 2) (v := ?_) (some 24) rfl rfl (by kernel_rfl) (by kernel_rfl) (by kernel_rfl) rfl (fun _ _ _ h => h) (by rfl) (fun ww => ?_) ?_; rotate_left; · (go_simp; (try with_reducible rfl))
      refine AnyL.take (i := 3) (v := ?_) (some 25) rfl rfl (by kernel_rfl) (by kernel_rfl) (by kernel_rfl) rfl (by kernel_rfl) (fun _ _ _ h => h) (by rfl) (fun ww hww => ?_) hS ?_; rotate_left; · (obtain ⟨hs0, hs1⟩ := hww; go_simp; (try with_reducible rfl))
      refine AnyL.pure (i := 4) (v := ?_) (some 26) rfl rfl (by kernel_rfl) (by kernel_rfl) (by kernel_rfl) rfl (fun _ _ _ h => h) (by rfl) (fun ww => ?_) ?_; rotate_left; · (go_simp; (try with_reducible rfl))
      refine AnyL.take (i := 5) (v := ?_) (some 27) rfl rfl (by kernel_rfl) (by kernel_rfl) (by kernel_rfl) rfl (by kernel_rfl) (fun _ _ _ h => h) (by rfl) (fun ww hww => ?_) hS ?_; rotate_left; · (obtain ⟨hs0, hs1⟩ := hww; go_simp; (try with_reducible rfl))
      simp only [Act.put, List.setIfInBounds_toArray]; try simp only [List.set_cons_zero, List.set_cons_succ]
      refine AnyL.step (i := 6) (by kernel_rfl) rfl rfl (fun K hK => ?_)
      go_simp
      refine (clone_any _ m.l _ (by exact hrd.out) (by omega)).mono ?_
      rintro e w2 ⟨v', rfl, hown, hupd⟩
      obtain ⟨A', c', rfl, -⟩ := own_form hown
      replace hupd := hupd.undrew
      replace hS := And.intro (hupd.cell_some ha0 id) (hupd.cell_some ha1 id)
      have hu2 := hua.out.trans_same hupd
      obtain ⟨hp0, hp1, hp2, hp3⟩ := Filled.place hd1.out hlt (own_upd hd3.out hu2 fun _ _ h => h)
      have hown2 : OwnB wr.heap.size w2 (.slice A' m.l.length c') m.l := hown.mono hua.out.size
      have hnx := Filled.next hlt hmk.out hd1.out hd2.out hd3.out hd4.out hd5.out hd6.out hu2 (Nat.le_refl _) (Nat.le_of_lt hHle) hown2
      replace hnx := Lib.hid hnx
      clear hown hown2 hupd hu2
      refine hK _ _ hS ?_; clear hK K
      refine AnyL.pure (i := 7) (v := ?_) (some 29) rfl rfl (by kernel_rfl) (by kernel_rfl) (by kernel_rfl) rfl (fun _ _ _ h => h) (by rfl) (fun ww => ?_) ?_; rotate_left; · (go_simp; (try with_reducible rfl))
      refine AnyL.pure (i := 8) (v := ?_) (some 30) rfl rfl (by kernel_rfl) (by kernel_rfl) (by kernel_rfl) rfl (fun _ _ _ h => h) (by rfl) (fun ww => ?_) ?_; rotate_left; · (go_simp; (try with_reducible rfl))
      simp only [Act.put, List.setIfInBounds_toArray]; try simp only [List.set_cons_zero, List.set_cons_succ]
      refine AnyL.last (i := 9) (by kernel_rfl) rfl rfl rfl (fun K hK => ?_)
      go_simp
      refine hK _ _ ?_; clear hK K
      refine AnyL.done (by kernel_rfl) ?_
      go_wp2
      go_roundw
      case rel => exact ⟨k + 1, by omega, by go_num, hnx.out⟩
      case measure => simp [intOf]; omega
    · go_wp2
      go_ret
      obtain rfl : k = ms.length := by omega
      obtain ⟨done, hd1, hd2, hd3, hd4, hd5, hd6⟩ := hf
      rw [Nat.sub_self, List.replicate_zero, List.append_nil, ← hd1] at hd3
      rw [List.take_length] at hd2
      exact ⟨_, done, rfl, ⟨by rw [hd1] at hd3 ⊢; exact hd3, hd4, hd5⟩, hd2.trans habs.out.symm, hd6⟩

end Go.Proofs.Ytfnlemdlngdaiaa
