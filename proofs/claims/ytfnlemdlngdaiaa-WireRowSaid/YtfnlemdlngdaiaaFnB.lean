/-
  The wire's functions: place, add, Send.
-/
import Derived.Test.YtfnlemdlngdaiaaFnA
import Derived.Test.YtfnlemdlngdaiaaOrd
namespace Go.Proofs.Ytfnlemdlngdaiaa
open Go.RowKit

theorem Try.info63 : (Try.prog.info? 63).map (fun i => (i.zero, i.size, i.bytes)) = some (some (.agg #[.int .i64 0, .slice none 0 0]), 2, 32) := by kernel_rfl
set_option maxHeartbeats 400000 in
theorem place_none (W : Wr) (n : Int) (w : World) (hW : WrOk w W) (hf : W.find n = none) :
    Calls Try.prog 38 #[.pointer (some ⟨W.p, 0, none⟩), .int .i64 n] w fun e w' => e = .returned (.tuple #[.int .i64 0, .int .i64 231]) ∧ w = w' := by
  have hN := Lib.hid (Wr.find_none hf)
  have hc0 : w.cell? ⟨W.p, 0, none⟩ = some W.rv := by rw [hW.blk.cell]; rfl
  have hm : W.ms.length ≤ 4096 := Nat.le_trans hW.many hW.most
  obtain ⟨A, cap, hrv, _, _, _, _, hat⟩ := own_form hW.row
  rw [hrv] at hc0
  replace hat := Lib.hid hat
  replace hrv := Lib.hid hrv
  clear hW hf
  obtain ⟨p, rv, ms, gv⟩ := W
  simp only at hN hc0 hm hat hrv
  go_enter Try.func38, Try.ntmps38
  go_wp2
  go_loop [12] (fun i => ∃ k : Nat, k ≤ ms.length ∧ i = .int .i64 k) (fun i => ms.length - (intOf i).toNat)
  case atStart => exact ⟨0, Nat.zero_le _, rfl⟩
  case round =>
    obtain ⟨k, hk, rfl⟩ := hrel
    by_cases hlt : k < ms.length
    · have hmk : ms[k]? = some ms[k] := List.getElem?_eq_getElem hlt
      obtain ⟨g, hA, hcell⟩ := hat.out _ _ (rowCells_n hmk)
      have hne := hN.out k _ hmk
      have hb : ((ms[k].N : Int) == n) = false := by simpa using hne
      subst hA
      clear hmk hne
      go_wp2
      go_round
      case rel => exact ⟨k + 1, by omega, by go_num⟩
      case measure => simp [intOf]; omega
    · go_wp2
      go_ret2
      exact ⟨rfl, rfl⟩

set_option maxHeartbeats 400000 in
theorem place_some (W : Wr) (n : Int) (i : Nat) (w : World) (hW : WrOk w W) (hf : W.find n = some i) :
    Calls Try.prog 38 #[.pointer (some ⟨W.p, 0, none⟩), .int .i64 n] w fun e w' => e = .returned (.tuple #[.int .i64 i, .int .i64 0]) ∧ w = w' := by
  obtain ⟨m, hm1, hm2, hi, hb⟩ := Wr.find_some hf
  have hN := Lib.hid hb
  have hc0 : w.cell? ⟨W.p, 0, none⟩ = some W.rv := by rw [hW.blk.cell]; rfl
  have hm : W.ms.length ≤ 4096 := Nat.le_trans hW.many hW.most
  obtain ⟨A, cap, hrv, _, _, _, _, hat⟩ := own_form hW.row
  rw [hrv] at hc0
  replace hat := Lib.hid hat
  replace hrv := Lib.hid hrv
  replace hm1 := Lib.hid hm1
  replace hm2 := Lib.hid hm2
  clear hW hf hb
  obtain ⟨p, rv, ms, gv⟩ := W
  simp only at hN hc0 hm hat hrv hm1 hi
  go_enter Try.func38, Try.ntmps38
  go_wp2
  go_loop [12] (fun x => ∃ k : Nat, k ≤ i ∧ x = .int .i64 k) (fun x => ms.length - (intOf x).toNat)
  case atStart => exact ⟨0, Nat.zero_le _, rfl⟩
  case round =>
    obtain ⟨k, hk, rfl⟩ := hrel
    by_cases hlt : k < i
    · have hmk : ms[k]? = some ms[k] := List.getElem?_eq_getElem (by omega)
      obtain ⟨g, hA, hcell⟩ := hat.out _ _ (rowCells_n hmk)
      have hne := hN.out k hlt _ hmk
      have hb : ((ms[k].N : Int) == n) = false := by simpa using hne
      subst hA
      clear hmk hne
      go_wp2
      go_round
      case rel => exact ⟨k + 1, by omega, by go_num⟩
      case measure => simp [intOf]; omega
    · obtain rfl : k = i := by omega
      obtain ⟨g, hA, hcell⟩ := hat.out _ _ (rowCells_n hm1.out)
      rw [hm2.out] at hcell
      subst hA
      go_wp2
      go_ret2
      exact ⟨rfl, rfl⟩
set_option maxHeartbeats 400000 in
theorem add_full (W : Wr) (v : Value) (w : World) (hW : WrOk w W) (hf : W.given = 4096) :
    Calls Try.prog 37 #[.pointer (some ⟨W.p, 0, none⟩), v] w fun e w' => e = .returned (.tuple #[.int .i64 0, .int .i64 234]) ∧ w = w' := by
  have hc1 : w.cell? ⟨W.p, 1, none⟩ = some (.int .i64 4096) := by rw [hW.blk.cell, hf]; rfl
  clear hW hf
  go_enter Try.func37, Try.ntmps37
  go_wp2
  go_ret2
  exact ⟨rfl, rfl⟩

/-- What add leaves: the number, and the wire with one message more. -/
def AddP (W : Wr) (w : World) (l : List UInt8) (e : Ending) (w' : World) : Prop :=
  ∃ rv v, e = .returned (.tuple #[.int .i64 ((W.given + 1 : Nat) : Int), .int .i64 0]) ∧ Onward w W w' { W with rv := rv, ms := W.ms ++ [⟨W.given + 1, v, l⟩], given := W.given + 1 }

theorem msgCells (n : Int) (v : Value) (h : v.oneCell' = true) : ∀ u ∈ [Value.int .i64 n, v], u.oneCell' = true := by
  intro u hu
  simp only [List.mem_cons, List.not_mem_nil, or_false] at hu
  rcases hu with rfl | rfl
  · rfl
  · exact h
theorem own_one {B : Nat} {w : World} {e : TypeId} {size n : Nat} {v : Value} {xs : List Value} (h : w.ownsRow B e size v n xs) : v.oneCell' = true := by
  rcases h.2 with ⟨rfl, _⟩ | ⟨_, _, _, rfl, _⟩ <;> rfl

set_option maxRecDepth 100000 in
set_option maxHeartbeats 1000000 in
theorem add_some (W : Wr) (v : Value) (l : List UInt8) (w : World) (hW : WrOk w W) (hf : W.given < 4096) (hv : RdB w v l) (hl : l.length ≤ 1048576) (hne : v.ownBlock ≠ some W.p) :
    Calls Try.prog 37 #[.pointer (some ⟨W.p, 0, none⟩), v] w (AddP W w l) := by
  have hc0 : w.cell? ⟨W.p, 0, none⟩ = some W.rv := by rw [hW.blk.cell]; rfl
  have hc1 : w.cell? ⟨W.p, 1, none⟩ = some (.int .i64 W.given) := by rw [hW.blk.cell]; rfl
  have hfr : w.frozen? ⟨W.p, 1, none⟩ = false := hW.blk.free _ rfl
  obtain ⟨i63, hi⟩ := info_parts Try.info63
  have hu1 : Upd (fun k => k = W.p) w (w.setCell ⟨W.p, 1, none⟩ (.int .i64 (W.given + 1))) := (Upd.refl (fun k => k = W.p) w).setCell (p := ⟨W.p, 1, none⟩) (.inl rfl) _
  have hb1 : Blk (w.setCell ⟨W.p, 1, none⟩ (.int .i64 (W.given + 1))) W.p 70 #[W.rv, .int .i64 (W.given + 1)] := hW.blk.set 1 _
  have hv1 : RdB (w.setCell ⟨W.p, 1, none⟩ (.int .i64 (W.given + 1))) v l := hv.upd hu1 fun k hk hkp => hne (by rw [hk, hkp])
  have hr1 : (w.setCell ⟨W.p, 1, none⟩ (.int .i64 (W.given + 1))).ownsRow 0 63 2 W.rv W.ms.length (rowCells W.ms) := own_upd hW.row hu1 fun k hk hkp => own_blk_ne hW.row hW.blk (by decide) (by rw [hk, hkp])
  obtain ⟨p, rv, ms, gv⟩ := W
  simp only at hc0 hc1 hfr hu1 hb1 hv1 hr1 hf hne
  replace hW := Lib.hid hW
  replace hl := Lib.hid hl
  replace hne := Lib.hid hne
  replace hi := Lib.hid hi
  replace hv1 := Lib.hid hv1
  replace hr1 := Lib.hid hr1
  replace hb1 := Lib.hid hb1
  replace hu1 := Lib.hid hu1
  clear hv
  go_enter Try.func37, Try.ntmps37
  go_wp2_with fail
  generalize hw1 : w.setCell ⟨p, 1, none⟩ (.int .i64 (gv + 1)) = w1 at hu1 hb1 hv1 hr1 ⊢
  replace hw1 := Lib.hid hw1
  clear hc0 hc1 hfr
  have hd0 : w1.cell? ⟨p, 0, none⟩ = some rv := by rw [hb1.out.cell]; rfl
  have hd1 : w1.cell? ⟨p, 1, none⟩ = some (.int .i64 (gv + 1)) := by rw [hb1.out.cell]; rfl
  have hrvp : some p ≠ rv.ownBlock := fun h => own_blk_ne hr1.out hb1.out (by decide) h.symm
  have hmany : ms.length ≤ gv := hW.out.many
  replace hrvp := Lib.hid hrvp
  have hlp : p < w1.heap.size := hb1.out.lt
  have hfp : w1.frozen? ⟨p, 0, none⟩ = false := hb1.out.free _ rfl
  have hS : w1.drew.cell? ⟨p, 0, none⟩ = some rv ∧ w1.drew.cell? ⟨p, 1, none⟩ = some (.int .i64 (gv + 1)) := ⟨hd0, hd1⟩
  refine wp_region_L (n := 17) (fun w' : World => w'.cell? ⟨p, 0, none⟩ = some rv ∧ w'.cell? ⟨p, 1, none⟩ = some (.int .i64 (gv + 1))) [10, 12, 13] [0, 1, 2, 3, 4, 5, 6, 7, 8, 9, 11, 14, 15] (by kernel_rfl) rfl ?_
  refine AnyL.pure (i := 0) (v := ?_) (some 18) rfl rfl (by kernel_rfl) (by kernel_rfl) (by kernel_rfl) rfl (fun _ _ _ h => h) (by rfl) (fun ww => ?_) ?_; rotate_left; · (go_simp; (try with_reducible rfl))
  refine AnyL.pure (i := 1) (v := ?_) (some 19) rfl rfl (by kernel_rfl) (by kernel_rfl) (by kernel_rfl) rfl (fun _ _ _ h => h) (by rfl) (fun ww => ?_) ?_; rotate_left; · (go_simp; (try with_reducible rfl))
  refine AnyL.pure (i := 2) (v := ?_) (some 20) rfl rfl (by kernel_rfl) (by kernel_rfl) (by kernel_rfl) rfl (fun _ _ _ h => h) (by rfl) (fun ww => ?_) ?_; rotate_left; · (go_simp; (try with_reducible rfl))
  refine AnyL.pure (i := 3) (v := ?_) (some 21) rfl rfl (by kernel_rfl) (by kernel_rfl) (by kernel_rfl) rfl (fun _ _ _ h => h) (by rfl) (fun ww => ?_) ?_; rotate_left; · (go_simp; (try with_reducible rfl))
  refine AnyL.take (i := 4) (v := ?_) (some 22) rfl rfl (by kernel_rfl) (by kernel_rfl) (by kernel_rfl) rfl (by kernel_rfl) (fun _ _ _ h => h) (by rfl) (fun ww hww => ?_) hS ?_; rotate_left; · (obtain ⟨hs0, hs1⟩ := hww; go_simp; (try with_reducible rfl))
  refine AnyL.pure (i := 5) (v := ?_) (some 23) rfl rfl (by kernel_rfl) (by kernel_rfl) (by kernel_rfl) rfl (fun _ _ _ h => h) (by rfl) (fun ww => ?_) ?_; rotate_left; · (go_simp; (try with_reducible rfl))
  refine AnyL.pure (i := 6) (v := ?_) (some 24) rfl rfl (by kernel_rfl) (by kernel_rfl) (by kernel_rfl) rfl (fun _ _ _ h => h) (by rfl) (fun ww => ?_) ?_; rotate_left; · (go_simp; (try with_reducible rfl))
  refine AnyL.pure (i := 7) (v := ?_) (some 25) rfl rfl (by kernel_rfl) (by kernel_rfl) (by kernel_rfl) rfl (fun _ _ _ h => h) (by rfl) (fun ww => ?_) ?_; rotate_left; · (go_simp; (try with_reducible rfl))
  refine AnyL.take (i := 8) (v := ?_) (some 26) rfl rfl (by kernel_rfl) (by kernel_rfl) (by kernel_rfl) rfl (by kernel_rfl) (fun _ _ _ h => h) (by rfl) (fun ww hww => ?_) hS ?_; rotate_left; · (obtain ⟨hs0, hs1⟩ := hww; go_simp; (try with_reducible rfl))
  refine AnyL.pure (i := 9) (v := ?_) (some 27) rfl rfl (by kernel_rfl) (by kernel_rfl) (by kernel_rfl) rfl (fun _ _ _ h => h) (by rfl) (fun ww => ?_) ?_; rotate_left; · (go_simp; (try with_reducible rfl))
  simp only [Act.put, List.setIfInBounds_toArray]; try simp only [List.set_cons_zero, List.set_cons_succ]
  refine AnyL.step (i := 10) (by kernel_rfl) rfl rfl (fun K hK => ?_)
  go_simp
  refine (clone_any v l _ (by exact hv1.out) (by have := hl.out; omega)).mono ?_
  rintro e w2 ⟨v', rfl, hown, hupd⟩
  obtain ⟨A', c', rfl, -⟩ := own_form hown
  replace hupd := hupd.undrew
  replace hS := And.intro (hupd.cell_some hd0 id) (hupd.cell_some hd1 id)
  refine hK _ _ hS ?_; clear hK K
  refine AnyL.pure (i := 11) (v := ?_) (some 29) rfl rfl (by kernel_rfl) (by kernel_rfl) (by kernel_rfl) rfl (fun _ _ _ h => h) (by rfl) (fun ww => ?_) ?_; rotate_left; · (go_simp; (try with_reducible rfl))
  simp only [Act.put, List.setIfInBounds_toArray]; try simp only [List.set_cons_zero, List.set_cons_succ]
  refine AnyL.step (i := 12) (by kernel_rfl) rfl rfl (fun K hK => ?_)
  go_simp
  replace hupd := hupd.alloc (.cells #[.int .i64 (gv + 1), .slice A' l.length c'] 63)
  replace hS := And.intro (hupd.cell_some hd0 id) (hupd.cell_some hd1 id)
  refine hK _ _ hS ?_; clear hK K
  refine AnyL.step (i := 13) (by kernel_rfl) rfl rfl (fun K hK => ?_)
  refine step_app _ (by rfl) _ _ 44 (by rfl) 0 63 i63 _ 2 32 Try.underlying44 hi.out rfl (by decide) rv ms.length (rowCells ms) (by rfl) (own_upd hr1.out hupd (fun _ _ h => h)) _ 1 [.int .i64 (gv + 1), .slice A' l.length c'] (by rfl) (blk_rd (Blk.new _ _ _) 2 1 (by simp [maxLen]) rfl) (msgCells _ _ (own_one hown)) (by simp only [maxLen]; omega) (by omega) (by simp) ?_
  intro rv' w3 hown3 hgrow hat
  obtain ⟨A3, c3, rfl, -⟩ := own_form hown3
  have hf3 := grown_free hgrow (Nat.lt_of_lt_of_le hlp hupd.size) (hupd.free hlp hfp id) hrvp.out
  replace hS := And.intro (hgrow.cell (hupd.cell_some hd0 id) hrvp.out) (hgrow.cell (hupd.cell_some hd1 id) hrvp.out)
  refine hK _ _ hS ?_; clear hK K
  replace hown := Lib.hid hown; replace hown3 := Lib.hid hown3; replace hgrow := Lib.hid hgrow; replace hat := Lib.hid hat; replace hupd := Lib.hid hupd
  obtain ⟨hS0, hS1⟩ := hS
  refine AnyL.pure (i := 14) (v := ?_) (some 32) rfl rfl (by kernel_rfl) (by kernel_rfl) (by kernel_rfl) rfl (fun _ _ _ h => h) (by rfl) (fun ww => ?_) ?_; rotate_left; · (go_simp; (try with_reducible rfl))
  refine AnyL.pure (i := 15) (v := ?_) (some 33) rfl rfl (by kernel_rfl) (by kernel_rfl) (by kernel_rfl) rfl (fun _ _ _ h => h) (by rfl) (fun ww => ?_) ?_; rotate_left; · (go_simp; (try with_reducible rfl))
  simp only [Act.put, List.setIfInBounds_toArray]; try simp only [List.set_cons_zero, List.set_cons_succ]
  refine AnyL.last (i := 16) (by kernel_rfl) rfl rfl rfl (fun K hK => ?_)
  go_simp
  refine hK _ _ ?_; clear hK K
  refine AnyL.done (by kernel_rfl) ?_
  go_wp2
  go_ret2
  have hu3 := (hupd.out.of_none (fun k => rv.ownBlock = some k)).grown hgrow.out fun _ hk => .inl hk
  have hrow3 := hown3.out
  refine ⟨_, _, rfl, WrOk.grow hW.out hf hl.out hu1.out hb1.out hu3 ?_ hrow3 ?_⟩
  · refine (hown.out.upd (Upd.refl noBlk w2 |>.alloc _) fun _ _ h => h).upd (Upd.of_grown hgrow.out) fun k hk hkr => ?_
    have h1 := hown.out.ge k hk
    have h2 := (hr1.out.lt k hkr).2
    have h3 : w1.drew.heap.size = w1.heap.size := rfl
    omega
  · intro k hk
    rcases hat.out with h | h
    · exact .inl (by rw [← h]; exact hk)
    · rw [h] at hk
      injection hk with hk
      have := hupd.out.size
      exact .inr (by omega)
end Go.Proofs.Ytfnlemdlngdaiaa
