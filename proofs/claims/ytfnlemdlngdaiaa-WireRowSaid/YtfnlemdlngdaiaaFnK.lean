/-
  The law's 'sameRows'.
-/
import Derived.Test.YtfnlemdlngdaiaaFnJ
namespace Go.Proofs.Ytfnlemdlngdaiaa
open Go.RowKit

/-- A slice that reads as these messages. -/
structure RdM (w : World) (v : Value) (ms : List Msg) : Prop where
  form : ∃ A c, v = .slice A ms.length c ∧ ms.length ≤ c ∧ c ≤ maxLen ∧ (A = none → ms.length = 0) ∧
    ∀ (j : Nat) (u : Value), (rowCells ms)[j]? = some u → ∃ g o, A = some ⟨g, o, none⟩ ∧ w.cell? ⟨g, o + j, none⟩ = some u
  byt : ∀ m ∈ ms, RdB w m.v m.l

theorem OwnMs.rd {B : Nat} {w : World} {v : Value} {ms : List Msg} (h : OwnMs B w v ms) : RdM w v ms := by
  refine ⟨?_, fun m hm => (h.byt m hm).rd⟩
  obtain ⟨A, c, rfl, h1, h2, h3, _, h4⟩ := own_form h.row
  refine ⟨A, c, rfl, h1, h2, fun h => (h3 h).1, fun j u hu => ?_⟩
  obtain ⟨g, rfl, hc⟩ := h4 j u hu
  exact ⟨g, 0, rfl, by rw [Nat.zero_add]; exact hc⟩
theorem RdM.keep {w w' : World} {v : Value} {ms : List Msg} (h : RdM w v ms) (hu : Upd noBlk w w') : RdM w' v ms := by
  refine ⟨?_, fun m hm => (h.byt m hm).none hu⟩
  obtain ⟨A, c, rfl, h1, h2, h3, h4⟩ := h.form
  refine ⟨A, c, rfl, h1, h2, h3, fun j u hu' => ?_⟩
  obtain ⟨g, o, rfl, hc⟩ := h4 j u hu'
  exact ⟨g, o, rfl, hu.cell_some hc id⟩

theorem RdM.at_ {w : World} {v : Value} {ms : List Msg} (h : RdM w v ms) {k : Nat} {m : Msg} (hm : ms[k]? = some m) :
    ∃ g o c, v = .slice (some ⟨g, o, none⟩) ms.length c ∧ w.cell? ⟨g, o + k * 2, none⟩ = some (.int .i64 m.N) ∧ w.cell? ⟨g, o + k * 2 + 1, none⟩ = some m.v ∧ RdB w m.v m.l := by
  obtain ⟨A, c, rfl, h1, h2, h3, h4⟩ := h.form
  obtain ⟨g, o, rfl, hc⟩ := h4 _ _ (rowCells_n hm)
  obtain ⟨g', o', he, hc'⟩ := h4 _ _ (rowCells_v hm)
  simp only [Option.some.injEq, Addr.mk.injEq, and_true] at he
  obtain ⟨rfl, rfl⟩ := he
  exact ⟨g, o, c, rfl, hc, by rw [Nat.add_assoc]; exact hc', h.byt m (List.mem_of_getElem? hm)⟩

theorem msg_next {l m : List Msg} {k : Nat} {a b : Msg} (ht : (l.take k).map Msg.abs = (m.take k).map Msg.abs) (ha : l[k]? = some a) (hb : m[k]? = some b) (he : a.abs = b.abs) : (l.take (k + 1)).map Msg.abs = (m.take (k + 1)).map Msg.abs := by
  rw [List.take_add_one, List.take_add_one, ha, hb, List.map_append, List.map_append, ht]
  simp [he]
theorem msg_ne {l m : List Msg} {k : Nat} {a b : Msg} (ha : l[k]? = some a) (hb : m[k]? = some b) (he : a.abs ≠ b.abs) : l.map Msg.abs ≠ m.map Msg.abs := by
  intro h
  have h1 : (l.map Msg.abs)[k]? = (m.map Msg.abs)[k]? := by rw [h]
  rw [List.getElem?_map, List.getElem?_map, ha, hb] at h1
  exact he (by simpa using h1)
theorem msg_all {l m : List Msg} {k : Nat} (ht : (l.take k).map Msg.abs = (m.take k).map Msg.abs) (h : ¬ k < l.length) (hl : l.length = m.length) : l.map Msg.abs = m.map Msg.abs := by
  rwa [List.take_of_length_le (by omega), List.take_of_length_le (by omega)] at ht

set_option maxRecDepth 100000 in
set_option maxHeartbeats 400000 in
theorem rows_len (v u : Value) (l m : List Msg) (w : World) (hv : RdM w v l) (hu : RdM w u m) (hne : l.length ≠ m.length) : Calls Try.prog 35 #[v, u] w (TellsB w (decide (l.map Msg.abs = m.map Msg.abs))) := by
  obtain ⟨A, c, rfl, h1, h2, _⟩ := hv.form
  obtain ⟨A', c', rfl, h1', h2', _⟩ := hu.form
  have hb : ((l.length : Int) != (m.length : Int)) = true := by simp; omega
  have hf := Lib.hid (show decide (l.map Msg.abs = m.map Msg.abs) = false from decide_eq_false fun h => hne (by have := congrArg List.length h; simpa using this))
  clear hv hu hne
  unfold maxLen at h2 h2'
  go_enter Try.func35, Try.ntmps35
  go_wp2
  go_ret
  exact ⟨by rw [hf.out]; rfl, 0, rfl⟩

set_option maxRecDepth 100000 in
set_option maxHeartbeats 2000000 in
theorem rows_eqlen (v u : Value) (l m : List Msg) (w : World) (hv : RdM w v l) (hu : RdM w u m) (he : l.length = m.length) : Calls Try.prog 35 #[v, u] w (TellsB w (decide (l.map Msg.abs = m.map Msg.abs))) := by
  obtain ⟨A, c, rfl, h1, h2, _⟩ := hv.form
  obtain ⟨A', c', rfl, h1', h2', _⟩ := hu.form
  have hb : ((l.length : Int) != (m.length : Int)) = false := by simp; omega
  replace hv := Lib.hid hv
  replace hu := Lib.hid hu
  unfold maxLen at h2 h2'
  rw [← he] at h1' hb
  have hmlen := Lib.hid he
  go_enter Try.func35, Try.ntmps35
  rw [← he]
  go_wp2
  go_loopw [5] (fun i wr => ∃ k n : Nat, k ≤ l.length ∧ i = .int .i64 k ∧ wr = w.drewN n ∧ (l.take k).map Msg.abs = (m.take k).map Msg.abs) (fun i _ => l.length - (intOf i).toNat)
  case atStart => exact ⟨0, 0, Nat.zero_le _, rfl, rfl, by simp⟩
  case round =>
    obtain ⟨k, n, hk, rfl, rfl, htk⟩ := hrel
    replace htk := Lib.hid htk
    clear he
    by_cases hlt : k < l.length
    · obtain ⟨a, ha⟩ : ∃ a, l[k]? = some a := ⟨_, List.getElem?_eq_getElem hlt⟩
      obtain ⟨b, hb'⟩ : ∃ b, m[k]? = some b := ⟨_, List.getElem?_eq_getElem (by rw [← hmlen.out]; exact hlt)⟩
      obtain ⟨g, o, c1, he1, hc1, hc2, hra⟩ := hv.out.at_ ha
      obtain ⟨g', o', c2, he2, hd1, hd2, hrb⟩ := hu.out.at_ hb'
      simp only [Value.slice.injEq, true_and] at he1
      obtain ⟨rfl, rfl⟩ := he1
      obtain ⟨rfl, -, rfl⟩ : A' = some ⟨g', o', none⟩ ∧ m.length = m.length ∧ c' = c2 := by simpa using he2
      replace ha := Lib.hid ha
      replace hb' := Lib.hid hb'
      replace hra := Lib.hid hra
      replace hrb := Lib.hid hrb
      by_cases hN : a.N = b.N
      · rw [← hN] at hd1
        by_cases hbe : a.l = b.l
        · have hdec : decide (a.l = b.l) = true := decide_eq_true hbe
          replace hN := Lib.hid hN
          replace hbe := Lib.hid hbe
          replace hdec := Lib.hid hdec
          go_wp2_with fail
          have hS : (w.drewN n).drew.cell? ⟨g, o + k * 2, none⟩ = some (.int .i64 a.N) ∧ (w.drewN n).drew.cell? ⟨g', o' + k * 2, none⟩ = some (.int .i64 a.N) ∧ (w.drewN n).drew.cell? ⟨g, o + k * 2 + 1, none⟩ = some a.v ∧ (w.drewN n).drew.cell? ⟨g', o' + k * 2 + 1, none⟩ = some b.v := ⟨hc1, hd1, hc2, hd2⟩
          refine wp_region_L (n := 25) (fun w : World => w.cell? ⟨g, o + k * 2, none⟩ = some (.int .i64 a.N) ∧ w.cell? ⟨g', o' + k * 2, none⟩ = some (.int .i64 a.N) ∧ w.cell? ⟨g, o + k * 2 + 1, none⟩ = some a.v ∧ w.cell? ⟨g', o' + k * 2 + 1, none⟩ = some b.v) [22] [0, 1, 2, 3, 4, 5, 6, 7, 8, 9, 10, 11, 12, 13, 14, 15, 16, 17, 18, 19, 20, 21, 23, 24] (by kernel_rfl) rfl ?_
          refine AnyL.pure (i := 0) (v := ?_) (some 17) rfl rfl (by kernel_rfl) (by kernel_rfl) (by kernel_rfl) rfl (fun _ _ _ h => h) (by rfl) (fun ww => ?_) ?_; rotate_left; · (go_simp; (try with_reducible rfl))
          refine AnyL.pure (i := 1) (v := ?_) (some 18) rfl rfl (by kernel_rfl) (by kernel_rfl) (by kernel_rfl) rfl (fun _ _ _ h => h) (by rfl) (fun ww => ?_) ?_; rotate_left; · (go_simp; (try with_reducible rfl))
          refine AnyL.pure (i := 2) (v := ?_) (some 19) rfl rfl (by kernel_rfl) (by kernel_rfl) (by kernel_rfl) rfl (fun _ _ _ h => h) (by rfl) (fun ww => ?_) ?_; rotate_left; · (go_simp; (try with_reducible rfl))
          refine AnyL.pure (i := 3) (v := ?_) (some 20) rfl rfl (by kernel_rfl) (by kernel_rfl) (by kernel_rfl) rfl (fun _ _ _ h => h) (by rfl) (fun ww => ?_) ?_; rotate_left; · (go_simp; (try with_reducible rfl))
          refine AnyL.take (i := 4) (v := ?_) (some 21) rfl rfl (by kernel_rfl) (by kernel_rfl) (by kernel_rfl) rfl (by kernel_rfl) (fun _ _ _ h => h) (by rfl) (fun ww hww => ?_) hS ?_; rotate_left; · (obtain ⟨hs0, hs1, hs2, hs3⟩ := hww; go_simp; (try with_reducible rfl))
          refine AnyL.pure (i := 5) (v := ?_) (some 22) rfl rfl (by kernel_rfl) (by kernel_rfl) (by kernel_rfl) rfl (fun _ _ _ h => h) (by rfl) (fun ww => ?_) ?_; rotate_left; · (go_simp; (try with_reducible rfl))
          refine AnyL.pure (i := 6) (v := ?_) (some 23) rfl rfl (by kernel_rfl) (by kernel_rfl) (by kernel_rfl) rfl (fun _ _ _ h => h) (by rfl) (fun ww => ?_) ?_; rotate_left; · (go_simp; (try with_reducible rfl))
          refine AnyL.pure (i := 7) (v := ?_) (some 24) rfl rfl (by kernel_rfl) (by kernel_rfl) (by kernel_rfl) rfl (fun _ _ _ h => h) (by rfl) (fun ww => ?_) ?_; rotate_left; · (go_simp; (try with_reducible rfl))
          refine AnyL.pure (i := 8) (v := ?_) (some 25) rfl rfl (by kernel_rfl) (by kernel_rfl) (by kernel_rfl) rfl (fun _ _ _ h => h) (by rfl) (fun ww => ?_) ?_; rotate_left; · (go_simp; (try with_reducible rfl))
          refine AnyL.take (i := 9) (v := ?_) (some 26) rfl rfl (by kernel_rfl) (by kernel_rfl) (by kernel_rfl) rfl (by kernel_rfl) (fun _ _ _ h => h) (by rfl) (fun ww hww => ?_) hS ?_; rotate_left; · (obtain ⟨hs0, hs1, hs2, hs3⟩ := hww; go_simp; (try with_reducible rfl))
          refine AnyL.pure (i := 10) (v := ?_) (some 27) rfl rfl (by kernel_rfl) (by kernel_rfl) (by kernel_rfl) rfl (fun _ _ _ h => h) (by rfl) (fun ww => ?_) ?_; rotate_left; · (go_simp; (try with_reducible rfl))
          refine AnyL.pure (i := 11) (v := ?_) (some 28) rfl rfl (by kernel_rfl) (by kernel_rfl) (by kernel_rfl) rfl (fun _ _ _ h => h) (by rfl) (fun ww => ?_) ?_; rotate_left; · (go_simp; (try with_reducible rfl))
          simp only [Act.put, List.setIfInBounds_toArray]; try simp only [List.set_cons_zero, List.set_cons_succ]
          refine AnyL.pure (i := 12) (v := ?_) (some 29) rfl rfl (by kernel_rfl) (by kernel_rfl) (by kernel_rfl) rfl (fun _ _ _ h => h) (by kernel_rfl) (fun ww => ?_) ?_; rotate_left; · (go_simp; (try with_reducible rfl))
          simp only [Act.put, List.setIfInBounds_toArray]; try simp only [List.set_cons_zero, List.set_cons_succ]
          refine AnyL.pure (i := 13) (v := ?_) (some 30) rfl rfl (by kernel_rfl) (by kernel_rfl) (by kernel_rfl) rfl (fun _ _ _ h => h) (by kernel_rfl) (fun ww => ?_) ?_; rotate_left; · (go_simp; (try with_reducible rfl))
          simp only [Act.put, List.setIfInBounds_toArray]; try simp only [List.set_cons_zero, List.set_cons_succ]
          refine AnyL.pure (i := 14) (v := ?_) (some 31) rfl rfl (by kernel_rfl) (by kernel_rfl) (by kernel_rfl) rfl (fun _ _ _ h => h) (by kernel_rfl) (fun ww => ?_) ?_; rotate_left; · (go_simp; (try with_reducible rfl))
          simp only [Act.put, List.setIfInBounds_toArray]; try simp only [List.set_cons_zero, List.set_cons_succ]
          refine AnyL.pure (i := 15) (v := ?_) (some 32) rfl rfl (by kernel_rfl) (by kernel_rfl) (by kernel_rfl) rfl (fun _ _ _ h => h) (by kernel_rfl) (fun ww => ?_) ?_; rotate_left; · (go_simp; (try with_reducible rfl))
          simp only [Act.put, List.setIfInBounds_toArray]; try simp only [List.set_cons_zero, List.set_cons_succ]
          refine AnyL.take (i := 16) (v := ?_) (some 33) rfl rfl (by kernel_rfl) (by kernel_rfl) (by kernel_rfl) rfl (by kernel_rfl) (fun _ _ _ h => h) (by kernel_rfl) (fun ww hww => ?_) hS ?_; rotate_left; · (obtain ⟨hs0, hs1, hs2, hs3⟩ := hww; go_simp; (try with_reducible rfl))
          simp only [Act.put, List.setIfInBounds_toArray]; try simp only [List.set_cons_zero, List.set_cons_succ]
          refine AnyL.pure (i := 17) (v := ?_) (some 34) rfl rfl (by kernel_rfl) (by kernel_rfl) (by kernel_rfl) rfl (fun _ _ _ h => h) (by kernel_rfl) (fun ww => ?_) ?_; rotate_left; · (go_simp; (try with_reducible rfl))
          simp only [Act.put, List.setIfInBounds_toArray]; try simp only [List.set_cons_zero, List.set_cons_succ]
          refine AnyL.pure (i := 18) (v := ?_) (some 35) rfl rfl (by kernel_rfl) (by kernel_rfl) (by kernel_rfl) rfl (fun _ _ _ h => h) (by kernel_rfl) (fun ww => ?_) ?_; rotate_left; · (go_simp; (try with_reducible rfl))
          simp only [Act.put, List.setIfInBounds_toArray]; try simp only [List.set_cons_zero, List.set_cons_succ]
          refine AnyL.pure (i := 19) (v := ?_) (some 36) rfl rfl (by kernel_rfl) (by kernel_rfl) (by kernel_rfl) rfl (fun _ _ _ h => h) (by kernel_rfl) (fun ww => ?_) ?_; rotate_left; · (go_simp; (try with_reducible rfl))
          simp only [Act.put, List.setIfInBounds_toArray]; try simp only [List.set_cons_zero, List.set_cons_succ]
          refine AnyL.pure (i := 20) (v := ?_) (some 37) rfl rfl (by kernel_rfl) (by kernel_rfl) (by kernel_rfl) rfl (fun _ _ _ h => h) (by kernel_rfl) (fun ww => ?_) ?_; rotate_left; · (go_simp; (try with_reducible rfl))
          simp only [Act.put, List.setIfInBounds_toArray]; try simp only [List.set_cons_zero, List.set_cons_succ]
          refine AnyL.take (i := 21) (v := ?_) (some 38) rfl rfl (by kernel_rfl) (by kernel_rfl) (by kernel_rfl) rfl (by kernel_rfl) (fun _ _ _ h => h) (by kernel_rfl) (fun ww hww => ?_) hS ?_; rotate_left; · (obtain ⟨hs0, hs1, hs2, hs3⟩ := hww; go_simp; (try with_reducible rfl))
          simp only [Act.put, List.setIfInBounds_toArray]; try simp only [List.set_cons_zero, List.set_cons_succ]
          refine AnyL.step (i := 22) (by kernel_rfl) rfl rfl (fun K hK => ?_)
          go_simp
          refine (same_any a.v b.v a.l b.l _ (by exact hra.out) (by exact hrb.out)).mono ?_
          rintro e w2 ⟨rfl, q, rfl⟩
          rw [hdec.out]
          refine hK _ _ ⟨hc1, hd1, hc2, hd2⟩ ?_; clear hK K
          replace hS : ((w.drewN n).drew.drewN q).cell? ⟨g, o + k * 2, none⟩ = some (.int .i64 a.N) ∧ ((w.drewN n).drew.drewN q).cell? ⟨g', o' + k * 2, none⟩ = some (.int .i64 a.N) ∧ ((w.drewN n).drew.drewN q).cell? ⟨g, o + k * 2 + 1, none⟩ = some a.v ∧ ((w.drewN n).drew.drewN q).cell? ⟨g', o' + k * 2 + 1, none⟩ = some b.v := ⟨hc1, hd1, hc2, hd2⟩
          refine AnyL.pure (i := 23) (v := ?_) (some 40) rfl rfl (by kernel_rfl) (by kernel_rfl) (by kernel_rfl) rfl (fun _ _ _ h => h) (by kernel_rfl) (fun ww => ?_) ?_; rotate_left; · (go_simp; (try with_reducible rfl))
          refine AnyL.pure (i := 24) (v := ?_) (some 41) rfl rfl (by kernel_rfl) (by kernel_rfl) (by kernel_rfl) rfl (fun _ _ _ h => h) (by rfl) (fun ww => ?_) ?_; rotate_left; · (go_simp; (try with_reducible rfl))
          refine AnyL.done (by kernel_rfl) ?_
          go_wp2
          go_roundw
          case rel => exact ⟨k + 1, n + 1 + q, by omega, by go_num, rfl, msg_next htk.out ha.out hb'.out (by unfold Msg.abs; rw [hN.out, hbe.out])⟩
          case measure => simp [intOf]; omega
        · have hdec : decide (a.l = b.l) = false := decide_eq_false hbe
          replace hN := Lib.hid hN
          replace hbe := Lib.hid hbe
          replace hdec := Lib.hid hdec
          go_wp2_with fail
          have hS : (w.drewN n).drew.cell? ⟨g, o + k * 2, none⟩ = some (.int .i64 a.N) ∧ (w.drewN n).drew.cell? ⟨g', o' + k * 2, none⟩ = some (.int .i64 a.N) ∧ (w.drewN n).drew.cell? ⟨g, o + k * 2 + 1, none⟩ = some a.v ∧ (w.drewN n).drew.cell? ⟨g', o' + k * 2 + 1, none⟩ = some b.v := ⟨hc1, hd1, hc2, hd2⟩
          refine wp_region_L (n := 25) (fun w : World => w.cell? ⟨g, o + k * 2, none⟩ = some (.int .i64 a.N) ∧ w.cell? ⟨g', o' + k * 2, none⟩ = some (.int .i64 a.N) ∧ w.cell? ⟨g, o + k * 2 + 1, none⟩ = some a.v ∧ w.cell? ⟨g', o' + k * 2 + 1, none⟩ = some b.v) [22] [0, 1, 2, 3, 4, 5, 6, 7, 8, 9, 10, 11, 12, 13, 14, 15, 16, 17, 18, 19, 20, 21, 23, 24] (by kernel_rfl) rfl ?_
          refine AnyL.pure (i := 0) (v := ?_) (some 17) rfl rfl (by kernel_rfl) (by kernel_rfl) (by kernel_rfl) rfl (fun _ _ _ h => h) (by rfl) (fun ww => ?_) ?_; rotate_left; · (go_simp; (try with_reducible rfl))
          refine AnyL.pure (i := 1) (v := ?_) (some 18) rfl rfl (by kernel_rfl) (by kernel_rfl) (by kernel_rfl) rfl (fun _ _ _ h => h) (by rfl) (fun ww => ?_) ?_; rotate_left; · (go_simp; (try with_reducible rfl))
          refine AnyL.pure (i := 2) (v := ?_) (some 19) rfl rfl (by kernel_rfl) (by kernel_rfl) (by kernel_rfl) rfl (fun _ _ _ h => h) (by rfl) (fun ww => ?_) ?_; rotate_left; · (go_simp; (try with_reducible rfl))
          refine AnyL.pure (i := 3) (v := ?_) (some 20) rfl rfl (by kernel_rfl) (by kernel_rfl) (by kernel_rfl) rfl (fun _ _ _ h => h) (by rfl) (fun ww => ?_) ?_; rotate_left; · (go_simp; (try with_reducible rfl))
          refine AnyL.take (i := 4) (v := ?_) (some 21) rfl rfl (by kernel_rfl) (by kernel_rfl) (by kernel_rfl) rfl (by kernel_rfl) (fun _ _ _ h => h) (by rfl) (fun ww hww => ?_) hS ?_; rotate_left; · (obtain ⟨hs0, hs1, hs2, hs3⟩ := hww; go_simp; (try with_reducible rfl))
          refine AnyL.pure (i := 5) (v := ?_) (some 22) rfl rfl (by kernel_rfl) (by kernel_rfl) (by kernel_rfl) rfl (fun _ _ _ h => h) (by rfl) (fun ww => ?_) ?_; rotate_left; · (go_simp; (try with_reducible rfl))
          refine AnyL.pure (i := 6) (v := ?_) (some 23) rfl rfl (by kernel_rfl) (by kernel_rfl) (by kernel_rfl) rfl (fun _ _ _ h => h) (by rfl) (fun ww => ?_) ?_; rotate_left; · (go_simp; (try with_reducible rfl))
          refine AnyL.pure (i := 7) (v := ?_) (some 24) rfl rfl (by kernel_rfl) (by kernel_rfl) (by kernel_rfl) rfl (fun _ _ _ h => h) (by rfl) (fun ww => ?_) ?_; rotate_left; · (go_simp; (try with_reducible rfl))
          refine AnyL.pure (i := 8) (v := ?_) (some 25) rfl rfl (by kernel_rfl) (by kernel_rfl) (by kernel_rfl) rfl (fun _ _ _ h => h) (by rfl) (fun ww => ?_) ?_; rotate_left; · (go_simp; (try with_reducible rfl))
          refine AnyL.take (i := 9) (v := ?_) (some 26) rfl rfl (by kernel_rfl) (by kernel_rfl) (by kernel_rfl) rfl (by kernel_rfl) (fun _ _ _ h => h) (by rfl) (fun ww hww => ?_) hS ?_; rotate_left; · (obtain ⟨hs0, hs1, hs2, hs3⟩ := hww; go_simp; (try with_reducible rfl))
          refine AnyL.pure (i := 10) (v := ?_) (some 27) rfl rfl (by kernel_rfl) (by kernel_rfl) (by kernel_rfl) rfl (fun _ _ _ h => h) (by rfl) (fun ww => ?_) ?_; rotate_left; · (go_simp; (try with_reducible rfl))
          refine AnyL.pure (i := 11) (v := ?_) (some 28) rfl rfl (by kernel_rfl) (by kernel_rfl) (by kernel_rfl) rfl (fun _ _ _ h => h) (by rfl) (fun ww => ?_) ?_; rotate_left; · (go_simp; (try with_reducible rfl))
          simp only [Act.put, List.setIfInBounds_toArray]; try simp only [List.set_cons_zero, List.set_cons_succ]
          refine AnyL.pure (i := 12) (v := ?_) (some 29) rfl rfl (by kernel_rfl) (by kernel_rfl) (by kernel_rfl) rfl (fun _ _ _ h => h) (by kernel_rfl) (fun ww => ?_) ?_; rotate_left; · (go_simp; (try with_reducible rfl))
          simp only [Act.put, List.setIfInBounds_toArray]; try simp only [List.set_cons_zero, List.set_cons_succ]
          refine AnyL.pure (i := 13) (v := ?_) (some 30) rfl rfl (by kernel_rfl) (by kernel_rfl) (by kernel_rfl) rfl (fun _ _ _ h => h) (by kernel_rfl) (fun ww => ?_) ?_; rotate_left; · (go_simp; (try with_reducible rfl))
          simp only [Act.put, List.setIfInBounds_toArray]; try simp only [List.set_cons_zero, List.set_cons_succ]
          refine AnyL.pure (i := 14) (v := ?_) (some 31) rfl rfl (by kernel_rfl) (by kernel_rfl) (by kernel_rfl) rfl (fun _ _ _ h => h) (by kernel_rfl) (fun ww => ?_) ?_; rotate_left; · (go_simp; (try with_reducible rfl))
          simp only [Act.put, List.setIfInBounds_toArray]; try simp only [List.set_cons_zero, List.set_cons_succ]
          refine AnyL.pure (i := 15) (v := ?_) (some 32) rfl rfl (by kernel_rfl) (by kernel_rfl) (by kernel_rfl) rfl (fun _ _ _ h => h) (by kernel_rfl) (fun ww => ?_) ?_; rotate_left; · (go_simp; (try with_reducible rfl))
          simp only [Act.put, List.setIfInBounds_toArray]; try simp only [List.set_cons_zero, List.set_cons_succ]
          refine AnyL.take (i := 16) (v := ?_) (some 33) rfl rfl (by kernel_rfl) (by kernel_rfl) (by kernel_rfl) rfl (by kernel_rfl) (fun _ _ _ h => h) (by kernel_rfl) (fun ww hww => ?_) hS ?_; rotate_left; · (obtain ⟨hs0, hs1, hs2, hs3⟩ := hww; go_simp; (try with_reducible rfl))
          simp only [Act.put, List.setIfInBounds_toArray]; try simp only [List.set_cons_zero, List.set_cons_succ]
          refine AnyL.pure (i := 17) (v := ?_) (some 34) rfl rfl (by kernel_rfl) (by kernel_rfl) (by kernel_rfl) rfl (fun _ _ _ h => h) (by kernel_rfl) (fun ww => ?_) ?_; rotate_left; · (go_simp; (try with_reducible rfl))
          simp only [Act.put, List.setIfInBounds_toArray]; try simp only [List.set_cons_zero, List.set_cons_succ]
          refine AnyL.pure (i := 18) (v := ?_) (some 35) rfl rfl (by kernel_rfl) (by kernel_rfl) (by kernel_rfl) rfl (fun _ _ _ h => h) (by kernel_rfl) (fun ww => ?_) ?_; rotate_left; · (go_simp; (try with_reducible rfl))
          simp only [Act.put, List.setIfInBounds_toArray]; try simp only [List.set_cons_zero, List.set_cons_succ]
          refine AnyL.pure (i := 19) (v := ?_) (some 36) rfl rfl (by kernel_rfl) (by kernel_rfl) (by kernel_rfl) rfl (fun _ _ _ h => h) (by kernel_rfl) (fun ww => ?_) ?_; rotate_left; · (go_simp; (try with_reducible rfl))
          simp only [Act.put, List.setIfInBounds_toArray]; try simp only [List.set_cons_zero, List.set_cons_succ]
          refine AnyL.pure (i := 20) (v := ?_) (some 37) rfl rfl (by kernel_rfl) (by kernel_rfl) (by kernel_rfl) rfl (fun _ _ _ h => h) (by kernel_rfl) (fun ww => ?_) ?_; rotate_left; · (go_simp; (try with_reducible rfl))
          simp only [Act.put, List.setIfInBounds_toArray]; try simp only [List.set_cons_zero, List.set_cons_succ]
          refine AnyL.take (i := 21) (v := ?_) (some 38) rfl rfl (by kernel_rfl) (by kernel_rfl) (by kernel_rfl) rfl (by kernel_rfl) (fun _ _ _ h => h) (by kernel_rfl) (fun ww hww => ?_) hS ?_; rotate_left; · (obtain ⟨hs0, hs1, hs2, hs3⟩ := hww; go_simp; (try with_reducible rfl))
          simp only [Act.put, List.setIfInBounds_toArray]; try simp only [List.set_cons_zero, List.set_cons_succ]
          refine AnyL.step (i := 22) (by kernel_rfl) rfl rfl (fun K hK => ?_)
          go_simp
          refine (same_any a.v b.v a.l b.l _ (by exact hra.out) (by exact hrb.out)).mono ?_
          rintro e w2 ⟨rfl, q, rfl⟩
          rw [hdec.out]
          refine hK _ _ ⟨hc1, hd1, hc2, hd2⟩ ?_; clear hK K
          replace hS : ((w.drewN n).drew.drewN q).cell? ⟨g, o + k * 2, none⟩ = some (.int .i64 a.N) ∧ ((w.drewN n).drew.drewN q).cell? ⟨g', o' + k * 2, none⟩ = some (.int .i64 a.N) ∧ ((w.drewN n).drew.drewN q).cell? ⟨g, o + k * 2 + 1, none⟩ = some a.v ∧ ((w.drewN n).drew.drewN q).cell? ⟨g', o' + k * 2 + 1, none⟩ = some b.v := ⟨hc1, hd1, hc2, hd2⟩
          refine AnyL.pure (i := 23) (v := ?_) (some 40) rfl rfl (by kernel_rfl) (by kernel_rfl) (by kernel_rfl) rfl (fun _ _ _ h => h) (by kernel_rfl) (fun ww => ?_) ?_; rotate_left; · (go_simp; (try with_reducible rfl))
          refine AnyL.pure (i := 24) (v := ?_) (some 41) rfl rfl (by kernel_rfl) (by kernel_rfl) (by kernel_rfl) rfl (fun _ _ _ h => h) (by rfl) (fun ww => ?_) ?_; rotate_left; · (go_simp; (try with_reducible rfl))
          refine AnyL.done (by kernel_rfl) ?_
          go_wp2
          go_ret
          exact ⟨by rw [decide_eq_false (msg_ne ha.out hb'.out fun h => hbe.out (congrArg Prod.snd h))]; rfl, n + 1 + q, rfl⟩
      · have hq : ((a.N : Int) != (b.N : Int)) = true := by simp; omega
        go_wp2_with fail
        have hS : (w.drewN n).drew.cell? ⟨g, o + k * 2, none⟩ = some (.int .i64 a.N) ∧ (w.drewN n).drew.cell? ⟨g', o' + k * 2, none⟩ = some (.int .i64 b.N) := ⟨hc1, hd1⟩
        refine wp_region_L (n := 25) (fun w : World => w.cell? ⟨g, o + k * 2, none⟩ = some (.int .i64 a.N) ∧ w.cell? ⟨g', o' + k * 2, none⟩ = some (.int .i64 b.N)) [] [0, 1, 2, 3, 4, 5, 6, 7, 8, 9, 10, 11, 12, 13, 14, 15, 16, 17, 18, 19, 20, 21, 22, 23, 24] (by kernel_rfl) rfl ?_
        refine AnyL.pure (i := 0) (v := ?_) (some 17) rfl rfl (by kernel_rfl) (by kernel_rfl) (by kernel_rfl) rfl (fun _ _ _ h => h) (by rfl) (fun ww => ?_) ?_; rotate_left; · (go_simp; (try with_reducible rfl))
        refine AnyL.pure (i := 1) (v := ?_) (some 18) rfl rfl (by kernel_rfl) (by kernel_rfl) (by kernel_rfl) rfl (fun _ _ _ h => h) (by rfl) (fun ww => ?_) ?_; rotate_left; · (go_simp; (try with_reducible rfl))
        refine AnyL.pure (i := 2) (v := ?_) (some 19) rfl rfl (by kernel_rfl) (by kernel_rfl) (by kernel_rfl) rfl (fun _ _ _ h => h) (by rfl) (fun ww => ?_) ?_; rotate_left; · (go_simp; (try with_reducible rfl))
        refine AnyL.pure (i := 3) (v := ?_) (some 20) rfl rfl (by kernel_rfl) (by kernel_rfl) (by kernel_rfl) rfl (fun _ _ _ h => h) (by rfl) (fun ww => ?_) ?_; rotate_left; · (go_simp; (try with_reducible rfl))
        refine AnyL.take (i := 4) (v := ?_) (some 21) rfl rfl (by kernel_rfl) (by kernel_rfl) (by kernel_rfl) rfl (by kernel_rfl) (fun _ _ _ h => h) (by rfl) (fun ww hww => ?_) hS ?_; rotate_left; · (obtain ⟨hs0, hs1⟩ := hww; go_simp; (try with_reducible rfl))
        refine AnyL.pure (i := 5) (v := ?_) (some 22) rfl rfl (by kernel_rfl) (by kernel_rfl) (by kernel_rfl) rfl (fun _ _ _ h => h) (by rfl) (fun ww => ?_) ?_; rotate_left; · (go_simp; (try with_reducible rfl))
        refine AnyL.pure (i := 6) (v := ?_) (some 23) rfl rfl (by kernel_rfl) (by kernel_rfl) (by kernel_rfl) rfl (fun _ _ _ h => h) (by rfl) (fun ww => ?_) ?_; rotate_left; · (go_simp; (try with_reducible rfl))
        refine AnyL.pure (i := 7) (v := ?_) (some 24) rfl rfl (by kernel_rfl) (by kernel_rfl) (by kernel_rfl) rfl (fun _ _ _ h => h) (by rfl) (fun ww => ?_) ?_; rotate_left; · (go_simp; (try with_reducible rfl))
        refine AnyL.pure (i := 8) (v := ?_) (some 25) rfl rfl (by kernel_rfl) (by kernel_rfl) (by kernel_rfl) rfl (fun _ _ _ h => h) (by rfl) (fun ww => ?_) ?_; rotate_left; · (go_simp; (try with_reducible rfl))
        refine AnyL.take (i := 9) (v := ?_) (some 26) rfl rfl (by kernel_rfl) (by kernel_rfl) (by kernel_rfl) rfl (by kernel_rfl) (fun _ _ _ h => h) (by rfl) (fun ww hww => ?_) hS ?_; rotate_left; · (obtain ⟨hs0, hs1⟩ := hww; go_simp; (try with_reducible rfl))
        refine AnyL.pure (i := 10) (v := ?_) (some 27) rfl rfl (by kernel_rfl) (by kernel_rfl) (by kernel_rfl) rfl (fun _ _ _ h => h) (by rfl) (fun ww => ?_) ?_; rotate_left; · (go_simp; (try with_reducible rfl))
        refine AnyL.pure (i := 11) (v := ?_) (some 28) rfl rfl (by kernel_rfl) (by kernel_rfl) (by kernel_rfl) rfl (fun _ _ _ h => h) (by rfl) (fun ww => ?_) ?_; rotate_left; · (go_simp; (try with_reducible rfl))
        simp only [Act.put, List.setIfInBounds_toArray]; try simp only [List.set_cons_zero, List.set_cons_succ]
        refine AnyL.pass (i := 12) (some 29) rfl rfl (by kernel_rfl) (by kernel_rfl) (by kernel_rfl) rfl (fun _ _ _ h => h) (by kernel_rfl) ?_
        simp only [Act.put, List.setIfInBounds_toArray]; try simp only [List.set_cons_zero, List.set_cons_succ]
        refine AnyL.pass (i := 13) (some 30) rfl rfl (by kernel_rfl) (by kernel_rfl) (by kernel_rfl) rfl (fun _ _ _ h => h) (by kernel_rfl) ?_
        simp only [Act.put, List.setIfInBounds_toArray]; try simp only [List.set_cons_zero, List.set_cons_succ]
        refine AnyL.pass (i := 14) (some 31) rfl rfl (by kernel_rfl) (by kernel_rfl) (by kernel_rfl) rfl (fun _ _ _ h => h) (by kernel_rfl) ?_
        simp only [Act.put, List.setIfInBounds_toArray]; try simp only [List.set_cons_zero, List.set_cons_succ]
        refine AnyL.pass (i := 15) (some 32) rfl rfl (by kernel_rfl) (by kernel_rfl) (by kernel_rfl) rfl (fun _ _ _ h => h) (by kernel_rfl) ?_
        simp only [Act.put, List.setIfInBounds_toArray]; try simp only [List.set_cons_zero, List.set_cons_succ]
        refine AnyL.pass (i := 16) (some 33) rfl rfl (by kernel_rfl) (by kernel_rfl) (by kernel_rfl) rfl (fun _ _ _ h => h) (by kernel_rfl) ?_
        simp only [Act.put, List.setIfInBounds_toArray]; try simp only [List.set_cons_zero, List.set_cons_succ]
        refine AnyL.pass (i := 17) (some 34) rfl rfl (by kernel_rfl) (by kernel_rfl) (by kernel_rfl) rfl (fun _ _ _ h => h) (by kernel_rfl) ?_
        simp only [Act.put, List.setIfInBounds_toArray]; try simp only [List.set_cons_zero, List.set_cons_succ]
        refine AnyL.pass (i := 18) (some 35) rfl rfl (by kernel_rfl) (by kernel_rfl) (by kernel_rfl) rfl (fun _ _ _ h => h) (by kernel_rfl) ?_
        simp only [Act.put, List.setIfInBounds_toArray]; try simp only [List.set_cons_zero, List.set_cons_succ]
        refine AnyL.pass (i := 19) (some 36) rfl rfl (by kernel_rfl) (by kernel_rfl) (by kernel_rfl) rfl (fun _ _ _ h => h) (by kernel_rfl) ?_
        simp only [Act.put, List.setIfInBounds_toArray]; try simp only [List.set_cons_zero, List.set_cons_succ]
        refine AnyL.pass (i := 20) (some 37) rfl rfl (by kernel_rfl) (by kernel_rfl) (by kernel_rfl) rfl (fun _ _ _ h => h) (by kernel_rfl) ?_
        simp only [Act.put, List.setIfInBounds_toArray]; try simp only [List.set_cons_zero, List.set_cons_succ]
        refine AnyL.pass (i := 21) (some 38) rfl rfl (by kernel_rfl) (by kernel_rfl) (by kernel_rfl) rfl (fun _ _ _ h => h) (by kernel_rfl) ?_
        simp only [Act.put, List.setIfInBounds_toArray]; try simp only [List.set_cons_zero, List.set_cons_succ]
        refine AnyL.pass (i := 22) (some 39) rfl rfl (by kernel_rfl) (by kernel_rfl) (by kernel_rfl) rfl (fun _ _ _ h => h) (by kernel_rfl) ?_
        simp only [Act.put, List.setIfInBounds_toArray]; try simp only [List.set_cons_zero, List.set_cons_succ]
        refine AnyL.pass (i := 23) (some 40) rfl rfl (by kernel_rfl) (by kernel_rfl) (by kernel_rfl) rfl (fun _ _ _ h => h) (by kernel_rfl) ?_
        refine AnyL.pure (i := 24) (v := ?_) (some 41) rfl rfl (by kernel_rfl) (by kernel_rfl) (by kernel_rfl) rfl (fun _ _ _ h => h) (by rfl) (fun ww => ?_) ?_; rotate_left; · (go_simp; (try with_reducible rfl))
        refine AnyL.done (by kernel_rfl) ?_
        go_wp2
        go_ret
        exact ⟨by rw [decide_eq_false (msg_ne ha.out hb'.out fun h => hN (congrArg Prod.fst h))]; rfl, n + 1, rfl⟩
    · go_wp2
      go_ret
      exact ⟨by rw [decide_eq_true (msg_all htk.out hlt hmlen.out)]; rfl, _, rfl⟩

theorem rows_any (v u : Value) (l m : List Msg) (w : World) (hv : RdM w v l) (hu : RdM w u m) : Calls Try.prog 35 #[v, u] w (TellsB w (decide (l.map Msg.abs = m.map Msg.abs))) := by
  by_cases he : l.length = m.length
  · exact rows_eqlen v u l m w hv hu he
  · exact rows_len v u l m w hv hu he

end Go.Proofs.Ytfnlemdlngdaiaa
