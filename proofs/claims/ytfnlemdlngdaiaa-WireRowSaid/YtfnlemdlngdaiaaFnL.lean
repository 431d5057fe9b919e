/-
  A script as memory; the law's 'begun'.
-/
import Derived.Test.YtfnlemdlngdaiaaFnK
namespace Go.Proofs.Ytfnlemdlngdaiaa
open Go.RowKit

/-- A slice that reads as this script. -/
structure ScriptAt (w : World) (v : Value) (os : List OpD) : Prop where
  form : ∃ A c, v = .slice A os.length c ∧ os.length ≤ c ∧ c ≤ maxLen ∧ ∀ (i : Nat) (o : OpD), os[i]? = some o → ∃ ad vb, A = some ad ∧
    w.cell? (ad.add (i * 5)) = some (.int .i64 o.kind) ∧ w.cell? (ad.add (i * 5 + 1)) = some (.int .i64 o.n) ∧ w.cell? (ad.add (i * 5 + 2)) = some (.int .i64 o.m) ∧ w.cell? (ad.add (i * 5 + 3)) = some (.int .i64 o.k) ∧
    w.cell? (ad.add (i * 5 + 4)) = some vb ∧ RdB w vb o.bytes ∧ o.bytes.length ≤ 140737488351232

theorem keep_old {w w' : World} (hu : Upd (fun k => ¬ older w k) w w') {p : Addr} {v : Value} (h : w.cell? p = some v) : w'.cell? p = some v :=
  hu.cell_some h fun hn => hn (World.block_lt_of_cell? w p h)
theorem RdB.old {w w' : World} {v : Value} {l : List UInt8} (h : RdB w v l) (hu : Upd (fun k => ¬ older w k) w w') : RdB w' v l := by
  obtain ⟨h0, A, c, rfl, h1, h2, h3, h4⟩ := h
  refine ⟨h0, A, c, rfl, h1, h2, h3, fun j u hj => ?_⟩
  obtain ⟨ad, rfl, hc⟩ := h4 j u hj
  exact ⟨ad, rfl, keep_old hu hc⟩
theorem ScriptAt.old {w w' : World} {v : Value} {os : List OpD} (h : ScriptAt w v os) (hu : Upd (fun k => ¬ older w k) w w') : ScriptAt w' v os := by
  obtain ⟨A, c, rfl, h1, h2, h3⟩ := h.form
  refine ⟨A, c, rfl, h1, h2, fun i o hi => ?_⟩
  obtain ⟨ad, vb, rfl, a0, a1, a2, a3, a4, a5, a6⟩ := h3 i o hi
  exact ⟨ad, vb, rfl, keep_old hu a0, keep_old hu a1, keep_old hu a2, keep_old hu a3, keep_old hu a4, a5.old hu, a6⟩

theorem add_off (ad : Addr) (n j : Nat) (hj : j ≠ 0) : ad.add (n + j) = ⟨(ad.add n).block, (ad.add n).off + j, none⟩ := by
  rw [← addr_add_add]
  unfold Addr.add
  rw [if_neg hj]

/-- A script played. -/
def WA.play (s : WA) (os : List OpD) : WA := os.foldl (fun s o => (s.doOp o).1) s

theorem play_next {s : WA} {os : List OpD} {k : Nat} {o : OpD} (h : os[k]? = some o) : s.play (os.take (k + 1)) = ((s.play (os.take k)).doOp o).1 := by
  unfold WA.play
  rw [List.take_add_one, h, List.foldl_append]
  rfl

theorem put_given (s : WA) (l : List UInt8) : (s.put l).1.given ≤ s.given + 1 := by
  unfold WA.put
  split
  · simp
  · simp [WA.add]
theorem doOp_given (s : WA) (o : OpD) : (s.doOp o).1.given ≤ s.given + 1 := by
  unfold WA.doOp WA.send WA.drop WA.copy WA.swap WA.flip WA.cut
  repeat' split
  all_goals first | exact put_given _ _ | simp [WA.gone, WA.swapped, WA.setB] | omega
theorem play_given : ∀ (s : WA) (os : List OpD), (s.play os).given ≤ s.given + os.length
  | _, [] => Nat.le_refl _
  | s, o :: os => by
    have h1 := play_given (s.doOp o).1 os
    have h2 := doOp_given s o
    unfold WA.play at h1 ⊢
    rw [List.foldl_cons, List.length_cons]
    omega
theorem five_upd (w : World) : Upd noBlk w (w.alloc (.cells #[.int .u8 1, .int .u8 2, .int .u8 3, .int .u8 4, .int .u8 5] 5)) := (Upd.refl noBlk w).alloc _
theorem five_rd (w : World) : RdB (w.alloc (.cells #[.int .u8 1, .int .u8 2, .int .u8 3, .int .u8 4, .int .u8 5] 5)) (.slice (some ⟨w.heap.size, 0, none⟩) 5 5) [1, 2, 3, 4, 5] :=
  blk_rd (Blk.new w 5 #[.int .u8 1, .int .u8 2, .int .u8 3, .int .u8 4, .int .u8 5]) 1 5 (by simp [maxLen]) rfl

/-- What 'begun' leaves: a wire behind the script, a message more at its end. -/
def BegunP (w : World) (os : List OpD) (e : Ending) (w' : World) : Prop :=
  ∃ W s, e = .returned (.tuple #[.pointer (some ⟨W.p, 0, none⟩), .int .i64 ((s.given + 1 : Nat) : Int)]) ∧ s = WA.play ⟨[], 0⟩ (os.take 4000) ∧ s.given ≤ 4000 ∧ At (older w) w' W (s.add [1, 2, 3, 4, 5]) ∧ Upd (fun k => ¬ older w k) w w'

set_option maxRecDepth 100000 in
set_option maxHeartbeats 2000000 in
theorem begun_any (v : Value) (os : List OpD) (w : World) (hs : ScriptAt w v os) : Calls Try.prog 34 #[v] w (BegunP w os) := by
  obtain ⟨A, c, rfl, hc1, hc2, hat⟩ := hs.form
  replace hs := Lib.hid hs
  replace hat := Lib.hid hat
  have hln : os.length ≤ 9223372036854775807 := by simp only [maxLen] at hc2; omega
  clear hc2
  go_enter Try.func34, Try.ntmps34
  go_wp2_with fail
  refine (new_any _).mono ?_
  rintro e w1 ⟨W1, rfl, hW, ha, hu, hge⟩
  have h1 := Lib.hid (At.new hW ha hu hge)
  have u1 := Lib.hid (hu.of_none (fun k => ¬ older w k))
  clear hW ha hu hge
  go_wp2_with fail
  go_loopw [5] (fun i wr => ∃ (k : Nat) (W : Wr), k ≤ os.length ∧ k ≤ 4000 ∧ i = .int .i64 k ∧ W.p = W1.p ∧ At (older w) wr W (WA.play ⟨[], 0⟩ (os.take k)) ∧ Upd (fun j => ¬ older w j) w wr) (fun i _ => 4000 - (intOf i).toNat)
  case atStart => exact ⟨0, W1, Nat.zero_le _, Nat.zero_le _, rfl, rfl, h1.out, u1.out⟩
  case round =>
    obtain ⟨k, W, hk1, hk2, rfl, hp, hA, hU⟩ := hrel
    replace hA := Lib.hid hA
    replace hU := Lib.hid hU
    rw [← hp]
    replace hp := Lib.hid hp
    by_cases hlt : k < os.length
    · by_cases hlt2 : k < 4000
      · obtain ⟨o, ho⟩ : ∃ o, os[k]? = some o := ⟨_, List.getElem?_eq_getElem hlt⟩
        obtain ⟨ad, vb, rfl, a0, a1, a2, a3, a4, a5, a6⟩ := hat.out k o ho
        replace a0 := keep_old hU.out a0
        replace a1 := keep_old hU.out a1
        replace a2 := keep_old hU.out a2
        replace a3 := keep_old hU.out a3
        replace a4 := keep_old hU.out a4
        rw [add_off _ _ _ (by decide)] at a1 a2 a3 a4
        replace a5 := Lib.hid (a5.old hU.out)
        replace ho := Lib.hid ho
        replace a6 := Lib.hid a6
        have hc := do_any W o vb wr hA.out.ok a5.out a6.out
        rw [hA.out.abs] at hc
        replace hc := Lib.hid hc
        go_wp2_with (go_at_call 27; refine hc.out.mono ?_; rintro e w2 ⟨bs, rv, ms, W', rfl, hon, hab, -, -⟩; replace hon := Lib.hid hon; replace hab := Lib.hid hab)
        go_roundw
        case rel =>
          refine ⟨k + 1, W', by omega, by omega, by go_num, hon.out.same, hA.out.onward hon.out ?_, hU.out.trans_same (hA.out.upd hon.out)⟩
          rw [hab.out, play_next ho.out]
        case measure => simp [intOf]; omega
      · obtain rfl : k = 4000 := by omega
        have hgv : (WA.play ⟨[], 0⟩ (os.take 4000)).given ≤ 4000 := by
          have h1 := play_given ⟨[], 0⟩ (os.take 4000)
          have h2 := List.length_take_le 4000 os
          simp only at h1
          omega
        go_wp2_with fail
        have hA2 := hA.out.none (five_upd wr)
        have hU2 := hU.out.trans_same ((five_upd wr).of_none _)
        have hc := hA2.does (send_any W _ [1, 2, 3, 4, 5] _ hA2.ok (five_rd wr) (fun hk => by have h2 := hA.out.ok.blk.lt; simp only [Value.ownBlock, Option.some.injEq] at hk; omega))
        generalize hs : WA.play ⟨[], 0⟩ (os.take 4000) = s at *
        have e1 : s.send [1, 2, 3, 4, 5] = (s.add [1, 2, 3, 4, 5], ((s.given + 1 : Nat) : Int), 0) := by
          unfold WA.send WA.put
          rw [if_neg (by simp), if_neg (by omega)]
        rw [hA2.abs, e1] at hc
        replace hs := Lib.hid hs
        replace hgv := Lib.hid hgv
        replace hU2 := Lib.hid hU2
        refine hc.mono ?_
        clear hc e1 hA2
        rintro e w3 ⟨W3, rfl, hp3, hA3, hu3⟩
        have hg1 : ¬ ((s.given : Int) + 1 < 1) := by omega
        replace hA3 := Lib.hid hA3
        replace hu3 := Lib.hid hu3
        simp only [Int.natCast_add, Int.cast_ofNat_Int]
        rw [← hp3]
        clear hp3
        go_wp2
        go_ret2
        exact ⟨W3, s, by simp, hs.out.symm, hgv.out, hA3.out, hU2.out.trans_same hu3.out⟩
    · obtain rfl : k = os.length := by omega
      have htk : os.take os.length = os.take 4000 := by rw [List.take_length, List.take_of_length_le hk2]
      have hgv : (WA.play ⟨[], 0⟩ (os.take os.length)).given ≤ 4000 := by
        have h1 := play_given ⟨[], 0⟩ (os.take os.length)
        have h2 := List.length_take_le os.length os
        simp only at h1
        omega
      rw [htk] at hA hgv
      go_wp2_with fail
      have hA2 := hA.out.none (five_upd wr)
      have hU2 := hU.out.trans_same ((five_upd wr).of_none _)
      have hc := hA2.does (send_any W _ [1, 2, 3, 4, 5] _ hA2.ok (five_rd wr) (fun hk => by have h2 := hA.out.ok.blk.lt; simp only [Value.ownBlock, Option.some.injEq] at hk; omega))
      generalize hs : WA.play ⟨[], 0⟩ (os.take 4000) = s at *
      have e1 : s.send [1, 2, 3, 4, 5] = (s.add [1, 2, 3, 4, 5], ((s.given + 1 : Nat) : Int), 0) := by
        unfold WA.send WA.put
        rw [if_neg (by simp), if_neg (by omega)]
      rw [hA2.abs, e1] at hc
      replace hs := Lib.hid hs
      replace hgv := Lib.hid hgv
      replace hU2 := Lib.hid hU2
      refine hc.mono ?_
      clear hc e1 hA2 htk
      rintro e w3 ⟨W3, rfl, hp3, hA3, hu3⟩
      have hg1 : ¬ ((s.given : Int) + 1 < 1) := by omega
      replace hA3 := Lib.hid hA3
      replace hu3 := Lib.hid hu3
      simp only [Int.natCast_add, Int.cast_ofNat_Int]
      rw [← hp3]
      clear hp3
      go_wp2
      go_ret2
      exact ⟨W3, s, by simp, hs.out.symm, hgv.out, hA3.out, hU2.out.trans_same hu3.out⟩

end Go.Proofs.Ytfnlemdlngdaiaa
