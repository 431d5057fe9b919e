/-
  WireFull: just 4096 numbers are given.
-/
import Derived.Test.YtfnlemdlngdaiaaLawB
import Derived.Lib.SlBytesConst
namespace Go.Proofs.Ytfnlemdlngdaiaa
open Go.RowKit

/-- The last message is number k, with the byte x; the others have lesser numbers. -/
def LastX (s : WA) (k : Nat) : Prop := s.given = k ∧ ∃ pre, s.row = pre ++ [(k, [120])] ∧ ∀ m ∈ pre, m.1 < k

theorem findIdx_last {pre post : List (Nat × List UInt8)} {k : Nat} {b : List UInt8} (h : ∀ m ∈ pre, m.1 < k) : (pre ++ (k, b) :: post).findIdx? (fun m => (m.1 : Int) == (k : Int)) = some pre.length := by
  induction pre with
  | nil => simp [List.findIdx?_cons]
  | cons a pre ih =>
    have h1 := h a (by simp)
    have h2 : ((a.1 : Int) == (k : Int)) = false := by simp; omega
    rw [List.cons_append, List.findIdx?_cons, h2, ih fun m hm => h m (by simp [hm])]
    simp
theorem LastX.find {s : WA} {k : Nat} (h : LastX s k) : ∃ i, s.find k = some i ∧ (s.get i).2 = [120] := by
  obtain ⟨_, pre, hr, hp⟩ := h
  refine ⟨pre.length, by unfold WA.find; rw [hr]; exact findIdx_last hp, ?_⟩
  unfold WA.get
  rw [hr]
  simp
theorem LastX.none {s : WA} {k : Nat} (h : LastX s k) (n : Int) (hn : (k : Int) < n) : s.find n = none := by
  obtain ⟨_, pre, hr, hp⟩ := h
  unfold WA.find
  rw [List.findIdx?_eq_none_iff, hr]
  intro m hm
  simp only [List.mem_append, List.mem_singleton] at hm
  rcases hm with hm | rfl
  · have := hp m hm
    simp; omega
  · simp; omega
theorem LastX.put {s : WA} {k : Nat} (h : LastX s k) (hk : k < 4096) : s.put [120] = (s.add [120], ((k + 1 : Nat) : Int), 0) ∧ LastX (s.add [120]) (k + 1) := by
  obtain ⟨hg, pre, hr, hp⟩ := h
  unfold WA.put
  rw [if_neg (by omega), hg]
  refine ⟨rfl, by simp [WA.add, hg], pre ++ [(k, [120])], by simp [WA.add, hr, hg], fun m hm => ?_⟩
  simp only [List.mem_append, List.mem_singleton] at hm
  rcases hm with hm | rfl
  · have := hp m hm; omega
  · simp
theorem LastX.dropOne {s : WA} {k : Nat} (h : LastX s k) : ∃ s', (s.add [120]).drop k = (s', 0) ∧ LastX s' (k + 1) := by
  obtain ⟨hg, pre, hr, hp⟩ := h
  have hf : (s.add [120]).find k = some pre.length := by
    unfold WA.find WA.add
    rw [hr, List.append_assoc]
    exact findIdx_last hp
  refine ⟨(s.add [120]).gone pre.length, by unfold WA.drop; rw [hf], ?_, pre, ?_, fun m hm => by have := hp m hm; omega⟩
  · simp [WA.gone, WA.add, hg]
  · simp only [WA.gone, WA.add, hr, hg, List.append_assoc]
    rw [List.eraseIdx_append_of_length_le (Nat.le_refl _)]
    simp
theorem LastX.full {s : WA} (h : LastX s 4096) (l : List UInt8) : s.put l = (s, 0, 234) := by
  unfold WA.put
  rw [if_pos (by rw [h.1]; exact Nat.le_refl _)]

theorem x_send : WA.send ⟨[], 0⟩ [120] = (⟨[(1, [120])], 1⟩, 1, 0) := rfl
theorem x_first : LastX ⟨[(1, [120])], 1⟩ 1 := ⟨rfl, [], rfl, by simp⟩

/-- A slice of bytes that the text makes on the spot out of a constant. -/
def constB (w : World) (l : List UInt8) : World := w.alloc (.cells (bvs l).toArray 5 (l.length, l.length + 1))
theorem constB_upd (w : World) (l : List UInt8) : Upd noBlk w (constB w l) := (Upd.refl noBlk w).alloc _
theorem constB_rd (w : World) (l : List UInt8) (hl : l.length ≤ maxLen) : RdB (constB w l) (.slice (some ⟨w.heap.size, 0, none⟩) l.length l.length) l :=
  ⟨by simp [bvs], _, _, rfl, Nat.le_refl _, hl, fun h => by simp at h, fun j u hu => ⟨_, rfl, by
    rw [addr_add_zero]
    simp only [World.cell?, constB, heap_alloc_new]
    simpa using hu⟩⟩
theorem x_const (w : World) : w.alloc (.cells #[.int .u8 120] 5 (1, 2)) = constB w [120] := rfl
theorem x_rd (w : World) : RdB (constB w [120]) (.slice (some ⟨w.heap.size, 0, none⟩) 1 1) [120] := constB_rd w [120] (by simp [maxLen])

/-- The wire behind k numbers. -/
def FullRel (w0 : World) (p k : Nat) (wr : World) : Prop := ∃ W s, W.p = p ∧ At (older w0) wr W s ∧ LastX s k ∧ Upd (fun j => ¬ older w0 j) w0 wr

/-- .. one message more. -/
def FullMid (w0 : World) (p k : Nat) (wr : World) : Prop := ∃ W s, W.p = p ∧ At (older w0) wr W (s.add [120]) ∧ LastX s k ∧ k < 4096 ∧ Upd (fun j => ¬ older w0 j) w0 wr

theorem full_copy {w0 wr : World} {p k : Nat} (h : FullRel w0 p k wr) (hk : k < 4096) :
    Calls Try.prog 19 #[.pointer (some ⟨p, 0, none⟩), .int .i64 k] wr fun e w' => e = .returned (.tuple #[.int .i64 ((k : Int) + 1), .int .i64 0]) ∧ FullMid w0 p k w' := by
  obtain ⟨W, s, rfl, hA, hx, hU⟩ := h
  have hc := hA.does (wcopy_any W k wr hA.ok)
  obtain ⟨i, hi, hg⟩ := hx.find
  have e1 : s.copy k = (s.add [120], ((k + 1 : Nat) : Int), 0) := by
    unfold WA.copy
    rw [hi]
    simp only [hg]
    exact (hx.put hk).1
  rw [hA.abs, e1] at hc
  refine hc.mono ?_
  rintro e w' ⟨W', rfl, hp, hA', hu⟩
  exact ⟨by simp, W', s, hp, hA', hx, hk, hU.trans_same hu⟩

theorem full_send {w0 wr : World} {p k : Nat} (h : FullRel w0 p k wr) (hk : k < 4096) :
    Calls Try.prog 16 #[.pointer (some ⟨p, 0, none⟩), .slice (some ⟨wr.heap.size, 0, none⟩) 1 1] (constB wr [120]) fun e w' => e = .returned (.tuple #[.int .i64 ((k : Int) + 1), .int .i64 0]) ∧ FullMid w0 p k w' := by
  obtain ⟨W, s, rfl, hA0, hx, hU⟩ := h
  have hA := hA0.none (constB_upd wr [120])
  have hc := hA.does (send_any W _ [120] _ hA.ok (x_rd wr) (fun hk => by have h2 := hA0.ok.blk.lt; simp only [Value.ownBlock, Option.some.injEq] at hk; omega))
  have e1 : s.send [120] = (s.add [120], ((k + 1 : Nat) : Int), 0) := by
    unfold WA.send
    rw [if_neg (by simp)]
    exact (hx.put hk).1
  rw [hA.abs, e1] at hc
  refine hc.mono ?_
  rintro e w' ⟨W', rfl, hp, hA', hu⟩
  exact ⟨by simp, W', s, hp, hA', hx, hk, (hU.trans_same ((constB_upd wr [120]).of_none _)).trans_same hu⟩

theorem FullMid.next {w0 wr : World} {p k : Nat} (h : FullMid w0 p k wr) : FullRel w0 p (k + 1) wr := by
  obtain ⟨W, s, hp, hA, hx, hk, hU⟩ := h
  exact ⟨W, _, hp, hA, (hx.put hk).2, hU⟩

theorem full_drop {w0 wr : World} {p k : Nat} (h : FullMid w0 p k wr) :
    Calls Try.prog 20 #[.pointer (some ⟨p, 0, none⟩), .int .i64 k] wr fun e w' => e = .returned (.int .i64 0) ∧ FullRel w0 p (k + 1) w' := by
  obtain ⟨W, s, rfl, hA, hx, hk, hU⟩ := h
  have hc := hA.does (drop_any W k wr hA.ok)
  obtain ⟨s', e1, hx'⟩ := hx.dropOne
  rw [hA.abs, e1] at hc
  refine hc.mono ?_
  rintro e w' ⟨W', rfl, hp, hA', hu⟩
  exact ⟨rfl, W', s', hp, hA', hx', hU.trans_same hu⟩

theorem full_more {w0 wr : World} {p : Nat} (h : FullRel w0 p 4096 wr) :
    Calls Try.prog 16 #[.pointer (some ⟨p, 0, none⟩), .slice none 0 0] wr fun e w' => e = .returned (.tuple #[.int .i64 0, .int .i64 234]) ∧ FullRel w0 p 4096 w' := by
  obtain ⟨W, s, rfl, hA, hx, hU⟩ := h
  have hc := hA.does (send_any W _ [] wr hA.ok (RdB.nil _) (by simp [Value.ownBlock]))
  have e1 : s.send [] = (s, 0, 234) := by
    unfold WA.send
    rw [if_neg (by simp)]
    exact hx.full _
  rw [hA.abs, e1] at hc
  refine hc.mono ?_
  rintro e w' ⟨W', rfl, hp, hA', hu⟩
  exact ⟨rfl, W', s, hp, hA', hx, hU.trans_same hu⟩

theorem full_more2 {w0 wr : World} {p : Nat} (h : FullRel w0 p 4096 wr) :
    Calls Try.prog 19 #[.pointer (some ⟨p, 0, none⟩), .int .i64 4096] wr fun e w' => e = .returned (.tuple #[.int .i64 0, .int .i64 234]) ∧ FullRel w0 p 4096 w' := by
  obtain ⟨W, s, rfl, hA, hx, hU⟩ := h
  have hc := hA.does (wcopy_any W 4096 wr hA.ok)
  obtain ⟨i, hi, hg⟩ := hx.find
  have e1 : s.copy 4096 = (s, 0, 234) := by
    unfold WA.copy
    rw [show (4096 : Int) = ((4096 : Nat) : Int) from rfl, hi]
    exact hx.full _
  rw [hA.abs, e1] at hc
  refine hc.mono ?_
  rintro e w' ⟨W', rfl, hp, hA', hu⟩
  exact ⟨rfl, W', s, hp, hA', hx, hU.trans_same hu⟩

theorem full_more3 {w0 wr : World} {p : Nat} (h : FullRel w0 p 4096 wr) :
    Calls Try.prog 19 #[.pointer (some ⟨p, 0, none⟩), .int .i64 4097] wr fun e w' => e = .returned (.tuple #[.int .i64 0, .int .i64 231]) ∧ FullRel w0 p 4096 w' := by
  obtain ⟨W, s, rfl, hA, hx, hU⟩ := h
  have hc := hA.does (wcopy_any W 4097 wr hA.ok)
  have e1 : s.copy 4097 = (s, 0, 231) := by
    unfold WA.copy
    rw [hx.none 4097 (by decide)]
  rw [hA.abs, e1] at hc
  refine hc.mono ?_
  rintro e w' ⟨W', rfl, hp, hA', hu⟩
  exact ⟨rfl, W', s, hp, hA', hx, hU.trans_same hu⟩

/-- The wire that is full, without its last message; its bytes are kept. -/
def FullEnd (w0 : World) (p : Nat) (v : Value) (wr : World) : Prop := ∃ W s, W.p = p ∧ At (fun j => older w0 j ∨ v.ownBlock = some j) wr W s ∧ s.given = 4096 ∧ s.find 4096 = none ∧ Upd (fun j => ¬ older w0 j) w0 wr ∧ RdB wr v [120]

theorem full_take {w0 wr : World} {p : Nat} (h : FullRel w0 p 4096 wr) :
    Calls Try.prog 17 #[.pointer (some ⟨p, 0, none⟩), .int .i64 4096] wr fun e w' => ∃ v, e = .returned (.tuple #[v, .int .i64 0]) ∧ FullEnd w0 p v w' := by
  obtain ⟨W, s, rfl, hA, hx, hU⟩ := h
  have hc := take_any W 4096 wr hA.ok
  obtain ⟨hg, pre, hr, hp⟩ := hx
  have hf : s.find 4096 = some pre.length := by
    unfold WA.find
    rw [hr]
    exact findIdx_last (k := 4096) hp
  have hl : s.look 4096 = ([120], 0) := by
    unfold WA.look
    rw [hf]
    simp only [WA.get, hr]
    simp
  have hd : s.drop 4096 = (s.gone pre.length, 0) := by unfold WA.drop; rw [hf]
  have hn : (s.gone pre.length).find 4096 = none := by
    unfold WA.find WA.gone
    rw [hr, List.eraseIdx_append_of_length_le (Nat.le_refl _), List.findIdx?_eq_none_iff]
    intro m hm
    simp only [Nat.sub_self, List.eraseIdx_cons_zero, List.append_nil] at hm
    have := hp m hm
    simp; omega
  rw [hA.abs, hl, hd] at hc
  refine hc.mono ?_
  rintro e w' ⟨v, W', rfl, hv, ho, ha, hnf⟩
  have hA' := hA.onward ho ha
  have hU' := hU.trans_same (hA.upd ho)
  exact ⟨v, rfl, W', _, ho.same, hA'.more fun k hk => ⟨hv.lt k hk, hnf k hk⟩, hg, hn, hU', hv.rd⟩

theorem end_more {w0 wr : World} {p : Nat} {v : Value} (h : FullEnd w0 p v wr) :
    Calls Try.prog 16 #[.pointer (some ⟨p, 0, none⟩), .slice none 0 0] wr fun e w' => e = .returned (.tuple #[.int .i64 0, .int .i64 234]) ∧ FullEnd w0 p v w' := by
  obtain ⟨W, s, rfl, hA, hg, hn, hU, hv⟩ := h
  have hc := hA.does (send_any W _ [] wr hA.ok (RdB.nil _) (by simp [Value.ownBlock]))
  have e1 : s.send [] = (s, 0, 234) := by
    unfold WA.send WA.put
    rw [if_neg (by simp), if_pos (by rw [hg]; exact Nat.le_refl _)]
  rw [hA.abs, e1] at hc
  refine hc.mono ?_
  rintro e w' ⟨W', rfl, hp, hA', hu⟩
  exact ⟨rfl, W', s, hp, hA', hg, hn, hU.trans hu fun k hk => .inl fun h => hk (.inl h), hv.upd hu fun k hk hnk => hnk (.inr hk)⟩

theorem end_look {w0 wr : World} {p : Nat} {v : Value} (h : FullEnd w0 p v wr) :
    Calls Try.prog 21 #[.pointer (some ⟨p, 0, none⟩), .int .i64 4096] wr fun e w' => ∃ u, e = .returned (.tuple #[u, .int .i64 231]) ∧ FullEnd w0 p v w' := by
  obtain ⟨W, s, rfl, hA, hg, hn, hU, hv⟩ := h
  have hc := look_any W 4096 wr hA.ok
  have e1 : s.look 4096 = ([], 231) := by unfold WA.look; rw [hn]
  rw [hA.abs, e1] at hc
  refine hc.mono ?_
  rintro e w' ⟨u, rfl, _, hu⟩
  exact ⟨u, rfl, W, s, rfl, hA.none hu, hg, hn, hU.trans_same (hu.of_none _), hv.none hu⟩

theorem end_same {w0 wr : World} {p : Nat} {v : Value} (h : FullEnd w0 p v wr) :
    Calls Try.prog 18 #[v, .slice (some ⟨wr.heap.size, 0, none⟩) 1 1] (constB wr [120]) fun e w' => e = .returned (.bool true) ∧ Upd (fun j => ¬ older w0 j) w0 w' := by
  obtain ⟨W, s, rfl, hA, hg, hn, hU, hv⟩ := h
  have hc := same_any v _ [120] [120] _ (hv.none (constB_upd wr [120])) (x_rd wr)
  rw [decide_eq_true rfl] at hc
  refine hc.mono ?_
  rintro e w' ⟨rfl, k, rfl⟩
  exact ⟨rfl, (hU.trans_same ((constB_upd wr [120]).of_none _)).drewN k⟩

set_option maxRecDepth 100000 in
set_option maxHeartbeats 1000000 in
theorem full_true (copies dropped : Int) (w : World) : Calls Try.prog 4 #[.int .i64 copies, .int .i64 dropped] w (TrueP w) := by
  have kc := fun (w : World) (C : Array Value) (n c : Nat) => Lib.run_convert_bytes_const (P := Try.prog) w 24 5 C n c Try.underlying24 Try.underlying5
  go_enter Try.func4, Try.ntmps4
  go_wp2_with fail
  refine (new_any _).mono ?_
  rintro e w1 ⟨W1, rfl, hW, ha, hu, hge⟩
  have h1 := Lib.hid (At.new hW ha hu hge)
  have u1 := Lib.hid (hu.of_none (fun k => ¬ older w k))
  clear hW ha hu hge
  go_wp2_with fail
  rw [x_const]
  have hA := h1.out.none (constB_upd w1 [120])
  have hU := u1.out.trans_same ((constB_upd w1 [120]).of_none _)
  have hc := hA.does (send_any W1 _ [120] _ hA.ok (x_rd w1) (fun hk => by have := hA.ok.lt; have h2 := h1.out.ok.blk.lt; simp only [Value.ownBlock, Option.some.injEq] at hk; omega))
  rw [hA.abs, x_send] at hc
  refine hc.mono ?_
  clear hc
  rintro e w2 ⟨W2, rfl, hp, hA2, hu2⟩
  rw [← hp]
  replace hU := Lib.hid (hU.trans_same hu2)
  replace hA := Lib.hid hA2
  clear h1 u1 hp hu2 hA2
  go_wp2_with fail
  have hrel0 : FullRel w W2.p 1 w2 := ⟨W2, _, rfl, hA.out, x_first, hU.out⟩
  replace hrel0 := Lib.hid hrel0
  go_loopw [6, 7, 8] (fun n e i wr => ∃ k : Nat, 1 ≤ k ∧ k ≤ 4096 ∧ n = .int .i64 k ∧ e = .int .i64 0 ∧ i = .int .i64 ((k : Int) + 1) ∧ FullRel w W2.p k wr) (fun _ _ i _ => 4097 - (intOf i).toNat)
  case atStart => exact ⟨1, by omega, by omega, rfl, rfl, rfl, hrel0.out⟩
  case round =>
    obtain ⟨k, hk1, hk2, rfl, rfl, rfl, hf⟩ := hrel
    have hle : FullRel w W2.p k wr := hf
    replace hf := Lib.hid hf
    replace hle := Lib.hid hle
    by_cases hlt : k < 4096
    · go_wp2_with fail
      · refine (full_copy hf.out hlt).mono ?_
        rintro e w3 ⟨rfl, hm⟩
        replace hm := Lib.hid hm
        go_wp2_with (go_at_call 20; refine (full_drop hm.out).mono ?_; rintro e w4 ⟨rfl, hf4⟩; replace hf4 := Lib.hid hf4)
        all_goals
          go_roundw
          case rel => exact ⟨k + 1, by omega, by omega, by go_num, rfl, by go_num, by first | exact hf4.out | exact hm.out.next⟩
          case measure => simp [intOf]; omega
      · rw [x_const]
        refine (full_send hf.out hlt).mono ?_
        rintro e w3 ⟨rfl, hm⟩
        replace hm := Lib.hid hm
        go_wp2_with (go_at_call 20; refine (full_drop hm.out).mono ?_; rintro e w4 ⟨rfl, hf4⟩; replace hf4 := Lib.hid hf4)
        all_goals
          go_roundw
          case rel => exact ⟨k + 1, by omega, by omega, by go_num, rfl, by go_num, by first | exact hf4.out | exact hm.out.next⟩
          case measure => simp [intOf]; omega
    · obtain rfl : k = 4096 := by omega
      clear hlt hk1 hk2 hle
      go_wp2_with fail
      refine (full_more hf.out).mono ?_
      rintro e w3 ⟨rfl, h3⟩
      replace h3 := Lib.hid h3
      go_wp2_with fail
      refine (full_more2 h3.out).mono ?_
      rintro e w4 ⟨rfl, h4⟩
      replace h4 := Lib.hid h4
      go_wp2_with fail
      refine (full_more3 h4.out).mono ?_
      rintro e w5 ⟨rfl, h5⟩
      replace h5 := Lib.hid h5
      go_wp2_with fail
      refine (full_take h5.out).mono ?_
      rintro e w6 ⟨v, rfl, h6⟩
      replace h6 := Lib.hid h6
      go_wp2_with fail
      refine (end_more h6.out).mono ?_
      rintro e w7 ⟨rfl, h7⟩
      replace h7 := Lib.hid h7
      go_wp2_with fail
      refine (end_look h7.out).mono ?_
      rintro e w8 ⟨u, rfl, h8⟩
      replace h8 := Lib.hid h8
      go_wp2_with fail
      rw [x_const]
      refine (end_same h8.out).mono ?_
      rintro e w9 ⟨rfl, h9⟩
      replace h9 := Lib.hid h9
      go_wp2
      go_ret
      exact ⟨rfl, below_of_old h9.out⟩

end Go.Proofs.Ytfnlemdlngdaiaa
