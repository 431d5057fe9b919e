/-
  The wire's functions: Send, Look, Copy, Flip, Next.
-/
import Derived.Test.YtfnlemdlngdaiaaFnB
import Derived.Test.YtfnlemdlngdaiaaAbs
namespace Go.Proofs.Ytfnlemdlngdaiaa
open Go.RowKit

def Wr.abs (W : Wr) : WA := ⟨W.ms.map fun m => (m.N, m.l), W.given⟩
theorem Wr.find_abs (W : Wr) (n : Int) : W.abs.find n = W.find n := by
  unfold Wr.abs WA.find Wr.find
  rw [List.findIdx?_map]
  rfl
theorem Wr.get_abs {W : Wr} {i : Nat} {m : Msg} (h : W.ms[i]? = some m) : W.abs.get i = (m.N, m.l) := by
  unfold Wr.abs WA.get
  simp [h]

/-- What a call leaves that may turn the wire: the answer, and the wire as the plain data has it. -/
def Does (w : World) (W : Wr) (r : Value) (s : WA) (e : Ending) (w' : World) : Prop := ∃ W', e = .returned r ∧ Onward w W w' W' ∧ W'.abs = s

theorem Onward.refl {w : World} {W : Wr} (h : WrOk w W) : Onward w W w W := ⟨h, rfl, Upd.refl _ _, fun _ hk => .inl hk⟩
theorem Onward.of_none {w w' : World} {W : Wr} (h : WrOk w W) (hu : Upd noBlk w w') : Onward w W w' W := ⟨h.upd hu fun _ _ h => h, rfl, hu.of_none _, fun _ hk => .inl hk⟩
theorem Onward.trans {w w1 w2 : World} {W W1 W2 : Wr} (h : Onward w W w1 W1) (h' : Onward w1 W1 w2 W2) : Onward w W w2 W2 :=
  ⟨h'.ok, h'.same.trans h.same, h.upd.trans h'.upd h.into, fun k hk => (h'.into k hk).elim (h.into k) fun hge => .inr (Nat.le_trans h.upd.size hge)⟩

theorem add_any (W : Wr) (v : Value) (l : List UInt8) (w : World) (hW : WrOk w W) (hv : RdB w v l) (hl : l.length ≤ 1048576) (hne : v.ownBlock ≠ some W.p) :
    Calls Try.prog 37 #[.pointer (some ⟨W.p, 0, none⟩), v] w (Does w W (.tuple #[.int .i64 (W.abs.put l).2.1, .int .i64 (W.abs.put l).2.2]) (W.abs.put l).1) := by
  unfold WA.put
  by_cases hf : W.given = 4096
  · have h : 4096 ≤ W.abs.given := by rw [show W.abs.given = W.given from rfl]; omega
    rw [if_pos h]
    refine (add_full W v w hW hf).mono ?_
    rintro e w' ⟨rfl, rfl⟩
    exact ⟨W, rfl, Onward.refl hW, rfl⟩
  · have hm := hW.most
    have h : ¬ 4096 ≤ W.abs.given := by rw [show W.abs.given = W.given from rfl]; omega
    rw [if_neg h]
    refine (add_some W v l w hW (by omega) hv hl hne).mono ?_
    rintro e w' ⟨rv, u, rfl, ho⟩
    refine ⟨_, rfl, ho, ?_⟩
    simp [Wr.abs, WA.add]

theorem send_long (W : Wr) (v : Value) (l : List UInt8) (w : World) (hv : RdB w v l) (hl : 1048576 < l.length) :
    Calls Try.prog 16 #[.pointer (some ⟨W.p, 0, none⟩), v] w fun e w' => e = .returned (.tuple #[.int .i64 0, .int .i64 233]) ∧ w = w' := by
  obtain ⟨A, c, rfl, h1, h2, _⟩ := nil_empty hv
  clear hv
  have h3 : l.length ≤ 9223372036854775807 := by simp only [maxLen] at h2; omega
  clear h2
  generalize l.length = n at *
  go_enter Try.func16, Try.ntmps16
  go_wp2
  go_ret2
  exact ⟨rfl, rfl⟩

set_option maxHeartbeats 400000 in
theorem send_any (W : Wr) (v : Value) (l : List UInt8) (w : World) (hW : WrOk w W) (hv : RdB w v l) (hne : v.ownBlock ≠ some W.p) :
    Calls Try.prog 16 #[.pointer (some ⟨W.p, 0, none⟩), v] w (Does w W (.tuple #[.int .i64 (W.abs.send l).2.1, .int .i64 (W.abs.send l).2.2]) (W.abs.send l).1) := by
  unfold WA.send
  by_cases hl : 1048576 < l.length
  · rw [if_pos hl]
    refine (send_long W v l w hv hl).mono ?_
    rintro e w' ⟨rfl, rfl⟩
    exact ⟨W, rfl, Onward.refl hW, rfl⟩
  · rw [if_neg hl]
    have hc := Lib.hid (add_any W v l w hW hv (by omega) hne)
    obtain ⟨A, c, rfl, h1, h2, _⟩ := nil_empty hv
    have hl : l.length ≤ 1048576 := by omega
    clear hv hW hne h1 h2
    generalize W.abs.put l = r at *
    generalize l.length = n at *
    go_enter Try.func16, Try.ntmps16
    go_wp2_with (go_at_call 37; refine hc.out.mono ?_; rintro e w' ⟨W', rfl, ho, ha⟩; replace ho := Lib.hid ho; replace ha := Lib.hid ha)
    go_ret2
    exact ⟨W', rfl, ho.out, ha.out⟩


/-- The row's cells, as a walk wants them: the slice, and what stands at place i. -/
theorem row_at {w : World} {W : Wr} (hW : WrOk w W) {i : Nat} {m : Msg} (hm : W.ms[i]? = some m) :
    ∃ g cap, W.rv = .slice (some ⟨g, 0, none⟩) W.ms.length cap ∧ i < W.ms.length ∧ W.ms.length ≤ cap ∧ cap ≤ maxLen ∧ w.cell? ⟨g, i * 2, none⟩ = some (.int .i64 m.N) ∧ w.cell? ⟨g, i * 2 + 1, none⟩ = some m.v := by
  obtain ⟨A, cap, hrv, h1, h2, _, _, hat⟩ := own_form hW.row
  obtain ⟨g, rfl, hc⟩ := hat _ _ (rowCells_n hm)
  obtain ⟨g', hg, hc'⟩ := hat _ _ (rowCells_v hm)
  simp only [Option.some.injEq, Addr.mk.injEq, and_true] at hg
  subst hg
  exact ⟨g, cap, hrv, (List.getElem?_eq_some_iff.1 hm).1, h1, h2, hc, hc'⟩

theorem WrOk.cell0 {w : World} {W : Wr} (hW : WrOk w W) : w.cell? ⟨W.p, 0, none⟩ = some W.rv := by rw [hW.blk.cell]; rfl
theorem WrOk.cell1 {w : World} {W : Wr} (hW : WrOk w W) : w.cell? ⟨W.p, 1, none⟩ = some (.int .i64 W.given) := by rw [hW.blk.cell]; rfl
theorem WrOk.len {w : World} {W : Wr} (hW : WrOk w W) : W.ms.length ≤ 4096 := Nat.le_trans hW.many hW.most

/-- Bytes told, in new memory, and an error. -/
def LookP (w : World) (r : List UInt8 × Int) (e : Ending) (w' : World) : Prop := ∃ v, e = .returned (.tuple #[v, .int .i64 r.2]) ∧ OwnB w.heap.size w' v r.1 ∧ Upd noBlk w w'

set_option maxRecDepth 100000 in
set_option maxHeartbeats 400000 in
theorem look_any (W : Wr) (n : Int) (w : World) (hW : WrOk w W) : Calls Try.prog 21 #[.pointer (some ⟨W.p, 0, none⟩), .int .i64 n] w (LookP w (W.abs.look n)) := by
  unfold WA.look
  rw [W.find_abs]
  cases hf : W.find n with
  | none =>
    have hp := Lib.hid (place_none W n w hW hf)
    clear hf hW
    go_enter Try.func21, Try.ntmps21
    go_wp2_with (go_at_call 38; refine hp.out.mono ?_; rintro e w' ⟨rfl, rfl⟩)
    go_ret2
    exact ⟨_, rfl, World.ownsRow_nil _ _ _ _, Upd.refl _ _⟩
  | some i =>
    obtain ⟨m, hm, _, _, _⟩ := W.find_some hf
    simp only [W.get_abs hm]
    obtain ⟨g, cap, hrv, hi, _, _, _, hc⟩ := row_at hW hm
    have h0 := hW.cell0
    rw [hrv] at h0
    have hsm := hW.small m (List.mem_of_getElem? hm)
    have hp := Lib.hid (place_some W n i w hW hf)
    have hcl := Lib.hid (clone_any m.v m.l w (hW.byt m (List.mem_of_getElem? hm)).rd (by omega))
    have hlen := hW.len
    clear hf hW hm hsm
    obtain ⟨p, rv, ms, gv⟩ := W
    simp only at *
    clear hrv
    go_enter Try.func21, Try.ntmps21
    go_wp2_with (first | (go_at_call 38; refine hp.out.mono ?_; rintro e w' ⟨rfl, rfl⟩) | (go_at_call 39; refine hcl.out.mono ?_; rintro e w' ⟨v', rfl, hown, hupd⟩; replace hown := Lib.hid hown; replace hupd := Lib.hid hupd))
    go_ret2
    exact ⟨_, rfl, hown.out, hupd.out⟩

set_option maxRecDepth 100000 in
set_option maxHeartbeats 400000 in
theorem next_any (W : Wr) (w : World) (hW : WrOk w W) : Calls Try.prog 36 #[.pointer (some ⟨W.p, 0, none⟩)] w fun e w' => e = .returned (.int .i64 W.abs.next) ∧ w = w' := by
  have h0 := hW.cell0
  have hlen := hW.len
  cases hms : W.ms with
  | nil =>
    obtain ⟨A, cap, hrv, _⟩ := own_form hW.row
    rw [hrv, hms] at h0
    simp only [List.length_nil] at h0
    have hn := Lib.hid (show W.abs.next = 0 from by simp [Wr.abs, WA.next, hms])
    clear hW hms hlen hrv
    go_enter Try.func36, Try.ntmps36
    go_wp2
    go_ret
    rw [hn.out]
    exact ⟨rfl, rfl⟩
  | cons m ms =>
    obtain ⟨g, cap, hrv, hi, _, _, hc, _⟩ := row_at hW (i := 0) (m := m) (by rw [hms]; rfl)
    rw [hrv] at h0
    have hn := Lib.hid (show W.abs.next = m.N from by simp [Wr.abs, WA.next, hms])
    have hb : ((W.ms.length : Int) == 0) = false := beq_eq_false_iff_ne.2 (by omega)
    simp only [Nat.zero_mul] at hc
    clear hW hms hrv
    generalize W.ms.length = len at *
    go_enter Try.func36, Try.ntmps36
    go_wp2
    go_ret
    rw [hn.out]
    exact ⟨rfl, rfl⟩

set_option maxRecDepth 100000 in
set_option maxHeartbeats 400000 in
theorem wcopy_any (W : Wr) (n : Int) (w : World) (hW : WrOk w W) :
    Calls Try.prog 19 #[.pointer (some ⟨W.p, 0, none⟩), .int .i64 n] w (Does w W (.tuple #[.int .i64 (W.abs.copy n).2.1, .int .i64 (W.abs.copy n).2.2]) (W.abs.copy n).1) := by
  unfold WA.copy
  rw [W.find_abs]
  cases hf : W.find n with
  | none =>
    have hp := Lib.hid (place_none W n w hW hf)
    replace hW := Lib.hid hW
    clear hf
    go_enter Try.func19, Try.ntmps19
    go_wp2_with (go_at_call 38; refine hp.out.mono ?_; rintro e w' ⟨rfl, rfl⟩)
    go_ret2
    exact ⟨W, rfl, Onward.refl hW.out, rfl⟩
  | some i =>
    obtain ⟨m, hm, _, _, _⟩ := W.find_some hf
    simp only [W.get_abs hm]
    obtain ⟨g, cap, hrv, hi, _, _, _, hc⟩ := row_at hW hm
    have h0 := hW.cell0
    rw [hrv] at h0
    have hmem := List.mem_of_getElem? hm
    have hp := Lib.hid (place_some W n i w hW hf)
    have hcl := Lib.hid (add_any W m.v m.l w hW (hW.byt m hmem).rd (hW.small m hmem) (own_blk_ne (hW.byt m hmem) hW.blk (by decide)))
    have hlen := hW.len
    clear hf hW hm hmem hrv
    generalize W.abs.put m.l = r at *
    generalize W.ms.length = len at *
    go_enter Try.func19, Try.ntmps19
    go_wp2_with (first | (go_at_call 38; refine hp.out.mono ?_; rintro e w' ⟨rfl, rfl⟩) | (go_at_call 37; refine hcl.out.mono ?_; rintro e w' ⟨W', rfl, ho, ha⟩; replace ho := Lib.hid ho; replace ha := Lib.hid ha))
    go_ret2
    exact ⟨W', rfl, ho.out, ha.out⟩

end Go.Proofs.Ytfnlemdlngdaiaa
