/-
  WireNames: a wire without messages refuses what names one.
-/
import Derived.Test.YtfnlemdlngdaiaaFnH
namespace Go.Proofs.Ytfnlemdlngdaiaa
open Go.RowKit

/-- The wire W, which reads as s, lies apart from the blocks of F. -/
structure At (F : Nat → Prop) (w : World) (W : Wr) (s : WA) : Prop where
  ok : WrOk w W
  abs : W.abs = s
  far : ∀ k, W.foot k → ¬ F k
  old : ∀ k, F k → k < w.heap.size

section
variable {F : Nat → Prop} {w w' : World} {W W' : Wr} {s s' : WA}
theorem At.onward (h : At F w W s) (ho : Onward w W w' W') (ha : W'.abs = s') : At F w' W' s' :=
  ⟨ho.ok, ha, fun k hk hF => (ho.into k hk).elim (fun h1 => h.far k h1 hF) fun h1 => by have := h.old k hF; omega, fun k hF => Nat.lt_of_lt_of_le (h.old k hF) ho.upd.size⟩
theorem At.upd (h : At F w W s) (ho : Onward w W w' W') : Upd (fun k => ¬ F k) w w' := ho.upd.mono fun k _ hk => h.far k hk
theorem At.none (h : At F w W s) (hu : Upd noBlk w w') : At F w' W s := ⟨h.ok.upd hu fun _ _ h => h, h.abs, h.far, fun k hF => Nat.lt_of_lt_of_le (h.old k hF) hu.size⟩
theorem At.drewN (h : At F w W s) (n : Nat) : At F (w.drewN n) W s := h.none ((Upd.refl _ w).drewN n)
/-- What the wire does not touch may be kept besides. -/
theorem At.more (h : At F w W s) {G : Nat → Prop} (hG : ∀ k, G k → k < w.heap.size ∧ ¬ W.foot k) : At (fun k => F k ∨ G k) w W s :=
  ⟨h.ok, h.abs, fun k hk hF => hF.elim (h.far k hk) fun hg => (hG k hg).2 hk, fun k hF => hF.elim (h.old k) fun hg => (hG k hg).1⟩
theorem At.less (h : At F w W s) {G : Nat → Prop} (hG : ∀ k, G k → F k) : At G w W s := ⟨h.ok, h.abs, fun k hk hg => h.far k hk (hG k hg), fun k hg => h.old k (hG k hg)⟩
end

/-- All that was there at the start. -/
def older (w : World) : Nat → Prop := fun k => k < w.heap.size
theorem below_of_old {w w' : World} (h : Upd (fun k => ¬ older w k) w w') : Below w.heap.size w w' := h.below (Nat.le_refl _) fun k hk => by unfold older at hk; omega
theorem upd_old {w w' w'' : World} (h : Upd (fun k => ¬ older w k) w w') (h' : Upd (fun k => ¬ older w k) w' w'') : Upd (fun k => ¬ older w k) w w'' := h.trans_same h'

theorem At.new {w w' : World} {W : Wr} (hW : WrOk w' W) (ha : W.abs = ⟨[], 0⟩) (hu : Upd noBlk w w') (hge : ∀ k, W.foot k → w.heap.size ≤ k) : At (older w) w' W ⟨[], 0⟩ :=
  ⟨hW, ha, fun k hk hF => by have := hge k hk; unfold older at hF; omega, fun k hF => Nat.lt_of_lt_of_le hF hu.size⟩

/-- An answer and a wire that goes on. -/
theorem At.does {F : Nat → Prop} {w : World} {W : Wr} {s s' : WA} {r : Value} {f : FuncId} {args : Array Value} (h : At F w W s) (hc : Calls Try.prog f args w (Does w W r s')) :
    Calls Try.prog f args w fun e w' => ∃ W', e = .returned r ∧ W'.p = W.p ∧ At F w' W' s' ∧ Upd (fun k => ¬ F k) w w' :=
  hc.mono fun _ _ ⟨W', he, ho, ha⟩ => ⟨W', he, ho.same, h.onward ho ha, h.upd ho⟩

/-- True is told, and what was there is as it was. -/
def TrueP (w : World) (e : Ending) (w' : World) : Prop := e = .returned (.bool true) ∧ Below w.heap.size w w'

set_option maxRecDepth 100000 in
set_option maxHeartbeats 1000000 in
theorem names_true (w : World) : Calls Try.prog 5 #[] w (TrueP w) := by
  go_enter Try.func5, Try.ntmps5
  go_wp2_with fail
  refine (new_any _).mono ?_
  rintro e w1 ⟨W1, rfl, hW, ha, hu, hge⟩
  have h1 := Lib.hid (At.new hW ha hu hge)
  have u1 := Lib.hid (hu.of_none (fun k => ¬ older w k))
  clear hW ha hu hge
  go_wp2_with fail
  have hc := look_any W1 1 w1 h1.out.ok
  rw [h1.out.abs, show WA.look ⟨[], 0⟩ 1 = ([], 231) from rfl] at hc
  refine hc.mono ?_
  clear hc
  rintro e w2 ⟨v2, rfl, -, hu⟩
  obtain ⟨W2, rfl⟩ : ∃ X, X = W1 := ⟨_, rfl⟩
  have h2 := Lib.hid (h1.out.none hu)
  have u2 := Lib.hid (u1.out.trans_same (hu.of_none _))
  clear hu h1 u1
  go_wp2_with fail
  have hc := take_any W2 0 w2 h2.out.ok
  rw [h2.out.abs, show WA.look ⟨[], 0⟩ 0 = ([], 231) from rfl, show WA.drop ⟨[], 0⟩ 0 = (⟨[], 0⟩, 231) from rfl] at hc
  refine hc.mono ?_
  clear hc
  rintro e w3 ⟨v3, W3, rfl, -, ho, ha, -⟩
  have hp := ho.same
  rw [← hp]
  have h3 := Lib.hid (h2.out.onward ho ha)
  have u3 := Lib.hid (upd_old u2.out (h2.out.upd ho))
  clear ha h2 u2 hp ho
  go_wp2_with fail
  have hc := h3.out.does (drop_any W3 (-1) w3 h3.out.ok)
  rw [h3.out.abs, show WA.drop ⟨[], 0⟩ (-1) = (⟨[], 0⟩, 231) from rfl] at hc
  refine hc.mono ?_
  clear hc
  rintro e w4 ⟨W4, rfl, hp, ha, hu⟩
  rw [← hp]
  have h4 := Lib.hid ha
  have u4 := Lib.hid (upd_old u3.out hu)
  clear ha hu h3 u3 hp
  go_wp2_with fail
  have hc := h4.out.does (wcopy_any W4 1 w4 h4.out.ok)
  rw [h4.out.abs, show WA.copy ⟨[], 0⟩ 1 = (⟨[], 0⟩, 0, 231) from rfl] at hc
  refine hc.mono ?_
  clear hc
  rintro e w5 ⟨W5, rfl, hp, ha, hu⟩
  rw [← hp]
  have h5 := Lib.hid ha
  have u5 := Lib.hid (upd_old u4.out hu)
  clear ha hu h4 u4 hp
  go_wp2_with fail
  have hc := h5.out.does (swap_any W5 1 1 w5 h5.out.ok)
  rw [h5.out.abs, show WA.swap ⟨[], 0⟩ 1 1 = (⟨[], 0⟩, 231) from rfl] at hc
  refine hc.mono ?_
  clear hc
  rintro e w6 ⟨W6, rfl, hp, ha, hu⟩
  rw [← hp]
  have h6 := Lib.hid ha
  have u6 := Lib.hid (upd_old u5.out hu)
  clear ha hu h5 u5 hp
  go_wp2_with fail
  have hc := h6.out.does (flip_any W6 1 0 0 w6 h6.out.ok)
  rw [h6.out.abs, show WA.flip ⟨[], 0⟩ 1 0 0 = (⟨[], 0⟩, 231) from rfl] at hc
  refine hc.mono ?_
  clear hc
  rintro e w7 ⟨W7, rfl, hp, ha, hu⟩
  rw [← hp]
  have h7 := Lib.hid ha
  have u7 := Lib.hid (upd_old u6.out hu)
  clear ha hu h6 u6 hp
  go_wp2_with fail
  have hc := h7.out.does (cut_any W7 1 0 w7 h7.out.ok)
  rw [h7.out.abs, show WA.cut ⟨[], 0⟩ 1 0 = (⟨[], 0⟩, 231) from rfl] at hc
  refine hc.mono ?_
  clear hc
  rintro e w8 ⟨W8, rfl, hp, ha, hu⟩
  rw [← hp]
  have h8 := Lib.hid ha
  have u8 := Lib.hid (upd_old u7.out hu)
  clear ha hu h7 u7 hp
  go_wp2_with fail
  have hc := h8.out.does (send_any W8 _ [] w8 h8.out.ok (RdB.nil _) (by simp [Value.ownBlock]))
  rw [h8.out.abs, show WA.send ⟨[], 0⟩ [] = (⟨[(1, [])], 1⟩, 1, 0) from rfl] at hc
  refine hc.mono ?_
  clear hc
  rintro e w9 ⟨W9, rfl, hp, ha, hu⟩
  rw [← hp]
  have h9 := Lib.hid ha
  have u9 := Lib.hid (upd_old u8.out hu)
  clear ha hu h8 u8 hp
  go_wp2_with fail
  have hc := h9.out.does (flip_any W9 1 0 0 w9 h9.out.ok)
  rw [h9.out.abs, show WA.flip ⟨[(1, [])], 1⟩ 1 0 0 = (⟨[(1, [])], 1⟩, 232) from rfl] at hc
  refine hc.mono ?_
  clear hc
  rintro e w10 ⟨W10, rfl, hp, ha, hu⟩
  rw [← hp]
  have h10 := Lib.hid ha
  have u10 := Lib.hid (upd_old u9.out hu)
  clear ha hu h9 u9 hp
  go_wp2
  go_ret
  exact ⟨rfl, below_of_old u10.out⟩

end Go.Proofs.Ytfnlemdlngdaiaa
