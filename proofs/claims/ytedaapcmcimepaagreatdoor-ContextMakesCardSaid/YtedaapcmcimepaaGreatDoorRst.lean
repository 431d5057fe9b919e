/-
  The two rings side by side.
-/
import Derived.Test.YtedaapcmcimepaaGreatDoorEmp
namespace Go.Proofs.YtedaapcmcimepaaGreatDoor
open Go.RowKit

/-- The blocks that calls on the rings turn. -/
def F3 (Kr : KRg) (q : Nat) : Nat → Prop := fun k => k = Kr.p ∨ k = Kr.bk ∨ k = q
/-- Both rings, the program's with nk enrolled, the document's with nl; all of them new since w0. -/
structure RS (w0 w : World) (Kr : KRg) (R : LRg) (nk nl : List (List UInt8)) : Prop where
  tabs : Tabs w
  ring : KOk w Kr nk
  ref : LOk w R nl
  upd : Upd noBlk w0 w
  kge : ∀ k, Kr.foot k → w0.heap.size ≤ k
  lge : ∀ k, R.foot k → w0.heap.size ≤ k
  far : ∀ k, Kr.foot k → ¬ R.foot k

theorem KOk.foot_lt {w : World} {Kr : KRg} {ns : List (List UInt8)} (h : KOk w Kr ns) : ∀ k, Kr.foot k → k < w.heap.size := by
  rintro k (rfl | rfl | ⟨h0, hk⟩)
  · exact h.plt
  · exact h.blt
  · exact h.srd.old h0 k hk
theorem LOk.tabs_far {w : World} {R : LRg} {ns : List (List UInt8)} (h : LOk w R ns) (ht : Tabs w) : R.q ≠ 2 ∧ R.q ≠ 0 := by
  obtain ⟨⟨rs, t, h1, h2⟩, fs, t', h3, h4⟩ := ht
  have hk := h.blk
  unfold Blk at hk h1 h3
  refine ⟨fun e => ?_, fun e => ?_⟩
  · rw [e, h1] at hk
    have := congrArg Array.size (Obj.cells.inj (Option.some.inj hk)).1
    rw [h2.1] at this
    cases this
  · rw [e, h3] at hk
    have := congrArg Array.size (Obj.cells.inj (Option.some.inj hk)).1
    rw [h4.1] at this
    cases this
theorem code_perm {ns ms : List (List UInt8)} (hl : ns.length = ms.length) (hm : ∀ t, t ∈ ns ↔ t ∈ ms) (s : List UInt8) : code ns s = code ms s := by
  unfold code
  by_cases h1 : s ∈ ms
  · rw [if_pos h1, if_pos ((hm s).2 h1)]
  · rw [if_neg h1, if_neg fun h => h1 ((hm s).1 h), hl]

theorem LOk.foot_lt {w : World} {R : LRg} {ns : List (List UInt8)} (h : LOk w R ns) : ∀ k, R.foot k → k < w.heap.size := by
  obtain ⟨B, hr⟩ := h.row
  rintro k (rfl | hk)
  · exact h.blk.lt
  · exact (World.ownsRow.lt hr k hk).2

section
variable {w0 w w' : World} {Kr : KRg} {R : LRg} {nk nl ns : List (List UInt8)}
theorem RS.same (h : RS w0 w Kr R nk nl) (hu : Upd noBlk w w') : RS w0 w' Kr R nk nl := ⟨h.tabs.none hu, h.ring.same hu, h.ref.same hu, h.upd.then_none hu, h.kge, h.lge, h.far⟩
theorem RS.turn {S : Nat → Prop} (h : RS w0 w Kr R nk nl) (hu : Upd S w w') (h2 : ¬ S 2) (h0 : ¬ S 0) (hK : ∀ k, Kr.foot k → ¬ S k) (hR : ∀ k, R.foot k → ¬ S k) (hS : ∀ k, S k → w0.heap.size ≤ k) : RS w0 w' Kr R nk nl :=
  ⟨h.tabs.upd hu h2 h0, h.ring.upd hu hK, h.ref.upd hu hR, h.upd.trans hu fun k hk => .inr (hS k hk), h.kge, h.lge, h.far⟩
theorem RS.enroll (h : RS w0 w Kr R ns ns) (s : List UInt8) (hs : s.length ≤ maxLen) :
    Calls Tryz.prog 7 #[.pointer (some ⟨Kr.p, 0, none⟩), str s] w fun e w' => e = .returned (.int .i64 (code ns s)) ∧ RS w0 w' Kr R (names' ns s) ns ∧ Upd (F3 Kr R.q) w w' := by
  refine (enroll_any Kr ns s w h.ring h.tabs hs).mono ?_
  rintro e w' ⟨he, hk, hu⟩
  obtain ⟨a1, a2, a3, a4⟩ := h.ring.tabs_far h.tabs
  exact ⟨he, ⟨h.tabs.upd hu (show ¬ (2 = Kr.p ∨ 2 = Kr.bk) by omega) (show ¬ (0 = Kr.p ∨ 0 = Kr.bk) by omega), hk,
    h.ref.upd hu (by
      rintro k hf (rfl | rfl)
      · exact h.far _ (.inl rfl) hf
      · exact h.far _ (.inr (.inl rfl)) hf), h.upd.trans hu (by
      rintro k (rfl | rfl)
      · exact .inr (h.kge _ (.inl rfl))
      · exact .inr (h.kge _ (.inr (.inl rfl)))), h.kge, h.lge, h.far⟩, hu.mono fun k _ hk => hk.elim .inl fun h => .inr (.inl h)⟩
theorem RS.lenroll (h : RS w0 w Kr R nk ns) (s : List UInt8) (hnk : nk = names' ns s) :
    Calls Tryz.prog 8 #[.pointer (some ⟨R.q, 0, none⟩), str s] w fun e w' => ∃ (R' : LRg) (ms : List (List UInt8)), e = .returned (.int .i64 (code ns s)) ∧ R'.q = R.q ∧ RS w0 w' Kr R' ms ms ∧ Upd (F3 Kr R.q) w w' ∧ ms.length = (names' ns s).length ∧ ∀ t, t ∈ ms ↔ t ∈ names' ns s := by
  refine (lenroll_any R ns s w h.ref).mono ?_
  rintro e w' ⟨R', ms, he, hq, hl, hu, h1, h2, hf⟩
  obtain ⟨a1, a2⟩ := h.ref.tabs_far h.tabs
  subst hnk
  have hsz := h.upd.size
  refine ⟨R', ms, he, hq, ⟨h.tabs.upd hu (fun h => a1 h.symm) (fun h => a2 h.symm), (h.ring.upd hu (by rintro k hk rfl; exact h.far _ hk (.inl rfl))).perm h1 h2, hl, h.upd.trans hu (by rintro k rfl; exact .inr (h.lge _ (.inl rfl))), h.kge, fun k hk => ?_, fun k hk hk' => ?_⟩, hu.mono fun k _ hk => .inr (.inr hk), h1, h2⟩
  · rcases hf k hk with h3 | h3
    · exact h.lge k h3
    · omega
  · rcases hf k hk' with h3 | h3
    · exact h.far k hk h3
    · have := h.ring.foot_lt k hk
      omega
theorem RS.pnew (h : RS w0 w Kr R ns nl) (s : List UInt8) (hs : s.length ≤ maxLen) :
    Calls Tryz.prog 9 #[.pointer (some ⟨Kr.p, 0, none⟩), str s] w fun e w' => RS w0 w' Kr R ns nl ∧ Upd (F3 Kr R.q) w w' ∧ ((code2 ns s = 0 ∧ ∃ g, e = .returned (.tuple #[.pointer (some ⟨g, 0, none⟩), .int .i64 0]) ∧ w.heap.size ≤ g ∧ CtxB w' g Kr.p s) ∨ (code2 ns s ≠ 0 ∧ e = .returned (.tuple #[.pointer none, .int .i64 (code2 ns s)]))) := by
  refine (pnew_any Kr ns s w h.ring hs).mono ?_
  rintro e w' ⟨hk, hu, hr⟩
  obtain ⟨a1, a2, a3, a4⟩ := h.ring.tabs_far h.tabs
  exact ⟨⟨h.tabs.upd hu (fun h => a1 h.symm) (fun h => a2 h.symm), hk, h.ref.upd hu (by rintro k hf rfl; exact h.far _ (.inl rfl) hf), h.upd.trans hu (by rintro k rfl; exact .inr (h.kge _ (.inl rfl))), h.kge, h.lge, h.far⟩, hu.mono fun k _ hk => .inl hk, hr⟩
theorem RS.rnew (h : RS w0 w Kr R nk nl) (s : List UInt8) : Calls Tryz.prog 10 #[.pointer (some ⟨R.q, 0, none⟩), str s] w fun e w' => RS w0 w' Kr R nk nl ∧ Upd noBlk w w' ∧ ((code2 nl s = 0 ∧ ∃ g, e = .returned (.tuple #[.pointer (some ⟨g, 0, none⟩), .int .i64 0])) ∨ (code2 nl s ≠ 0 ∧ e = .returned (.tuple #[.pointer none, .int .i64 (code2 nl s)]))) := by
  refine (rnew_any R nl s w h.ref).mono ?_
  rintro e w' ⟨hu, hr⟩
  exact ⟨h.same hu, hu, hr⟩
end
end Go.Proofs.YtedaapcmcimepaaGreatDoor
