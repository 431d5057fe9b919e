/-
  A context is made, the program's and the document's.
-/
import Derived.Test.YtedaapcmcimepaaGreatDoorRgd
namespace Go.Proofs.YtedaapcmcimepaaGreatDoor
open Go.RowKit

/-- What New answers. -/
def code2 (names : List (List UInt8)) (s : List UInt8) : Int := if good s = true then if s ∈ names then 0 else 182 else 36

theorem KOk.same {w w' : World} {Kr : KRg} {names : List (List UInt8)} (h : KOk w Kr names) (hu : Upd noBlk w w') : KOk w' Kr names := h.upd hu fun _ _ => id

def RNewP (w : World) (c : Int) (e : Ending) (w' : World) : Prop := Upd noBlk w w' ∧ ((c = 0 ∧ ∃ g, e = .returned (.tuple #[.pointer (some ⟨g, 0, none⟩), .int .i64 0])) ∨ (c ≠ 0 ∧ e = .returned (.tuple #[.pointer none, .int .i64 c])))

set_option maxHeartbeats 1000000 in
theorem rnew_any (R : LRg) (names : List (List UInt8)) (s : List UInt8) (w : World) (hR : LOk w R names) : Calls Tryz.prog 10 #[.pointer (some ⟨R.q, 0, none⟩), str s] w (RNewP w (code2 names s)) := by
  have hp := Lib.hid (rprin_any s w)
  have hh := Lib.hid fun w1 h => rhas_any R names s w1 (hR.same h)
  unfold textTerm at hp
  unfold str at hh ⊢
  unfold code2
  by_cases hg : good s = true
  · rw [hg] at hp ⊢
    by_cases hin : s ∈ names
    · rw [decide_eq_true hin] at hh
      rw [if_pos rfl, if_pos hin]
      go_enter Tryz.func10, Tryz.ntmps10
      go_wp2_with (first | (go_at_call 20; refine hp.out.mono ?_; rintro e w1 ⟨rfl, hu⟩; replace hu := Lib.hid hu) | (go_at_call 21; refine (hh.out _ hu.out).mono ?_; rintro e w2 ⟨rfl, rfl⟩))
      go_ret2
      exact ⟨hu.out.alloc _, .inl ⟨rfl, _, rfl⟩⟩
    · rw [decide_eq_false hin] at hh
      rw [if_pos rfl, if_neg hin]
      go_enter Tryz.func10, Tryz.ntmps10
      go_wp2_with (first | (go_at_call 20; refine hp.out.mono ?_; rintro e w1 ⟨rfl, hu⟩; replace hu := Lib.hid hu) | (go_at_call 21; refine (hh.out _ hu.out).mono ?_; rintro e w2 ⟨rfl, rfl⟩))
      go_ret2
      exact ⟨hu.out, .inr ⟨by decide, rfl⟩⟩
  · rw [Bool.eq_false_iff.2 hg] at hp ⊢
    rw [if_neg (by decide)]
    go_enter Tryz.func10, Tryz.ntmps10
    go_wp2_with (go_at_call 20; refine hp.out.mono ?_; rintro e w1 ⟨rfl, hu⟩; replace hu := Lib.hid hu)
    go_ret2
    exact ⟨hu.out, .inr ⟨by decide, rfl⟩⟩

/-- A context without clauses, of this name, on this ring. -/
def CtxB (w : World) (g : Nat) (p : Nat) (s : List UInt8) : Prop := ∃ n, Blk w g 84 #[.pointer (some ⟨p, 0, none⟩), .string ⟨⟨s⟩⟩, .slice none 0 0, .slice none 0 0, n, .slice none 0 0]

def PNewP (w : World) (Kr : KRg) (names : List (List UInt8)) (s : List UInt8) (c : Int) (e : Ending) (w' : World) : Prop :=
  KOk w' Kr names ∧ Upd (fun k => k = Kr.p) w w' ∧ ((c = 0 ∧ ∃ g, e = .returned (.tuple #[.pointer (some ⟨g, 0, none⟩), .int .i64 0]) ∧ w.heap.size ≤ g ∧ CtxB w' g Kr.p s) ∨ (c ≠ 0 ∧ e = .returned (.tuple #[.pointer none, .int .i64 c])))

set_option maxHeartbeats 1000000 in
theorem pnew_any (Kr : KRg) (names : List (List UInt8)) (s : List UInt8) (w : World) (hk : KOk w Kr names) (hs : s.length ≤ maxLen) : Calls Tryz.prog 9 #[.pointer (some ⟨Kr.p, 0, none⟩), str s] w (PNewP w Kr names s (code2 names s)) := by
  have hp := Lib.hid (pprin_any s w)
  have hh := Lib.hid fun w1 (h : Upd noBlk w w1) => khas_any Kr names s w1 (hk.same h) hs
  replace hk := Lib.hid hk
  unfold textTerm at hp
  unfold str at hh ⊢
  unfold code2
  by_cases hg : good s = true
  · rw [hg] at hp ⊢
    by_cases hin : s ∈ names
    · rw [decide_eq_true hin] at hh
      rw [if_pos rfl, if_pos hin]
      go_enter Tryz.func9, Tryz.ntmps9
      go_wp2_with (first | (go_at_call 22; refine hp.out.mono ?_; rintro e w1 ⟨rfl, hu⟩; replace hu := Lib.hid hu) | (go_at_call 23; refine (hh.out _ hu.out).mono ?_; rintro e w2 ⟨rfl, hk2, hu2⟩; replace hk2 := Lib.hid hk2; replace hu2 := Lib.hid hu2))
      go_ret2
      have u3 := ((Upd.refl noBlk w2).alloc (.cells #[.int .u32 0, .int .i32 0, .int .u32 0, .slice none 0 0, .slice none 0 0, .slice none 0 0, .int .i64 0, .int .i64 0] 78)).alloc (.cells #[.pointer (some ⟨Kr.p, 0, none⟩), .string ⟨⟨s⟩⟩, .slice none 0 0, .slice none 0 0, .pointer (some ⟨w2.heap.size, 0, none⟩), .slice none 0 0] 84)
      have hb := Blk.new (w2.alloc (.cells #[.int .u32 0, .int .i32 0, .int .u32 0, .slice none 0 0, .slice none 0 0, .slice none 0 0, .int .i64 0, .int .i64 0] 78)) 84 #[.pointer (some ⟨Kr.p, 0, none⟩), .string ⟨⟨s⟩⟩, .slice none 0 0, .slice none 0 0, .pointer (some ⟨w2.heap.size, 0, none⟩), .slice none 0 0]
      have hsz := hu.out.size
      have hsz2 := hu2.out.size
      exact ⟨hk2.out.same u3, ((hu.out.of_none _).trans_same hu2.out).then_none u3, .inl ⟨rfl, w2.heap.size + 1, rfl, by omega, _, by simpa using hb⟩⟩
    · rw [decide_eq_false hin] at hh
      rw [if_pos rfl, if_neg hin]
      go_enter Tryz.func9, Tryz.ntmps9
      go_wp2_with (first | (go_at_call 22; refine hp.out.mono ?_; rintro e w1 ⟨rfl, hu⟩; replace hu := Lib.hid hu) | (go_at_call 23; refine (hh.out _ hu.out).mono ?_; rintro e w2 ⟨rfl, hk2, hu2⟩; replace hk2 := Lib.hid hk2; replace hu2 := Lib.hid hu2))
      go_ret2
      exact ⟨hk2.out, (hu.out.of_none _).trans_same hu2.out, .inr ⟨by decide, rfl⟩⟩
  · rw [Bool.eq_false_iff.2 hg] at hp ⊢
    rw [if_neg (by decide)]
    go_enter Tryz.func9, Tryz.ntmps9
    go_wp2_with (go_at_call 22; refine hp.out.mono ?_; rintro e w1 ⟨rfl, hu⟩; replace hu := Lib.hid hu)
    go_ret2
    exact ⟨hk.out.same hu.out, hu.out.of_none _, .inr ⟨by decide, rfl⟩⟩
end Go.Proofs.YtedaapcmcimepaaGreatDoor
