/-
  Principals, the program's and the document's; the document's ring takes a name, and tells whether it has one.
-/
import Derived.Test.YtedaapcmcimepaaGreatDoorRga
namespace Go.Proofs.YtedaapcmcimepaaGreatDoor
open Go.RowKit

/-- A text term. -/
def textTerm (s : List UInt8) : Value := .agg #[.int .i64 2, .int .i64 0, .string ⟨⟨s⟩⟩]
def TellsB (w : World) (b : Bool) (e : Ending) (w' : World) : Prop := e = .returned (.bool b) ∧ Upd noBlk w w'

set_option maxHeartbeats 1000000 in
theorem rconst_any (s : List UInt8) (w : World) : Calls Tryz.prog 38 #[textTerm s] w (TellsB w (decide (s.length ≤ 64))) := by
  unfold textTerm
  by_cases h : s.length ≤ 64
  · have h' : (s.length : Int) ≤ 64 := by omega
    rw [decide_eq_true h]
    go_enter Tryz.func38, Tryz.ntmps38
    go_wp2
    go_ret
    exact ⟨rfl, (Upd.refl noBlk w).alloc _⟩
  · have h' : ¬ (s.length : Int) ≤ 64 := by omega
    rw [decide_eq_false h]
    go_enter Tryz.func38, Tryz.ntmps38
    go_wp2
    go_ret
    exact ⟨rfl, (Upd.refl noBlk w).alloc _⟩

set_option maxHeartbeats 1000000 in
theorem pconst_any (s : List UInt8) (w : World) : Calls Tryz.prog 39 #[textTerm s] w (TellsB w (decide (s.length ≤ 64))) := by
  unfold textTerm
  by_cases h : s.length ≤ 64
  · have h' : (s.length : Int) ≤ 64 := by omega
    rw [decide_eq_true h]
    go_enter Tryz.func39, Tryz.ntmps39
    go_wp2
    go_ret
    exact ⟨rfl, (Upd.refl noBlk w).alloc _⟩
  · have h' : ¬ (s.length : Int) ≤ 64 := by omega
    rw [decide_eq_false h]
    go_enter Tryz.func39, Tryz.ntmps39
    go_wp2
    go_ret
    exact ⟨rfl, (Upd.refl noBlk w).alloc _⟩
/-- Is it a principal? -/
def good (s : List UInt8) : Bool := decide (s.length ≤ 64) && !s.isEmpty

set_option maxHeartbeats 1000000 in
theorem rprin_any (s : List UInt8) (w : World) : Calls Tryz.prog 20 #[textTerm s] w (TellsB w (good s)) := by
  have hc := Lib.hid fun W : World => rconst_any s W
  unfold textTerm at hc ⊢
  unfold good
  have hcell : ∀ W, Upd noBlk (w.alloc (.cells #[.int .i64 2, .int .i64 0, .string ⟨⟨s⟩⟩] 66)) W → W.cell? ⟨w.heap.size, 0, none⟩ = some (.int .i64 2) ∧ W.cell? ⟨w.heap.size, 2, none⟩ = some (.string ⟨⟨s⟩⟩) := fun W hu => by
    have hb := (Blk.new w 66 #[.int .i64 2, .int .i64 0, .string ⟨⟨s⟩⟩]).upd hu id
    exact ⟨by rw [hb.cell]; rfl, by rw [hb.cell]; rfl⟩
  have hcell' := Lib.hid hcell
  clear hcell
  by_cases h : s.length ≤ 64
  · rw [decide_eq_true h] at *
    cases s with
    | nil =>
      go_enter Tryz.func20, Tryz.ntmps20
      go_wp2_with (go_at_call 38; refine (hc.out _).mono ?_; rintro e w1 ⟨rfl, hu⟩; obtain ⟨x0, x2⟩ := hcell'.out _ hu; replace hu := Lib.hid hu)
      go_ret
      exact ⟨rfl, ((Upd.refl noBlk w).alloc _).then_none hu.out⟩
    | cons b r =>
      go_enter Tryz.func20, Tryz.ntmps20
      go_wp2_with (go_at_call 38; refine (hc.out _).mono ?_; rintro e w1 ⟨rfl, hu⟩; obtain ⟨x0, x2⟩ := hcell'.out _ hu; replace hu := Lib.hid hu)
      go_ret
      exact ⟨rfl, ((Upd.refl noBlk w).alloc _).then_none hu.out⟩
  · rw [decide_eq_false h] at *
    go_enter Tryz.func20, Tryz.ntmps20
    go_wp2_with (go_at_call 38; refine (hc.out _).mono ?_; rintro e w1 ⟨rfl, hu⟩; obtain ⟨x0, x2⟩ := hcell'.out _ hu; replace hu := Lib.hid hu)
    go_ret
    exact ⟨rfl, ((Upd.refl noBlk w).alloc _).then_none hu.out⟩

set_option maxHeartbeats 1000000 in
theorem pprin_any (s : List UInt8) (w : World) : Calls Tryz.prog 22 #[textTerm s] w (TellsB w (good s)) := by
  have hc := Lib.hid fun W : World => pconst_any s W
  unfold textTerm at hc ⊢
  unfold good
  have hcell : ∀ W, Upd noBlk (w.alloc (.cells #[.int .i64 2, .int .i64 0, .string ⟨⟨s⟩⟩] 66)) W → W.cell? ⟨w.heap.size, 0, none⟩ = some (.int .i64 2) ∧ W.cell? ⟨w.heap.size, 2, none⟩ = some (.string ⟨⟨s⟩⟩) := fun W hu => by
    have hb := (Blk.new w 66 #[.int .i64 2, .int .i64 0, .string ⟨⟨s⟩⟩]).upd hu id
    exact ⟨by rw [hb.cell]; rfl, by rw [hb.cell]; rfl⟩
  have hcell' := Lib.hid hcell
  clear hcell
  by_cases h : s.length ≤ 64
  · rw [decide_eq_true h] at *
    cases s with
    | nil =>
      go_enter Tryz.func22, Tryz.ntmps22
      go_wp2_with (go_at_call 39; refine (hc.out _).mono ?_; rintro e w1 ⟨rfl, hu⟩; obtain ⟨x0, x2⟩ := hcell'.out _ hu; replace hu := Lib.hid hu)
      go_ret
      exact ⟨rfl, ((Upd.refl noBlk w).alloc _).then_none hu.out⟩
    | cons b r =>
      go_enter Tryz.func22, Tryz.ntmps22
      go_wp2_with (go_at_call 39; refine (hc.out _).mono ?_; rintro e w1 ⟨rfl, hu⟩; obtain ⟨x0, x2⟩ := hcell'.out _ hu; replace hu := Lib.hid hu)
      go_ret
      exact ⟨rfl, ((Upd.refl noBlk w).alloc _).then_none hu.out⟩
  · rw [decide_eq_false h] at *
    go_enter Tryz.func22, Tryz.ntmps22
    go_wp2_with (go_at_call 39; refine (hc.out _).mono ?_; rintro e w1 ⟨rfl, hu⟩; obtain ⟨x0, x2⟩ := hcell'.out _ hu; replace hu := Lib.hid hu)
    go_ret
    exact ⟨rfl, ((Upd.refl noBlk w).alloc _).then_none hu.out⟩

theorem strs_at {names : List (List UInt8)} {j : Nat} {t : List UInt8} (h : names[j]? = some t) : (strs names)[j]? = some (str t) := by simp [strs, h]
theorem strs_length (names : List (List UInt8)) : (strs names).length = names.length := by simp [strs]
section
variable {S : Nat → Prop} {w w' : World} {R : LRg} {names : List (List UInt8)}
theorem LOk.upd (h : LOk w R names) (hu : Upd S w w') (hf : ∀ k, R.foot k → ¬ S k) : LOk w' R names := by
  obtain ⟨B, hr⟩ := h.row
  exact ⟨h.blk.upd hu (hf _ (.inl rfl)), ⟨B, own_upd hr hu fun k hk => hf k (.inr hk)⟩, h.len⟩
theorem LOk.same (h : LOk w R names) (hu : Upd noBlk w w') : LOk w' R names := h.upd hu fun _ _ => id
end

set_option maxHeartbeats 1000000 in
theorem rhas_any (R : LRg) (names : List (List UInt8)) (s : List UInt8) (w : World) (hR : LOk w R names) : Calls Tryz.prog 21 #[.pointer (some ⟨R.q, 0, none⟩), str s] w fun e w' => e = .returned (.bool (decide (s ∈ names))) ∧ w = w' := by
  obtain ⟨n, hn⟩ : ∃ n, names.length = n := ⟨_, rfl⟩
  have hrow := own_rd hR.row.choose_spec
  have hlen := hR.len
  have cq : w.cell? ⟨R.q, 1, none⟩ = some R.lv := by rw [hR.blk.cell]; rfl
  rw [hn] at hrow hlen
  obtain ⟨-, A, c, hlv, hc1, hc2, -, hat⟩ := hrow
  rw [hlv] at cq
  replace hat := Lib.hid hat
  clear hR hlv
  unfold str
  go_enter Tryz.func21, Tryz.ntmps21
  go_wp2_with fail
  go_loopw [5] (fun i wr => ∃ k : Nat, k ≤ n ∧ i = .int .i64 k ∧ Hid (w = wr) ∧ s ∉ names.take k) (fun i _ => n - (intOf i).toNat)
  case atStart => exact ⟨0, Nat.zero_le _, rfl, Lib.hid rfl, by simp⟩
  case round =>
    obtain ⟨k, hk, rfl, hw, hnot⟩ := hrel
    obtain rfl := hw.out
    clear hw
    replace hnot := Lib.hid hnot
    by_cases hlt : k < n
    · obtain ⟨t, ht⟩ : ∃ t, names[k]? = some t := ⟨_, List.getElem?_eq_getElem (by omega)⟩
      obtain ⟨ad, rfl, hcell⟩ := hat.out k _ (strs_at ht)
      unfold str at hcell
      have q1 : (0 : Int) ≤ k := by omega
      have q2 : (k : Int) < n := by omega
      by_cases hts : t = s
      · subst hts
        have hmem : decide (t ∈ names) = true := decide_eq_true (List.mem_of_getElem? ht)
        replace hmem := Lib.hid hmem
        go_wp2
        go_ret
        exact ⟨by rw [hmem.out]; rfl, rfl⟩
      · have hts' : (t == s) = false := beq_false_of_ne hts
        go_wp2
        go_roundw
        case rel => exact ⟨k + 1, by omega, by go_num, Lib.hid trivial, by
          rw [List.take_add_one, ht]
          simp only [Option.toList_some, List.mem_append, List.mem_singleton, not_or]
          exact ⟨hnot.out, fun h => hts h.symm⟩⟩
        case measure => simp [intOf]; omega
    · obtain rfl : k = n := by omega
      have hmem : decide (s ∈ names) = false := decide_eq_false (by have := hnot.out; rw [← hn, List.take_length] at this; exact this)
      replace hmem := Lib.hid hmem
      go_wp2
      go_ret
      exact ⟨by rw [hmem.out]; rfl, rfl⟩
end Go.Proofs.YtedaapcmcimepaaGreatDoor
