/-
  SHA-256's eight, masked and New: they end, and of what kind their answers are.
-/
import Derived.Test.YtedaapcmcimepaaGreatDoorTrn
namespace Go.Proofs.YtedaapcmcimepaaGreatDoor
open Go.RowKit

/-- Bytes as cells. -/
def B8s (cs : Array Value) (n : Nat) : Prop := cs.size = n ∧ ∀ j, j < n → ∃ b : UInt8, cs[j]? = some (bv b)
theorem u8_bv (x : Int) : ∃ b : UInt8, Value.int .u8 (IntKind.u8.wrap x) = bv b := by
  refine ⟨UInt8.ofNat (x % 256).toNat, ?_⟩
  unfold bv
  rw [UInt8.toNat_ofNat']
  congr 1
  simp only [IntKind.wrap, IntKind.signed, IntKind.bits]
  simp
  omega
theorem mod_bv (x : Int) : ∃ b : UInt8, Value.int .u8 (x % 256) = bv b := by
  refine ⟨UInt8.ofNat (x % 256).toNat, ?_⟩
  unfold bv
  rw [UInt8.toNat_ofNat']
  congr 1
  omega
theorem B8s.set {cs : Array Value} {n : Nat} (h : B8s cs n) (j : Nat) (b : UInt8) : B8s (cs.setIfInBounds j (bv b)) n := by
  refine ⟨by rw [Array.size_setIfInBounds]; exact h.1, fun k hk => ?_⟩
  rw [Array.getElem?_setIfInBounds]
  by_cases hj : j = k
  · subst hj
    have hlt : j < cs.size := by rw [h.1]; exact hk
    exact ⟨b, by simp [hlt]⟩
  · obtain ⟨u, hu⟩ := h.2 k hk
    exact ⟨u, by simp [hj, hu]⟩
theorem B8s.list {cs : Array Value} {n : Nat} (h : B8s cs n) : ∃ l : List UInt8, l.length = n ∧ cs.toList = bvs l := by
  obtain ⟨h1, h2⟩ := h
  obtain ⟨cl⟩ := cs
  subst h1
  simp only [List.size_toArray, List.getElem?_toArray] at h2 ⊢
  induction cl with
  | nil => exact ⟨[], rfl, rfl⟩
  | cons u r ih =>
    obtain ⟨l, hl, hr⟩ := ih fun j hj => by
      obtain ⟨b, hb⟩ := h2 (j + 1) (by simp; omega)
      exact ⟨b, by simpa using hb⟩
    obtain ⟨b, hb⟩ := h2 0 (by simp)
    refine ⟨b :: l, by simp [hl], ?_⟩
    simp only [List.getElem?_cons_zero, Option.some.injEq] at hb
    simp [bvs, hb] at hr ⊢
    exact hr
theorem B8s.one {cs : Array Value} {n : Nat} (h : B8s cs n) : cs.all (·.oneCell') = true := by
  obtain ⟨l, -, hl⟩ := h.list
  rw [Array.all_eq_true_iff_forall_mem]
  intro u hu
  exact bvs_one l u (by rw [← hl]; simpa using hu)
theorem B8s.replicate (n : Nat) : B8s (Array.replicate n (bv 0)) n := ⟨by simp, fun j hj => ⟨0, by simp [hj]⟩⟩
theorem B8s.of {cs : Array Value} {n : Nat} (h : cs = Array.replicate n (bv 0)) : B8s cs n := h ▸ B8s.replicate n
/-- A block of bytes reads as a slice. -/
theorem B8s.rd {w : World} {g : Nat} {t : TypeId} {cs : Array Value} {n : Nat} (h : B8s cs n) (hb : Blk w g t cs) (hn : n ≤ maxLen) : ∃ l : List UInt8, l.length = n ∧ RdB w (.slice (some ⟨g, 0, none⟩) n n) l := by
  obtain ⟨l, hl, hc⟩ := h.list
  refine ⟨l, hl, ?_⟩
  unfold RdB
  have := blk_rd hb 1 n hn (by rw [h.1]; omega)
  rw [hc] at this
  rw [hl]
  exact this

/-- A slice of n bytes is told, new; nothing old has turned. -/
def TellsN (n : Nat) (w : World) (e : Ending) (w' : World) : Prop := ∃ g l, e = .returned (.slice (some ⟨g, 0, none⟩) n n) ∧ l.length = n ∧ w.heap.size ≤ g ∧ RdB w' (.slice (some ⟨g, 0, none⟩) n n) l ∧ Upd noBlk w w'

theorem alloc_bytes {C : World → Prop} {w : World} {A : Array Value} {t : TypeId} {n : Nat} (hA : B8s A n)
    (h : ∀ (w1 : World) (cs : Array Value), B8s cs n → Blk w1 w.heap.size t cs → Upd noBlk w w1 → C w1) : C (w.alloc (.cells A t)) :=
  h _ A hA (Blk.new w t A) ((Upd.refl noBlk w).alloc _)

set_option maxHeartbeats 1000000 in
theorem eight_any (x : Int) (w : World) : Calls Tryz.prog 59 #[.int .u64 x] w (TellsN 8 w) := by
  go_enter Tryz.func59, Tryz.ntmps59
  go_wp2_with fail
  refine alloc_bytes (C := fun w1 => Code.wp _ _ _ _ w1) (n := 8) (B8s.of rfl) ?_
  intro w1 cs hcs hb hu
  generalize hHe : w.heap.size = H at hb ⊢
  replace hHe := Lib.hid hHe
  replace hcs := Lib.hid hcs
  replace hb := Lib.hid hb
  replace hu := Lib.hid hu
  go_wp2_with fail
  go_loopw [5] (fun i wr => ∃ (k : Nat) (cs : Array Value), k ≤ 8 ∧ i = .int .i64 k ∧ B8s cs 8 ∧ Blk wr H 165 cs ∧ Upd noBlk w wr) (fun i _ => 8 - (intOf i).toNat)
  case atStart => exact ⟨0, cs, by omega, rfl, hcs.out, hb.out, hu.out⟩
  case round =>
    clear hcs hb hu
    obtain ⟨k, cs, hk, rfl, hcs, hb, hu⟩ := hrel
    by_cases hlt : k < 8
    · obtain ⟨b0, z0⟩ := hcs.2 k hlt
      have c0 : wr.cell? ⟨H, k, none⟩ = some (bv b0) := by rw [hb.cell]; exact z0
      have f0 : wr.frozen? ⟨H, k, none⟩ = false := hb.free _ rfl
      clear z0
      replace hcs := Lib.hid hcs
      replace hb := Lib.hid hb
      replace hu := Lib.hid hu
      have g1 : IntKind.i64.wrap (8 * (k : Int)) = 8 * k := by rw [IntKind.wrap_i64]; omega
      have g2 : IntKind.i64.wrap (56 - 8 * (k : Int)) = 56 - 8 * k := by rw [IntKind.wrap_i64]; omega
      have g3 : (0 : Int) ≤ 56 - 8 * k := by omega
      have g4 : 8 * (k : Int) ≤ 56 := by omega
      have q8 : (0 : Int) ≤ k := by omega
      have q9 : (k : Int) < 8 := by omega
      go_wp2
      obtain ⟨b1, hb1⟩ := mod_bv (x / 2 ^ (56 - 8 * k))
      rw [hb1]
      clear hb1
      go_roundw
      case rel => exact ⟨k + 1, _, by omega, by go_num, hcs.out.set k b1, hb.out.set k _, hu.out.setCell (p := ⟨H, k, none⟩) (.inr (by have := hHe.out; simp only; omega)) _⟩
      case measure => simp [intOf]; omega
    · obtain rfl : k = 8 := by omega
      rw [show ((8 : Nat) : Int) = 8 from rfl]
      clear hlt hk
      obtain ⟨l, hl, hrd⟩ := hcs.rd hb (by simp [maxLen])
      have hge : w.heap.size ≤ H := Nat.le_of_eq hHe.out
      clear hb hcs
      replace hrd := Lib.hid hrd
      replace hu := Lib.hid hu
      go_wp2
      go_ret
      exact ⟨H, l, rfl, hl, hge, hrd.out, hu.out⟩

theorem xor_bv (a m : Int) : ∃ b : UInt8, Value.int .u8 (Go.bits .xor .u8 a m) = bv b := u8_bv _

set_option maxHeartbeats 1000000 in
theorem masked_any (ds : Array Value) (m : Int) (w : World) (hd : B8s ds 64) : Calls Tryz.prog 36 #[.agg ds, .int .u8 m] w (TellsN 64 w) := by
  replace hd := Lib.hid hd
  go_enter Tryz.func36, Tryz.ntmps36
  go_wp2_with fail
  refine alloc_bytes (C := fun w1 => Code.wp _ _ _ _ w1) (n := 64) hd.out ?_
  intro w1 cs hcs hb hu
  generalize hHe : w.heap.size = H at hb ⊢
  replace hHe := Lib.hid hHe
  replace hcs := Lib.hid hcs
  replace hb := Lib.hid hb
  replace hu := Lib.hid hu
  go_wp2_with fail
  go_loopw [6] (fun i wr => ∃ (k : Nat) (cs : Array Value), k ≤ 64 ∧ i = .int .i64 k ∧ B8s cs 64 ∧ Blk wr H 107 cs ∧ Upd noBlk w wr) (fun i _ => 64 - (intOf i).toNat)
  case atStart => exact ⟨0, cs, by omega, rfl, hcs.out, hb.out, hu.out⟩
  case round =>
    clear hcs hb hu
    obtain ⟨k, cs, hk, rfl, hcs, hb, hu⟩ := hrel
    by_cases hlt : k < 64
    · obtain ⟨b0, z0⟩ := hcs.2 k hlt
      have c0 : wr.cell? ⟨H, k, none⟩ = some (.int .u8 b0.toNat) := by rw [hb.cell]; exact z0
      have f0 : wr.frozen? ⟨H, k, none⟩ = false := hb.free _ rfl
      clear z0
      replace hcs := Lib.hid hcs
      replace hb := Lib.hid hb
      replace hu := Lib.hid hu
      have q8 : (0 : Int) ≤ k := by omega
      have q9 : (k : Int) < 64 := by omega
      go_wp2
      obtain ⟨b1, hb1⟩ := xor_bv b0.toNat m
      rw [hb1]
      clear hb1
      go_roundw
      case rel => exact ⟨k + 1, _, by omega, by go_num, hcs.out.set k b1, hb.out.set k _, hu.out.setCell (p := ⟨H, k, none⟩) (.inr (by have := hHe.out; simp only; omega)) _⟩
      case measure => simp [intOf]; omega
    · obtain rfl : k = 64 := by omega
      rw [show ((64 : Nat) : Int) = 64 from rfl]
      clear hlt hk
      obtain ⟨l, hl, hrd⟩ := hcs.rd hb (by simp [maxLen])
      have hge : w.heap.size ≤ H := Nat.le_of_eq hHe.out
      clear hb hcs
      replace hrd := Lib.hid hrd
      replace hu := Lib.hid hu
      go_wp2
      go_ret
      exact ⟨H, l, rfl, hl, hge, hrd.out, hu.out⟩

/-- A hasher's cells: eight words, 64 bytes, how many came. -/
structure HsC (cs : Array Value) (n : Int) : Prop where
  size : cs.size = 73
  words : Has8 cs
  bytes : ∀ j, 8 ≤ j → j < 72 → ∃ b : UInt8, cs[j]? = some (bv b)
  num : cs[72]? = some (.int .i64 n)

theorem HsC.set {cs : Array Value} {n : Int} (h : HsC cs n) (k : Nat) (hk : k < 8) (y : Int) : HsC (cs.setIfInBounds k (.int .u32 y)) n := by
  refine ⟨by rw [Array.size_setIfInBounds]; exact h.size, fun j hj => ?_, fun j h1 h2 => ?_, ?_⟩
  · obtain ⟨z, hz⟩ := h.words j hj
    rw [Array.getElem?_setIfInBounds]
    by_cases hkj : k = j
    · subst hkj
      have hlt : k < cs.size := (Array.getElem?_eq_some_iff.1 hz).1
      exact ⟨y, by simp [hlt]⟩
    · exact ⟨z, by simp [hkj, hz]⟩
  · rw [Array.getElem?_setIfInBounds, if_neg (by omega)]
    exact h.bytes j h1 h2
  · rw [Array.getElem?_setIfInBounds, if_neg (by omega)]
    exact h.num
theorem zeroH : HsC Tryz.zeroCells133 0 := by
  have h : Tryz.zeroCells133 = Array.replicate 8 (.int .u32 0) ++ Array.replicate 64 (bv 0) ++ #[.int .i64 0] := by kernel_rfl
  rw [h]
  refine ⟨by simp, fun j hj => ⟨0, ?_⟩, fun j h1 h2 => ⟨0, ?_⟩, ?_⟩
  · rw [Array.getElem?_append_left (by simp; omega), Array.getElem?_append_left (by simp; omega)]
    simp [hj]
  · rw [Array.getElem?_append_left (by simp; omega), Array.getElem?_append_right (by simp; omega), Array.getElem?_replicate, if_pos (by simp; omega)]
  · rw [Array.getElem?_append_right (by simp)]
    simp

def NewP (w : World) (e : Ending) (w' : World) : Prop := ∃ g cs, e = .returned (.pointer (some ⟨g, 0, none⟩)) ∧ w.heap.size ≤ g ∧ HsC cs 0 ∧ Blk w' g 133 cs ∧ Upd noBlk w w'
theorem W32s.eight {fs : Array Value} (h : W32s fs 8) : ∃ a0 a1 a2 a3 a4 a5 a6 a7 : Int, fs = #[.int .u32 a0, .int .u32 a1, .int .u32 a2, .int .u32 a3, .int .u32 a4, .int .u32 a5, .int .u32 a6, .int .u32 a7] := by
  obtain ⟨h1, h2⟩ := h
  obtain ⟨fl⟩ := fs
  simp only [List.size_toArray, List.getElem?_toArray] at h1 h2
  match fl, h1 with
  | [v0, v1, v2, v3, v4, v5, v6, v7], _ =>
    obtain ⟨a0, rfl⟩ := h2 0 v0 rfl
    obtain ⟨a1, rfl⟩ := h2 1 v1 rfl
    obtain ⟨a2, rfl⟩ := h2 2 v2 rfl
    obtain ⟨a3, rfl⟩ := h2 3 v3 rfl
    obtain ⟨a4, rfl⟩ := h2 4 v4 rfl
    obtain ⟨a5, rfl⟩ := h2 5 v5 rfl
    obtain ⟨a6, rfl⟩ := h2 6 v6 rfl
    obtain ⟨a7, rfl⟩ := h2 7 v7 rfl
    exact ⟨a0, a1, a2, a3, a4, a5, a6, a7, rfl⟩

set_option maxRecDepth 100000 in
set_option maxHeartbeats 1000000 in
theorem newh_any (w : World) (ht : Tabs w) : Calls Tryz.prog 34 #[] w (NewP w) := by
  obtain ⟨-, fs, t, hb, hf⟩ := ht
  have i131 : (Tryz.prog.info? 131).map (·.size) = some 8 := by kernel_rfl
  have i131' : (Tryz.prog.info? 131).map (·.size) = some fs.size := by rw [hf.1]; exact i131
  obtain ⟨a0, a1, a2, a3, a4, a5, a6, a7, rfl⟩ := hf.eight
  replace hb := Lib.hid hb
  replace i131' := Lib.hid i131'
  clear hf i131
  go_enter Tryz.func34, Tryz.ntmps34
  go_wp2_with (refine wpList_loadBlk rfl _ 131 rfl 0 rfl _ _ hb.out _ Tryz.underlying131 rfl i131'.out ?_)
  go_ret
  exact ⟨_, _, rfl, Nat.le_refl _, (((((((zeroH.set 0 (by omega) a0).set 1 (by omega) a1).set 2 (by omega) a2).set 3 (by omega) a3).set 4 (by omega) a4).set 5 (by omega) a5).set 6 (by omega) a6).set 7 (by omega) a7, Blk.new w 133 _, (Upd.refl noBlk w).alloc _⟩

end Go.Proofs.YtedaapcmcimepaaGreatDoor
