/-
  SHA-256's schedule: it ends, with 64 words.
-/
import Derived.Test.YtedaapcmcimepaaGreatDoorArr
import Derived.Deep.WholeRow
namespace Go.Proofs.YtedaapcmcimepaaGreatDoor
open Go.RowKit

def isW : Value → Bool
  | .int .u32 _ => true
  | _ => false
/-- Words of 32 bits. -/
def W32s (cs : Array Value) (n : Nat) : Prop := cs.size = n ∧ ∀ (j : Nat) (u : Value), cs[j]? = some u → ∃ y : Int, u = .int .u32 y
theorem W32s.of {cs : Array Value} {n : Nat} (h : cs.size = n) (ha : cs.toList.all isW = true) : W32s cs n := by
  refine ⟨h, fun j u hj => ?_⟩
  have hm : u ∈ cs.toList := by
    rw [← Array.getElem?_toList] at hj
    exact List.mem_of_getElem? hj
  have h1 := List.all_eq_true.1 ha u hm
  unfold isW at h1
  split at h1
  · exact ⟨_, rfl⟩
  · cases h1
theorem W32s.at_ {cs : Array Value} {n j : Nat} (h : W32s cs n) (hj : j < n) : ∃ y : Int, cs[j]? = some (.int .u32 y) := by
  have hj' : j < cs.size := by rw [h.1]; exact hj
  obtain ⟨y, hy⟩ := h.2 j _ (Array.getElem?_eq_getElem hj')
  exact ⟨y, by rw [Array.getElem?_eq_getElem hj', hy]⟩
theorem W32s.set {cs : Array Value} {n j : Nat} (h : W32s cs n) (y : Int) : W32s (cs.setIfInBounds j (.int .u32 y)) n := by
  refine ⟨by rw [Array.size_setIfInBounds]; exact h.1, fun k u hk => ?_⟩
  rw [Array.getElem?_setIfInBounds] at hk
  split at hk
  · split at hk
    · exact ⟨y, (Option.some.inj hk).symm⟩
    · cases hk
  · exact h.2 k u hk
/-- Two blocks of words in new memory. -/
theorem alloc_two {C : World → Prop} {w : World} {A B : Array Value} {t : TypeId} (hA : W32s A 64) (hB : W32s B 64)
    (h : ∀ (w1 : World) (cs ds : Array Value), W32s cs 64 → W32s ds 64 → Blk w1 w.heap.size t cs → Blk w1 (w.heap.size + 1) t ds → Upd noBlk w w1 → C w1) : C ((w.alloc (.cells A t)).alloc (.cells B t)) := by
  refine h _ A B hA hB ((Blk.new w t A).alloc _) ?_ (((Upd.refl noBlk w).alloc _).alloc _)
  have h1 := Blk.new (w.alloc (.cells A t)) t B
  simpa using h1
theorem add_pos_ (ad : Addr) (n : Nat) (hn : n ≠ 0) : ad.add n = ⟨ad.block, ad.off + n, none⟩ := by
  unfold Addr.add
  rw [if_neg hn]
def SchedP (w : World) (e : Ending) (w' : World) : Prop := ∃ cs, W32s cs 64 ∧ e = .returned (.agg cs) ∧ Upd noBlk w w'

set_option maxRecDepth 100000 in
set_option maxHeartbeats 2000000 in
theorem schedule_any (v : Value) (l : List UInt8) (w : World) (hv : RdB w v l) (hl : l.length = 64) : Calls Tryz.prog 85 #[v] w (SchedP w) := by
  obtain ⟨hx, A, c, rfl, hc1, hc2, -, hat⟩ := hv
  rw [hl] at hc1 hx
  have hcel : ∀ j : Nat, j < 64 → ∃ (ad : Addr) (b : UInt8), A = some ad ∧ w.cell? (ad.add j) = some (.int .u8 b.toNat) := fun j hj => by
    obtain ⟨ad, h1, h2⟩ := hat j (bv (l[j]'(by omega))) (bvs_at (List.getElem?_eq_getElem _))
    exact ⟨ad, _, h1, h2⟩
  rw [hl]
  simp only [maxLen] at hc2
  replace hcel := Lib.hid hcel
  clear hat hx hl l
  go_enter Tryz.func85, Tryz.ntmps85
  go_wp2_with fail
  refine alloc_two (C := fun w1 => Code.wp _ _ _ _ w1) (W32s.of rfl rfl) (W32s.of rfl rfl) ?_
  intro w1 cs0 ds0 hcs0 hds0 hb0 hd0 hu0
  generalize hHe : w.heap.size = H at hb0 hd0 ⊢
  replace hHe := Lib.hid hHe
  replace hcs0 := Lib.hid hcs0
  replace hds0 := Lib.hid hds0
  replace hb0 := Lib.hid hb0
  replace hd0 := Lib.hid hd0
  replace hu0 := Lib.hid hu0
  go_loopw [10] (fun i wr => ∃ (k : Nat) (ds : Array Value), k ≤ 16 ∧ i = .int .i64 k ∧ W32s ds 64 ∧ Blk wr (H + 1) 162 ds ∧ Blk wr H 162 cs0 ∧ Upd noBlk w wr) (fun i _ => 16 - (intOf i).toNat)
  case atStart => exact ⟨0, ds0, Nat.zero_le _, rfl, hds0.out, hd0.out, hb0.out, hu0.out⟩
  case round =>
    obtain ⟨k, ds, hk, rfl, hds, hd, hb, hu⟩ := hrel
    by_cases hlt : k < 16
    · obtain ⟨ad, b0, rfl, x0⟩ := hcel.out (4 * k) (by omega)
      obtain ⟨ad1, b1, h1, x1⟩ := hcel.out (4 * k + 1) (by omega)
      obtain ⟨ad2, b2, h2, x2⟩ := hcel.out (4 * k + 2) (by omega)
      obtain ⟨ad3, b3, h3, x3⟩ := hcel.out (4 * k + 3) (by omega)
      obtain rfl := Option.some.inj h1
      obtain rfl := Option.some.inj h2
      obtain rfl := Option.some.inj h3
      clear h1 h2 h3
      replace x0 := hu.cell_some x0 id
      replace x1 := hu.cell_some x1 id
      replace x2 := hu.cell_some x2 id
      replace x3 := hu.cell_some x3 id
      rw [add_pos_ _ _ (by omega)] at x1 x2 x3
      have y0 : ∃ y, wr.cell? ⟨H + 1, k, none⟩ = some y := by
        obtain ⟨y, hy⟩ := hds.at_ (show k < 64 by omega)
        exact ⟨_, by rw [hd.cell]; exact hy⟩
      obtain ⟨y, y0⟩ := y0
      have y1 : wr.frozen? ⟨H + 1, k, none⟩ = false := hd.free _ rfl
      replace hds := Lib.hid hds
      replace hd := Lib.hid hd
      replace hb := Lib.hid hb
      replace hu := Lib.hid hu
      have g0 : IntKind.i64.wrap (4 * (k : Int)) = 4 * k := by rw [IntKind.wrap_i64]; omega
      have g1 : IntKind.i64.wrap (4 * (k : Int) + 1) = 4 * k + 1 := by rw [IntKind.wrap_i64]; omega
      have g2 : IntKind.i64.wrap (4 * (k : Int) + 2) = 4 * k + 2 := by rw [IntKind.wrap_i64]; omega
      have g3 : IntKind.i64.wrap (4 * (k : Int) + 3) = 4 * k + 3 := by rw [IntKind.wrap_i64]; omega
      have n0 : (4 * (k : Int)).toNat = 4 * k := by omega
      have n1 : (4 * (k : Int) + 1).toNat = 4 * k + 1 := by omega
      have n2 : (4 * (k : Int) + 2).toNat = 4 * k + 2 := by omega
      have n3 : (4 * (k : Int) + 3).toNat = 4 * k + 3 := by omega
      have q0 : (0 : Int) ≤ 4 * k := by omega
      have q1 : (4 * (k : Int)) < 64 := by omega
      have q2 : (0 : Int) ≤ 4 * k + 1 := by omega
      have q3 : (4 * (k : Int)) + 1 < 64 := by omega
      have q4 : (0 : Int) ≤ 4 * k + 2 := by omega
      have q5 : (4 * (k : Int)) + 2 < 64 := by omega
      have q6 : (0 : Int) ≤ 4 * k + 3 := by omega
      have q7 : (4 * (k : Int)) + 3 < 64 := by omega
      have q8 : (0 : Int) ≤ k := by omega
      have q9 : (k : Int) < 64 := by omega
      go_wp2_with fail
      have hS : wr.drew.cell? (ad.add (4 * k)) = some (.int .u8 b0.toNat) ∧ wr.drew.cell? ⟨ad.block, ad.off + (4 * k + 1), none⟩ = some (.int .u8 b1.toNat) ∧ wr.drew.cell? ⟨ad.block, ad.off + (4 * k + 2), none⟩ = some (.int .u8 b2.toNat) ∧ wr.drew.cell? ⟨ad.block, ad.off + (4 * k + 3), none⟩ = some (.int .u8 b3.toNat) := ⟨x0, x1, x2, x3⟩
      refine wp_region_L (n := 36) (fun w' : World => w'.cell? (ad.add (4 * k)) = some (.int .u8 b0.toNat) ∧ w'.cell? ⟨ad.block, ad.off + (4 * k + 1), none⟩ = some (.int .u8 b1.toNat) ∧ w'.cell? ⟨ad.block, ad.off + (4 * k + 2), none⟩ = some (.int .u8 b2.toNat) ∧ w'.cell? ⟨ad.block, ad.off + (4 * k + 3), none⟩ = some (.int .u8 b3.toNat)) [] [0, 1, 2, 3, 4, 5, 6, 7, 8, 9, 10, 11, 12, 13, 14, 15, 16, 17, 18, 19, 20, 21, 22, 23, 24, 25, 26, 27, 28, 29, 30, 31, 32, 33, 34] (by kernel_rfl) rfl ?_
      refine AnyL.pure (i := 0) (v := ?_) (some 13) rfl rfl (by kernel_rfl) (by kernel_rfl) (by kernel_rfl) rfl (fun _ _ _ h => h) (by rfl) (fun ww => ?_) ?_; rotate_left; · (go_simp; (try with_reducible rfl))
      refine AnyL.pure (i := 1) (v := ?_) (some 14) rfl rfl (by kernel_rfl) (by kernel_rfl) (by kernel_rfl) rfl (fun _ _ _ h => h) (by rfl) (fun ww => ?_) ?_; rotate_left; · (go_simp; (try with_reducible rfl))
      refine AnyL.pure (i := 2) (v := ?_) (some 15) rfl rfl (by kernel_rfl) (by kernel_rfl) (by kernel_rfl) rfl (fun _ _ _ h => h) (by rfl) (fun ww => ?_) ?_; rotate_left; · (go_simp; (try with_reducible rfl))
      refine AnyL.pure (i := 3) (v := ?_) (some 16) rfl rfl (by kernel_rfl) (by kernel_rfl) (by kernel_rfl) rfl (fun _ _ _ h => h) (by rfl) (fun ww => ?_) ?_; rotate_left; · (go_simp; (try with_reducible rfl))
      refine AnyL.pure (i := 4) (v := ?_) (some 17) rfl rfl (by kernel_rfl) (by kernel_rfl) (by kernel_rfl) rfl (fun _ _ _ h => h) (by rfl) (fun ww => ?_) ?_; rotate_left; · (go_simp; (try with_reducible rfl))
      refine AnyL.take (i := 5) (v := ?_) (some 18) rfl rfl (by kernel_rfl) (by kernel_rfl) (by kernel_rfl) rfl (by kernel_rfl) (fun _ _ _ h => h) (by rfl) (fun ww hww => ?_) hS ?_; rotate_left; · (obtain ⟨hs0, hs1, hs2, hs3⟩ := hww; go_simp; (try with_reducible rfl))
      refine AnyL.pure (i := 6) (v := ?_) (some 19) rfl rfl (by kernel_rfl) (by kernel_rfl) (by kernel_rfl) rfl (fun _ _ _ h => h) (by rfl) (fun ww => ?_) ?_; rotate_left; · (go_simp; (try with_reducible rfl))
      refine AnyL.pure (i := 7) (v := ?_) (some 20) rfl rfl (by kernel_rfl) (by kernel_rfl) (by kernel_rfl) rfl (fun _ _ _ h => h) (by rfl) (fun ww => ?_) ?_; rotate_left; · (go_simp; (try with_reducible rfl))
      refine AnyL.pure (i := 8) (v := ?_) (some 21) rfl rfl (by kernel_rfl) (by kernel_rfl) (by kernel_rfl) rfl (fun _ _ _ h => h) (by rfl) (fun ww => ?_) ?_; rotate_left; · (go_simp; (try with_reducible rfl))
      refine AnyL.pure (i := 9) (v := ?_) (some 22) rfl rfl (by kernel_rfl) (by kernel_rfl) (by kernel_rfl) rfl (fun _ _ _ h => h) (by rfl) (fun ww => ?_) ?_; rotate_left; · (go_simp; (try with_reducible rfl))
      refine AnyL.pure (i := 10) (v := ?_) (some 23) rfl rfl (by kernel_rfl) (by kernel_rfl) (by kernel_rfl) rfl (fun _ _ _ h => h) (by rfl) (fun ww => ?_) ?_; rotate_left; · (go_simp; (try with_reducible rfl))
      refine AnyL.pure (i := 11) (v := ?_) (some 24) rfl rfl (by kernel_rfl) (by kernel_rfl) (by kernel_rfl) rfl (fun _ _ _ h => h) (by rfl) (fun ww => ?_) ?_; rotate_left; · (go_simp; (try with_reducible rfl))
      refine AnyL.pure (i := 12) (v := ?_) (some 25) rfl rfl (by kernel_rfl) (by kernel_rfl) (by kernel_rfl) rfl (fun _ _ _ h => h) (by rfl) (fun ww => ?_) ?_; rotate_left; · (go_simp; (try with_reducible rfl))
      refine AnyL.take (i := 13) (v := ?_) (some 26) rfl rfl (by kernel_rfl) (by kernel_rfl) (by kernel_rfl) rfl (by kernel_rfl) (fun _ _ _ h => h) (by rfl) (fun ww hww => ?_) hS ?_; rotate_left; · (obtain ⟨hs0, hs1, hs2, hs3⟩ := hww; go_simp; (try with_reducible rfl))
      refine AnyL.pure (i := 14) (v := ?_) (some 27) rfl rfl (by kernel_rfl) (by kernel_rfl) (by kernel_rfl) rfl (fun _ _ _ h => h) (by rfl) (fun ww => ?_) ?_; rotate_left; · (go_simp; (try with_reducible rfl))
      refine AnyL.pure (i := 15) (v := ?_) (some 28) rfl rfl (by kernel_rfl) (by kernel_rfl) (by kernel_rfl) rfl (fun _ _ _ h => h) (by rfl) (fun ww => ?_) ?_; rotate_left; · (go_simp; (try with_reducible rfl))
      refine AnyL.pure (i := 16) (v := ?_) (some 29) rfl rfl (by kernel_rfl) (by kernel_rfl) (by kernel_rfl) rfl (fun _ _ _ h => h) (by rfl) (fun ww => ?_) ?_; rotate_left; · (go_simp; (try with_reducible rfl))
      refine AnyL.pure (i := 17) (v := ?_) (some 30) rfl rfl (by kernel_rfl) (by kernel_rfl) (by kernel_rfl) rfl (fun _ _ _ h => h) (by rfl) (fun ww => ?_) ?_; rotate_left; · (go_simp; (try with_reducible rfl))
      refine AnyL.pure (i := 18) (v := ?_) (some 31) rfl rfl (by kernel_rfl) (by kernel_rfl) (by kernel_rfl) rfl (fun _ _ _ h => h) (by rfl) (fun ww => ?_) ?_; rotate_left; · (go_simp; (try with_reducible rfl))
      refine AnyL.pure (i := 19) (v := ?_) (some 32) rfl rfl (by kernel_rfl) (by kernel_rfl) (by kernel_rfl) rfl (fun _ _ _ h => h) (by rfl) (fun ww => ?_) ?_; rotate_left; · (go_simp; (try with_reducible rfl))
      refine AnyL.pure (i := 20) (v := ?_) (some 33) rfl rfl (by kernel_rfl) (by kernel_rfl) (by kernel_rfl) rfl (fun _ _ _ h => h) (by rfl) (fun ww => ?_) ?_; rotate_left; · (go_simp; (try with_reducible rfl))
      refine AnyL.pure (i := 21) (v := ?_) (some 34) rfl rfl (by kernel_rfl) (by kernel_rfl) (by kernel_rfl) rfl (fun _ _ _ h => h) (by rfl) (fun ww => ?_) ?_; rotate_left; · (go_simp; (try with_reducible rfl))
      refine AnyL.take (i := 22) (v := ?_) (some 35) rfl rfl (by kernel_rfl) (by kernel_rfl) (by kernel_rfl) rfl (by kernel_rfl) (fun _ _ _ h => h) (by rfl) (fun ww hww => ?_) hS ?_; rotate_left; · (obtain ⟨hs0, hs1, hs2, hs3⟩ := hww; go_simp; (try with_reducible rfl))
      refine AnyL.pure (i := 23) (v := ?_) (some 36) rfl rfl (by kernel_rfl) (by kernel_rfl) (by kernel_rfl) rfl (fun _ _ _ h => h) (by rfl) (fun ww => ?_) ?_; rotate_left; · (go_simp; (try with_reducible rfl))
      refine AnyL.pure (i := 24) (v := ?_) (some 37) rfl rfl (by kernel_rfl) (by kernel_rfl) (by kernel_rfl) rfl (fun _ _ _ h => h) (by rfl) (fun ww => ?_) ?_; rotate_left; · (go_simp; (try with_reducible rfl))
      refine AnyL.pure (i := 25) (v := ?_) (some 38) rfl rfl (by kernel_rfl) (by kernel_rfl) (by kernel_rfl) rfl (fun _ _ _ h => h) (by rfl) (fun ww => ?_) ?_; rotate_left; · (go_simp; (try with_reducible rfl))
      refine AnyL.pure (i := 26) (v := ?_) (some 39) rfl rfl (by kernel_rfl) (by kernel_rfl) (by kernel_rfl) rfl (fun _ _ _ h => h) (by rfl) (fun ww => ?_) ?_; rotate_left; · (go_simp; (try with_reducible rfl))
      refine AnyL.pure (i := 27) (v := ?_) (some 40) rfl rfl (by kernel_rfl) (by kernel_rfl) (by kernel_rfl) rfl (fun _ _ _ h => h) (by rfl) (fun ww => ?_) ?_; rotate_left; · (go_simp; (try with_reducible rfl))
      refine AnyL.pure (i := 28) (v := ?_) (some 41) rfl rfl (by kernel_rfl) (by kernel_rfl) (by kernel_rfl) rfl (fun _ _ _ h => h) (by rfl) (fun ww => ?_) ?_; rotate_left; · (go_simp; (try with_reducible rfl))
      refine AnyL.pure (i := 29) (v := ?_) (some 42) rfl rfl (by kernel_rfl) (by kernel_rfl) (by kernel_rfl) rfl (fun _ _ _ h => h) (by rfl) (fun ww => ?_) ?_; rotate_left; · (go_simp; (try with_reducible rfl))
      refine AnyL.pure (i := 30) (v := ?_) (some 43) rfl rfl (by kernel_rfl) (by kernel_rfl) (by kernel_rfl) rfl (fun _ _ _ h => h) (by rfl) (fun ww => ?_) ?_; rotate_left; · (go_simp; (try with_reducible rfl))
      refine AnyL.take (i := 31) (v := ?_) (some 44) rfl rfl (by kernel_rfl) (by kernel_rfl) (by kernel_rfl) rfl (by kernel_rfl) (fun _ _ _ h => h) (by rfl) (fun ww hww => ?_) hS ?_; rotate_left; · (obtain ⟨hs0, hs1, hs2, hs3⟩ := hww; go_simp; (try with_reducible rfl))
      refine AnyL.pure (i := 32) (v := ?_) (some 45) rfl rfl (by kernel_rfl) (by kernel_rfl) (by kernel_rfl) rfl (fun _ _ _ h => h) (by rfl) (fun ww => ?_) ?_; rotate_left; · (go_simp; (try with_reducible rfl))
      refine AnyL.pure (i := 33) (v := ?_) (some 46) rfl rfl (by kernel_rfl) (by kernel_rfl) (by kernel_rfl) rfl (fun _ _ _ h => h) (by rfl) (fun ww => ?_) ?_; rotate_left; · (go_simp; (try with_reducible rfl))
      refine AnyL.pure (i := 34) (v := ?_) (some 47) rfl rfl (by kernel_rfl) (by kernel_rfl) (by kernel_rfl) rfl (fun _ _ _ h => h) (by rfl) (fun ww => ?_) ?_; rotate_left; · (go_simp; (try with_reducible rfl))
      simp only [Act.put, List.setIfInBounds_toArray]; try simp only [List.set_cons_zero, List.set_cons_succ]
      refine AnyL.last (i := 35) (by kernel_rfl) rfl rfl rfl (fun K hK => ?_)
      go_simp
      refine hK _ _ ?_; clear hK K
      refine AnyL.done (by kernel_rfl) ?_
      go_wp2
      go_roundw
      case rel => exact ⟨k + 1, _, by omega, by go_num, hds.out.set _, (hd.out.set k _).drew, (hb.out.far (by simp) _).drew, (hu.out.setCell (p := ⟨H + 1, k, none⟩) (.inr (by have := hHe.out; simp only; omega)) _).drew⟩
      case measure => simp [intOf]; omega
    · obtain rfl : k = 16 := by omega
      replace hds := Lib.hid hds
      replace hd := Lib.hid hd
      replace hb := Lib.hid hb
      replace hu := Lib.hid hu
      clear hlt hk
      rw [show ((16 : Nat) : Int) = 16 from rfl]
      go_wp2_with fail
      go_loopw [5] (fun i wr => ∃ (k : Nat) (ds : Array Value), 16 ≤ k ∧ k ≤ 64 ∧ i = .int .i64 k ∧ W32s ds 64 ∧ Blk wr (H + 1) 162 ds ∧ Blk wr H 162 cs0 ∧ Upd noBlk w wr) (fun i _ => 64 - (intOf i).toNat)
      case atStart => exact ⟨16, ds, by omega, by omega, rfl, hds.out, hd.out, hb.out, hu.out⟩
      case round =>
        clear hds hd hb hu
        obtain ⟨k, ds, hk0, hk, rfl, hds, hd, hb, hu⟩ := hrel
        by_cases hlt : k < 64
        · obtain ⟨z15, hz15⟩ := hds.at_ (show k - 15 < 64 by omega)
          obtain ⟨z2, hz2⟩ := hds.at_ (show k - 2 < 64 by omega)
          obtain ⟨z16, hz16⟩ := hds.at_ (show k - 16 < 64 by omega)
          obtain ⟨z7, hz7⟩ := hds.at_ (show k - 7 < 64 by omega)
          obtain ⟨zk, hzk⟩ := hds.at_ (show k < 64 by omega)
          have x15 : wr.cell? ⟨H + 1, k - 15, none⟩ = some (.int .u32 z15) := by rw [hd.cell]; exact hz15
          have x2 : wr.cell? ⟨H + 1, k - 2, none⟩ = some (.int .u32 z2) := by rw [hd.cell]; exact hz2
          have x16 : wr.cell? ⟨H + 1, k - 16, none⟩ = some (.int .u32 z16) := by rw [hd.cell]; exact hz16
          have x7 : wr.cell? ⟨H + 1, k - 7, none⟩ = some (.int .u32 z7) := by rw [hd.cell]; exact hz7
          have xk : wr.cell? ⟨H + 1, k, none⟩ = some (.int .u32 zk) := by rw [hd.cell]; exact hzk
          have fk : wr.frozen? ⟨H + 1, k, none⟩ = false := hd.free _ rfl
          clear hz15 hz2 hz16 hz7 hzk
          replace hds := Lib.hid hds
          replace hd := Lib.hid hd
          replace hb := Lib.hid hb
          replace hu := Lib.hid hu
          have g15 : IntKind.i64.wrap ((k : Int) - 15) = k - 15 := by rw [IntKind.wrap_i64]; omega
          have g2 : IntKind.i64.wrap ((k : Int) - 2) = k - 2 := by rw [IntKind.wrap_i64]; omega
          have g16 : IntKind.i64.wrap ((k : Int) - 16) = k - 16 := by rw [IntKind.wrap_i64]; omega
          have g7 : IntKind.i64.wrap ((k : Int) - 7) = k - 7 := by rw [IntKind.wrap_i64]; omega
          have n15 : ((k : Int) - 15).toNat = k - 15 := by omega
          have n2 : ((k : Int) - 2).toNat = k - 2 := by omega
          have n16 : ((k : Int) - 16).toNat = k - 16 := by omega
          have n7 : ((k : Int) - 7).toNat = k - 7 := by omega
          have p15 : (15 : Int) ≤ k := by omega
          have p2 : (2 : Int) ≤ k := by omega
          have p16 : (16 : Int) ≤ k := by omega
          have p7 : (7 : Int) ≤ k := by omega
          have l15 : (k : Int) - 15 < 64 := by omega
          have l2 : (k : Int) - 2 < 64 := by omega
          have l16 : (k : Int) - 16 < 64 := by omega
          have l7 : (k : Int) - 7 < 64 := by omega
          have pk : (0 : Int) ≤ k := by omega
          have lk : (k : Int) < 64 := by omega
          go_wp2_with fail
          have hS : wr.drew.cell? ⟨H + 1, k - 15, none⟩ = some (.int .u32 z15) ∧ wr.drew.cell? ⟨H + 1, k - 2, none⟩ = some (.int .u32 z2) := ⟨x15, x2⟩
          refine wp_region_L (n := 10) (fun w' : World => w'.cell? ⟨H + 1, k - 15, none⟩ = some (.int .u32 z15) ∧ w'.cell? ⟨H + 1, k - 2, none⟩ = some (.int .u32 z2)) [] [0, 1, 2, 3, 4, 5, 6, 7, 8, 9] (by kernel_rfl) rfl ?_
          refine AnyL.pure (i := 0) (v := ?_) (some 53) rfl rfl (by kernel_rfl) (by kernel_rfl) (by kernel_rfl) rfl (fun _ _ _ h => h) (by rfl) (fun ww => ?_) ?_; rotate_left; · (go_simp; (try with_reducible rfl))
          refine AnyL.pure (i := 1) (v := ?_) (some 54) rfl rfl (by kernel_rfl) (by kernel_rfl) (by kernel_rfl) rfl (fun _ _ _ h => h) (by rfl) (fun ww => ?_) ?_; rotate_left; · (go_simp; (try with_reducible rfl))
          refine AnyL.pure (i := 2) (v := ?_) (some 55) rfl rfl (by kernel_rfl) (by kernel_rfl) (by kernel_rfl) rfl (fun _ _ _ h => h) (by rfl) (fun ww => ?_) ?_; rotate_left; · (go_simp; (try with_reducible rfl))
          refine AnyL.take (i := 3) (v := ?_) (some 56) rfl rfl (by kernel_rfl) (by kernel_rfl) (by kernel_rfl) rfl (by kernel_rfl) (fun _ _ _ h => h) (by rfl) (fun ww hww => ?_) hS ?_; rotate_left; · (obtain ⟨hs0, hs1⟩ := hww; go_simp; (try with_reducible rfl))
          refine AnyL.pure (i := 4) (v := ?_) (some 57) rfl rfl (by kernel_rfl) (by kernel_rfl) (by kernel_rfl) rfl (fun _ _ _ h => h) (by rfl) (fun ww => ?_) ?_; rotate_left; · (go_simp; (try with_reducible rfl))
          refine AnyL.pure (i := 5) (v := ?_) (some 58) rfl rfl (by kernel_rfl) (by kernel_rfl) (by kernel_rfl) rfl (fun _ _ _ h => h) (by rfl) (fun ww => ?_) ?_; rotate_left; · (go_simp; (try with_reducible rfl))
          refine AnyL.pure (i := 6) (v := ?_) (some 59) rfl rfl (by kernel_rfl) (by kernel_rfl) (by kernel_rfl) rfl (fun _ _ _ h => h) (by rfl) (fun ww => ?_) ?_; rotate_left; · (go_simp; (try with_reducible rfl))
          refine AnyL.take (i := 7) (v := ?_) (some 60) rfl rfl (by kernel_rfl) (by kernel_rfl) (by kernel_rfl) rfl (by kernel_rfl) (fun _ _ _ h => h) (by rfl) (fun ww hww => ?_) hS ?_; rotate_left; · (obtain ⟨hs0, hs1⟩ := hww; go_simp; (try with_reducible rfl))
          refine AnyL.pure (i := 8) (v := ?_) (some 6) rfl rfl (by kernel_rfl) (by kernel_rfl) (by kernel_rfl) rfl (fun _ _ _ h => h) (by rfl) (fun ww => ?_) ?_; rotate_left; · (go_simp; (try with_reducible rfl))
          refine AnyL.pure (i := 9) (v := ?_) (some 7) rfl rfl (by kernel_rfl) (by kernel_rfl) (by kernel_rfl) rfl (fun _ _ _ h => h) (by rfl) (fun ww => ?_) ?_; rotate_left; · (go_simp; (try with_reducible rfl))
          refine AnyL.done (by kernel_rfl) ?_
          have d16 : wr.drew.cell? ⟨H + 1, k - 16, none⟩ = some (.int .u32 z16) := x16
          have d7 : wr.drew.cell? ⟨H + 1, k - 7, none⟩ = some (.int .u32 z7) := x7
          have dk : wr.drew.cell? ⟨H + 1, k, none⟩ = some (.int .u32 zk) := xk
          have ek : wr.drew.frozen? ⟨H + 1, k, none⟩ = false := fk
          replace hd := Lib.hid hd.out.drew
          replace hb := Lib.hid hb.out.drew
          replace hu := Lib.hid hu.out.drew
          clear x15 x2 x16 x7 xk fk hS
          generalize wr.drew = w5 at *
          go_wp2_with (go_at_call 86; refine (right_any _ _ _).mono ?_; rintro e w' ⟨⟨y, rfl⟩, rfl⟩)
          have hS : w5.drew.cell? ⟨H + 1, k - 16, none⟩ = some (.int .u32 z16) ∧ w5.drew.cell? ⟨H + 1, k - 7, none⟩ = some (.int .u32 z7) := ⟨d16, d7⟩
          refine wp_region_L (n := 16) (fun w' : World => w'.cell? ⟨H + 1, k - 16, none⟩ = some (.int .u32 z16) ∧ w'.cell? ⟨H + 1, k - 7, none⟩ = some (.int .u32 z7)) [] [0, 1, 2, 3, 4, 5, 6, 7, 8, 9, 10, 11, 12, 13, 14] (by kernel_rfl) rfl ?_
          refine AnyL.pure (i := 0) (v := ?_) (some 77) rfl rfl (by kernel_rfl) (by kernel_rfl) (by kernel_rfl) rfl (fun _ _ _ h => h) (by rfl) (fun ww => ?_) ?_; rotate_left; · (go_simp; (try with_reducible rfl))
          refine AnyL.pure (i := 1) (v := ?_) (some 78) rfl rfl (by kernel_rfl) (by kernel_rfl) (by kernel_rfl) rfl (fun _ _ _ h => h) (by rfl) (fun ww => ?_) ?_; rotate_left; · (go_simp; (try with_reducible rfl))
          refine AnyL.pure (i := 2) (v := ?_) (some 79) rfl rfl (by kernel_rfl) (by kernel_rfl) (by kernel_rfl) rfl (fun _ _ _ h => h) (by rfl) (fun ww => ?_) ?_; rotate_left; · (go_simp; (try with_reducible rfl))
          refine AnyL.pure (i := 3) (v := ?_) (some 80) rfl rfl (by kernel_rfl) (by kernel_rfl) (by kernel_rfl) rfl (fun _ _ _ h => h) (by rfl) (fun ww => ?_) ?_; rotate_left; · (go_simp; (try with_reducible rfl))
          refine AnyL.take (i := 4) (v := ?_) (some 81) rfl rfl (by kernel_rfl) (by kernel_rfl) (by kernel_rfl) rfl (by kernel_rfl) (fun _ _ _ h => h) (by rfl) (fun ww hww => ?_) hS ?_; rotate_left; · (obtain ⟨hs0, hs1⟩ := hww; go_simp; (try with_reducible rfl))
          refine AnyL.pure (i := 5) (v := ?_) (some 82) rfl rfl (by kernel_rfl) (by kernel_rfl) (by kernel_rfl) rfl (fun _ _ _ h => h) (by rfl) (fun ww => ?_) ?_; rotate_left; · (go_simp; (try with_reducible rfl))
          refine AnyL.pure (i := 6) (v := ?_) (some 83) rfl rfl (by kernel_rfl) (by kernel_rfl) (by kernel_rfl) rfl (fun _ _ _ h => h) (by rfl) (fun ww => ?_) ?_; rotate_left; · (go_simp; (try with_reducible rfl))
          refine AnyL.pure (i := 7) (v := ?_) (some 84) rfl rfl (by kernel_rfl) (by kernel_rfl) (by kernel_rfl) rfl (fun _ _ _ h => h) (by rfl) (fun ww => ?_) ?_; rotate_left; · (go_simp; (try with_reducible rfl))
          refine AnyL.pure (i := 8) (v := ?_) (some 85) rfl rfl (by kernel_rfl) (by kernel_rfl) (by kernel_rfl) rfl (fun _ _ _ h => h) (by rfl) (fun ww => ?_) ?_; rotate_left; · (go_simp; (try with_reducible rfl))
          refine AnyL.pure (i := 9) (v := ?_) (some 86) rfl rfl (by kernel_rfl) (by kernel_rfl) (by kernel_rfl) rfl (fun _ _ _ h => h) (by rfl) (fun ww => ?_) ?_; rotate_left; · (go_simp; (try with_reducible rfl))
          refine AnyL.take (i := 10) (v := ?_) (some 87) rfl rfl (by kernel_rfl) (by kernel_rfl) (by kernel_rfl) rfl (by kernel_rfl) (fun _ _ _ h => h) (by rfl) (fun ww hww => ?_) hS ?_; rotate_left; · (obtain ⟨hs0, hs1⟩ := hww; go_simp; (try with_reducible rfl))
          refine AnyL.pure (i := 11) (v := ?_) (some 88) rfl rfl (by kernel_rfl) (by kernel_rfl) (by kernel_rfl) rfl (fun _ _ _ h => h) (by rfl) (fun ww => ?_) ?_; rotate_left; · (go_simp; (try with_reducible rfl))
          refine AnyL.pure (i := 12) (v := ?_) (some 89) rfl rfl (by kernel_rfl) (by kernel_rfl) (by kernel_rfl) rfl (fun _ _ _ h => h) (by rfl) (fun ww => ?_) ?_; rotate_left; · (go_simp; (try with_reducible rfl))
          refine AnyL.pure (i := 13) (v := ?_) (some 90) rfl rfl (by kernel_rfl) (by kernel_rfl) (by kernel_rfl) rfl (fun _ _ _ h => h) (by rfl) (fun ww => ?_) ?_; rotate_left; · (go_simp; (try with_reducible rfl))
          refine AnyL.pure (i := 14) (v := ?_) (some 91) rfl rfl (by kernel_rfl) (by kernel_rfl) (by kernel_rfl) rfl (fun _ _ _ h => h) (by rfl) (fun ww => ?_) ?_; rotate_left; · (go_simp; (try with_reducible rfl))
          simp only [Act.put, List.setIfInBounds_toArray]; try simp only [List.set_cons_zero, List.set_cons_succ]
          refine AnyL.last (i := 15) (by kernel_rfl) rfl rfl rfl (fun K hK => ?_)
          go_simp
          refine hK _ _ ?_; clear hK K
          refine AnyL.done (by kernel_rfl) ?_
          go_wp2
          go_roundw
          case rel => exact ⟨k + 1, _, by omega, by omega, by go_num, hds.out.set _, (hd.out.set k _).drew, (hb.out.far (by simp) _).drew, (hu.out.setCell (p := ⟨H + 1, k, none⟩) (.inr (by have := hHe.out; simp only; omega)) _).drew⟩
          case measure => simp [intOf]; omega
        · obtain rfl : k = 64 := by omega
          have i162 : (Tryz.prog.info? 162).map (·.size) = some 64 := by kernel_rfl
          have ho1 : ds.all (·.oneCell') = true := by
            rw [Array.all_eq_true_iff_forall_mem]
            intro u hu
            obtain ⟨j, hj⟩ := Array.getElem?_of_mem hu
            obtain ⟨y, rfl⟩ := hds.2 j u hj
            rfl
          have hl1 : (Instr.loadAt 162 (.pointer (some ⟨H + 1, 0, none⟩))).run Tryz.prog wr = .ok (.agg ds) wr := by
            simp only [Instr.loadAt, Instr.sureAddr, Sem.run_bind, Sem.run_pure, Result.andThen]
            exact run_loadVar_row wr (H + 1) 162 162 ds (0, 0) _ hd Tryz.underlying162 rfl (by rw [hds.1]; exact i162)
          have hl2 : (Instr.storeAt 162 (.pointer (some ⟨H, 0, none⟩)) (.agg ds)).run Tryz.prog wr = .ok () (wr.setRow H ds) := by
            simp only [Instr.storeAt, Instr.sureAddr, Sem.run_bind, Sem.run_pure, Result.andThen]
            exact run_storeVar_row wr H 162 162 cs0 ds hb (by rw [hds.1]; exact i162) (by rw [hds.1]; exact hcs0.out.1) ho1
          replace hl1 := Lib.hid hl1
          replace hl2 := Lib.hid hl2
          replace hds := Lib.hid hds
          replace hd := Lib.hid hd
          replace hb := Lib.hid hb
          replace hu := Lib.hid hu
          have hset : (wr.setRow H ds).heap[H]? = some (.cells ds 162 (0, 0)) := setRow_heap wr H cs0 ds 162 (0, 0) hb.out
          replace hset := Lib.hid hset
          replace i162 := Lib.hid i162
          clear ho1
          go_wp2_with (first | (refine wpList_loadRow rfl _ 162 rfl ⟨H + 1, 0, none⟩ rfl (.agg ds) hl1.out ?_) | (refine wpList_storeRow rfl rfl _ _ 162 rfl ⟨H, 0, none⟩ rfl (.agg ds) rfl hl2.out ?_))
          refine bodyPost_ret (results_cell_row Tryz.results85 _ _ H 162 ds (0, 0) _ rfl hset.out Tryz.underlying162 rfl (by rw [hds.out.1]; exact i162.out)) rfl ?_
          exact ⟨ds, hds.out, rfl, hu.out.trans ⟨rfl, rfl, rfl, by simp [World.setRow], fun k hk hn => setRow_other wr H k ds hn⟩ fun k hk => .inr (by have h1 := hHe.out; have h2 : k = H := hk; omega)⟩

end Go.Proofs.YtedaapcmcimepaaGreatDoor
