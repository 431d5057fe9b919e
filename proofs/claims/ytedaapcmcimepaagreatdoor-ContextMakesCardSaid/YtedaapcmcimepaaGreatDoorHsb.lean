/-
  SHA-256's Write: it ends, the hasher is one to which so many bytes more came, nothing else turns.
-/
import Derived.Test.YtedaapcmcimepaaGreatDoorHsa
import Derived.Test.YtedaapcmcimepaaGreatDoorCpy
namespace Go.Proofs.YtedaapcmcimepaaGreatDoor
open Go.RowKit

theorem Tryz.info5 : (Tryz.prog.info? 5).map (fun i => (i.zero, i.size, i.bytes)) = some (some (.int .u8 0), 1, 1) := by kernel_rfl
def slen : Value → Nat
  | .slice _ n _ => n
  | _ => 0
theorem HsC.turned {cs ds : Array Value} {n : Int} (h : HsC cs n) (ht : Turned cs ds) : HsC ds n :=
  ⟨ht.1.trans h.size, ht.2.1, fun j h1 h2 => by rw [ht.2.2 j h1]; exact h.bytes j h1 h2, by rw [ht.2.2 72 (by omega)]; exact h.num⟩
theorem HsC.came {cs : Array Value} {n : Int} (h : HsC cs n) (m : Int) : HsC (cs.setIfInBounds 72 (.int .i64 m)) m := by
  refine ⟨by rw [Array.size_setIfInBounds]; exact h.size, fun j hj => ?_, fun j h1 h2 => ?_, ?_⟩
  · rw [Array.getElem?_setIfInBounds, if_neg (by omega)]
    exact h.words j hj
  · rw [Array.getElem?_setIfInBounds, if_neg (by omega)]
    exact h.bytes j h1 h2
  · rw [Array.getElem?_setIfInBounds, if_pos rfl, if_pos (by rw [h.size]; omega)]
theorem getElem?_splice {α : Type} (L : List α) (off : Nat) (cs : List α) (h : off + cs.length ≤ L.length) (j : Nat) :
    (splice L off cs)[j]? = if j < off then L[j]? else if j < off + cs.length then cs[j - off]? else L[j]? := by
  unfold splice
  by_cases h1 : j < off
  · rw [if_pos h1, List.getElem?_append_left (by simp; omega), List.getElem?_take_of_lt h1]
  · rw [if_neg h1, List.getElem?_append_right (by simp; omega), List.length_take, Nat.min_eq_left (by omega)]
    by_cases h2 : j < off + cs.length
    · rw [if_pos h2, List.getElem?_append_left (by omega)]
    · rw [if_neg h2, List.getElem?_append_right (by omega), List.getElem?_drop]
      congr 1
      omega
theorem HsC.splice {cs : Array Value} {n : Int} (h : HsC cs n) (off : Nat) (l : List UInt8) (h8 : 8 ≤ off) (hl : off + l.length ≤ 72) : HsC (splice cs.toList off (bvs l)).toArray n := by
  have hs : cs.toList.length = 73 := by simpa using h.size
  have hb : (bvs l).length = l.length := bvs_length l
  have hat := getElem?_splice cs.toList off (bvs l) (by omega)
  refine ⟨by simp [length_splice _ _ _ (show off + (bvs l).length ≤ cs.toList.length by omega), h.size], fun j hj => ?_, fun j h1 h2 => ?_, ?_⟩
  · rw [List.getElem?_toArray, hat, if_pos (by omega), Array.getElem?_toList]
    exact h.words j hj
  · rw [List.getElem?_toArray, hat]
    by_cases h3 : j < off
    · rw [if_pos h3, Array.getElem?_toList]
      exact h.bytes j h1 h2
    · rw [if_neg h3]
      by_cases h4 : j < off + (bvs l).length
      · rw [if_pos h4]
        exact ⟨l[j - off]'(by omega), bvs_at (List.getElem?_eq_getElem _)⟩
      · rw [if_neg h4, Array.getElem?_toList]
        exact h.bytes j h1 h2
  · rw [List.getElem?_toArray, hat, if_neg (by omega), if_neg (by omega), Array.getElem?_toList]
    exact h.num
/-- The bytes of the block that is not full read as a slice. -/
theorem HsC.part {w : World} {g : Nat} {t : TypeId} {cs : Array Value} {n : Int} (h : HsC cs n) (hb : Blk w g t cs) : ∃ l : List UInt8, l.length = 64 ∧ RdB w (.slice (some ⟨g, 8, none⟩) 64 64) l := by
  have hc : B8s (cs.extract 8 72) 64 := by
    refine ⟨by rw [Array.size_extract, h.size]; rfl, fun j hj => ?_⟩
    obtain ⟨b, hb⟩ := h.bytes (8 + j) (by omega) (by omega)
    refine ⟨b, ?_⟩
    rw [Array.getElem?_extract, if_pos (by rw [h.size]; omega)]
    exact hb
  obtain ⟨l, hl, hcl⟩ := hc.list
  refine ⟨l, hl, ?_⟩
  unfold RdB
  rw [hl]
  refine ⟨by rw [bvs_length]; omega, _, 64, rfl, by omega, by simp [maxLen], fun h => by simp at h, fun j u hu => ⟨_, rfl, ?_⟩⟩
  rw [← hcl] at hu
  have hj : j < 64 := by
    have := (List.getElem?_eq_some_iff.1 hu).1
    rw [Array.length_toList, hc.1] at this
    exact this
  rw [Array.getElem?_toList, Array.getElem?_extract, if_pos (by rw [h.size]; omega)] at hu
  have : (⟨g, 8, none⟩ : Addr).add j = ⟨g, 8 + j, none⟩ := by unfold Addr.add; split <;> simp_all
  rw [this, hb.cell]
  exact hu

theorem RdB.drop {w : World} {ad : Addr} {m c k : Nat} {r : List UInt8} (h : RdB w (.slice (some ad) m c) r) (hr : r.length = m) (hk : k ≤ m) :
    RdB w (.slice (if c = k then some ad else some (ad.add k)) (m - k) (c - k)) (r.drop k) := by
  obtain ⟨h0, A, c', he, h1, h2, -, h4⟩ := h
  obtain ⟨rfl, -, rfl⟩ := Value.slice.inj he
  unfold RdB
  rw [List.length_drop, hr]
  rw [hr] at h1
  refine ⟨by rw [bvs_length, List.length_drop, hr]; omega, _, c - k, rfl, by omega, by omega, fun h => ?_, fun j u hu => ?_⟩
  · split at h <;> cases h
  · have hj : j < m - k := by
      have := (List.getElem?_eq_some_iff.1 hu).1
      rw [bvs_length, List.length_drop, hr] at this
      exact this
    rw [if_neg (by omega)]
    rw [show bvs (r.drop k) = (bvs r).drop k from List.map_drop, List.getElem?_drop] at hu
    obtain ⟨ad', h5, h6⟩ := h4 (k + j) u hu
    obtain rfl := Option.some.inj h5
    exact ⟨_, rfl, by rw [addr_add_add]; exact h6⟩

theorem RdB.upd' {S : Nat → Prop} {w w' : World} {v : Value} {l : List UInt8} (h : RdB w v l) (hu : Upd S w w') (hn : 0 < l.length → ∀ k, v.ownBlock = some k → ¬ S k) : RdB w' v l := by
  rcases Nat.eq_zero_or_pos l.length with h0 | h0
  · obtain ⟨h1, A, c, h2, h3, h4, h5, -⟩ := h
    obtain rfl : l = [] := List.eq_nil_of_length_eq_zero h0
    exact ⟨h1, A, c, h2, h3, h4, h5, fun j u hu => by simp [bvs] at hu⟩
  · exact h.upd hu (hn h0)

def WriteP (w : World) (g n m : Nat) (e : Ending) (w' : World) : Prop := ∃ cs, e = .returned (.tuple #[]) ∧ HsC cs ((n + m : Nat) : Int) ∧ Blk w' g 133 cs ∧ Upd (fun k => k = g) w w'

set_option maxRecDepth 100000 in
set_option maxHeartbeats 2000000 in
theorem write_any (g n : Nat) (cs : Array Value) (v : Value) (l : List UInt8) (w : World) (hh : HsC cs n) (hb : Blk w g 133 cs) (ht : Tabs w) (hg2 : g ≠ 2) (hg0 : g ≠ 0) (hv : RdB w v l) (hd : 0 < l.length → v.ownBlock ≠ some g) (hn : n + l.length ≤ 4611686018427387904) :
    Calls Tryz.prog 35 #[.pointer (some ⟨g, 0, none⟩), v] w (WriteP w g n l.length) := by
  have hv' := hv
  obtain ⟨-, A, c, rfl, -, hc, -⟩ := hv'
  obtain ⟨L, hL⟩ : ∃ L, l.length = L := ⟨_, rfl⟩
  rw [hL] at hn hv hd ⊢
  replace hL := Lib.hid hL
  replace hv := Lib.hid hv
  replace hb := Lib.hid hb
  replace ht := Lib.hid ht
  replace hh := Lib.hid hh
  replace hd := Lib.hid hd
  go_enter Tryz.func35, Tryz.ntmps35
  go_wp2_with fail
  go_loopw [1] (fun b wr => ∃ (m N : Nat) (r : List UInt8) (A : Option Addr) (c : Nat) (cs : Array Value), m ≤ L ∧ N + m = n + L ∧ r.length = m ∧ b = .slice A m c ∧ RdB wr (.slice A m c) r ∧ (0 < m → (Value.slice A m c).ownBlock ≠ some g) ∧ HsC cs N ∧ Blk wr g 133 cs ∧ Tabs wr ∧ Upd (fun k => k = g) w wr) (fun b _ => slen b)
  case atStart => exact ⟨L, n, l, A, c, cs, Nat.le_refl _, rfl, hL.out, rfl, hv.out, hd.out, hh.out, hb.out, ht.out, Upd.refl _ _⟩
  case round =>
    clear hh hb ht hv hd hL
    obtain ⟨m, N, r, A, c, cs, hm, hN, hr, rfl, hrd, hd, hh, hb, ht, hu⟩ := hrel
    by_cases h0 : 0 < m
    · have hrd' := hrd
      unfold RdB at hrd'
      rw [hr] at hrd'
      obtain ⟨-, A', c', he, hmc, hcm, -, hat⟩ := hrd'
      obtain ⟨rfl, -, rfl⟩ := Value.slice.inj he
      obtain ⟨ad, rfl⟩ : ∃ ad, A = some ad := by
        obtain ⟨ad, h, -⟩ := hat 0 (bv (r[0]'(by omega))) (bvs_at (List.getElem?_eq_getElem _))
        exact ⟨ad, h⟩
      have cn : wr.cell? ⟨g, 72, none⟩ = some (.int .i64 N) := by rw [hb.cell]; exact hh.num
      have fn : wr.frozen? ⟨g, 72, none⟩ = false := hb.free _ rfl
      obtain ⟨a, ha⟩ : ∃ a, N % 64 = a := ⟨_, rfl⟩
      have ha64 : a < 64 := by omega
      have hrem : (N : Int) % 64 = a := by omega
      have p1 : (0 : Int) ≤ a := by omega
      have p2 : (a : Int) ≤ 64 := by omega
      have p3 : ¬ (64 = a) := by omega
      have p4 : (a : Int) < 64 := by omega
      replace hr := Lib.hid hr
      replace ha := Lib.hid ha
      replace hat := Lib.hid hat
      replace hrd := Lib.hid hrd
      replace hd := Lib.hid hd
      replace hh := Lib.hid hh
      replace hb := Lib.hid hb
      replace ht := Lib.hid ht
      replace hu := Lib.hid hu
      obtain ⟨k, hk⟩ : ∃ k, k = Nat.min m (64 - a) := ⟨_, rfl⟩
      have hkm : k ≤ m := by rw [hk]; exact Nat.min_le_left _ _
      have hka : k ≤ 64 - a := by rw [hk]; exact Nat.min_le_right _ _
      have hk0 : 0 < k := by rw [hk]; exact Nat.lt_min.2 ⟨h0, by omega⟩
      have q1 : (0 : Int) ≤ k := by omega
      have q2 : (k : Int) ≤ m := by omega
      have q3 : IntKind.i64.wrap ((N : Int) + k) = N + k := by rw [IntKind.wrap_i64]; omega
      have hsrc : ∀ (j : Nat) (u : Value), (bvs (r.take k))[j]? = some u → wr.cell? (ad.add j) = some u := by
        intro j u hj
        have hj' : (bvs r)[j]? = some u := by
          rw [show bvs (r.take k) = (bvs r).take k from List.map_take] at hj
          rw [List.getElem?_take] at hj
          split at hj
          · exact hj
          · cases hj
        obtain ⟨ad', h1, h2⟩ := hat.out j u hj'
        obtain rfl := Option.some.inj h1
        exact h2
      obtain ⟨i5, hi⟩ := info_parts Tryz.info5
      replace hi : Hid (Tryz.prog.info? 5 = some i5 ∧ i5.size = 1) := Lib.hid ⟨hi.1, hi.2.2.1⟩
      replace hsrc := Lib.hid hsrc
      replace hk := Lib.hid hk
      clear hat
      obtain ⟨w1, hrun, hb1, hu1⟩ := run_copy_cells (P := Tryz.prog) wr 22 22 3 5 i5 1 Tryz.underlying22 hi.out (some ⟨g, 8 + a, none⟩) (some ad) (64 - a) (64 - a) m c k hk.out g (8 + a) cs.toList 133 hb.out (bvs (r.take k))
        (by rw [bvs_length, List.length_take, hr.out, Nat.mul_one]; exact Nat.min_eq_left hkm) (fun _ => ⟨rfl, ad, rfl, fun j u hj => hsrc.out j u hj⟩) (by have h1 := hh.out.size; have h2 := hr.out; rw [bvs_length, List.length_take]; simp only [Array.length_toList, h1, h2]; omega) (bvs_one _)
      have hh1 := Lib.hid (hh.out.splice (8 + a) (r.take k) (by omega) (by rw [List.length_take, hr.out]; omega))
      generalize (splice cs.toList (8 + a) (bvs (r.take k))).toArray = cs1 at hb1 hh1
      have c1 : w1.cell? ⟨g, 72, none⟩ = some (.int .i64 N) := (Blk.cell (g := g) (t := 133) hb1 72).trans hh1.out.num
      have f1 : w1.frozen? ⟨g, 72, none⟩ = false := Blk.free (g := g) (t := 133) (cs := cs1) hb1 _ rfl
      have hb1' : Hid (Blk w1 g 133 cs1) := Lib.hid hb1
      replace hu1 := Lib.hid hu1
      clear hb1 fn hh hb hsrc hi hk
      obtain ⟨A2, hA2⟩ : ∃ A2, (if c = k then some ad else some (ad.add k)) = A2 := ⟨_, rfl⟩
      have hrd2 : RdB wr (.slice A2 (m - k) (c - k)) (r.drop k) := hA2 ▸ hrd.out.drop hr.out hkm
      have hd2 : (Value.slice A2 (m - k) (c - k)).ownBlock ≠ some g := by
        rw [← hA2]
        split
        · exact hd.out h0
        · rw [show (Value.slice (some (ad.add k)) (m - k) (c - k)).ownBlock = (Value.slice (some ad) m c).ownBlock from congrArg some (addr_add_block ad k)]
          exact hd.out h0
      replace hrd2 := Lib.hid hrd2
      replace hd2 := Lib.hid hd2
      have hh2 := Lib.hid (hh1.out.came ((N : Int) + k))
      have hb2 := Lib.hid (hb1'.out.set 72 (.int .i64 ((N : Int) + k)))
      have hu2 : Hid (Upd (fun b => b = g) wr (w1.setCell ⟨g, 72, none⟩ (.int .i64 ((N : Int) + k)))) := Lib.hid (hu1.out.setCell (.inl rfl) _)
      by_cases hz : (N + k) % 64 = 0
      · have hz' : ((N : Int) + k) % 64 = 0 := by omega
        go_wp2_with fail
        have hS : True := trivial
        refine wp_region_L (n := 8) (fun _ : World => True) [] [0, 1, 2, 3, 4, 5, 6] (by kernel_rfl) rfl ?_
        refine AnyL.pure (i := 0) (v := ?_) (some 38) rfl rfl (by kernel_rfl) (by kernel_rfl) (by kernel_rfl) rfl (fun _ _ _ h => h) (by rfl) (fun ww => ?_) ?_; rotate_left; · (go_simp; (try with_reducible rfl))
        refine AnyL.pure (i := 1) (v := ?_) (some 39) rfl rfl (by kernel_rfl) (by kernel_rfl) (by kernel_rfl) rfl (fun _ _ _ h => h) (by rfl) (fun ww => ?_) ?_; rotate_left; · (go_simp; (try with_reducible rfl))
        refine AnyL.pure (i := 2) (v := ?_) (some 40) rfl rfl (by kernel_rfl) (by kernel_rfl) (by kernel_rfl) rfl (fun _ _ _ h => h) (by rfl) (fun ww => ?_) ?_; rotate_left; · (go_simp; (try with_reducible rfl))
        refine AnyL.pure (i := 3) (v := ?_) (some 41) rfl rfl (by kernel_rfl) (by kernel_rfl) (by kernel_rfl) rfl (fun _ _ _ h => h) (by rfl) (fun ww => ?_) ?_; rotate_left; · (go_simp; (try with_reducible rfl))
        refine AnyL.pure (i := 4) (v := ?_) (some 42) rfl rfl (by kernel_rfl) (by kernel_rfl) (by kernel_rfl) rfl (fun _ _ _ h => h) (by rfl) (fun ww => ?_) ?_; rotate_left; · (go_simp; (try with_reducible rfl))
        refine AnyL.pure (i := 5) (v := ?_) (some 43) rfl rfl (by kernel_rfl) (by kernel_rfl) (by kernel_rfl) rfl (fun _ _ _ h => h) (by rfl) (fun ww => ?_) ?_; rotate_left; · (go_simp; (try with_reducible rfl))
        refine AnyL.pure (i := 6) (v := ?_) (some 44) rfl rfl (by kernel_rfl) (by kernel_rfl) (by kernel_rfl) rfl (fun _ _ _ h => h) (by rfl) (fun ww => ?_) ?_; rotate_left; · (go_simp; (try with_reducible rfl))
        simp only [Act.put, List.setIfInBounds_toArray]; try simp only [List.set_cons_zero, List.set_cons_succ]
        refine AnyL.last (i := 7) (by kernel_rfl) rfl rfl rfl (fun K hK => ?_)
        go_simp
        change Calls Tryz.prog 58 _ (w1.setCell ⟨g, 72, none⟩ (.int .i64 ((N : Int) + k))).drew _
        replace hb2 := Lib.hid hb2.out.drew
        replace hu2 := Lib.hid hu2.out.drew
        generalize (w1.setCell ⟨g, 72, none⟩ (.int .i64 ((N : Int) + k))).drew = w2 at *
        generalize cs1.setIfInBounds 72 (.int .i64 ((N : Int) + k)) = cs2 at *
        obtain ⟨lp, hlp, hrp⟩ := hh2.out.part hb2.out
        refine (turn_any g 133 cs2 _ lp w2 hb2.out hh2.out.words (ht.out.upd hu2.out (fun h => hg2 h.symm) (fun h => hg0 h.symm)) hrp hlp).mono ?_
        rintro e w3 ⟨ds, rfl, htd, hb3, hu3⟩
        have hh3 := hh2.out.turned htd
        clear hlp hrp hb2 htd hrun
        have hu4 := hu2.out.trans_same hu3
        replace hh3 := Lib.hid hh3; replace hb3 := Lib.hid hb3; replace hu4 := Lib.hid hu4; clear hu3 hu2
        refine hK _ _ ?_; clear hK K
        refine AnyL.done (by kernel_rfl) ?_
        go_wp2
        go_roundw
        case rel => exact ⟨m - k, N + k, r.drop k, A2, c - k, ds, by omega, by omega, by rw [List.length_drop, hr.out], rfl, hrd2.out.upd hu4.out fun b h1 h2 => hd2.out (h2 ▸ h1), fun _ => hd2.out, hh3.out, hb3.out, ht.out.upd hu4.out (fun h => hg2 h.symm) (fun h => hg0 h.symm), hu.out.trans_same hu4.out⟩
        case measure => simp only [slen]; omega
      · have hz' : ¬ (((N : Int) + k) % 64 = 0) := by omega
        go_wp2_with fail
        go_roundw
        case rel => exact ⟨m - k, N + k, r.drop k, A2, c - k, _, by omega, by omega, by rw [List.length_drop, hr.out], rfl, hrd2.out.upd hu2.out fun b h1 h2 => hd2.out (h2 ▸ h1), fun _ => hd2.out, hh2.out, hb2.out, ht.out.upd hu2.out (fun h => hg2 h.symm) (fun h => hg0 h.symm), hu.out.trans_same hu2.out⟩
        case measure => simp only [slen]; omega
    · obtain rfl : m = 0 := by omega
      obtain rfl : N = n + L := by omega
      go_wp2
      refine bodyPost_end (results_none rfl _ _ _) rfl ?_
      exact ⟨cs, rfl, hh, hb, hu⟩
end Go.Proofs.YtedaapcmcimepaaGreatDoor
