/-
  SHA-256 at once, and keyed: they end, and tell 32 bytes; nothing old turns.
-/
import Derived.Test.YtedaapcmcimepaaGreatDoorHsc
import Derived.Deep.CutRange
namespace Go.Proofs.YtedaapcmcimepaaGreatDoor
open Go.RowKit

theorem Tabs.lt {w : World} (h : Tabs w) : 2 < w.heap.size := by obtain ⟨⟨_, _, h, -⟩, -⟩ := h; exact h.lt
theorem RdB.old {w : World} {v : Value} {l : List UInt8} (h : RdB w v l) : 0 < l.length → ∀ k, v.ownBlock = some k → k < w.heap.size := fun h0 =>
  RdC.block_lt h fun h1 => by
    have : (bvs l).length = 0 := by rw [h1]; rfl
    rw [bvs_length] at this
    omega

theorem B8s.splice {cs : Array Value} {n : Nat} (h : B8s cs n) (off : Nat) (l : List UInt8) (hl : off + l.length ≤ n) : B8s (splice cs.toList off (bvs l)).toArray n := by
  have hs : cs.toList.length = n := by simpa using h.1
  have hb : (bvs l).length = l.length := bvs_length l
  have hat := getElem?_splice cs.toList off (bvs l) (by omega)
  refine ⟨by simp [length_splice _ _ _ (show off + (bvs l).length ≤ cs.toList.length by omega), h.1], fun j hj => ?_⟩
  rw [List.getElem?_toArray, hat]
  by_cases h3 : j < off
  · rw [if_pos h3, Array.getElem?_toList]
    exact h.2 j hj
  · rw [if_neg h3]
    by_cases h4 : j < off + (bvs l).length
    · rw [if_pos h4]
      exact ⟨l[j - off]'(by omega), bvs_at (List.getElem?_eq_getElem _)⟩
    · rw [if_neg h4, Array.getElem?_toList]
      exact h.2 j hj

set_option maxRecDepth 100000 in
set_option maxHeartbeats 2000000 in
theorem dsum_any (v : Value) (l : List UInt8) (w : World) (ht : Tabs w) (hv : RdB w v l) (hl : l.length ≤ 140737488355328) : Calls Tryz.prog 33 #[v] w (SumP w) := by
  have i61 : (Tryz.prog.info? 61).map (·.size) = some 32 := by kernel_rfl
  replace i61 := Lib.hid i61
  have h2lt := ht.lt
  replace ht := Lib.hid ht
  replace hv := Lib.hid hv
  go_enter Tryz.func33, Tryz.ntmps33
  go_upto_region 1 with fail
  refine alloc_bytes (C := fun w1 => Code.wp _ _ _ _ w1) (n := 32) (B8s.of rfl) ?_
  intro w1 zs hzs hz hu
  generalize hHe : w.heap.size = H at hz h2lt ⊢
  replace ht := Lib.hid (ht.out.none hu)
  have hold := Lib.hid hv.out.old
  replace hv := Lib.hid (hv.out.none hu)
  replace hHe := Lib.hid hHe
  replace hz := Lib.hid hz
  replace hzs := Lib.hid hzs
  have hHs : H < w1.heap.size := hz.out.lt
  replace hu := Lib.hid hu
  go_wp2_with (go_at_call 34; refine (newh_any _ ht.out).mono ?_; rintro e w2 ⟨g, cs, rfl, hge, hh, hb, hu2⟩; refine Hid.out ?_)
  refine Lib.hid ?_
  replace hv := Lib.hid (hv.out.none hu2)
  replace ht := Lib.hid (ht.out.none hu2)
  replace hz := Lib.hid (hz.out.upd hu2 id)
  replace hu := Lib.hid (hu.out.then_none hu2)
  have hc := write_any g 0 cs v l w2 hh hb ht.out (by omega) (by omega) hv.out (fun h0 h1 => by have h2 := hold.out h0 g h1; have h3 := hHe.out; omega) (by omega)
  replace hc := Lib.hid hc
  clear hh hb hu2
  go_wp2_with (go_at_call 35; refine hc.out.mono ?_; clear hc; rintro e w3 ⟨cs3, rfl, hh3, hb3, hu3⟩; refine Hid.out ?_)
  refine Lib.hid ?_
  replace ht := Lib.hid (ht.out.upd hu3 (show ¬ 2 = g by omega) (show ¬ 0 = g by omega))
  replace hz := Lib.hid (hz.out.upd hu3 (show ¬ H = g by omega))
  replace hu := Lib.hid (hu.out.trans hu3 fun k hk => .inr (by have h1 : k = g := hk; have h2 := hHe.out; omega))
  rw [Nat.zero_add] at hh3
  have hc := hsum_any g l.length cs3 w3 hh3 hb3 ht.out (by omega)
  replace hc := Lib.hid hc
  clear hh3 hb3 hu3 hv
  go_wp2_with (first | (go_at_call 37; refine hc.out.mono ?_; rintro e w4 ⟨ds, rfl, hds, hu4⟩; replace hds := Lib.hid hds; replace hz := Lib.hid (hz.out.upd hu4 id); replace hu := Lib.hid (hu.out.then_none hu4)) | (refine wpList_storeBlk rfl rfl _ _ 61 rfl H rfl 61 zs ds rfl hz.out 32 hzs.out.1 hds.out.1 i61.out hds.out.one ?_; intro w9 hb9 hu9; replace hb9 := Lib.hid hb9; replace hu := Lib.hid (hu.out.trans hu9 fun k hk => .inr (by have h1 : k = H := hk; have h2 := hHe.out; omega)); refine Hid.out ?_))
  refine Lib.hid ?_
  go_wp2
  exact bodyPost_ret (results_cell_row Tryz.results33 _ _ H 61 ds (0, 0) _ rfl hb9.out Tryz.underlying61 rfl (by rw [hds.out.1]; exact i61.out)) rfl ⟨ds, rfl, hds.out, hu.out⟩

/-- Where Mac stands: the two hashers, the key's block, the table's rows, what is told and what came in. -/
structure MS (w0 : World) (H KB g1 g2 : Nat) (u : Value) (lu : List UInt8) (zs kt : Array Value) (n1 n2 : Nat) (w : World) : Prop where
  tabs : Tabs w
  rd : RdB w u lu
  z : Blk w H 61 zs
  k : Blk w KB 107 kt
  one : ∃ c, Blk w g1 133 c ∧ HsC c n1
  two : ∃ c, Blk w g2 133 c ∧ HsC c n2
  upd : Upd noBlk w0 w
  start : w0.heap.size = H
  H2 : 2 < H
  HK : H < KB
  K1 : KB < g1
  G : g1 < g2
  old : 0 < lu.length → ∀ k, u.ownBlock = some k → k < H
section
variable {w0 w w' : World} {H KB g1 g2 : Nat} {u : Value} {lu : List UInt8} {zs kt : Array Value} {n1 n2 : Nat}
theorem MS.same (h : MS w0 H KB g1 g2 u lu zs kt n1 n2 w) (hu : Upd noBlk w w') : MS w0 H KB g1 g2 u lu zs kt n1 n2 w' := by
  obtain ⟨c1, h1, h1'⟩ := h.one
  obtain ⟨c2, h2, h2'⟩ := h.two
  exact ⟨h.tabs.none hu, h.rd.none hu, h.z.upd hu id, h.k.upd hu id, ⟨c1, h1.upd hu id, h1'⟩, ⟨c2, h2.upd hu id, h2'⟩, h.upd.then_none hu, h.start, h.H2, h.HK, h.K1, h.G, h.old⟩
theorem MS.write1 (h : MS w0 H KB g1 g2 u lu zs kt n1 n2 w) {m : Nat} {e : Ending} (hw : WriteP w g1 n1 m e w') : e = .returned (.tuple #[]) ∧ MS w0 H KB g1 g2 u lu zs kt (n1 + m) n2 w' := by
  obtain ⟨c, he, hc, hb, hu⟩ := hw
  obtain ⟨c2, h2, h2'⟩ := h.two
  have H2 := h.H2; have HK := h.HK; have K1 := h.K1; have G := h.G; have st := h.start
  exact ⟨he, h.tabs.upd hu (by omega) (by omega), h.rd.upd' hu (fun h0 k hk h1 => by have := h.old h0 k hk; omega), h.z.upd hu (by omega), h.k.upd hu (by omega), ⟨c, hb, hc⟩, ⟨c2, h2.upd hu (by omega), h2'⟩,
    h.upd.trans hu (fun k hk => .inr (by have h1 : k = g1 := hk; omega)), h.start, H2, HK, K1, G, h.old⟩
theorem MS.write2 (h : MS w0 H KB g1 g2 u lu zs kt n1 n2 w) {m : Nat} {e : Ending} (hw : WriteP w g2 n2 m e w') : e = .returned (.tuple #[]) ∧ MS w0 H KB g1 g2 u lu zs kt n1 (n2 + m) w' := by
  obtain ⟨c, he, hc, hb, hu⟩ := hw
  obtain ⟨c1, h1, h1'⟩ := h.one
  have H2 := h.H2; have HK := h.HK; have K1 := h.K1; have G := h.G; have st := h.start
  exact ⟨he, h.tabs.upd hu (by omega) (by omega), h.rd.upd' hu (fun h0 k hk h1 => by have := h.old h0 k hk; omega), h.z.upd hu (by omega), h.k.upd hu (by omega), ⟨c1, h1.upd hu (by omega), h1'⟩, ⟨c, hb, hc⟩,
    h.upd.trans hu (fun k hk => .inr (by have h1 : k = g2 := hk; omega)), h.start, H2, HK, K1, G, h.old⟩
/-- Bytes are written to the first hasher. -/
theorem MS.calls1 (h : MS w0 H KB g1 g2 u lu zs kt n1 n2 w) (v : Value) (l : List UInt8) (hv : RdB w v l) (hd : 0 < l.length → v.ownBlock ≠ some g1) (hn : n1 + l.length ≤ 4611686018427387904) :
    Calls Tryz.prog 35 #[.pointer (some ⟨g1, 0, none⟩), v] w fun e w' => e = .returned (.tuple #[]) ∧ MS w0 H KB g1 g2 u lu zs kt (n1 + l.length) n2 w' := by
  obtain ⟨c1, h1, h1'⟩ := h.one
  have H2 := h.H2; have HK := h.HK; have K1 := h.K1; have G := h.G
  exact (write_any g1 n1 c1 v l w h1' h1 h.tabs (by omega) (by omega) hv hd hn).mono fun _ _ hw => h.write1 hw
theorem MS.calls2 (h : MS w0 H KB g1 g2 u lu zs kt n1 n2 w) (v : Value) (l : List UInt8) (hv : RdB w v l) (hd : 0 < l.length → v.ownBlock ≠ some g2) (hn : n2 + l.length ≤ 4611686018427387904) :
    Calls Tryz.prog 35 #[.pointer (some ⟨g2, 0, none⟩), v] w fun e w' => e = .returned (.tuple #[]) ∧ MS w0 H KB g1 g2 u lu zs kt n1 (n2 + l.length) w' ∧ Upd (fun k => k = g2) w w' := by
  obtain ⟨c2, h2, h2'⟩ := h.two
  have H2 := h.H2; have HK := h.HK; have K1 := h.K1; have G := h.G
  exact (write_any g2 n2 c2 v l w h2' h2 h.tabs (by omega) (by omega) hv hd hn).mono fun _ _ hw => ⟨(h.write2 hw).1, (h.write2 hw).2, hw.choose_spec.2.2.2⟩
theorem MS.sum1 (h : MS w0 H KB g1 g2 u lu zs kt n1 n2 w) (hn : n1 ≤ 1152921504606846976) :
    Calls Tryz.prog 37 #[.pointer (some ⟨g1, 0, none⟩)] w fun e w' => ∃ ds, e = .returned (.agg ds) ∧ B8s ds 32 ∧ MS w0 H KB g1 g2 u lu zs kt n1 n2 w' := by
  obtain ⟨c1, h1, h1'⟩ := h.one
  exact (hsum_any g1 n1 c1 w h1' h1 h.tabs hn).mono fun _ _ ⟨ds, he, hd, hu⟩ => ⟨ds, he, hd, h.same hu⟩
theorem MS.sum2 (h : MS w0 H KB g1 g2 u lu zs kt n1 n2 w) (hn : n2 ≤ 1152921504606846976) :
    Calls Tryz.prog 37 #[.pointer (some ⟨g2, 0, none⟩)] w fun e w' => ∃ ds, e = .returned (.agg ds) ∧ B8s ds 32 ∧ MS w0 H KB g1 g2 u lu zs kt n1 n2 w' := by
  obtain ⟨c2, h2, h2'⟩ := h.two
  exact (hsum_any g2 n2 c2 w h2' h2 h.tabs hn).mono fun _ _ ⟨ds, he, hd, hu⟩ => ⟨ds, he, hd, h.same hu⟩
end

set_option maxRecDepth 100000 in
set_option maxHeartbeats 2000000 in
theorem mac_any (v u : Value) (lv lu : List UInt8) (w : World) (ht : Tabs w) (hv : RdB w v lv) (hlv : lv.length ≤ 140737488355328) (hu : RdB w u lu) (hlu : lu.length ≤ 140737488355328) : Calls Tryz.prog 19 #[v, u] w (SumP w) := by
  have i61 : (Tryz.prog.info? 61).map (·.size) = some 32 := by kernel_rfl
  have i107 : (Tryz.prog.info? 107).map (·.size) = some 64 := by kernel_rfl
  replace i61 := Lib.hid i61
  replace i107 := Lib.hid i107
  obtain ⟨i5, hi⟩ := info_parts Tryz.info5
  replace hi : Hid (Tryz.prog.info? 5 = some i5 ∧ i5.size = 1) := Lib.hid ⟨hi.1, hi.2.2.1⟩
  have h2lt := ht.lt
  replace ht := Lib.hid ht
  have hoV := Lib.hid hv.old
  have hoU := Lib.hid hu.old
  replace hv := Lib.hid hv
  replace hu := Lib.hid hu
  obtain ⟨nv, hnv⟩ : ∃ n, lv.length = n := ⟨_, rfl⟩
  have hv' := hv.out
  unfold RdB at hv'
  rw [hnv] at hv'
  obtain ⟨hvl, AV, cV, rfl, hc1, hc2, -, hatV⟩ := hv'
  replace hatV := Lib.hid hatV
  rw [hnv] at hlv
  replace hnv := Lib.hid hnv
  clear hvl
  go_enter Tryz.func19, Tryz.ntmps19
  go_upto_region 1 with fail
  refine alloc_bytes (C := fun w1 => Code.wp _ _ _ _ w1) (n := 32) (B8s.of rfl) ?_
  intro w1 zs hzs hz hw
  generalize hHe : w.heap.size = H at hz h2lt ⊢
  replace ht := Lib.hid (ht.out.none hw)
  replace hv := Lib.hid (hv.out.none hw)
  replace hu := Lib.hid (hu.out.none hw)
  replace hHe := Lib.hid hHe
  replace hzs := Lib.hid hzs
  have hHs : H < w1.heap.size := hz.lt
  replace hz := Lib.hid hz
  replace hw := Lib.hid hw
  go_upto_region 2 with fail
  refine alloc_bytes (C := fun w1 => Code.wp _ _ _ _ w1) (n := 64) (B8s.of rfl) ?_
  intro w2 ks hks hk hw2
  generalize hKe : w1.heap.size = KB at hk hHs ⊢
  replace ht := Lib.hid (ht.out.none hw2)
  replace hv := Lib.hid (hv.out.none hw2)
  replace hu := Lib.hid (hu.out.none hw2)
  replace hz := Lib.hid (hz.out.upd hw2 id)
  replace hw := Lib.hid (hw.out.then_none hw2)
  clear hKe hw2
  replace hks := Lib.hid hks
  replace hk := Lib.hid hk
  go_upto_if 12 with fail
  go_cut [] from 6 to 20 (fun wx => ∃ ks, B8s ks 64 ∧ Blk wx KB 107 ks ∧ Upd (fun k => k = KB) w2 wx)
  case first =>
    by_cases h64 : 64 < nv
    · have h64' : (64 : Int) < nv := by omega
      have hc := dsum_any _ lv w2 ht.out hv.out (by rw [hnv.out]; exact hlv)
      replace hc := Lib.hid hc
      go_wp2_with (first | (go_at_call 33; refine hc.out.mono ?_; clear hc; rintro e w3 ⟨ds, rfl, hds, hu3⟩; replace hds := Lib.hid hds; replace hu3 := Lib.hid hu3) | (refine wpList_storeNew rfl rfl _ _ 61 rfl w3.heap.size rfl rfl ds rfl _ 32 rfl hds.out.1 i61.out hds.out.one ?_; intro w4 hb4 hu4 hs4; refine Hid.out ?_))
      refine Lib.hid ?_
      have hk4 := (hk.out.upd hu3.out id).upd hu4 id
      have hu5 := Lib.hid ((hu3.out.then_none hu4).of_none (fun k => k = KB))
      generalize w3.heap.size = J at hb4 ⊢
      obtain ⟨ld, hld, hdl⟩ := hds.out.list
      have hk5 : w4.drew.heap[KB]? = some (.cells ks.toList.toArray 107 (0, 0)) := by rw [Array.toArray_toList]; exact hk4
      have hsrc : ∀ (j : Nat) (u : Value), (bvs ld)[j]? = some u → w4.drew.cell? ((⟨J, 0, none⟩ : Addr).add j) = some u := fun j u hj => by
        rw [addr_add_zero, hb4.drew.cell]
        rw [← hdl] at hj
        simpa using hj
      replace hk5 := Lib.hid hk5
      replace hsrc := Lib.hid hsrc
      clear hb4 hk4 hs4 hu4 hdl
      go_wp2_with fail
      have hS : True := trivial
      refine wp_region_L (n := 3) (fun _ : World => True) [] [0, 1] (by kernel_rfl) rfl ?_
      refine AnyL.pure (i := 0) (v := ?_) (some 15) rfl rfl (by kernel_rfl) (by kernel_rfl) (by kernel_rfl) rfl (fun _ _ _ h => h) (by rfl) (fun ww => ?_) ?_; rotate_left; · (go_simp; (try with_reducible rfl))
      refine AnyL.pure (i := 1) (v := ?_) (some 16) rfl rfl (by kernel_rfl) (by kernel_rfl) (by kernel_rfl) rfl (fun _ _ _ h => h) (by rfl) (fun ww => ?_) ?_; rotate_left; · (go_simp; (try with_reducible rfl))
      simp only [Act.put, List.setIfInBounds_toArray]; try simp only [List.set_cons_zero, List.set_cons_succ]
      refine AnyL.last (i := 2) (by kernel_rfl) rfl rfl rfl (fun K hK => ?_)
      refine step_copy_cells _ (by rfl) _ _ 22 22 (by rfl) 5 i5 1 Tryz.underlying22 hi.out (some ⟨KB, 0, none⟩) (some ⟨J, 0, none⟩) 64 64 32 32 32 (by rfl) (by rfl) ?hk KB 0 ks.toList 107 hk5.out (bvs ld) ?hn ?hpos ?hfit ?h1 ?_
      case hk => rfl
      case hn => rw [bvs_length, hld]
      case hpos => exact fun _ => ⟨rfl, _, rfl, hsrc.out⟩
      case hfit => rw [bvs_length, hld, Array.length_toList, hks.out.1]; omega
      case h1 => exact bvs_one _
      intro w5 hg5 hu6
      refine hK _ _ ?_; clear hK K
      refine AnyL.done (by kernel_rfl) ?_
      have hs6 := hks.out.splice 0 ld (by omega)
      replace hu6 := Lib.hid (hu5.out.drew.trans_same hu6)
      go_wp2_with fail
      go_meet
      exact ⟨_, hs6, hg5, hu6.out⟩
    · have h64' : ¬ (64 : Int) < nv := by omega
      have hkk : Hid (Blk w2 KB 107 ks.toList.toArray) := Lib.hid (by rw [Array.toArray_toList]; exact hk.out)
      have hatV2 : Hid (∀ (j : Nat) (u : Value), (bvs lv)[j]? = some u → ∃ ad, AV = some ad ∧ w2.cell? (ad.add j) = some u) := Lib.hid (by
        have h1 := hv.out
        unfold RdB at h1
        rw [hnv.out] at h1
        obtain ⟨-, A, c, he, -, -, -, h2⟩ := h1
        obtain ⟨rfl, -, rfl⟩ := Value.slice.inj he
        exact h2)
      obtain ⟨w5, hrun, hg5, hu5⟩ := run_copy_cells (P := Tryz.prog) w2 22 22 3 5 i5 1 Tryz.underlying22 hi.out (some ⟨KB, 0, none⟩) AV 64 64 nv cV nv (Nat.min_eq_left (by omega)).symm KB 0 ks.toList 107 hkk.out (bvs lv)
        (by rw [bvs_length, hnv.out, Nat.mul_one]) (fun h0 => ⟨rfl, by
          obtain ⟨ad, rfl, -⟩ := hatV2.out 0 (bv (lv[0]'(by have := hnv.out; omega))) (bvs_at (List.getElem?_eq_getElem _))
          exact ⟨ad, rfl, fun j u hj => by
            obtain ⟨ad', h1, h2⟩ := hatV2.out j u hj
            obtain rfl := Option.some.inj h1
            exact h2⟩⟩) (by have e1 : ks.toList.length = 64 := (Array.length_toList).trans hks.out.1; have e2 := hnv.out; rw [bvs_length, e1]; omega) (bvs_one _)
      have hs6 := Lib.hid (hks.out.splice 0 lv (by have := hnv.out; omega))
      generalize (splice ks.toList 0 (bvs lv)).toArray = ks2 at hs6 hg5
      replace hg5 : Hid (Blk w5 KB 107 ks2) := Lib.hid hg5
      replace hu5 := Lib.hid hu5
      go_wp2_with fail
      go_meet
      exact ⟨_, hs6.out, hg5.out, hu5.out⟩
  case rest =>
    obtain ⟨kt, hkt, hkb, huk⟩ := hcut
    have hKs : KB < w2.heap.size := hk.out.lt
    have ht3 := ht.out.upd huk (show ¬ 2 = KB by omega) (show ¬ 0 = KB by omega)
    have hu3 := hu.out.upd' huk (fun h0 k h1 h2 => by have h3 := hoU.out h0 k h1; have h4 := hHe.out; have h5 : k = KB := h2; omega)
    have hz3 := hz.out.upd huk (show ¬ H = KB by omega)
    have hw3 := hw.out.trans huk fun k h1 => .inr (by have h4 := hHe.out; have h5 : k = KB := h1; omega)
    have hsz3 := huk.size
    have i107' : (Tryz.prog.info? 107).map (·.size) = some kt.size := by rw [hkt.1]; exact i107.out
    replace i107' := Lib.hid i107'
    replace hkt := Lib.hid hkt
    replace hkb := Lib.hid hkb
    replace hu3 := Lib.hid hu3
    replace hz3 := Lib.hid hz3
    replace hw3 := Lib.hid hw3
    replace ht3 := Lib.hid ht3
    clear hk hks hv hu hz hw ht huk hatV hc1 hc2 hlv i107
    go_wp2_with (go_at_call 34; refine (newh_any _ ht3.out).mono ?_; rintro e w4 ⟨g1, cs1, rfl, hge1, hh1, hb1, hu4⟩; refine Hid.out ?_)
    refine Lib.hid ?_
    replace ht3 := Lib.hid (ht3.out.none hu4)
    replace hb1 := Lib.hid hb1
    replace hu4 := Lib.hid hu4
    replace hh1 := Lib.hid hh1
    go_wp2_with (go_at_call 34; refine (newh_any _ ht3.out).mono ?_; rintro e w5 ⟨g2, cs2, rfl, hge2, hh2, hb2, hu5⟩; refine Hid.out ?_)
    refine Lib.hid ?_
    have hu45 := hu4.out.then_none hu5
    have hst := hHe.out
    have hg1s := hb1.out.lt
    have hms : MS w H KB g1 g2 u lu zs kt 0 0 w5 := ⟨ht3.out.none hu5, hu3.out.none hu45, hz3.out.upd hu45 id, hkb.out.upd hu45 id, ⟨cs1, hb1.out.upd hu5 id, hh1.out⟩, ⟨cs2, hb2, hh2⟩, hw3.out.then_none hu45, hst, h2lt, hHs, by omega, by omega, fun h0 k hk => by have := hoU.out h0 k hk; omega⟩
    replace hms := Lib.hid hms
    clear ht3 hu3 hz3 hkb hb1 hh1 hh2 hb2 hu4 hu5 hu45 hw3 hst hge1 hge2 hg1s hHe hsz3 hKs
    go_wp2_with (first | (refine wpList_loadBlk rfl _ 107 rfl KB rfl 107 kt hms.out.k _ Tryz.underlying107 rfl i107'.out ?_) | (go_at_call 36; refine (masked_any kt _ _ hkt.out).mono ?_; rintro e w6 ⟨g3, lm, rfl, hlm, hge3, hrd3, hu6⟩; refine Hid.out ?_))
    refine Lib.hid ?_
    have hgl : g1 < w5.heap.size ∧ g2 < w5.heap.size := ⟨hms.out.one.elim fun _ h => h.1.lt, hms.out.two.elim fun _ h => h.1.lt⟩
    replace hms := Lib.hid (hms.out.same hu6)
    have hc := Lib.hid (hms.out.calls1 _ lm hrd3 (fun _ h => by have : g3 = g1 := Option.some.inj h; omega) (by omega))
    clear hrd3 hu6
    go_wp2_with (go_at_call 35; refine hc.out.mono ?_; clear hc; rintro e w7 ⟨rfl, hms7⟩; refine Hid.out ?_)
    refine Lib.hid ?_
    rw [hlm, Nat.zero_add] at hms7
    have H2 := hms7.H2; have HK := hms7.HK; have K1 := hms7.K1; have G12 := hms7.G
    have hc := Lib.hid (hms7.calls1 u lu hms7.rd (fun h0 h1 => by have := hms7.old h0 g1 h1; omega) (by omega))
    clear hms hlm hge3 hgl hms7
    go_wp2_with (go_at_call 35; refine hc.out.mono ?_; clear hc; rintro e w8 ⟨rfl, hms8⟩; refine Hid.out ?_)
    refine Lib.hid ?_
    have hc := Lib.hid (hms8.sum1 (by omega))
    clear hms8
    go_wp2_with (first | (go_at_call 37; refine hc.out.mono ?_; clear hc; rintro e w9 ⟨ds, rfl, hds, hms9⟩; replace hds := Lib.hid hds; replace hms9 := Lib.hid hms9) | (refine wpList_storeNew rfl rfl _ _ 61 rfl w9.heap.size rfl rfl ds rfl _ 32 rfl hds.out.1 i61.out hds.out.one ?_; intro w10 hb10 hu10 hs10; refine Hid.out ?_))
    refine Lib.hid ?_
    have hgl : g1 < w9.heap.size ∧ g2 < w9.heap.size := ⟨hms9.out.one.elim fun _ h => h.1.lt, hms9.out.two.elim fun _ h => h.1.lt⟩
    generalize w9.heap.size = J at hb10 hgl ⊢
    replace hms9 := Lib.hid (hms9.out.same hu10)
    replace hb10 := Lib.hid hb10
    clear hu10 hs10
    go_wp2_with (first | (refine wpList_loadBlk rfl _ 107 rfl KB rfl 107 kt hms9.out.k _ Tryz.underlying107 rfl i107'.out ?_) | (go_at_call 36; refine (masked_any kt _ _ hkt.out).mono ?_; rintro e w11 ⟨g4, ln, rfl, hln, hge4, hrd4, hu11⟩; refine Hid.out ?_))
    refine Lib.hid ?_
    have hgl2 : g2 < w10.heap.size := hms9.out.two.elim fun _ h => h.1.lt
    replace hms9 := Lib.hid (hms9.out.same hu11)
    replace hb10 := Lib.hid (hb10.out.upd hu11 id)
    have hc := Lib.hid (hms9.out.calls2 _ ln hrd4 (fun _ h => by have : g4 = g2 := Option.some.inj h; omega) (by omega))
    clear hrd4 hu11
    go_wp2_with (go_at_call 35; refine hc.out.mono ?_; clear hc; rintro e w12 ⟨rfl, hms12, hu12⟩; refine Hid.out ?_)
    refine Lib.hid ?_
    replace hb10 := hb10.out.upd hu12 (show ¬ J = g2 by omega)
    obtain ⟨ld, hld, hrd⟩ := hds.out.rd hb10 (by simp [maxLen])
    rw [hln, Nat.zero_add] at hms12
    have hc := Lib.hid (hms12.calls2 _ ld hrd (fun _ h => by have : J = g2 := Option.some.inj h; omega) (by omega))
    clear hms9 hms12 hu12 hb10 hrd hge4 hgl hgl2 hln
    go_wp2_with (go_at_call 35; refine hc.out.mono ?_; clear hc; rintro e w13 ⟨rfl, hms13, -⟩; refine Hid.out ?_)
    refine Lib.hid ?_
    have hc := Lib.hid (hms13.sum2 (by omega))
    clear hms13
    go_wp2_with (first | (go_at_call 37; refine hc.out.mono ?_; clear hc; rintro e w14 ⟨es, rfl, hes, hms14⟩; replace hes := Lib.hid hes; have hst := hms14.start; replace hms14 := Lib.hid hms14) | (refine wpList_storeBlk rfl rfl _ _ 61 rfl H rfl 61 zs es rfl hms14.out.z 32 hzs.out.1 hes.out.1 i61.out hes.out.one ?_; intro w15 hb15 hu15; replace hb15 := Lib.hid hb15; have hu16 := Lib.hid (hms14.out.upd.trans hu15 fun k hk => .inr (by have h1 : k = H := hk; omega)); refine Hid.out ?_))
    refine Lib.hid ?_
    go_wp2
    exact bodyPost_ret (results_cell_row Tryz.results19 _ _ H 61 es (0, 0) _ rfl hb15.out Tryz.underlying61 rfl (by rw [hes.out.1]; exact i61.out)) rfl ⟨es, rfl, hes.out, hu16.out⟩
end Go.Proofs.YtedaapcmcimepaaGreatDoor
