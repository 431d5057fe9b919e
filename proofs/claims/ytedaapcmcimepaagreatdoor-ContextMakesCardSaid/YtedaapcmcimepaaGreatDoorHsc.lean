/-
  SHA-256's Sum: it ends, and tells 32 bytes; nothing old turns.
-/
import Derived.Test.YtedaapcmcimepaaGreatDoorHsb
import Derived.Deep.Cut
namespace Go.Proofs.YtedaapcmcimepaaGreatDoor
open Go.RowKit

theorem own_form {w : World} {base : Nat} {e : TypeId} {size : Nat} {v : Value} {n : Nat} {xs : List Value} (h : w.ownsRow base e size v n xs) :
    ∃ A cap, v = .slice A n cap ∧ n ≤ cap ∧ cap ≤ maxLen ∧ (A = none → n = 0 ∧ cap = 0) ∧ (∀ g, v.ownBlock = some g ↔ A = some ⟨g, 0, none⟩) ∧ ∀ (j : Nat) (u : Value), xs[j]? = some u → ∃ g, A = some ⟨g, 0, none⟩ ∧ w.cell? ⟨g, j, none⟩ = some u := by
  rcases h.2 with ⟨rfl, h0⟩ | ⟨g, cap, cur, rfl, _, hg, hnc, hcm, hcs, htake⟩
  · subst h0
    have : xs = [] := List.eq_nil_of_length_eq_zero (by simpa using h.1)
    subst this
    exact ⟨none, 0, rfl, Nat.le_refl _, by simp [maxLen], fun _ => ⟨rfl, rfl⟩, fun g => by simp [Value.ownBlock], fun j u hu => by simp at hu⟩
  · exact ⟨some ⟨g, 0, none⟩, cap, rfl, hnc, hcm, fun h => by simp at h, fun g' => by simp [Value.ownBlock], fun j u hu => ⟨g, rfl, own_at h hu⟩⟩
theorem HsC.one {cs : Array Value} {n : Int} (h : HsC cs n) : cs.all (·.oneCell') = true := by
  rw [Array.all_eq_true_iff_forall_mem]
  intro u hu
  obtain ⟨j, hj⟩ := Array.getElem?_of_mem hu
  have hlt := (Array.getElem?_eq_some_iff.1 hj).1
  rw [h.size] at hlt
  by_cases h8 : j < 8
  · obtain ⟨y, hy⟩ := h.words j h8
    obtain rfl := Option.some.inj (hj.symm.trans hy)
    rfl
  · by_cases h72 : j < 72
    · obtain ⟨y, hy⟩ := h.bytes j (by omega) h72
      obtain rfl := Option.some.inj (hj.symm.trans hy)
      rfl
    · obtain rfl : j = 72 := by omega
      obtain rfl := Option.some.inj (hj.symm.trans h.num)
      rfl

/-- 32 bytes are told; nothing old has turned. -/
def SumP (w : World) (e : Ending) (w' : World) : Prop := ∃ ds, e = .returned (.agg ds) ∧ B8s ds 32 ∧ Upd noBlk w w'

set_option maxRecDepth 100000 in
set_option maxHeartbeats 2000000 in
theorem hsum_any (g n : Nat) (cs : Array Value) (w : World) (hh : HsC cs n) (hb : Blk w g 133 cs) (ht : Tabs w) (hn : n ≤ 1152921504606846976) :
    Calls Tryz.prog 37 #[.pointer (some ⟨g, 0, none⟩)] w (SumP w) := by
  have i133 : (Tryz.prog.info? 133).map (·.size) = some 73 := by kernel_rfl
  have i133' : (Tryz.prog.info? 133).map (·.size) = some cs.size := by rw [hh.size]; exact i133
  obtain ⟨P, hP1, hP2, hP⟩ : ∃ P, 1 ≤ P ∧ P ≤ 64 ∧ (n + P) % 64 = 56 := ⟨(119 - n % 64) % 64 + 1, by omega, by omega, by omega⟩
  replace i133 := Lib.hid i133
  replace i133' := Lib.hid i133'
  replace hb := Lib.hid hb
  replace ht := Lib.hid ht
  replace hh := Lib.hid hh
  replace hP := Lib.hid hP
  have hg0 := hb
  have h2lt : 2 < w.heap.size := by obtain ⟨⟨_, _, h, -⟩, -⟩ := ht.out; exact h.lt
  go_enter Tryz.func37, Tryz.ntmps37
  go_upto_region 1 with fail
  refine alloc_bytes (C := fun w1 => Code.wp _ _ _ _ w1) (n := 32) (B8s.of rfl) ?_
  intro w1 zs hzs hz hu
  generalize hHe : w.heap.size = H at hz ⊢
  replace hHe := Lib.hid hHe
  replace hb := Lib.hid (hb.out.upd hu id)
  replace ht := Lib.hid (ht.out.none hu)
  replace hu := Lib.hid hu
  replace hz := Lib.hid hz
  replace hzs := Lib.hid hzs
  go_wp2_with (first | (refine wpList_loadBlk rfl _ 133 rfl g rfl 133 cs hb.out _ Tryz.underlying133 rfl i133'.out ?_) | (refine wpList_storeNew rfl rfl _ _ 133 rfl w1.heap.size rfl rfl cs rfl Tryz.zeroCells133 73 zeroH.size hh.out.size i133.out hh.out.one ?_; intro w2 hb2 hu2 hs2; refine Hid.out ?_))
  refine Lib.hid ?_
  have hE : w.heap.size ≤ w1.heap.size := hu.out.size
  have hHE : H < w1.heap.size := hz.out.lt
  have hgE : g < w.heap.size := by
    have h1 := hb.out.lt
    have h2 := hHe.out
    have h3 := hg0.out.lt
    exact h3
  generalize hEe : w1.heap.size = E at hb2 hs2 hE hHE ⊢
  replace hb := Lib.hid (hb.out.upd hu2 id)
  replace ht := Lib.hid (ht.out.none hu2)
  replace hz := Lib.hid (hz.out.upd hu2 id)
  replace hu := Lib.hid (hu.out.then_none hu2)
  replace hb2 := Lib.hid hb2
  clear hs2 hu2 hEe i133 i133' hg0
  have hown0 : Hid ((w2.alloc (.cells #[.int .u8 128] 5)).ownsRow w2.heap.size 5 1 (.slice (some ⟨w2.heap.size, 0, none⟩) 1 1) 1 (bvs [128])) := Lib.hid (World.ownsRow_lit w2 #[.int .u8 128] 1 (Nat.le_refl _) (by simp [maxLen]) rfl)
  have hu0 : Hid (Upd noBlk w2 (w2.alloc (.cells #[.int .u8 128] 5))) := Lib.hid ((Upd.refl noBlk w2).alloc _)
  obtain ⟨i5, hi⟩ := info_parts Tryz.info5
  replace hi := Lib.hid hi
  go_wp2_with fail
  go_loopw [4] (fun pv wr => ∃ (p : Nat) (A : Option Addr) (c : Nat) (l : List UInt8), 1 ≤ p ∧ p ≤ P ∧ l.length = p ∧ pv = .slice A p c ∧ wr.ownsRow w2.heap.size 5 1 (.slice A p c) p (bvs l) ∧ Upd noBlk w2 wr) (fun pv _ => P - slen pv)
  case atStart => exact ⟨1, _, _, [128], by omega, hP1, rfl, rfl, hown0.out, hu0.out⟩
  case round =>
    clear hown0 hu0
    obtain ⟨p, A, c, l, hp1, hpP, hl, rfl, hown, hur⟩ := hrel
    have cn : wr.cell? ⟨g, 72, none⟩ = some (.int .i64 n) := by rw [(hb.out.upd hur id).cell]; exact hh.out.num
    have q1 : IntKind.i64.wrap ((n : Int) + p) = n + p := by rw [IntKind.wrap_i64]; omega
    replace hl := Lib.hid hl
    by_cases hlt : p < P
    · have hm : ¬ (((n : Int) + p) % 64 = 56) := by have := hP.out; omega
      have hown1 : Hid ((wr.alloc (.cells #[.int .u8 0] 5)).ownsRow w2.heap.size 5 1 (.slice A p c) p (bvs l)) := Lib.hid (own_upd hown ((Upd.refl noBlk wr).alloc _) fun _ _ => id)
      have hsz : w2.heap.size ≤ wr.heap.size := hur.size
      have hsrc : Hid (RdC (wr.alloc (.cells #[.int .u8 0] 5)) (.slice (some ⟨wr.heap.size, 0, none⟩) 1 1) 1 1 (bvs [0])) := Lib.hid (own_rd (World.ownsRow_lit (base := wr.heap.size) wr #[.int .u8 0] 1 (Nat.le_refl _) (by simp [maxLen]) rfl))
      have hge : ∀ k, (Value.slice A p c).ownBlock = some k → w2.heap.size ≤ k := fun k hk => (World.ownsRow.lt hown k hk).1
      replace hge := Lib.hid hge
      replace hown := Lib.hid hown
      replace hur := Lib.hid hur
      go_wp2_with (at_builtin; refine wpList_app _ rfl _ _ 22 rfl w2.heap.size 5 i5 (.int .u8 0) 1 1 Tryz.underlying22 hi.out rfl (by decide) (.slice A p c) p (bvs l) rfl hown1.out _ 1 (bvs [0]) rfl hsrc.out (bvs_one _) (by simp only [maxLen]; omega) (by omega) (by simp; omega) ?_; intro v' w3 hown3 hgrow _; refine Hid.out ?_)
      refine Lib.hid ?_
      obtain ⟨A3, c3, rfl, -⟩ := own_form hown3
      rw [← bvs_append] at hown3
      replace hown3 := Lib.hid hown3
      have hur3 := Lib.hid (((hur.out.alloc (.cells #[.int .u8 0] 5))).grown hgrow fun k hk => .inr (hge.out k hk))
      clear hgrow
      go_wp2_with fail
      go_roundw
      case rel => exact ⟨p + 1, A3, c3, l ++ [0], by omega, by omega, by rw [List.length_append, hl.out]; rfl, rfl, hown3.out, hur3.out⟩
      case measure => simp only [slen]; omega
    · obtain rfl : p = P := by omega
      have hm : ((n : Int) + p) % 64 = 56 := by have := hP.out; omega
      clear hlt hpP hP
      have hw := Lib.hid (hb2.out.upd hur id)
      have hz3 := Lib.hid (hz.out.upd hur id)
      have ht3 := Lib.hid (ht.out.none hur)
      have hu3 := Lib.hid (hu.out.then_none hur)
      replace hown := Lib.hid hown
      have hsz : w2.heap.size ≤ wr.heap.size := hur.size
      have hlt2 := hu.out.size
      clear hb hb2 hz ht hu hur
      go_wp2_with (go_at_call 59; refine (eight_any _ _).mono ?_; rintro e w4 ⟨g8, le, rfl, hle, hge8, hrd8, hu4⟩; refine Hid.out ?_)
      refine Lib.hid ?_
      have hge : ∀ k, (Value.slice A p c).ownBlock = some k → w2.heap.size ≤ k := fun k hk => (World.ownsRow.lt hown.out k hk).1
      have hnE : (Value.slice A p c).ownBlock ≠ some E := own_blk_ne hown.out hw.out (by decide)
      have hnH : (Value.slice A p c).ownBlock ≠ some H := own_blk_ne hown.out hz3.out (by decide)
      have hown4 := Lib.hid (own_upd hown.out hu4 fun _ _ => id)
      replace hw := Lib.hid (hw.out.upd hu4 id)
      replace hz3 := Lib.hid (hz3.out.upd hu4 id)
      replace ht3 := Lib.hid (ht3.out.none hu4)
      have hsz4 : w2.heap.size ≤ w4.heap.size := Nat.le_trans hsz hu4.size
      replace hu3 := Lib.hid (hu3.out.then_none hu4)
      have hrd8' : RdC w4 (.slice (some ⟨g8, 0, none⟩) 8 8) 1 8 (bvs le) := by unfold RdB at hrd8; rw [hle] at hrd8; exact hrd8
      replace hrd8 := Lib.hid hrd8'
      replace hge := Lib.hid hge
      replace hnE := Lib.hid hnE
      replace hnH := Lib.hid hnH
      replace hle := Lib.hid hle
      clear hu4 hown hge8 hrd8' cn
      go_wp2_with (at_builtin; refine wpList_app _ rfl _ _ 22 rfl w2.heap.size 5 i5 (.int .u8 0) 1 1 Tryz.underlying22 hi.out rfl (by decide) (.slice A p c) p (bvs l) rfl hown4.out _ 8 (bvs le) rfl hrd8.out (bvs_one _) (by simp only [maxLen]; omega) (by omega) hsz4 ?_; intro v' w5 hown5 hgrow _; refine Hid.out ?_)
      refine Lib.hid ?_
      obtain ⟨A5, c5, rfl, -⟩ := own_form hown5
      rw [← bvs_append] at hown5
      have hgr := Upd.of_grown hgrow
      replace hu3 := Lib.hid (hu3.out.grown hgrow fun k hk => .inr (Nat.le_trans hlt2 (hge.out k hk)))
      have hw5 := Lib.hid (hw.out.upd hgr hnE.out)
      have hz5 := Lib.hid (hz3.out.upd hgr hnH.out)
      have ht5 : Hid (Tabs w5) := Lib.hid (ht3.out.upd hgr (fun h => by have := hge.out 2 h; omega) (fun h => by have := hge.out 0 h; omega))
      have hrd5 : RdB w5 (.slice A5 (p + 8) c5) (l ++ le) := by
        unfold RdB
        rw [List.length_append, hl.out, hle.out]
        exact own_rd hown5
      have hnE5 : (Value.slice A5 (p + 8) c5).ownBlock ≠ some E := own_blk_ne hown5 hw5.out (by decide)
      have hc5 := write_any E n cs _ (l ++ le) w5 hh.out hw5.out ht5.out (by omega) (by omega) hrd5 (fun _ => hnE5) (by rw [List.length_append, hl.out, hle.out]; omega)
      replace hc5 := Lib.hid hc5
      clear hgr hgrow hw hz3 ht3 hown4 hrd8 hge hnE hnH hrd5 hnE5 hown5 hw5
      go_wp2_with (go_at_call 35; refine hc5.out.mono ?_; clear hc5; rintro e w6 ⟨cs6, rfl, hh6, hb6, hu6⟩; refine Hid.out ?_)
      refine Lib.hid ?_
      replace hz5 := Lib.hid (hz5.out.upd hu6 (show ¬ H = E by omega))
      replace hu3 := Lib.hid (hu3.out.trans hu6 fun k hk => .inr (by have h1 : k = E := hk; omega))
      replace hh6 := Lib.hid hh6
      replace hb6 := Lib.hid hb6
      clear hu6 ht5 hl hle hm q1
      go_upto_region 7 with fail
      refine alloc_bytes (C := fun w1 => Code.wp _ _ _ _ w1) (n := 32) (B8s.of rfl) ?_
      intro w7 ds hds hd hu7
      have hD : w.heap.size ≤ w6.heap.size := hu3.out.size
      generalize hDe : w6.heap.size = D at hd hD ⊢
      have hHD : H ≠ D := by have h1 := hz5.out.lt; omega
      have hz7 := Lib.hid (hz5.out.upd hu7 id)
      have hb7 := Lib.hid (hb6.out.upd hu7 id)
      replace hu3 := Lib.hid (hu3.out.then_none hu7)
      replace hds := Lib.hid hds
      replace hd := Lib.hid hd
      clear hz5 hb6 hu7 hDe
      have hws : W32s (cs6.extract 0 8) 8 := by
        refine ⟨by rw [Array.size_extract, hh6.out.size]; rfl, fun j u hu => ?_⟩
        have hj : j < 8 := by
          have := (Array.getElem?_eq_some_iff.1 hu).1
          rw [Array.size_extract, hh6.out.size] at this
          omega
        obtain ⟨y, hy⟩ := hh6.out.words j hj
        rw [Array.getElem?_extract, if_pos (by rw [hh6.out.size]; omega), Nat.zero_add, hy] at hu
        exact ⟨y, (Option.some.inj hu).symm⟩
      have hrg : w7.rangeAt E 0 (cs6.extract 0 8).toList := by
        intro j u hu
        have hj : j < 8 := by
          have := (List.getElem?_eq_some_iff.1 hu).1
          rw [Array.length_toList, hws.1] at this
          exact this
        rw [hb7.out.cell, Nat.zero_add]
        rw [Array.getElem?_toList, Array.getElem?_extract, if_pos (by rw [hh6.out.size]; omega), Nat.zero_add] at hu
        exact hu
      have hi131 : (Tryz.prog.info? 131).map (·.size) = some (cs6.extract 0 8).toList.length := by rw [Array.length_toList, hws.1]; kernel_rfl
      have hta : (cs6.extract 0 8).toList.toArray = cs6.extract 0 8 := Array.toArray_toList
      rw [show (cs6.extract 0 8) = (cs6.extract 0 8).toList.toArray from hta.symm] at hws
      generalize (cs6.extract 0 8).toList = wl at hws hrg hi131
      clear hta
      replace hws := Lib.hid hws
      replace hrg := Lib.hid hrg
      replace hi131 := Lib.hid hi131
      go_wp2_with (refine wpList_load_mid rfl 131 _ rfl E 0 rfl wl _ hrg.out Tryz.underlying131 rfl hi131.out ?_)
      clear hrg hi131 hb7 hh6
      go_loopw [36] (fun i wr => ∃ (k : Nat) (ds : Array Value), k ≤ 8 ∧ i = .int .i64 k ∧ B8s ds 32 ∧ Blk wr D 61 ds ∧ Blk wr H 61 zs ∧ Upd noBlk w wr) (fun i _ => 8 - (intOf i).toNat)
      case atStart => exact ⟨0, ds, by omega, rfl, hds.out, hd.out, hz7.out, hu3.out⟩
      case round =>
        clear hds hd hz7 hu3
        obtain ⟨k, ds, hk, rfl, hds, hd, hz7, hu⟩ := hrel
        by_cases hlt : k < 8
        · obtain ⟨y, hy⟩ := hws.out.at_ hlt
          obtain ⟨b0, x0⟩ := hds.2 (4 * k) (by omega)
          obtain ⟨b1, x1⟩ := hds.2 (4 * k + 1) (by omega)
          obtain ⟨b2, x2⟩ := hds.2 (4 * k + 2) (by omega)
          obtain ⟨b3, x3⟩ := hds.2 (4 * k + 3) (by omega)
          have c0 : wr.cell? ⟨D, 4 * k, none⟩ = some (bv b0) := by rw [hd.cell]; exact x0
          have c1 : wr.cell? ⟨D, 4 * k + 1, none⟩ = some (bv b1) := by rw [hd.cell]; exact x1
          have c2 : wr.cell? ⟨D, 4 * k + 2, none⟩ = some (bv b2) := by rw [hd.cell]; exact x2
          have c3 : wr.cell? ⟨D, 4 * k + 3, none⟩ = some (bv b3) := by rw [hd.cell]; exact x3
          have f0 : wr.frozen? ⟨D, 4 * k, none⟩ = false := hd.free _ rfl
          have f1 : wr.frozen? ⟨D, 4 * k + 1, none⟩ = false := hd.free _ rfl
          have f2 : wr.frozen? ⟨D, 4 * k + 2, none⟩ = false := hd.free _ rfl
          have f3 : wr.frozen? ⟨D, 4 * k + 3, none⟩ = false := hd.free _ rfl
          have g0 : IntKind.i64.wrap (4 * (k : Int)) = 4 * k := by rw [IntKind.wrap_i64]; omega
          have g1 : IntKind.i64.wrap (4 * (k : Int) + 1) = 4 * k + 1 := by rw [IntKind.wrap_i64]; omega
          have g2 : IntKind.i64.wrap (4 * (k : Int) + 2) = 4 * k + 2 := by rw [IntKind.wrap_i64]; omega
          have g3 : IntKind.i64.wrap (4 * (k : Int) + 3) = 4 * k + 3 := by rw [IntKind.wrap_i64]; omega
          have n0 : (4 * (k : Int)).toNat = 4 * k := by omega
          have n1 : (4 * (k : Int) + 1).toNat = 4 * k + 1 := by omega
          have n2 : (4 * (k : Int) + 2).toNat = 4 * k + 2 := by omega
          have n3 : (4 * (k : Int) + 3).toNat = 4 * k + 3 := by omega
          have q0 : (0 : Int) ≤ 4 * k := by omega
          have q1 : (4 * (k : Int)) < 32 := by omega
          have q2 : (0 : Int) ≤ 4 * k + 1 := by omega
          have q3 : (4 * (k : Int)) + 1 < 32 := by omega
          have q4 : (0 : Int) ≤ 4 * k + 2 := by omega
          have q5 : (4 * (k : Int)) + 2 < 32 := by omega
          have q6 : (0 : Int) ≤ 4 * k + 3 := by omega
          have q7 : (4 * (k : Int)) + 3 < 32 := by omega
          clear x0 x1 x2 x3
          replace hy := Lib.hid hy
          replace hds := Lib.hid hds
          replace hd := Lib.hid hd
          replace hz7 := Lib.hid hz7
          replace hu := Lib.hid hu
          have hlt' := Lib.hid hlt
          go_wp2_with (refine wpList_index rfl _ _ 131 rfl 50 8 _ rfl k rfl hlt'.out Tryz.underlying131 (by kernel_rfl) (by kernel_rfl) _ hy.out ?_)
          obtain ⟨e0, h0⟩ := mod_bv (y / 16777216)
          obtain ⟨e1, h1⟩ := mod_bv (y / 65536)
          obtain ⟨e2, h2⟩ := mod_bv (y / 256)
          obtain ⟨e3, h3⟩ := mod_bv y
          rw [h0, h1, h2, h3]
          clear h0 h1 h2 h3
          go_roundw
          case rel => exact ⟨k + 1, _, by omega, by go_num, (((hds.out.set (4 * k) e0).set (4 * k + 1) e1).set (4 * k + 2) e2).set (4 * k + 3) e3, (((hd.out.set (4 * k) _).set (4 * k + 1) _).set (4 * k + 2) _).set (4 * k + 3) _, (((hz7.out.far (p := ⟨D, 4 * k, none⟩) hHD _).far (p := ⟨D, 4 * k + 1, none⟩) hHD _).far (p := ⟨D, 4 * k + 2, none⟩) hHD _).far (p := ⟨D, 4 * k + 3, none⟩) hHD _, (((hu.out.setCell (p := ⟨D, 4 * k, none⟩) (.inr hD) _).setCell (p := ⟨D, 4 * k + 1, none⟩) (.inr hD) _).setCell (p := ⟨D, 4 * k + 2, none⟩) (.inr hD) _).setCell (p := ⟨D, 4 * k + 3, none⟩) (.inr hD) _⟩
          case measure => simp [intOf]; omega
        · obtain rfl : k = 8 := by omega
          rw [show ((8 : Nat) : Int) = 8 from rfl]
          clear hlt hk
          have i61 : (Tryz.prog.info? 61).map (·.size) = some 32 := by kernel_rfl
          have i61' : (Tryz.prog.info? 61).map (·.size) = some ds.size := by rw [hds.1]; exact i61
          replace i61 := Lib.hid i61
          replace i61' := Lib.hid i61'
          replace hds := Lib.hid hds
          replace hd := Lib.hid hd
          replace hz7 := Lib.hid hz7
          replace hu := Lib.hid hu
          go_wp2_with (first | (refine wpList_loadBlk rfl _ 61 rfl D rfl 61 ds hd.out _ Tryz.underlying61 rfl i61'.out ?_) | (refine wpList_storeBlk rfl rfl _ _ 61 rfl H rfl 61 zs ds rfl hz7.out 32 hzs.out.1 hds.out.1 i61.out hds.out.one ?_; intro w9 hb9 hu9; refine Hid.out ?_))
          refine Lib.hid ?_
          replace hb9 := Lib.hid hb9
          replace hu := Lib.hid (hu.out.trans hu9 fun k hk => .inr (by have h1 : k = H := hk; have h2 := hHe.out; omega))
          clear hu9
          go_wp2
          exact bodyPost_ret (results_cell_row Tryz.results37 _ _ H 61 ds (0, 0) _ rfl hb9.out Tryz.underlying61 rfl i61'.out) rfl ⟨ds, rfl, hds.out, hu.out⟩
end Go.Proofs.YtedaapcmcimepaaGreatDoor
