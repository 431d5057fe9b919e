/-
  WireLong: 1048576 bytes are taken, one more is not.
-/
import Derived.Test.YtfnlemdlngdaiaaLawA
namespace Go.Proofs.Ytfnlemdlngdaiaa
open Go.RowKit

section
variable {F : Nat → Prop} {w w' : World} {W : Wr} {s : WA}
/-- What is kept besides may be written. -/
theorem At.write (h : At F w W s) {S : Nat → Prop} (hu : Upd S w w') (hS : ∀ k, S k → F k ∨ w.heap.size ≤ k) : At F w' W s :=
  ⟨h.ok.upd hu fun k hk hs => (hS k hs).elim (h.far k hk) fun hge => by have := h.ok.lt k hk; omega, h.abs, h.far, fun k hF => Nat.lt_of_lt_of_le (h.old k hF) hu.size⟩
theorem At.p_ne (h : At F w W s) {v : Value} (hv : ∀ k, v.ownBlock = some k → F k) : v.ownBlock ≠ some W.p := fun hk => h.far _ (.inl rfl) (hv _ hk)
end

theorem low_bv (x : Int) : Value.int .u8 (x % 256) = bv (WA.low x) := by
  obtain ⟨y, hy⟩ := Int.eq_ofNat_of_zero_le (Int.emod_nonneg x (by decide : (256 : Int) ≠ 0))
  have hlt : y < 256 := by
    have := Int.emod_lt_of_pos x (by decide : (0 : Int) < 256)
    omega
  unfold bv WA.low
  rw [hy, Int.toNat_natCast, UInt8.toNat_ofNat', Nat.mod_eq_of_lt hlt]

theorem bvs_set (l : List UInt8) (k : Nat) (b : UInt8) : (bvs l).set k (bv b) = bvs (l.set k b) := by simp [bvs]
theorem OwnB.stored {B : Nat} {w : World} {g n c k : Nat} {l : List UInt8} {b : UInt8} (h : OwnB B w (.slice (some ⟨g, 0, none⟩) n c) l) (hn : l.length = n) :
    OwnB B (w.setCell ⟨g, k, none⟩ (bv b)) (.slice (some ⟨g, 0, none⟩) n c) (l.set k b) := by
  subst hn
  unfold OwnB at h ⊢
  have h2 := (World.ownsRow.stored h k (bv b)).1
  rw [bvs_set] at h2
  rw [List.length_set]
  exact h2
theorem OwnB.cut {B : Nat} {w : World} {n c k : Nat} {A : Option Addr} {l : List UInt8} (h : OwnB B w (.slice A n c) l) (hn : l.length = n) (hk : k ≤ n) : OwnB B w (.slice A k c) (l.take k) := by
  subst hn
  unfold OwnB at h ⊢
  have h2 := own_shrink h hk
  rw [List.length_take, Nat.min_eq_left hk]
  simpa [bvs, List.map_take] using h2
theorem OwnB.at_ {B : Nat} {w : World} {g n c k : Nat} {l : List UInt8} (h : OwnB B w (.slice (some ⟨g, 0, none⟩) n c) l) (hn : l.length = n) (hk : k < n) :
    ∃ b : UInt8, l[k]? = some b ∧ w.cell? ⟨g, k, none⟩ = some (.int .u8 b.toNat) ∧ w.frozen? ⟨g, k, none⟩ = false := by
  subst hn
  exact ⟨l[k], List.getElem?_eq_getElem hk, own_at h (bvs_at (List.getElem?_eq_getElem hk)), World.ownsRow.frozenAt h k⟩

/-- What the loop keeps: the bytes, the wire apart from them. -/
def Filling (w0 : World) (W : Wr) (H n : Nat) (wr : World) : Prop :=
  ∃ l : List UInt8, l.length = n ∧ OwnB w0.heap.size wr (.slice (some ⟨H, 0, none⟩) n n) l ∧ At (fun k => older w0 k ∨ k = H) wr W ⟨[], 0⟩ ∧ Upd (fun k => ¬ older w0 k) w0 wr

theorem bvs_replicate (n : Nat) : (madeCells #[Value.int .u8 0] n).toList = bvs (List.replicate n 0) := by
  rw [toList_madeCells_one]
  simp [bvs, bv]

set_option maxRecDepth 100000 in
set_option maxHeartbeats 1000000 in
theorem long_true (fill : Int) (w : World) : Calls Try.prog 3 #[.int .i64 fill] w (TrueP w) := by
  obtain ⟨n, hn⟩ : ∃ n : Nat, (1048577 : Int) = n := ⟨1048577, rfl⟩
  obtain ⟨i5, hi5, hz0, hz1, hz2⟩ := info_parts Try.info5
  have hI := Lib.hid (And.intro hi5 (And.intro hz0 (And.intro hz1 hz2)))
  clear hi5 hz0 hz1 hz2
  have hn1 : n ≤ 1048577 := by omega
  have hn2 : 1048577 ≤ n := by omega
  replace hn := Lib.hid hn
  replace hn1 := Lib.hid hn1
  replace hn2 := Lib.hid hn2
  go_enter Try.func3, Try.ntmps3
  go_wp2_with fail
  refine (new_any _).mono ?_
  rintro e w1 ⟨W1, rfl, hW, ha, hu, hge⟩
  have h1 := Lib.hid (At.new hW ha hu hge)
  have u1 := Lib.hid (hu.of_none (fun k => ¬ older w k))
  have hlt1 := hu.size
  clear hW ha hu hge
  go_wp2_with (refine wpList_make_full _ rfl (.const (.int .i64 1048577)) (.const (.int .i64 1048577)) 24 rfl w1.heap.size 5 i5 (.int .u8 0) 1 Try.underlying24 hI.out.1 hI.out.2.1 hI.out.2.2.1 .i64 .i64 1048577 1048577 n rfl rfl hn.out hn.out (by rw [hI.out.2.2.2]; have := hn1.out; omega) (by have := hn1.out; simp only [maxLen]; omega) (Nat.le_refl _) ?_; intro w2 hown hgrow; replace hown := Lib.hid hown; replace hgrow := Lib.hid hgrow)
  have hfil : Filling w W1 w1.heap.size n w2 := by
    have hge2 := hgrow.out.size
    refine ⟨List.replicate n 0, by simp, ?_, ?_, ?_⟩
    · have h := hown.out
      rw [Nat.mul_one, show (Value.int .u8 0).cells = #[Value.int .u8 0] from rfl, bvs_replicate] at h
      refine OwnB.mono (B := w1.heap.size) ?_ hlt1
      unfold OwnB
      rw [List.length_replicate]
      exact h
    · refine (h1.out.none ((Upd.refl noBlk w1).grown (row := none) hgrow.out fun k hk => by simp at hk)).more fun k hk => ?_
      subst hk
      refine ⟨(hown.out.lt _ rfl).2, fun hf => ?_⟩
      have := h1.out.ok.lt _ hf
      omega
    · exact u1.out.trans_same (((Upd.refl noBlk w1).grown (row := none) hgrow.out fun k hk => by simp at hk).of_none _)
  replace hfil := Lib.hid hfil
  have hnb : n ≤ 9223372036854775807 := by have := hn1.out; omega
  go_loopw [5] (fun i wr => ∃ k : Nat, k ≤ n ∧ i = .int .i64 k ∧ Filling w W1 w1.heap.size n wr) (fun i _ => n - (intOf i).toNat)
  case atStart => exact ⟨0, Nat.zero_le _, rfl, hfil.out⟩
  case round =>
    obtain ⟨k, hk, rfl, hf⟩ := hrel
    obtain ⟨l, hl, ho, hA, hU⟩ := hf
    by_cases hlt : k < n
    · obtain ⟨b, _, hc, hfr⟩ := ho.at_ hl hlt
      replace hl := Lib.hid hl
      replace ho := Lib.hid ho
      replace hA := Lib.hid hA
      replace hU := Lib.hid hU
      go_wp2
      rw [low_bv]
      go_roundw
      case rel =>
        have hu : Upd (fun j => j = w1.heap.size) wr (wr.setCell ⟨w1.heap.size, k, none⟩ (bv (WA.low (wrap64 (fill + k))))) := (Upd.refl (fun j => j = w1.heap.size) wr).setCell (p := ⟨w1.heap.size, k, none⟩) (.inl rfl) _
        refine ⟨k + 1, by omega, by go_num, l.set k (WA.low (wrap64 (fill + k))), by rw [List.length_set]; exact hl.out, ho.out.stored hl.out, hA.out.write hu fun j hj => .inl (.inr hj), hU.out.trans hu fun j hj => .inr (by omega)⟩
      case measure => simp [intOf]; omega
    · have hkn : 1048576 ≤ n := by have := hn2.out; omega
      have hH := ho.lt w1.heap.size rfl
      have hF : ∀ (A : Addr) (x c : Nat), A.block = w1.heap.size → ∀ j, (Value.slice (some A) x c).ownBlock = some j → older w j ∨ j = w1.heap.size := fun A x c hA j hj => .inr (by injection hj with hj; omega)
      replace hl := Lib.hid hl
      replace ho := Lib.hid ho
      replace hA := Lib.hid hA
      replace hU := Lib.hid hU
      replace hF := Lib.hid hF
      replace hlt := Lib.hid hlt
      go_wp2_with fail
      -- Send of all but one
      have e1 : WA.send ⟨[], 0⟩ (l.take 1048576) = (⟨[(1, l.take 1048576)], 1⟩, 1, 0) := by
        unfold WA.send
        rw [if_neg (by rw [List.length_take]; omega)]
        rfl
      have hc := hA.out.does (send_any W1 (.slice (some ⟨w1.heap.size, 0, none⟩) 1048576 n) (l.take 1048576) wr hA.out.ok (ho.out.cut hl.out hkn).rd (hA.out.p_ne (hF.out _ _ _ rfl)))
      rw [hA.out.abs, e1] at hc
      refine hc.mono ?_
      clear hc
      rintro e w3 ⟨W3, rfl, hp, hA3, hu3⟩
      rw [← hp]
      replace hA3 := Lib.hid hA3
      have ho3 := Lib.hid (ho.out.upd hu3 fun j hj hn => hn (hF.out _ _ _ rfl j hj))
      have hU3 := Lib.hid (hU.out.trans hu3 fun j hj => .inl fun h => hj (.inl h))
      clear hp hu3 hA ho hU e1
      go_wp2_with fail
      -- Send of all
      have e2 : WA.send ⟨[(1, l.take 1048576)], 1⟩ l = (⟨[(1, l.take 1048576)], 1⟩, 0, 233) := by
        unfold WA.send
        rw [if_pos (by have := hl.out; have := hn2.out; omega)]
      have hc := hA3.out.does (send_any W3 (.slice (some ⟨w1.heap.size, 0, none⟩) n n) l w3 hA3.out.ok ho3.out.rd (hA3.out.p_ne (hF.out _ _ _ rfl)))
      rw [hA3.out.abs, e2] at hc
      refine hc.mono ?_
      clear hc
      rintro e w4 ⟨W4, rfl, hp, hA4, hu4⟩
      rw [← hp]
      replace hA4 := Lib.hid hA4
      have ho4 := Lib.hid (ho3.out.upd hu4 fun j hj hn => hn (hF.out _ _ _ rfl j hj))
      have hU4 := Lib.hid (hU3.out.trans hu4 fun j hj => .inl fun h => hj (.inl h))
      clear hp hu4 hA3 ho3 hU3 e2
      have h1n : 1 ≤ n := by omega
      go_wp2_with fail
      -- Send of one byte
      have e3 : WA.send ⟨[(1, l.take 1048576)], 1⟩ (l.take 1) = (⟨[(1, l.take 1048576), (2, l.take 1)], 2⟩, 2, 0) := by
        unfold WA.send
        rw [if_neg (by rw [List.length_take]; omega)]
        rfl
      have hc := hA4.out.does (send_any W4 (.slice (some ⟨w1.heap.size, 0, none⟩) 1 n) (l.take 1) w4 hA4.out.ok (ho4.out.cut hl.out h1n).rd (hA4.out.p_ne (hF.out _ _ _ rfl)))
      rw [hA4.out.abs, e3] at hc
      refine hc.mono ?_
      clear hc
      rintro e w5 ⟨W5, rfl, hp, hA5, hu5⟩
      rw [← hp]
      replace hA5 := Lib.hid hA5
      have ho5 := Lib.hid (ho4.out.upd hu5 fun j hj hn => hn (hF.out _ _ _ rfl j hj))
      have hU5 := Lib.hid (hU4.out.trans hu5 fun j hj => .inl fun h => hj (.inl h))
      clear hp hu5 hA4 ho4 hU4 e3
      go_wp2_with fail
      -- Take of the first
      have hc := take_any W5 1 w5 hA5.out.ok
      have e4 : WA.look ⟨[(1, l.take 1048576), (2, l.take 1)], 2⟩ 1 = (l.take 1048576, 0) := rfl
      rw [hA5.out.abs, e4] at hc
      refine hc.mono ?_
      clear hc
      rintro e w6 ⟨v, W6, rfl, hv, ho, ha, hnot⟩
      have hA6 := hA5.out.onward ho ha
      have hu6 := hA5.out.upd ho
      have ho6 := Lib.hid (ho5.out.upd hu6 fun j hj hn => hn (hF.out _ _ _ rfl j hj))
      have hU6 := Lib.hid (hU5.out.trans hu6 fun j hj => .inl fun h => hj (.inl h))
      replace hv := Lib.hid hv
      clear ho ha hnot hA6 hu6 hA5 ho5 hU5 e4
      go_wp2_with fail
      have hc := same_any v (.slice (some ⟨w1.heap.size, 0, none⟩) 1048576 n) (l.take 1048576) (l.take 1048576) w6 hv.out.rd (ho6.out.cut hl.out hkn).rd
      rw [decide_eq_true rfl] at hc
      refine hc.mono ?_
      clear hc
      rintro e w7 ⟨rfl, k7, rfl⟩
      go_wp2
      go_ret
      exact ⟨rfl, below_of_old (hU6.out.drewN k7)⟩

end Go.Proofs.Ytfnlemdlngdaiaa
