/-
  The small functions on bytes: Clone, copyBytes, sameBytes.
-/
import Derived.Test.YtfnlemdlngdaiaaRows
import Derived.Test.YtfnlemdlngdaiaaWr
import Derived.Deep.QuietTactic
import Derived.BigQuiet
namespace Go.Proofs.Ytfnlemdlngdaiaa
open Go.RowKit

theorem Try.info5 : (Try.prog.info? 5).map (fun i => (i.zero, i.size, i.bytes)) = some (some (.int .u8 0), 1, 1) := by kernel_rfl

/-- A new slice with these bytes; nothing old has turned. -/
def CloneP (w : World) (l : List UInt8) (e : Ending) (w' : World) : Prop := ∃ v', e = .returned v' ∧ OwnB w.heap.size w' v' l ∧ Upd noBlk w w'

theorem nil_empty {w : World} {v : Value} {l : List UInt8} (hv : RdB w v l) : ∃ A c, v = .slice A l.length c ∧ l.length ≤ c ∧ c ≤ maxLen ∧ (A = none → l = []) := by
  obtain ⟨_, A, c, h1, h2, h3, h4, _⟩ := hv
  exact ⟨A, c, h1, h2, h3, fun h => List.eq_nil_of_length_eq_zero (h4 h)⟩

set_option maxHeartbeats 400000 in
theorem clone_any (v : Value) (l : List UInt8) (w : World) (hv : RdB w v l) (hl : l.length ≤ 140737488355328) :
    Calls Try.prog 39 #[v] w (CloneP w l) := by
  obtain ⟨A, c, rfl, h1, h2, h3⟩ := nil_empty hv
  obtain ⟨i5, hi⟩ := info_parts Try.info5
  replace hi := Lib.hid hi
  cases A with
  | none =>
    obtain rfl := h3 rfl
    have hn := fun w : World => Lib.run_eql_slice_nil (P := Try.prog) w 24 5 none 0 c 0 0 Try.underlying24
    clear h3 hv
    go_enter Try.func39, Try.ntmps39
    go_wp2
    go_ret
    exact ⟨_, rfl, World.ownsRow_nil _ _ _ _, Upd.refl _ _⟩
  | some ad =>
    have hn := fun w : World => Lib.run_eql_slice_nil (P := Try.prog) w 24 5 (some ad) l.length c 0 0 Try.underlying24
    have hown : (w.alloc (.cells #[] 5)).ownsRow w.heap.size 5 1 (.slice (some ⟨w.heap.size, 0, none⟩) 0 0) 0 [] := World.ownsRow_lit w #[] 0 (Nat.le_refl _) (by simp [maxLen]) rfl
    have hv := Lib.hid (hv.none ((Upd.refl noBlk w).alloc (.cells #[] 5)))
    replace hown := Lib.hid hown
    clear h3
    go_enter Try.func39, Try.ntmps39
    go_wp2_with (at_builtin; refine wpList_app _ rfl _ _ 24 rfl w.heap.size 5 i5 (.int .u8 0) 1 1 Try.underlying24 hi.out rfl (by decide) _ 0 [] rfl hown.out _ l.length (bvs l) rfl hv.out (bvs_one l) (by simp only [maxLen]; omega) (by omega) (by simp) ?_; intro v' w1 hown1 hgrow _)
    go_ret
    refine ⟨_, rfl, by simpa [OwnB] using hown1, ((Upd.refl noBlk w).alloc (.cells #[] 5)).grown (row := some w.heap.size) hgrow fun k hk => .inr ?_⟩
    injection hk with hk; omega

set_option maxHeartbeats 400000 in
theorem copy_any (v : Value) (l : List UInt8) (w : World) (hv : RdB w v l) (hl : l.length ≤ 140737488355328) :
    Calls Try.prog 31 #[v] w (CloneP w l) := by
  obtain ⟨i5, hi⟩ := info_parts Try.info5
  replace hi := Lib.hid hi
  have hown := Lib.hid (World.ownsRow_nil w w.heap.size 5 1)
  replace hv := Lib.hid hv
  go_enter Try.func31, Try.ntmps31
  go_wp2_with (at_builtin; refine wpList_app _ rfl _ _ 24 rfl w.heap.size 5 i5 (.int .u8 0) 1 1 Try.underlying24 hi.out rfl (by decide) _ 0 [] rfl hown.out _ l.length (bvs l) rfl hv.out (bvs_one l) (by simp only [maxLen]; omega) (by omega) (by simp) ?_; intro v' w1 hown1 hgrow _)
  go_ret
  exact ⟨_, rfl, by simpa [OwnB] using hown1, (Upd.refl noBlk w).grown (row := none) hgrow fun k hk => by simp at hk⟩

set_option maxHeartbeats 400000 in
theorem rcopy_any (v : Value) (l : List UInt8) (w : World) (hv : RdB w v l) (hl : l.length ≤ 140737488355328) :
    Calls Try.prog 53 #[v] w (CloneP w l) := by
  obtain ⟨i5, hi⟩ := info_parts Try.info5
  replace hi := Lib.hid hi
  have hown := Lib.hid (World.ownsRow_nil w w.heap.size 5 1)
  replace hv := Lib.hid hv
  go_enter Try.func53, Try.ntmps53
  go_wp2_with (at_builtin; refine wpList_app _ rfl _ _ 24 rfl w.heap.size 5 i5 (.int .u8 0) 1 1 Try.underlying24 hi.out rfl (by decide) _ 0 [] rfl hown.out _ l.length (bvs l) rfl hv.out (bvs_one l) (by simp only [maxLen]; omega) (by omega) (by simp) ?_; intro v' w1 hown1 hgrow _)
  go_ret
  exact ⟨_, rfl, by simpa [OwnB] using hown1, (Upd.refl noBlk w).grown (row := none) hgrow fun k hk => by simp at hk⟩

/-- An answer that is a bool; the world but for draws. -/
def TellsB (w : World) (b : Bool) (e : Ending) (w' : World) : Prop := e = .returned (.bool b) ∧ ∃ n, w' = w.drewN n

theorem rdb_cell {w : World} {v : Value} {l : List UInt8} (h : RdB w v l) {k : Nat} (hk : k < l.length) : ∃ ad c, v = .slice (some ad) l.length c ∧ w.cell? (ad.add k) = some (.int .u8 (l[k]'hk).toNat) := by
  obtain ⟨_, A, c, rfl, _, _, _, hat⟩ := h
  obtain ⟨ad, rfl, hc⟩ := hat k _ (bvs_at (List.getElem?_eq_getElem hk))
  exact ⟨ad, c, rfl, hc⟩
theorem bneq_bytes (a b : UInt8) : ((a.toNat : Int) != (b.toNat : Int)) = (a != b) := by
  rw [Bool.eq_iff_iff]; simp only [bne_iff_ne, ne_eq, Int.natCast_inj, UInt8.toNat_inj]

theorem ne_of_get {l m : List UInt8} {k : Nat} (h : k < l.length) (h' : k < m.length) (hb : (l[k] != m[k]) = true) : l ≠ m := by
  rintro rfl
  simp at hb
theorem eq_next {l m : List UInt8} {k : Nat} (ht : l.take k = m.take k) (h : k < l.length) (h' : k < m.length) (hb : (l[k] != m[k]) = false) : l.take (k + 1) = m.take (k + 1) := by
  have e : l[k] = m[k] := by simpa using hb
  rw [List.take_add_one, List.take_add_one, ht, List.getElem?_eq_getElem h, List.getElem?_eq_getElem h', e]
theorem eq_of_takes {l m : List UInt8} {k : Nat} (ht : l.take k = m.take k) (h : ¬ k < l.length) (hl : l.length = m.length) : l = m := by
  rwa [List.take_of_length_le (by omega), List.take_of_length_le (by omega)] at ht

set_option maxHeartbeats 400000 in
theorem same_len (v u : Value) (l m : List UInt8) (w : World) (hv : RdB w v l) (hu : RdB w u m) (hne : l.length ≠ m.length) : Calls Try.prog 18 #[v, u] w (TellsB w (decide (l = m))) := by
  obtain ⟨A, c, rfl, h1, h2, _⟩ := nil_empty hv
  obtain ⟨A', c', rfl, h1', h2', _⟩ := nil_empty hu
  have hb : ((l.length : Int) != (m.length : Int)) = true := by simp; omega
  have hf := Lib.hid (show decide (l = m) = false from by simp; intro h; exact hne (by rw [h]))
  clear hv hu hne
  unfold maxLen at h2 h2'
  go_enter Try.func18, Try.ntmps18
  go_wp2
  go_ret
  exact ⟨by rw [hf.out]; rfl, 0, rfl⟩

set_option maxHeartbeats 400000 in
theorem same_eqlen (v u : Value) (l m : List UInt8) (w : World) (hv : RdB w v l) (hu : RdB w u m) (he : l.length = m.length) : Calls Try.prog 18 #[v, u] w (TellsB w (decide (l = m))) := by
  obtain ⟨A, c, rfl, h1, h2, _⟩ := nil_empty hv
  obtain ⟨A', c', rfl, h1', h2', _⟩ := nil_empty hu
  have hb : ((l.length : Int) != (m.length : Int)) = false := by simp; omega
  replace hv := Lib.hid hv
  replace hu := Lib.hid hu
  unfold maxLen at h2 h2'
  rw [← he] at h1' hb
  have hmlen := Lib.hid he
  go_enter Try.func18, Try.ntmps18
  rw [← he]
  go_wp2
  go_loopw [5] (fun i wr => ∃ k n : Nat, k ≤ l.length ∧ i = .int .i64 k ∧ wr = w.drewN n ∧ l.take k = m.take k) (fun i _ => l.length - (intOf i).toNat)
  case atStart => exact ⟨0, 0, Nat.zero_le _, rfl, rfl, by simp⟩
  case round =>
    obtain ⟨k, n, hk, rfl, rfl, htk⟩ := hrel
    replace htk := Lib.hid htk
    clear he
    by_cases hlt : k < l.length
    · obtain ⟨ad, c1, he1, hcell1⟩ := rdb_cell hv.out hlt
      obtain ⟨ad', c2, he2, hcell2⟩ := rdb_cell hu.out (k := k) (by rw [← hmlen.out]; exact hlt)
      rcases Bool.eq_false_or_eq_true (l[k] != m[k]'(by rw [← hmlen.out]; exact hlt)) with hb | hb
      · have hb' := hb
        rw [← bneq_bytes] at hb'
        go_wp2
        go_quiet (fail)
        go_wp2
        go_ret
        exact ⟨by rw [decide_eq_false (ne_of_get hlt _ hb)]; rfl, _, World.drewN_drewN _ _ _⟩
      · have hb' := hb
        rw [← bneq_bytes] at hb'
        go_wp2
        go_quiet (fail)
        go_wp2
        go_roundw
        case rel => exact ⟨k + 1, _, by omega, by go_num, rfl, eq_next htk.out hlt _ hb⟩
        case measure => simp [intOf]; omega
    · go_wp2
      go_ret
      exact ⟨by rw [decide_eq_true (eq_of_takes htk.out hlt hmlen.out)]; rfl, _, rfl⟩

theorem same_any (v u : Value) (l m : List UInt8) (w : World) (hv : RdB w v l) (hu : RdB w u m) : Calls Try.prog 18 #[v, u] w (TellsB w (decide (l = m))) := by
  by_cases he : l.length = m.length
  · exact same_eqlen v u l m w hv hu he
  · exact same_len v u l m w hv hu he

end Go.Proofs.Ytfnlemdlngdaiaa
