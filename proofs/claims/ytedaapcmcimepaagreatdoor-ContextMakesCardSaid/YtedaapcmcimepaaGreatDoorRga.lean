/-
  Copies of bytes; a new ring of keys, and the document's.
-/
import Derived.Test.YtedaapcmcimepaaGreatDoorHsd
import Derived.Test.YtedaapcmcimepaaGreatDoorLocks
import Derived.Maps.OwnSet
import Derived.Conc.MuLone
import Derived.Deep.QuietTactic
import Derived.Carry
namespace Go.Proofs.YtedaapcmcimepaaGreatDoor
open Go.RowKit

/-- A new slice with these bytes; nothing old has turned. -/
def CloneP (w : World) (l : List UInt8) (e : Ending) (w' : World) : Prop := ∃ v', e = .returned v' ∧ OwnB w.heap.size w' v' l ∧ Upd noBlk w w'

theorem nil_empty {w : World} {v : Value} {l : List UInt8} (hv : RdB w v l) : ∃ A c, v = .slice A l.length c ∧ l.length ≤ c ∧ c ≤ maxLen ∧ (A = none → l = []) := by
  obtain ⟨_, A, c, h1, h2, h3, h4, _⟩ := hv
  exact ⟨A, c, h1, h2, h3, fun h => List.eq_nil_of_length_eq_zero (h4 h)⟩

set_option maxHeartbeats 400000 in
theorem clone_any (v : Value) (l : List UInt8) (w : World) (hv : RdB w v l) (hl : l.length ≤ 140737488355328) :
    Calls Tryz.prog 16 #[v] w (CloneP w l) := by
  obtain ⟨A, c, rfl, h1, h2, h3⟩ := nil_empty hv
  obtain ⟨i5, hi⟩ := info_parts Tryz.info5
  replace hi := Lib.hid hi
  cases A with
  | none =>
    obtain rfl := h3 rfl
    have hn := fun w : World => Lib.run_eql_slice_nil (P := Tryz.prog) w 22 5 none 0 c 0 0 Tryz.underlying22
    clear h3 hv
    go_enter Tryz.func16, Tryz.ntmps16
    go_wp2
    go_ret
    exact ⟨_, rfl, World.ownsRow_nil _ _ _ _, Upd.refl _ _⟩
  | some ad =>
    have hn := fun w : World => Lib.run_eql_slice_nil (P := Tryz.prog) w 22 5 (some ad) l.length c 0 0 Tryz.underlying22
    have hown : (w.alloc (.cells #[] 5)).ownsRow w.heap.size 5 1 (.slice (some ⟨w.heap.size, 0, none⟩) 0 0) 0 [] := World.ownsRow_lit w #[] 0 (Nat.le_refl _) (by simp [maxLen]) rfl
    have hv := Lib.hid (hv.none ((Upd.refl noBlk w).alloc (.cells #[] 5)))
    replace hown := Lib.hid hown
    clear h3
    go_enter Tryz.func16, Tryz.ntmps16
    go_wp2_with (at_builtin; refine wpList_app _ rfl _ _ 22 rfl w.heap.size 5 i5 (.int .u8 0) 1 1 Tryz.underlying22 hi.out rfl (by decide) _ 0 [] rfl hown.out _ l.length (bvs l) rfl hv.out (bvs_one l) (by simp only [maxLen]; omega) (by omega) (by simp) ?_; intro v' w1 hown1 hgrow _)
    go_ret
    refine ⟨_, rfl, by simpa [OwnB] using hown1, ((Upd.refl noBlk w).alloc (.cells #[] 5)).grown (row := some w.heap.size) hgrow fun k hk => .inr ?_⟩
    injection hk with hk; omega

set_option maxHeartbeats 400000 in
theorem copy_any (v : Value) (l : List UInt8) (w : World) (hv : RdB w v l) (hl : l.length ≤ 140737488355328) :
    Calls Tryz.prog 5 #[v] w (CloneP w l) := by
  obtain ⟨i5, hi⟩ := info_parts Tryz.info5
  replace hi := Lib.hid hi
  have hown := Lib.hid (World.ownsRow_nil w w.heap.size 5 1)
  replace hv := Lib.hid hv
  go_enter Tryz.func5, Tryz.ntmps5
  go_wp2_with (at_builtin; refine wpList_app _ rfl _ _ 22 rfl w.heap.size 5 i5 (.int .u8 0) 1 1 Tryz.underlying22 hi.out rfl (by decide) _ 0 [] rfl hown.out _ l.length (bvs l) rfl hv.out (bvs_one l) (by simp only [maxLen]; omega) (by omega) (by simp) ?_; intro v' w1 hown1 hgrow _)
  go_ret
  exact ⟨_, rfl, by simpa [OwnB] using hown1, (Upd.refl noBlk w).grown (row := none) hgrow fun k hk => by simp at hk⟩

/-- How an element of 32 bytes reads: its bytes are not looked at. -/
def dgElem (v : Value) : Option (DataW Unit × List MemPlace) :=
  match v with
  | .agg cs => if (cs.size = 32 ∧ cs.toList.all (fun u => match u with | .int .u8 _ => true | _ => false) = true) then some (.agg [], []) else none
  | _ => none

/-- A ring of keys: where it lies. -/
structure KRg where
  p : Nat
  bk : Nat
  sv : Value
  sl : List UInt8
  s0 : Value
  ms : Value
def KRg.foot (K : KRg) : Nat → Prop := fun k => k = K.p ∨ k = K.bk ∨ (0 < K.sl.length ∧ K.sv.ownBlock = some k)
def KRg.cells (K : KRg) : Array Value := #[.int .i32 0, K.s0, K.sv, .map (some K.bk), K.ms]
/-- It lies there, with these names enrolled. -/
structure KOk (w : World) (K : KRg) (names : List (List UInt8)) : Prop where
  blk : Blk w K.p 56 K.cells
  srd : RdB w K.sv K.sl
  slen : K.sl.length ≤ 140737488355328
  sfar : 0 < K.sl.length → ∀ k, K.sv.ownBlock = some k → k ≠ K.p ∧ k ≠ K.bk
  ne : K.bk ≠ K.p
  map : ∃ D, w.ownsMap Tryz.prog 9 dgElem K.bk names.length D ∧ Maps.size D = names.length ∧ ∀ s : List UInt8, Maps.has D (.string s) = decide (s ∈ names)
/-- The document's ring: where it lies. -/
structure LRg where
  q : Nat
  a : Value
  lv : Value
  c : Value
def LRg.foot (R : LRg) : Nat → Prop := fun k => k = R.q ∨ R.lv.ownBlock = some k
/-- A string of these bytes. -/
def str (s : List UInt8) : Value := .string ⟨⟨s⟩⟩
def strs (names : List (List UInt8)) : List Value := names.map str
structure LOk (w : World) (R : LRg) (names : List (List UInt8)) : Prop where
  blk : Blk w R.q 59 #[R.a, R.lv, R.c]
  row : ∃ B, w.ownsRow B 9 1 R.lv names.length (strs names)
  len : names.length ≤ 256

set_option maxHeartbeats 1000000 in
theorem knew_any (v : Value) (l : List UInt8) (w : World) (hv : RdB w v l) (hl : l.length ≤ 140737488355328) :
    Calls Tryz.prog 4 #[v] w fun e w' => ∃ K : KRg, e = .returned (.pointer (some ⟨K.p, 0, none⟩)) ∧ KOk w' K [] ∧ Upd noBlk w w' ∧ ∀ k, K.foot k → w.heap.size ≤ k := by
  have hc := Lib.hid (clone_any v l w hv hl)
  have hmm := @run_makeMap Tryz.prog
  go_enter Tryz.func4, Tryz.ntmps4
  go_wp2_with (go_at_call 16; refine hc.out.mono ?_; clear hc; rintro e w1 ⟨v1, rfl, hown, hu⟩; obtain ⟨A1, c1, rfl, -⟩ := own_form hown; replace hown := Lib.hid hown; replace hu := Lib.hid hu)
  go_ret
  have hs := hu.out.size
  have u1 := (Upd.refl noBlk w1).alloc (.map #[] 0)
  have u2 := u1.alloc (.map #[] 0)
  have u3 := u2.alloc (.cells #[.int .i32 0, .int .u32 0, .slice A1 l.length c1, .map (some w1.heap.size), .map (some (w1.heap.size + 1))] 56)
  have hb := Blk.new ((w1.alloc (.map #[] 0)).alloc (.map #[] 0)) 56 #[.int .i32 0, .int .u32 0, .slice A1 l.length c1, .map (some w1.heap.size), .map (some (w1.heap.size + 1))]
  have hm := ((World.ownsMap_made w1 Tryz.prog 9 dgElem).alloc (.map #[] 0)).alloc (.cells #[.int .i32 0, .int .u32 0, .slice A1 l.length c1, .map (some w1.heap.size), .map (some (w1.heap.size + 1))] 56)
  have e2 : ((w1.alloc (.map #[] 0)).alloc (.map #[] 0)).heap.size = w1.heap.size + 1 + 1 := by simp
  rw [e2] at hb
  have hlt := hown.out.lt
  refine ⟨⟨w1.heap.size + 1 + 1, w1.heap.size, .slice A1 l.length c1, l, .int .u32 0, .map (some (w1.heap.size + 1))⟩, rfl, ⟨hb, hown.out.rd.none u3, hl, fun _ k hk => ?_, by simp only; omega, ⟨_, hm, rfl, fun s => rfl⟩⟩, hu.out.then_none u3, ?_⟩
  · have := hlt k hk
    exact ⟨show k ≠ w1.heap.size + 1 + 1 by omega, show k ≠ w1.heap.size by omega⟩
  · rintro k (rfl | rfl | ⟨-, hk⟩)
    · simp only; omega
    · exact hs
    · exact hown.out.ge k hk

set_option maxHeartbeats 1000000 in
theorem lnew_any (v : Value) (l : List UInt8) (w : World) (hv : RdB w v l) (hl : l.length ≤ 140737488355328) :
    Calls Tryz.prog 6 #[v] w fun e w' => ∃ R : LRg, e = .returned (.pointer (some ⟨R.q, 0, none⟩)) ∧ LOk w' R [] ∧ Upd noBlk w w' ∧ w.heap.size ≤ R.q ∧ R.lv = .slice none 0 0 := by
  obtain ⟨i5, hi⟩ := info_parts Tryz.info5
  replace hi := Lib.hid hi
  have hown := Lib.hid (World.ownsRow_lit (base := w.heap.size) (e := 5) (size := 1) w #[] 0 (Nat.le_refl _) (by simp [maxLen]) rfl)
  replace hv := Lib.hid (hv.none ((Upd.refl noBlk w).alloc (.cells #[] 5)))
  go_enter Tryz.func6, Tryz.ntmps6
  go_wp2_with (at_builtin; refine wpList_app _ rfl _ _ 22 rfl w.heap.size 5 i5 (.int .u8 0) 1 1 Tryz.underlying22 hi.out rfl (by decide) _ 0 [] rfl hown.out _ l.length (bvs l) rfl hv.out (bvs_one l) (by simp only [maxLen]; omega) (by omega) (by simp) ?_; intro v' w1 hown1 hgrow _; obtain ⟨A1, c1, rfl, -⟩ := own_form hown1)
  go_ret
  have hu : Upd noBlk w w1 := ((Upd.refl noBlk w).alloc (.cells #[] 5)).grown (row := some w.heap.size) hgrow fun k hk => .inr (by injection hk with hk; omega)
  exact ⟨⟨w1.heap.size, _, .slice none 0 0, .slice none 0 0⟩, rfl, ⟨Blk.new w1 59 _, ⟨0, World.ownsRow_nil _ _ _ _⟩, by simp⟩, hu.alloc _, hu.size, rfl⟩
end Go.Proofs.YtedaapcmcimepaaGreatDoor
