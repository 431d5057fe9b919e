/-
  SHA-256's turn of one block: it ends, the eight words are words again, nothing else turns.
-/
import Derived.Test.YtedaapcmcimepaaGreatDoorSch
import Derived.Deep.MidRow
namespace Go.Proofs.YtedaapcmcimepaaGreatDoor
open Go.RowKit

section
variable {P : Program}
/-- A whole array into the block that was made last. -/
theorem wpList_storeNew {w : World} {ops : Array Oper} {rest : List Oper} {o : Oper} {a : Act} {Q : Exit → Act → World → Prop} (hgd : o.guard = none) (hd : o.dst = none) (x y : Operand) (ty : TypeId) (ho : o.op = .store ty x y)
    (H : Nat) (hx : a.eval x = .pointer (some ⟨H, 0, none⟩)) (hH : w.heap.size = H) (cs : Array Value) (hy : a.eval y = .agg cs) (Z : Array Value) (n : Nat) (hZ : Z.size = n) (hn : cs.size = n) (hi : (P.info? ty).map (·.size) = some n)
    (h1 : cs.all (·.oneCell') = true) (h : ∀ w1, Blk w1 H ty cs → Upd noBlk w w1 → w1.heap.size = H + 1 → wpList P ops Q rest a w1) : wpList P ops Q (o :: rest) a (w.alloc (.cells Z ty)) := by
  subst hH
  subst hn
  refine wpList_storeRow hgd hd x y ty ho ⟨w.heap.size, 0, none⟩ hx (.agg cs) hy (w' := w.alloc (.cells cs ty)) ?_ (h _ (Blk.new w ty cs) ((Upd.refl noBlk w).alloc _) (by simp))
  simp only [Instr.storeAt, Instr.sureAddr, Sem.run_bind, Sem.run_pure, Result.andThen]
  rw [run_storeVar_row _ _ ty ty Z cs (Blk.new w ty Z) hi hZ h1, World.setRow_alloc_new]
/-- A whole array out of a block that is known whole. -/
theorem wpList_loadBlk {w : World} {ops : Array Oper} {rest : List Oper} {o : Oper} {a : Act} {Q : Exit → Act → World → Prop} (hgd : o.guard = none) (x : Operand) (ty : TypeId) (ho : o.op = .load ty x)
    (g : Nat) (hx : a.eval x = .pointer (some ⟨g, 0, none⟩)) (t : TypeId) (cs : Array Value) (hb : Blk w g t cs) (d : TypeDesc) (hu : P.underlying ty = some d) (hd : d.isRow = true) (hi : (P.info? ty).map (·.size) = some cs.size)
    (h : wpList P ops Q rest (a.put o.dst (.agg cs)) w) : wpList P ops Q (o :: rest) a w := by
  refine wpList_loadRow hgd x ty ho ⟨g, 0, none⟩ hx (.agg cs) ?_ h
  simp only [Instr.loadAt, Instr.sureAddr, Sem.run_bind, Sem.run_pure, Result.andThen]
  exact run_loadVar_row w g t ty cs (0, 0) d hb hu (by cases d <;> simp_all) hi
/-- A whole array into a block that is known whole. -/
theorem wpList_storeBlk {w : World} {ops : Array Oper} {rest : List Oper} {o : Oper} {a : Act} {Q : Exit → Act → World → Prop} (hgd : o.guard = none) (hd : o.dst = none) (x y : Operand) (ty : TypeId) (ho : o.op = .store ty x y)
    (g : Nat) (hx : a.eval x = .pointer (some ⟨g, 0, none⟩)) (t : TypeId) (old cs : Array Value) (hy : a.eval y = .agg cs) (hb : Blk w g t old) (n : Nat) (hZ : old.size = n) (hn : cs.size = n) (hi : (P.info? ty).map (·.size) = some n)
    (h1 : cs.all (·.oneCell') = true) (h : ∀ w1, Blk w1 g t cs → Upd (fun k => k = g) w w1 → wpList P ops Q rest a w1) : wpList P ops Q (o :: rest) a w := by
  subst hn
  refine wpList_storeRow hgd hd x y ty ho ⟨g, 0, none⟩ hx (.agg cs) hy (w' := w.setRow g cs) ?_ (h _ (setRow_heap w g old cs t (0, 0) hb) ⟨rfl, rfl, rfl, by simp [World.setRow], fun k _ hn => setRow_other w g k cs hn⟩)
  simp only [Instr.storeAt, Instr.sureAddr, Sem.run_bind, Sem.run_pure, Result.andThen]
  exact run_storeVar_row w g t ty old cs hb hi hZ h1
/-- One place of an array that is a value. -/
theorem run_index_word (w : World) (t e : TypeId) (n : Nat) (cs : Array Value) (j : Nat) (hj : j < n) (h : P.underlying t = some (.array n e)) (hs : (P.info? e).map (·.size) = some 1) (ha : (isAgg e).run P w = .ok false w) (u : Value) (hu : cs[j]? = some u) :
    (Instr.index t (.agg cs) (.int .i64 j)).run P w = .ok u w := by
  cases hq : P.info? e with
  | none => simp [hq] at hs
  | some i =>
    have hs' : i.size = 1 := by simpa [hq] using hs
    simp [Instr.index, run_underlying h, asIntOf, hj, sizeOf, typeInfo, hq, hs', part, ha, hu]
theorem wpList_index {w : World} {ops : Array Oper} {rest : List Oper} {o : Oper} {a : Act} {Q : Exit → Act → World → Prop} (hgd : o.guard = none) (x y : Operand) (t : TypeId) (ho : o.op = .index t x y)
    (e : TypeId) (n : Nat) (cs : Array Value) (hx : a.eval x = .agg cs) (j : Nat) (hy : a.eval y = .int .i64 j) (hj : j < n) (h : P.underlying t = some (.array n e)) (hs : (P.info? e).map (·.size) = some 1) (ha : (isAgg e).run P w = .ok false w) (u : Value) (hu : cs[j]? = some u)
    (hk : wpList P ops Q rest (a.put o.dst u) w) : wpList P ops Q (o :: rest) a w := by
  refine wpList_plain hgd fun K hK => ?_
  unfold Oper.wp execOp
  simp only [ho, Sem.run_bind, Sem.run_pure, hx, hy, run_index_word w t e n cs j hj h hs ha u hu]
  exact hK _ _ hk
end

theorem W32s.one {cs : Array Value} {n : Nat} (h : W32s cs n) : cs.all (·.oneCell') = true := by
  rw [Array.all_eq_true_iff_forall_mem]
  intro u hu
  obtain ⟨j, hj⟩ := Array.getElem?_of_mem hu
  obtain ⟨y, rfl⟩ := h.2 j u hj
  rfl

/-- The first eight cells are words. -/
def Has8 (cs : Array Value) : Prop := ∀ j, j < 8 → ∃ y : Int, cs[j]? = some (.int .u32 y)
/-- What turn leaves of a hasher's cells. -/
def Turned (cs ds : Array Value) : Prop := ds.size = cs.size ∧ Has8 ds ∧ ∀ j, 8 ≤ j → ds[j]? = cs[j]?
theorem Turned.refl {cs : Array Value} (h : Has8 cs) : Turned cs cs := ⟨rfl, h, fun _ _ => rfl⟩
theorem Turned.set {cs ds : Array Value} (h : Turned cs ds) (k : Nat) (hk : k < 8) (y : Int) : Turned cs (ds.setIfInBounds k (.int .u32 y)) := by
  refine ⟨by rw [Array.size_setIfInBounds]; exact h.1, fun j hj => ?_, fun j hj => ?_⟩
  · obtain ⟨z, hz⟩ := h.2.1 j hj
    rw [Array.getElem?_setIfInBounds]
    by_cases hkj : k = j
    · subst hkj
      have hlt : k < ds.size := (Array.getElem?_eq_some_iff.1 hz).1
      exact ⟨y, by simp [hlt]⟩
    · exact ⟨z, by simp [hkj, hz]⟩
  · rw [Array.getElem?_setIfInBounds, if_neg (by omega)]
    exact h.2.2 j hj
/-- The two tables of constants. -/
def Tabs (w : World) : Prop := (∃ rs t, Blk w 2 t rs ∧ W32s rs 64) ∧ ∃ fs t, Blk w 0 t fs ∧ W32s fs 8
theorem Tabs.upd {S : Nat → Prop} {w w' : World} (h : Tabs w) (hu : Upd S w w') (h2 : ¬ S 2) (h0 : ¬ S 0) : Tabs w' := by
  obtain ⟨⟨rs, t, h1, h2'⟩, fs, t', h3, h4⟩ := h
  exact ⟨⟨rs, t, h1.upd hu h2, h2'⟩, fs, t', h3.upd hu h0, h4⟩
theorem Tabs.none {w w' : World} (h : Tabs w) (hu : Upd noBlk w w') : Tabs w' := h.upd hu id id

def TurnP (w : World) (g : Nat) (t : TypeId) (cs : Array Value) (e : Ending) (w' : World) : Prop := ∃ ds, e = .returned (.tuple #[]) ∧ Turned cs ds ∧ Blk w' g t ds ∧ Upd (fun k => k = g) w w'

set_option maxRecDepth 100000 in
set_option maxHeartbeats 4000000 in
theorem turn_any (g : Nat) (t : TypeId) (cs : Array Value) (v : Value) (l : List UInt8) (w : World) (hb : Blk w g t cs) (hcs : Has8 cs) (ht : Tabs w) (hv : RdB w v l) (hl : l.length = 64) :
    Calls Tryz.prog 58 #[.pointer (some ⟨g, 0, none⟩), v] w (TurnP w g t cs) := by
  have hv' := hv
  obtain ⟨-, A, c, rfl, -⟩ := hv'
  have hc := schedule_any _ l w hv hl
  rw [hl] at hc ⊢
  clear hl hv
  replace hc := Lib.hid hc
  replace hb := Lib.hid hb
  replace ht := Lib.hid ht
  replace hcs := Lib.hid hcs
  have i162 : (Tryz.prog.info? 162).map (·.size) = some 64 := by kernel_rfl
  replace i162 := Lib.hid i162
  go_enter Tryz.func58, Tryz.ntmps58
  go_wp2_with (first | (go_at_call 85; refine hc.out.mono ?_; clear hc; rintro e w1 ⟨ws, hws, rfl, hu⟩; replace hws := Lib.hid hws; replace hu := Lib.hid hu) | (refine wpList_storeNew rfl rfl _ _ 162 rfl w1.heap.size rfl rfl ws rfl _ 64 rfl hws.out.1 i162.out hws.out.one ?_; intro w2 hb2 hu2 hs2; have hlt : w.heap.size ≤ w1.heap.size := hu.out.size; generalize hHe : w1.heap.size = H at *; replace hb2 := Lib.hid hb2; replace hu2 := Lib.hid (hu.out.then_none hu2); clear hs2 hHe i162))
  have hb3 := Lib.hid (hb.out.upd hu2.out id)
  have ht3 := Lib.hid (ht.out.none hu2.out)
  clear hb ht hu
  obtain ⟨y0, z0⟩ := hcs.out 0 (by omega)
  have c0 : w2.cell? ⟨g, 0, none⟩ = some (.int .u32 y0) := by rw [hb3.out.cell]; exact z0
  obtain ⟨y1, z1⟩ := hcs.out 1 (by omega)
  have c1 : w2.cell? ⟨g, 1, none⟩ = some (.int .u32 y1) := by rw [hb3.out.cell]; exact z1
  obtain ⟨y2, z2⟩ := hcs.out 2 (by omega)
  have c2 : w2.cell? ⟨g, 2, none⟩ = some (.int .u32 y2) := by rw [hb3.out.cell]; exact z2
  obtain ⟨y3, z3⟩ := hcs.out 3 (by omega)
  have c3 : w2.cell? ⟨g, 3, none⟩ = some (.int .u32 y3) := by rw [hb3.out.cell]; exact z3
  obtain ⟨y4, z4⟩ := hcs.out 4 (by omega)
  have c4 : w2.cell? ⟨g, 4, none⟩ = some (.int .u32 y4) := by rw [hb3.out.cell]; exact z4
  obtain ⟨y5, z5⟩ := hcs.out 5 (by omega)
  have c5 : w2.cell? ⟨g, 5, none⟩ = some (.int .u32 y5) := by rw [hb3.out.cell]; exact z5
  obtain ⟨y6, z6⟩ := hcs.out 6 (by omega)
  have c6 : w2.cell? ⟨g, 6, none⟩ = some (.int .u32 y6) := by rw [hb3.out.cell]; exact z6
  obtain ⟨y7, z7⟩ := hcs.out 7 (by omega)
  have c7 : w2.cell? ⟨g, 7, none⟩ = some (.int .u32 y7) := by rw [hb3.out.cell]; exact z7
  clear z0 z1 z2 z3 z4 z5 z6 z7
  have hS : w2.drew.cell? ⟨g, 0, none⟩ = some (.int .u32 y0) ∧ w2.drew.cell? ⟨g, 1, none⟩ = some (.int .u32 y1) ∧ w2.drew.cell? ⟨g, 2, none⟩ = some (.int .u32 y2) ∧ w2.drew.cell? ⟨g, 3, none⟩ = some (.int .u32 y3) ∧ w2.drew.cell? ⟨g, 4, none⟩ = some (.int .u32 y4) ∧ w2.drew.cell? ⟨g, 5, none⟩ = some (.int .u32 y5) ∧ w2.drew.cell? ⟨g, 6, none⟩ = some (.int .u32 y6) ∧ w2.drew.cell? ⟨g, 7, none⟩ = some (.int .u32 y7) := ⟨c0, c1, c2, c3, c4, c5, c6, c7⟩
  refine wp_region_L (n := 40) (fun w' : World => w'.cell? ⟨g, 0, none⟩ = some (.int .u32 y0) ∧ w'.cell? ⟨g, 1, none⟩ = some (.int .u32 y1) ∧ w'.cell? ⟨g, 2, none⟩ = some (.int .u32 y2) ∧ w'.cell? ⟨g, 3, none⟩ = some (.int .u32 y3) ∧ w'.cell? ⟨g, 4, none⟩ = some (.int .u32 y4) ∧ w'.cell? ⟨g, 5, none⟩ = some (.int .u32 y5) ∧ w'.cell? ⟨g, 6, none⟩ = some (.int .u32 y6) ∧ w'.cell? ⟨g, 7, none⟩ = some (.int .u32 y7)) [] [0, 1, 2, 3, 4, 5, 6, 7, 8, 9, 10, 11, 12, 13, 14, 15, 16, 17, 18, 19, 20, 21, 22, 23, 24, 25, 26, 27, 28, 29, 30, 31, 32, 33, 34, 35, 36, 37, 38, 39] (by kernel_rfl) rfl ?_
  refine AnyL.pure (i := 0) (v := ?_) (some 20) rfl rfl (by kernel_rfl) (by kernel_rfl) (by kernel_rfl) rfl (fun _ _ _ h => h) (by rfl) (fun ww => ?_) ?_; rotate_left; · (go_simp; (try with_reducible rfl))
  refine AnyL.pure (i := 1) (v := ?_) (some 21) rfl rfl (by kernel_rfl) (by kernel_rfl) (by kernel_rfl) rfl (fun _ _ _ h => h) (by rfl) (fun ww => ?_) ?_; rotate_left; · (go_simp; (try with_reducible rfl))
  refine AnyL.pure (i := 2) (v := ?_) (some 22) rfl rfl (by kernel_rfl) (by kernel_rfl) (by kernel_rfl) rfl (fun _ _ _ h => h) (by rfl) (fun ww => ?_) ?_; rotate_left; · (go_simp; (try with_reducible rfl))
  refine AnyL.take (i := 3) (v := ?_) (some 23) rfl rfl (by kernel_rfl) (by kernel_rfl) (by kernel_rfl) rfl (by kernel_rfl) (fun _ _ _ h => h) (by rfl) (fun ww hww => ?_) hS ?_; rotate_left; · (obtain ⟨hs0, hs1, hs2, hs3, hs4, hs5, hs6, hs7⟩ := hww; go_simp; (try with_reducible rfl))
  refine AnyL.pure (i := 4) (v := ?_) (some 24) rfl rfl (by kernel_rfl) (by kernel_rfl) (by kernel_rfl) rfl (fun _ _ _ h => h) (by rfl) (fun ww => ?_) ?_; rotate_left; · (go_simp; (try with_reducible rfl))
  refine AnyL.pure (i := 5) (v := ?_) (some 25) rfl rfl (by kernel_rfl) (by kernel_rfl) (by kernel_rfl) rfl (fun _ _ _ h => h) (by rfl) (fun ww => ?_) ?_; rotate_left; · (go_simp; (try with_reducible rfl))
  refine AnyL.pure (i := 6) (v := ?_) (some 26) rfl rfl (by kernel_rfl) (by kernel_rfl) (by kernel_rfl) rfl (fun _ _ _ h => h) (by rfl) (fun ww => ?_) ?_; rotate_left; · (go_simp; (try with_reducible rfl))
  refine AnyL.take (i := 7) (v := ?_) (some 27) rfl rfl (by kernel_rfl) (by kernel_rfl) (by kernel_rfl) rfl (by kernel_rfl) (fun _ _ _ h => h) (by rfl) (fun ww hww => ?_) hS ?_; rotate_left; · (obtain ⟨hs0, hs1, hs2, hs3, hs4, hs5, hs6, hs7⟩ := hww; go_simp; (try with_reducible rfl))
  refine AnyL.pure (i := 8) (v := ?_) (some 28) rfl rfl (by kernel_rfl) (by kernel_rfl) (by kernel_rfl) rfl (fun _ _ _ h => h) (by rfl) (fun ww => ?_) ?_; rotate_left; · (go_simp; (try with_reducible rfl))
  refine AnyL.pure (i := 9) (v := ?_) (some 29) rfl rfl (by kernel_rfl) (by kernel_rfl) (by kernel_rfl) rfl (fun _ _ _ h => h) (by rfl) (fun ww => ?_) ?_; rotate_left; · (go_simp; (try with_reducible rfl))
  refine AnyL.pure (i := 10) (v := ?_) (some 30) rfl rfl (by kernel_rfl) (by kernel_rfl) (by kernel_rfl) rfl (fun _ _ _ h => h) (by rfl) (fun ww => ?_) ?_; rotate_left; · (go_simp; (try with_reducible rfl))
  refine AnyL.take (i := 11) (v := ?_) (some 31) rfl rfl (by kernel_rfl) (by kernel_rfl) (by kernel_rfl) rfl (by kernel_rfl) (fun _ _ _ h => h) (by rfl) (fun ww hww => ?_) hS ?_; rotate_left; · (obtain ⟨hs0, hs1, hs2, hs3, hs4, hs5, hs6, hs7⟩ := hww; go_simp; (try with_reducible rfl))
  refine AnyL.pure (i := 12) (v := ?_) (some 32) rfl rfl (by kernel_rfl) (by kernel_rfl) (by kernel_rfl) rfl (fun _ _ _ h => h) (by rfl) (fun ww => ?_) ?_; rotate_left; · (go_simp; (try with_reducible rfl))
  refine AnyL.pure (i := 13) (v := ?_) (some 33) rfl rfl (by kernel_rfl) (by kernel_rfl) (by kernel_rfl) rfl (fun _ _ _ h => h) (by rfl) (fun ww => ?_) ?_; rotate_left; · (go_simp; (try with_reducible rfl))
  refine AnyL.pure (i := 14) (v := ?_) (some 34) rfl rfl (by kernel_rfl) (by kernel_rfl) (by kernel_rfl) rfl (fun _ _ _ h => h) (by rfl) (fun ww => ?_) ?_; rotate_left; · (go_simp; (try with_reducible rfl))
  refine AnyL.take (i := 15) (v := ?_) (some 35) rfl rfl (by kernel_rfl) (by kernel_rfl) (by kernel_rfl) rfl (by kernel_rfl) (fun _ _ _ h => h) (by rfl) (fun ww hww => ?_) hS ?_; rotate_left; · (obtain ⟨hs0, hs1, hs2, hs3, hs4, hs5, hs6, hs7⟩ := hww; go_simp; (try with_reducible rfl))
  refine AnyL.pure (i := 16) (v := ?_) (some 36) rfl rfl (by kernel_rfl) (by kernel_rfl) (by kernel_rfl) rfl (fun _ _ _ h => h) (by rfl) (fun ww => ?_) ?_; rotate_left; · (go_simp; (try with_reducible rfl))
  refine AnyL.pure (i := 17) (v := ?_) (some 37) rfl rfl (by kernel_rfl) (by kernel_rfl) (by kernel_rfl) rfl (fun _ _ _ h => h) (by rfl) (fun ww => ?_) ?_; rotate_left; · (go_simp; (try with_reducible rfl))
  refine AnyL.pure (i := 18) (v := ?_) (some 38) rfl rfl (by kernel_rfl) (by kernel_rfl) (by kernel_rfl) rfl (fun _ _ _ h => h) (by rfl) (fun ww => ?_) ?_; rotate_left; · (go_simp; (try with_reducible rfl))
  refine AnyL.take (i := 19) (v := ?_) (some 39) rfl rfl (by kernel_rfl) (by kernel_rfl) (by kernel_rfl) rfl (by kernel_rfl) (fun _ _ _ h => h) (by rfl) (fun ww hww => ?_) hS ?_; rotate_left; · (obtain ⟨hs0, hs1, hs2, hs3, hs4, hs5, hs6, hs7⟩ := hww; go_simp; (try with_reducible rfl))
  refine AnyL.pure (i := 20) (v := ?_) (some 40) rfl rfl (by kernel_rfl) (by kernel_rfl) (by kernel_rfl) rfl (fun _ _ _ h => h) (by rfl) (fun ww => ?_) ?_; rotate_left; · (go_simp; (try with_reducible rfl))
  refine AnyL.pure (i := 21) (v := ?_) (some 41) rfl rfl (by kernel_rfl) (by kernel_rfl) (by kernel_rfl) rfl (fun _ _ _ h => h) (by rfl) (fun ww => ?_) ?_; rotate_left; · (go_simp; (try with_reducible rfl))
  refine AnyL.pure (i := 22) (v := ?_) (some 42) rfl rfl (by kernel_rfl) (by kernel_rfl) (by kernel_rfl) rfl (fun _ _ _ h => h) (by rfl) (fun ww => ?_) ?_; rotate_left; · (go_simp; (try with_reducible rfl))
  refine AnyL.take (i := 23) (v := ?_) (some 43) rfl rfl (by kernel_rfl) (by kernel_rfl) (by kernel_rfl) rfl (by kernel_rfl) (fun _ _ _ h => h) (by rfl) (fun ww hww => ?_) hS ?_; rotate_left; · (obtain ⟨hs0, hs1, hs2, hs3, hs4, hs5, hs6, hs7⟩ := hww; go_simp; (try with_reducible rfl))
  refine AnyL.pure (i := 24) (v := ?_) (some 44) rfl rfl (by kernel_rfl) (by kernel_rfl) (by kernel_rfl) rfl (fun _ _ _ h => h) (by rfl) (fun ww => ?_) ?_; rotate_left; · (go_simp; (try with_reducible rfl))
  refine AnyL.pure (i := 25) (v := ?_) (some 45) rfl rfl (by kernel_rfl) (by kernel_rfl) (by kernel_rfl) rfl (fun _ _ _ h => h) (by rfl) (fun ww => ?_) ?_; rotate_left; · (go_simp; (try with_reducible rfl))
  refine AnyL.pure (i := 26) (v := ?_) (some 46) rfl rfl (by kernel_rfl) (by kernel_rfl) (by kernel_rfl) rfl (fun _ _ _ h => h) (by rfl) (fun ww => ?_) ?_; rotate_left; · (go_simp; (try with_reducible rfl))
  refine AnyL.take (i := 27) (v := ?_) (some 47) rfl rfl (by kernel_rfl) (by kernel_rfl) (by kernel_rfl) rfl (by kernel_rfl) (fun _ _ _ h => h) (by rfl) (fun ww hww => ?_) hS ?_; rotate_left; · (obtain ⟨hs0, hs1, hs2, hs3, hs4, hs5, hs6, hs7⟩ := hww; go_simp; (try with_reducible rfl))
  refine AnyL.pure (i := 28) (v := ?_) (some 48) rfl rfl (by kernel_rfl) (by kernel_rfl) (by kernel_rfl) rfl (fun _ _ _ h => h) (by rfl) (fun ww => ?_) ?_; rotate_left; · (go_simp; (try with_reducible rfl))
  refine AnyL.pure (i := 29) (v := ?_) (some 49) rfl rfl (by kernel_rfl) (by kernel_rfl) (by kernel_rfl) rfl (fun _ _ _ h => h) (by rfl) (fun ww => ?_) ?_; rotate_left; · (go_simp; (try with_reducible rfl))
  refine AnyL.pure (i := 30) (v := ?_) (some 50) rfl rfl (by kernel_rfl) (by kernel_rfl) (by kernel_rfl) rfl (fun _ _ _ h => h) (by rfl) (fun ww => ?_) ?_; rotate_left; · (go_simp; (try with_reducible rfl))
  refine AnyL.take (i := 31) (v := ?_) (some 51) rfl rfl (by kernel_rfl) (by kernel_rfl) (by kernel_rfl) rfl (by kernel_rfl) (fun _ _ _ h => h) (by rfl) (fun ww hww => ?_) hS ?_; rotate_left; · (obtain ⟨hs0, hs1, hs2, hs3, hs4, hs5, hs6, hs7⟩ := hww; go_simp; (try with_reducible rfl))
  refine AnyL.pure (i := 32) (v := ?_) (some 5) rfl rfl (by kernel_rfl) (by kernel_rfl) (by kernel_rfl) rfl (fun _ _ _ h => h) (by rfl) (fun ww => ?_) ?_; rotate_left; · (go_simp; (try with_reducible rfl))
  refine AnyL.pure (i := 33) (v := ?_) (some 6) rfl rfl (by kernel_rfl) (by kernel_rfl) (by kernel_rfl) rfl (fun _ _ _ h => h) (by rfl) (fun ww => ?_) ?_; rotate_left; · (go_simp; (try with_reducible rfl))
  refine AnyL.pure (i := 34) (v := ?_) (some 7) rfl rfl (by kernel_rfl) (by kernel_rfl) (by kernel_rfl) rfl (fun _ _ _ h => h) (by rfl) (fun ww => ?_) ?_; rotate_left; · (go_simp; (try with_reducible rfl))
  refine AnyL.pure (i := 35) (v := ?_) (some 8) rfl rfl (by kernel_rfl) (by kernel_rfl) (by kernel_rfl) rfl (fun _ _ _ h => h) (by rfl) (fun ww => ?_) ?_; rotate_left; · (go_simp; (try with_reducible rfl))
  refine AnyL.pure (i := 36) (v := ?_) (some 9) rfl rfl (by kernel_rfl) (by kernel_rfl) (by kernel_rfl) rfl (fun _ _ _ h => h) (by rfl) (fun ww => ?_) ?_; rotate_left; · (go_simp; (try with_reducible rfl))
  refine AnyL.pure (i := 37) (v := ?_) (some 10) rfl rfl (by kernel_rfl) (by kernel_rfl) (by kernel_rfl) rfl (fun _ _ _ h => h) (by rfl) (fun ww => ?_) ?_; rotate_left; · (go_simp; (try with_reducible rfl))
  refine AnyL.pure (i := 38) (v := ?_) (some 11) rfl rfl (by kernel_rfl) (by kernel_rfl) (by kernel_rfl) rfl (fun _ _ _ h => h) (by rfl) (fun ww => ?_) ?_; rotate_left; · (go_simp; (try with_reducible rfl))
  refine AnyL.pure (i := 39) (v := ?_) (some 12) rfl rfl (by kernel_rfl) (by kernel_rfl) (by kernel_rfl) rfl (fun _ _ _ h => h) (by rfl) (fun ww => ?_) ?_; rotate_left; · (go_simp; (try with_reducible rfl))
  refine AnyL.done (by kernel_rfl) ?_
  clear hS c0 c1 c2 c3 c4 c5 c6 c7
  replace hb3 := Lib.hid hb3.out.drew
  replace ht3 := Lib.hid (ht3.out.none ((Upd.refl _ _).drew))
  replace hb2 := Lib.hid hb2.out.drew
  replace hu2 := Lib.hid hu2.out.drew
  generalize w2.drew = w3 at *
  obtain ⟨⟨rs, tr, hr, hrs⟩, -⟩ := ht3.out
  replace hr := Lib.hid hr
  replace hrs := Lib.hid hrs
  go_wp2_with fail
  go_loopw [52, 5, 6, 7, 8, 9, 10, 11, 12] (fun i s5 s6 s7 s8 s9 s10 s11 s12 wr => ∃ (k q : Nat) (x5 x6 x7 x8 x9 x10 x11 x12 : Int), k ≤ 64 ∧ i = .int .i64 k ∧ s5 = .int .u32 x5 ∧ s6 = .int .u32 x6 ∧ s7 = .int .u32 x7 ∧ s8 = .int .u32 x8 ∧ s9 = .int .u32 x9 ∧ s10 = .int .u32 x10 ∧ s11 = .int .u32 x11 ∧ s12 = .int .u32 x12 ∧ wr = w3.drewN q) (fun i _ _ _ _ _ _ _ _ _ => 64 - (intOf i).toNat)
  case atStart => exact ⟨0, 0, _, _, _, _, _, _, _, _, Nat.zero_le _, rfl, rfl, rfl, rfl, rfl, rfl, rfl, rfl, rfl, rfl⟩
  case round =>
    obtain ⟨k, q, x5, x6, x7, x8, x9, x10, x11, x12, hk, rfl, rfl, rfl, rfl, rfl, rfl, rfl, rfl, rfl, rfl⟩ := hrel
    by_cases hlt' : k < 64
    · obtain ⟨yr, zr⟩ := hrs.out.at_ hlt'
      obtain ⟨yw, zw⟩ := hws.out.at_ hlt'
      have cr : w3.cell? ⟨2, k, none⟩ = some (.int .u32 yr) := by rw [hr.out.cell]; exact zr
      have cw : w3.cell? ⟨H, k, none⟩ = some (.int .u32 yw) := by rw [hb2.out.cell]; exact zw
      clear zr zw
      have q8 : (0 : Int) ≤ k := by omega
      have q9 : (k : Int) < 64 := by omega
      go_wp2_with fail
      have hS : ((w3.drewN q).drew.cell? ⟨2, k, none⟩ = some (.int .u32 yr)) ∧ ((w3.drewN q).drew.cell? ⟨H, k, none⟩ = some (.int .u32 yw)) := ⟨cr, cw⟩
      refine wp_region_L (n := 28) (fun w' : World => w'.cell? ⟨2, k, none⟩ = some (.int .u32 yr) ∧ w'.cell? ⟨H, k, none⟩ = some (.int .u32 yw)) [2, 4, 7] [0, 1, 3, 5, 6, 8, 9, 10, 11, 12, 13, 14, 15, 16, 17, 18, 19, 20, 21, 22, 23, 24, 25, 26, 27] (by kernel_rfl) rfl ?_
      refine AnyL.pure (i := 0) (v := ?_) (some 55) rfl rfl (by kernel_rfl) (by kernel_rfl) (by kernel_rfl) rfl (fun _ _ _ h => h) (by rfl) (fun ww => ?_) ?_; rotate_left; · (go_simp; (try with_reducible rfl))
      refine AnyL.pure (i := 1) (v := ?_) (some 56) rfl rfl (by kernel_rfl) (by kernel_rfl) (by kernel_rfl) rfl (fun _ _ _ h => h) (by rfl) (fun ww => ?_) ?_; rotate_left; · (go_simp; (try with_reducible rfl))
      refine AnyL.pure (i := 3) (v := ?_) (some 58) rfl rfl (by kernel_rfl) (by kernel_rfl) (by kernel_rfl) rfl (fun _ _ _ h => h) (by rfl) (fun ww => ?_) ?_; rotate_left; · (go_simp; (try with_reducible rfl))
      refine AnyL.pure (i := 6) (v := ?_) (some 61) rfl rfl (by kernel_rfl) (by kernel_rfl) (by kernel_rfl) rfl (fun _ _ _ h => h) (by rfl) (fun ww => ?_) ?_; rotate_left; · (go_simp; (try with_reducible rfl))
      refine AnyL.pure (i := 10) (v := ?_) (some 65) rfl rfl (by kernel_rfl) (by kernel_rfl) (by kernel_rfl) rfl (fun _ _ _ h => h) (by rfl) (fun ww => ?_) ?_; rotate_left; · (go_simp; (try with_reducible rfl))
      refine AnyL.pure (i := 11) (v := ?_) (some 66) rfl rfl (by kernel_rfl) (by kernel_rfl) (by kernel_rfl) rfl (fun _ _ _ h => h) (by rfl) (fun ww => ?_) ?_; rotate_left; · (go_simp; (try with_reducible rfl))
      refine AnyL.pure (i := 12) (v := ?_) (some 67) rfl rfl (by kernel_rfl) (by kernel_rfl) (by kernel_rfl) rfl (fun _ _ _ h => h) (by rfl) (fun ww => ?_) ?_; rotate_left; · (go_simp; (try with_reducible rfl))
      refine AnyL.pure (i := 13) (v := ?_) (some 68) rfl rfl (by kernel_rfl) (by kernel_rfl) (by kernel_rfl) rfl (fun _ _ _ h => h) (by rfl) (fun ww => ?_) ?_; rotate_left; · (go_simp; (try with_reducible rfl))
      refine AnyL.pure (i := 14) (v := ?_) (some 69) rfl rfl (by kernel_rfl) (by kernel_rfl) (by kernel_rfl) rfl (fun _ _ _ h => h) (by rfl) (fun ww => ?_) ?_; rotate_left; · (go_simp; (try with_reducible rfl))
      refine AnyL.pure (i := 15) (v := ?_) (some 70) rfl rfl (by kernel_rfl) (by kernel_rfl) (by kernel_rfl) rfl (fun _ _ _ h => h) (by rfl) (fun ww => ?_) ?_; rotate_left; · (go_simp; (try with_reducible rfl))
      refine AnyL.pure (i := 16) (v := ?_) (some 71) rfl rfl (by kernel_rfl) (by kernel_rfl) (by kernel_rfl) rfl (fun _ _ _ h => h) (by rfl) (fun ww => ?_) ?_; rotate_left; · (go_simp; (try with_reducible rfl))
      refine AnyL.pure (i := 17) (v := ?_) (some 72) rfl rfl (by kernel_rfl) (by kernel_rfl) (by kernel_rfl) rfl (fun _ _ _ h => h) (by rfl) (fun ww => ?_) ?_; rotate_left; · (go_simp; (try with_reducible rfl))
      refine AnyL.pure (i := 19) (v := ?_) (some 74) rfl rfl (by kernel_rfl) (by kernel_rfl) (by kernel_rfl) rfl (fun _ _ _ h => h) (by rfl) (fun ww => ?_) ?_; rotate_left; · (go_simp; (try with_reducible rfl))
      refine AnyL.pure (i := 20) (v := ?_) (some 75) rfl rfl (by kernel_rfl) (by kernel_rfl) (by kernel_rfl) rfl (fun _ _ _ h => h) (by rfl) (fun ww => ?_) ?_; rotate_left; · (go_simp; (try with_reducible rfl))
      refine AnyL.take (i := 21) (v := ?_) (some 76) rfl rfl (by kernel_rfl) (by kernel_rfl) (by kernel_rfl) rfl (by kernel_rfl) (fun _ _ _ h => h) (by rfl) (fun ww hww => ?_) hS ?_; rotate_left; · (obtain ⟨hs0, hs1⟩ := hww; go_simp; (try with_reducible rfl))
      refine AnyL.pure (i := 23) (v := ?_) (some 78) rfl rfl (by kernel_rfl) (by kernel_rfl) (by kernel_rfl) rfl (fun _ _ _ h => h) (by rfl) (fun ww => ?_) ?_; rotate_left; · (go_simp; (try with_reducible rfl))
      refine AnyL.pure (i := 24) (v := ?_) (some 79) rfl rfl (by kernel_rfl) (by kernel_rfl) (by kernel_rfl) rfl (fun _ _ _ h => h) (by rfl) (fun ww => ?_) ?_; rotate_left; · (go_simp; (try with_reducible rfl))
      refine AnyL.take (i := 25) (v := ?_) (some 80) rfl rfl (by kernel_rfl) (by kernel_rfl) (by kernel_rfl) rfl (by kernel_rfl) (fun _ _ _ h => h) (by rfl) (fun ww hww => ?_) hS ?_; rotate_left; · (obtain ⟨hs0, hs1⟩ := hww; go_simp; (try with_reducible rfl))
      simp only [Act.put, List.setIfInBounds_toArray]; try simp only [List.set_cons_zero, List.set_cons_succ]
      refine AnyL.step (i := 2) (by kernel_rfl) rfl rfl (fun K hK => ?_)
      go_simp
      refine (right_any _ _ _).mono ?_
      rintro e w' ⟨⟨u1, rfl⟩, rfl⟩
      refine hK _ _ hS ?_; clear hK K
      refine AnyL.step (i := 4) (by kernel_rfl) rfl rfl (fun K hK => ?_)
      go_simp
      refine (right_any _ _ _).mono ?_
      rintro e w' ⟨⟨u2, rfl⟩, rfl⟩
      refine hK _ _ hS ?_; clear hK K
      refine AnyL.pure (i := 5) (v := ?_) (some 60) rfl rfl (by kernel_rfl) (by kernel_rfl) (by kernel_rfl) rfl (fun _ _ _ h => h) (by rfl) (fun ww => ?_) ?_; rotate_left; · (go_simp; (try with_reducible rfl))
      simp only [Act.put, List.setIfInBounds_toArray]; try simp only [List.set_cons_zero, List.set_cons_succ]
      refine AnyL.step (i := 7) (by kernel_rfl) rfl rfl (fun K hK => ?_)
      go_simp
      refine (right_any _ _ _).mono ?_
      rintro e w' ⟨⟨u3, rfl⟩, rfl⟩
      refine hK _ _ hS ?_; clear hK K
      refine AnyL.pure (i := 8) (v := ?_) (some 63) rfl rfl (by kernel_rfl) (by kernel_rfl) (by kernel_rfl) rfl (fun _ _ _ h => h) (by rfl) (fun ww => ?_) ?_; rotate_left; · (go_simp; (try with_reducible rfl))
      refine AnyL.pure (i := 9) (v := ?_) (some 64) rfl rfl (by kernel_rfl) (by kernel_rfl) (by kernel_rfl) rfl (fun _ _ _ h => h) (by rfl) (fun ww => ?_) ?_; rotate_left; · (go_simp; (try with_reducible rfl))
      refine AnyL.pure (i := 18) (v := ?_) (some 73) rfl rfl (by kernel_rfl) (by kernel_rfl) (by kernel_rfl) rfl (fun _ _ _ h => h) (by rfl) (fun ww => ?_) ?_; rotate_left; · (go_simp; (try with_reducible rfl))
      refine AnyL.pure (i := 22) (v := ?_) (some 77) rfl rfl (by kernel_rfl) (by kernel_rfl) (by kernel_rfl) rfl (fun _ _ _ h => h) (by rfl) (fun ww => ?_) ?_; rotate_left; · (go_simp; (try with_reducible rfl))
      refine AnyL.pure (i := 26) (v := ?_) (some 81) rfl rfl (by kernel_rfl) (by kernel_rfl) (by kernel_rfl) rfl (fun _ _ _ h => h) (by rfl) (fun ww => ?_) ?_; rotate_left; · (go_simp; (try with_reducible rfl))
      refine AnyL.pure (i := 27) (v := ?_) (some 14) rfl rfl (by kernel_rfl) (by kernel_rfl) (by kernel_rfl) rfl (fun _ _ _ h => h) (by rfl) (fun ww => ?_) ?_; rotate_left; · (go_simp; (try with_reducible rfl))
      refine AnyL.done (by kernel_rfl) ?_
      clear hS cr cw
      go_wp2_with (go_at_call 86; refine (right_any _ _ _).mono ?_; rintro e w' ⟨⟨y, rfl⟩, rfl⟩)
      go_roundw
      case rel => exact ⟨k + 1, q + 1, _, _, _, _, _, _, _, _, by omega, by go_num, rfl, rfl, rfl, rfl, rfl, rfl, rfl, rfl, rfl⟩
      case measure => simp [intOf]; omega
    · obtain rfl : k = 64 := by omega
      clear hk hlt'
      replace hb3 := Lib.hid (hb3.out.drewN q)
      replace hu2 := Lib.hid (hu2.out.drewN q)
      generalize w3.drewN q = w4 at *
      rw [show ((64 : Nat) : Int) = 64 from rfl]
      clear ht3 hb2 hr hrs hws
      go_wp2_with fail
      go_loopw [124] (fun i wr => ∃ (k : Nat) (ds : Array Value), k ≤ 8 ∧ i = .int .i64 k ∧ Turned cs ds ∧ Blk wr g t ds ∧ Upd (fun k => k = g) w wr) (fun i _ => 8 - (intOf i).toNat)
      case atStart => exact ⟨0, cs, by omega, rfl, Turned.refl hcs.out, hb3.out, hu2.out.of_none _⟩
      case round =>
        clear hb3 hu2
        obtain ⟨k, ds, hk, rfl, hds, hb, hu⟩ := hrel
        replace hds := Lib.hid hds
        replace hb := Lib.hid hb
        replace hu := Lib.hid hu
        by_cases hlt' : k < 8
        · obtain ⟨yk, zk⟩ := hds.out.2.1 k hlt'
          have ck : wr.cell? ⟨g, k, none⟩ = some (.int .u32 yk) := by rw [hb.out.cell]; exact zk
          have fk : wr.frozen? ⟨g, k, none⟩ = false := hb.out.free _ rfl
          have xk : ∃ z : Int, #[Value.int .u32 x5, .int .u32 x6, .int .u32 x7, .int .u32 x8, .int .u32 x9, .int .u32 x10, .int .u32 x11, .int .u32 x12][k]? = some (.int .u32 z) := by
            rcases (show k = 0 ∨ k = 1 ∨ k = 2 ∨ k = 3 ∨ k = 4 ∨ k = 5 ∨ k = 6 ∨ k = 7 by omega) with rfl | rfl | rfl | rfl | rfl | rfl | rfl | rfl <;> exact ⟨_, rfl⟩
          obtain ⟨zk', hzk⟩ := xk
          have q8 : (0 : Int) ≤ k := by omega
          have q9 : (k : Int) < 8 := by omega
          replace hzk := Lib.hid hzk
          replace hlt' := Lib.hid hlt'
          clear zk
          go_wp2_with (refine wpList_index rfl _ _ 130 rfl 50 8 _ rfl k rfl hlt'.out Tryz.underlying130 (by kernel_rfl) (by kernel_rfl) _ hzk.out ?_)
          have hS : wr.drew.cell? ⟨g, k, none⟩ = some (.int .u32 yk) := ck
          refine wp_region_L (n := 10) (fun w' : World => w'.cell? ⟨g, k, none⟩ = some (.int .u32 yk)) [] [0, 1, 2, 3, 4, 5, 6, 7, 8] (by kernel_rfl) rfl ?_
          refine AnyL.pure (i := 0) (v := ?_) (some 128) rfl rfl (by kernel_rfl) (by kernel_rfl) (by kernel_rfl) rfl (fun _ _ _ h => h) (by rfl) (fun ww => ?_) ?_; rotate_left; · (go_simp; (try with_reducible rfl))
          refine AnyL.pure (i := 1) (v := ?_) (some 129) rfl rfl (by kernel_rfl) (by kernel_rfl) (by kernel_rfl) rfl (fun _ _ _ h => h) (by rfl) (fun ww => ?_) ?_; rotate_left; · (go_simp; (try with_reducible rfl))
          refine AnyL.pure (i := 2) (v := ?_) (some 130) rfl rfl (by kernel_rfl) (by kernel_rfl) (by kernel_rfl) rfl (fun _ _ _ h => h) (by rfl) (fun ww => ?_) ?_; rotate_left; · (go_simp; (try with_reducible rfl))
          refine AnyL.pure (i := 3) (v := ?_) (some 131) rfl rfl (by kernel_rfl) (by kernel_rfl) (by kernel_rfl) rfl (fun _ _ _ h => h) (by rfl) (fun ww => ?_) ?_; rotate_left; · (go_simp; (try with_reducible rfl))
          refine AnyL.take (i := 4) (v := ?_) (some 132) rfl rfl (by kernel_rfl) (by kernel_rfl) (by kernel_rfl) rfl (by kernel_rfl) (fun _ _ _ h => h) (by rfl) (fun ww hww => ?_) hS ?_; rotate_left; · (obtain hs0 := hww; go_simp; (try with_reducible rfl))
          refine AnyL.pure (i := 5) (v := ?_) (some 133) rfl rfl (by kernel_rfl) (by kernel_rfl) (by kernel_rfl) rfl (fun _ _ _ h => h) (by rfl) (fun ww => ?_) ?_; rotate_left; · (go_simp; (try with_reducible rfl))
          refine AnyL.pure (i := 6) (v := ?_) (some 134) rfl rfl (by kernel_rfl) (by kernel_rfl) (by kernel_rfl) rfl (fun _ _ _ h => h) (by rfl) (fun ww => ?_) ?_; rotate_left; · (go_simp; (try with_reducible rfl))
          refine AnyL.pure (i := 7) (v := ?_) (some 135) rfl rfl (by kernel_rfl) (by kernel_rfl) (by kernel_rfl) rfl (fun _ _ _ h => h) (by rfl) (fun ww => ?_) ?_; rotate_left; · (go_simp; (try with_reducible rfl))
          refine AnyL.pure (i := 8) (v := ?_) (some 136) rfl rfl (by kernel_rfl) (by kernel_rfl) (by kernel_rfl) rfl (fun _ _ _ h => h) (by rfl) (fun ww => ?_) ?_; rotate_left; · (go_simp; (try with_reducible rfl))
          simp only [Act.put, List.setIfInBounds_toArray]; try simp only [List.set_cons_zero, List.set_cons_succ]
          refine AnyL.last (i := 9) (by kernel_rfl) rfl rfl rfl (fun K hK => ?_)
          go_simp
          refine hK _ _ ?_; clear hK K
          refine AnyL.done (by kernel_rfl) ?_
          go_wp2
          go_roundw
          case rel => exact ⟨k + 1, _, by have := hlt'.out; omega, by go_num, hds.out.set k hlt'.out _, (hb.out.drew.set k _), (hu.out.drew.setCell (p := ⟨g, k, none⟩) (.inl rfl) _)⟩
          case measure => have := hlt'.out; simp [intOf]; omega
        · obtain rfl : k = 8 := by omega
          clear hk hlt'
          rw [show ((8 : Nat) : Int) = 8 from rfl]
          go_wp2
          refine bodyPost_end (results_none rfl _ _ _) rfl ?_
          exact ⟨ds, rfl, hds.out, hb.out, hu.out⟩
end Go.Proofs.YtedaapcmcimepaaGreatDoor
