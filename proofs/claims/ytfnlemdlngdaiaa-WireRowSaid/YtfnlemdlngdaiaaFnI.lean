/-
  The law's 'do': one call of the program, told.
-/
import Derived.Test.YtfnlemdlngdaiaaLawC
namespace Go.Proofs.Ytfnlemdlngdaiaa
open Go.RowKit

/-- A call of a script. -/
structure OpD where
  kind : Int
  n : Int
  m : Int
  k : Int
  bytes : List UInt8
/-- What a call answers. -/
structure TdA where
  n : Int
  bytes : List UInt8
  err : Int
  row : List (Nat × List UInt8)

/-- The program's answer, as plain data. -/
def WA.doOp (s : WA) (o : OpD) : WA × TdA :=
  if o.kind = 1 then ((s.send o.bytes).1, ⟨(s.send o.bytes).2.1, [], (s.send o.bytes).2.2, []⟩)
  else if o.kind = 2 then (s, ⟨0, (s.look o.n).1, (s.look o.n).2, []⟩)
  else if o.kind = 3 then ((s.drop o.n).1, ⟨0, (s.look o.n).1, (s.look o.n).2, []⟩)
  else if o.kind = 4 then ((s.drop o.n).1, ⟨0, [], (s.drop o.n).2, []⟩)
  else if o.kind = 5 then ((s.copy o.n).1, ⟨(s.copy o.n).2.1, [], (s.copy o.n).2.2, []⟩)
  else if o.kind = 6 then ((s.swap o.n o.m).1, ⟨0, [], (s.swap o.n o.m).2, []⟩)
  else if o.kind = 7 then ((s.flip o.n o.m o.k).1, ⟨0, [], (s.flip o.n o.m o.k).2, []⟩)
  else if o.kind = 8 then ((s.cut o.n o.m).1, ⟨0, [], (s.cut o.n o.m).2, []⟩)
  else if o.kind = 9 then (s, ⟨s.next, [], 0, []⟩)
  else if o.kind = 10 then (s, ⟨0, [], 0, s.row⟩)
  else (s, ⟨0, [], 0, []⟩)

/-- What was told lies in new memory. -/
structure TdOk (B : Nat) (w : World) (bs rv : Value) (ms : List Msg) (t : TdA) : Prop where
  bytes : OwnB B w bs t.bytes
  row : OwnMs B w rv ms
  abs : ms.map Msg.abs = t.row
def TdFoot (bs rv : Value) (ms : List Msg) (k : Nat) : Prop := bs.ownBlock = some k ∨ rv.ownBlock = some k ∨ ∃ m ∈ ms, m.v.ownBlock = some k

theorem OwnMs.nil (B : Nat) (w : World) : OwnMs B w (.slice none 0 0) [] := ⟨World.ownsRow_nil _ _ _ _, by simp, by simp⟩
theorem OwnMs.upd {B : Nat} {w w' : World} {v : Value} {ms : List Msg} {S : Nat → Prop} (h : OwnMs B w v ms) (hu : Upd S w w') (hn : ∀ k, (v.ownBlock = some k ∨ ∃ m ∈ ms, m.v.ownBlock = some k) → ¬ S k) : OwnMs B w' v ms :=
  ⟨own_upd h.row hu fun k hk => hn k (.inl hk), fun m hm => (h.byt m hm).upd hu fun k hk => hn k (.inr ⟨m, hm, hk⟩), h.apart⟩
theorem OwnMs.mono {B B' : Nat} {w : World} {v : Value} {ms : List Msg} (h : OwnMs B w v ms) (hB : B' ≤ B) : OwnMs B' w v ms := ⟨World.ownsRow.mono h.row hB, fun m hm => (h.byt m hm).mono hB, h.apart⟩
theorem OwnMs.lt {B : Nat} {w : World} {v : Value} {ms : List Msg} (h : OwnMs B w v ms) : ∀ k, (v.ownBlock = some k ∨ ∃ m ∈ ms, m.v.ownBlock = some k) → B ≤ k ∧ k < w.heap.size := by
  rintro k (hk | ⟨m, hm, hk⟩)
  · exact h.row.lt k hk
  · exact ⟨(h.byt m hm).ge k hk, (h.byt m hm).lt k hk⟩
theorem TdOk.upd {B : Nat} {w w' : World} {bs rv : Value} {ms : List Msg} {t : TdA} {S : Nat → Prop} (h : TdOk B w bs rv ms t) (hu : Upd S w w') (hn : ∀ k, TdFoot bs rv ms k → ¬ S k) : TdOk B w' bs rv ms t :=
  ⟨h.bytes.upd hu fun k hk => hn k (.inl hk), h.row.upd hu fun k hk => hn k (.inr hk), h.abs⟩
theorem TdOk.lt {B : Nat} {w : World} {bs rv : Value} {ms : List Msg} {t : TdA} (h : TdOk B w bs rv ms t) : ∀ k, TdFoot bs rv ms k → B ≤ k ∧ k < w.heap.size := by
  rintro k (hk | hk)
  · exact ⟨h.bytes.ge k hk, h.bytes.lt k hk⟩
  · exact h.row.lt k hk
theorem TdOk.plain (B : Nat) (w : World) (n er : Int) : TdOk B w (.slice none 0 0) (.slice none 0 0) [] ⟨n, [], er, []⟩ := ⟨World.ownsRow_nil _ _ _ _, OwnMs.nil _ _, rfl⟩
theorem TdFoot.nil (k : Nat) : ¬ TdFoot (.slice none 0 0) (.slice none 0 0) [] k := by
  rintro (h | h | ⟨m, hm, _⟩)
  · simp [Value.ownBlock] at h
  · simp [Value.ownBlock] at h
  · simp at hm

/-- What 'do' leaves. -/
def DoP (w : World) (W : Wr) (s : WA) (t : TdA) (e : Ending) (w' : World) : Prop :=
  ∃ bs rv ms W', e = .returned (.tuple #[.agg #[.int .i64 t.n, bs, .int .i64 t.err, rv], .bool true]) ∧ Onward w W w' W' ∧ W'.abs = s ∧ TdOk w.heap.size w' bs rv ms t ∧ ∀ k, TdFoot bs rv ms k → ¬ W'.foot k

/-- The blocks that 'do' makes at its begin: the call's own copy of the order, the two tellings. -/
structure Begun (w w3 : World) (H : Nat) (o : Array Value) : Prop where
  size : w.heap.size = H
  upd : Upd noBlk w w3
  b0 : Blk w3 H 50 o
  b1 : Blk w3 (H + 1) 46 #[.int .i64 0, .slice none 0 0, .int .i64 0, .slice none 0 0]
  b2 : Blk w3 (H + 1 + 1) 46 #[.int .i64 0, .slice none 0 0, .int .i64 0, .slice none 0 0]
def begun3 (w : World) (o : Array Value) : World := ((w.alloc (.cells o 50)).alloc (.cells #[.int .i64 0, .slice none 0 0, .int .i64 0, .slice none 0 0] 46)).alloc (.cells #[.int .i64 0, .slice none 0 0, .int .i64 0, .slice none 0 0] 46)
theorem begun_of (w : World) (o : Array Value) : Begun w (begun3 w o) w.heap.size o where
  size := rfl
  upd := (((Upd.refl noBlk w).alloc _).alloc _).alloc _
  b0 := ((Blk.new w 50 o).alloc _).alloc _
  b1 := by
    have h := (Blk.new (w.alloc (.cells o 50)) 46 #[.int .i64 0, .slice none 0 0, .int .i64 0, .slice none 0 0]).alloc (.cells #[.int .i64 0, .slice none 0 0, .int .i64 0, .slice none 0 0] 46)
    simpa [begun3] using h
  b2 := by
    have h := Blk.new ((w.alloc (.cells o 50)).alloc (.cells #[.int .i64 0, .slice none 0 0, .int .i64 0, .slice none 0 0] 46)) 46 #[.int .i64 0, .slice none 0 0, .int .i64 0, .slice none 0 0]
    simpa [begun3] using h
/-- The two tellings are there still. -/
structure Tell (w4 : World) (H : Nat) : Prop where
  b1 : Blk w4 (H + 1) 46 #[.int .i64 0, .slice none 0 0, .int .i64 0, .slice none 0 0]
  b2 : Blk w4 (H + 1 + 1) 46 #[.int .i64 0, .slice none 0 0, .int .i64 0, .slice none 0 0]
theorem Begun.tell {w w3 w4 : World} {H : Nat} {o : Array Value} {S : Nat → Prop} (h : Begun w w3 H o) (hu : Upd S w3 w4) (hS : ∀ k, S k → k < H) : Tell w4 H :=
  ⟨h.b1.upd hu fun hs => by have := hS _ hs; omega, h.b2.upd hu fun hs => by have := hS _ hs; omega⟩
theorem Tell.cells {w4 : World} {H : Nat} (h : Tell w4 H) :
    (w4.cell? ⟨H + 1, 0, none⟩ = some (.int .i64 0) ∧ w4.cell? ⟨H + 1, 1, none⟩ = some (.slice none 0 0) ∧ w4.cell? ⟨H + 1, 2, none⟩ = some (.int .i64 0) ∧ w4.cell? ⟨H + 1, 3, none⟩ = some (.slice none 0 0)) ∧
    (w4.cell? ⟨H + 1 + 1, 0, none⟩ = some (.int .i64 0) ∧ w4.cell? ⟨H + 1 + 1, 1, none⟩ = some (.slice none 0 0) ∧ w4.cell? ⟨H + 1 + 1, 2, none⟩ = some (.int .i64 0) ∧ w4.cell? ⟨H + 1 + 1, 3, none⟩ = some (.slice none 0 0)) ∧
    (w4.frozen? ⟨H + 1, 0, none⟩ = false ∧ w4.frozen? ⟨H + 1, 1, none⟩ = false ∧ w4.frozen? ⟨H + 1, 2, none⟩ = false ∧ w4.frozen? ⟨H + 1, 3, none⟩ = false) ∧
    (w4.frozen? ⟨H + 1 + 1, 0, none⟩ = false ∧ w4.frozen? ⟨H + 1 + 1, 1, none⟩ = false ∧ w4.frozen? ⟨H + 1 + 1, 2, none⟩ = false ∧ w4.frozen? ⟨H + 1 + 1, 3, none⟩ = false) := by
  refine ⟨⟨?_, ?_, ?_, ?_⟩, ⟨?_, ?_, ?_, ?_⟩, ⟨h.b1.free _ rfl, h.b1.free _ rfl, h.b1.free _ rfl, h.b1.free _ rfl⟩, ⟨h.b2.free _ rfl, h.b2.free _ rfl, h.b2.free _ rfl, h.b2.free _ rfl⟩⟩
  all_goals first | (rw [h.b1.cell]; rfl) | (rw [h.b2.cell]; rfl)

/-- The blocks of the two tellings. -/
def twoB (H : Nat) : Nat → Prop := fun k => k = H + 1 ∨ k = H + 1 + 1
theorem Begun.two {w w3 : World} {H : Nat} {o : Array Value} (hb : Begun w w3 H o) : H + 1 + 1 < w3.heap.size := hb.b2.lt

theorem do_fin {w w3 w4 w5 : World} {W W' : Wr} {H : Nat} {o : Array Value} {bs rv : Value} {ms : List Msg} {s : WA} {t : TdA} (hW : WrOk w W) (hb : Begun w w3 H o) (ho : Onward w3 W w4 W') (hs : W'.abs = s)
    (ht : TdOk w3.heap.size w4 bs rv ms t) (hn : ∀ k, TdFoot bs rv ms k → ¬ W'.foot k) (hu5 : Upd (twoB H) w4 w5) :
    DoP w W s t (.returned (.tuple #[.agg #[.int .i64 t.n, bs, .int .i64 t.err, rv], .bool true])) w5 := by
  have h2 := hb.two
  have hlt : ∀ k, W.foot k → k < H := fun k hk => by have := hW.lt k hk; have := hb.size; omega
  have hsz := hb.upd.size
  have hH := hb.size
  refine ⟨bs, rv, ms, W', rfl, ⟨ho.ok.upd hu5 fun k hk hd => ?_, ho.same, ?_, fun k hk => ?_⟩, hs, ?_, hn⟩
  · rcases ho.into k hk with h | h
    · have := hlt k h
      rcases hd with rfl | rfl <;> omega
    · rcases hd with rfl | rfl <;> omega
  · refine ((hb.upd.of_none _).trans_same ho.upd).trans hu5 fun k hk => .inr ?_
    rcases hk with rfl | rfl <;> omega
  · exact (ho.into k hk).imp id fun h => by omega
  · have h := ht.upd hu5 fun k hk hd => by
      have := (ht.lt k hk).1
      rcases hd with rfl | rfl <;> omega
    exact ⟨h.bytes.mono (by omega), h.row.mono (by omega), h.abs⟩

set_option maxRecDepth 100000 in
set_option maxHeartbeats 1000000 in
theorem do_2 (W : Wr) (n m k : Int) (v : Value) (l : List UInt8) (w : World) (hW : WrOk w W) :
    Calls Try.prog 27 #[.pointer (some ⟨W.p, 0, none⟩), .agg #[.int .i64 2, .int .i64 n, .int .i64 m, .int .i64 k, v]] w (DoP w W (W.abs.doOp ⟨2, n, m, k, l⟩).1 (W.abs.doOp ⟨2, n, m, k, l⟩).2) := by
  have e1 : W.abs.doOp ⟨2, n, m, k, l⟩ = (W.abs, ⟨0, (W.abs.look n).1, (W.abs.look n).2, []⟩) := by simp [WA.doOp]
  rw [e1]
  clear e1
  simp only
  have hc := fun (w' : World) (hu : Upd noBlk w w') => look_any W n w' (hW.upd hu fun _ _ h => h)
  replace hc := Lib.hid hc
  generalize W.abs.look n = r at *
  obtain ⟨rl, re⟩ := r
  simp only at *
  replace hW := Lib.hid hW
  go_enter Try.func27, Try.ntmps27
  go_wp2_with fail
  have hb := begun_of w #[.int .i64 2, .int .i64 n, .int .i64 m, .int .i64 k, v]
  unfold begun3 at hb
  generalize w.heap.size = H at hb ⊢
  generalize ((w.alloc (.cells #[.int .i64 2, .int .i64 n, .int .i64 m, .int .i64 k, v] 50)).alloc _).alloc _ = w3 at hb ⊢
  refine (hc.out w3 hb.upd).mono ?_
  rintro e w4 ⟨u, rfl, hown, hu⟩
  obtain ⟨A, c, rfl, -⟩ := own_form hown
  have ht := hb.tell hu fun _ h => h.elim
  replace hown := Lib.hid hown
  replace hu := Lib.hid hu
  obtain ⟨⟨a0, a1, a2, a3⟩, ⟨b0, b1, b2, b3⟩, ⟨f0, f1, f2, f3⟩, ⟨g0, g1, g2, g3⟩⟩ := ht.cells
  replace hb := Lib.hid hb
  clear ht
  go_wp2
  refine bodyPost_ret (v := .tuple #[.agg #[.int .i64 0, .slice A rl.length c, .int .i64 re, .slice none 0 0], .bool true]) (by simp [results, Try.results27, go_sem, a0, a1, a2, a3]) rfl ?_
  refine do_fin hW.out hb.out (Onward.of_none (hW.out.upd hb.out.upd fun _ _ h => h) hu.out) rfl ⟨hown.out, OwnMs.nil _ _, rfl⟩ ?_ ?_
  · rintro k (hk | hk | ⟨m, hm, _⟩) hf
    · have h1 := hown.out.ge k hk
      have h2 := hW.out.lt k hf
      have h3 := hb.out.upd.size
      omega
    · simp [Value.ownBlock] at hk
    · simp at hm
  · refine ((((((Upd.refl (twoB H) w4).setCell ?_ _).setCell ?_ _).setCell ?_ _).setCell ?_ _).setCell ?_ _).setCell ?_ _ <;> first | exact .inl (.inl rfl) | exact .inl (.inr rfl)

set_option maxRecDepth 100000 in
set_option maxHeartbeats 1000000 in
theorem do_3 (W : Wr) (n m k : Int) (v : Value) (l : List UInt8) (w : World) (hW : WrOk w W) :
    Calls Try.prog 27 #[.pointer (some ⟨W.p, 0, none⟩), .agg #[.int .i64 3, .int .i64 n, .int .i64 m, .int .i64 k, v]] w (DoP w W (W.abs.doOp ⟨3, n, m, k, l⟩).1 (W.abs.doOp ⟨3, n, m, k, l⟩).2) := by
  have e1 : W.abs.doOp ⟨3, n, m, k, l⟩ = ((W.abs.drop n).1, ⟨0, (W.abs.look n).1, (W.abs.look n).2, []⟩) := by simp [WA.doOp]
  rw [e1]
  clear e1
  simp only
  have hc := fun (w' : World) (hu : Upd noBlk w w') => take_any W n w' (hW.upd hu fun _ _ h => h)
  replace hc := Lib.hid hc
  generalize W.abs.look n = r at *
  obtain ⟨rl, re⟩ := r
  generalize (W.abs.drop n).1 = s' at *
  simp only at *
  have hlt := hW.lt
  replace hlt := Lib.hid hlt
  replace hW := Lib.hid hW
  go_enter Try.func27, Try.ntmps27
  go_wp2_with fail
  have hb := begun_of w #[.int .i64 3, .int .i64 n, .int .i64 m, .int .i64 k, v]
  unfold begun3 at hb
  generalize w.heap.size = H at hb ⊢
  generalize ((w.alloc (.cells #[.int .i64 3, .int .i64 n, .int .i64 m, .int .i64 k, v] 50)).alloc _).alloc _ = w3 at hb ⊢
  refine (hc.out w3 hb.upd).mono ?_
  rintro e w4 ⟨u, W', rfl, hown, ho, hs, hnf⟩
  obtain ⟨A, c, rfl, -⟩ := own_form hown
  have ht := hb.tell ho.upd fun k hk => by have := hlt.out k hk; have := hb.size; omega
  replace hown := Lib.hid hown
  replace ho := Lib.hid ho
  replace hs := Lib.hid hs
  replace hnf := Lib.hid hnf
  obtain ⟨⟨a0, a1, a2, a3⟩, ⟨b0, b1, b2, b3⟩, ⟨f0, f1, f2, f3⟩, ⟨g0, g1, g2, g3⟩⟩ := ht.cells
  replace hb := Lib.hid hb
  clear ht
  go_wp2
  refine bodyPost_ret (v := .tuple #[.agg #[.int .i64 0, .slice A rl.length c, .int .i64 re, .slice none 0 0], .bool true]) (by simp [results, Try.results27, go_sem, a0, a1, a2, a3]) rfl ?_
  refine do_fin hW.out hb.out ho.out hs.out ⟨hown.out, OwnMs.nil _ _, rfl⟩ ?_ ?_
  · rintro k (hk | hk | ⟨m, hm, _⟩)
    · exact hnf.out k hk
    · simp [Value.ownBlock] at hk
    · simp at hm
  · refine ((((((Upd.refl (twoB H) w4).setCell ?_ _).setCell ?_ _).setCell ?_ _).setCell ?_ _).setCell ?_ _).setCell ?_ _ <;> first | exact .inl (.inl rfl) | exact .inl (.inr rfl)

set_option maxRecDepth 100000 in
set_option maxHeartbeats 1000000 in
theorem do_4 (W : Wr) (n m k : Int) (v : Value) (l : List UInt8) (w : World) (hW : WrOk w W) :
    Calls Try.prog 27 #[.pointer (some ⟨W.p, 0, none⟩), .agg #[.int .i64 4, .int .i64 n, .int .i64 m, .int .i64 k, v]] w (DoP w W (W.abs.doOp ⟨4, n, m, k, l⟩).1 (W.abs.doOp ⟨4, n, m, k, l⟩).2) := by
  have e1 : W.abs.doOp ⟨4, n, m, k, l⟩ = ((W.abs.drop n).1, ⟨0, [], (W.abs.drop n).2, []⟩) := by simp [WA.doOp]
  rw [e1]
  clear e1
  simp only
  have hc := fun (w' : World) (hu : Upd noBlk w w') => drop_any W n w' (hW.upd hu fun _ _ h => h)
  replace hc := Lib.hid hc
  generalize W.abs.drop n = r at *
  obtain ⟨s', re⟩ := r
  simp only at *
  have hlt := hW.lt
  replace hlt := Lib.hid hlt
  replace hW := Lib.hid hW
  go_enter Try.func27, Try.ntmps27
  go_wp2_with fail
  have hb := begun_of w #[.int .i64 4, .int .i64 n, .int .i64 m, .int .i64 k, v]
  unfold begun3 at hb
  generalize w.heap.size = H at hb ⊢
  generalize ((w.alloc (.cells #[.int .i64 4, .int .i64 n, .int .i64 m, .int .i64 k, v] 50)).alloc _).alloc _ = w3 at hb ⊢
  refine (hc.out w3 hb.upd).mono ?_
  rintro e w4 ⟨W', rfl, ho, hs⟩
  have ht := hb.tell ho.upd fun k hk => by have := hlt.out k hk; have := hb.size; omega
  replace ho := Lib.hid ho
  replace hs := Lib.hid hs
  obtain ⟨⟨a0, a1, a2, a3⟩, ⟨b0, b1, b2, b3⟩, ⟨f0, f1, f2, f3⟩, ⟨g0, g1, g2, g3⟩⟩ := ht.cells
  replace hb := Lib.hid hb
  clear ht
  go_wp2
  refine bodyPost_ret (v := .tuple #[.agg #[.int .i64 0, .slice none 0 0, .int .i64 re, .slice none 0 0], .bool true]) (by simp [results, Try.results27, go_sem, a0, a1, a2, a3]) rfl ?_
  refine do_fin hW.out hb.out ho.out hs.out (TdOk.plain _ _ _ _) (fun k hk => (TdFoot.nil k hk).elim) ?_
  · refine (((((Upd.refl (twoB H) w4).setCell ?_ _).setCell ?_ _).setCell ?_ _).setCell ?_ _).setCell ?_ _ <;> first | exact .inl (.inl rfl) | exact .inl (.inr rfl)

set_option maxRecDepth 100000 in
set_option maxHeartbeats 1000000 in
theorem do_5 (W : Wr) (n m k : Int) (v : Value) (l : List UInt8) (w : World) (hW : WrOk w W) :
    Calls Try.prog 27 #[.pointer (some ⟨W.p, 0, none⟩), .agg #[.int .i64 5, .int .i64 n, .int .i64 m, .int .i64 k, v]] w (DoP w W (W.abs.doOp ⟨5, n, m, k, l⟩).1 (W.abs.doOp ⟨5, n, m, k, l⟩).2) := by
  have e1 : W.abs.doOp ⟨5, n, m, k, l⟩ = ((W.abs.copy n).1, ⟨(W.abs.copy n).2.1, [], (W.abs.copy n).2.2, []⟩) := by simp [WA.doOp]
  rw [e1]
  clear e1
  simp only
  have hc := fun (w' : World) (hu : Upd noBlk w w') => wcopy_any W n w' (hW.upd hu fun _ _ h => h)
  replace hc := Lib.hid hc
  generalize W.abs.copy n = r at *
  obtain ⟨s', rn, re⟩ := r
  simp only at *
  have hlt := hW.lt
  replace hlt := Lib.hid hlt
  replace hW := Lib.hid hW
  go_enter Try.func27, Try.ntmps27
  go_wp2_with fail
  have hb := begun_of w #[.int .i64 5, .int .i64 n, .int .i64 m, .int .i64 k, v]
  unfold begun3 at hb
  generalize w.heap.size = H at hb ⊢
  generalize ((w.alloc (.cells #[.int .i64 5, .int .i64 n, .int .i64 m, .int .i64 k, v] 50)).alloc _).alloc _ = w3 at hb ⊢
  refine (hc.out w3 hb.upd).mono ?_
  rintro e w4 ⟨W', rfl, ho, hs⟩
  have ht := hb.tell ho.upd fun k hk => by have := hlt.out k hk; have := hb.size; omega
  replace ho := Lib.hid ho
  replace hs := Lib.hid hs
  obtain ⟨⟨a0, a1, a2, a3⟩, ⟨b0, b1, b2, b3⟩, ⟨f0, f1, f2, f3⟩, ⟨g0, g1, g2, g3⟩⟩ := ht.cells
  replace hb := Lib.hid hb
  clear ht
  go_wp2
  refine bodyPost_ret (v := .tuple #[.agg #[.int .i64 rn, .slice none 0 0, .int .i64 re, .slice none 0 0], .bool true]) (by simp [results, Try.results27, go_sem, a0, a1, a2, a3]) rfl ?_
  refine do_fin hW.out hb.out ho.out hs.out (TdOk.plain _ _ _ _) (fun k hk => (TdFoot.nil k hk).elim) ?_
  · refine ((((((Upd.refl (twoB H) w4).setCell ?_ _).setCell ?_ _).setCell ?_ _).setCell ?_ _).setCell ?_ _).setCell ?_ _ <;> first | exact .inl (.inl rfl) | exact .inl (.inr rfl)

set_option maxRecDepth 100000 in
set_option maxHeartbeats 1000000 in
theorem do_6 (W : Wr) (n m k : Int) (v : Value) (l : List UInt8) (w : World) (hW : WrOk w W) :
    Calls Try.prog 27 #[.pointer (some ⟨W.p, 0, none⟩), .agg #[.int .i64 6, .int .i64 n, .int .i64 m, .int .i64 k, v]] w (DoP w W (W.abs.doOp ⟨6, n, m, k, l⟩).1 (W.abs.doOp ⟨6, n, m, k, l⟩).2) := by
  have e1 : W.abs.doOp ⟨6, n, m, k, l⟩ = ((W.abs.swap n m).1, ⟨0, [], (W.abs.swap n m).2, []⟩) := by simp [WA.doOp]
  rw [e1]
  clear e1
  simp only
  have hc := fun (w' : World) (hu : Upd noBlk w w') => swap_any W n m w' (hW.upd hu fun _ _ h => h)
  replace hc := Lib.hid hc
  generalize W.abs.swap n m = r at *
  obtain ⟨s', re⟩ := r
  simp only at *
  have hlt := hW.lt
  replace hlt := Lib.hid hlt
  replace hW := Lib.hid hW
  go_enter Try.func27, Try.ntmps27
  go_wp2_with fail
  have hb := begun_of w #[.int .i64 6, .int .i64 n, .int .i64 m, .int .i64 k, v]
  unfold begun3 at hb
  generalize w.heap.size = H at hb ⊢
  generalize ((w.alloc (.cells #[.int .i64 6, .int .i64 n, .int .i64 m, .int .i64 k, v] 50)).alloc _).alloc _ = w3 at hb ⊢
  refine (hc.out w3 hb.upd).mono ?_
  rintro e w4 ⟨W', rfl, ho, hs⟩
  have ht := hb.tell ho.upd fun k hk => by have := hlt.out k hk; have := hb.size; omega
  replace ho := Lib.hid ho
  replace hs := Lib.hid hs
  obtain ⟨⟨a0, a1, a2, a3⟩, ⟨b0, b1, b2, b3⟩, ⟨f0, f1, f2, f3⟩, ⟨g0, g1, g2, g3⟩⟩ := ht.cells
  replace hb := Lib.hid hb
  clear ht
  go_wp2
  refine bodyPost_ret (v := .tuple #[.agg #[.int .i64 0, .slice none 0 0, .int .i64 re, .slice none 0 0], .bool true]) (by simp [results, Try.results27, go_sem, a0, a1, a2, a3]) rfl ?_
  refine do_fin hW.out hb.out ho.out hs.out (TdOk.plain _ _ _ _) (fun k hk => (TdFoot.nil k hk).elim) ?_
  · refine (((((Upd.refl (twoB H) w4).setCell ?_ _).setCell ?_ _).setCell ?_ _).setCell ?_ _).setCell ?_ _ <;> first | exact .inl (.inl rfl) | exact .inl (.inr rfl)

set_option maxRecDepth 100000 in
set_option maxHeartbeats 1000000 in
theorem do_7 (W : Wr) (n m k : Int) (v : Value) (l : List UInt8) (w : World) (hW : WrOk w W) :
    Calls Try.prog 27 #[.pointer (some ⟨W.p, 0, none⟩), .agg #[.int .i64 7, .int .i64 n, .int .i64 m, .int .i64 k, v]] w (DoP w W (W.abs.doOp ⟨7, n, m, k, l⟩).1 (W.abs.doOp ⟨7, n, m, k, l⟩).2) := by
  have e1 : W.abs.doOp ⟨7, n, m, k, l⟩ = ((W.abs.flip n m k).1, ⟨0, [], (W.abs.flip n m k).2, []⟩) := by simp [WA.doOp]
  rw [e1]
  clear e1
  simp only
  have hc := fun (w' : World) (hu : Upd noBlk w w') => flip_any W n m k w' (hW.upd hu fun _ _ h => h)
  replace hc := Lib.hid hc
  generalize W.abs.flip n m k = r at *
  obtain ⟨s', re⟩ := r
  simp only at *
  have hlt := hW.lt
  replace hlt := Lib.hid hlt
  replace hW := Lib.hid hW
  go_enter Try.func27, Try.ntmps27
  go_wp2_with fail
  have hb := begun_of w #[.int .i64 7, .int .i64 n, .int .i64 m, .int .i64 k, v]
  unfold begun3 at hb
  generalize w.heap.size = H at hb ⊢
  generalize ((w.alloc (.cells #[.int .i64 7, .int .i64 n, .int .i64 m, .int .i64 k, v] 50)).alloc _).alloc _ = w3 at hb ⊢
  refine (hc.out w3 hb.upd).mono ?_
  rintro e w4 ⟨W', rfl, ho, hs⟩
  have ht := hb.tell ho.upd fun k hk => by have := hlt.out k hk; have := hb.size; omega
  replace ho := Lib.hid ho
  replace hs := Lib.hid hs
  obtain ⟨⟨a0, a1, a2, a3⟩, ⟨b0, b1, b2, b3⟩, ⟨f0, f1, f2, f3⟩, ⟨g0, g1, g2, g3⟩⟩ := ht.cells
  replace hb := Lib.hid hb
  clear ht
  go_wp2
  refine bodyPost_ret (v := .tuple #[.agg #[.int .i64 0, .slice none 0 0, .int .i64 re, .slice none 0 0], .bool true]) (by simp [results, Try.results27, go_sem, a0, a1, a2, a3]) rfl ?_
  refine do_fin hW.out hb.out ho.out hs.out (TdOk.plain _ _ _ _) (fun k hk => (TdFoot.nil k hk).elim) ?_
  · refine (((((Upd.refl (twoB H) w4).setCell ?_ _).setCell ?_ _).setCell ?_ _).setCell ?_ _).setCell ?_ _ <;> first | exact .inl (.inl rfl) | exact .inl (.inr rfl)

set_option maxRecDepth 100000 in
set_option maxHeartbeats 1000000 in
theorem do_8 (W : Wr) (n m k : Int) (v : Value) (l : List UInt8) (w : World) (hW : WrOk w W) :
    Calls Try.prog 27 #[.pointer (some ⟨W.p, 0, none⟩), .agg #[.int .i64 8, .int .i64 n, .int .i64 m, .int .i64 k, v]] w (DoP w W (W.abs.doOp ⟨8, n, m, k, l⟩).1 (W.abs.doOp ⟨8, n, m, k, l⟩).2) := by
  have e1 : W.abs.doOp ⟨8, n, m, k, l⟩ = ((W.abs.cut n m).1, ⟨0, [], (W.abs.cut n m).2, []⟩) := by simp [WA.doOp]
  rw [e1]
  clear e1
  simp only
  have hc := fun (w' : World) (hu : Upd noBlk w w') => cut_any W n m w' (hW.upd hu fun _ _ h => h)
  replace hc := Lib.hid hc
  generalize W.abs.cut n m = r at *
  obtain ⟨s', re⟩ := r
  simp only at *
  have hlt := hW.lt
  replace hlt := Lib.hid hlt
  replace hW := Lib.hid hW
  go_enter Try.func27, Try.ntmps27
  go_wp2_with fail
  have hb := begun_of w #[.int .i64 8, .int .i64 n, .int .i64 m, .int .i64 k, v]
  unfold begun3 at hb
  generalize w.heap.size = H at hb ⊢
  generalize ((w.alloc (.cells #[.int .i64 8, .int .i64 n, .int .i64 m, .int .i64 k, v] 50)).alloc _).alloc _ = w3 at hb ⊢
  refine (hc.out w3 hb.upd).mono ?_
  rintro e w4 ⟨W', rfl, ho, hs⟩
  have ht := hb.tell ho.upd fun k hk => by have := hlt.out k hk; have := hb.size; omega
  replace ho := Lib.hid ho
  replace hs := Lib.hid hs
  obtain ⟨⟨a0, a1, a2, a3⟩, ⟨b0, b1, b2, b3⟩, ⟨f0, f1, f2, f3⟩, ⟨g0, g1, g2, g3⟩⟩ := ht.cells
  replace hb := Lib.hid hb
  clear ht
  go_wp2
  refine bodyPost_ret (v := .tuple #[.agg #[.int .i64 0, .slice none 0 0, .int .i64 re, .slice none 0 0], .bool true]) (by simp [results, Try.results27, go_sem, a0, a1, a2, a3]) rfl ?_
  refine do_fin hW.out hb.out ho.out hs.out (TdOk.plain _ _ _ _) (fun k hk => (TdFoot.nil k hk).elim) ?_
  · refine (((((Upd.refl (twoB H) w4).setCell ?_ _).setCell ?_ _).setCell ?_ _).setCell ?_ _).setCell ?_ _ <;> first | exact .inl (.inl rfl) | exact .inl (.inr rfl)

set_option maxRecDepth 100000 in
set_option maxHeartbeats 1000000 in
theorem do_9 (W : Wr) (n m k : Int) (v : Value) (l : List UInt8) (w : World) (hW : WrOk w W) :
    Calls Try.prog 27 #[.pointer (some ⟨W.p, 0, none⟩), .agg #[.int .i64 9, .int .i64 n, .int .i64 m, .int .i64 k, v]] w (DoP w W (W.abs.doOp ⟨9, n, m, k, l⟩).1 (W.abs.doOp ⟨9, n, m, k, l⟩).2) := by
  have e1 : W.abs.doOp ⟨9, n, m, k, l⟩ = (W.abs, ⟨W.abs.next, [], 0, []⟩) := by simp [WA.doOp]
  rw [e1]
  clear e1
  simp only
  have hc := fun (w' : World) (hu : Upd noBlk w w') => next_any W w' (hW.upd hu fun _ _ h => h)
  replace hc := Lib.hid hc
  generalize W.abs.next = r at *
  replace hW := Lib.hid hW
  go_enter Try.func27, Try.ntmps27
  go_wp2_with fail
  have hb := begun_of w #[.int .i64 9, .int .i64 n, .int .i64 m, .int .i64 k, v]
  unfold begun3 at hb
  generalize w.heap.size = H at hb ⊢
  generalize ((w.alloc (.cells #[.int .i64 9, .int .i64 n, .int .i64 m, .int .i64 k, v] 50)).alloc _).alloc _ = w3 at hb ⊢
  refine (hc.out w3 hb.upd).mono ?_
  rintro e w4 ⟨rfl, rfl⟩
  have ht := hb.tell (Upd.refl noBlk _) fun _ h => h.elim
  obtain ⟨⟨a0, a1, a2, a3⟩, ⟨b0, b1, b2, b3⟩, ⟨f0, f1, f2, f3⟩, ⟨g0, g1, g2, g3⟩⟩ := ht.cells
  replace hb := Lib.hid hb
  clear ht
  go_wp2
  refine bodyPost_ret (v := .tuple #[.agg #[.int .i64 r, .slice none 0 0, .int .i64 0, .slice none 0 0], .bool true]) (by simp [results, Try.results27, go_sem, a0, a1, a2, a3]) rfl ?_
  refine do_fin hW.out hb.out (Onward.refl (hW.out.upd hb.out.upd fun _ _ h => h)) rfl (TdOk.plain _ _ _ _) (fun k hk => (TdFoot.nil k hk).elim) ?_
  · refine (((((Upd.refl (twoB H) _).setCell ?_ _).setCell ?_ _).setCell ?_ _).setCell ?_ _).setCell ?_ _ <;> first | exact .inl (.inl rfl) | exact .inl (.inr rfl)

set_option maxRecDepth 100000 in
set_option maxHeartbeats 1000000 in
theorem do_10 (W : Wr) (n m k : Int) (v : Value) (l : List UInt8) (w : World) (hW : WrOk w W) :
    Calls Try.prog 27 #[.pointer (some ⟨W.p, 0, none⟩), .agg #[.int .i64 10, .int .i64 n, .int .i64 m, .int .i64 k, v]] w (DoP w W (W.abs.doOp ⟨10, n, m, k, l⟩).1 (W.abs.doOp ⟨10, n, m, k, l⟩).2) := by
  have e1 : W.abs.doOp ⟨10, n, m, k, l⟩ = (W.abs, ⟨0, [], 0, W.abs.row⟩) := by simp [WA.doOp]
  rw [e1]
  clear e1
  simp only
  have hc := fun (w' : World) (hu : Upd noBlk w w') => waiting_any W w' (hW.upd hu fun _ _ h => h)
  replace hc := Lib.hid hc
  generalize W.abs.row = r at *
  replace hW := Lib.hid hW
  go_enter Try.func27, Try.ntmps27
  go_wp2_with fail
  have hb := begun_of w #[.int .i64 10, .int .i64 n, .int .i64 m, .int .i64 k, v]
  unfold begun3 at hb
  generalize w.heap.size = H at hb ⊢
  generalize ((w.alloc (.cells #[.int .i64 10, .int .i64 n, .int .i64 m, .int .i64 k, v] 50)).alloc _).alloc _ = w3 at hb ⊢
  refine (hc.out w3 hb.upd).mono ?_
  rintro e w4 ⟨u, ms, rfl, hown, hm, hu⟩
  obtain ⟨A, c, rfl, -⟩ := own_form hown.row
  have ht := hb.tell hu fun _ h => h.elim
  replace hown := Lib.hid hown
  replace hu := Lib.hid hu
  replace hm := Lib.hid hm
  obtain ⟨⟨a0, a1, a2, a3⟩, ⟨b0, b1, b2, b3⟩, ⟨f0, f1, f2, f3⟩, ⟨g0, g1, g2, g3⟩⟩ := ht.cells
  replace hb := Lib.hid hb
  clear ht
  go_wp2
  refine bodyPost_ret (v := .tuple #[.agg #[.int .i64 0, .slice none 0 0, .int .i64 0, .slice A ms.length c], .bool true]) (by simp [results, Try.results27, go_sem, a0, a1, a2, a3]) rfl ?_
  refine do_fin hW.out hb.out (Onward.of_none (hW.out.upd hb.out.upd fun _ _ h => h) hu.out) rfl ⟨World.ownsRow_nil _ _ _ _, hown.out, hm.out⟩ ?_ ?_
  · rintro k (hk | hk) hf
    · simp [Value.ownBlock] at hk
    · have h1 := (hown.out.lt k hk).1
      have h2 := hW.out.lt k hf
      have h3 := hb.out.upd.size
      omega
  · refine (((((Upd.refl (twoB H) w4).setCell ?_ _).setCell ?_ _).setCell ?_ _).setCell ?_ _).setCell ?_ _ <;> first | exact .inl (.inl rfl) | exact .inl (.inr rfl)

set_option maxRecDepth 100000 in
set_option maxHeartbeats 1000000 in
theorem do_else (W : Wr) (kd n m k : Int) (v : Value) (l : List UInt8) (w : World) (hW : WrOk w W) (hk : kd < 1 ∨ 10 < kd) :
    Calls Try.prog 27 #[.pointer (some ⟨W.p, 0, none⟩), .agg #[.int .i64 kd, .int .i64 n, .int .i64 m, .int .i64 k, v]] w (DoP w W (W.abs.doOp ⟨kd, n, m, k, l⟩).1 (W.abs.doOp ⟨kd, n, m, k, l⟩).2) := by
  have e1 : W.abs.doOp ⟨kd, n, m, k, l⟩ = (W.abs, ⟨0, [], 0, []⟩) := by
    unfold WA.doOp
    rw [if_neg (by simp only; omega), if_neg (by simp only; omega), if_neg (by simp only; omega), if_neg (by simp only; omega), if_neg (by simp only; omega), if_neg (by simp only; omega), if_neg (by simp only; omega), if_neg (by simp only; omega), if_neg (by simp only; omega), if_neg (by simp only; omega)]
  rw [e1]
  clear e1
  simp only
  have q1 : (kd == 1) = false := beq_eq_false_iff_ne.2 (by omega)
  have q2 : (kd == 2) = false := beq_eq_false_iff_ne.2 (by omega)
  have q3 : (kd == 3) = false := beq_eq_false_iff_ne.2 (by omega)
  have q4 : (kd == 4) = false := beq_eq_false_iff_ne.2 (by omega)
  have q5 : (kd == 5) = false := beq_eq_false_iff_ne.2 (by omega)
  have q6 : (kd == 6) = false := beq_eq_false_iff_ne.2 (by omega)
  have q7 : (kd == 7) = false := beq_eq_false_iff_ne.2 (by omega)
  have q8 : (kd == 8) = false := beq_eq_false_iff_ne.2 (by omega)
  have q9 : (kd == 9) = false := beq_eq_false_iff_ne.2 (by omega)
  have q10 : (kd == 10) = false := beq_eq_false_iff_ne.2 (by omega)
  clear hk
  replace hW := Lib.hid hW
  have hb := begun_of w #[.int .i64 kd, .int .i64 n, .int .i64 m, .int .i64 k, v]
  replace hb := Lib.hid hb
  go_enter Try.func27, Try.ntmps27
  go_wp2
  refine bodyPost_ret (v := .tuple #[.agg #[.int .i64 0, .slice none 0 0, .int .i64 0, .slice none 0 0], .bool true]) (by simp [results, Try.results27, go_sem]) rfl ?_
  refine do_fin hW.out hb.out (Onward.refl (hW.out.upd hb.out.upd fun _ _ h => h)) rfl (TdOk.plain _ _ 0 0) (fun k hk => (TdFoot.nil k hk).elim) ?_
  exact Upd.refl _ _

end Go.Proofs.Ytfnlemdlngdaiaa
