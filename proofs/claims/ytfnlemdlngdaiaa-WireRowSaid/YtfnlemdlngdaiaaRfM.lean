/-
  The law's 'must': one call of the reference, told.
-/
import Derived.Test.YtfnlemdlngdaiaaRfE
namespace Go.Proofs.Ytfnlemdlngdaiaa
open Go.RowKit

/-- The reference's answer, as plain data. -/
def RA.mustOp (s : RA) (o : OpD) : RA × TdA :=
  if o.kind = 1 then ((s.send o.bytes).1, ⟨(s.send o.bytes).2.1, [], (s.send o.bytes).2.2, []⟩)
  else if o.kind = 2 then (s, ⟨0, (s.look o.n).1, (s.look o.n).2, []⟩)
  else if o.kind = 3 then ((s.drop o.n).1, ⟨0, (s.look o.n).1, (s.look o.n).2, []⟩)
  else if o.kind = 4 then ((s.drop o.n).1, ⟨0, [], (s.drop o.n).2, []⟩)
  else if o.kind = 5 then ((s.copy o.n).1, ⟨(s.copy o.n).2.1, [], (s.copy o.n).2.2, []⟩)
  else if o.kind = 6 then ((s.swap o.n o.m).1, ⟨0, [], (s.swap o.n o.m).2, []⟩)
  else if o.kind = 7 then ((s.flip o.n o.m o.k).1, ⟨0, [], (s.flip o.n o.m o.k).2, []⟩)
  else if o.kind = 8 then ((s.cut o.n o.m).1, ⟨0, [], (s.cut o.n o.m).2, []⟩)
  else if o.kind = 9 then (s, ⟨(s.behind 0 : Nat), [], 0, []⟩)
  else if o.kind = 10 then (s, ⟨0, [], 0, s.waiting⟩)
  else (s, ⟨0, [], 0, []⟩)

def MustP (w : World) (R : Rf) (s : RA) (t : TdA) (e : Ending) (w' : World) : Prop :=
  ∃ bs rv ms R', e = .returned (.agg #[.int .i64 t.n, bs, .int .i64 t.err, rv]) ∧ ROn w R w' R' ∧ R'.abs = s ∧ TdOk w.heap.size w' bs rv ms t ∧ ∀ k, TdFoot bs rv ms k → ¬ R'.foot k

theorem must_fin {w w3 w4 w5 : World} {R R' : Rf} {H : Nat} {o : Array Value} {bs rv : Value} {ms : List Msg} {s : RA} {t : TdA} (hR : RfOk w R) (hb : Begun w w3 H o) (ho : ROn w3 R w4 R') (hs : R'.abs = s)
    (ht : TdOk w3.heap.size w4 bs rv ms t) (hn : ∀ k, TdFoot bs rv ms k → ¬ R'.foot k) (hu5 : Upd (twoB H) w4 w5) :
    MustP w R s t (.returned (.agg #[.int .i64 t.n, bs, .int .i64 t.err, rv])) w5 := by
  have h2 := hb.two
  have hlt : ∀ k, R.foot k → k < H := fun k hk => by have := hR.lt k hk; have := hb.size; omega
  have hsz := hb.upd.size
  have hH := hb.size
  refine ⟨bs, rv, ms, R', rfl, ⟨ho.ok.upd hu5 fun k hk hd => ?_, ho.same, ?_, fun k hk => ?_⟩, hs, ?_, hn⟩
  · rcases ho.into k hk with h | h
    · have := hlt k h
      rcases hd with rfl | rfl <;> omega
    · rcases hd with rfl | rfl <;> omega
  · refine ((hb.upd.of_none _).trans_same ho.upd).trans hu5 fun k hk => .inr ?_
    rcases hk with rfl | rfl <;> omega
  · exact (ho.into k hk).imp id fun h => by omega
  · have h := ht.upd hu5 fun k hk hd => by
      have := (ht.lt k hk).1
      rcases hd with rfl | rfl <;> omega
    exact ⟨h.bytes.mono (by omega), h.row.mono (by omega), h.abs⟩

set_option maxRecDepth 100000 in
set_option maxHeartbeats 1000000 in
theorem must_2 (R : Rf) (n m k : Int) (v : Value) (l : List UInt8) (w : World) (hR : RfOk w R) :
    Calls Try.prog 28 #[.pointer (some ⟨R.p, 0, none⟩), .agg #[.int .i64 2, .int .i64 n, .int .i64 m, .int .i64 k, v]] w (MustP w R (R.abs.mustOp ⟨2, n, m, k, l⟩).1 (R.abs.mustOp ⟨2, n, m, k, l⟩).2) := by
  have e1 : R.abs.mustOp ⟨2, n, m, k, l⟩ = (R.abs, ⟨0, (R.abs.look n).1, (R.abs.look n).2, []⟩) := by simp [RA.mustOp]
  rw [e1]
  clear e1
  simp only
  have hc := fun (w' : World) (hu : Upd noBlk w w') => rlook_any R n w' (hR.keep hu)
  replace hc := Lib.hid hc
  generalize R.abs.look n = r at *
  obtain ⟨rl, re⟩ := r
  simp only at *
  replace hR := Lib.hid hR
  go_enter Try.func28, Try.ntmps28
  go_wp2_with fail
  have hb := begun_of w #[.int .i64 2, .int .i64 n, .int .i64 m, .int .i64 k, v]
  unfold begun3 at hb
  generalize w.heap.size = H at hb ⊢
  generalize ((w.alloc (.cells #[.int .i64 2, .int .i64 n, .int .i64 m, .int .i64 k, v] 50)).alloc _).alloc _ = w3 at hb ⊢
  refine (hc.out w3 hb.upd).mono ?_
  rintro e w4 ⟨u, rfl, hown, hu⟩
  obtain ⟨A, c, rfl, -⟩ := own_form hown
  have ht := hb.tell hu fun _ h => h.elim
  replace hown := Lib.hid hown
  replace hu := Lib.hid hu
  obtain ⟨⟨a0, a1, a2, a3⟩, ⟨b0, b1, b2, b3⟩, ⟨f0, f1, f2, f3⟩, ⟨g0, g1, g2, g3⟩⟩ := ht.cells
  replace hb := Lib.hid hb
  clear ht
  go_wp2
  refine bodyPost_ret (v := .agg #[.int .i64 0, .slice A rl.length c, .int .i64 re, .slice none 0 0]) (by simp [results, Try.results28, go_sem, a0, a1, a2, a3]) rfl ?_
  refine must_fin hR.out hb.out (ROn.of_none (hR.out.keep hb.out.upd) hu.out) rfl ⟨hown.out, OwnMs.nil _ _, rfl⟩ ?_ ?_
  · rintro k (hk | hk | ⟨m, hm, _⟩) hf
    · have h1 := hown.out.ge k hk
      have h2 := hR.out.lt k hf
      have h3 := hb.out.upd.size
      omega
    · simp [Value.ownBlock] at hk
    · simp at hm
  · refine ((((((Upd.refl (twoB H) _).setCell ?_ _).setCell ?_ _).setCell ?_ _).setCell ?_ _).setCell ?_ _).setCell ?_ _ <;> first | exact .inl (.inl rfl) | exact .inl (.inr rfl)

set_option maxRecDepth 100000 in
set_option maxHeartbeats 1000000 in
theorem must_3 (R : Rf) (n m k : Int) (v : Value) (l : List UInt8) (w : World) (hR : RfOk w R) :
    Calls Try.prog 28 #[.pointer (some ⟨R.p, 0, none⟩), .agg #[.int .i64 3, .int .i64 n, .int .i64 m, .int .i64 k, v]] w (MustP w R (R.abs.mustOp ⟨3, n, m, k, l⟩).1 (R.abs.mustOp ⟨3, n, m, k, l⟩).2) := by
  have e1 : R.abs.mustOp ⟨3, n, m, k, l⟩ = ((R.abs.drop n).1, ⟨0, (R.abs.look n).1, (R.abs.look n).2, []⟩) := by simp [RA.mustOp]
  rw [e1]
  clear e1
  simp only
  have hc := fun (w' : World) (hu : Upd noBlk w w') => rtake_any R n w' (hR.keep hu)
  replace hc := Lib.hid hc
  generalize R.abs.look n = r at *
  obtain ⟨rl, re⟩ := r
  generalize (R.abs.drop n).1 = s' at *
  simp only at *
  have hlt := hR.lt
  replace hlt := Lib.hid hlt
  replace hR := Lib.hid hR
  go_enter Try.func28, Try.ntmps28
  go_wp2_with fail
  have hb := begun_of w #[.int .i64 3, .int .i64 n, .int .i64 m, .int .i64 k, v]
  unfold begun3 at hb
  generalize w.heap.size = H at hb ⊢
  generalize ((w.alloc (.cells #[.int .i64 3, .int .i64 n, .int .i64 m, .int .i64 k, v] 50)).alloc _).alloc _ = w3 at hb ⊢
  refine (hc.out w3 hb.upd).mono ?_
  rintro e w4 ⟨u, R', rfl, hown, ho, hs, hnf⟩
  obtain ⟨A, c, rfl, -⟩ := own_form hown
  have ht := hb.tell ho.upd fun k hk => by have := hlt.out k hk; have := hb.size; omega
  replace hown := Lib.hid hown
  replace ho := Lib.hid ho
  replace hs := Lib.hid hs
  replace hnf := Lib.hid hnf
  obtain ⟨⟨a0, a1, a2, a3⟩, ⟨b0, b1, b2, b3⟩, ⟨f0, f1, f2, f3⟩, ⟨g0, g1, g2, g3⟩⟩ := ht.cells
  replace hb := Lib.hid hb
  clear ht
  go_wp2
  refine bodyPost_ret (v := .agg #[.int .i64 0, .slice A rl.length c, .int .i64 re, .slice none 0 0]) (by simp [results, Try.results28, go_sem, a0, a1, a2, a3]) rfl ?_
  refine must_fin hR.out hb.out ho.out hs.out ⟨hown.out, OwnMs.nil _ _, rfl⟩ ?_ ?_
  · rintro k (hk | hk | ⟨m, hm, _⟩)
    · exact hnf.out k hk
    · simp [Value.ownBlock] at hk
    · simp at hm
  · refine ((((((Upd.refl (twoB H) _).setCell ?_ _).setCell ?_ _).setCell ?_ _).setCell ?_ _).setCell ?_ _).setCell ?_ _ <;> first | exact .inl (.inl rfl) | exact .inl (.inr rfl)

set_option maxRecDepth 100000 in
set_option maxHeartbeats 1000000 in
theorem must_1 (R : Rf) (n m k : Int) (v : Value) (l : List UInt8) (w : World) (hR : RfOk w R) (hv : RdB w v l) (hne : l ≠ [] → v.ownBlock ≠ some R.p) :
    Calls Try.prog 28 #[.pointer (some ⟨R.p, 0, none⟩), .agg #[.int .i64 1, .int .i64 n, .int .i64 m, .int .i64 k, v]] w (MustP w R (R.abs.mustOp ⟨1, n, m, k, l⟩).1 (R.abs.mustOp ⟨1, n, m, k, l⟩).2) := by
  have e1 : R.abs.mustOp ⟨1, n, m, k, l⟩ = ((R.abs.send l).1, ⟨(R.abs.send l).2.1, [], (R.abs.send l).2.2, []⟩) := by simp [RA.mustOp]
  rw [e1]
  clear e1
  simp only
  obtain ⟨vA, vc, rfl, -⟩ := nil_empty hv
  have hc := fun (w' : World) (hu : Upd noBlk w w') => rsend_any R (.slice vA l.length vc) l w' (hR.keep hu) (hv.none hu) hne
  replace hc := Lib.hid hc
  generalize R.abs.send l = r at *
  obtain ⟨s', rn, re⟩ := r
  simp only at *
  have hlt := hR.lt
  replace hlt := Lib.hid hlt
  clear hv hne
  replace hR := Lib.hid hR
  go_enter Try.func28, Try.ntmps28
  go_wp2_with fail
  have hb := begun_of w #[.int .i64 1, .int .i64 n, .int .i64 m, .int .i64 k, (.slice vA l.length vc)]
  unfold begun3 at hb
  generalize w.heap.size = H at hb ⊢
  generalize ((w.alloc (.cells #[.int .i64 1, .int .i64 n, .int .i64 m, .int .i64 k, (.slice vA l.length vc)] 50)).alloc _).alloc _ = w3 at hb ⊢
  refine (hc.out w3 hb.upd).mono ?_
  rintro e w4 ⟨R', rfl, ho, hs⟩
  have ht := hb.tell ho.upd fun k hk => by have := hlt.out k hk; have := hb.size; omega
  replace ho := Lib.hid ho
  replace hs := Lib.hid hs
  obtain ⟨⟨a0, a1, a2, a3⟩, ⟨b0, b1, b2, b3⟩, ⟨f0, f1, f2, f3⟩, ⟨g0, g1, g2, g3⟩⟩ := ht.cells
  replace hb := Lib.hid hb
  clear ht
  go_wp2
  refine bodyPost_ret (v := .agg #[.int .i64 rn, .slice none 0 0, .int .i64 re, .slice none 0 0]) (by simp [results, Try.results28, go_sem, a0, a1, a2, a3]) rfl ?_
  refine must_fin hR.out hb.out ho.out hs.out (TdOk.plain _ _ _ _) (fun k hk => (TdFoot.nil k hk).elim) ?_
  · refine ((((((Upd.refl (twoB H) _).setCell ?_ _).setCell ?_ _).setCell ?_ _).setCell ?_ _).setCell ?_ _).setCell ?_ _ <;> first | exact .inl (.inl rfl) | exact .inl (.inr rfl)

set_option maxRecDepth 100000 in
set_option maxHeartbeats 1000000 in
theorem must_4 (R : Rf) (n m k : Int) (v : Value) (l : List UInt8) (w : World) (hR : RfOk w R) :
    Calls Try.prog 28 #[.pointer (some ⟨R.p, 0, none⟩), .agg #[.int .i64 4, .int .i64 n, .int .i64 m, .int .i64 k, v]] w (MustP w R (R.abs.mustOp ⟨4, n, m, k, l⟩).1 (R.abs.mustOp ⟨4, n, m, k, l⟩).2) := by
  have e1 : R.abs.mustOp ⟨4, n, m, k, l⟩ = ((R.abs.drop n).1, ⟨0, [], (R.abs.drop n).2, []⟩) := by simp [RA.mustOp]
  rw [e1]
  clear e1
  simp only
  have hc := fun (w' : World) (hu : Upd noBlk w w') => rdrop_any R n w' (hR.keep hu)
  replace hc := Lib.hid hc
  generalize R.abs.drop n = r at *
  obtain ⟨s', re⟩ := r
  simp only at *
  have hlt := hR.lt
  replace hlt := Lib.hid hlt
  replace hR := Lib.hid hR
  go_enter Try.func28, Try.ntmps28
  go_wp2_with fail
  have hb := begun_of w #[.int .i64 4, .int .i64 n, .int .i64 m, .int .i64 k, v]
  unfold begun3 at hb
  generalize w.heap.size = H at hb ⊢
  generalize ((w.alloc (.cells #[.int .i64 4, .int .i64 n, .int .i64 m, .int .i64 k, v] 50)).alloc _).alloc _ = w3 at hb ⊢
  refine (hc.out w3 hb.upd).mono ?_
  rintro e w4 ⟨R', rfl, ho, hs⟩
  have ht := hb.tell ho.upd fun k hk => by have := hlt.out k hk; have := hb.size; omega
  replace ho := Lib.hid ho
  replace hs := Lib.hid hs
  obtain ⟨⟨a0, a1, a2, a3⟩, ⟨b0, b1, b2, b3⟩, ⟨f0, f1, f2, f3⟩, ⟨g0, g1, g2, g3⟩⟩ := ht.cells
  replace hb := Lib.hid hb
  clear ht
  go_wp2
  refine bodyPost_ret (v := .agg #[.int .i64 0, .slice none 0 0, .int .i64 re, .slice none 0 0]) (by simp [results, Try.results28, go_sem, a0, a1, a2, a3]) rfl ?_
  refine must_fin hR.out hb.out ho.out hs.out (TdOk.plain _ _ _ _) (fun k hk => (TdFoot.nil k hk).elim) ?_
  · refine (((((Upd.refl (twoB H) _).setCell ?_ _).setCell ?_ _).setCell ?_ _).setCell ?_ _).setCell ?_ _ <;> first | exact .inl (.inl rfl) | exact .inl (.inr rfl)

set_option maxRecDepth 100000 in
set_option maxHeartbeats 1000000 in
theorem must_5 (R : Rf) (n m k : Int) (v : Value) (l : List UInt8) (w : World) (hR : RfOk w R) :
    Calls Try.prog 28 #[.pointer (some ⟨R.p, 0, none⟩), .agg #[.int .i64 5, .int .i64 n, .int .i64 m, .int .i64 k, v]] w (MustP w R (R.abs.mustOp ⟨5, n, m, k, l⟩).1 (R.abs.mustOp ⟨5, n, m, k, l⟩).2) := by
  have e1 : R.abs.mustOp ⟨5, n, m, k, l⟩ = ((R.abs.copy n).1, ⟨(R.abs.copy n).2.1, [], (R.abs.copy n).2.2, []⟩) := by simp [RA.mustOp]
  rw [e1]
  clear e1
  simp only
  have hc := fun (w' : World) (hu : Upd noBlk w w') => rcpy_any R n w' (hR.keep hu)
  replace hc := Lib.hid hc
  generalize R.abs.copy n = r at *
  obtain ⟨s', rn, re⟩ := r
  simp only at *
  have hlt := hR.lt
  replace hlt := Lib.hid hlt
  replace hR := Lib.hid hR
  go_enter Try.func28, Try.ntmps28
  go_wp2_with fail
  have hb := begun_of w #[.int .i64 5, .int .i64 n, .int .i64 m, .int .i64 k, v]
  unfold begun3 at hb
  generalize w.heap.size = H at hb ⊢
  generalize ((w.alloc (.cells #[.int .i64 5, .int .i64 n, .int .i64 m, .int .i64 k, v] 50)).alloc _).alloc _ = w3 at hb ⊢
  refine (hc.out w3 hb.upd).mono ?_
  rintro e w4 ⟨R', rfl, ho, hs⟩
  have ht := hb.tell ho.upd fun k hk => by have := hlt.out k hk; have := hb.size; omega
  replace ho := Lib.hid ho
  replace hs := Lib.hid hs
  obtain ⟨⟨a0, a1, a2, a3⟩, ⟨b0, b1, b2, b3⟩, ⟨f0, f1, f2, f3⟩, ⟨g0, g1, g2, g3⟩⟩ := ht.cells
  replace hb := Lib.hid hb
  clear ht
  go_wp2
  refine bodyPost_ret (v := .agg #[.int .i64 rn, .slice none 0 0, .int .i64 re, .slice none 0 0]) (by simp [results, Try.results28, go_sem, a0, a1, a2, a3]) rfl ?_
  refine must_fin hR.out hb.out ho.out hs.out (TdOk.plain _ _ _ _) (fun k hk => (TdFoot.nil k hk).elim) ?_
  · refine ((((((Upd.refl (twoB H) _).setCell ?_ _).setCell ?_ _).setCell ?_ _).setCell ?_ _).setCell ?_ _).setCell ?_ _ <;> first | exact .inl (.inl rfl) | exact .inl (.inr rfl)

set_option maxRecDepth 100000 in
set_option maxHeartbeats 1000000 in
theorem must_6 (R : Rf) (n m k : Int) (v : Value) (l : List UInt8) (w : World) (hR : RfOk w R) :
    Calls Try.prog 28 #[.pointer (some ⟨R.p, 0, none⟩), .agg #[.int .i64 6, .int .i64 n, .int .i64 m, .int .i64 k, v]] w (MustP w R (R.abs.mustOp ⟨6, n, m, k, l⟩).1 (R.abs.mustOp ⟨6, n, m, k, l⟩).2) := by
  have e1 : R.abs.mustOp ⟨6, n, m, k, l⟩ = ((R.abs.swap n m).1, ⟨0, [], (R.abs.swap n m).2, []⟩) := by simp [RA.mustOp]
  rw [e1]
  clear e1
  simp only
  have hc := fun (w' : World) (hu : Upd noBlk w w') => rswap_any R n m w' (hR.keep hu)
  replace hc := Lib.hid hc
  generalize R.abs.swap n m = r at *
  obtain ⟨s', re⟩ := r
  simp only at *
  have hlt := hR.lt
  replace hlt := Lib.hid hlt
  replace hR := Lib.hid hR
  go_enter Try.func28, Try.ntmps28
  go_wp2_with fail
  have hb := begun_of w #[.int .i64 6, .int .i64 n, .int .i64 m, .int .i64 k, v]
  unfold begun3 at hb
  generalize w.heap.size = H at hb ⊢
  generalize ((w.alloc (.cells #[.int .i64 6, .int .i64 n, .int .i64 m, .int .i64 k, v] 50)).alloc _).alloc _ = w3 at hb ⊢
  refine (hc.out w3 hb.upd).mono ?_
  rintro e w4 ⟨R', rfl, ho, hs⟩
  have ht := hb.tell ho.upd fun k hk => by have := hlt.out k hk; have := hb.size; omega
  replace ho := Lib.hid ho
  replace hs := Lib.hid hs
  obtain ⟨⟨a0, a1, a2, a3⟩, ⟨b0, b1, b2, b3⟩, ⟨f0, f1, f2, f3⟩, ⟨g0, g1, g2, g3⟩⟩ := ht.cells
  replace hb := Lib.hid hb
  clear ht
  go_wp2
  refine bodyPost_ret (v := .agg #[.int .i64 0, .slice none 0 0, .int .i64 re, .slice none 0 0]) (by simp [results, Try.results28, go_sem, a0, a1, a2, a3]) rfl ?_
  refine must_fin hR.out hb.out ho.out hs.out (TdOk.plain _ _ _ _) (fun k hk => (TdFoot.nil k hk).elim) ?_
  · refine (((((Upd.refl (twoB H) _).setCell ?_ _).setCell ?_ _).setCell ?_ _).setCell ?_ _).setCell ?_ _ <;> first | exact .inl (.inl rfl) | exact .inl (.inr rfl)

set_option maxRecDepth 100000 in
set_option maxHeartbeats 1000000 in
theorem must_7 (R : Rf) (n m k : Int) (v : Value) (l : List UInt8) (w : World) (hR : RfOk w R) :
    Calls Try.prog 28 #[.pointer (some ⟨R.p, 0, none⟩), .agg #[.int .i64 7, .int .i64 n, .int .i64 m, .int .i64 k, v]] w (MustP w R (R.abs.mustOp ⟨7, n, m, k, l⟩).1 (R.abs.mustOp ⟨7, n, m, k, l⟩).2) := by
  have e1 : R.abs.mustOp ⟨7, n, m, k, l⟩ = ((R.abs.flip n m k).1, ⟨0, [], (R.abs.flip n m k).2, []⟩) := by simp [RA.mustOp]
  rw [e1]
  clear e1
  simp only
  have hc := fun (w' : World) (hu : Upd noBlk w w') => rflip_any R n m k w' (hR.keep hu)
  replace hc := Lib.hid hc
  generalize R.abs.flip n m k = r at *
  obtain ⟨s', re⟩ := r
  simp only at *
  have hlt := hR.lt
  replace hlt := Lib.hid hlt
  replace hR := Lib.hid hR
  go_enter Try.func28, Try.ntmps28
  go_wp2_with fail
  have hb := begun_of w #[.int .i64 7, .int .i64 n, .int .i64 m, .int .i64 k, v]
  unfold begun3 at hb
  generalize w.heap.size = H at hb ⊢
  generalize ((w.alloc (.cells #[.int .i64 7, .int .i64 n, .int .i64 m, .int .i64 k, v] 50)).alloc _).alloc _ = w3 at hb ⊢
  refine (hc.out w3 hb.upd).mono ?_
  rintro e w4 ⟨R', rfl, ho, hs⟩
  have ht := hb.tell ho.upd fun k hk => by have := hlt.out k hk; have := hb.size; omega
  replace ho := Lib.hid ho
  replace hs := Lib.hid hs
  obtain ⟨⟨a0, a1, a2, a3⟩, ⟨b0, b1, b2, b3⟩, ⟨f0, f1, f2, f3⟩, ⟨g0, g1, g2, g3⟩⟩ := ht.cells
  replace hb := Lib.hid hb
  clear ht
  go_wp2
  refine bodyPost_ret (v := .agg #[.int .i64 0, .slice none 0 0, .int .i64 re, .slice none 0 0]) (by simp [results, Try.results28, go_sem, a0, a1, a2, a3]) rfl ?_
  refine must_fin hR.out hb.out ho.out hs.out (TdOk.plain _ _ _ _) (fun k hk => (TdFoot.nil k hk).elim) ?_
  · refine (((((Upd.refl (twoB H) _).setCell ?_ _).setCell ?_ _).setCell ?_ _).setCell ?_ _).setCell ?_ _ <;> first | exact .inl (.inl rfl) | exact .inl (.inr rfl)

set_option maxRecDepth 100000 in
set_option maxHeartbeats 1000000 in
theorem must_8 (R : Rf) (n m k : Int) (v : Value) (l : List UInt8) (w : World) (hR : RfOk w R) :
    Calls Try.prog 28 #[.pointer (some ⟨R.p, 0, none⟩), .agg #[.int .i64 8, .int .i64 n, .int .i64 m, .int .i64 k, v]] w (MustP w R (R.abs.mustOp ⟨8, n, m, k, l⟩).1 (R.abs.mustOp ⟨8, n, m, k, l⟩).2) := by
  have e1 : R.abs.mustOp ⟨8, n, m, k, l⟩ = ((R.abs.cut n m).1, ⟨0, [], (R.abs.cut n m).2, []⟩) := by simp [RA.mustOp]
  rw [e1]
  clear e1
  simp only
  have hc := fun (w' : World) (hu : Upd noBlk w w') => rcut_any R n m w' (hR.keep hu)
  replace hc := Lib.hid hc
  generalize R.abs.cut n m = r at *
  obtain ⟨s', re⟩ := r
  simp only at *
  have hlt := hR.lt
  replace hlt := Lib.hid hlt
  replace hR := Lib.hid hR
  go_enter Try.func28, Try.ntmps28
  go_wp2_with fail
  have hb := begun_of w #[.int .i64 8, .int .i64 n, .int .i64 m, .int .i64 k, v]
  unfold begun3 at hb
  generalize w.heap.size = H at hb ⊢
  generalize ((w.alloc (.cells #[.int .i64 8, .int .i64 n, .int .i64 m, .int .i64 k, v] 50)).alloc _).alloc _ = w3 at hb ⊢
  refine (hc.out w3 hb.upd).mono ?_
  rintro e w4 ⟨R', rfl, ho, hs⟩
  have ht := hb.tell ho.upd fun k hk => by have := hlt.out k hk; have := hb.size; omega
  replace ho := Lib.hid ho
  replace hs := Lib.hid hs
  obtain ⟨⟨a0, a1, a2, a3⟩, ⟨b0, b1, b2, b3⟩, ⟨f0, f1, f2, f3⟩, ⟨g0, g1, g2, g3⟩⟩ := ht.cells
  replace hb := Lib.hid hb
  clear ht
  go_wp2
  refine bodyPost_ret (v := .agg #[.int .i64 0, .slice none 0 0, .int .i64 re, .slice none 0 0]) (by simp [results, Try.results28, go_sem, a0, a1, a2, a3]) rfl ?_
  refine must_fin hR.out hb.out ho.out hs.out (TdOk.plain _ _ _ _) (fun k hk => (TdFoot.nil k hk).elim) ?_
  · refine (((((Upd.refl (twoB H) _).setCell ?_ _).setCell ?_ _).setCell ?_ _).setCell ?_ _).setCell ?_ _ <;> first | exact .inl (.inl rfl) | exact .inl (.inr rfl)

set_option maxRecDepth 100000 in
set_option maxHeartbeats 1000000 in
theorem must_9 (R : Rf) (n m k : Int) (v : Value) (l : List UInt8) (w : World) (hR : RfOk w R) :
    Calls Try.prog 28 #[.pointer (some ⟨R.p, 0, none⟩), .agg #[.int .i64 9, .int .i64 n, .int .i64 m, .int .i64 k, v]] w (MustP w R (R.abs.mustOp ⟨9, n, m, k, l⟩).1 (R.abs.mustOp ⟨9, n, m, k, l⟩).2) := by
  have e1 : R.abs.mustOp ⟨9, n, m, k, l⟩ = (R.abs, ⟨(R.abs.behind 0 : Nat), [], 0, []⟩) := by simp [RA.mustOp]
  rw [e1]
  clear e1
  simp only
  have hc := fun (w' : World) (hu : Upd noBlk w w') => rnext_any R w' (hR.keep hu)
  replace hc := Lib.hid hc
  generalize R.abs.behind 0 = r at *
  replace hR := Lib.hid hR
  go_enter Try.func28, Try.ntmps28
  go_wp2_with fail
  have hb := begun_of w #[.int .i64 9, .int .i64 n, .int .i64 m, .int .i64 k, v]
  unfold begun3 at hb
  generalize w.heap.size = H at hb ⊢
  generalize ((w.alloc (.cells #[.int .i64 9, .int .i64 n, .int .i64 m, .int .i64 k, v] 50)).alloc _).alloc _ = w3 at hb ⊢
  refine (hc.out w3 hb.upd).mono ?_
  rintro e w4 ⟨rfl, q, rfl⟩
  have hu : Upd noBlk w3 (w3.drewN q) := (Upd.refl noBlk _).drewN q
  have ht := hb.tell hu fun _ h => h.elim
  generalize w3.drewN q = w4 at *
  replace hu := Lib.hid hu
  obtain ⟨⟨a0, a1, a2, a3⟩, ⟨b0, b1, b2, b3⟩, ⟨f0, f1, f2, f3⟩, ⟨g0, g1, g2, g3⟩⟩ := ht.cells
  replace hb := Lib.hid hb
  clear ht
  go_wp2
  refine bodyPost_ret (v := .agg #[.int .i64 r, .slice none 0 0, .int .i64 0, .slice none 0 0]) (by simp [results, Try.results28, go_sem, a0, a1, a2, a3]) rfl ?_
  refine must_fin hR.out hb.out (ROn.of_none (hR.out.keep hb.out.upd) hu.out) rfl (TdOk.plain _ _ _ _) (fun k hk => (TdFoot.nil k hk).elim) ?_
  · refine (((((Upd.refl (twoB H) _).setCell ?_ _).setCell ?_ _).setCell ?_ _).setCell ?_ _).setCell ?_ _ <;> first | exact .inl (.inl rfl) | exact .inl (.inr rfl)

set_option maxRecDepth 100000 in
set_option maxHeartbeats 1000000 in
theorem must_10 (R : Rf) (n m k : Int) (v : Value) (l : List UInt8) (w : World) (hR : RfOk w R) :
    Calls Try.prog 28 #[.pointer (some ⟨R.p, 0, none⟩), .agg #[.int .i64 10, .int .i64 n, .int .i64 m, .int .i64 k, v]] w (MustP w R (R.abs.mustOp ⟨10, n, m, k, l⟩).1 (R.abs.mustOp ⟨10, n, m, k, l⟩).2) := by
  have e1 : R.abs.mustOp ⟨10, n, m, k, l⟩ = (R.abs, ⟨0, [], 0, R.abs.waiting⟩) := by simp [RA.mustOp]
  rw [e1]
  clear e1
  simp only
  have hc := fun (w' : World) (hu : Upd noBlk w w') => rwait_any R w' (hR.keep hu)
  replace hc := Lib.hid hc
  generalize R.abs.waiting = r at *
  replace hR := Lib.hid hR
  go_enter Try.func28, Try.ntmps28
  go_wp2_with fail
  have hb := begun_of w #[.int .i64 10, .int .i64 n, .int .i64 m, .int .i64 k, v]
  unfold begun3 at hb
  generalize w.heap.size = H at hb ⊢
  generalize ((w.alloc (.cells #[.int .i64 10, .int .i64 n, .int .i64 m, .int .i64 k, v] 50)).alloc _).alloc _ = w3 at hb ⊢
  refine (hc.out w3 hb.upd).mono ?_
  rintro e w4 ⟨u, ms, rfl, hown, hm, hu⟩
  obtain ⟨A, c, rfl, -⟩ := own_form hown.row
  have ht := hb.tell hu fun _ h => h.elim
  replace hown := Lib.hid hown
  replace hu := Lib.hid hu
  replace hm := Lib.hid hm
  obtain ⟨⟨a0, a1, a2, a3⟩, ⟨b0, b1, b2, b3⟩, ⟨f0, f1, f2, f3⟩, ⟨g0, g1, g2, g3⟩⟩ := ht.cells
  replace hb := Lib.hid hb
  clear ht
  go_wp2
  refine bodyPost_ret (v := .agg #[.int .i64 0, .slice none 0 0, .int .i64 0, .slice A ms.length c]) (by simp [results, Try.results28, go_sem, a0, a1, a2, a3]) rfl ?_
  refine must_fin hR.out hb.out (ROn.of_none (hR.out.keep hb.out.upd) hu.out) rfl ⟨World.ownsRow_nil _ _ _ _, hown.out, hm.out⟩ ?_ ?_
  · rintro k (hk | hk) hf
    · simp [Value.ownBlock] at hk
    · have h1 := (hown.out.lt k hk).1
      have h2 := hR.out.lt k hf
      have h3 := hb.out.upd.size
      omega
  · refine (((((Upd.refl (twoB H) _).setCell ?_ _).setCell ?_ _).setCell ?_ _).setCell ?_ _).setCell ?_ _ <;> first | exact .inl (.inl rfl) | exact .inl (.inr rfl)

set_option maxRecDepth 100000 in
set_option maxHeartbeats 1000000 in
theorem must_else (R : Rf) (kd n m k : Int) (v : Value) (l : List UInt8) (w : World) (hR : RfOk w R) (hk : kd < 1 ∨ 10 < kd) :
    Calls Try.prog 28 #[.pointer (some ⟨R.p, 0, none⟩), .agg #[.int .i64 kd, .int .i64 n, .int .i64 m, .int .i64 k, v]] w (MustP w R (R.abs.mustOp ⟨kd, n, m, k, l⟩).1 (R.abs.mustOp ⟨kd, n, m, k, l⟩).2) := by
  have e1 : R.abs.mustOp ⟨kd, n, m, k, l⟩ = (R.abs, ⟨0, [], 0, []⟩) := by
    unfold RA.mustOp
    rw [if_neg (by simp only; omega), if_neg (by simp only; omega), if_neg (by simp only; omega), if_neg (by simp only; omega), if_neg (by simp only; omega), if_neg (by simp only; omega), if_neg (by simp only; omega), if_neg (by simp only; omega), if_neg (by simp only; omega), if_neg (by simp only; omega)]
  rw [e1]
  clear e1
  simp only
  have q1 : (kd == 1) = false := beq_eq_false_iff_ne.2 (by omega)
  have q2 : (kd == 2) = false := beq_eq_false_iff_ne.2 (by omega)
  have q3 : (kd == 3) = false := beq_eq_false_iff_ne.2 (by omega)
  have q4 : (kd == 4) = false := beq_eq_false_iff_ne.2 (by omega)
  have q5 : (kd == 5) = false := beq_eq_false_iff_ne.2 (by omega)
  have q6 : (kd == 6) = false := beq_eq_false_iff_ne.2 (by omega)
  have q7 : (kd == 7) = false := beq_eq_false_iff_ne.2 (by omega)
  have q8 : (kd == 8) = false := beq_eq_false_iff_ne.2 (by omega)
  have q9 : (kd == 9) = false := beq_eq_false_iff_ne.2 (by omega)
  have q10 : (kd == 10) = false := beq_eq_false_iff_ne.2 (by omega)
  clear hk
  replace hR := Lib.hid hR
  have hb := begun_of w #[.int .i64 kd, .int .i64 n, .int .i64 m, .int .i64 k, v]
  replace hb := Lib.hid hb
  go_enter Try.func28, Try.ntmps28
  go_wp2
  refine bodyPost_ret (v := .agg #[.int .i64 0, .slice none 0 0, .int .i64 0, .slice none 0 0]) (by simp [results, Try.results28, go_sem]) rfl ?_
  refine must_fin hR.out hb.out (ROn.of_none (hR.out.keep hb.out.upd) (Upd.refl _ _)) rfl (TdOk.plain _ _ 0 0) (fun k hk => (TdFoot.nil k hk).elim) ?_
  exact Upd.refl _ _

theorem must_any (R : Rf) (o : OpD) (v : Value) (w : World) (hR : RfOk w R) (hv : RdB w v o.bytes) (hne : o.bytes ≠ [] → v.ownBlock ≠ some R.p) :
    Calls Try.prog 28 #[.pointer (some ⟨R.p, 0, none⟩), .agg #[.int .i64 o.kind, .int .i64 o.n, .int .i64 o.m, .int .i64 o.k, v]] w (MustP w R (R.abs.mustOp o).1 (R.abs.mustOp o).2) := by
  obtain ⟨kd, n, m, k, l⟩ := o
  simp only at hv hne ⊢
  by_cases h : kd < 1 ∨ 10 < kd
  · exact must_else R kd n m k v l w hR h
  · have h' : kd = 1 ∨ kd = 2 ∨ kd = 3 ∨ kd = 4 ∨ kd = 5 ∨ kd = 6 ∨ kd = 7 ∨ kd = 8 ∨ kd = 9 ∨ kd = 10 := by omega
    rcases h' with rfl | rfl | rfl | rfl | rfl | rfl | rfl | rfl | rfl | rfl
    · exact must_1 R n m k v l w hR hv hne
    · exact must_2 R n m k v l w hR
    · exact must_3 R n m k v l w hR
    · exact must_4 R n m k v l w hR
    · exact must_5 R n m k v l w hR
    · exact must_6 R n m k v l w hR
    · exact must_7 R n m k v l w hR
    · exact must_8 R n m k v l w hR
    · exact must_9 R n m k v l w hR
    · exact must_10 R n m k v l w hR

end Go.Proofs.Ytfnlemdlngdaiaa
