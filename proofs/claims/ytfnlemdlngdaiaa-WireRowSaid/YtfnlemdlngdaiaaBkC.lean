/-
  WireRow: what each round does to the book, as memory and as plain data.
-/
import Derived.Test.YtfnlemdlngdaiaaBkB
namespace Go.Proofs.Ytfnlemdlngdaiaa
open Go.RowKit

theorem bVals_append (a b : List BkE) : bVals (a ++ b) = bVals a ++ bVals b := by simp [bVals]
theorem gVals_append (a b : List BkE) : gVals (a ++ b) = gVals a ++ gVals b := by simp [gVals]
theorem bVals_set {es : List BkE} {k : Nat} {e : BkE} : bVals (es.set k e) = (bVals es).set k e.v := by simp [bVals, List.map_set]
theorem gVals_set {es : List BkE} {k : Nat} {e : BkE} : gVals (es.set k e) = (gVals es).set k (.bool e.g) := by simp [gVals, List.map_set]

section
variable {w w' : World} {kv gv : Value} {es : List BkE} {k : Nat} {e : BkE}
/-- A number more in the book. -/
theorem Bok.push {kv' gv' v' : Value} {l : List UInt8} (h : Bok w kv gv es) (hu : Upd (fun k => kv.ownBlock = some k ∨ gv.ownBlock = some k) w w') (hrow : w'.ownsRow 0 24 1 kv' (es.length + 1) (bVals es ++ [v']))
    (hgon : w'.ownsRow 0 4 1 gv' (es.length + 1) (gVals es ++ [.bool false])) (hv : EB w' v' l) (hnew : ∀ k, v'.ownBlock = some k → w.heap.size ≤ k) (hl : l.length ≤ 1048576) (hm : es.length < 4096) :
    Bok w' kv' gv' (es ++ [⟨v', l, false⟩]) := by
  refine ⟨by simpa [bVals] using hrow, by simpa [gVals] using hgon, ?_, ?_, ?_, by simp only [List.length_append, List.length_cons, List.length_nil]; omega⟩
  · intro x hx
    simp only [List.mem_append, List.mem_singleton] at hx
    rcases hx with hx | rfl
    · refine (h.byt x hx).upd hu fun j hj => ?_
      rintro (h1 | h1)
      · exact (h.byt x hx).ne h.row (by decide) hj h1
      · exact (h.byt x hx).ne h.gon (by decide) hj h1
    · exact hv
  · refine nodup_concat h.apart fun b hb x hx hxb => ?_
    have h1 := hnew b hb
    have h2 := (h.byt x hx).lt b hxb
    omega
  · intro x hx
    simp only [List.mem_append, List.mem_singleton] at hx
    rcases hx with hx | rfl
    · exact h.small x hx
    · exact hl
theorem mem_setB {x a : BkE} {i : Nat} (h : x ∈ es.set i a) : x = a ∨ x ∈ es := (List.mem_or_eq_of_mem_set h).symm
/-- A number is marked. -/
theorem Bok.setG {gb n d : Nat} {b : Bool} (h : Bok w kv gv es) (he : es[k]? = some e) (hg : gv = .slice (some ⟨gb, 0, none⟩) n d) (hn : es.length = n) :
    Bok (w.setCell ⟨gb, k, none⟩ (.bool b)) kv gv (es.set k ⟨e.v, e.l, b⟩) ∧ Upd (bFoot kv gv es) w (w.setCell ⟨gb, k, none⟩ (.bool b)) := by
  have hmem := List.mem_of_getElem? he
  have hkl := (List.getElem?_eq_some_iff.1 he).1
  have hbe : (bVals es)[k]? = some e.v := by unfold bVals; rw [List.getElem?_map, he]; rfl
  have hu : Upd (fun j => j = gb) w (w.setCell ⟨gb, k, none⟩ (.bool b)) := (Upd.refl (fun j => j = gb) w).setCell (p := ⟨gb, k, none⟩) (.inl rfl) _
  have hgb : gv.ownBlock = some gb := by rw [hg]; rfl
  refine ⟨⟨?_, ?_, ?_, ?_, ?_, by rw [List.length_set]; exact h.most⟩, hu.mono fun j _ hj => .inr (.inl (by rw [hj]; exact hgb))⟩
  · rw [List.length_set, bVals_set, set_getElem?_self hbe]
    exact own_upd h.row hu fun j hj hjg => own_own_ne h.row h.gon (by decide) hj (by rw [hjg]; exact hgb)
  · rw [List.length_set, gVals_set]
    have h1 := h.gon
    rw [hg, hn] at h1 ⊢
    exact (h1.stored k (.bool b)).1
  · intro x hx
    have hup : ∀ y ∈ es, EB (w.setCell ⟨gb, k, none⟩ (.bool b)) y.v y.l := fun y hy => (h.byt y hy).upd hu fun j hj hjg => (h.byt y hy).ne h.gon (by decide) hj (by rw [hjg]; exact hgb)
    rcases mem_setB hx with rfl | hx
    · exact hup e hmem
    · exact hup x hx
  · rw [filterMap_set_same (f := fun e : BkE => e.v.ownBlock) (b := ⟨e.v, e.l, b⟩) he rfl]
    exact h.apart
  · intro x hx
    rcases mem_setB hx with rfl | hx
    · exact h.small e hmem
    · exact h.small x hx
theorem apart_ne {es : List BkE} (ha : (es.filterMap fun e => e.v.ownBlock).Nodup) {i j k : Nat} {a b : BkE} (hi : es[i]? = some a) (hj : es[j]? = some b) (hij : i ≠ j) (hk : a.v.ownBlock = some k) : b.v.ownBlock ≠ some k :=
  nodup_at_ne (f := fun e : BkE => e.v.ownBlock) ha hi hj hij hk
/-- Bytes of a number turn. -/
theorem Bok.setL {eb n c j : Nat} {b : UInt8} (h : Bok w kv gv es) (he : es[k]? = some e) (hv : e.v = .slice (some ⟨eb, 0, none⟩) n c) :
    Bok (w.setCell ⟨eb, j, none⟩ (bv b)) kv gv (es.set k ⟨e.v, e.l.set j b, e.g⟩) ∧ Upd (bFoot kv gv es) w (w.setCell ⟨eb, j, none⟩ (bv b)) := by
  have hmem := List.mem_of_getElem? he
  have hkl := (List.getElem?_eq_some_iff.1 he).1
  have hbe : (bVals es)[k]? = some e.v := by unfold bVals; rw [List.getElem?_map, he]; rfl
  have hge : (gVals es)[k]? = some (.bool e.g) := by unfold gVals; rw [List.getElem?_map, he]; rfl
  have hu : Upd (fun x => x = eb) w (w.setCell ⟨eb, j, none⟩ (bv b)) := (Upd.refl (fun x => x = eb) w).setCell (p := ⟨eb, j, none⟩) (.inl rfl) _
  have heb : e.v.ownBlock = some eb := by rw [hv]; rfl
  refine ⟨⟨?_, ?_, ?_, ?_, ?_, by rw [List.length_set]; exact h.most⟩, hu.mono fun x _ hx => .inr (.inr ⟨e, hmem, by rw [hx]; exact heb⟩)⟩
  · rw [List.length_set, bVals_set, set_getElem?_self hbe]
    exact own_upd h.row hu fun x hx hxe => (h.byt e hmem).ne h.row (by decide) heb (by rw [← hxe]; exact hx)
  · rw [List.length_set, gVals_set, set_getElem?_self hge]
    exact own_upd h.gon hu fun x hx hxe => (h.byt e hmem).ne h.gon (by decide) heb (by rw [← hxe]; exact hx)
  · intro x hx
    obtain ⟨q, hq⟩ := List.getElem?_of_mem hx
    by_cases hqk : q = k
    · subst hqk
      rw [List.getElem?_set_self hkl] at hq
      obtain rfl := Option.some.inj hq
      have h1 := h.byt e hmem
      rw [hv] at h1
      simp only
      rw [hv]
      exact h1.set
    · rw [List.getElem?_set_ne (Ne.symm hqk)] at hq
      exact (h.byt x (List.mem_of_getElem? hq)).upd hu fun y hy hye => apart_ne h.apart he hq (Ne.symm hqk) heb (by rw [← hye]; exact hy)
  · rw [filterMap_set_same (f := fun e : BkE => e.v.ownBlock) (b := ⟨e.v, e.l.set j b, e.g⟩) he rfl]
    exact h.apart
  · intro x hx
    rcases mem_setB hx with rfl | hx
    · simp only [List.length_set]
      exact h.small e hmem
    · exact h.small x hx
/-- Less of a number's bytes is left. -/
theorem Bok.setV {kb n d c j : Nat} {A : Option Addr} (h : Bok w kv gv es) (he : es[k]? = some e) (hkv : kv = .slice (some ⟨kb, 0, none⟩) n d) (hn : es.length = n) (hv : e.v = .slice A e.l.length c) (hj : j ≤ e.l.length) :
    Bok (w.setCell ⟨kb, k, none⟩ (.slice A j c)) kv gv (es.set k ⟨.slice A j c, e.l.take j, e.g⟩) ∧ Upd (bFoot kv gv es) w (w.setCell ⟨kb, k, none⟩ (.slice A j c)) := by
  have hmem := List.mem_of_getElem? he
  have hkl := (List.getElem?_eq_some_iff.1 he).1
  have hge : (gVals es)[k]? = some (.bool e.g) := by unfold gVals; rw [List.getElem?_map, he]; rfl
  have hu : Upd (fun x => x = kb) w (w.setCell ⟨kb, k, none⟩ (.slice A j c)) := (Upd.refl (fun x => x = kb) w).setCell (p := ⟨kb, k, none⟩) (.inl rfl) _
  have hkb : kv.ownBlock = some kb := by rw [hkv]; rfl
  have hsame : (Value.slice A j c).ownBlock = e.v.ownBlock := by rw [hv]; cases A <;> rfl
  refine ⟨⟨?_, ?_, ?_, ?_, ?_, by rw [List.length_set]; exact h.most⟩, hu.mono fun x _ hx => .inl (by rw [hx]; exact hkb)⟩
  · rw [List.length_set, bVals_set]
    have h1 := h.row
    rw [hkv, hn] at h1 ⊢
    exact (h1.stored k (.slice A j c)).1
  · rw [List.length_set, gVals_set, set_getElem?_self hge]
    exact own_upd h.gon hu fun x hx hxe => own_own_ne h.gon h.row (by decide) hx (by rw [hxe]; exact hkb)
  · intro x hx
    have hup : ∀ y ∈ es, EB (w.setCell ⟨kb, k, none⟩ (.slice A j c)) y.v y.l := fun y hy => (h.byt y hy).upd hu fun q hq hqk => (h.byt y hy).ne h.row (by decide) hq (by rw [hqk]; exact hkb)
    rcases mem_setB hx with rfl | hx
    · have h1 := hup e hmem
      rw [hv] at h1
      exact h1.cut rfl hj
    · exact hup x hx
  · rw [filterMap_set_same (f := fun e : BkE => e.v.ownBlock) he hsame]
    exact h.apart
  · intro x hx
    rcases mem_setB hx with rfl | hx
    · have := h.small e hmem
      simp only [List.length_take]
      omega
    · exact h.small x hx
end
theorem bAbs_set {es : List BkE} {k : Nat} {e : BkE} : bAbs (es.set k e) = (bAbs es).set k (e.l, e.g) := by simp [bAbs, List.map_set]
theorem bFoot_set {kv gv : Value} {es : List BkE} {k : Nat} {e e' : BkE} (he : es[k]? = some e) (hv : e'.v.ownBlock = e.v.ownBlock) : ∀ x, bFoot kv gv (es.set k e') x → bFoot kv gv es x := by
  rintro x (h | h | ⟨y, hy, h⟩)
  · exact .inl h
  · exact .inr (.inl h)
  · rcases mem_setB hy with rfl | hy
    · exact .inr (.inr ⟨e, List.mem_of_getElem? he, by rw [← hv]; exact h⟩)
    · exact .inr (.inr ⟨y, hy, h⟩)

/-- The wire and the book, apart, newer than w0. -/
structure Three (w0 w : World) (W : Wr) (kv gv : Value) (es : List BkE) : Prop where
  wok : WrOk w W
  bok : Bok w kv gv es
  dis : ∀ k, W.foot k → ¬ bFoot kv gv es k
  wnew : ∀ k, W.foot k → w0.heap.size ≤ k
  bnew : ∀ k, bFoot kv gv es k → w0.heap.size ≤ k
  upd : Upd (fun k => ¬ older w0 k) w0 w
section
variable {w0 w w' : World} {W W' : Wr} {kv gv kv' gv' : Value} {es es' : List BkE}
theorem Three.keep (h : Three w0 w W kv gv es) (hu : Upd noBlk w w') : Three w0 w' W kv gv es :=
  ⟨h.wok.upd hu fun _ _ h => h, h.bok.keep hu, h.dis, h.wnew, h.bnew, h.upd.trans_same (hu.of_none _)⟩
theorem Three.stepW (h : Three w0 w W kv gv es) (ho : Onward w W w' W') : Three w0 w' W' kv gv es := by
  refine ⟨ho.ok, h.bok.upd ho.upd fun k hk hw => h.dis k hw hk, fun k hk hr => ?_, fun k hk => ?_, h.bnew, h.upd.trans_same (ho.upd.mono fun k _ hk ho => ?_)⟩
  · rcases ho.into k hk with h1 | h1
    · exact h.dis k h1 hr
    · have := h.bok.lt k hr; omega
  · rcases ho.into k hk with h1 | h1
    · exact h.wnew k h1
    · exact Nat.le_trans h.upd.size h1
  · have := h.wnew k hk; unfold older at ho; omega
theorem Three.stepB (h : Three w0 w W kv gv es) (hb : Bok w' kv' gv' es') (hu : Upd (bFoot kv gv es) w w') (hf : ∀ k, bFoot kv' gv' es' k → bFoot kv gv es k ∨ w.heap.size ≤ k) : Three w0 w' W kv' gv' es' := by
  refine ⟨h.wok.upd hu fun k hk hb => h.dis k hk hb, hb, fun k hk hr => ?_, h.wnew, fun k hk => ?_, h.upd.trans_same (hu.mono fun k _ hk ho => ?_)⟩
  · rcases hf k hr with h1 | h1
    · exact h.dis k hk h1
    · have := h.wok.lt k hk; omega
  · rcases hf k hk with h1 | h1
    · exact h.bnew k h1
    · exact Nat.le_trans h.upd.size h1
  · have := h.bnew k hk; unfold older at ho; omega
end

section
variable {b : BA} {s : WA}
theorem bk_send (h : BSim b s) (n m k : Int) (l : List UInt8) :
    1048576 < l.length ∧ s.doOp ⟨1, n, m, k, l⟩ = (s, ⟨0, [], 233, []⟩) ∨ l.length ≤ 1048576 ∧ 4096 ≤ b.length ∧ s.doOp ⟨1, n, m, k, l⟩ = (s, ⟨0, [], 234, []⟩) ∨
    l.length ≤ 1048576 ∧ b.length < 4096 ∧ s.doOp ⟨1, n, m, k, l⟩ = (s.add l, ⟨((b.length + 1 : Nat) : Int), [], 0, []⟩) := by
  have e1 : s.doOp ⟨1, n, m, k, l⟩ = ((s.send l).1, ⟨(s.send l).2.1, [], (s.send l).2.2, []⟩) := by simp [WA.doOp]
  rw [e1]
  unfold WA.send WA.put
  rw [h.given]
  by_cases h1 : 1048576 < l.length
  · exact .inl ⟨h1, by rw [if_pos h1]⟩
  · by_cases h2 : 4096 ≤ b.length
    · exact .inr (.inl ⟨by omega, h2, by rw [if_neg h1, if_pos h2]⟩)
    · exact .inr (.inr ⟨by omega, by omega, by rw [if_neg h1, if_neg h2]⟩)
theorem bk_absent {o : OpD} (hf : s.find o.n = none) (h2 : 2 ≤ o.kind) (h8 : o.kind ≤ 8) : ∃ t : TdA, s.doOp o = (s, t) ∧ t.err = 231 := by
  obtain ⟨kd, n, m, k, l⟩ := o
  simp only at hf h2 h8
  have h : kd = 2 ∨ kd = 3 ∨ kd = 4 ∨ kd = 5 ∨ kd = 6 ∨ kd = 7 ∨ kd = 8 := by omega
  rcases h with rfl | rfl | rfl | rfl | rfl | rfl | rfl <;> simp [WA.doOp, WA.look, WA.drop, WA.copy, WA.swap, WA.flip, WA.cut, hf]
theorem bk_idle {o : OpD} (h : o.kind = 9 ∨ o.kind = 10 ∨ o.kind < 1 ∨ 10 < o.kind) : (s.doOp o).1 = s := by
  obtain ⟨kd, n, m, k, l⟩ := o
  simp only at h
  unfold WA.doOp
  simp only
  rcases h with rfl | rfl | h | h
  · simp
  · simp
  · rw [if_neg (by omega), if_neg (by omega), if_neg (by omega), if_neg (by omega), if_neg (by omega), if_neg (by omega), if_neg (by omega), if_neg (by omega)]
    repeat' split
    all_goals rfl
  · rw [if_neg (by omega), if_neg (by omega), if_neg (by omega), if_neg (by omega), if_neg (by omega), if_neg (by omega), if_neg (by omega), if_neg (by omega)]
    repeat' split
    all_goals rfl
variable {n m k : Int} {l l' : List UInt8} {i q : Nat}
theorem bk_look (hf : s.find n = some i) (hi : s.row[i]? = some (q, l')) : s.doOp ⟨2, n, m, k, l⟩ = (s, ⟨0, l', 0, []⟩) := by simp [WA.doOp, WA.look, hf, WA.get_of hi]
theorem bk_take (hf : s.find n = some i) (hi : s.row[i]? = some (q, l')) : s.doOp ⟨3, n, m, k, l⟩ = (s.gone i, ⟨0, l', 0, []⟩) := by simp [WA.doOp, WA.look, WA.drop, hf, WA.get_of hi]
theorem bk_drop (hf : s.find n = some i) : s.doOp ⟨4, n, m, k, l⟩ = (s.gone i, ⟨0, [], 0, []⟩) := by simp [WA.doOp, WA.drop, hf]
theorem bk_copy (h : BSim b s) (hf : s.find n = some i) (hi : s.row[i]? = some (q, l')) :
    4096 ≤ b.length ∧ s.doOp ⟨5, n, m, k, l⟩ = (s, ⟨0, [], 234, []⟩) ∨ b.length < 4096 ∧ s.doOp ⟨5, n, m, k, l⟩ = (s.add l', ⟨((b.length + 1 : Nat) : Int), [], 0, []⟩) := by
  have e1 : s.doOp ⟨5, n, m, k, l⟩ = ((s.put l').1, ⟨(s.put l').2.1, [], (s.put l').2.2, []⟩) := by simp [WA.doOp, WA.copy, hf, WA.get_of hi]
  rw [e1]
  unfold WA.put
  rw [h.given]
  by_cases h2 : 4096 ≤ b.length
  · exact .inl ⟨h2, by rw [if_pos h2]⟩
  · exact .inr ⟨by omega, by rw [if_neg h2]⟩
theorem bk_swap (h : BSim b s) : ∃ s' e, s.doOp ⟨6, n, m, k, l⟩ = (s', ⟨0, [], e, []⟩) ∧ BSim b s' := by
  refine ⟨(s.swap n m).1, (s.swap n m).2, by simp [WA.doOp], ?_⟩
  unfold WA.swap
  split
  · rename_i i j hi hj
    exact h.swapped (WA.find_some hi).1 (WA.find_some hj).1
  · exact h
theorem bk_flip (hf : s.find n = some i) (hi : s.row[i]? = some (q, l')) :
    (m < 0 ∨ (l'.length : Int) ≤ m) ∧ s.doOp ⟨7, n, m, k, l⟩ = (s, ⟨0, [], 232, []⟩) ∨ ∃ j : Nat, m = j ∧ j < l'.length ∧ s.doOp ⟨7, n, m, k, l⟩ = (s.setB i (WA.flipped l' j k), ⟨0, [], 0, []⟩) := by
  have e1 : s.doOp ⟨7, n, m, k, l⟩ = ((s.flip n m k).1, ⟨0, [], (s.flip n m k).2, []⟩) := by simp [WA.doOp]
  rw [e1]
  unfold WA.flip
  rw [hf]
  simp only
  rw [WA.get_of hi]
  by_cases h1 : m < 0 ∨ (l'.length : Int) ≤ m
  · exact .inl ⟨h1, by rw [if_pos h1]⟩
  · exact .inr ⟨m.toNat, by omega, by omega, by rw [if_neg h1]⟩
theorem bk_cut (hf : s.find n = some i) (hi : s.row[i]? = some (q, l')) :
    (m < 0 ∨ (l'.length : Int) < m) ∧ s.doOp ⟨8, n, m, k, l⟩ = (s, ⟨0, [], 232, []⟩) ∨ ∃ j : Nat, m = j ∧ j ≤ l'.length ∧ s.doOp ⟨8, n, m, k, l⟩ = (s.setB i (l'.take j), ⟨0, [], 0, []⟩) := by
  have e1 : s.doOp ⟨8, n, m, k, l⟩ = ((s.cut n m).1, ⟨0, [], (s.cut n m).2, []⟩) := by simp [WA.doOp]
  rw [e1]
  unfold WA.cut
  rw [hf]
  simp only
  rw [WA.get_of hi]
  by_cases h1 : m < 0 ∨ (l'.length : Int) < m
  · exact .inl ⟨h1, by rw [if_pos h1]⟩
  · exact .inr ⟨m.toNat, by omega, by omega, by rw [if_neg h1]⟩
end
end Go.Proofs.Ytfnlemdlngdaiaa
