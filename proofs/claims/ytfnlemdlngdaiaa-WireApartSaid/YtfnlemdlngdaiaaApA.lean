/-
  Rows that the caller writes into: bytes turned, bytes put behind.
-/
import Derived.Test.YtfnlemdlngdaiaaLawD
namespace Go.Proofs.Ytfnlemdlngdaiaa
open Go.RowKit

theorem nodup_set {α β : Type} {f : α → Option β} : ∀ {l : List α} {i : Nat} {a a' : α}, (l.filterMap f).Nodup → l[i]? = some a → (∀ b, f a' = some b → f a = some b ∨ ∀ x ∈ l, f x ≠ some b) → ((l.set i a').filterMap f).Nodup
  | [], _, _, _, _, h, _ => by simp at h
  | c :: l, 0, a, a', h, hi, hn => by
    simp only [List.getElem?_cons_zero, Option.some.injEq] at hi
    subst hi
    have hl : (l.filterMap f).Nodup := by
      rw [List.filterMap_cons] at h
      cases hc : f c with
      | none => rw [hc] at h; exact h
      | some y => rw [hc] at h; exact (List.nodup_cons.1 h).2
    rw [List.set_cons_zero, List.filterMap_cons]
    cases hb : f a' with
    | none => exact hl
    | some b =>
      refine List.nodup_cons.2 ⟨fun hm => ?_, hl⟩
      obtain ⟨x, hx, hxb⟩ := List.mem_filterMap.1 hm
      rcases hn b hb with h1 | h1
      · rw [List.filterMap_cons, h1] at h
        exact (List.nodup_cons.1 h).1 hm
      · exact h1 x (List.mem_cons_of_mem _ hx) hxb
  | c :: l, i + 1, a, a', h, hi, hn => by
    simp only [List.getElem?_cons_succ] at hi
    have hal : a ∈ l := List.mem_of_getElem? hi
    rw [List.set_cons_succ, List.filterMap_cons]
    rw [List.filterMap_cons] at h
    have hn' : ∀ b, f a' = some b → f a = some b ∨ ∀ x ∈ l, f x ≠ some b := fun b hb => (hn b hb).imp id fun h1 x hx => h1 x (List.mem_cons_of_mem _ hx)
    cases hc : f c with
    | none => rw [hc] at h; exact nodup_set h hi hn'
    | some d =>
      rw [hc] at h
      obtain ⟨h1, h2⟩ := List.nodup_cons.1 h
      refine List.nodup_cons.2 ⟨fun hm => ?_, nodup_set h2 hi hn'⟩
      obtain ⟨x, hx, hxb⟩ := List.mem_filterMap.1 hm
      rcases List.mem_or_eq_of_mem_set hx with h3 | rfl
      · exact h1 (List.mem_filterMap.2 ⟨x, h3, hxb⟩)
      · rcases hn d hxb with h4 | h4
        · exact h1 (List.mem_filterMap.2 ⟨a, hal, h4⟩)
        · exact h4 c List.mem_cons_self hc

section
variable {D : Nat → Prop} {w w' : World} {v v' : Value} {ms : List Msg} {i : Nat} {m : Msg} {l' : List UInt8}
/-- One message of a row has turned: its bytes' block, or its slice in the row, or both. -/
theorem Kept.turn (h : Kept D w v ms) (hm : ms[i]? = some m) (hu : Upd (fun k => v.ownBlock = some k ∨ m.v.ownBlock = some k) w w')
    (hrow : w'.ownsRow 0 63 2 v ms.length (rowCells (ms.set i ⟨m.N, v', l'⟩))) (hown : OwnB 0 w' v' l') (hv : ∀ k, v'.ownBlock = some k → m.v.ownBlock = some k ∨ (w.heap.size ≤ k ∧ D k)) :
    Kept D w' v (ms.set i ⟨m.N, v', l'⟩) := by
  have hmem := List.mem_of_getElem? hm
  have hi : i < ms.length := (List.getElem?_eq_some_iff.1 hm).1
  have hcase : ∀ x ∈ ms.set i ⟨m.N, v', l'⟩, x = ⟨m.N, v', l'⟩ ∨ ∃ j : Nat, j ≠ i ∧ ms[j]? = some x := by
    intro x hx
    obtain ⟨j, hj⟩ := List.getElem?_of_mem hx
    by_cases hji : j = i
    · subst hji
      rw [List.getElem?_set_self hi] at hj
      exact .inl (by simpa using hj.symm)
    · rw [List.getElem?_set_ne (Ne.symm hji)] at hj
      exact .inr ⟨j, hji, hj⟩
  refine ⟨⟨by simpa using hrow, ?_, ?_⟩, ?_⟩
  · intro x hx
    rcases hcase x hx with rfl | ⟨j, hji, hj⟩
    · exact hown
    · refine (h.own.byt x (List.mem_of_getElem? hj)).upd hu fun k hk => ?_
      rintro (h1 | h1)
      · exact own_own_ne (h.own.byt x (List.mem_of_getElem? hj)) h.own.row (by decide) hk h1
      · exact nodup_at_ne h.own.apart hm hj (Ne.symm hji) h1 hk
  · refine nodup_set h.own.apart hm fun b hb => ?_
    rcases hv b hb with h1 | h1
    · exact .inl h1
    · exact .inr fun x hx hxb => by have := (h.own.byt x hx).lt b hxb; omega
  · rintro k (hk | ⟨x, hx, hk⟩)
    · exact h.into k (.inl hk)
    · rcases hcase x hx with rfl | ⟨j, hji, hj⟩
      · rcases hv k hk with h1 | h1
        · exact h.into k (.inr ⟨m, hmem, h1⟩)
        · exact h1.2
      · exact h.into k (.inr ⟨x, List.mem_of_getElem? hj, hk⟩)

/-- A byte of a message is written. -/
theorem Kept.byte {bg n c : Nat} (h : Kept D w v ms) (hm : ms[i]? = some m) (hv : m.v = .slice (some ⟨bg, 0, none⟩) n c) (hn : m.l.length = n) (k : Nat) (b : UInt8) :
    Kept D (w.setCell ⟨bg, k, none⟩ (bv b)) v (ms.set i ⟨m.N, m.v, m.l.set k b⟩) ∧ Upd D w (w.setCell ⟨bg, k, none⟩ (bv b)) := by
  subst hn
  have hmem := List.mem_of_getElem? hm
  have hb : m.v.ownBlock = some bg := by rw [hv]; rfl
  have hu : Upd (fun k => v.ownBlock = some k ∨ m.v.ownBlock = some k) w (w.setCell ⟨bg, k, none⟩ (bv b)) := (Upd.refl (fun k => v.ownBlock = some k ∨ m.v.ownBlock = some k) w).setCell (p := ⟨bg, k, none⟩) (.inl (.inr hb)) _
  refine ⟨h.turn hm hu ?_ ?_ fun j hj => .inl hj, hu.mono fun j _ hj => h.into j (hj.imp id fun h1 => ⟨m, hmem, h1⟩)⟩
  · have hu' : Upd (fun j => bg = j) w (w.setCell ⟨bg, k, none⟩ (bv b)) := (Upd.refl (fun j => bg = j) w).setCell (p := ⟨bg, k, none⟩) (.inl rfl) _
    have h1 := own_upd h.own.row hu' fun j hj hbj => own_own_ne h.own.row (h.own.byt m hmem) (by decide) hj (by rw [hb, hbj])
    have he : rowCells (ms.set i ⟨m.N, m.v, m.l.set k b⟩) = rowCells ms := by
      rw [rowCells_set]
      simp only
      rw [set_getElem?_self (rowCells_n hm), set_getElem?_self (rowCells_v hm)]
    rw [he]
    exact h1
  · have h1 := h.own.byt m hmem
    unfold OwnB at h1 ⊢
    rw [hv] at h1 ⊢
    have h2 := (h1.stored k (bv b)).1
    simpa [bvs] using h2

/-- Bytes were put behind a message's bytes, and its slice is stored. -/
theorem Kept.grow {g n c : Nat} {w1 : World} (h : Kept D w (.slice (some ⟨g, 0, none⟩) n c) ms) (hln : ms.length = n) (hm : ms[i]? = some m) (hD : ∀ k, w.heap.size ≤ k → D k)
    (hown : OwnB 0 w1 v' l') (hg : w.grownBy w1 m.v.ownBlock) (hv : v'.ownBlock = m.v.ownBlock ∨ v'.ownBlock = some w.heap.size) :
    Kept D (w1.setCell ⟨g, i * 2 + 1, none⟩ v') (.slice (some ⟨g, 0, none⟩) n c) (ms.set i ⟨m.N, v', l'⟩) ∧ Upd D w (w1.setCell ⟨g, i * 2 + 1, none⟩ v') := by
  subst hln
  have hmem := List.mem_of_getElem? hm
  have hu1 : Upd (fun k => m.v.ownBlock = some k) w w1 := (Upd.refl (fun k => m.v.ownBlock = some k) w).grown hg fun k hk => .inl hk
  have hgl : g < w.heap.size := (h.own.row.lt g rfl).2
  have hne : m.v.ownBlock ≠ some g := fun hk => own_own_ne (h.own.byt m hmem) h.own.row (by decide) hk rfl
  have hu2 : Upd (fun k => some g = some k ∨ m.v.ownBlock = some k) w (w1.setCell ⟨g, i * 2 + 1, none⟩ v') := (hu1.mono fun _ _ hk => .inr hk).setCell (p := ⟨g, i * 2 + 1, none⟩) (.inl (.inl rfl)) _
  have hv2 : ∀ k, v'.ownBlock = some k → m.v.ownBlock = some k ∨ (w.heap.size ≤ k ∧ D k) := by
    intro k hk
    rcases hv with h1 | h1
    · exact .inl (by rw [← h1]; exact hk)
    · rw [h1] at hk
      have : w.heap.size = k := by simpa using hk
      exact .inr ⟨by omega, hD k (by omega)⟩
  refine ⟨h.turn hm hu2 ?_ ?_ hv2, hu2.mono fun j _ hj => h.into j (hj.imp id fun h1 => ⟨m, hmem, h1⟩)⟩
  · have h1 := own_upd h.own.row hu1 fun j hj hbj => own_own_ne h.own.row (h.own.byt m hmem) (by decide) hj hbj
    have h2 := (h1.stored (i * 2 + 1) v').1
    rw [rowCells_set]
    simp only
    rw [set_getElem?_self (rowCells_n hm)]
    exact h2
  · have hu' : Upd (fun j => j = g) w1 (w1.setCell ⟨g, i * 2 + 1, none⟩ v') := (Upd.refl (fun j => j = g) w1).setCell (p := ⟨g, i * 2 + 1, none⟩) (.inl rfl) _
    refine hown.upd hu' fun j hj hjg => ?_
    subst hjg
    rcases hv2 j hj with h1 | h1
    · exact hne h1
    · omega
end

theorem Kept.grow_cell {D : Nat → Prop} {w w1 : World} {ms : List Msg} {i g n c : Nat} {m : Msg} (h : Kept D w (.slice (some ⟨g, 0, none⟩) n c) ms) (hln : ms.length = n) (hm : ms[i]? = some m) (hg : w.grownBy w1 m.v.ownBlock) :
    w1.cell? ⟨g, i * 2 + 1, none⟩ = some m.v ∧ w1.frozen? ⟨g, i * 2 + 1, none⟩ = false := by
  subst hln
  have hmem := List.mem_of_getElem? hm
  have hu1 : Upd (fun k => m.v.ownBlock = some k) w w1 := (Upd.refl (fun k => m.v.ownBlock = some k) w).grown hg fun k hk => .inl hk
  have hne : ¬ m.v.ownBlock = some g := fun hk => own_own_ne (h.own.byt m hmem) h.own.row (by decide) hk rfl
  have hgl : g < w.heap.size := (h.own.row.lt g rfl).2
  exact ⟨hu1.cell_some (own_at h.own.row (rowCells_v hm)) hne, hu1.free hgl (World.ownsRow.frozenAt h.own.row _) hne⟩

/-- Another wire that is kept. -/
structure KeptW (F : Nat → Prop) (w : World) (V : Wr) (t : WA) : Prop where
  ok : WrOk w V
  abs : V.abs = t
  into : ∀ k, V.foot k → F k
section
variable {F : Nat → Prop} {w w' : World} {V : Wr} {t : WA}
theorem KeptW.upd (h : KeptW F w V t) (hu : Upd (fun k => ¬ F k) w w') : KeptW F w' V t := ⟨h.ok.upd hu fun k hk hn => hn (h.into k hk), h.abs, h.into⟩
theorem KeptW.mono {G : Nat → Prop} (h : KeptW F w V t) (hG : ∀ k, F k → G k) : KeptW G w V t := ⟨h.ok, h.abs, fun k hk => hG k (h.into k hk)⟩
theorem KeptW.at_ (h : KeptW F w V t) : At (fun k => k < w.heap.size ∧ ¬ V.foot k) w V t := ⟨h.ok, h.abs, fun _ hk hF => hF.2 hk, fun _ hF => hF.1⟩
end

/-- Of two wires the first goes on, the second is kept. -/
theorem two_wires {w w1 w2 : World} {W V : Wr} {s t : WA} (hA : At (older w) w1 W s) (hV : At (older w1) w2 V t) (hu : Upd (fun k => ¬ older w1 k) w1 w2) :
    ∃ F : Nat → Prop, (∀ k, older w k → F k) ∧ At F w2 W s ∧ KeptW F w2 V t := by
  refine ⟨rest w2 W, fun k hk => ⟨Nat.lt_of_lt_of_le (hA.old k hk) hu.size, fun hf => hA.far k hf hk⟩, ?_, hV.ok, hV.abs, fun k hk => ⟨hV.ok.lt k hk, fun hf => hV.far k hk (hA.ok.lt k hf)⟩⟩
  exact ⟨hA.ok.upd hu fun k hk hn => hn (hA.ok.lt k hk), hA.abs, fun k hk hF => hF.2 hk, fun _ hF => hF.1⟩

/-- What the law writes into: its first row, the bytes that it was told, new memory; all else is kept. -/
theorem row_apart {F6 F7 G8 G9 : Nat → Prop} {w9 : World} {W V : Wr} {S t : WA} {v8 v9 : Value} {ms8 ms9 : List Msg} {gb : Nat} (h67 : ∀ k, F6 k → F7 k) (h78 : ∀ k, F7 k → G8 k) (h89 : ∀ k, G8 k → G9 k)
    (hb6 : ¬ F6 gb) (hb7 : F7 gb) (hA : At G9 w9 W S) (hV : KeptW F6 w9 V t) (h8 : Kept G8 w9 v8 ms8) (h9 : Kept G9 w9 v9 ms9)
    (hn8 : ∀ k, (v8.ownBlock = some k ∨ ∃ m ∈ ms8, m.v.ownBlock = some k) → ¬ F7 k) (hn9 : ∀ k, (v9.ownBlock = some k ∨ ∃ m ∈ ms9, m.v.ownBlock = some k) → ¬ G8 k) :
    ∃ D F' : Nat → Prop, (∀ k, w9.heap.size ≤ k → D k) ∧ Kept D w9 v8 ms8 ∧ ¬ D gb ∧ (∀ k, W.foot k → ¬ (D k ∨ k = gb)) ∧ (∀ k, F' k → ¬ (D k ∨ k = gb)) ∧ At F' w9 W S ∧ (∀ k, F6 k → F' k) ∧ KeptW F' w9 V t ∧ Kept F' w9 v9 ms9 := by
  have h69 : ∀ k, F6 k → G9 k := fun k hk => h89 k (h78 k (h67 k hk))
  have hs8 : ∀ k, (v8.ownBlock = some k ∨ ∃ m ∈ ms8, m.v.ownBlock = some k) → G9 k := fun k hk => h89 k (h8.into k hk)
  have hgb : gb < w9.heap.size := hA.old gb (h89 gb (h78 gb hb7))
  have h6D : ∀ k, F6 k → ¬ (((v8.ownBlock = some k ∨ ∃ m ∈ ms8, m.v.ownBlock = some k) ∨ w9.heap.size ≤ k) ∨ k = gb) := by
    rintro k hk ((h1 | h1) | rfl)
    · exact hn8 k h1 (h67 k hk)
    · have := hA.old k (h69 k hk); omega
    · exact hb6 hk
  refine ⟨fun k => (v8.ownBlock = some k ∨ ∃ m ∈ ms8, m.v.ownBlock = some k) ∨ w9.heap.size ≤ k, fun k => G9 k ∧ ¬ (((v8.ownBlock = some k ∨ ∃ m ∈ ms8, m.v.ownBlock = some k) ∨ w9.heap.size ≤ k) ∨ k = gb),
    fun k hk => .inr hk, ⟨h8.own, fun k hk => .inl hk⟩, ?_, ?_, fun k hk => hk.2, ?_, fun k hk => ⟨h69 k hk, h6D k hk⟩, hV.mono fun k hk => ⟨h69 k hk, h6D k hk⟩, h9.own, ?_⟩
  · rintro (h1 | h1)
    · exact hn8 gb h1 hb7
    · omega
  · rintro k hk ((h1 | h1) | rfl)
    · exact hA.far k hk (hs8 k h1)
    · have := hA.ok.lt k hk; omega
    · exact hA.far k hk (h89 k (h78 k hb7))
  · exact hA.less fun k hk => hk.1
  · intro k hk
    refine ⟨h9.into k hk, ?_⟩
    rintro ((h1 | h1) | rfl)
    · exact hn9 k hk (h8.into k h1)
    · have := hA.old k (h9.into k hk); omega
    · exact hn9 k hk (h78 k hb7)
theorem At.touched {F D : Nat → Prop} {w w' : World} {W : Wr} {S : WA} (h : At F w W S) (hu : Upd D w w') (hD : ∀ k, W.foot k → ¬ D k) : At F w' W S :=
  ⟨h.ok.upd hu hD, h.abs, h.far, fun k hk => Nat.lt_of_lt_of_le (h.old k hk) hu.size⟩
theorem script_nil (w : World) : ScriptAt w (.slice none 0 0) [] := ⟨none, 0, rfl, Nat.le_refl _, by simp [maxLen], fun i o h => by simp at h⟩

end Go.Proofs.Ytfnlemdlngdaiaa
