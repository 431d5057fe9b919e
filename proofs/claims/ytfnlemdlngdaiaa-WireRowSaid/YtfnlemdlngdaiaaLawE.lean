/-
  WireOrder: a swap changes two places, what goes leaves the order, Next is the first.
-/
import Derived.Test.YtfnlemdlngdaiaaLawD
import Derived.Test.YtfnlemdlngdaiaaLawB
namespace Go.Proofs.Ytfnlemdlngdaiaa
open Go.RowKit

/-- A row of messages that lies where F says; two of them may be the same. -/
structure Rw (F : Nat → Prop) (w : World) (v : Value) (ms : List Msg) : Prop where
  row : w.ownsRow 0 63 2 v ms.length (rowCells ms)
  byt : ∀ m ∈ ms, OwnB 0 w m.v m.l
  into : ∀ k, (v.ownBlock = some k ∨ ∃ m ∈ ms, m.v.ownBlock = some k) → F k
section
variable {F : Nat → Prop} {w w' : World} {v : Value} {ms : List Msg}
theorem Kept.rw_ (h : Kept F w v ms) : Rw F w v ms := ⟨h.own.row, h.own.byt, h.into⟩
theorem Rw.upd (h : Rw F w v ms) (hu : Upd (fun k => ¬ F k) w w') : Rw F w' v ms :=
  ⟨own_upd h.row hu fun k hk hn => hn (h.into k (.inl hk)), fun m hm => (h.byt m hm).upd hu fun k hk hn => hn (h.into k (.inr ⟨m, hm, hk⟩)), h.into⟩
theorem Rw.mono {G : Nat → Prop} (h : Rw F w v ms) (hG : ∀ k, F k → G k) : Rw G w v ms := ⟨h.row, h.byt, fun k hk => hG k (h.into k hk)⟩
theorem Rw.rd (h : Rw F w v ms) : RdM w v ms := by
  refine ⟨?_, fun m hm => (h.byt m hm).rd⟩
  obtain ⟨A, c, rfl, h1, h2, h3, _, h4⟩ := own_form h.row
  refine ⟨A, c, rfl, h1, h2, fun h => (h3 h).1, fun j u hu => ?_⟩
  obtain ⟨g, rfl, hc⟩ := h4 j u hu
  exact ⟨g, 0, rfl, by rw [Nat.zero_add]; exact hc⟩
theorem Rw.cells {g n c i : Nat} {m : Msg} (h : Rw F w (.slice (some ⟨g, 0, none⟩) n c) ms) (hn : ms.length = n) (hm : ms[i]? = some m) :
    w.cell? ⟨g, i * 2, none⟩ = some (.int .i64 m.N) ∧ w.cell? ⟨g, i * 2 + 1, none⟩ = some m.v ∧ w.frozen? ⟨g, i * 2, none⟩ = false ∧ w.frozen? ⟨g, i * 2 + 1, none⟩ = false := by
  subst hn
  exact ⟨own_at h.row (rowCells_n hm), own_at h.row (rowCells_v hm), World.ownsRow.frozenAt h.row _, World.ownsRow.frozenAt h.row _⟩
/-- One place takes what is in another. -/
theorem Rw.set {g n c i k : Nat} {b : Msg} (h : Rw F w (.slice (some ⟨g, 0, none⟩) n c) ms) (hn : ms.length = n) (hb : ms[k]? = some b ∨ OwnB 0 w b.v b.l ∧ ∀ j, b.v.ownBlock = some j → F j) :
    Rw F ((w.setCell ⟨g, i * 2, none⟩ (.int .i64 b.N)).setCell ⟨g, i * 2 + 1, none⟩ b.v) (.slice (some ⟨g, 0, none⟩) n c) (ms.set i b) ∧ Upd (fun j => j = g) w ((w.setCell ⟨g, i * 2, none⟩ (.int .i64 b.N)).setCell ⟨g, i * 2 + 1, none⟩ b.v) := by
  subst hn
  have hb' : OwnB 0 w b.v b.l ∧ ∀ j, b.v.ownBlock = some j → F j := hb.elim (fun h1 => ⟨h.byt b (List.mem_of_getElem? h1), fun j hj => h.into j (.inr ⟨b, List.mem_of_getElem? h1, hj⟩)⟩) id
  have hu : Upd (fun j => j = g) w ((w.setCell ⟨g, i * 2, none⟩ (.int .i64 b.N)).setCell ⟨g, i * 2 + 1, none⟩ b.v) :=
    ((Upd.refl (fun j => j = g) w).setCell (p := ⟨g, i * 2, none⟩) (.inl rfl) _).setCell (p := ⟨g, i * 2 + 1, none⟩) (.inl rfl) _
  have hby : ∀ m ∈ ms.set i b, OwnB 0 w m.v m.l ∧ ∀ j, m.v.ownBlock = some j → F j := fun m hm => by
    rcases List.mem_or_eq_of_mem_set hm with h1 | rfl
    · exact ⟨h.byt m h1, fun j hj => h.into j (.inr ⟨m, h1, hj⟩)⟩
    · exact hb'
  refine ⟨⟨?_, fun m hm => ?_, ?_⟩, hu⟩
  · rw [rowCells_set, List.length_set]
    exact ((h.row.stored (i * 2) (.int .i64 b.N)).1.stored (i * 2 + 1) b.v).1
  · exact (hby m hm).1.upd hu fun j hj hjg => own_own_ne (hby m hm).1 h.row (by decide) hj (by rw [hjg]; rfl)
  · rintro j (hj | ⟨m, hm, hj⟩)
    · exact h.into j (.inl hj)
    · exact (hby m hm).2 j hj
theorem RdM.take_ {A : Option Addr} {n c k : Nat} (h : RdM w (.slice A n c) ms) (hk : k ≤ ms.length) : RdM w (.slice A k c) (ms.take k) := by
  obtain ⟨A', c', e, h1, h2, h3, h4⟩ := h.form
  simp only [Value.slice.injEq] at e
  obtain ⟨rfl, rfl, rfl⟩ := e
  have hl : (ms.take k).length = k := by rw [List.length_take]; omega
  refine ⟨⟨A, c, by rw [hl], by omega, h2, fun h => by have := h3 h; omega, fun j u hj => h4 j u ?_⟩, fun m hm => h.byt m (List.mem_of_mem_take hm)⟩
  have e : rowCells ms = rowCells (ms.take k) ++ rowCells (ms.drop k) := by rw [← rowCells_append, List.take_append_drop]
  rw [e, List.getElem?_append_left (List.getElem?_eq_some_iff.1 hj).1]
  exact hj
theorem RdM.drop_ {g o n c k : Nat} (h : RdM w (.slice (some ⟨g, o, none⟩) n c) ms) (hk : k ≤ ms.length) : RdM w (.slice (some ⟨g, o + k * 2, none⟩) (n - k) (c - k)) (ms.drop k) := by
  obtain ⟨A', c', e, h1, h2, h3, h4⟩ := h.form
  simp only [Value.slice.injEq] at e
  obtain ⟨rfl, rfl, rfl⟩ := e
  have hl : (ms.drop k).length = ms.length - k := List.length_drop
  refine ⟨⟨_, _, by rw [hl], by omega, by omega, (fun h => by cases h), fun j u hj => ?_⟩, fun m hm => h.byt m (List.mem_of_mem_drop hm)⟩
  have e : rowCells ms = rowCells (ms.take k) ++ rowCells (ms.drop k) := by rw [← rowCells_append, List.take_append_drop]
  have ht : (rowCells (ms.take k)).length = k * 2 := by rw [rowCells_length, List.length_take]; omega
  obtain ⟨g', o', he, hc⟩ := h4 (k * 2 + j) u (by rw [e, List.getElem?_append_right (by omega), ht, Nat.add_sub_cancel_left]; exact hj)
  simp only [Option.some.injEq, Addr.mk.injEq, and_true] at he
  obtain ⟨rfl, rfl⟩ := he
  exact ⟨_, _, rfl, by rw [Nat.add_assoc]; exact hc⟩
end

theorem rem_in (a : Int) {n : Nat} (h0 : 0 < n) (h1 : n ≤ 4001) : ∃ i : Nat, i < n ∧ wrap64 ((IntKind.u64.wrap a).tmod n) = i := by
  have hnn : 0 ≤ IntKind.u64.wrap a := by simp only [IntKind.wrap, IntKind.signed]; exact Int.emod_nonneg _ (by decide)
  rw [Int.tmod_eq_emod_of_nonneg hnn]
  have h2 := Int.emod_nonneg (IntKind.u64.wrap a) (show (n : Int) ≠ 0 by omega)
  have h3 := Int.emod_lt_of_pos (IntKind.u64.wrap a) (show (0 : Int) < n by omega)
  generalize IntKind.u64.wrap a % (n : Int) = x at *
  refine ⟨x.toNat, by omega, ?_⟩
  rw [show wrap64 x = x by unfold wrap64; omega]
  omega

theorem Rw.swap {F : Nat → Prop} {w : World} {ms : List Msg} {g n c i k : Nat} {a b : Msg} (h : Rw F w (.slice (some ⟨g, 0, none⟩) n c) ms) (hn : ms.length = n) (ha : ms[i]? = some a) (hb : ms[k]? = some b) (o : Obj) :
    Rw F (((((w.setCell ⟨g, i * 2, none⟩ (.int .i64 b.N)).setCell ⟨g, i * 2 + 1, none⟩ b.v).setCell ⟨g, k * 2, none⟩ (.int .i64 a.N)).setCell ⟨g, k * 2 + 1, none⟩ a.v).alloc o) (.slice (some ⟨g, 0, none⟩) n c) ((ms.set i b).set k a) ∧
    Upd (fun j => j = g) w (((((w.setCell ⟨g, i * 2, none⟩ (.int .i64 b.N)).setCell ⟨g, i * 2 + 1, none⟩ b.v).setCell ⟨g, k * 2, none⟩ (.int .i64 a.N)).setCell ⟨g, k * 2 + 1, none⟩ a.v).alloc o) := by
  obtain ⟨h1, u1⟩ := h.set (i := i) hn (.inl hb)
  have hba := h.byt a (List.mem_of_getElem? ha)
  obtain ⟨h2, u2⟩ := h1.set (i := k) (k := 0) (b := a) (by rw [List.length_set]; exact hn) (.inr ⟨hba.upd u1 fun j hj hjg => own_own_ne hba h.row (by decide) hj (by rw [hjg]; rfl), fun j hj => h.into j (.inr ⟨a, List.mem_of_getElem? ha, hj⟩)⟩)
  have u3 := (Upd.refl noBlk ((((w.setCell ⟨g, i * 2, none⟩ (.int .i64 b.N)).setCell ⟨g, i * 2 + 1, none⟩ b.v).setCell ⟨g, k * 2, none⟩ (.int .i64 a.N)).setCell ⟨g, k * 2 + 1, none⟩ a.v)).alloc o
  exact ⟨h2.upd (u3.of_none _), (u1.trans_same u2).trans_same (u3.of_none _)⟩

theorem at_waits2 {F : Nat → Prop} {w : World} {W : Wr} {s : WA} (h : At F w W s) : Calls Try.prog 33 #[.pointer (some ⟨W.p, 0, none⟩)] w fun e w' =>
    ∃ (v : Value) (ms : List Msg) (G : Nat → Prop), e = .returned v ∧ ms.map Msg.abs = s.row ∧ (∀ k, F k → G k) ∧ At G w' W s ∧ Kept G w' v ms ∧ Upd noBlk w w' ∧ ∀ k, (v.ownBlock = some k ∨ ∃ m ∈ ms, m.v.ownBlock = some k) → ¬ F k := by
  have hc := waiting_any W w h.ok
  rw [h.abs] at hc
  refine hc.mono ?_
  rintro e w' ⟨v, ms, rfl, ho, hm, hu⟩
  have h' := h.none hu
  exact ⟨v, ms, _, rfl, hm, at_into h', at_rest h', ⟨ho.mono (Nat.zero_le _), fun k hk => ⟨(ho.lt k hk).2, fun hf => by have := h.ok.lt k hf; have := (ho.lt k hk).1; omega⟩⟩, hu, fun k hk hF => by have := (ho.lt k hk).1; have := h.old k hF; omega⟩

theorem abs_swapped {ms : List Msg} {S : WA} {i k : Nat} {a b : Msg} (hm : ms.map Msg.abs = S.row) (ha : ms[i]? = some a) (hb : ms[k]? = some b) : ((ms.set i b).set k a).map Msg.abs = (S.swapped i k).row := by
  have h1 : S.row[i]? = some a.abs := by rw [← hm, List.getElem?_map, ha]; rfl
  have h2 : S.row[k]? = some b.abs := by rw [← hm, List.getElem?_map, hb]; rfl
  unfold WA.swapped
  rw [WA.get_of h1, WA.get_of h2, ← hm, List.map_set, List.map_set]
theorem at_swapped {ms : List Msg} {i k : Nat} {a b : Msg} (ha : ms[i]? = some a) (hb : ms[k]? = some b) : ((ms.set i b).set k a)[i]? = some b := by
  rw [List.getElem?_set]
  split
  · rename_i h
    subst h
    rw [ha] at hb
    have := (List.getElem?_eq_some_iff.1 ha).1
    simp only [List.length_set]
    rw [if_pos this, hb]
  · rw [List.getElem?_set_self (List.getElem?_eq_some_iff.1 ha).1]

theorem RdM.drop_if {w : World} {ms : List Msg} {g n c k : Nat} (h : RdM w (.slice (some ⟨g, 0, none⟩) n c) ms) (hk : k ≤ ms.length) : RdM w (.slice (if c = k then some ⟨g, 0, none⟩ else some ⟨g, k * 2, none⟩) (n - k) (c - k)) (ms.drop k) := by
  have h2 := h.drop_ hk
  rw [Nat.zero_add] at h2
  split
  · rename_i hck
    obtain ⟨A, c', e, h3, h4, -, -⟩ := h.form
    simp only [Value.slice.injEq] at e
    obtain ⟨-, e2, e3⟩ := e
    have e0 : ms.drop k = [] := List.drop_of_length_le (by omega)
    have e4 : n - k = 0 := by omega
    have e5 : c - k = 0 := by omega
    rw [e0, e4, e5]
    exact ⟨⟨_, 0, rfl, Nat.zero_le _, Nat.zero_le _, fun _ => rfl, fun j u hj => by simp [rowCells] at hj⟩, by simp⟩
  · exact h2
theorem RdM.drop_nil {w : World} {ms : List Msg} (h : RdM w (.slice none 0 0) ms) (k : Nat) : RdM w (.slice none 0 0) (ms.drop k) := by
  obtain ⟨A, c', e, -⟩ := h.form
  simp only [Value.slice.injEq] at e
  have : ms = [] := List.eq_nil_of_length_eq_zero e.2.1.symm
  subst this
  simpa using h
theorem gone_parts {ms ms' : List Msg} {i : Nat} (h : ms.map Msg.abs = (ms'.map Msg.abs).eraseIdx i) (hi : i < ms'.length) :
    (ms.take i).map Msg.abs = (ms'.take i).map Msg.abs ∧ (ms.drop i).map Msg.abs = (ms'.drop (i + 1)).map Msg.abs ∧ ms.length + 1 = ms'.length := by
  have hl : ((ms'.map Msg.abs).take i).length = i := by rw [List.length_take, List.length_map]; omega
  have h2 := congrArg List.length h
  rw [List.length_eraseIdx_of_lt (by simpa using hi), List.length_map, List.length_map] at h2
  rw [List.eraseIdx_eq_take_drop_succ] at h
  refine ⟨?_, ?_, by omega⟩
  · rw [List.map_take, List.map_take, h, List.take_left' hl]
  · rw [List.map_drop, List.map_drop, h, List.drop_left' hl]

set_option maxRecDepth 100000 in
set_option maxHeartbeats 16000000 in
theorem order_true (v : Value) (a b : Int) (os : List OpD) (w : World) (hs : ScriptAt w v os) : Calls Try.prog 13 #[v, .int .i64 a, .int .i64 b] w (TrueP w) := by
  have hv : ∃ A l c, v = .slice A l c := by obtain ⟨A, c, e, -⟩ := hs.form; exact ⟨A, _, c, e⟩
  obtain ⟨vA, vl, vc, rfl⟩ := hv
  replace hs := Lib.hid hs
  go_enter Try.func13, Try.ntmps13
  go_wp2_with fail
  refine (begun_any _ os w hs.out).mono ?_
  clear hs
  rintro e w3 ⟨W3, s, rfl, hs, hg, hA, U3⟩
  have hso : s.Ok := by rw [hs]; exact WA.Ok.nil.play _
  clear hs
  have hSo := hso.add [1, 2, 3, 4, 5]
  have hSg : (s.add [1, 2, 3, 4, 5]).given ≤ 4001 := by simp only [WA.add]; omega
  have hlen0 : 0 < (s.add [1, 2, 3, 4, 5]).row.length := by simp [WA.add]
  generalize s.given + 1 = last
  generalize s.add [1, 2, 3, 4, 5] = S at *
  clear hso hg s
  have hlen1 := Nat.le_trans (at_many hA) hSg
  replace hA := Lib.hid hA
  replace U3 := Lib.hid U3
  replace hSo := Lib.hid hSo
  replace hSg := Lib.hid hSg
  go_wp2_with fail
  refine (at_waits2 hA.out).mono ?_
  rintro e w4 ⟨v4, ms4, G4, rfl, hm4, hF4, hA4, hK4, hu4, hnew⟩
  have U4 := Lib.hid (U3.out.trans_same (hu4.of_none _))
  obtain ⟨A4, c4, rfl, hc41, hc42, -⟩ := own_form hK4.own.row
  simp only [maxLen] at hc42
  have hml : ms4.length = S.row.length := by rw [← hm4, List.length_map]
  obtain ⟨m0, hm0⟩ : ∃ m0, ms4[0]? = some m0 := ⟨_, List.getElem?_eq_getElem (by omega)⟩
  obtain ⟨g4, o4, c4', he4, hn4, -, -⟩ := hK4.rd.at_ hm0
  simp only [Value.slice.injEq, true_and, Nat.zero_mul, Nat.add_zero] at he4 hn4
  obtain ⟨rfl, rfl⟩ := he4
  have ho4 : o4 = 0 := by
    obtain ⟨A, c, e, -, -, -, h5, -⟩ := own_form hK4.own.row
    simp only [Value.slice.injEq, true_and] at e
    obtain ⟨rfl, rfl⟩ := e
    have := (h5 g4).1 rfl
    simpa using this
  subst ho4
  have hg4o : ¬ older w g4 := hnew g4 (.inl rfl)
  clear hnew
  replace hg4o := Lib.hid hg4o
  have hnx : S.next = (m0.N : Int) := by
    unfold WA.next
    rw [← hm4]
    cases ms4 with
    | nil => simp at hm0
    | cons x xs => simp at hm0; subst hm0; rfl
  replace hm4 := Lib.hid hm4
  replace hF4 := Lib.hid hF4
  replace hA4 := Lib.hid hA4
  replace hK4 := Lib.hid hK4
  replace hnx := Lib.hid hnx
  replace hml := Lib.hid hml
  rw [← hml.out] at hlen0 hlen1
  generalize hnl : ms4.length = nl at *
  replace hnl := Lib.hid hnl
  clear hA U3 hu4
  go_wp2_with fail
  have hc := next_any W3 w4 hA4.out.ok
  rw [hA4.out.abs, hnx.out] at hc
  refine hc.mono ?_
  clear hc
  rintro e w' ⟨rfl, rfl⟩
  go_wp2_with fail
  obtain ⟨i, hi, ei⟩ := rem_in a hlen0 hlen1
  obtain ⟨k, hk, ek⟩ := rem_in b hlen0 hlen1
  rw [ei, ek]
  clear ei ek hm0 hn4
  have hml4 := hnl.out
  obtain ⟨mi, hmi⟩ : ∃ m, ms4[i]? = some m := ⟨_, List.getElem?_eq_getElem (by omega)⟩
  obtain ⟨mk, hmk⟩ : ∃ m, ms4[k]? = some m := ⟨_, List.getElem?_eq_getElem (by omega)⟩
  have hri : S.row[i]? = some mi.abs := by rw [← hm4.out, List.getElem?_map, hmi]; rfl
  have hrk : S.row[k]? = some mk.abs := by rw [← hm4.out, List.getElem?_map, hmk]; rfl
  have hR4 := hK4.out.rw_
  obtain ⟨hni, -, -, -⟩ := hR4.cells hml4 hmi
  obtain ⟨hnk, -, -, -⟩ := hR4.cells hml4 hmk
  have es : S.swap (mi.N : Int) (mk.N : Int) = (S.swapped i k, 0) := WA.swap_ok hSo.out hri hrk
  replace hmi := Lib.hid hmi
  replace hmk := Lib.hid hmk
  replace hri := Lib.hid hri
  replace hrk := Lib.hid hrk
  replace es := Lib.hid es
  replace hR4 := Lib.hid hR4
  clear hml4 hK4
  have hS : w4.drew.cell? ⟨g4, i * 2, none⟩ = some (.int .i64 mi.N) ∧ w4.drew.cell? ⟨g4, k * 2, none⟩ = some (.int .i64 mk.N) := ⟨hni, hnk⟩
  refine wp_region_L (n := 13) (fun w' : World => w'.cell? ⟨g4, i * 2, none⟩ = some (.int .i64 mi.N) ∧ w'.cell? ⟨g4, k * 2, none⟩ = some (.int .i64 mk.N)) [] [0, 1, 2, 3, 4, 5, 6, 7, 8, 9, 10, 12] (by kernel_rfl) rfl ?_
  refine AnyL.pure (i := 0) (v := ?_) (some 53) rfl rfl (by kernel_rfl) (by kernel_rfl) (by kernel_rfl) rfl (fun _ _ _ h => h) (by rfl) (fun ww => ?_) ?_; rotate_left; · (go_simp; (try with_reducible rfl))
  refine AnyL.pure (i := 1) (v := ?_) (some 54) rfl rfl (by kernel_rfl) (by kernel_rfl) (by kernel_rfl) rfl (fun _ _ _ h => h) (by rfl) (fun ww => ?_) ?_; rotate_left; · (go_simp; (try with_reducible rfl))
  refine AnyL.pure (i := 2) (v := ?_) (some 55) rfl rfl (by kernel_rfl) (by kernel_rfl) (by kernel_rfl) rfl (fun _ _ _ h => h) (by rfl) (fun ww => ?_) ?_; rotate_left; · (go_simp; (try with_reducible rfl))
  refine AnyL.pure (i := 3) (v := ?_) (some 56) rfl rfl (by kernel_rfl) (by kernel_rfl) (by kernel_rfl) rfl (fun _ _ _ h => h) (by rfl) (fun ww => ?_) ?_; rotate_left; · (go_simp; (try with_reducible rfl))
  refine AnyL.pure (i := 4) (v := ?_) (some 57) rfl rfl (by kernel_rfl) (by kernel_rfl) (by kernel_rfl) rfl (fun _ _ _ h => h) (by rfl) (fun ww => ?_) ?_; rotate_left; · (go_simp; (try with_reducible rfl))
  refine AnyL.take (i := 5) (v := ?_) (some 58) rfl rfl (by kernel_rfl) (by kernel_rfl) (by kernel_rfl) rfl (by kernel_rfl) (fun _ _ _ h => h) (by rfl) (fun ww hww => ?_) hS ?_; rotate_left; · (obtain ⟨hs0, hs1⟩ := hww; go_simp; (try with_reducible rfl))
  refine AnyL.pure (i := 6) (v := ?_) (some 59) rfl rfl (by kernel_rfl) (by kernel_rfl) (by kernel_rfl) rfl (fun _ _ _ h => h) (by rfl) (fun ww => ?_) ?_; rotate_left; · (go_simp; (try with_reducible rfl))
  refine AnyL.pure (i := 7) (v := ?_) (some 60) rfl rfl (by kernel_rfl) (by kernel_rfl) (by kernel_rfl) rfl (fun _ _ _ h => h) (by rfl) (fun ww => ?_) ?_; rotate_left; · (go_simp; (try with_reducible rfl))
  refine AnyL.pure (i := 8) (v := ?_) (some 61) rfl rfl (by kernel_rfl) (by kernel_rfl) (by kernel_rfl) rfl (fun _ _ _ h => h) (by rfl) (fun ww => ?_) ?_; rotate_left; · (go_simp; (try with_reducible rfl))
  refine AnyL.pure (i := 9) (v := ?_) (some 62) rfl rfl (by kernel_rfl) (by kernel_rfl) (by kernel_rfl) rfl (fun _ _ _ h => h) (by rfl) (fun ww => ?_) ?_; rotate_left; · (go_simp; (try with_reducible rfl))
  refine AnyL.take (i := 10) (v := ?_) (some 63) rfl rfl (by kernel_rfl) (by kernel_rfl) (by kernel_rfl) rfl (by kernel_rfl) (fun _ _ _ h => h) (by rfl) (fun ww hww => ?_) hS ?_; rotate_left; · (obtain ⟨hs0, hs1⟩ := hww; go_simp; (try with_reducible rfl))
  simp only [Act.put, List.setIfInBounds_toArray]; try simp only [List.set_cons_zero, List.set_cons_succ]
  refine AnyL.last (i := 11) (by kernel_rfl) rfl rfl rfl (fun K hK => ?_)
  go_simp
  have hA5 := Lib.hid (hA4.out.drewN 1)
  have hR5 := Lib.hid (hR4.out.upd ((Upd.refl _ w4).drewN 1))
  have U5 := Lib.hid (U4.out.drewN 1)
  clear hA4 hR4 U4
  change Calls Try.prog 22 _ (w4.drewN 1) _
  generalize w4.drewN 1 = w5 at *
  have hc := hA5.out.does (swap_any W3 mi.N mk.N w5 hA5.out.ok)
  rw [hA5.out.abs, es.out] at hc
  refine hc.mono ?_
  clear hc hS hni hnk
  rintro e w6 ⟨W6, rfl, hp6, hA6, hu6⟩
  have U6 := Lib.hid (U5.out.trans_same (hu6.mono fun j _ hj ho => hj (hF4.out j ho)))
  have hR6 := Lib.hid (hR5.out.upd hu6)
  replace hA6 := Lib.hid hA6
  clear hA5 hR5 U5 hu6
  rw [← hp6]
  replace hp6 := Lib.hid hp6
  refine hK _ _ ?_; clear hK K
  refine AnyL.pure (i := 12) (v := ?_) (some 13) rfl rfl (by kernel_rfl) (by kernel_rfl) (by kernel_rfl) rfl (fun _ _ _ h => h) (by rfl) (fun ww => ?_) ?_; rotate_left; · (go_simp; (try with_reducible rfl))
  refine AnyL.done (by kernel_rfl) ?_
  obtain ⟨ci0, ci1, fi0, fi1⟩ := hR6.out.cells hnl.out hmi.out
  obtain ⟨ck0, ck1, fk0, fk1⟩ := hR6.out.cells hnl.out hmk.out
  obtain ⟨Ai, cai, hvi, -⟩ := own_form (hR6.out.byt mi (List.mem_of_getElem? hmi.out))
  obtain ⟨Ak, cak, hvk, -⟩ := own_form (hR6.out.byt mk (List.mem_of_getElem? hmk.out))
  rw [hvi] at ci1
  rw [hvk] at ck1
  have hg6 : g4 < w6.heap.size := World.block_lt_of_cell? w6 _ ci0
  have hne : ¬ g4 = w6.heap.size := by omega
  replace hvi := Lib.hid hvi
  replace hvk := Lib.hid hvk
  generalize hli : mi.l.length = li at *
  generalize hlk : mk.l.length = lk at *
  replace hli := Lib.hid hli
  replace hlk := Lib.hid hlk
  by_cases hik : i = k
  · subst hik
    obtain rfl : mi = mk := Option.some.inj (hmi.out.symm.trans hmk.out)
    go_wp2_with fail

    have hsw := hR6.out.swap hnl.out hmi.out hmk.out (.cells #[.int .i64 mi.N, .slice Ai li cai] 63)
    rw [hvi.out] at hsw
    obtain ⟨hR7, hu7⟩ := hsw
    have hm7 := abs_swapped hm4.out hmi.out hmk.out
    have h7i := at_swapped hmi.out hmk.out
    have hA7 := hA6.out.write hu7 fun j hj => .inl (by rw [hj]; exact hR6.out.into g4 (.inl rfl))
    have U7 := U6.out.trans_same (hu7.mono fun j _ hj => by rw [hj]; exact hg4o.out)
    have hl7 : ((ms4.set i mi).set i mi).length = nl := by simp [hnl.out]
    have hO7 := hSo.out.swapped (i := i) (k := i) (by rw [← hml.out]; exact hi) (by rw [← hml.out]; exact hk)
    generalize (ms4.set i mi).set i mi = ms7 at *
    generalize S.swapped i i = S7 at *
    generalize World.alloc _ _ = w7 at *
    replace hR7 := Lib.hid hR7
    replace hm7 := Lib.hid hm7
    replace h7i := Lib.hid h7i
    replace hA7 := Lib.hid hA7
    replace U7 := Lib.hid U7
    replace hl7 := Lib.hid hl7
    replace hO7 := Lib.hid hO7
    clear ci0 ci1 fi0 fi1 ck0 ck1 fk0 fk1 hvi hvk hli hlk hA6 hR6 U6 hu7 es
    refine (at_waits hA7.out).mono ?_
    rintro e w8 ⟨v8, ms8, G8, rfl, hm8, hF8, hA8, hK8, hu8⟩
    have U8 := Lib.hid (U7.out.trans_same (hu8.of_none _))
    have hR8 := Lib.hid ((hR7.out.upd (hu8.of_none _)).mono hF8)
    have hO8 := Lib.hid (fun k h => hF8 k (hF4.out k h))
    obtain ⟨A8, c8, rfl, -⟩ := own_form hK8.own.row
    replace hm8 := Lib.hid hm8
    replace hA8 := Lib.hid hA8
    replace hK8 := Lib.hid hK8
    clear hA7 hR7 U7 hu8 hF8 hF4
    go_wp2_with fail
    refine (rows_any _ _ ms8 ms7 w8 hK8.out.rd hR8.out.rd).mono ?_
    rintro e w' ⟨rfl, q, rfl⟩
    rw [decide_eq_true (show ms8.map Msg.abs = ms7.map Msg.abs by rw [hm8.out, hm7.out])]
    have hA9 := Lib.hid (hA8.out.drewN q)
    have hR9 := Lib.hid (hR8.out.upd ((Upd.refl _ w8).drewN q))
    have U9 := Lib.hid (U8.out.drewN q)
    obtain ⟨W9, hW9⟩ : ∃ W, W = W6 := ⟨_, rfl⟩
    rw [← hW9] at hA9 ⊢
    clear hA8 hR8 U8 hK8 hm8 hW9
    generalize w8.drewN q = w9 at *
    obtain ⟨ci0, -, -, -⟩ := hR9.out.cells hl7.out h7i.out
    have h7a : S7.row[i]? = some (mi.N, mi.l) := by rw [← hm7.out, List.getElem?_map, h7i.out]; rfl
    have ed : S7.drop (mi.N : Int) = (S7.gone i, 0) := by unfold WA.drop; rw [show S7.find (mi.N : Int) = some i from WA.find_of hO7.out h7a]
    have el : S7.look (mi.N : Int) = (mi.l, 0) := WA.look_of hO7.out h7a
    replace ed := Lib.hid ed
    replace el := Lib.hid el
    replace h7a := Lib.hid h7a
    go_wp2_with fail
    have hc := take_any W9 mi.N w9 hA9.out.ok
    rw [hA9.out.abs, ed.out, el.out] at hc
    refine hc.mono ?_
    clear hc ci0
    rintro e w10 ⟨v10, W10, rfl, ho10, hon, hab, -⟩
    have hA10 := Lib.hid (hA9.out.onward hon hab)
    have U10 := Lib.hid (U9.out.trans_same ((hA9.out.upd hon).mono fun j _ hj ho => hj (hO8.out j ho)))
    have hR10 := Lib.hid (hR9.out.upd (hA9.out.upd hon))
    have hx10 := Lib.hid ho10.rd
    obtain ⟨A10, c10, rfl, -⟩ := own_form ho10
    rw [← hon.same]
    clear hon hab ho10 hA9 hR9 U9 ed el
    go_wp2_with fail
    refine (at_waits hA10.out).mono ?_
    rintro e w11 ⟨v11, ms11, G11, rfl, hm11, hF11, hA11, hK11, hu11⟩
    have U11 := Lib.hid (U10.out.trans_same (hu11.of_none _))
    have hR11 := Lib.hid ((hR10.out.upd (hu11.of_none _)).mono hF11)
    have hx11 := Lib.hid (hx10.out.none hu11)
    obtain ⟨ht11, hd11, hl11⟩ := gone_parts (ms := ms11) (ms' := ms7) (i := i) (by rw [hm11, hm7.out]; rfl) (by rw [hl7.out]; exact hi)
    rw [hl7.out] at hl11
    clear hm11
    have hR9' := Lib.hid hR11.out.rd
    have hK11' := Lib.hid hK11.rd
    obtain ⟨-, cv1, -, -⟩ := hR11.out.cells hl7.out h7i.out
    have hb7 := Lib.hid (hR11.out.byt mi (List.mem_of_getElem? h7i.out)).rd
    obtain ⟨A7, c7, hv7, -⟩ := own_form (hR11.out.byt mi (List.mem_of_getElem? h7i.out))
    rw [hv7] at cv1 hb7
    have hform := hK11.own.row.2
    replace ht11 := Lib.hid ht11
    replace hd11 := Lib.hid hd11
    clear hK11 hA11 hA10 U10 hR10 hR11 hu11 hF11 hx10 hv7
    generalize hll : mi.l.length = ll at *
    generalize hln : ms11.length = ln11 at *
    replace hln := Lib.hid hln
    replace hll := Lib.hid hll
    have hic4 : i ≤ c4 := by omega
    have hsub : IntKind.i64.wrap ((nl : Int) - 1) = (ln11 : Int) := by rw [IntKind.wrap_i64]; omega
    rcases hform with ⟨rfl, h0⟩ | ⟨g11, c11, cur11, rfl, -, -, hc111, hc112, -, -⟩
    · obtain rfl : ln11 = 0 := h0
      have hz2 : (1 : Int) ≤ nl := by omega
      have hz3 : 1 ≤ c4 := by omega
      have hz4 : 1 ≤ nl := by omega
      have hw1 : IntKind.i64.wrap 1 = 1 := by decide
      have hi0 : i = 0 := by omega
      subst hi0
      replace hsub : IntKind.i64.wrap ((nl : Int) - 1) = 0 := hsub
      simp only [Nat.zero_mul, Nat.zero_add] at cv1
      go_wp2_with fail
      have hS : w11.drew.cell? ⟨g4, 1, none⟩ = some (.slice A7 ll c7) := cv1
      refine wp_region_L (n := 30) (fun w' : World => w'.cell? ⟨g4, 1, none⟩ = some (.slice A7 ll c7)) [27] [0, 1, 2, 3, 4, 5, 6, 7, 8, 10, 11, 12, 13, 14, 15, 16, 17, 18, 19, 20, 21, 22, 23, 24, 25, 26, 28, 29] (by kernel_rfl) rfl ?_
      refine AnyL.pure (i := 0) (v := ?_) (some 102) rfl rfl (by kernel_rfl) (by kernel_rfl) (by kernel_rfl) rfl (fun _ _ _ h => h) (by rfl) (fun ww => ?_) ?_; rotate_left; · (go_simp; (try with_reducible rfl))
      refine AnyL.pure (i := 1) (v := ?_) (some 103) rfl rfl (by kernel_rfl) (by kernel_rfl) (by kernel_rfl) rfl (fun _ _ _ h => h) (by rfl) (fun ww => ?_) ?_; rotate_left; · (go_simp; (try with_reducible rfl))
      refine AnyL.pure (i := 2) (v := ?_) (some 104) rfl rfl (by kernel_rfl) (by kernel_rfl) (by kernel_rfl) rfl (fun _ _ _ h => h) (by rfl) (fun ww => ?_) ?_; rotate_left; · (go_simp; (try with_reducible rfl))
      simp only [Act.put, List.setIfInBounds_toArray]; try simp only [List.set_cons_zero, List.set_cons_succ]
      refine AnyL.pure (i := 3) (v := ?_) (some 105) rfl rfl (by kernel_rfl) (by kernel_rfl) (by kernel_rfl) rfl (fun _ _ _ h => h) (by kernel_rfl) (fun ww => ?_) ?_; rotate_left; · (go_simp; (try with_reducible rfl))
      simp only [Act.put, List.setIfInBounds_toArray]; try simp only [List.set_cons_zero, List.set_cons_succ]
      refine AnyL.pure (i := 4) (v := ?_) (some 106) rfl rfl (by kernel_rfl) (by kernel_rfl) (by kernel_rfl) rfl (fun _ _ _ h => h) (by kernel_rfl) (fun ww => ?_) ?_; rotate_left; · (go_simp; (try with_reducible rfl))
      simp only [Act.put, List.setIfInBounds_toArray]; try simp only [List.set_cons_zero, List.set_cons_succ]
      refine AnyL.pure (i := 5) (v := ?_) (some 107) rfl rfl (by kernel_rfl) (by kernel_rfl) (by kernel_rfl) rfl (fun _ _ _ h => h) (by kernel_rfl) (fun ww => ?_) ?_; rotate_left; · (go_simp; (try with_reducible rfl))
      simp only [Act.put, List.setIfInBounds_toArray]; try simp only [List.set_cons_zero, List.set_cons_succ]
      refine AnyL.pure (i := 6) (v := ?_) (some 108) rfl rfl (by kernel_rfl) (by kernel_rfl) (by kernel_rfl) rfl (fun _ _ _ h => h) (by kernel_rfl) (fun ww => ?_) ?_; rotate_left; · (go_simp; (try with_reducible rfl))
      simp only [Act.put, List.setIfInBounds_toArray]; try simp only [List.set_cons_zero, List.set_cons_succ]
      refine AnyL.pure (i := 7) (v := ?_) (some 109) rfl rfl (by kernel_rfl) (by kernel_rfl) (by kernel_rfl) rfl (fun _ _ _ h => h) (by kernel_rfl) (fun ww => ?_) ?_; rotate_left; · (go_simp; (try with_reducible rfl))
      simp only [Act.put, List.setIfInBounds_toArray]; try simp only [List.set_cons_zero, List.set_cons_succ]
      refine AnyL.take (i := 8) (v := ?_) (some 110) rfl rfl (by kernel_rfl) (by kernel_rfl) (by kernel_rfl) rfl (by kernel_rfl) (fun _ _ _ h => h) (by kernel_rfl) (fun ww hww => ?_) hS ?_; rotate_left; · (obtain hs0 := hww; go_simp; (try with_reducible rfl))
      simp only [Act.put, List.setIfInBounds_toArray]; try simp only [List.set_cons_zero, List.set_cons_succ]
      refine AnyL.last (i := 9) (by kernel_rfl) rfl rfl rfl (fun K hK => ?_)
      go_simp
      refine (same_any _ _ mi.l mi.l _ (hx11.out.none ((Upd.refl _ w11).drewN 1)) (hb7.out.none ((Upd.refl _ w11).drewN 1))).mono ?_
      rintro e w' ⟨rfl, q2, rfl⟩
      rw [show decide (mi.l = mi.l) = true from decide_eq_true rfl]
      replace hS : (w11.drew.drewN q2).cell? ⟨g4, 1, none⟩ = some (.slice A7 ll c7) := cv1
      refine hK _ _ ?_; clear hK K
      refine AnyL.pure (i := 10) (v := ?_) (some 112) rfl rfl (by kernel_rfl) (by kernel_rfl) (by kernel_rfl) rfl (fun _ _ _ h => h) (by kernel_rfl) (fun ww => ?_) ?_; rotate_left; · (go_simp; (try with_reducible rfl))
      refine AnyL.pure (i := 11) (v := ?_) (some 113) rfl rfl (by kernel_rfl) (by kernel_rfl) (by kernel_rfl) rfl (fun _ _ _ h => h) (by rfl) (fun ww => ?_) ?_; rotate_left; · (go_simp; (try with_reducible rfl))
      refine AnyL.pure (i := 12) (v := ?_) (some 114) rfl rfl (by kernel_rfl) (by kernel_rfl) (by kernel_rfl) rfl (fun _ _ _ h => h) (by rfl) (fun ww => ?_) ?_; rotate_left; · (go_simp; (try with_reducible rfl))
      simp only [Act.put, List.setIfInBounds_toArray]; try simp only [List.set_cons_zero, List.set_cons_succ]
      refine AnyL.pure (i := 13) (v := ?_) (some 115) rfl rfl (by kernel_rfl) (by kernel_rfl) (by kernel_rfl) rfl (fun _ _ _ h => h) (by kernel_rfl) (fun ww => ?_) ?_; rotate_left; · (go_simp; (try with_reducible rfl))
      simp only [Act.put, List.setIfInBounds_toArray]; try simp only [List.set_cons_zero, List.set_cons_succ]
      refine AnyL.pure (i := 14) (v := ?_) (some 116) rfl rfl (by kernel_rfl) (by kernel_rfl) (by kernel_rfl) rfl (fun _ _ _ h => h) (by kernel_rfl) (fun ww => ?_) ?_; rotate_left; · (go_simp; (try with_reducible rfl))
      simp only [Act.put, List.setIfInBounds_toArray]; try simp only [List.set_cons_zero, List.set_cons_succ]
      refine AnyL.pure (i := 15) (v := ?_) (some 117) rfl rfl (by kernel_rfl) (by kernel_rfl) (by kernel_rfl) rfl (fun _ _ _ h => h) (by kernel_rfl) (fun ww => ?_) ?_; rotate_left; · (go_simp; (try with_reducible rfl))
      simp only [Act.put, List.setIfInBounds_toArray]; try simp only [List.set_cons_zero, List.set_cons_succ]
      refine AnyL.pure (i := 16) (v := ?_) (some 118) rfl rfl (by kernel_rfl) (by kernel_rfl) (by kernel_rfl) rfl (fun _ _ _ h => h) (by kernel_rfl) (fun ww => ?_) ?_; rotate_left; · (go_simp; (try with_reducible rfl))
      simp only [Act.put, List.setIfInBounds_toArray]; try simp only [List.set_cons_zero, List.set_cons_succ]
      refine AnyL.pure (i := 17) (v := ?_) (some 119) rfl rfl (by kernel_rfl) (by kernel_rfl) (by kernel_rfl) rfl (fun _ _ _ h => h) (by kernel_rfl) (fun ww => ?_) ?_; rotate_left; · (go_simp; (try with_reducible rfl))
      simp only [Act.put, List.setIfInBounds_toArray]; try simp only [List.set_cons_zero, List.set_cons_succ]
      refine AnyL.pure (i := 18) (v := ?_) (some 120) rfl rfl (by kernel_rfl) (by kernel_rfl) (by kernel_rfl) rfl (fun _ _ _ h => h) (by kernel_rfl) (fun ww => ?_) ?_; rotate_left; · (go_simp; (try with_reducible rfl))
      refine AnyL.pure (i := 19) (v := ?_) (some 121) rfl rfl (by kernel_rfl) (by kernel_rfl) (by kernel_rfl) rfl (fun _ _ _ h => h) (by rfl) (fun ww => ?_) ?_; rotate_left; · (go_simp; (try with_reducible rfl))
      refine AnyL.pure (i := 20) (v := ?_) (some 122) rfl rfl (by kernel_rfl) (by kernel_rfl) (by kernel_rfl) rfl (fun _ _ _ h => h) (by rfl) (fun ww => ?_) ?_; rotate_left; · (go_simp; (try with_reducible rfl))
      simp only [Act.put, List.setIfInBounds_toArray]; try simp only [List.set_cons_zero, List.set_cons_succ]
      refine AnyL.pure (i := 21) (v := ?_) (some 123) rfl rfl (by kernel_rfl) (by kernel_rfl) (by kernel_rfl) rfl (fun _ _ _ h => h) (by kernel_rfl) (fun ww => ?_) ?_; rotate_left; · (go_simp; (try with_reducible rfl))
      simp only [Act.put, List.setIfInBounds_toArray]; try simp only [List.set_cons_zero, List.set_cons_succ]
      refine AnyL.pure (i := 22) (v := ?_) (some 124) rfl rfl (by kernel_rfl) (by kernel_rfl) (by kernel_rfl) rfl (fun _ _ _ h => h) (by kernel_rfl) (fun ww => ?_) ?_; rotate_left; · (go_simp; (try with_reducible rfl))
      simp only [Act.put, List.setIfInBounds_toArray]; try simp only [List.set_cons_zero, List.set_cons_succ]
      refine AnyL.pure (i := 23) (v := ?_) (some 125) rfl rfl (by kernel_rfl) (by kernel_rfl) (by kernel_rfl) rfl (fun _ _ _ h => h) (by kernel_rfl) (fun ww => ?_) ?_; rotate_left; · (go_simp; (try with_reducible rfl))
      simp only [Act.put, List.setIfInBounds_toArray]; try simp only [List.set_cons_zero, List.set_cons_succ]
      refine AnyL.pure (i := 24) (v := ?_) (some 126) rfl rfl (by kernel_rfl) (by kernel_rfl) (by kernel_rfl) rfl (fun _ _ _ h => h) (by kernel_rfl) (fun ww => ?_) ?_; rotate_left; · (go_simp; (try with_reducible rfl))
      simp only [Act.put, List.setIfInBounds_toArray]; try simp only [List.set_cons_zero, List.set_cons_succ]
      refine AnyL.pure (i := 25) (v := ?_) (some 127) rfl rfl (by kernel_rfl) (by kernel_rfl) (by kernel_rfl) rfl (fun _ _ _ h => h) (by kernel_rfl) (fun ww => ?_) ?_; rotate_left; · (go_simp; (try with_reducible rfl))
      simp only [Act.put, List.setIfInBounds_toArray]; try simp only [List.set_cons_zero, List.set_cons_succ]
      refine AnyL.pure (i := 26) (v := ?_) (some 128) rfl rfl (by kernel_rfl) (by kernel_rfl) (by kernel_rfl) rfl (fun _ _ _ h => h) (by kernel_rfl) (fun ww => ?_) ?_; rotate_left; · (go_simp; (try with_reducible rfl))
      simp only [Act.put, List.setIfInBounds_toArray]; try simp only [List.set_cons_zero, List.set_cons_succ]
      refine AnyL.step (i := 27) (by kernel_rfl) rfl rfl (fun K hK => ?_)
      go_simp
      refine (rows_any _ _ (ms11.take 0) (ms7.take 0) _ ((hK11'.out.take_ (by rw [hln.out]; omega)).keep ((Upd.refl _ w11).drewN (1 + q2))) ((hR9'.out.take_ (by rw [hl7.out]; omega)).keep ((Upd.refl _ w11).drewN (1 + q2)))).mono ?_
      rintro e w' ⟨rfl, q3, rfl⟩
      rw [show decide ((ms11.take 0).map Msg.abs = (ms7.take 0).map Msg.abs) = true from decide_eq_true ht11.out]
      refine hK _ _ hS ?_; clear hK K
      refine AnyL.pure (i := 28) (v := ?_) (some 130) rfl rfl (by kernel_rfl) (by kernel_rfl) (by kernel_rfl) rfl (fun _ _ _ h => h) (by kernel_rfl) (fun ww => ?_) ?_; rotate_left; · (go_simp; (try with_reducible rfl))
      refine AnyL.pure (i := 29) (v := ?_) (some 131) rfl rfl (by kernel_rfl) (by kernel_rfl) (by kernel_rfl) rfl (fun _ _ _ h => h) (by rfl) (fun ww => ?_) ?_; rotate_left; · (go_simp; (try with_reducible rfl))
      refine AnyL.done (by kernel_rfl) ?_
      go_wp2_with fail
      have hS : True := trivial
      refine wp_region_L (n := 9) (fun _ : World => True) [] [0, 1, 2, 3, 4, 5, 6, 8] (by kernel_rfl) rfl ?_
      refine AnyL.pure (i := 0) (v := ?_) (some 132) rfl rfl (by kernel_rfl) (by kernel_rfl) (by kernel_rfl) rfl (fun _ _ _ h => h) (by rfl) (fun ww => ?_) ?_; rotate_left; · (go_simp; (try with_reducible rfl))
      refine AnyL.pure (i := 1) (v := ?_) (some 133) rfl rfl (by kernel_rfl) (by kernel_rfl) (by kernel_rfl) rfl (fun _ _ _ h => h) (by rfl) (fun ww => ?_) ?_; rotate_left; · (go_simp; (try with_reducible rfl))
      refine AnyL.pure (i := 2) (v := ?_) (some 134) rfl rfl (by kernel_rfl) (by kernel_rfl) (by kernel_rfl) rfl (fun _ _ _ h => h) (by rfl) (fun ww => ?_) ?_; rotate_left; · (go_simp; (try with_reducible rfl))
      refine AnyL.pure (i := 3) (v := ?_) (some 135) rfl rfl (by kernel_rfl) (by kernel_rfl) (by kernel_rfl) rfl (fun _ _ _ h => h) (by rfl) (fun ww => ?_) ?_; rotate_left; · (go_simp; (try with_reducible rfl))
      refine AnyL.pure (i := 4) (v := ?_) (some 136) rfl rfl (by kernel_rfl) (by kernel_rfl) (by kernel_rfl) rfl (fun _ _ _ h => h) (by rfl) (fun ww => ?_) ?_; rotate_left; · (go_simp; (try with_reducible rfl))
      refine AnyL.pure (i := 5) (v := ?_) (some 137) rfl rfl (by kernel_rfl) (by kernel_rfl) (by kernel_rfl) rfl (fun _ _ _ h => h) (by rfl) (fun ww => ?_) ?_; rotate_left; · (go_simp; (try with_reducible rfl))
      refine AnyL.pure (i := 6) (v := ?_) (some 138) rfl rfl (by kernel_rfl) (by kernel_rfl) (by kernel_rfl) rfl (fun _ _ _ h => h) (by rfl) (fun ww => ?_) ?_; rotate_left; · (go_simp; (try with_reducible rfl))
      simp only [Act.put, List.setIfInBounds_toArray]; try simp only [List.set_cons_zero, List.set_cons_succ]
      refine AnyL.last (i := 7) (by kernel_rfl) rfl rfl rfl (fun K hK => ?_)
      go_simp
      refine (rows_any _ _ (ms11.drop 0) (ms7.drop (1)) _ ((RdM.drop_nil hK11'.out 0).keep ((Upd.refl _ w11).drewN (1 + q2 + q3 + 1))) ((RdM.drop_if hR9'.out (by rw [hl7.out]; omega)).keep ((Upd.refl _ w11).drewN (1 + q2 + q3 + 1)))).mono ?_
      rintro e w' ⟨rfl, q4, rfl⟩
      rw [show decide ((ms11.drop 0).map Msg.abs = (ms7.drop (1)).map Msg.abs) = true from decide_eq_true hd11.out]
      refine hK _ _ ?_; clear hK K
      refine AnyL.pure (i := 8) (v := ?_) (some 6) rfl rfl (by kernel_rfl) (by kernel_rfl) (by kernel_rfl) rfl (fun _ _ _ h => h) (by rfl) (fun ww => ?_) ?_; rotate_left; · (go_simp; (try with_reducible rfl))
      refine AnyL.done (by kernel_rfl) ?_
      go_wp2
      all_goals (go_ret; exact ⟨rfl, below_of_old (U11.out.drewN (1 + q2 + q3 + 1 + q4))⟩)
    · simp only [maxLen] at hc112
      have hic11 : i ≤ c11 := by omega
      have hi11 : i ≤ ln11 := by omega
      have hw1 : IntKind.i64.wrap ((i : Int) + 1) = (i : Int) + 1 := by rw [IntKind.wrap_i64]; omega
      have ht1 : ((i : Int) + 1).toNat = i + 1 := by omega
      have hz1 : 0 ≤ (i : Int) + 1 := by omega
      have hz2 : (i : Int) + 1 ≤ nl := by omega
      have hz3 : i + 1 ≤ c4 := by omega
      go_wp2_with fail
      have hS : w11.drew.cell? ⟨g4, i * 2 + 1, none⟩ = some (.slice A7 ll c7) := cv1
      refine wp_region_L (n := 30) (fun w' : World => w'.cell? ⟨g4, i * 2 + 1, none⟩ = some (.slice A7 ll c7)) [27] [0, 1, 2, 3, 4, 5, 6, 7, 8, 10, 11, 12, 13, 14, 15, 16, 17, 18, 19, 20, 21, 22, 23, 24, 25, 26, 28, 29] (by kernel_rfl) rfl ?_
      refine AnyL.pure (i := 0) (v := ?_) (some 102) rfl rfl (by kernel_rfl) (by kernel_rfl) (by kernel_rfl) rfl (fun _ _ _ h => h) (by rfl) (fun ww => ?_) ?_; rotate_left; · (go_simp; (try with_reducible rfl))
      refine AnyL.pure (i := 1) (v := ?_) (some 103) rfl rfl (by kernel_rfl) (by kernel_rfl) (by kernel_rfl) rfl (fun _ _ _ h => h) (by rfl) (fun ww => ?_) ?_; rotate_left; · (go_simp; (try with_reducible rfl))
      refine AnyL.pure (i := 2) (v := ?_) (some 104) rfl rfl (by kernel_rfl) (by kernel_rfl) (by kernel_rfl) rfl (fun _ _ _ h => h) (by rfl) (fun ww => ?_) ?_; rotate_left; · (go_simp; (try with_reducible rfl))
      simp only [Act.put, List.setIfInBounds_toArray]; try simp only [List.set_cons_zero, List.set_cons_succ]
      refine AnyL.pure (i := 3) (v := ?_) (some 105) rfl rfl (by kernel_rfl) (by kernel_rfl) (by kernel_rfl) rfl (fun _ _ _ h => h) (by kernel_rfl) (fun ww => ?_) ?_; rotate_left; · (go_simp; (try with_reducible rfl))
      simp only [Act.put, List.setIfInBounds_toArray]; try simp only [List.set_cons_zero, List.set_cons_succ]
      refine AnyL.pure (i := 4) (v := ?_) (some 106) rfl rfl (by kernel_rfl) (by kernel_rfl) (by kernel_rfl) rfl (fun _ _ _ h => h) (by kernel_rfl) (fun ww => ?_) ?_; rotate_left; · (go_simp; (try with_reducible rfl))
      simp only [Act.put, List.setIfInBounds_toArray]; try simp only [List.set_cons_zero, List.set_cons_succ]
      refine AnyL.pure (i := 5) (v := ?_) (some 107) rfl rfl (by kernel_rfl) (by kernel_rfl) (by kernel_rfl) rfl (fun _ _ _ h => h) (by kernel_rfl) (fun ww => ?_) ?_; rotate_left; · (go_simp; (try with_reducible rfl))
      simp only [Act.put, List.setIfInBounds_toArray]; try simp only [List.set_cons_zero, List.set_cons_succ]
      refine AnyL.pure (i := 6) (v := ?_) (some 108) rfl rfl (by kernel_rfl) (by kernel_rfl) (by kernel_rfl) rfl (fun _ _ _ h => h) (by kernel_rfl) (fun ww => ?_) ?_; rotate_left; · (go_simp; (try with_reducible rfl))
      simp only [Act.put, List.setIfInBounds_toArray]; try simp only [List.set_cons_zero, List.set_cons_succ]
      refine AnyL.pure (i := 7) (v := ?_) (some 109) rfl rfl (by kernel_rfl) (by kernel_rfl) (by kernel_rfl) rfl (fun _ _ _ h => h) (by kernel_rfl) (fun ww => ?_) ?_; rotate_left; · (go_simp; (try with_reducible rfl))
      simp only [Act.put, List.setIfInBounds_toArray]; try simp only [List.set_cons_zero, List.set_cons_succ]
      refine AnyL.take (i := 8) (v := ?_) (some 110) rfl rfl (by kernel_rfl) (by kernel_rfl) (by kernel_rfl) rfl (by kernel_rfl) (fun _ _ _ h => h) (by kernel_rfl) (fun ww hww => ?_) hS ?_; rotate_left; · (obtain hs0 := hww; go_simp; (try with_reducible rfl))
      simp only [Act.put, List.setIfInBounds_toArray]; try simp only [List.set_cons_zero, List.set_cons_succ]
      refine AnyL.last (i := 9) (by kernel_rfl) rfl rfl rfl (fun K hK => ?_)
      go_simp
      refine (same_any _ _ mi.l mi.l _ (hx11.out.none ((Upd.refl _ w11).drewN 1)) (hb7.out.none ((Upd.refl _ w11).drewN 1))).mono ?_
      rintro e w' ⟨rfl, q2, rfl⟩
      rw [show decide (mi.l = mi.l) = true from decide_eq_true rfl]
      replace hS : (w11.drew.drewN q2).cell? ⟨g4, i * 2 + 1, none⟩ = some (.slice A7 ll c7) := cv1
      refine hK _ _ ?_; clear hK K
      refine AnyL.pure (i := 10) (v := ?_) (some 112) rfl rfl (by kernel_rfl) (by kernel_rfl) (by kernel_rfl) rfl (fun _ _ _ h => h) (by kernel_rfl) (fun ww => ?_) ?_; rotate_left; · (go_simp; (try with_reducible rfl))
      refine AnyL.pure (i := 11) (v := ?_) (some 113) rfl rfl (by kernel_rfl) (by kernel_rfl) (by kernel_rfl) rfl (fun _ _ _ h => h) (by rfl) (fun ww => ?_) ?_; rotate_left; · (go_simp; (try with_reducible rfl))
      refine AnyL.pure (i := 12) (v := ?_) (some 114) rfl rfl (by kernel_rfl) (by kernel_rfl) (by kernel_rfl) rfl (fun _ _ _ h => h) (by rfl) (fun ww => ?_) ?_; rotate_left; · (go_simp; (try with_reducible rfl))
      simp only [Act.put, List.setIfInBounds_toArray]; try simp only [List.set_cons_zero, List.set_cons_succ]
      refine AnyL.pure (i := 13) (v := ?_) (some 115) rfl rfl (by kernel_rfl) (by kernel_rfl) (by kernel_rfl) rfl (fun _ _ _ h => h) (by kernel_rfl) (fun ww => ?_) ?_; rotate_left; · (go_simp; (try with_reducible rfl))
      simp only [Act.put, List.setIfInBounds_toArray]; try simp only [List.set_cons_zero, List.set_cons_succ]
      refine AnyL.pure (i := 14) (v := ?_) (some 116) rfl rfl (by kernel_rfl) (by kernel_rfl) (by kernel_rfl) rfl (fun _ _ _ h => h) (by kernel_rfl) (fun ww => ?_) ?_; rotate_left; · (go_simp; (try with_reducible rfl))
      simp only [Act.put, List.setIfInBounds_toArray]; try simp only [List.set_cons_zero, List.set_cons_succ]
      refine AnyL.pure (i := 15) (v := ?_) (some 117) rfl rfl (by kernel_rfl) (by kernel_rfl) (by kernel_rfl) rfl (fun _ _ _ h => h) (by kernel_rfl) (fun ww => ?_) ?_; rotate_left; · (go_simp; (try with_reducible rfl))
      simp only [Act.put, List.setIfInBounds_toArray]; try simp only [List.set_cons_zero, List.set_cons_succ]
      refine AnyL.pure (i := 16) (v := ?_) (some 118) rfl rfl (by kernel_rfl) (by kernel_rfl) (by kernel_rfl) rfl (fun _ _ _ h => h) (by kernel_rfl) (fun ww => ?_) ?_; rotate_left; · (go_simp; (try with_reducible rfl))
      simp only [Act.put, List.setIfInBounds_toArray]; try simp only [List.set_cons_zero, List.set_cons_succ]
      refine AnyL.pure (i := 17) (v := ?_) (some 119) rfl rfl (by kernel_rfl) (by kernel_rfl) (by kernel_rfl) rfl (fun _ _ _ h => h) (by kernel_rfl) (fun ww => ?_) ?_; rotate_left; · (go_simp; (try with_reducible rfl))
      simp only [Act.put, List.setIfInBounds_toArray]; try simp only [List.set_cons_zero, List.set_cons_succ]
      refine AnyL.pure (i := 18) (v := ?_) (some 120) rfl rfl (by kernel_rfl) (by kernel_rfl) (by kernel_rfl) rfl (fun _ _ _ h => h) (by kernel_rfl) (fun ww => ?_) ?_; rotate_left; · (go_simp; (try with_reducible rfl))
      refine AnyL.pure (i := 19) (v := ?_) (some 121) rfl rfl (by kernel_rfl) (by kernel_rfl) (by kernel_rfl) rfl (fun _ _ _ h => h) (by rfl) (fun ww => ?_) ?_; rotate_left; · (go_simp; (try with_reducible rfl))
      refine AnyL.pure (i := 20) (v := ?_) (some 122) rfl rfl (by kernel_rfl) (by kernel_rfl) (by kernel_rfl) rfl (fun _ _ _ h => h) (by rfl) (fun ww => ?_) ?_; rotate_left; · (go_simp; (try with_reducible rfl))
      simp only [Act.put, List.setIfInBounds_toArray]; try simp only [List.set_cons_zero, List.set_cons_succ]
      refine AnyL.pure (i := 21) (v := ?_) (some 123) rfl rfl (by kernel_rfl) (by kernel_rfl) (by kernel_rfl) rfl (fun _ _ _ h => h) (by kernel_rfl) (fun ww => ?_) ?_; rotate_left; · (go_simp; (try with_reducible rfl))
      simp only [Act.put, List.setIfInBounds_toArray]; try simp only [List.set_cons_zero, List.set_cons_succ]
      refine AnyL.pure (i := 22) (v := ?_) (some 124) rfl rfl (by kernel_rfl) (by kernel_rfl) (by kernel_rfl) rfl (fun _ _ _ h => h) (by kernel_rfl) (fun ww => ?_) ?_; rotate_left; · (go_simp; (try with_reducible rfl))
      simp only [Act.put, List.setIfInBounds_toArray]; try simp only [List.set_cons_zero, List.set_cons_succ]
      refine AnyL.pure (i := 23) (v := ?_) (some 125) rfl rfl (by kernel_rfl) (by kernel_rfl) (by kernel_rfl) rfl (fun _ _ _ h => h) (by kernel_rfl) (fun ww => ?_) ?_; rotate_left; · (go_simp; (try with_reducible rfl))
      simp only [Act.put, List.setIfInBounds_toArray]; try simp only [List.set_cons_zero, List.set_cons_succ]
      refine AnyL.pure (i := 24) (v := ?_) (some 126) rfl rfl (by kernel_rfl) (by kernel_rfl) (by kernel_rfl) rfl (fun _ _ _ h => h) (by kernel_rfl) (fun ww => ?_) ?_; rotate_left; · (go_simp; (try with_reducible rfl))
      simp only [Act.put, List.setIfInBounds_toArray]; try simp only [List.set_cons_zero, List.set_cons_succ]
      refine AnyL.pure (i := 25) (v := ?_) (some 127) rfl rfl (by kernel_rfl) (by kernel_rfl) (by kernel_rfl) rfl (fun _ _ _ h => h) (by kernel_rfl) (fun ww => ?_) ?_; rotate_left; · (go_simp; (try with_reducible rfl))
      simp only [Act.put, List.setIfInBounds_toArray]; try simp only [List.set_cons_zero, List.set_cons_succ]
      refine AnyL.pure (i := 26) (v := ?_) (some 128) rfl rfl (by kernel_rfl) (by kernel_rfl) (by kernel_rfl) rfl (fun _ _ _ h => h) (by kernel_rfl) (fun ww => ?_) ?_; rotate_left; · (go_simp; (try with_reducible rfl))
      simp only [Act.put, List.setIfInBounds_toArray]; try simp only [List.set_cons_zero, List.set_cons_succ]
      refine AnyL.step (i := 27) (by kernel_rfl) rfl rfl (fun K hK => ?_)
      go_simp
      refine (rows_any _ _ (ms11.take i) (ms7.take i) _ ((hK11'.out.take_ (by rw [hln.out]; omega)).keep ((Upd.refl _ w11).drewN (1 + q2))) ((hR9'.out.take_ (by rw [hl7.out]; omega)).keep ((Upd.refl _ w11).drewN (1 + q2)))).mono ?_
      rintro e w' ⟨rfl, q3, rfl⟩
      rw [show decide ((ms11.take i).map Msg.abs = (ms7.take i).map Msg.abs) = true from decide_eq_true ht11.out]
      refine hK _ _ hS ?_; clear hK K
      refine AnyL.pure (i := 28) (v := ?_) (some 130) rfl rfl (by kernel_rfl) (by kernel_rfl) (by kernel_rfl) rfl (fun _ _ _ h => h) (by kernel_rfl) (fun ww => ?_) ?_; rotate_left; · (go_simp; (try with_reducible rfl))
      refine AnyL.pure (i := 29) (v := ?_) (some 131) rfl rfl (by kernel_rfl) (by kernel_rfl) (by kernel_rfl) rfl (fun _ _ _ h => h) (by rfl) (fun ww => ?_) ?_; rotate_left; · (go_simp; (try with_reducible rfl))
      refine AnyL.done (by kernel_rfl) ?_
      go_wp2_with fail
      have hS : True := trivial
      refine wp_region_L (n := 9) (fun _ : World => True) [] [0, 1, 2, 3, 4, 5, 6, 8] (by kernel_rfl) rfl ?_
      refine AnyL.pure (i := 0) (v := ?_) (some 132) rfl rfl (by kernel_rfl) (by kernel_rfl) (by kernel_rfl) rfl (fun _ _ _ h => h) (by rfl) (fun ww => ?_) ?_; rotate_left; · (go_simp; (try with_reducible rfl))
      refine AnyL.pure (i := 1) (v := ?_) (some 133) rfl rfl (by kernel_rfl) (by kernel_rfl) (by kernel_rfl) rfl (fun _ _ _ h => h) (by rfl) (fun ww => ?_) ?_; rotate_left; · (go_simp; (try with_reducible rfl))
      refine AnyL.pure (i := 2) (v := ?_) (some 134) rfl rfl (by kernel_rfl) (by kernel_rfl) (by kernel_rfl) rfl (fun _ _ _ h => h) (by rfl) (fun ww => ?_) ?_; rotate_left; · (go_simp; (try with_reducible rfl))
      refine AnyL.pure (i := 3) (v := ?_) (some 135) rfl rfl (by kernel_rfl) (by kernel_rfl) (by kernel_rfl) rfl (fun _ _ _ h => h) (by rfl) (fun ww => ?_) ?_; rotate_left; · (go_simp; (try with_reducible rfl))
      refine AnyL.pure (i := 4) (v := ?_) (some 136) rfl rfl (by kernel_rfl) (by kernel_rfl) (by kernel_rfl) rfl (fun _ _ _ h => h) (by rfl) (fun ww => ?_) ?_; rotate_left; · (go_simp; (try with_reducible rfl))
      refine AnyL.pure (i := 5) (v := ?_) (some 137) rfl rfl (by kernel_rfl) (by kernel_rfl) (by kernel_rfl) rfl (fun _ _ _ h => h) (by rfl) (fun ww => ?_) ?_; rotate_left; · (go_simp; (try with_reducible rfl))
      refine AnyL.pure (i := 6) (v := ?_) (some 138) rfl rfl (by kernel_rfl) (by kernel_rfl) (by kernel_rfl) rfl (fun _ _ _ h => h) (by rfl) (fun ww => ?_) ?_; rotate_left; · (go_simp; (try with_reducible rfl))
      simp only [Act.put, List.setIfInBounds_toArray]; try simp only [List.set_cons_zero, List.set_cons_succ]
      refine AnyL.last (i := 7) (by kernel_rfl) rfl rfl rfl (fun K hK => ?_)
      go_simp
      refine (rows_any _ _ (ms11.drop i) (ms7.drop (i + 1)) _ ((RdM.drop_if hK11'.out (by rw [hln.out]; omega)).keep ((Upd.refl _ w11).drewN (1 + q2 + q3 + 1))) ((RdM.drop_if hR9'.out (by rw [hl7.out]; omega)).keep ((Upd.refl _ w11).drewN (1 + q2 + q3 + 1)))).mono ?_
      rintro e w' ⟨rfl, q4, rfl⟩
      rw [show decide ((ms11.drop i).map Msg.abs = (ms7.drop (i + 1)).map Msg.abs) = true from decide_eq_true hd11.out]
      refine hK _ _ ?_; clear hK K
      refine AnyL.pure (i := 8) (v := ?_) (some 6) rfl rfl (by kernel_rfl) (by kernel_rfl) (by kernel_rfl) rfl (fun _ _ _ h => h) (by rfl) (fun ww => ?_) ?_; rotate_left; · (go_simp; (try with_reducible rfl))
      refine AnyL.done (by kernel_rfl) ?_
      go_wp2
      all_goals (go_ret; exact ⟨rfl, below_of_old (U11.out.drewN (1 + q2 + q3 + 1 + q4))⟩)
  · have e1 : ¬ i * 2 + 1 = k * 2 := by omega
    have e2 : ¬ k * 2 + 1 = i * 2 := by omega
    have e3 : ¬ i * 2 = k * 2 := by omega
    have e4 : ¬ k * 2 = i * 2 := by omega
    go_wp2_with fail

    have hsw := hR6.out.swap hnl.out hmi.out hmk.out (.cells #[.int .i64 mi.N, .slice Ai li cai] 63)
    rw [hvi.out, hvk.out] at hsw
    obtain ⟨hR7, hu7⟩ := hsw
    have hm7 := abs_swapped hm4.out hmi.out hmk.out
    have h7i := at_swapped hmi.out hmk.out
    have hA7 := hA6.out.write hu7 fun j hj => .inl (by rw [hj]; exact hR6.out.into g4 (.inl rfl))
    have U7 := U6.out.trans_same (hu7.mono fun j _ hj => by rw [hj]; exact hg4o.out)
    have hl7 : ((ms4.set i mk).set k mi).length = nl := by simp [hnl.out]
    have hO7 := hSo.out.swapped (i := i) (k := k) (by rw [← hml.out]; exact hi) (by rw [← hml.out]; exact hk)
    generalize (ms4.set i mk).set k mi = ms7 at *
    generalize S.swapped i k = S7 at *
    generalize World.alloc _ _ = w7 at *
    replace hR7 := Lib.hid hR7
    replace hm7 := Lib.hid hm7
    replace h7i := Lib.hid h7i
    replace hA7 := Lib.hid hA7
    replace U7 := Lib.hid U7
    replace hl7 := Lib.hid hl7
    replace hO7 := Lib.hid hO7
    clear ci0 ci1 fi0 fi1 ck0 ck1 fk0 fk1 hvi hvk hli hlk hA6 hR6 U6 hu7 es
    refine (at_waits hA7.out).mono ?_
    rintro e w8 ⟨v8, ms8, G8, rfl, hm8, hF8, hA8, hK8, hu8⟩
    have U8 := Lib.hid (U7.out.trans_same (hu8.of_none _))
    have hR8 := Lib.hid ((hR7.out.upd (hu8.of_none _)).mono hF8)
    have hO8 := Lib.hid (fun k h => hF8 k (hF4.out k h))
    obtain ⟨A8, c8, rfl, -⟩ := own_form hK8.own.row
    replace hm8 := Lib.hid hm8
    replace hA8 := Lib.hid hA8
    replace hK8 := Lib.hid hK8
    clear hA7 hR7 U7 hu8 hF8 hF4
    go_wp2_with fail
    refine (rows_any _ _ ms8 ms7 w8 hK8.out.rd hR8.out.rd).mono ?_
    rintro e w' ⟨rfl, q, rfl⟩
    rw [decide_eq_true (show ms8.map Msg.abs = ms7.map Msg.abs by rw [hm8.out, hm7.out])]
    have hA9 := Lib.hid (hA8.out.drewN q)
    have hR9 := Lib.hid (hR8.out.upd ((Upd.refl _ w8).drewN q))
    have U9 := Lib.hid (U8.out.drewN q)
    obtain ⟨W9, hW9⟩ : ∃ W, W = W6 := ⟨_, rfl⟩
    rw [← hW9] at hA9 ⊢
    clear hA8 hR8 U8 hK8 hm8 hW9
    generalize w8.drewN q = w9 at *
    obtain ⟨ci0, -, -, -⟩ := hR9.out.cells hl7.out h7i.out
    have h7a : S7.row[i]? = some (mk.N, mk.l) := by rw [← hm7.out, List.getElem?_map, h7i.out]; rfl
    have ed : S7.drop (mk.N : Int) = (S7.gone i, 0) := by unfold WA.drop; rw [show S7.find (mk.N : Int) = some i from WA.find_of hO7.out h7a]
    have el : S7.look (mk.N : Int) = (mk.l, 0) := WA.look_of hO7.out h7a
    replace ed := Lib.hid ed
    replace el := Lib.hid el
    replace h7a := Lib.hid h7a
    go_wp2_with fail
    have hc := take_any W9 mk.N w9 hA9.out.ok
    rw [hA9.out.abs, ed.out, el.out] at hc
    refine hc.mono ?_
    clear hc ci0
    rintro e w10 ⟨v10, W10, rfl, ho10, hon, hab, -⟩
    have hA10 := Lib.hid (hA9.out.onward hon hab)
    have U10 := Lib.hid (U9.out.trans_same ((hA9.out.upd hon).mono fun j _ hj ho => hj (hO8.out j ho)))
    have hR10 := Lib.hid (hR9.out.upd (hA9.out.upd hon))
    have hx10 := Lib.hid ho10.rd
    obtain ⟨A10, c10, rfl, -⟩ := own_form ho10
    rw [← hon.same]
    clear hon hab ho10 hA9 hR9 U9 ed el
    go_wp2_with fail
    refine (at_waits hA10.out).mono ?_
    rintro e w11 ⟨v11, ms11, G11, rfl, hm11, hF11, hA11, hK11, hu11⟩
    have U11 := Lib.hid (U10.out.trans_same (hu11.of_none _))
    have hR11 := Lib.hid ((hR10.out.upd (hu11.of_none _)).mono hF11)
    have hx11 := Lib.hid (hx10.out.none hu11)
    obtain ⟨ht11, hd11, hl11⟩ := gone_parts (ms := ms11) (ms' := ms7) (i := i) (by rw [hm11, hm7.out]; rfl) (by rw [hl7.out]; exact hi)
    rw [hl7.out] at hl11
    clear hm11
    have hR9' := Lib.hid hR11.out.rd
    have hK11' := Lib.hid hK11.rd
    obtain ⟨-, cv1, -, -⟩ := hR11.out.cells hl7.out h7i.out
    have hb7 := Lib.hid (hR11.out.byt mk (List.mem_of_getElem? h7i.out)).rd
    obtain ⟨A7, c7, hv7, -⟩ := own_form (hR11.out.byt mk (List.mem_of_getElem? h7i.out))
    rw [hv7] at cv1 hb7
    have hform := hK11.own.row.2
    replace ht11 := Lib.hid ht11
    replace hd11 := Lib.hid hd11
    clear hK11 hA11 hA10 U10 hR10 hR11 hu11 hF11 hx10 hv7
    generalize hll : mk.l.length = ll at *
    generalize hln : ms11.length = ln11 at *
    replace hln := Lib.hid hln
    replace hll := Lib.hid hll
    have hic4 : i ≤ c4 := by omega
    have hsub : IntKind.i64.wrap ((nl : Int) - 1) = (ln11 : Int) := by rw [IntKind.wrap_i64]; omega
    rcases hform with ⟨rfl, h0⟩ | ⟨g11, c11, cur11, rfl, -, -, hc111, hc112, -, -⟩
    · obtain rfl : ln11 = 0 := h0
      have hz2 : (1 : Int) ≤ nl := by omega
      have hz3 : 1 ≤ c4 := by omega
      have hz4 : 1 ≤ nl := by omega
      have hw1 : IntKind.i64.wrap 1 = 1 := by decide
      have hi0 : i = 0 := by omega
      exact absurd (show i = k by omega) hik
    · simp only [maxLen] at hc112
      have hic11 : i ≤ c11 := by omega
      have hi11 : i ≤ ln11 := by omega
      have hw1 : IntKind.i64.wrap ((i : Int) + 1) = (i : Int) + 1 := by rw [IntKind.wrap_i64]; omega
      have ht1 : ((i : Int) + 1).toNat = i + 1 := by omega
      have hz1 : 0 ≤ (i : Int) + 1 := by omega
      have hz2 : (i : Int) + 1 ≤ nl := by omega
      have hz3 : i + 1 ≤ c4 := by omega
      go_wp2_with fail
      have hS : w11.drew.cell? ⟨g4, i * 2 + 1, none⟩ = some (.slice A7 ll c7) := cv1
      refine wp_region_L (n := 30) (fun w' : World => w'.cell? ⟨g4, i * 2 + 1, none⟩ = some (.slice A7 ll c7)) [27] [0, 1, 2, 3, 4, 5, 6, 7, 8, 10, 11, 12, 13, 14, 15, 16, 17, 18, 19, 20, 21, 22, 23, 24, 25, 26, 28, 29] (by kernel_rfl) rfl ?_
      refine AnyL.pure (i := 0) (v := ?_) (some 102) rfl rfl (by kernel_rfl) (by kernel_rfl) (by kernel_rfl) rfl (fun _ _ _ h => h) (by rfl) (fun ww => ?_) ?_; rotate_left; · (go_simp; (try with_reducible rfl))
      refine AnyL.pure (i := 1) (v := ?_) (some 103) rfl rfl (by kernel_rfl) (by kernel_rfl) (by kernel_rfl) rfl (fun _ _ _ h => h) (by rfl) (fun ww => ?_) ?_; rotate_left; · (go_simp; (try with_reducible rfl))
      refine AnyL.pure (i := 2) (v := ?_) (some 104) rfl rfl (by kernel_rfl) (by kernel_rfl) (by kernel_rfl) rfl (fun _ _ _ h => h) (by rfl) (fun ww => ?_) ?_; rotate_left; · (go_simp; (try with_reducible rfl))
      simp only [Act.put, List.setIfInBounds_toArray]; try simp only [List.set_cons_zero, List.set_cons_succ]
      refine AnyL.pure (i := 3) (v := ?_) (some 105) rfl rfl (by kernel_rfl) (by kernel_rfl) (by kernel_rfl) rfl (fun _ _ _ h => h) (by kernel_rfl) (fun ww => ?_) ?_; rotate_left; · (go_simp; (try with_reducible rfl))
      simp only [Act.put, List.setIfInBounds_toArray]; try simp only [List.set_cons_zero, List.set_cons_succ]
      refine AnyL.pure (i := 4) (v := ?_) (some 106) rfl rfl (by kernel_rfl) (by kernel_rfl) (by kernel_rfl) rfl (fun _ _ _ h => h) (by kernel_rfl) (fun ww => ?_) ?_; rotate_left; · (go_simp; (try with_reducible rfl))
      simp only [Act.put, List.setIfInBounds_toArray]; try simp only [List.set_cons_zero, List.set_cons_succ]
      refine AnyL.pure (i := 5) (v := ?_) (some 107) rfl rfl (by kernel_rfl) (by kernel_rfl) (by kernel_rfl) rfl (fun _ _ _ h => h) (by kernel_rfl) (fun ww => ?_) ?_; rotate_left; · (go_simp; (try with_reducible rfl))
      simp only [Act.put, List.setIfInBounds_toArray]; try simp only [List.set_cons_zero, List.set_cons_succ]
      refine AnyL.pure (i := 6) (v := ?_) (some 108) rfl rfl (by kernel_rfl) (by kernel_rfl) (by kernel_rfl) rfl (fun _ _ _ h => h) (by kernel_rfl) (fun ww => ?_) ?_; rotate_left; · (go_simp; (try with_reducible rfl))
      simp only [Act.put, List.setIfInBounds_toArray]; try simp only [List.set_cons_zero, List.set_cons_succ]
      refine AnyL.pure (i := 7) (v := ?_) (some 109) rfl rfl (by kernel_rfl) (by kernel_rfl) (by kernel_rfl) rfl (fun _ _ _ h => h) (by kernel_rfl) (fun ww => ?_) ?_; rotate_left; · (go_simp; (try with_reducible rfl))
      simp only [Act.put, List.setIfInBounds_toArray]; try simp only [List.set_cons_zero, List.set_cons_succ]
      refine AnyL.take (i := 8) (v := ?_) (some 110) rfl rfl (by kernel_rfl) (by kernel_rfl) (by kernel_rfl) rfl (by kernel_rfl) (fun _ _ _ h => h) (by kernel_rfl) (fun ww hww => ?_) hS ?_; rotate_left; · (obtain hs0 := hww; go_simp; (try with_reducible rfl))
      simp only [Act.put, List.setIfInBounds_toArray]; try simp only [List.set_cons_zero, List.set_cons_succ]
      refine AnyL.last (i := 9) (by kernel_rfl) rfl rfl rfl (fun K hK => ?_)
      go_simp
      refine (same_any _ _ mk.l mk.l _ (hx11.out.none ((Upd.refl _ w11).drewN 1)) (hb7.out.none ((Upd.refl _ w11).drewN 1))).mono ?_
      rintro e w' ⟨rfl, q2, rfl⟩
      rw [show decide (mk.l = mk.l) = true from decide_eq_true rfl]
      replace hS : (w11.drew.drewN q2).cell? ⟨g4, i * 2 + 1, none⟩ = some (.slice A7 ll c7) := cv1
      refine hK _ _ ?_; clear hK K
      refine AnyL.pure (i := 10) (v := ?_) (some 112) rfl rfl (by kernel_rfl) (by kernel_rfl) (by kernel_rfl) rfl (fun _ _ _ h => h) (by kernel_rfl) (fun ww => ?_) ?_; rotate_left; · (go_simp; (try with_reducible rfl))
      refine AnyL.pure (i := 11) (v := ?_) (some 113) rfl rfl (by kernel_rfl) (by kernel_rfl) (by kernel_rfl) rfl (fun _ _ _ h => h) (by rfl) (fun ww => ?_) ?_; rotate_left; · (go_simp; (try with_reducible rfl))
      refine AnyL.pure (i := 12) (v := ?_) (some 114) rfl rfl (by kernel_rfl) (by kernel_rfl) (by kernel_rfl) rfl (fun _ _ _ h => h) (by rfl) (fun ww => ?_) ?_; rotate_left; · (go_simp; (try with_reducible rfl))
      simp only [Act.put, List.setIfInBounds_toArray]; try simp only [List.set_cons_zero, List.set_cons_succ]
      refine AnyL.pure (i := 13) (v := ?_) (some 115) rfl rfl (by kernel_rfl) (by kernel_rfl) (by kernel_rfl) rfl (fun _ _ _ h => h) (by kernel_rfl) (fun ww => ?_) ?_; rotate_left; · (go_simp; (try with_reducible rfl))
      simp only [Act.put, List.setIfInBounds_toArray]; try simp only [List.set_cons_zero, List.set_cons_succ]
      refine AnyL.pure (i := 14) (v := ?_) (some 116) rfl rfl (by kernel_rfl) (by kernel_rfl) (by kernel_rfl) rfl (fun _ _ _ h => h) (by kernel_rfl) (fun ww => ?_) ?_; rotate_left; · (go_simp; (try with_reducible rfl))
      simp only [Act.put, List.setIfInBounds_toArray]; try simp only [List.set_cons_zero, List.set_cons_succ]
      refine AnyL.pure (i := 15) (v := ?_) (some 117) rfl rfl (by kernel_rfl) (by kernel_rfl) (by kernel_rfl) rfl (fun _ _ _ h => h) (by kernel_rfl) (fun ww => ?_) ?_; rotate_left; · (go_simp; (try with_reducible rfl))
      simp only [Act.put, List.setIfInBounds_toArray]; try simp only [List.set_cons_zero, List.set_cons_succ]
      refine AnyL.pure (i := 16) (v := ?_) (some 118) rfl rfl (by kernel_rfl) (by kernel_rfl) (by kernel_rfl) rfl (fun _ _ _ h => h) (by kernel_rfl) (fun ww => ?_) ?_; rotate_left; · (go_simp; (try with_reducible rfl))
      simp only [Act.put, List.setIfInBounds_toArray]; try simp only [List.set_cons_zero, List.set_cons_succ]
      refine AnyL.pure (i := 17) (v := ?_) (some 119) rfl rfl (by kernel_rfl) (by kernel_rfl) (by kernel_rfl) rfl (fun _ _ _ h => h) (by kernel_rfl) (fun ww => ?_) ?_; rotate_left; · (go_simp; (try with_reducible rfl))
      simp only [Act.put, List.setIfInBounds_toArray]; try simp only [List.set_cons_zero, List.set_cons_succ]
      refine AnyL.pure (i := 18) (v := ?_) (some 120) rfl rfl (by kernel_rfl) (by kernel_rfl) (by kernel_rfl) rfl (fun _ _ _ h => h) (by kernel_rfl) (fun ww => ?_) ?_; rotate_left; · (go_simp; (try with_reducible rfl))
      refine AnyL.pure (i := 19) (v := ?_) (some 121) rfl rfl (by kernel_rfl) (by kernel_rfl) (by kernel_rfl) rfl (fun _ _ _ h => h) (by rfl) (fun ww => ?_) ?_; rotate_left; · (go_simp; (try with_reducible rfl))
      refine AnyL.pure (i := 20) (v := ?_) (some 122) rfl rfl (by kernel_rfl) (by kernel_rfl) (by kernel_rfl) rfl (fun _ _ _ h => h) (by rfl) (fun ww => ?_) ?_; rotate_left; · (go_simp; (try with_reducible rfl))
      simp only [Act.put, List.setIfInBounds_toArray]; try simp only [List.set_cons_zero, List.set_cons_succ]
      refine AnyL.pure (i := 21) (v := ?_) (some 123) rfl rfl (by kernel_rfl) (by kernel_rfl) (by kernel_rfl) rfl (fun _ _ _ h => h) (by kernel_rfl) (fun ww => ?_) ?_; rotate_left; · (go_simp; (try with_reducible rfl))
      simp only [Act.put, List.setIfInBounds_toArray]; try simp only [List.set_cons_zero, List.set_cons_succ]
      refine AnyL.pure (i := 22) (v := ?_) (some 124) rfl rfl (by kernel_rfl) (by kernel_rfl) (by kernel_rfl) rfl (fun _ _ _ h => h) (by kernel_rfl) (fun ww => ?_) ?_; rotate_left; · (go_simp; (try with_reducible rfl))
      simp only [Act.put, List.setIfInBounds_toArray]; try simp only [List.set_cons_zero, List.set_cons_succ]
      refine AnyL.pure (i := 23) (v := ?_) (some 125) rfl rfl (by kernel_rfl) (by kernel_rfl) (by kernel_rfl) rfl (fun _ _ _ h => h) (by kernel_rfl) (fun ww => ?_) ?_; rotate_left; · (go_simp; (try with_reducible rfl))
      simp only [Act.put, List.setIfInBounds_toArray]; try simp only [List.set_cons_zero, List.set_cons_succ]
      refine AnyL.pure (i := 24) (v := ?_) (some 126) rfl rfl (by kernel_rfl) (by kernel_rfl) (by kernel_rfl) rfl (fun _ _ _ h => h) (by kernel_rfl) (fun ww => ?_) ?_; rotate_left; · (go_simp; (try with_reducible rfl))
      simp only [Act.put, List.setIfInBounds_toArray]; try simp only [List.set_cons_zero, List.set_cons_succ]
      refine AnyL.pure (i := 25) (v := ?_) (some 127) rfl rfl (by kernel_rfl) (by kernel_rfl) (by kernel_rfl) rfl (fun _ _ _ h => h) (by kernel_rfl) (fun ww => ?_) ?_; rotate_left; · (go_simp; (try with_reducible rfl))
      simp only [Act.put, List.setIfInBounds_toArray]; try simp only [List.set_cons_zero, List.set_cons_succ]
      refine AnyL.pure (i := 26) (v := ?_) (some 128) rfl rfl (by kernel_rfl) (by kernel_rfl) (by kernel_rfl) rfl (fun _ _ _ h => h) (by kernel_rfl) (fun ww => ?_) ?_; rotate_left; · (go_simp; (try with_reducible rfl))
      simp only [Act.put, List.setIfInBounds_toArray]; try simp only [List.set_cons_zero, List.set_cons_succ]
      refine AnyL.step (i := 27) (by kernel_rfl) rfl rfl (fun K hK => ?_)
      go_simp
      refine (rows_any _ _ (ms11.take i) (ms7.take i) _ ((hK11'.out.take_ (by rw [hln.out]; omega)).keep ((Upd.refl _ w11).drewN (1 + q2))) ((hR9'.out.take_ (by rw [hl7.out]; omega)).keep ((Upd.refl _ w11).drewN (1 + q2)))).mono ?_
      rintro e w' ⟨rfl, q3, rfl⟩
      rw [show decide ((ms11.take i).map Msg.abs = (ms7.take i).map Msg.abs) = true from decide_eq_true ht11.out]
      refine hK _ _ hS ?_; clear hK K
      refine AnyL.pure (i := 28) (v := ?_) (some 130) rfl rfl (by kernel_rfl) (by kernel_rfl) (by kernel_rfl) rfl (fun _ _ _ h => h) (by kernel_rfl) (fun ww => ?_) ?_; rotate_left; · (go_simp; (try with_reducible rfl))
      refine AnyL.pure (i := 29) (v := ?_) (some 131) rfl rfl (by kernel_rfl) (by kernel_rfl) (by kernel_rfl) rfl (fun _ _ _ h => h) (by rfl) (fun ww => ?_) ?_; rotate_left; · (go_simp; (try with_reducible rfl))
      refine AnyL.done (by kernel_rfl) ?_
      go_wp2_with fail
      have hS : True := trivial
      refine wp_region_L (n := 9) (fun _ : World => True) [] [0, 1, 2, 3, 4, 5, 6, 8] (by kernel_rfl) rfl ?_
      refine AnyL.pure (i := 0) (v := ?_) (some 132) rfl rfl (by kernel_rfl) (by kernel_rfl) (by kernel_rfl) rfl (fun _ _ _ h => h) (by rfl) (fun ww => ?_) ?_; rotate_left; · (go_simp; (try with_reducible rfl))
      refine AnyL.pure (i := 1) (v := ?_) (some 133) rfl rfl (by kernel_rfl) (by kernel_rfl) (by kernel_rfl) rfl (fun _ _ _ h => h) (by rfl) (fun ww => ?_) ?_; rotate_left; · (go_simp; (try with_reducible rfl))
      refine AnyL.pure (i := 2) (v := ?_) (some 134) rfl rfl (by kernel_rfl) (by kernel_rfl) (by kernel_rfl) rfl (fun _ _ _ h => h) (by rfl) (fun ww => ?_) ?_; rotate_left; · (go_simp; (try with_reducible rfl))
      refine AnyL.pure (i := 3) (v := ?_) (some 135) rfl rfl (by kernel_rfl) (by kernel_rfl) (by kernel_rfl) rfl (fun _ _ _ h => h) (by rfl) (fun ww => ?_) ?_; rotate_left; · (go_simp; (try with_reducible rfl))
      refine AnyL.pure (i := 4) (v := ?_) (some 136) rfl rfl (by kernel_rfl) (by kernel_rfl) (by kernel_rfl) rfl (fun _ _ _ h => h) (by rfl) (fun ww => ?_) ?_; rotate_left; · (go_simp; (try with_reducible rfl))
      refine AnyL.pure (i := 5) (v := ?_) (some 137) rfl rfl (by kernel_rfl) (by kernel_rfl) (by kernel_rfl) rfl (fun _ _ _ h => h) (by rfl) (fun ww => ?_) ?_; rotate_left; · (go_simp; (try with_reducible rfl))
      refine AnyL.pure (i := 6) (v := ?_) (some 138) rfl rfl (by kernel_rfl) (by kernel_rfl) (by kernel_rfl) rfl (fun _ _ _ h => h) (by rfl) (fun ww => ?_) ?_; rotate_left; · (go_simp; (try with_reducible rfl))
      simp only [Act.put, List.setIfInBounds_toArray]; try simp only [List.set_cons_zero, List.set_cons_succ]
      refine AnyL.last (i := 7) (by kernel_rfl) rfl rfl rfl (fun K hK => ?_)
      go_simp
      refine (rows_any _ _ (ms11.drop i) (ms7.drop (i + 1)) _ ((RdM.drop_if hK11'.out (by rw [hln.out]; omega)).keep ((Upd.refl _ w11).drewN (1 + q2 + q3 + 1))) ((RdM.drop_if hR9'.out (by rw [hl7.out]; omega)).keep ((Upd.refl _ w11).drewN (1 + q2 + q3 + 1)))).mono ?_
      rintro e w' ⟨rfl, q4, rfl⟩
      rw [show decide ((ms11.drop i).map Msg.abs = (ms7.drop (i + 1)).map Msg.abs) = true from decide_eq_true hd11.out]
      refine hK _ _ ?_; clear hK K
      refine AnyL.pure (i := 8) (v := ?_) (some 6) rfl rfl (by kernel_rfl) (by kernel_rfl) (by kernel_rfl) rfl (fun _ _ _ h => h) (by rfl) (fun ww => ?_) ?_; rotate_left; · (go_simp; (try with_reducible rfl))
      refine AnyL.done (by kernel_rfl) ?_
      go_wp2
      all_goals (go_ret; exact ⟨rfl, below_of_old (U11.out.drewN (1 + q2 + q3 + 1 + q4))⟩)

end Go.Proofs.Ytfnlemdlngdaiaa
