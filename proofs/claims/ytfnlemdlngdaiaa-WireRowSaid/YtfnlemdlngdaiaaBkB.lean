/-
  The book of WireRow as memory; the law's 'isBook'.
-/
import Derived.Test.YtfnlemdlngdaiaaBkA
import Derived.Test.YtfnlemdlngdaiaaOrd
namespace Go.Proofs.Ytfnlemdlngdaiaa
open Go.RowKit

/-- Bytes in a block of their own, some cells behind them frozen or not. -/
def EB (w : World) (v : Value) (l : List UInt8) : Prop := (v = .slice none 0 0 ∧ l = []) ∨ ∃ (g c : Nat) (cs : Array Value) (fr : Nat × Nat), v = .slice (some ⟨g, 0, none⟩) l.length c ∧ l.length ≤ c ∧ c ≤ maxLen ∧
  w.heap[g]? = some (.cells cs 5 fr) ∧ (∀ (j : Nat) (u : Value), (bvs l)[j]? = some u → cs[j]? = some u) ∧ ∀ j, j < l.length → ¬ (fr.1 ≤ j ∧ j < fr.2)
section
variable {w w' : World} {v : Value} {l : List UInt8} {S : Nat → Prop}
theorem OwnB.eb {B : Nat} (h : OwnB B w v l) : EB w v l := by
  have hl := h.1
  rcases h.2 with ⟨rfl, h0⟩ | ⟨g, cap, cur, rfl, hb, hg, hnc, hcm, hcs, htake⟩
  · exact .inl ⟨rfl, List.eq_nil_of_length_eq_zero h0⟩
  · refine .inr ⟨g, cap, cur, (0, 0), rfl, hnc, hcm, hg, fun j u hj => ?_, fun j _ h => by omega⟩
    rw [← htake, List.getElem?_take] at hj
    split at hj
    · simpa using hj
    · cases hj
theorem EB.upd (h : EB w v l) (hu : Upd S w w') (hn : ∀ k, v.ownBlock = some k → ¬ S k) : EB w' v l := by
  rcases h with h | ⟨g, c, cs, fr, rfl, h1, h2, h3, h4, h5⟩
  · exact .inl h
  · exact .inr ⟨g, c, cs, fr, rfl, h1, h2, (hu.block g (lt_of_block h3) (hn g rfl)).trans h3, h4, h5⟩
theorem EB.lt (h : EB w v l) : ∀ k, v.ownBlock = some k → k < w.heap.size := by
  rcases h with ⟨rfl, -⟩ | ⟨g, c, cs, fr, rfl, h1, h2, h3, h4, h5⟩
  · intro k hk; simp [Value.ownBlock] at hk
  · intro k hk
    have : g = k := by simpa [Value.ownBlock] using hk
    subst this
    exact lt_of_block h3
theorem EB.rd (h : EB w v l) : RdB w v l := by
  rcases h with ⟨rfl, rfl⟩ | ⟨g, c, cs, fr, rfl, h1, h2, h3, h4, h5⟩
  · exact RdB.nil w
  · exact ⟨by rw [bvs_length, Nat.mul_one], _, c, rfl, h1, h2, fun h => (by cases h), fun j u hj => ⟨_, rfl, by rw [addr_add_zero]; simp only [World.cell?, h3]; exact h4 j u hj⟩⟩
theorem EB.at_ {g n c k : Nat} (h : EB w (.slice (some ⟨g, 0, none⟩) n c) l) (hk : k < l.length) : ∃ b : UInt8, l[k]? = some b ∧ w.cell? ⟨g, k, none⟩ = some (.int .u8 b.toNat) ∧ w.frozen? ⟨g, k, none⟩ = false := by
  rcases h with ⟨h, -⟩ | ⟨g', c', cs, fr, he, h1, h2, h3, h4, h5⟩
  · cases h
  · simp only [Value.slice.injEq, Option.some.injEq, Addr.mk.injEq, and_true] at he
    obtain ⟨rfl, rfl, rfl⟩ := he
    refine ⟨l[k], List.getElem?_eq_getElem hk, ?_, ?_⟩
    · simp only [World.cell?, h3]
      exact h4 k _ (bvs_at (List.getElem?_eq_getElem hk))
    · have := h5 k hk
      simp only [World.frozen?, h3]
      simp only [Bool.and_eq_false_iff, decide_eq_false_iff_not]
      omega
theorem EB.set {g n c k : Nat} {b : UInt8} (h : EB w (.slice (some ⟨g, 0, none⟩) n c) l) : EB (w.setCell ⟨g, k, none⟩ (bv b)) (.slice (some ⟨g, 0, none⟩) n c) (l.set k b) := by
  rcases h with ⟨h, -⟩ | ⟨g', c', cs, fr, he, h1, h2, h3, h4, h5⟩
  · cases h
  · simp only [Value.slice.injEq, Option.some.injEq, Addr.mk.injEq, and_true] at he
    obtain ⟨rfl, rfl, rfl⟩ := he
    refine .inr ⟨g, c, cs.setIfInBounds k (bv b), fr, by rw [List.length_set], by rw [List.length_set]; exact h1, h2, ?_, fun j u hj => ?_, fun j hj => h5 j (by rw [List.length_set] at hj; exact hj)⟩
    · simp [World.setCell, Array.getElem?_modify, h3]
    · unfold bvs at hj h4
      rw [List.map_set] at hj
      by_cases hjk : k = j
      · subst hjk
        have hkl : k < (l.map bv).length := by
          have := (List.getElem?_eq_some_iff.1 hj).1
          rwa [List.length_set] at this
        rw [List.getElem?_set_self hkl] at hj
        obtain rfl := Option.some.inj hj
        have h6 := h4 k _ (List.getElem?_eq_getElem hkl)
        have h7 := (Array.getElem?_eq_some_iff.1 h6).1
        rw [Array.getElem?_setIfInBounds_self_of_lt h7]
      · rw [List.getElem?_set_ne hjk] at hj
        rw [Array.getElem?_setIfInBounds_ne hjk]
        exact h4 j u hj
theorem EB.cut {A : Option Addr} {n c k : Nat} (h : EB w (.slice A n c) l) (hn : l.length = n) (hk : k ≤ n) : EB w (.slice A k c) (l.take k) := by
  rcases h with ⟨h, rfl⟩ | ⟨g', c', cs, fr, he, h1, h2, h3, h4, h5⟩
  · simp only [Value.slice.injEq] at h
    obtain ⟨rfl, rfl, rfl⟩ := h
    obtain rfl : k = 0 := by omega
    exact .inl ⟨rfl, rfl⟩
  · simp only [Value.slice.injEq] at he
    obtain ⟨rfl, rfl, rfl⟩ := he
    have hl : (l.take k).length = k := by rw [List.length_take]; omega
    refine .inr ⟨g', c, cs, fr, by rw [hl], by rw [hl]; omega, h2, h3, fun j u hj => h4 j u ?_, fun j hj => h5 j (by rw [hl] at hj; omega)⟩
    unfold bvs at hj ⊢
    rw [List.map_take, List.getElem?_take] at hj
    split at hj
    · exact hj
    · cases hj
/-- Bytes do not lie where a row of other things lies. -/
theorem EB.ne {B : Nat} {e : TypeId} {size n : Nat} {v' : Value} {xs : List Value} (h : EB w v l) (h' : w.ownsRow B e size v' n xs) (hne : e ≠ 5) {k : Nat} (hk : v.ownBlock = some k) : v'.ownBlock ≠ some k := by
  rcases h with ⟨rfl, -⟩ | ⟨g, c, cs, fr, rfl, h1, h2, h3, h4, h5⟩
  · simp [Value.ownBlock] at hk
  · have : g = k := by simpa [Value.ownBlock] using hk
    subst this
    rcases h'.2 with ⟨rfl, _⟩ | ⟨g', cap, cur, rfl, _, hh, _⟩
    · simp [Value.ownBlock]
    · intro he
      have : g' = g := by simpa [Value.ownBlock] using he
      subst this
      rw [h3] at hh
      simp only [Option.some.injEq, Obj.cells.injEq] at hh
      exact hne hh.2.1.symm
theorem EB.form (h : EB w v l) : ∃ A c, v = .slice A l.length c ∧ l.length ≤ c ∧ c ≤ maxLen ∧ (0 < l.length → ∃ g, A = some ⟨g, 0, none⟩) := by
  rcases h with ⟨rfl, rfl⟩ | ⟨g, c, cs, fr, rfl, h1, h2, h3, h4, h5⟩
  · exact ⟨none, 0, rfl, Nat.le_refl _, by simp [maxLen], fun h => by simp at h⟩
  · exact ⟨_, c, rfl, h1, h2, fun _ => ⟨g, rfl⟩⟩
end

structure BkE where
  v : Value
  l : List UInt8
  g : Bool
def bAbs (es : List BkE) : BA := es.map fun e => (e.l, e.g)
def bVals (es : List BkE) : List Value := es.map fun e => e.v
def gVals (es : List BkE) : List Value := es.map fun e => .bool e.g
structure Bok (w : World) (bv gv : Value) (es : List BkE) : Prop where
  row : w.ownsRow 0 24 1 bv es.length (bVals es)
  gon : w.ownsRow 0 4 1 gv es.length (gVals es)
  byt : ∀ e ∈ es, EB w e.v e.l
  apart : (es.filterMap fun e => e.v.ownBlock).Nodup
  small : ∀ e ∈ es, e.l.length ≤ 1048576
  most : es.length ≤ 4096
def bFoot (bv gv : Value) (es : List BkE) (k : Nat) : Prop := bv.ownBlock = some k ∨ gv.ownBlock = some k ∨ ∃ e ∈ es, e.v.ownBlock = some k
section
variable {w w' : World} {bv gv : Value} {es : List BkE} {S : Nat → Prop}
theorem Bok.upd (h : Bok w bv gv es) (hu : Upd S w w') (hn : ∀ k, bFoot bv gv es k → ¬ S k) : Bok w' bv gv es :=
  ⟨own_upd h.row hu fun k hk => hn k (.inl hk), own_upd h.gon hu fun k hk => hn k (.inr (.inl hk)), fun e he => (h.byt e he).upd hu fun k hk => hn k (.inr (.inr ⟨e, he, hk⟩)), h.apart, h.small, h.most⟩
theorem Bok.keep (h : Bok w bv gv es) (hu : Upd noBlk w w') : Bok w' bv gv es := h.upd hu fun _ _ h => h
theorem Bok.lt (h : Bok w bv gv es) : ∀ k, bFoot bv gv es k → k < w.heap.size := by
  rintro k (hk | hk | ⟨e, he, hk⟩)
  · exact (h.row.lt k hk).2
  · exact (h.gon.lt k hk).2
  · exact (h.byt e he).lt k hk
theorem bAbs_length (es : List BkE) : (bAbs es).length = es.length := by simp [bAbs]
theorem bAbs_at {k : Nat} {e : BkE} (h : es[k]? = some e) : (bAbs es)[k]? = some (e.l, e.g) := by simp [bAbs, h]
theorem at_bAbs {k : Nat} {l : List UInt8} {g : Bool} (h : (bAbs es)[k]? = some (l, g)) : ∃ e, es[k]? = some e ∧ e.l = l ∧ e.g = g ∧ k < es.length := by
  unfold bAbs at h
  rw [List.getElem?_map, Option.map_eq_some_iff] at h
  obtain ⟨e, he, hh⟩ := h
  exact ⟨e, he, congrArg Prod.fst hh, congrArg Prod.snd hh, (List.getElem?_eq_some_iff.1 he).1⟩
/-- The cells of one place of the book. -/
theorem Bok.open_ (h : Bok w bv gv es) : ∃ A c G d, bv = .slice A es.length c ∧ gv = .slice G es.length d ∧ es.length ≤ c ∧ c ≤ maxLen ∧ es.length ≤ d ∧ d ≤ maxLen ∧
    ∀ (k : Nat) (e : BkE), es[k]? = some e → ∃ bb gb, A = some ⟨bb, 0, none⟩ ∧ G = some ⟨gb, 0, none⟩ ∧ w.cell? ⟨bb, k, none⟩ = some e.v ∧ w.cell? ⟨gb, k, none⟩ = some (.bool e.g) ∧ w.frozen? ⟨bb, k, none⟩ = false ∧ w.frozen? ⟨gb, k, none⟩ = false := by
  obtain ⟨A, c, e1, h1, h2, _, _, hat⟩ := own_form h.row
  obtain ⟨G, d, e2, h3, h4, _, _, hat2⟩ := own_form h.gon
  refine ⟨A, c, G, d, e1, e2, h1, h2, h3, h4, fun k e he => ?_⟩
  obtain ⟨bb, hA, hc⟩ := hat k e.v (by unfold bVals; rw [List.getElem?_map, he]; rfl)
  obtain ⟨gb, hG, hd⟩ := hat2 k (.bool e.g) (by unfold gVals; rw [List.getElem?_map, he]; rfl)
  refine ⟨bb, gb, hA, hG, hc, hd, ?_, ?_⟩
  · have h5 := h.row
    rw [e1, hA] at h5
    exact World.ownsRow.frozenAt h5 _
  · have h5 := h.gon
    rw [e2, hG] at h5
    exact World.ownsRow.frozenAt h5 _
end

theorem countP_take {α : Type} {p : α → Bool} {l : List α} {k : Nat} {a : α} (h : l[k]? = some a) : (l.take (k + 1)).countP p = (l.take k).countP p + if p a then 1 else 0 := by
  rw [List.take_add_one, h, List.countP_append]
  simp [List.countP_cons]

set_option maxRecDepth 100000 in
set_option maxHeartbeats 4000000 in
theorem isbook_true (rv bv gv : Value) (ms : List Msg) (es : List BkE) (s : WA) (w : World) (hr : RdM w rv ms) (hb : Bok w bv gv es) (hs : BSim (bAbs es) s) (ho : s.Ok) (hm : ms.map Msg.abs = s.row) :
    Calls Try.prog 32 #[rv, bv, gv] w (TellsB w true) := by
  obtain ⟨A, c, G, d, rfl, rfl, h1, h2, h3, h4, hat⟩ := hb.open_
  have hmo := hb.most
  have hfind := fun (n : Int) (q : Nat) => find_any rv ms n (w.drewN q) (hr.keep ((Upd.refl noBlk w).drewN q))
  have hrat := fun (p : Nat) (m : Msg) (h : ms[p]? = some m) => hr.at_ h
  have hbyt := fun (k : Nat) (e : BkE) (h : es[k]? = some e) => (hb.byt e (List.mem_of_getElem? h)).rd
  obtain ⟨RA, rc, rfl, k1, k2, -, -⟩ := hr.form
  have hcnt : ms.length = (bAbs es).countP fun e => !e.2 := by
    rw [← hs.cnt, ← hm, List.length_map]
  have hmlen : ms.length ≤ es.length := by
    rw [hcnt, ← bAbs_length es]
    exact List.countP_le_length
  obtain ⟨ln, hln⟩ : ∃ ln, ln = es.length := ⟨_, rfl⟩
  have hex : ∀ k, k < ln → ∃ e, es[k]? = some e := fun k hk => ⟨_, List.getElem?_eq_getElem (by omega)⟩
  have hall : (bAbs es).take ln = bAbs es := by rw [hln, ← bAbs_length es, List.take_length]
  have hcp : ∀ k, ((bAbs es).take k).countP (fun e => !e.2) ≤ 4096 := fun k => by
    have h5 := List.countP_le_length (p := fun e : List UInt8 × Bool => !e.2) (l := (bAbs es).take k)
    rw [List.length_take, bAbs_length] at h5
    omega
  rw [← hln] at h1 h3 hmo hmlen ⊢
  simp only [maxLen] at h2 h4 k2
  replace hfind := Lib.hid hfind
  replace hrat := Lib.hid hrat
  replace hbyt := Lib.hid hbyt
  replace hcnt := Lib.hid hcnt
  replace hex := Lib.hid hex
  replace hall := Lib.hid hall
  replace hcp := Lib.hid hcp
  replace hat := Lib.hid hat
  replace hs := Lib.hid hs
  replace ho := Lib.hid ho
  replace hm := Lib.hid hm
  clear hr hb hln
  go_enter Try.func32, Try.ntmps32
  go_wp2_with fail
  go_loopw [7, 8] (fun left i wr => ∃ k q : Nat, k ≤ ln ∧ left = .int .i64 ((((bAbs es).take k).countP fun e => !e.2 : Nat) : Int) ∧ i = .int .i64 k ∧ wr = w.drewN q) (fun _ i _ => ln - (intOf i).toNat)
  case atStart => exact ⟨0, 0, Nat.zero_le _, rfl, rfl, rfl⟩
  case round =>
    obtain ⟨k, q, hk, rfl, rfl, rfl⟩ := hrel
    have hc0 := hcp.out k
    by_cases hlt : k < ln
    · obtain ⟨e, he⟩ := hex.out k hlt
      obtain ⟨bb, gb, rfl, rfl, v0, v1, -, -⟩ := hat.out k e he
      have hba := bAbs_at he
      have hct := countP_take (p := fun e : List UInt8 × Bool => !e.2) hba
      have hce := hbyt.out k e he
      have hf := hfind.out ((k : Int) + 1) q
      have hkw : IntKind.i64.wrap ((k : Int) + 1) = (k : Int) + 1 := by rw [IntKind.wrap_i64]; omega
      have u0 : (w.drewN q).cell? ⟨bb, k, none⟩ = some e.v := v0
      have u1 : (w.drewN q).cell? ⟨gb, k, none⟩ = some (.bool e.g) := v1
      cases hg : e.g with
      | true =>
        rw [hg] at hba hct v1 u1
        have hfn : findN (ms.map Msg.abs) ((k : Int) + 1) = none := by
          rw [hm.out]
          exact hs.out.absent (.inr (.inr ⟨k, e.l, rfl, hba⟩))
        unfold findV at hf
        rw [hfn] at hf
        simp only [Bool.not_true, Bool.false_eq_true, if_false, Nat.add_zero] at hct hf
        replace hf := Lib.hid hf
        replace hct := Lib.hid hct
        generalize ((bAbs es).take k).countP (fun e => !e.2) = cn at *
        clear he hba hce hfn hg v0 u0
        go_wp2_with fail
        refine hf.out.mono ?_
        rintro x w2 ⟨rfl, rfl⟩
        go_wp2_with fail
        have hS : (w.drewN q).drew.cell? ⟨gb, k, none⟩ = some (.bool true) := v1
        refine wp_region_L (n := 24) (fun w' : World => w'.cell? ⟨gb, k, none⟩ = some (.bool true)) [] [0, 1, 2, 3, 4, 5, 6, 7, 8, 9, 10, 11, 12, 13, 14, 15, 16, 17, 18, 19, 20, 21, 22, 23] (by kernel_rfl) rfl ?_
        refine AnyL.pure (i := 0) (v := ?_) (some 20) rfl rfl (by kernel_rfl) (by kernel_rfl) (by kernel_rfl) rfl (fun _ _ _ h => h) (by rfl) (fun ww => ?_) ?_; rotate_left; · (go_simp; (try with_reducible rfl))
        refine AnyL.pure (i := 1) (v := ?_) (some 21) rfl rfl (by kernel_rfl) (by kernel_rfl) (by kernel_rfl) rfl (fun _ _ _ h => h) (by rfl) (fun ww => ?_) ?_; rotate_left; · (go_simp; (try with_reducible rfl))
        refine AnyL.pure (i := 2) (v := ?_) (some 22) rfl rfl (by kernel_rfl) (by kernel_rfl) (by kernel_rfl) rfl (fun _ _ _ h => h) (by rfl) (fun ww => ?_) ?_; rotate_left; · (go_simp; (try with_reducible rfl))
        refine AnyL.pure (i := 3) (v := ?_) (some 23) rfl rfl (by kernel_rfl) (by kernel_rfl) (by kernel_rfl) rfl (fun _ _ _ h => h) (by rfl) (fun ww => ?_) ?_; rotate_left; · (go_simp; (try with_reducible rfl))
        refine AnyL.pure (i := 4) (v := ?_) (some 24) rfl rfl (by kernel_rfl) (by kernel_rfl) (by kernel_rfl) rfl (fun _ _ _ h => h) (by rfl) (fun ww => ?_) ?_; rotate_left; · (go_simp; (try with_reducible rfl))
        refine AnyL.take (i := 5) (v := ?_) (some 25) rfl rfl (by kernel_rfl) (by kernel_rfl) (by kernel_rfl) rfl (by kernel_rfl) (fun _ _ _ h => h) (by rfl) (fun ww hww => ?_) hS ?_; rotate_left; · (obtain hs0 := hww; go_simp; (try with_reducible rfl))
        refine AnyL.pure (i := 6) (v := ?_) (some 26) rfl rfl (by kernel_rfl) (by kernel_rfl) (by kernel_rfl) rfl (fun _ _ _ h => h) (by rfl) (fun ww => ?_) ?_; rotate_left; · (go_simp; (try with_reducible rfl))
        refine AnyL.pure (i := 7) (v := ?_) (some 27) rfl rfl (by kernel_rfl) (by kernel_rfl) (by kernel_rfl) rfl (fun _ _ _ h => h) (by rfl) (fun ww => ?_) ?_; rotate_left; · (go_simp; (try with_reducible rfl))
        simp only [Act.put, List.setIfInBounds_toArray]; try simp only [List.set_cons_zero, List.set_cons_succ]
        refine AnyL.pure (i := 8) (v := ?_) (some 28) rfl rfl (by kernel_rfl) (by kernel_rfl) (by kernel_rfl) rfl (fun _ _ _ h => h) (by kernel_rfl) (fun ww => ?_) ?_; rotate_left; · (go_simp; (try with_reducible rfl))
        simp only [Act.put, List.setIfInBounds_toArray]; try simp only [List.set_cons_zero, List.set_cons_succ]
        refine AnyL.pure (i := 9) (v := ?_) (some 29) rfl rfl (by kernel_rfl) (by kernel_rfl) (by kernel_rfl) rfl (fun _ _ _ h => h) (by kernel_rfl) (fun ww => ?_) ?_; rotate_left; · (go_simp; (try with_reducible rfl))
        simp only [Act.put, List.setIfInBounds_toArray]; try simp only [List.set_cons_zero, List.set_cons_succ]
        refine AnyL.pure (i := 10) (v := ?_) (some 30) rfl rfl (by kernel_rfl) (by kernel_rfl) (by kernel_rfl) rfl (fun _ _ _ h => h) (by kernel_rfl) (fun ww => ?_) ?_; rotate_left; · (go_simp; (try with_reducible rfl))
        simp only [Act.put, List.setIfInBounds_toArray]; try simp only [List.set_cons_zero, List.set_cons_succ]
        refine AnyL.pass (i := 11) (some 31) rfl rfl (by kernel_rfl) (by kernel_rfl) (by kernel_rfl) rfl (fun _ _ _ h => h) (by kernel_rfl) ?_
        simp only [Act.put, List.setIfInBounds_toArray]; try simp only [List.set_cons_zero, List.set_cons_succ]
        refine AnyL.pass (i := 12) (some 32) rfl rfl (by kernel_rfl) (by kernel_rfl) (by kernel_rfl) rfl (fun _ _ _ h => h) (by kernel_rfl) ?_
        simp only [Act.put, List.setIfInBounds_toArray]; try simp only [List.set_cons_zero, List.set_cons_succ]
        refine AnyL.pass (i := 13) (some 33) rfl rfl (by kernel_rfl) (by kernel_rfl) (by kernel_rfl) rfl (fun _ _ _ h => h) (by kernel_rfl) ?_
        simp only [Act.put, List.setIfInBounds_toArray]; try simp only [List.set_cons_zero, List.set_cons_succ]
        refine AnyL.pass (i := 14) (some 34) rfl rfl (by kernel_rfl) (by kernel_rfl) (by kernel_rfl) rfl (fun _ _ _ h => h) (by kernel_rfl) ?_
        simp only [Act.put, List.setIfInBounds_toArray]; try simp only [List.set_cons_zero, List.set_cons_succ]
        refine AnyL.pass (i := 15) (some 35) rfl rfl (by kernel_rfl) (by kernel_rfl) (by kernel_rfl) rfl (fun _ _ _ h => h) (by kernel_rfl) ?_
        simp only [Act.put, List.setIfInBounds_toArray]; try simp only [List.set_cons_zero, List.set_cons_succ]
        refine AnyL.pass (i := 16) (some 36) rfl rfl (by kernel_rfl) (by kernel_rfl) (by kernel_rfl) rfl (fun _ _ _ h => h) (by kernel_rfl) ?_
        simp only [Act.put, List.setIfInBounds_toArray]; try simp only [List.set_cons_zero, List.set_cons_succ]
        refine AnyL.pass (i := 17) (some 37) rfl rfl (by kernel_rfl) (by kernel_rfl) (by kernel_rfl) rfl (fun _ _ _ h => h) (by kernel_rfl) ?_
        simp only [Act.put, List.setIfInBounds_toArray]; try simp only [List.set_cons_zero, List.set_cons_succ]
        refine AnyL.pass (i := 18) (some 38) rfl rfl (by kernel_rfl) (by kernel_rfl) (by kernel_rfl) rfl (fun _ _ _ h => h) (by kernel_rfl) ?_
        simp only [Act.put, List.setIfInBounds_toArray]; try simp only [List.set_cons_zero, List.set_cons_succ]
        refine AnyL.pass (i := 19) (some 39) rfl rfl (by kernel_rfl) (by kernel_rfl) (by kernel_rfl) rfl (fun _ _ _ h => h) (by kernel_rfl) ?_
        simp only [Act.put, List.setIfInBounds_toArray]; try simp only [List.set_cons_zero, List.set_cons_succ]
        refine AnyL.pass (i := 20) (some 40) rfl rfl (by kernel_rfl) (by kernel_rfl) (by kernel_rfl) rfl (fun _ _ _ h => h) (by kernel_rfl) ?_
        simp only [Act.put, List.setIfInBounds_toArray]; try simp only [List.set_cons_zero, List.set_cons_succ]
        refine AnyL.pass (i := 21) (some 41) rfl rfl (by kernel_rfl) (by kernel_rfl) (by kernel_rfl) rfl (fun _ _ _ h => h) (by kernel_rfl) ?_
        simp only [Act.put, List.setIfInBounds_toArray]; try simp only [List.set_cons_zero, List.set_cons_succ]
        refine AnyL.pure (i := 22) (v := ?_) (some 42) rfl rfl (by kernel_rfl) (by kernel_rfl) (by kernel_rfl) rfl (fun _ _ _ h => h) (by kernel_rfl) (fun ww => ?_) ?_; rotate_left; · (go_simp; (try with_reducible rfl))
        refine AnyL.pure (i := 23) (v := ?_) (some 43) rfl rfl (by kernel_rfl) (by kernel_rfl) (by kernel_rfl) rfl (fun _ _ _ h => h) (by rfl) (fun ww => ?_) ?_; rotate_left; · (go_simp; (try with_reducible rfl))
        refine AnyL.done (by kernel_rfl) ?_
        have z1 : ((w.drewN q).drew).cell? ⟨gb, k, none⟩ = some (.bool true) := v1
        go_wp2
        go_roundw
        case rel => exact ⟨k + 1, q + 1, by omega, by rw [hct.out], by go_num, rfl⟩
        case measure => simp [intOf]; omega
      | false =>
        rw [hg] at hba hct v1 u1
        obtain ⟨p, hp1, hp2⟩ := hs.out.there ho.out hba
        have hfn : findN (ms.map Msg.abs) ((k : Int) + 1) = some p := by rw [hm.out]; exact hp1
        rw [← hm.out, List.getElem?_map, Option.map_eq_some_iff] at hp2
        obtain ⟨m, hm1, hm2⟩ := hp2
        have hml : m.l = e.l := congrArg Prod.snd hm2
        have hpl := (List.getElem?_eq_some_iff.1 hm1).1
        obtain ⟨rg, ro, rc', hre, -, r1, r2⟩ := hrat.out p m hm1
        simp only [Value.slice.injEq, true_and] at hre
        obtain ⟨rfl, rfl⟩ := hre
        rw [hml] at r2
        unfold findV at hf
        rw [hfn] at hf
        simp only [Bool.not_false, if_true] at hct hf
        have hsame := fun (q' : Nat) => same_any m.v e.v e.l e.l (w.drewN q') (r2.none ((Upd.refl noBlk w).drewN q')) (hce.none ((Upd.refl noBlk w).drewN q'))
        simp only at hsame
        replace hsame := Lib.hid hsame
        replace hf := Lib.hid hf
        replace hct := Lib.hid hct
        generalize ((bAbs es).take k).countP (fun e => !e.2) = cn at *
        have hpl2 : (p : Int) < ms.length := by omega
        have hp0 : (0 : Int) ≤ p := by omega
        have hmk : ms.length ≤ 4096 := by omega
        clear he hba hce hfn hg hp1 hm1 hm2 hml r2
        go_wp2_with fail
        refine hf.out.mono ?_
        rintro x w2 ⟨rfl, rfl⟩
        go_wp2_with fail
        have hS : (w.drewN q).drew.cell? ⟨gb, k, none⟩ = some (.bool false) ∧ (w.drewN q).drew.cell? ⟨bb, k, none⟩ = some e.v ∧ (w.drewN q).drew.cell? ⟨rg, ro + p * 2 + 1, none⟩ = some m.v := ⟨v1, v0, r1⟩
        refine wp_region_L (n := 24) (fun w' : World => w'.cell? ⟨gb, k, none⟩ = some (.bool false) ∧ w'.cell? ⟨bb, k, none⟩ = some e.v ∧ w'.cell? ⟨rg, ro + p * 2 + 1, none⟩ = some m.v) [20] [0, 1, 2, 3, 4, 5, 6, 7, 8, 9, 10, 11, 12, 13, 14, 15, 16, 17, 18, 19, 21, 22, 23] (by kernel_rfl) rfl ?_
        refine AnyL.pure (i := 0) (v := ?_) (some 20) rfl rfl (by kernel_rfl) (by kernel_rfl) (by kernel_rfl) rfl (fun _ _ _ h => h) (by rfl) (fun ww => ?_) ?_; rotate_left; · (go_simp; (try with_reducible rfl))
        refine AnyL.pure (i := 1) (v := ?_) (some 21) rfl rfl (by kernel_rfl) (by kernel_rfl) (by kernel_rfl) rfl (fun _ _ _ h => h) (by rfl) (fun ww => ?_) ?_; rotate_left; · (go_simp; (try with_reducible rfl))
        refine AnyL.pure (i := 2) (v := ?_) (some 22) rfl rfl (by kernel_rfl) (by kernel_rfl) (by kernel_rfl) rfl (fun _ _ _ h => h) (by rfl) (fun ww => ?_) ?_; rotate_left; · (go_simp; (try with_reducible rfl))
        refine AnyL.pure (i := 3) (v := ?_) (some 23) rfl rfl (by kernel_rfl) (by kernel_rfl) (by kernel_rfl) rfl (fun _ _ _ h => h) (by rfl) (fun ww => ?_) ?_; rotate_left; · (go_simp; (try with_reducible rfl))
        refine AnyL.pure (i := 4) (v := ?_) (some 24) rfl rfl (by kernel_rfl) (by kernel_rfl) (by kernel_rfl) rfl (fun _ _ _ h => h) (by rfl) (fun ww => ?_) ?_; rotate_left; · (go_simp; (try with_reducible rfl))
        refine AnyL.take (i := 5) (v := ?_) (some 25) rfl rfl (by kernel_rfl) (by kernel_rfl) (by kernel_rfl) rfl (by kernel_rfl) (fun _ _ _ h => h) (by rfl) (fun ww hww => ?_) hS ?_; rotate_left; · (obtain ⟨hs0, hs1, hs2⟩ := hww; go_simp; (try with_reducible rfl))
        refine AnyL.pure (i := 6) (v := ?_) (some 26) rfl rfl (by kernel_rfl) (by kernel_rfl) (by kernel_rfl) rfl (fun _ _ _ h => h) (by rfl) (fun ww => ?_) ?_; rotate_left; · (go_simp; (try with_reducible rfl))
        refine AnyL.pure (i := 7) (v := ?_) (some 27) rfl rfl (by kernel_rfl) (by kernel_rfl) (by kernel_rfl) rfl (fun _ _ _ h => h) (by rfl) (fun ww => ?_) ?_; rotate_left; · (go_simp; (try with_reducible rfl))
        simp only [Act.put, List.setIfInBounds_toArray]; try simp only [List.set_cons_zero, List.set_cons_succ]
        refine AnyL.pure (i := 8) (v := ?_) (some 28) rfl rfl (by kernel_rfl) (by kernel_rfl) (by kernel_rfl) rfl (fun _ _ _ h => h) (by kernel_rfl) (fun ww => ?_) ?_; rotate_left; · (go_simp; (try with_reducible rfl))
        simp only [Act.put, List.setIfInBounds_toArray]; try simp only [List.set_cons_zero, List.set_cons_succ]
        refine AnyL.pure (i := 9) (v := ?_) (some 29) rfl rfl (by kernel_rfl) (by kernel_rfl) (by kernel_rfl) rfl (fun _ _ _ h => h) (by kernel_rfl) (fun ww => ?_) ?_; rotate_left; · (go_simp; (try with_reducible rfl))
        simp only [Act.put, List.setIfInBounds_toArray]; try simp only [List.set_cons_zero, List.set_cons_succ]
        refine AnyL.pure (i := 10) (v := ?_) (some 30) rfl rfl (by kernel_rfl) (by kernel_rfl) (by kernel_rfl) rfl (fun _ _ _ h => h) (by kernel_rfl) (fun ww => ?_) ?_; rotate_left; · (go_simp; (try with_reducible rfl))
        simp only [Act.put, List.setIfInBounds_toArray]; try simp only [List.set_cons_zero, List.set_cons_succ]
        refine AnyL.pure (i := 11) (v := ?_) (some 31) rfl rfl (by kernel_rfl) (by kernel_rfl) (by kernel_rfl) rfl (fun _ _ _ h => h) (by kernel_rfl) (fun ww => ?_) ?_; rotate_left; · (go_simp; (try with_reducible rfl))
        simp only [Act.put, List.setIfInBounds_toArray]; try simp only [List.set_cons_zero, List.set_cons_succ]
        refine AnyL.pure (i := 12) (v := ?_) (some 32) rfl rfl (by kernel_rfl) (by kernel_rfl) (by kernel_rfl) rfl (fun _ _ _ h => h) (by kernel_rfl) (fun ww => ?_) ?_; rotate_left; · (go_simp; (try with_reducible rfl))
        simp only [Act.put, List.setIfInBounds_toArray]; try simp only [List.set_cons_zero, List.set_cons_succ]
        refine AnyL.pure (i := 13) (v := ?_) (some 33) rfl rfl (by kernel_rfl) (by kernel_rfl) (by kernel_rfl) rfl (fun _ _ _ h => h) (by kernel_rfl) (fun ww => ?_) ?_; rotate_left; · (go_simp; (try with_reducible rfl))
        simp only [Act.put, List.setIfInBounds_toArray]; try simp only [List.set_cons_zero, List.set_cons_succ]
        refine AnyL.pure (i := 14) (v := ?_) (some 34) rfl rfl (by kernel_rfl) (by kernel_rfl) (by kernel_rfl) rfl (fun _ _ _ h => h) (by kernel_rfl) (fun ww => ?_) ?_; rotate_left; · (go_simp; (try with_reducible rfl))
        simp only [Act.put, List.setIfInBounds_toArray]; try simp only [List.set_cons_zero, List.set_cons_succ]
        refine AnyL.take (i := 15) (v := ?_) (some 35) rfl rfl (by kernel_rfl) (by kernel_rfl) (by kernel_rfl) rfl (by kernel_rfl) (fun _ _ _ h => h) (by kernel_rfl) (fun ww hww => ?_) hS ?_; rotate_left; · (obtain ⟨hs0, hs1, hs2⟩ := hww; go_simp; (try with_reducible rfl))
        simp only [Act.put, List.setIfInBounds_toArray]; try simp only [List.set_cons_zero, List.set_cons_succ]
        refine AnyL.pure (i := 16) (v := ?_) (some 36) rfl rfl (by kernel_rfl) (by kernel_rfl) (by kernel_rfl) rfl (fun _ _ _ h => h) (by kernel_rfl) (fun ww => ?_) ?_; rotate_left; · (go_simp; (try with_reducible rfl))
        simp only [Act.put, List.setIfInBounds_toArray]; try simp only [List.set_cons_zero, List.set_cons_succ]
        refine AnyL.pure (i := 17) (v := ?_) (some 37) rfl rfl (by kernel_rfl) (by kernel_rfl) (by kernel_rfl) rfl (fun _ _ _ h => h) (by kernel_rfl) (fun ww => ?_) ?_; rotate_left; · (go_simp; (try with_reducible rfl))
        simp only [Act.put, List.setIfInBounds_toArray]; try simp only [List.set_cons_zero, List.set_cons_succ]
        refine AnyL.pure (i := 18) (v := ?_) (some 38) rfl rfl (by kernel_rfl) (by kernel_rfl) (by kernel_rfl) rfl (fun _ _ _ h => h) (by kernel_rfl) (fun ww => ?_) ?_; rotate_left; · (go_simp; (try with_reducible rfl))
        simp only [Act.put, List.setIfInBounds_toArray]; try simp only [List.set_cons_zero, List.set_cons_succ]
        refine AnyL.take (i := 19) (v := ?_) (some 39) rfl rfl (by kernel_rfl) (by kernel_rfl) (by kernel_rfl) rfl (by kernel_rfl) (fun _ _ _ h => h) (by kernel_rfl) (fun ww hww => ?_) hS ?_; rotate_left; · (obtain ⟨hs0, hs1, hs2⟩ := hww; go_simp; (try with_reducible rfl))
        simp only [Act.put, List.setIfInBounds_toArray]; try simp only [List.set_cons_zero, List.set_cons_succ]
        refine AnyL.step (i := 20) (by kernel_rfl) rfl rfl (fun K hK => ?_)
        go_simp
        refine (hsame.out (q + 1)).mono ?_
        rintro x w2 ⟨rfl, q2, rfl⟩
        replace hS : (w.drewN (q + 1 + q2)).cell? ⟨gb, k, none⟩ = some (.bool false) ∧ (w.drewN (q + 1 + q2)).cell? ⟨bb, k, none⟩ = some e.v ∧ (w.drewN (q + 1 + q2)).cell? ⟨rg, ro + p * 2 + 1, none⟩ = some m.v := ⟨v1, v0, r1⟩
        refine hK _ _ hS ?_; clear hK K
        refine AnyL.pure (i := 21) (v := ?_) (some 41) rfl rfl (by kernel_rfl) (by kernel_rfl) (by kernel_rfl) rfl (fun _ _ _ h => h) (by kernel_rfl) (fun ww => ?_) ?_; rotate_left; · (go_simp; (try with_reducible rfl))
        simp only [Act.put, List.setIfInBounds_toArray]; try simp only [List.set_cons_zero, List.set_cons_succ]
        refine AnyL.pure (i := 22) (v := ?_) (some 42) rfl rfl (by kernel_rfl) (by kernel_rfl) (by kernel_rfl) rfl (fun _ _ _ h => h) (by kernel_rfl) (fun ww => ?_) ?_; rotate_left; · (go_simp; (try with_reducible rfl))
        refine AnyL.pure (i := 23) (v := ?_) (some 43) rfl rfl (by kernel_rfl) (by kernel_rfl) (by kernel_rfl) rfl (fun _ _ _ h => h) (by rfl) (fun ww => ?_) ?_; rotate_left; · (go_simp; (try with_reducible rfl))
        refine AnyL.done (by kernel_rfl) ?_
        have z1 : (w.drewN (q + 1 + q2)).cell? ⟨gb, k, none⟩ = some (.bool false) := v1
        go_wp2
        go_roundw
        case rel => exact ⟨k + 1, q + 1 + q2, by omega, by rw [hct.out]; go_num, by go_num, rfl⟩
        case measure => simp [intOf]; omega
    · obtain rfl : ln = k := by omega
      rw [hall.out] at hc0 ⊢
      rw [← hcnt.out] at hc0 ⊢
      go_wp2
      go_ret
      exact ⟨rfl, q, rfl⟩
end Go.Proofs.Ytfnlemdlngdaiaa
