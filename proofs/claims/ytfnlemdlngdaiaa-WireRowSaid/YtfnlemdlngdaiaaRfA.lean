/-
  The reference's wire as memory: its struct, its list, the bytes. Its functions New, there, behind, Next.
-/
import Derived.Test.YtfnlemdlngdaiaaFnI
namespace Go.Proofs.Ytfnlemdlngdaiaa
open Go.RowKit

/-- The reference's list as plain data: bytes, place. -/
abbrev RA := List (List UInt8 × Nat)
structure RMsg where
  v : Value
  l : List UInt8
  a : Nat
structure Rf where
  p : Nat
  rv : Value
  ms : List RMsg
def RMsg.abs (m : RMsg) : List UInt8 × Nat := (m.l, m.a)
def Rf.abs (R : Rf) : RA := R.ms.map RMsg.abs

def rCells (ms : List RMsg) : List Value := ms.flatMap fun m => [m.v, .int .i64 m.a]
theorem rCells_append (a b : List RMsg) : rCells (a ++ b) = rCells a ++ rCells b := by simp [rCells]
theorem rCells_v {ms : List RMsg} {i : Nat} {m : RMsg} (h : ms[i]? = some m) : (rCells ms)[i * 2]? = some m.v := by
  induction ms generalizing i with
  | nil => simp at h
  | cons a ms ih =>
    cases i with
    | zero => simp at h; subst h; rfl
    | succ i =>
      simp only [List.getElem?_cons_succ] at h
      rw [show (i + 1) * 2 = i * 2 + 1 + 1 from by omega]
      exact ih h
theorem rCells_a {ms : List RMsg} {i : Nat} {m : RMsg} (h : ms[i]? = some m) : (rCells ms)[i * 2 + 1]? = some (.int .i64 m.a) := by
  induction ms generalizing i with
  | nil => simp at h
  | cons a ms ih =>
    cases i with
    | zero => simp at h; subst h; rfl
    | succ i =>
      simp only [List.getElem?_cons_succ] at h
      rw [show (i + 1) * 2 + 1 = i * 2 + 1 + 1 + 1 from by omega]
      exact ih h
theorem rCells_set : ∀ {ms : List RMsg} {i : Nat} (m : RMsg), rCells (ms.set i m) = ((rCells ms).set (i * 2) m.v).set (i * 2 + 1) (.int .i64 m.a)
  | [], _, _ => by simp [rCells]
  | a :: ms, 0, m => by simp [rCells]
  | a :: ms, i + 1, m => by
    have ih := rCells_set (ms := ms) (i := i) m
    simp only [rCells, List.set_cons_succ, List.flatMap_cons, List.cons_append, List.nil_append] at ih ⊢
    rw [ih, show (i + 1) * 2 = i * 2 + 1 + 1 from by omega, show i * 2 + 1 + 1 + 1 = (i * 2 + 1) + 1 + 1 from rfl]
    simp only [List.set_cons_succ]

structure RfOk (w : World) (R : Rf) : Prop where
  blk : Blk w R.p 74 #[R.rv, .int .i64 R.ms.length]
  row : w.ownsRow 0 79 2 R.rv R.ms.length (rCells R.ms)
  byt : ∀ m ∈ R.ms, OwnB 0 w m.v m.l
  small : ∀ m ∈ R.ms, m.l.length ≤ 1048576
  most : R.ms.length ≤ 4096
  ats : ∀ m ∈ R.ms, m.a ≤ R.ms.length
def Rf.foot (R : Rf) (k : Nat) : Prop := k = R.p ∨ R.rv.ownBlock = some k ∨ ∃ m ∈ R.ms, m.v.ownBlock = some k
/-- The blocks that a call on it may turn. -/
def Rf.hot (R : Rf) (k : Nat) : Prop := k = R.p ∨ R.rv.ownBlock = some k
section
variable {w w' : World} {R R' : Rf} {S : Nat → Prop}
theorem RfOk.upd (h : RfOk w R) (hu : Upd S w w') (hn : ∀ k, R.foot k → ¬ S k) : RfOk w' R where
  blk := h.blk.upd hu (hn _ (.inl rfl))
  row := own_upd h.row hu fun k hk => hn k (.inr (.inl hk))
  byt := fun m hm => (h.byt m hm).upd hu fun k hk => hn k (.inr (.inr ⟨m, hm, hk⟩))
  small := h.small
  most := h.most
  ats := h.ats
theorem RfOk.keep (h : RfOk w R) (hu : Upd noBlk w w') : RfOk w' R := h.upd hu fun _ _ h => h
theorem RfOk.lt (h : RfOk w R) : ∀ k, R.foot k → k < w.heap.size := by
  rintro k (rfl | hk | ⟨m, hm, hk⟩)
  · exact h.blk.lt
  · exact (h.row.lt k hk).2
  · exact (h.byt m hm).lt k hk
structure ROn (w : World) (R : Rf) (w' : World) (R' : Rf) : Prop where
  ok : RfOk w' R'
  same : R'.p = R.p
  upd : Upd R.foot w w'
  into : ∀ k, R'.foot k → R.foot k ∨ w.heap.size ≤ k
theorem ROn.of_none (h : RfOk w R) (hu : Upd noBlk w w') : ROn w R w' R := ⟨h.keep hu, rfl, hu.of_none _, fun _ hk => .inl hk⟩
theorem ROn.trans {w2 : World} {R2 : Rf} (h : ROn w R w' R') (h' : ROn w' R' w2 R2) : ROn w R w2 R2 :=
  ⟨h'.ok, h'.same.trans h.same, h.upd.trans h'.upd h.into, fun k hk => (h'.into k hk).elim (h.into k) fun hge => .inr (Nat.le_trans h.upd.size hge)⟩
/-- The cells of the struct, and of a place of the list. -/
theorem RfOk.open_ (h : RfOk w R) : ∃ A cap, R.rv = .slice A R.ms.length cap ∧ R.ms.length ≤ cap ∧ cap ≤ maxLen ∧ w.cell? ⟨R.p, 0, none⟩ = some (.slice A R.ms.length cap) ∧ w.cell? ⟨R.p, 1, none⟩ = some (.int .i64 R.ms.length) ∧
    ∀ (i : Nat) (m : RMsg), R.ms[i]? = some m → ∃ g, A = some ⟨g, 0, none⟩ ∧ w.cell? ⟨g, i * 2, none⟩ = some m.v ∧ w.cell? ⟨g, i * 2 + 1, none⟩ = some (.int .i64 m.a) := by
  obtain ⟨A, cap, hrv, h1, h2, _, _, hat⟩ := own_form h.row
  refine ⟨A, cap, hrv, h1, h2, by rw [h.blk.cell, hrv]; rfl, by rw [h.blk.cell]; rfl, fun i m hm => ?_⟩
  obtain ⟨g, hA, hc⟩ := hat _ _ (rCells_v hm)
  obtain ⟨g', hA', hc'⟩ := hat _ _ (rCells_a hm)
  rw [hA] at hA'
  simp only [Option.some.injEq, Addr.mk.injEq, and_true] at hA'
  subst hA'
  exact ⟨g, hA, hc, hc'⟩
end

def RDoes (w : World) (R : Rf) (r : Value) (s : RA) (e : Ending) (w' : World) : Prop := ∃ R', e = .returned r ∧ ROn w R w' R' ∧ R'.abs = s

/-- Where a message that is there stands in the list. -/
def RA.pick (r : RA) (n : Int) : Option Nat := if 1 ≤ n ∧ n ≤ r.length ∧ 0 < (r.getD (n - 1).toNat ([], 0)).2 then some (n - 1).toNat else none
theorem RA.pick_some {r : RA} {n : Int} {k : Nat} (h : r.pick n = some k) : n = (k : Int) + 1 ∧ ∃ l a, r[k]? = some (l, a) ∧ 0 < a := by
  unfold RA.pick at h
  split at h
  · rename_i hc
    obtain ⟨h1, h2, h3⟩ := hc
    have hk : (n - 1).toNat = k := Option.some.inj h
    refine ⟨by omega, ?_⟩
    rw [hk] at h3
    cases hg : r[k]? with
    | none =>
      have := List.getElem?_eq_none_iff.1 hg
      omega
    | some x =>
      rw [List.getD, hg] at h3
      exact ⟨x.1, x.2, rfl, h3⟩
  · cases h
theorem RA.pick_of {r : RA} {k a : Nat} {l : List UInt8} (h : r[k]? = some (l, a)) (ha : 0 < a) : r.pick ((k : Int) + 1) = some k := by
  have hk := (List.getElem?_eq_some_iff.1 h).1
  unfold RA.pick
  rw [show ((k : Int) + 1 - 1).toNat = k from by omega, if_pos ⟨by omega, by omega, by rw [List.getD, h]; exact ha⟩]
theorem RA.pick_none {r : RA} {n : Int} (h : r.pick n = none) : n < 1 ∨ (r.length : Int) < n ∨ ∃ (k : Nat) (l : List UInt8), n = (k : Int) + 1 ∧ r[k]? = some (l, 0) := by
  unfold RA.pick at h
  split at h
  · cases h
  · rename_i hc
    by_cases h1 : n < 1
    · exact .inl h1
    by_cases h2 : (r.length : Int) < n
    · exact .inr (.inl h2)
    refine .inr (.inr ⟨(n - 1).toNat, ?_⟩)
    obtain ⟨x, hx⟩ : ∃ x, r[(n - 1).toNat]? = some x := ⟨_, List.getElem?_eq_getElem (by omega)⟩
    refine ⟨x.1, by omega, ?_⟩
    have h3 : ¬ 0 < (r.getD (n - 1).toNat ([], 0)).2 := fun h3 => hc ⟨by omega, by omega, h3⟩
    rw [List.getD, hx] at h3
    simp only [Option.getD_some] at h3
    obtain ⟨xl, xa⟩ := x
    simp only at h3
    obtain rfl : xa = 0 := by omega
    exact hx
theorem Rf.at_abs {R : Rf} {k a : Nat} {l : List UInt8} (h : R.abs[k]? = some (l, a)) : ∃ m, R.ms[k]? = some m ∧ m.l = l ∧ m.a = a ∧ k < R.ms.length := by
  unfold Rf.abs at h
  rw [List.getElem?_map, Option.map_eq_some_iff] at h
  obtain ⟨m, hm, he⟩ := h
  exact ⟨m, hm, congrArg Prod.fst he, congrArg Prod.snd he, (List.getElem?_eq_some_iff.1 hm).1⟩
theorem Rf.abs_length (R : Rf) : R.abs.length = R.ms.length := by simp [Rf.abs]

def RNewP (w : World) (e : Ending) (w' : World) : Prop := ∃ R : Rf, e = .returned (.pointer (some ⟨R.p, 0, none⟩)) ∧ RfOk w' R ∧ R.abs = [] ∧ Upd noBlk w w' ∧ ∀ k, R.foot k → w.heap.size ≤ k

set_option maxHeartbeats 400000 in
theorem rnew_any (w : World) : Calls Try.prog 40 #[] w (RNewP w) := by
  go_enter Try.func40, Try.ntmps40
  go_wp2
  go_ret
  refine ⟨⟨w.heap.size, .slice none 0 0, []⟩, rfl, ⟨Blk.new _ _ _, World.ownsRow_nil _ _ _ _, by simp, by simp, by simp, by simp⟩, rfl, (Upd.refl _ _).alloc _, ?_⟩
  rintro k (rfl | hk | ⟨m, hm, _⟩)
  · exact Nat.le_refl _
  · simp [Value.ownBlock] at hk
  · simp at hm

set_option maxHeartbeats 1000000 in
theorem there_any (R : Rf) (n : Int) (w : World) (hR : RfOk w R) : Calls Try.prog 54 #[.pointer (some ⟨R.p, 0, none⟩), .int .i64 n] w fun e w' => e = .returned (.bool (R.abs.pick n).isSome) ∧ w = w' := by
  obtain ⟨A, cap, hrv, hc1, hc2, c0, c1, hat⟩ := hR.open_
  have hm := hR.most
  have hats := hR.ats
  cases hf : R.abs.pick n with
  | some k =>
    obtain ⟨rfl, l, a, hk, ha⟩ := RA.pick_some hf
    obtain ⟨m, hmk, rfl, rfl, hlt⟩ := Rf.at_abs hk
    obtain ⟨g, rfl, v0, v1⟩ := hat k m hmk
    have hma := hats m (List.mem_of_getElem? hmk)
    generalize R.ms.length = ln at *
    clear hf hk hat hats hR hrv
    go_enter Try.func54, Try.ntmps54
    go_wp2
    go_ret
    exact ⟨rfl, rfl⟩
  | none =>
    rcases RA.pick_none hf with h | h | ⟨k, l, rfl, hk⟩
    · clear hf hat hats hR hrv
      go_enter Try.func54, Try.ntmps54
      go_wp2
      go_ret
      exact ⟨rfl, rfl⟩
    · rw [R.abs_length] at h
      clear hf hat hats hR hrv
      generalize R.ms.length = ln at *
      go_enter Try.func54, Try.ntmps54
      go_wp2
      go_ret
      exact ⟨rfl, rfl⟩
    · obtain ⟨m, hmk, rfl, hma, hlt⟩ := Rf.at_abs hk
      obtain ⟨g, rfl, v0, v1⟩ := hat k m hmk
      rw [hma] at v1
      generalize R.ms.length = ln at *
      clear hf hk hat hats hR hrv
      go_enter Try.func54, Try.ntmps54
      go_wp2
      go_ret
      exact ⟨rfl, rfl⟩
end Go.Proofs.Ytfnlemdlngdaiaa
