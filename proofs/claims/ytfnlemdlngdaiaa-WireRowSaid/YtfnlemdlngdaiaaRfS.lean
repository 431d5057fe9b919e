/-
  The wire and the reference, as plain data: they answer alike.
-/
import Derived.Test.YtfnlemdlngdaiaaRfM
import Derived.Test.YtfnlemdlngdaiaaPlA
namespace Go.Proofs.Ytfnlemdlngdaiaa

/-- The reference's list r and the wire's row s are of the same messages; the places rise along the row. -/
structure Sim (r : RA) (s : WA) : Prop where
  given : s.given = r.length
  fwd : ∀ (i n : Nat) (l : List UInt8), s.row[i]? = some (n, l) → ∃ k a : Nat, n = k + 1 ∧ r[k]? = some (l, a) ∧ 0 < a
  ord : ∀ (i j k k' : Nat) (l l' : List UInt8), i < j → s.row[i]? = some (k + 1, l) → s.row[j]? = some (k' + 1, l') → r.aof k < r.aof k'
  back : ∀ (k : Nat) (l : List UInt8) (a : Nat), r[k]? = some (l, a) → 0 < a → ∃ i : Nat, s.row[i]? = some (k + 1, l)
  top : ∀ (k : Nat) (l : List UInt8) (a : Nat), r[k]? = some (l, a) → a ≤ r.length

theorem RA.aof_of {r : RA} {k a : Nat} {l : List UInt8} (h : r[k]? = some (l, a)) : r.aof k = a := by unfold RA.aof; rw [List.getD, h]; rfl
theorem RA.get_of {r : RA} {k a : Nat} {l : List UInt8} (h : r[k]? = some (l, a)) : r.get k = (l, a) := by unfold RA.get; rw [List.getD, h]; rfl
theorem RA.aof_congr {r r' : RA} {k : Nat} (h : r[k]? = r'[k]?) : r.aof k = r'.aof k := by unfold RA.aof; rw [List.getD, List.getD, h]

section
variable {r : RA} {s : WA}
theorem Sim.nil : Sim [] ⟨[], 0⟩ := ⟨rfl, by simp, by simp, by simp, by simp⟩

theorem Sim.find_some (h : Sim r s) (ho : s.Ok) {n : Int} {k : Nat} (hp : r.pick n = some k) : ∃ (i : Nat) (l : List UInt8) (a : Nat), n = (k : Int) + 1 ∧ s.find n = some i ∧ s.row[i]? = some (k + 1, l) ∧ r[k]? = some (l, a) ∧ 0 < a := by
  obtain ⟨rfl, l, a, hk, ha⟩ := RA.pick_some hp
  obtain ⟨i, hi⟩ := h.back k l a hk ha
  have hf := WA.find_of ho hi
  exact ⟨i, l, a, rfl, hf, hi, hk, ha⟩
theorem Sim.find_none (h : Sim r s) {n : Int} (hp : r.pick n = none) : s.find n = none := by
  cases hf : s.find n with
  | none => rfl
  | some i =>
    obtain ⟨hi, hn⟩ := WA.find_some hf
    have hg := WA.get_at hi
    obtain ⟨k, a, h1, h2, h3⟩ := h.fwd i (s.get i).1 (s.get i).2 hg
    have h4 := RA.pick_of h2 h3
    rw [← hn, h1] at hp
    simp only [Int.natCast_add, Int.cast_ofNat_Int] at hp
    rw [hp] at h4
    cases h4

theorem Sim.look (h : Sim r s) (ho : s.Ok) (n : Int) : r.look n = s.look n := by
  unfold RA.look WA.look
  cases hp : r.pick n with
  | none => rw [h.find_none hp]
  | some k =>
    obtain ⟨i, l, a, -, hf, hi, hk, -⟩ := h.find_some ho hp
    rw [hf]
    simp only
    rw [WA.get_of hi, RA.get_of hk]

theorem Sim.add (h : Sim r s) (l : List UInt8) : Sim (r.add l) (s.add l) := by
  have hg := h.given
  have hc : ∀ (i n : Nat) (l' : List UInt8), (s.add l).row[i]? = some (n, l') → s.row[i]? = some (n, l') ∨ i = s.row.length ∧ n = s.given + 1 ∧ l' = l := by
    intro i n l' hi
    unfold WA.add at hi
    simp only [List.getElem?_append] at hi
    split at hi
    · exact .inl hi
    · rename_i h1
      have h2 : i - s.row.length = 0 := by
        have := (List.getElem?_eq_some_iff.1 hi).1
        simpa using this
      rw [h2] at hi
      simp only [List.getElem?_cons_zero, Option.some.injEq, Prod.mk.injEq] at hi
      exact .inr ⟨by omega, hi.1.symm, hi.2.symm⟩
  have hr : ∀ k, k < r.length → (r.add l)[k]? = r[k]? := fun k hk => by unfold RA.add; rw [List.getElem?_append_left hk]
  have hrn : (r.add l)[r.length]? = some (l, r.length + 1) := by unfold RA.add; simp
  have hlen : (r.add l).length = r.length + 1 := by simp [RA.add]
  have hk : ∀ {k l a}, r[k]? = some (l, a) → k < r.length := fun h => (List.getElem?_eq_some_iff.1 h).1
  refine ⟨by rw [hlen]; simp only [WA.add]; omega, ?_, ?_, ?_, ?_⟩
  · intro i n l' hi
    rcases hc i n l' hi with h1 | ⟨rfl, rfl, rfl⟩
    · obtain ⟨k, a, h2, h3, h4⟩ := h.fwd i n l' h1
      exact ⟨k, a, h2, by rw [hr k (hk h3)]; exact h3, h4⟩
    · exact ⟨r.length, r.length + 1, by omega, hrn, by omega⟩
  · intro i j k k' l1 l2 hij hi hj
    rcases hc _ _ _ hi with h1 | ⟨rfl, h1, rfl⟩
    · obtain ⟨k1, a1, h2, h3, h4⟩ := h.fwd _ _ _ h1
      obtain rfl : k = k1 := by omega
      rw [RA.aof_congr (hr k (hk h3)), RA.aof_of h3]
      rcases hc _ _ _ hj with h5 | ⟨rfl, h5, rfl⟩
      · obtain ⟨k2, a2, h6, h7, h8⟩ := h.fwd _ _ _ h5
        obtain rfl : k' = k2 := by omega
        rw [RA.aof_congr (hr k' (hk h7)), ← RA.aof_of h3]
        exact h.ord i j k k' l1 l2 hij h1 h5
      · obtain rfl : k' = r.length := by omega
        rw [RA.aof_of hrn]
        have := h.top k l1 a1 h3
        omega
    · have hjl := (List.getElem?_eq_some_iff.1 hj).1
      simp only [WA.add, List.length_append, List.length_cons, List.length_nil] at hjl
      omega
  · intro k l' a hka ha
    by_cases hkl : k < r.length
    · rw [hr k hkl] at hka
      obtain ⟨i, hi⟩ := h.back k l' a hka ha
      refine ⟨i, ?_⟩
      unfold WA.add
      rw [List.getElem?_append_left (List.getElem?_eq_some_iff.1 hi).1]
      exact hi
    · have hk2 := (List.getElem?_eq_some_iff.1 hka).1
      rw [hlen] at hk2
      obtain rfl : k = r.length := by omega
      rw [hrn] at hka
      simp only [Option.some.injEq, Prod.mk.injEq] at hka
      obtain ⟨rfl, rfl⟩ := hka
      refine ⟨s.row.length, ?_⟩
      rw [WA.add_at, hg]
  · intro k l' a hka
    rw [hlen]
    by_cases hkl : k < r.length
    · rw [hr k hkl] at hka
      have := h.top k l' a hka
      omega
    · have hk2 := (List.getElem?_eq_some_iff.1 hka).1
      rw [hlen] at hk2
      obtain rfl : k = r.length := by omega
      rw [hrn] at hka
      simp only [Option.some.injEq, Prod.mk.injEq] at hka
      omega

theorem Sim.put (h : Sim r s) (l : List UInt8) : (r.put l).2 = (s.put l).2 ∧ Sim (r.put l).1 (s.put l).1 := by
  unfold RA.put WA.put
  rw [h.given]
  split
  · exact ⟨rfl, h⟩
  · exact ⟨rfl, h.add l⟩
theorem Sim.send (h : Sim r s) (l : List UInt8) : (r.send l).2 = (s.send l).2 ∧ Sim (r.send l).1 (s.send l).1 := by
  unfold RA.send WA.send
  split
  · exact ⟨rfl, h⟩
  · exact h.put l
theorem Sim.copy (h : Sim r s) (ho : s.Ok) (n : Int) : (r.copy n).2 = (s.copy n).2 ∧ Sim (r.copy n).1 (s.copy n).1 := by
  unfold RA.copy WA.copy
  cases hp : r.pick n with
  | none => rw [h.find_none hp]; exact ⟨rfl, h⟩
  | some k =>
    obtain ⟨i, l, a, -, hf, hi, hk, -⟩ := h.find_some ho hp
    rw [hf]
    simp only
    rw [WA.get_of hi, RA.get_of hk]
    exact h.put l

/-- One message's bytes turn. -/
theorem Sim.setB (h : Sim r s) (ho : s.Ok) {i k a : Nat} {l : List UInt8} (hi : s.row[i]? = some (k + 1, l)) (hk : r[k]? = some (l, a)) (ha : 0 < a) (l' : List UInt8) : Sim (r.set k (l', a)) (s.setB i l') := by
  have hkl := (List.getElem?_eq_some_iff.1 hk).1
  have hil := (List.getElem?_eq_some_iff.1 hi).1
  have haof : ∀ j, RA.aof (r.set k (l', a)) j = r.aof j := by
    intro j
    by_cases hj : j = k
    · subst hj
      rw [RA.aof_of hk, RA.aof_of (List.getElem?_set_self hkl)]
    · exact RA.aof_congr (List.getElem?_set_ne (Ne.symm hj))
  have hrow : ∀ (j n : Nat) (m : List UInt8), (s.setB i l').row[j]? = some (n, m) → j = i ∧ n = k + 1 ∧ m = l' ∨ j ≠ i ∧ s.row[j]? = some (n, m) := by
    intro j n m hj
    unfold WA.setB at hj
    rw [WA.get_of hi] at hj
    by_cases hji : j = i
    · subst hji
      rw [List.getElem?_set_self hil] at hj
      simp only [Option.some.injEq, Prod.mk.injEq] at hj
      exact .inl ⟨rfl, hj.1.symm, hj.2.symm⟩
    · rw [List.getElem?_set_ne (Ne.symm hji)] at hj
      exact .inr ⟨hji, hj⟩
  have hrow2 : ∀ (j n : Nat) (m : List UInt8), (s.setB i l').row[j]? = some (n, m) → ∃ m', s.row[j]? = some (n, m') := by
    intro j n m hj
    rcases hrow j n m hj with ⟨rfl, rfl, rfl⟩ | ⟨_, h1⟩
    · exact ⟨l, hi⟩
    · exact ⟨m, h1⟩
  refine ⟨by rw [List.length_set]; exact h.given, ?_, ?_, ?_, ?_⟩
  · intro j n m hj
    rcases hrow j n m hj with ⟨rfl, rfl, rfl⟩ | ⟨hji, h1⟩
    · exact ⟨k, a, rfl, List.getElem?_set_self hkl, ha⟩
    · obtain ⟨k', a', h2, h3, h4⟩ := h.fwd j n m h1
      refine ⟨k', a', h2, ?_, h4⟩
      rw [List.getElem?_set_ne]
      · exact h3
      · rintro rfl
        exact hji (ho.inj j i _ _ h1 hi h2)
  · intro j j' k1 k2 m m' hjj hj hj'
    rw [haof, haof]
    obtain ⟨_, h1⟩ := hrow2 _ _ _ hj
    obtain ⟨_, h2⟩ := hrow2 _ _ _ hj'
    exact h.ord _ _ _ _ _ _ hjj h1 h2
  · intro k' m a' hk' ha'
    by_cases he : k' = k
    · subst he
      rw [List.getElem?_set_self hkl] at hk'
      simp only [Option.some.injEq, Prod.mk.injEq] at hk'
      obtain ⟨rfl, rfl⟩ := hk'
      refine ⟨i, ?_⟩
      unfold WA.setB
      rw [WA.get_of hi, List.getElem?_set_self hil]
    · rw [List.getElem?_set_ne (Ne.symm he)] at hk'
      obtain ⟨j, hj⟩ := h.back k' m a' hk' ha'
      refine ⟨j, ?_⟩
      unfold WA.setB
      rw [List.getElem?_set_ne]
      · exact hj
      · rintro rfl
        rw [hi] at hj
        simp only [Option.some.injEq, Prod.mk.injEq] at hj
        omega
  · intro k' m a' hk'
    rw [List.length_set]
    by_cases he : k' = k
    · subst he
      rw [List.getElem?_set_self hkl] at hk'
      simp only [Option.some.injEq, Prod.mk.injEq] at hk'
      have := h.top k' l a hk
      omega
    · rw [List.getElem?_set_ne (Ne.symm he)] at hk'
      exact h.top k' m a' hk'

theorem Sim.flip (h : Sim r s) (ho : s.Ok) (n at_ bits : Int) : (r.flip n at_ bits).2 = (s.flip n at_ bits).2 ∧ Sim (r.flip n at_ bits).1 (s.flip n at_ bits).1 := by
  unfold RA.flip WA.flip
  cases hp : r.pick n with
  | none => rw [h.find_none hp]; exact ⟨rfl, h⟩
  | some k =>
    obtain ⟨i, l, a, -, hf, hi, hk, ha⟩ := h.find_some ho hp
    rw [hf]
    simp only
    rw [WA.get_of hi, RA.get_of hk]
    simp only
    split
    · exact ⟨rfl, h⟩
    · exact ⟨rfl, h.setB ho hi hk ha _⟩
theorem Sim.cut (h : Sim r s) (ho : s.Ok) (n len : Int) : (r.cut n len).2 = (s.cut n len).2 ∧ Sim (r.cut n len).1 (s.cut n len).1 := by
  unfold RA.cut WA.cut
  cases hp : r.pick n with
  | none => rw [h.find_none hp]; exact ⟨rfl, h⟩
  | some k =>
    obtain ⟨i, l, a, -, hf, hi, hk, ha⟩ := h.find_some ho hp
    rw [hf]
    simp only
    rw [WA.get_of hi, RA.get_of hk]
    simp only
    split
    · exact ⟨rfl, h⟩
    · exact ⟨rfl, h.setB ho hi hk ha _⟩

theorem Sim.gone (h : Sim r s) (ho : s.Ok) {i k a : Nat} {l : List UInt8} (hi : s.row[i]? = some (k + 1, l)) (hk : r[k]? = some (l, a)) : Sim (r.set k (l, 0)) (s.gone i) := by
  have hkl := (List.getElem?_eq_some_iff.1 hk).1
  have hil := (List.getElem?_eq_some_iff.1 hi).1
  have hrow : ∀ j, (s.gone i).row[j]? = s.row[if j < i then j else j + 1]? := by
    intro j
    unfold WA.gone
    rw [List.getElem?_eraseIdx]
    split <;> rfl
  have hnk : ∀ (j k' : Nat) (m : List UInt8), (s.gone i).row[j]? = some (k' + 1, m) → k' ≠ k := by
    rintro j k' m hj rfl
    rw [hrow] at hj
    have := ho.inj _ i _ _ hj hi rfl
    split at this <;> omega
  have haof : ∀ j, j ≠ k → RA.aof (r.set k (l, 0)) j = r.aof j := fun j hj => RA.aof_congr (List.getElem?_set_ne (Ne.symm hj))
  refine ⟨by rw [List.length_set]; exact h.given, ?_, ?_, ?_, ?_⟩
  · intro j n m hj
    have hj0 := hj
    rw [hrow] at hj
    obtain ⟨k', a', rfl, h3, h4⟩ := h.fwd _ n m hj
    exact ⟨k', a', rfl, by rw [List.getElem?_set_ne (Ne.symm (hnk j k' m hj0))]; exact h3, h4⟩
  · intro j j' k1 k2 m m' hjj hj hj'
    rw [haof _ (hnk _ _ _ hj), haof _ (hnk _ _ _ hj')]
    rw [hrow] at hj hj'
    refine h.ord _ _ _ _ _ _ ?_ hj hj'
    split <;> split <;> omega
  · intro k' m a' hk' ha'
    by_cases he : k' = k
    · subst he
      rw [List.getElem?_set_self hkl] at hk'
      simp only [Option.some.injEq, Prod.mk.injEq] at hk'
      omega
    · rw [List.getElem?_set_ne (Ne.symm he)] at hk'
      obtain ⟨j, hj⟩ := h.back k' m a' hk' ha'
      have hji : j ≠ i := by
        rintro rfl
        rw [hi] at hj
        simp only [Option.some.injEq, Prod.mk.injEq] at hj
        omega
      by_cases hlt : j < i
      · exact ⟨j, by rw [hrow, if_pos hlt]; exact hj⟩
      · exact ⟨j - 1, by rw [hrow, if_neg (by omega), show j - 1 + 1 = j from by omega]; exact hj⟩
  · intro k' m a' hk'
    rw [List.length_set]
    by_cases he : k' = k
    · subst he
      rw [List.getElem?_set_self hkl] at hk'
      simp only [Option.some.injEq, Prod.mk.injEq] at hk'
      omega
    · rw [List.getElem?_set_ne (Ne.symm he)] at hk'
      exact h.top k' m a' hk'
theorem Sim.drop (h : Sim r s) (ho : s.Ok) (n : Int) : (r.drop n).2 = (s.drop n).2 ∧ Sim (r.drop n).1 (s.drop n).1 := by
  unfold RA.drop WA.drop
  cases hp : r.pick n with
  | none => rw [h.find_none hp]; exact ⟨rfl, h⟩
  | some k =>
    obtain ⟨i, l, a, -, hf, hi, hk, ha⟩ := h.find_some ho hp
    rw [hf]
    simp only
    rw [RA.get_of hk]
    exact ⟨trivial, h.gone ho hi hk⟩

theorem Sim.swapped (h : Sim r s) (ho : s.Ok) {i j k q a b : Nat} {l m : List UInt8} (hi : s.row[i]? = some (k + 1, l)) (hk : r[k]? = some (l, a)) (ha : 0 < a) (hj : s.row[j]? = some (q + 1, m)) (hq : r[q]? = some (m, b)) (hb : 0 < b) :
    Sim ((r.set k (l, b)).set q (m, a)) (s.swapped i j) := by
  have hkl := (List.getElem?_eq_some_iff.1 hk).1
  have hql := (List.getElem?_eq_some_iff.1 hq).1
  have hil := (List.getElem?_eq_some_iff.1 hi).1
  have hjl := (List.getElem?_eq_some_iff.1 hj).1
  have hrow := fun x => WA.swapped_at (s := s) hil hjl x
  have hkq : k = q → i = j := by
    rintro rfl
    exact ho.inj i j _ _ hi hj rfl
  -- the list, read
  have hget : ∀ x, ((r.set k (l, b)).set q (m, a))[x]? = if x = q then some (m, a) else if x = k then some (l, b) else r[x]? := by
    intro x
    by_cases hx : x = q
    · subst hx
      rw [if_pos rfl, List.getElem?_set_self (by rw [List.length_set]; exact hql)]
    · rw [if_neg hx, List.getElem?_set_ne (Ne.symm hx)]
      by_cases hx2 : x = k
      · subst hx2
        rw [if_pos rfl, List.getElem?_set_self hkl]
      · rw [if_neg hx2, List.getElem?_set_ne (Ne.symm hx2)]
  -- at each place of the row stands the place that stood there
  have hpl : ∀ (x k' : Nat) (l' : List UInt8), (s.swapped i j).row[x]? = some (k' + 1, l') → ∃ (k0 : Nat) (l0 : List UInt8) (a0 : Nat), s.row[x]? = some (k0 + 1, l0) ∧ r[k0]? = some (l0, a0) ∧ 0 < a0 ∧ ((r.set k (l, b)).set q (m, a))[k']? = some (l', a0) := by
    intro x k' l' hx
    rw [hrow] at hx
    unfold tau at hx
    by_cases hxj : x = j
    · subst hxj
      rw [if_pos rfl, hi] at hx
      simp only [Option.some.injEq, Prod.mk.injEq] at hx
      obtain ⟨h1, rfl⟩ := hx
      obtain rfl : k = k' := by omega
      refine ⟨q, m, b, hj, hq, hb, ?_⟩
      rw [hget]
      by_cases h2 : k = q
      · subst h2
        rw [hk] at hq
        simp only [Option.some.injEq, Prod.mk.injEq] at hq
        rw [if_pos rfl, hq.1, hq.2]
      · rw [if_neg h2, if_pos rfl]
    · rw [if_neg hxj] at hx
      by_cases hxi : x = i
      · subst hxi
        rw [if_pos rfl, hj] at hx
        simp only [Option.some.injEq, Prod.mk.injEq] at hx
        obtain ⟨h1, rfl⟩ := hx
        obtain rfl : q = k' := by omega
        exact ⟨k, l, a, hi, hk, ha, by rw [hget, if_pos rfl]⟩
      · rw [if_neg hxi] at hx
        obtain ⟨k1, a1, h1, h2, h3⟩ := h.fwd x _ _ hx
        obtain rfl : k' = k1 := by omega
        refine ⟨k', l', a1, hx, h2, h3, ?_⟩
        rw [hget, if_neg, if_neg]
        · exact h2
        · rintro rfl
          exact hxi (ho.inj x i _ _ hx hi rfl)
        · rintro rfl
          exact hxj (ho.inj x j _ _ hx hj rfl)
  refine ⟨by rw [List.length_set, List.length_set]; exact h.given, ?_, ?_, ?_, ?_⟩
  · intro x n l' hx
    have hn : ∃ k', n = k' + 1 := by
      rw [hrow] at hx
      obtain ⟨k1, _, h1, _⟩ := h.fwd _ _ _ hx
      exact ⟨k1, h1⟩
    obtain ⟨k', rfl⟩ := hn
    obtain ⟨_, _, a0, _, _, h3, h4⟩ := hpl x k' l' hx
    exact ⟨k', a0, rfl, h4, h3⟩
  · intro x y k1 k2 l1 l2 hxy hx hy
    obtain ⟨q1, m1, a1, e1, e2, _, e4⟩ := hpl x k1 l1 hx
    obtain ⟨q2, m2, a2, f1, f2, _, f4⟩ := hpl y k2 l2 hy
    rw [RA.aof_of e4, RA.aof_of f4, ← RA.aof_of e2, ← RA.aof_of f2]
    exact h.ord x y q1 q2 m1 m2 hxy e1 f1
  · intro x l' a' hx ha'
    rw [hget] at hx
    have key : ∃ y : Nat, s.row[y]? = some (x + 1, l') := by
      split at hx
      · rename_i h1
        simp only [Option.some.injEq, Prod.mk.injEq] at hx
        obtain ⟨rfl, rfl⟩ := hx
        subst h1
        exact ⟨j, hj⟩
      · split at hx
        · rename_i h1
          simp only [Option.some.injEq, Prod.mk.injEq] at hx
          obtain ⟨rfl, rfl⟩ := hx
          subst h1
          exact ⟨i, hi⟩
        · exact h.back x l' a' hx ha'
    obtain ⟨y, hy⟩ := key
    exact ⟨tau i j y, by rw [hrow, tau_tau]; exact hy⟩
  · intro x l' a' hx
    rw [List.length_set, List.length_set]
    rw [hget] at hx
    split at hx
    · simp only [Option.some.injEq, Prod.mk.injEq] at hx
      have := h.top k l a hk
      omega
    · split at hx
      · simp only [Option.some.injEq, Prod.mk.injEq] at hx
        have := h.top q m b hq
        omega
      · exact h.top x l' a' hx
theorem Sim.swap (h : Sim r s) (ho : s.Ok) (n m : Int) : (r.swap n m).2 = (s.swap n m).2 ∧ Sim (r.swap n m).1 (s.swap n m).1 := by
  unfold RA.swap WA.swap
  cases hp : r.pick n with
  | none => rw [h.find_none hp]; exact ⟨rfl, h⟩
  | some k =>
    obtain ⟨i, l, a, -, hf, hi, hk, ha⟩ := h.find_some ho hp
    rw [hf]
    cases hq : r.pick m with
    | none => rw [h.find_none hq]; exact ⟨rfl, h⟩
    | some k' =>
      obtain ⟨j, l', a', -, hf', hj, hk', ha'⟩ := h.find_some ho hq
      rw [hf']
      simp only
      rw [RA.get_of hk, RA.get_of hk']
      exact ⟨trivial, h.swapped ho hi hk ha hj hk' ha'⟩
end

theorem RA.behindTo_zero (r : RA) (a : Nat) : ∀ k, r.behindTo a k = 0 → ∀ j, j < k → r.aof j ≤ a
  | 0, _, j, hj => by omega
  | k + 1, h, j, hj => by
    unfold RA.behindTo at h
    split at h
    · omega
    · rename_i hc
      have ih := r.behindTo_zero a k h
      by_cases hjk : j = k
      · subst hjk
        by_cases h2 : a < r.aof j
        · exact (hc ⟨h2, .inl h⟩).elim
        · omega
      · exact ih j (by omega)
theorem RA.behindTo_least (r : RA) (a : Nat) : ∀ k, r.behindTo a k ≠ 0 → ∀ j, j < k → a < r.aof j → r.aof (r.behindTo a k - 1) ≤ r.aof j
  | 0, h, _, _, _ => (h rfl).elim
  | k + 1, h, j, hj, hja => by
    have ih := r.behindTo_least a k
    have hz := r.behindTo_zero a k
    unfold RA.behindTo at h ⊢
    split
    · rename_i hc
      rw [Nat.add_sub_cancel]
      by_cases hjk : j = k
      · subst hjk; exact Nat.le_refl _
      · rcases hc.2 with h0 | h0
        · have := hz h0 j (by omega)
          omega
        · by_cases h1 : r.behindTo a k = 0
          · have := hz h1 j (by omega)
            omega
          · have := ih h1 j (by omega) hja
            omega
    · rename_i hc
      rw [if_neg hc] at h
      by_cases hjk : j = k
      · subst hjk
        by_cases h1 : r.aof j < r.aof (r.behindTo a j - 1)
        · exact (hc ⟨hja, .inr h1⟩).elim
        · omega
      · exact ih h j (by omega) hja

section
variable {r : RA} {s : WA}
/-- a stands between the places ahead of i and the others. -/
structure Cutp (r : RA) (s : WA) (a i : Nat) : Prop where
  lo : ∀ (j k : Nat) (l : List UInt8), j < i → s.row[j]? = some (k + 1, l) → r.aof k ≤ a
  hi : ∀ (j k : Nat) (l : List UInt8), i ≤ j → s.row[j]? = some (k + 1, l) → a < r.aof k
theorem Sim.at_pos (h : Sim r s) {k : Nat} (ha : 0 < r.aof k) : ∃ (i : Nat) (l : List UInt8), s.row[i]? = some (k + 1, l) ∧ k < r.length := by
  cases hg : r[k]? with
  | none =>
    unfold RA.aof at ha
    rw [List.getD, hg] at ha
    simp at ha
  | some e =>
    obtain ⟨l, a⟩ := e
    rw [RA.aof_of hg] at ha
    obtain ⟨i, hi⟩ := h.back k l a hg ha
    exact ⟨i, l, hi, (List.getElem?_eq_some_iff.1 hg).1⟩
theorem Sim.behind_end (h : Sim r s) {a i : Nat} (hc : Cutp r s a i) (hi : s.row.length ≤ i) : r.behind a = 0 := by
  by_cases hz : r.behind a = 0
  · exact hz
  · have h1 := r.behind_above a hz
    obtain ⟨j, l, hj, _⟩ := h.at_pos (Nat.lt_of_le_of_lt (Nat.zero_le a) h1)
    have h2 := (List.getElem?_eq_some_iff.1 hj).1
    have := hc.lo j _ l (by omega) hj
    omega
theorem Sim.behind_at (h : Sim r s) {a i k : Nat} {l : List UInt8} (hc : Cutp r s a i) (hi : s.row[i]? = some (k + 1, l)) : r.behind a = k + 1 := by
  have hka := hc.hi i k l (Nat.le_refl _) hi
  obtain ⟨_, _, _, hkl⟩ := h.at_pos (Nat.lt_of_le_of_lt (Nat.zero_le a) hka)
  have hz : r.behind a ≠ 0 := fun h0 => by
    have := r.behindTo_zero a r.length h0 k hkl
    omega
  have h1 := r.behind_above a hz
  have h2 := r.behindTo_least a r.length hz k hkl hka
  obtain ⟨j, l', hj, _⟩ := h.at_pos (Nat.lt_of_le_of_lt (Nat.zero_le a) h1)
  change r.aof (r.behind a - 1) ≤ _ at h2
  by_cases hij : i = j
  · subst hij
    rw [hi] at hj
    simp only [Option.some.injEq, Prod.mk.injEq] at hj
    omega
  · by_cases hlt : i < j
    · have := h.ord i j _ _ _ _ hlt hi hj
      omega
    · have := hc.lo j _ l' (by omega) hj
      omega
theorem Sim.from_row (h : Sim r s) : ∀ (f a i : Nat), Cutp r s a i → i ≤ s.row.length → r.length + 1 ≤ f + a → a ≤ r.length → r.from_ a f = s.row.drop i
  | 0, a, i, _, _, hf, ha => by omega
  | f + 1, a, i, hc, hi, hf, ha => by
    unfold RA.from_
    by_cases hil : i = s.row.length
    · rw [if_pos (h.behind_end hc (by omega)), hil, List.drop_length]
    · have hlt : i < s.row.length := by omega
      obtain ⟨n, l, hnl⟩ : ∃ n l, s.row[i]? = some (n, l) := ⟨_, _, List.getElem?_eq_getElem hlt⟩
      obtain ⟨k, a', rfl, hk, ha'⟩ := h.fwd i n l hnl
      rw [h.behind_at hc hnl, if_neg (by omega), Nat.add_sub_cancel, RA.get_of hk, RA.aof_of hk]
      have hka := hc.hi i k l (Nat.le_refl _) hnl
      rw [RA.aof_of hk] at hka
      have ht := h.top k l a' hk
      have hc' : Cutp r s a' (i + 1) := by
        refine ⟨fun j k' l' hj hjr => ?_, fun j k' l' hj hjr => ?_⟩
        · by_cases hji : j = i
          · subst hji
            rw [hnl] at hjr
            simp only [Option.some.injEq, Prod.mk.injEq] at hjr
            obtain rfl : k = k' := by omega
            rw [RA.aof_of hk]
            exact Nat.le_refl _
          · have := h.ord j i k' k l' l (by omega) hjr hnl
            rw [RA.aof_of hk] at this
            omega
        · have := h.ord i j k k' l l' (by omega) hnl hjr
          rw [RA.aof_of hk] at this
          exact this
      rw [h.from_row f a' (i + 1) hc' (by omega) (by omega) ht]
      rw [List.drop_eq_getElem_cons hlt]
      congr 1
      rw [List.getElem?_eq_getElem hlt] at hnl
      exact (Option.some.inj hnl).symm
theorem Sim.cut0 (h : Sim r s) : Cutp r s 0 0 := by
  refine ⟨fun j k l hj _ => by omega, fun j k l _ hj => ?_⟩
  obtain ⟨k', a, h1, h2, h3⟩ := h.fwd j _ l hj
  obtain rfl : k = k' := by omega
  rw [RA.aof_of h2]
  exact h3
theorem Sim.waiting (h : Sim r s) : r.waiting = s.row := by
  unfold RA.waiting
  rw [h.from_row _ 0 0 h.cut0 (Nat.zero_le _) (by omega) (Nat.zero_le _), List.drop_zero]
theorem Sim.next (h : Sim r s) : ((r.behind 0 : Nat) : Int) = s.next := by
  unfold WA.next
  cases hr : s.row with
  | nil => rw [h.behind_end h.cut0 (by rw [hr]; simp)]; rfl
  | cons e rest =>
    obtain ⟨n, l⟩ := e
    have h0 : s.row[0]? = some (n, l) := by rw [hr]; rfl
    obtain ⟨k, a, rfl, _, _⟩ := h.fwd 0 n l h0
    rw [h.behind_at h.cut0 h0]

theorem Sim.op (h : Sim r s) (ho : s.Ok) (o : OpD) : (r.mustOp o).2 = (s.doOp o).2 ∧ Sim (r.mustOp o).1 (s.doOp o).1 := by
  unfold RA.mustOp WA.doOp
  repeat' split
  · obtain ⟨h1, h2⟩ := h.send o.bytes
    exact ⟨by rw [h1], h2⟩
  · exact ⟨by rw [h.look ho], h⟩
  · obtain ⟨h1, h2⟩ := h.drop ho o.n
    exact ⟨by rw [h.look ho], h2⟩
  · obtain ⟨h1, h2⟩ := h.drop ho o.n
    exact ⟨by rw [h1], h2⟩
  · obtain ⟨h1, h2⟩ := h.copy ho o.n
    exact ⟨by rw [h1], h2⟩
  · obtain ⟨h1, h2⟩ := h.swap ho o.n o.m
    exact ⟨by rw [h1], h2⟩
  · obtain ⟨h1, h2⟩ := h.flip ho o.n o.m o.k
    exact ⟨by rw [h1], h2⟩
  · obtain ⟨h1, h2⟩ := h.cut ho o.n o.m
    exact ⟨by rw [h1], h2⟩
  · exact ⟨by rw [h.next], h⟩
  · exact ⟨by rw [h.waiting], h⟩
  · exact ⟨rfl, h⟩
end
end Go.Proofs.Ytfnlemdlngdaiaa
