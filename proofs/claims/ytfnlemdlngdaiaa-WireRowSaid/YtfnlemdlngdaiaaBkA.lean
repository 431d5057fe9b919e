/-
  The law's 'find'; the book of WireRow as plain data and as memory.
-/
import Derived.Test.YtfnlemdlngdaiaaLawG
import Derived.Test.YtfnlemdlngdaiaaLawE
namespace Go.Proofs.Ytfnlemdlngdaiaa
open Go.RowKit

/-- Where a number stands in a row. -/
def findN (row : List (Nat × List UInt8)) (n : Int) : Option Nat := row.findIdx? fun m => (m.1 : Int) == n
def findV (row : List (Nat × List UInt8)) (n : Int) : Int := match findN row n with | none => -1 | some i => i

theorem findN_some {ms : List Msg} {n : Int} {i : Nat} (h : findN (ms.map Msg.abs) n = some i) : ∃ m, ms[i]? = some m ∧ (m.N : Int) = n ∧ i < ms.length ∧ ∀ j, j < i → ∀ m : Msg, ms[j]? = some m → (m.N : Int) ≠ n := by
  unfold findN at h
  rw [List.findIdx?_map] at h
  rw [List.findIdx?_eq_some_iff_getElem] at h
  obtain ⟨hi, hp, hj⟩ := h
  refine ⟨ms[i], List.getElem?_eq_getElem hi, by simpa [Msg.abs] using hp, hi, fun j hji m hm => ?_⟩
  have h1 := hj j hji
  rw [List.getElem?_eq_getElem (by omega)] at hm
  have hm' : ms[j] = m := by simpa using hm
  simpa [hm', Msg.abs] using h1
theorem findN_none {ms : List Msg} {n : Int} (h : findN (ms.map Msg.abs) n = none) : ∀ (j : Nat) (m : Msg), ms[j]? = some m → (m.N : Int) ≠ n := by
  unfold findN at h
  rw [List.findIdx?_map, List.findIdx?_eq_none_iff] at h
  intro j m hm
  simpa [Msg.abs] using h m (List.mem_of_getElem? hm)

set_option maxRecDepth 100000 in
set_option maxHeartbeats 1000000 in
theorem find_any (v : Value) (ms : List Msg) (n : Int) (w : World) (hv : RdM w v ms) : Calls Try.prog 51 #[v, .int .i64 n] w fun e w' => e = .returned (.int .i64 (findV (ms.map Msg.abs) n)) ∧ w = w' := by
  obtain ⟨A, c, rfl, h1, h2, -, -⟩ := hv.form
  have hat := fun (k : Nat) (m : Msg) (h : ms[k]? = some m) => hv.at_ h
  replace hat := Lib.hid hat
  simp only [maxLen] at h2
  unfold findV
  clear hv
  cases hf : findN (ms.map Msg.abs) n with
  | none =>
    have hN := Lib.hid (findN_none hf)
    simp only
    clear hf
    go_enter Try.func51, Try.ntmps51
    go_wp2
    go_loop [5] (fun i => ∃ k : Nat, k ≤ ms.length ∧ i = .int .i64 k) (fun i => ms.length - (intOf i).toNat)
    case atStart => exact ⟨0, Nat.zero_le _, rfl⟩
    case round =>
      obtain ⟨k, hk, rfl⟩ := hrel
      by_cases hlt : k < ms.length
      · have hmk : ms[k]? = some ms[k] := List.getElem?_eq_getElem hlt
        obtain ⟨g, o, c', he, hcell, -, -⟩ := hat.out k _ hmk
        have hne := hN.out k _ hmk
        have hb : ((ms[k].N : Int) == n) = false := by simpa using hne
        simp only [Value.slice.injEq, true_and] at he
        obtain ⟨rfl, rfl⟩ := he
        clear hmk hne
        go_wp2
        go_round
        case rel => exact ⟨k + 1, by omega, by go_num⟩
        case measure => simp [intOf]; omega
      · obtain rfl : k = ms.length := by omega
        go_wp2
        go_ret
        exact ⟨rfl, rfl⟩
  | some i =>
    obtain ⟨m, hm1, hm2, hi, hb⟩ := findN_some hf
    have hN := Lib.hid hb
    simp only
    replace hm1 := Lib.hid hm1
    clear hf hb
    go_enter Try.func51, Try.ntmps51
    go_wp2
    go_loop [5] (fun x => ∃ k : Nat, k ≤ i ∧ x = .int .i64 k) (fun x => i - (intOf x).toNat)
    case atStart => exact ⟨0, Nat.zero_le _, rfl⟩
    case round =>
      obtain ⟨k, hk, rfl⟩ := hrel
      by_cases hlt : k < i
      · have hmk : ms[k]? = some (ms[k]'(by omega)) := List.getElem?_eq_getElem (by omega)
        obtain ⟨g, o, c', he, hcell, -, -⟩ := hat.out k _ hmk
        have hne := hN.out k hlt _ hmk
        have hb : (((ms[k]'(by omega)).N : Int) == n) = false := by simpa using hne
        simp only [Value.slice.injEq, true_and] at he
        obtain ⟨rfl, rfl⟩ := he
        have hkm : k < ms.length := by omega
        clear hmk hne
        go_wp2
        go_round
        case rel => exact ⟨k + 1, by omega, by go_num⟩
        case measure => simp [intOf]; omega
      · obtain rfl : k = i := by omega
        obtain ⟨g, o, c', he, hcell, -, -⟩ := hat.out k _ hm1.out
        have hb : ((m.N : Int) == n) = true := by simpa using hm2
        simp only [Value.slice.injEq, true_and] at he
        obtain ⟨rfl, rfl⟩ := he
        go_wp2
        go_ret
        exact ⟨rfl, rfl⟩

/-- The book as plain data: the bytes of each number, and whether it is gone. -/
abbrev BA := List (List UInt8 × Bool)
structure BSim (b : BA) (s : WA) : Prop where
  given : s.given = b.length
  fwd : ∀ (i n : Nat) (l : List UInt8), s.row[i]? = some (n, l) → ∃ k : Nat, n = k + 1 ∧ b[k]? = some (l, false)
  back : ∀ (k : Nat) (l : List UInt8), b[k]? = some (l, false) → ∃ i : Nat, s.row[i]? = some (k + 1, l)
  cnt : s.row.length = b.countP fun e => !e.2
section
variable {b : BA} {s : WA}
theorem BSim.add (h : BSim b s) (l : List UInt8) : BSim (b ++ [(l, false)]) (s.add l) := by
  have hg := h.given
  have hb : ∀ {k : Nat} {e : List UInt8 × Bool}, b[k]? = some e → (b ++ [(l, false)])[k]? = some e := fun {k e} he => by rw [List.getElem?_append_left (List.getElem?_eq_some_iff.1 he).1]; exact he
  refine ⟨by simp [WA.add, hg], ?_, ?_, ?_⟩
  · intro i n l' hi
    unfold WA.add at hi
    simp only [List.getElem?_append] at hi
    split at hi
    · obtain ⟨k, h1, h2⟩ := h.fwd i n l' hi
      exact ⟨k, h1, hb h2⟩
    · rename_i h1
      have h2 : i - s.row.length = 0 := by
        have := (List.getElem?_eq_some_iff.1 hi).1
        simpa using this
      rw [h2] at hi
      simp only [List.getElem?_cons_zero, Option.some.injEq, Prod.mk.injEq] at hi
      obtain ⟨rfl, rfl⟩ := hi
      exact ⟨b.length, by omega, by simp⟩
  · intro k l' hk
    by_cases hkl : k < b.length
    · rw [List.getElem?_append_left hkl] at hk
      obtain ⟨i, hi⟩ := h.back k l' hk
      refine ⟨i, ?_⟩
      unfold WA.add
      rw [List.getElem?_append_left (List.getElem?_eq_some_iff.1 hi).1]
      exact hi
    · have hk2 := (List.getElem?_eq_some_iff.1 hk).1
      simp only [List.length_append, List.length_cons, List.length_nil] at hk2
      obtain rfl : k = b.length := by omega
      simp only [List.getElem?_concat_length, Option.some.injEq, Prod.mk.injEq] at hk
      obtain ⟨rfl, -⟩ := hk
      exact ⟨s.row.length, by rw [WA.add_at, hg]⟩
  · simp [WA.add, h.cnt]
/-- What is there is found, with its bytes. -/
theorem BSim.there (h : BSim b s) (ho : s.Ok) {k : Nat} {l : List UInt8} (hk : b[k]? = some (l, false)) : ∃ i : Nat, s.find ((k : Int) + 1) = some i ∧ s.row[i]? = some (k + 1, l) := by
  obtain ⟨i, hi⟩ := h.back k l hk
  exact ⟨i, WA.find_of ho hi, hi⟩
theorem BSim.absent (h : BSim b s) {n : Int} (hn : n < 1 ∨ (b.length : Int) < n ∨ ∃ (k : Nat) (l : List UInt8), n = (k : Int) + 1 ∧ b[k]? = some (l, true)) : s.find n = none := by
  cases hf : s.find n with
  | none => rfl
  | some i =>
    obtain ⟨hi, hm⟩ := WA.find_some hf
    obtain ⟨k, h1, h2⟩ := h.fwd i (s.get i).1 (s.get i).2 (WA.get_at hi)
    have hkl := (List.getElem?_eq_some_iff.1 h2).1
    rw [h1] at hm
    rcases hn with hn | hn | ⟨k', l, hn, hk'⟩
    · omega
    · omega
    · obtain rfl : k = k' := by omega
      rw [h2] at hk'
      simp at hk'
theorem BSim.setB (h : BSim b s) (ho : s.Ok) {i k : Nat} {l : List UInt8} (hi : s.row[i]? = some (k + 1, l)) (hk : b[k]? = some (l, false)) (l' : List UInt8) : BSim (b.set k (l', false)) (s.setB i l') := by
  have hkl := (List.getElem?_eq_some_iff.1 hk).1
  have hil := (List.getElem?_eq_some_iff.1 hi).1
  have hbk : b[k] = (l, false) := (List.getElem?_eq_some_iff.1 hk).2
  refine ⟨by rw [List.length_set]; exact h.given, ?_, ?_, ?_⟩
  · intro j n m hj
    unfold WA.setB at hj
    rw [WA.get_of hi] at hj
    by_cases hji : j = i
    · subst hji
      rw [List.getElem?_set_self hil] at hj
      simp only [Option.some.injEq, Prod.mk.injEq] at hj
      obtain ⟨rfl, rfl⟩ := hj
      exact ⟨k, rfl, List.getElem?_set_self hkl⟩
    · rw [List.getElem?_set_ne (Ne.symm hji)] at hj
      obtain ⟨k', rfl, h2⟩ := h.fwd j n m hj
      refine ⟨k', rfl, ?_⟩
      rw [List.getElem?_set_ne]
      · exact h2
      · rintro rfl
        exact hji (ho.inj j i _ _ hj hi rfl)
  · intro k' m hk'
    unfold WA.setB
    rw [WA.get_of hi]
    by_cases he : k' = k
    · subst he
      rw [List.getElem?_set_self hkl] at hk'
      simp only [Option.some.injEq, Prod.mk.injEq] at hk'
      exact ⟨i, by rw [List.getElem?_set_self hil, hk'.1]⟩
    · rw [List.getElem?_set_ne (Ne.symm he)] at hk'
      obtain ⟨j, hj⟩ := h.back k' m hk'
      refine ⟨j, ?_⟩
      rw [List.getElem?_set_ne]
      · exact hj
      · rintro rfl
        rw [hi] at hj
        simp only [Option.some.injEq, Prod.mk.injEq] at hj
        omega
  · have := h.cnt
    rw [List.countP_set hkl, hbk]
    simp only [WA.setB, List.length_set]
    have : 0 < b.countP fun e => !e.2 := List.countP_pos_iff.2 ⟨(l, false), List.mem_of_getElem? hk, rfl⟩
    simp
    omega
theorem BSim.gone (h : BSim b s) (ho : s.Ok) {i k : Nat} {l : List UInt8} (hi : s.row[i]? = some (k + 1, l)) (hk : b[k]? = some (l, false)) : BSim (b.set k (l, true)) (s.gone i) := by
  have hkl := (List.getElem?_eq_some_iff.1 hk).1
  have hil := (List.getElem?_eq_some_iff.1 hi).1
  have hbk : b[k] = (l, false) := (List.getElem?_eq_some_iff.1 hk).2
  have hrow : ∀ j, (s.gone i).row[j]? = s.row[if j < i then j else j + 1]? := by
    intro j
    unfold WA.gone
    rw [List.getElem?_eraseIdx]
    split <;> rfl
  refine ⟨by rw [List.length_set]; exact h.given, ?_, ?_, ?_⟩
  · intro j n m hj
    rw [hrow] at hj
    obtain ⟨k', rfl, h2⟩ := h.fwd _ n m hj
    refine ⟨k', rfl, ?_⟩
    rw [List.getElem?_set_ne]
    · exact h2
    · rintro rfl
      have := ho.inj _ i _ _ hj hi rfl
      split at this <;> omega
  · intro k' m hk'
    by_cases he : k' = k
    · subst he
      rw [List.getElem?_set_self hkl] at hk'
      simp at hk'
    · rw [List.getElem?_set_ne (Ne.symm he)] at hk'
      obtain ⟨j, hj⟩ := h.back k' m hk'
      have hji : j ≠ i := by
        rintro rfl
        rw [hi] at hj
        simp only [Option.some.injEq, Prod.mk.injEq] at hj
        omega
      by_cases hlt : j < i
      · exact ⟨j, by rw [hrow, if_pos hlt]; exact hj⟩
      · exact ⟨j - 1, by rw [hrow, if_neg (by omega), show j - 1 + 1 = j from by omega]; exact hj⟩
  · have h1 := h.cnt
    rw [List.countP_set hkl, hbk]
    simp only [WA.gone, List.length_eraseIdx, if_pos hil]
    simp
    omega
theorem BSim.swapped (h : BSim b s) {i j : Nat} (hi : i < s.row.length) (hj : j < s.row.length) : BSim b (s.swapped i j) := by
  refine ⟨h.given, ?_, ?_, ?_⟩
  · intro x n l hx
    rw [WA.swapped_at hi hj] at hx
    exact h.fwd _ n l hx
  · intro k l hk
    obtain ⟨x, hx⟩ := h.back k l hk
    exact ⟨tau i j x, by rw [WA.swapped_at hi hj, tau_tau]; exact hx⟩
  · simp only [WA.swapped, List.length_set]
    exact h.cnt
end
end Go.Proofs.Ytfnlemdlngdaiaa
