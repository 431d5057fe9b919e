/-
  The wire as plain data: its numbers are each one's own; what is turned back is as it was.
-/
import Derived.Test.YtfnlemdlngdaiaaFnL
namespace Go.Proofs.Ytfnlemdlngdaiaa

/-- Numbers of a wire: given ones, each once. -/
structure WA.Ok (s : WA) : Prop where
  lo : ∀ (i : Nat) (a : Nat × List UInt8), s.row[i]? = some a → 1 ≤ a.1 ∧ a.1 ≤ s.given
  inj : ∀ (i j : Nat) (a b : Nat × List UInt8), s.row[i]? = some a → s.row[j]? = some b → a.1 = b.1 → i = j

/-- What a swap does to places. -/
def tau (i k j : Nat) : Nat := if j = k then i else if j = i then k else j
theorem tau_tau (i k j : Nat) : tau i k (tau i k j) = j := by
  unfold tau
  repeat' split
  all_goals omega
theorem tau_comm (i k j : Nat) : tau i k j = tau k i j := by
  unfold tau
  repeat' split
  all_goals omega

namespace WA
theorem get_at {s : WA} {i : Nat} (h : i < s.row.length) : s.row[i]? = some (s.get i) := by
  unfold WA.get
  rw [List.getD, List.getElem?_eq_getElem h]
  rfl
theorem get_of {s : WA} {i : Nat} {a : Nat × List UInt8} (h : s.row[i]? = some a) : s.get i = a := by unfold WA.get; rw [List.getD, h]; rfl
theorem find_some {s : WA} {n : Int} {i : Nat} (h : s.find n = some i) : i < s.row.length ∧ ((s.get i).1 : Int) = n := by
  unfold WA.find at h
  rw [List.findIdx?_eq_some_iff_getElem] at h
  obtain ⟨hi, h1, _⟩ := h
  refine ⟨hi, ?_⟩
  have := get_at hi
  rw [List.getElem?_eq_getElem hi] at this
  rw [← Option.some.inj this]
  simpa using h1
theorem find_of {s : WA} (ho : s.Ok) {i : Nat} {a : Nat × List UInt8} (h : s.row[i]? = some a) : s.find a.1 = some i := by
  unfold WA.find
  have hi := (List.getElem?_eq_some_iff.1 h).1
  rw [List.findIdx?_eq_some_iff_getElem]
  refine ⟨hi, ?_, fun j hj => ?_⟩
  · rw [(List.getElem?_eq_some_iff.1 h).2]; simp
  · intro hc
    have h1 := ho.inj j i _ a (List.getElem?_eq_getElem (by omega)) h (by have := eq_of_beq hc; omega)
    omega
theorem find_none {s : WA} {n : Int} (h : s.find n = none) {i : Nat} {a : Nat × List UInt8} (hi : s.row[i]? = some a) : (a.1 : Int) ≠ n := by
  unfold WA.find at h
  rw [List.findIdx?_eq_none_iff] at h
  have := h a (List.mem_of_getElem? hi)
  simpa using this

theorem swapped_at {s : WA} {i k : Nat} (hi : i < s.row.length) (hk : k < s.row.length) (j : Nat) : (s.swapped i k).row[j]? = s.row[tau i k j]? := by
  unfold WA.swapped tau
  simp only [List.getElem?_set, List.length_set]
  by_cases h1 : k = j
  · subst h1
    rw [if_pos rfl, if_pos hk, if_pos rfl, get_at hi]
  · rw [if_neg h1, if_neg (Ne.symm h1)]
    by_cases h2 : i = j
    · subst h2
      rw [if_pos rfl, if_pos hi, if_pos rfl, get_at hk]
    · rw [if_neg h2, if_neg (Ne.symm h2)]

theorem Ok.nil : (⟨[], 0⟩ : WA).Ok := ⟨fun i a h => by simp at h, fun i j a b h => by simp at h⟩
theorem Ok.add {s : WA} (h : s.Ok) (l : List UInt8) : (s.add l).Ok := by
  have hc : ∀ (i : Nat) (a : Nat × List UInt8), (s.add l).row[i]? = some a → s.row[i]? = some a ∨ i = s.row.length ∧ a = (s.given + 1, l) := by
    intro i a hi
    unfold WA.add at hi
    simp only [List.getElem?_append] at hi
    split at hi
    · exact .inl hi
    · rename_i h1
      have h2 : i - s.row.length = 0 := by
        have := (List.getElem?_eq_some_iff.1 hi).1
        simpa using this
      rw [h2] at hi
      exact .inr ⟨by omega, by simpa using hi.symm⟩
  refine ⟨fun i a hi => ?_, fun i j a b hi hj he => ?_⟩
  · rcases hc i a hi with h1 | ⟨rfl, rfl⟩
    · have := h.lo i a h1; simp only [WA.add]; omega
    · simp only [WA.add]; omega
  · rcases hc i a hi with h1 | ⟨rfl, rfl⟩ <;> rcases hc j b hj with h2 | ⟨rfl, rfl⟩
    · exact h.inj i j a b h1 h2 he
    · have := h.lo i a h1; simp only at he; omega
    · have := h.lo j b h2; simp only at he; omega
    · rfl
theorem Ok.swapped {s : WA} (h : s.Ok) {i k : Nat} (hi : i < s.row.length) (hk : k < s.row.length) : (s.swapped i k).Ok := by
  refine ⟨fun j a hj => ?_, fun j j' a b hj hj' he => ?_⟩
  · rw [swapped_at hi hk] at hj
    exact h.lo _ _ hj
  · rw [swapped_at hi hk] at hj hj'
    have := h.inj _ _ _ _ hj hj' he
    rw [← tau_tau i k j, ← tau_tau i k j', this]
theorem Ok.setB {s : WA} (h : s.Ok) (i : Nat) (l : List UInt8) : (s.setB i l).Ok := by
  have hc : ∀ (j : Nat) (a : Nat × List UInt8), (s.setB i l).row[j]? = some a → ∃ b, s.row[j]? = some b ∧ b.1 = a.1 := by
    intro j a hj
    unfold WA.setB at hj
    simp only [List.getElem?_set] at hj
    split at hj
    · rename_i h1
      subst h1
      split at hj
      · rename_i h2
        exact ⟨_, get_at h2, by rw [← Option.some.inj hj]⟩
      · simp at hj
    · exact ⟨a, hj, rfl⟩
  refine ⟨fun j a hj => ?_, fun j j' a b hj hj' he => ?_⟩
  · obtain ⟨b, hb, e⟩ := hc j a hj
    rw [← e]
    exact h.lo j b hb
  · obtain ⟨c, hc1, e1⟩ := hc j a hj
    obtain ⟨d, hd1, e2⟩ := hc j' b hj'
    exact h.inj j j' c d hc1 hd1 (by rw [e1, e2, he])
theorem Ok.gone {s : WA} (h : s.Ok) (i : Nat) : (s.gone i).Ok := by
  have hc : ∀ (j : Nat) (a : Nat × List UInt8), (s.gone i).row[j]? = some a → s.row[if j < i then j else j + 1]? = some a := by
    intro j a hj
    unfold WA.gone at hj
    simp only [List.getElem?_eraseIdx] at hj
    split at hj <;> rename_i h1
    · rwa [if_pos h1]
    · rwa [if_neg h1]
  refine ⟨fun j a hj => h.lo _ a (hc j a hj), fun j j' a b hj hj' he => ?_⟩
  have := h.inj _ _ a b (hc j a hj) (hc j' b hj') he
  split at this <;> split at this <;> omega
theorem Ok.put {s : WA} (h : s.Ok) (l : List UInt8) : (s.put l).1.Ok := by
  unfold WA.put
  split
  · exact h
  · exact h.add l
theorem Ok.doOp {s : WA} (h : s.Ok) (o : OpD) : (s.doOp o).1.Ok := by
  unfold WA.doOp WA.send WA.drop WA.copy WA.swap WA.flip WA.cut
  repeat' split
  all_goals first
    | exact h
    | exact h.put _
    | exact h.gone _
    | exact h.setB _ _
    | (rename_i h1 h2; exact h.swapped (find_some h1).1 (find_some h2).1)
theorem Ok.play {s : WA} (h : s.Ok) : ∀ (os : List OpD), (s.play os).Ok := by
  intro os
  induction os generalizing s with
  | nil => exact h
  | cons o os ih => exact ih (h.doOp o)

theorem swapped_swapped {s : WA} {i k : Nat} (hi : i < s.row.length) (hk : k < s.row.length) : (s.swapped i k).swapped i k = s := by
  have hl : (s.swapped i k).row.length = s.row.length := by simp [WA.swapped]
  have : ((s.swapped i k).swapped i k).row = s.row := by
    apply List.ext_getElem?
    intro j
    rw [swapped_at (by rw [hl]; exact hi) (by rw [hl]; exact hk), swapped_at hi hk, tau_tau]
  have hg : ((s.swapped i k).swapped i k).given = s.given := rfl
  cases s with
  | mk row given => cases h : ((WA.mk row given).swapped i k).swapped i k with
    | mk row' given' => rw [h] at this hg; simp only at this hg; rw [this, hg]
theorem swapped_comm {s : WA} {i k : Nat} (hi : i < s.row.length) (hk : k < s.row.length) : s.swapped i k = s.swapped k i := by
  have : (s.swapped i k).row = (s.swapped k i).row := by
    apply List.ext_getElem?
    intro j
    rw [swapped_at hi hk, swapped_at hk hi, tau_comm]
  unfold WA.swapped at this ⊢
  simp only at this
  rw [this]

theorem find_swapped {s : WA} (h : s.Ok) {n m : Int} {i k : Nat} (hn : s.find n = some i) (hm : s.find m = some k) : (s.swapped i k).find n = some k ∧ (s.swapped i k).find m = some i := by
  obtain ⟨hi, e1⟩ := find_some hn
  obtain ⟨hk, e2⟩ := find_some hm
  have ho := h.swapped hi hk
  constructor
  · rw [← e1]
    apply find_of ho
    rw [swapped_at hi hk, show tau i k k = i from if_pos rfl, get_at hi]
  · rw [← e2]
    apply find_of ho
    rw [swapped_at hi hk, show tau i k i = k from by unfold tau; split <;> simp_all, get_at hk]

theorem swap_swap {s : WA} (h : s.Ok) (n m : Int) : (s.swap n m).1.swap n m = (s, (s.swap n m).2) := by
  unfold WA.swap
  cases hn : s.find n with
  | none => simp [hn]
  | some i =>
    cases hm : s.find m with
    | none => simp [hn, hm]
    | some k =>
      obtain ⟨e1, e2⟩ := find_swapped h hn hm
      obtain ⟨hi, -⟩ := find_some hn
      obtain ⟨hk, -⟩ := find_some hm
      simp only [e1, e2]
      rw [swapped_comm (by simpa [WA.swapped] using hk) (by simpa [WA.swapped] using hi), swapped_swapped hi hk]
theorem swap_back {s : WA} (h : s.Ok) (n m : Int) : (s.swap n m).1.swap m n = (s, (s.swap n m).2) := by
  unfold WA.swap
  cases hn : s.find n with
  | none =>
    cases hm : s.find m with
    | none => simp
    | some k => simp [hn]
  | some i =>
    cases hm : s.find m with
    | none => simp [hn, hm]
    | some k =>
      obtain ⟨e1, e2⟩ := find_swapped h hn hm
      obtain ⟨hi, -⟩ := find_some hn
      obtain ⟨hk, -⟩ := find_some hm
      simp only [e1, e2]
      rw [swapped_swapped hi hk]
theorem swap_ok {s : WA} (h : s.Ok) {i k : Nat} {a b : Nat × List UInt8} (hi : s.row[i]? = some a) (hk : s.row[k]? = some b) : s.swap a.1 b.1 = (s.swapped i k, 0) := by
  unfold WA.swap
  rw [find_of h hi, find_of h hk]

theorem add_at (s : WA) (l : List UInt8) : (s.add l).row[s.row.length]? = some (s.given + 1, l) := by simp [WA.add]
theorem find_add {s : WA} (h : s.Ok) (l : List UInt8) : (s.add l).find ((s.given + 1 : Nat) : Int) = some s.row.length := find_of (h.add l) (add_at s l)

theorem flipped_flipped (l : List UInt8) (a : Nat) (bits : Int) (ha : a < l.length) : flipped (flipped l a bits) a bits = l := by
  unfold flipped
  have e : (l.set a (l.getD a 0 ^^^ low bits)).getD a 0 = l.getD a 0 ^^^ low bits := by
    rw [List.getD, List.getElem?_set_self ha]
    rfl
  rw [e, List.set_set, UInt8.xor_assoc, UInt8.xor_self, UInt8.xor_zero]
  rw [List.getD, List.getElem?_eq_getElem ha]
  simp
theorem flip_of {s : WA} (h : s.Ok) {i : Nat} {N : Nat} {l : List UInt8} (hi : s.row[i]? = some (N, l)) {a : Int} (ha : 0 ≤ a) (hl : a < l.length) (bits : Int) : s.flip N a bits = (s.setB i (flipped l a.toNat bits), 0) := by
  unfold WA.flip
  rw [find_of h hi]
  simp only [get_of hi]
  rw [if_neg (by omega)]
theorem setB_at {s : WA} {i : Nat} {N : Nat} {l : List UInt8} (hi : s.row[i]? = some (N, l)) (l' : List UInt8) : (s.setB i l').row[i]? = some (N, l') := by
  unfold WA.setB
  simp only
  rw [List.getElem?_set_self (List.getElem?_eq_some_iff.1 hi).1, get_of hi]
theorem setB_setB {s : WA} {i : Nat} {N : Nat} {l : List UInt8} (hi : s.row[i]? = some (N, l)) (l' : List UInt8) : (s.setB i l').setB i l = s := by
  have e := get_of (setB_at hi l')
  unfold WA.setB at e ⊢
  simp only [List.set_set] at e ⊢
  rw [e]
  have : s.row.set i (N, l) = s.row := by
    obtain ⟨h1, h2⟩ := List.getElem?_eq_some_iff.1 hi
    rw [← h2]
    exact List.set_getElem_self h1
  simp only [this]
theorem flip_flip {s : WA} (h : s.Ok) {i : Nat} {N : Nat} {l : List UInt8} (hi : s.row[i]? = some (N, l)) {a : Int} (ha : 0 ≤ a) (hl : a < l.length) (bits : Int) : (s.setB i (flipped l a.toNat bits)).flip N a bits = (s, 0) := by
  rw [flip_of (h.setB i _) (setB_at hi _) ha (by unfold flipped; rw [List.length_set]; exact hl), flipped_flipped _ _ _ (by omega), setB_setB hi]
theorem copy_of {s : WA} (h : s.Ok) {i : Nat} {N : Nat} {l : List UInt8} (hi : s.row[i]? = some (N, l)) (hg : s.given < 4096) : s.copy N = (s.add l, ((s.given + 1 : Nat) : Int), 0) := by
  unfold WA.copy WA.put
  rw [find_of h hi]
  simp only [get_of hi]
  rw [if_neg (by omega)]
theorem drop_add {s : WA} (h : s.Ok) (l : List UInt8) : (s.add l).drop ((s.given + 1 : Nat) : Int) = (⟨s.row, s.given + 1⟩, 0) := by
  unfold WA.drop
  rw [find_add h]
  simp only [WA.gone, WA.add]
  rw [List.eraseIdx_append_of_length_le (Nat.le_refl _), Nat.sub_self]
  simp
theorem Ok.more {s : WA} (h : s.Ok) : (⟨s.row, s.given + 1⟩ : WA).Ok := ⟨fun i a hi => by have := h.lo i a hi; simp only; omega, h.inj⟩
theorem cut_of {s : WA} (h : s.Ok) {i : Nat} {N : Nat} {l : List UInt8} (hi : s.row[i]? = some (N, l)) {a : Int} (ha : 0 ≤ a) (hl : a ≤ l.length) : s.cut N a = (s.setB i (l.take a.toNat), 0) := by
  unfold WA.cut
  rw [find_of h hi]
  simp only [get_of hi]
  rw [if_neg (by omega)]
theorem look_of {s : WA} (h : s.Ok) {i : Nat} {N : Nat} {l : List UInt8} (hi : s.row[i]? = some (N, l)) : s.look N = (l, 0) := by
  unfold WA.look
  rw [find_of h hi]
  simp only [get_of hi]
end WA
end Go.Proofs.Ytfnlemdlngdaiaa
