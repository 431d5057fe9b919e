/-
  A region that draws its order: what only reads is taken first. N: the operations that turn the world while something that reads memory may still be to come: behind these a condition S on the world is to be shown anew. U: the operations that leave the world as it is.
-/
import Derived.Deep.RegionHeld3
namespace Go.Proofs.YtedaapcmcimepaaGreatDoor

section
variable {P : Program} {ops : Array Oper} {Q : Exit → Act → World → Prop} {md : Region.Mode} {S : World → Prop} {N U : List Nat}

/-- Whatever order is picked from here on. -/
def AnyE (P : Program) (md : Region.Mode) (ops : Array Oper) (Q : Exit → Act → World → Prop) (S : World → Prop) (N U : List Nat) : Nat → Array Bool → Act → World → Prop
  | 0, listed, a, w => Region.ready md ops listed = [] ∧ Q .normal a w
  | fuel + 1, listed, a, w =>
    (Region.ready md ops listed = [] → Q .normal a w) ∧
    ∀ i ∈ Region.ready md ops listed, wpOp P ops Q i (fun a' w' => (N.contains i = true → S w') ∧ (U.contains i = true → w' = w) ∧ AnyE P md ops Q S N U fuel (listed.setIfInBounds i true) a' w') a w

theorem AnyE.any : ∀ (fuel : Nat) (listed : Array Bool) (a : Act) (w : World), AnyE P md ops Q S N U fuel listed a w → wpAny P md ops Q fuel listed a w
  | 0, _, _, _, h => h
  | fuel + 1, _, _, _, h => ⟨h.1, fun i hi => wpOp_mono (fun a' w' h' => AnyE.any fuel _ a' w' h'.2.2) (h.2 i hi)⟩

/-- Does every operation that is neither in N nor in U wait for number i? -/
def restWaits (md : Region.Mode) (ops : Array Oper) (N U : List Nat) (i : Nat) : Bool :=
  (List.range ops.size).all fun j => N.contains j || U.contains j || match ops[j]? with
    | some oj => oj.after.any fun e => Region.binds md e && e.on == i
    | none => true

theorem restWaits_not {i j : Nat} {listed : Array Bool} (ht : restWaits md ops N U i = true) (hr : i ∈ Region.ready md ops listed) (hj : j ∈ Region.ready md ops listed) : N.contains j = true ∨ U.contains j = true := by
  obtain ⟨_, oj, hoj, hall⟩ := mem_ready.1 hj
  have hi := (mem_ready.1 hr).1
  simp only [restWaits, List.all_eq_true, List.mem_range] at ht
  have h1 := ht j (Array.getElem?_eq_some_iff.1 hoj).1
  simp only [hoj, Bool.or_eq_true] at h1
  rcases h1 with h1 | h1
  · exact h1
  · exfalso
    obtain ⟨k, hk, he⟩ := Array.any_eq_true.1 h1
    simp only [Bool.and_eq_true, beq_iff_eq] at he
    have h2 := hall _ (Array.getElem_mem hk) he.1
    rw [he.2] at h2
    rcases Nat.lt_or_ge i listed.size with h' | h'
    · simp [h'] at hi h2; rw [hi] at h2; cases h2
    · simp [Array.getElem?_eq_none h'] at h2

theorem AnyE.first {i : Nat} {oi : Oper} {v : Value} (T : World → Prop) (hi : ops[i]? = some oi) (hsel : ∀ (j : Nat) (o : Oper) cs b, ops[j]? = some o → o.op ≠ .select cs b)
    (hQ : ∀ c a w, Q (.panic c) (a.put oi.dst v) w → Q (.panic c) a w) (hN : N.contains i = false) (hT : (∀ w, T w) ∨ (restWaits md ops N U i = true ∧ ∀ w, S w → T w)) :
    ∀ (fuel : Nat) (listed : Array Bool) (a : Act) (w : World),
      (∀ j oj, ops[j]? = some oj → j ≠ i → listed.getD j true = false → (∀ e ∈ oj.after, Region.binds md e = true → e.on ≠ i) → oi.apart ops oj = true) →
      i ∈ Region.ready md ops listed → YieldsIf P ops T oi v a → T w →
      AnyE P md ops Q S N U fuel (listed.setIfInBounds i true) (a.put oi.dst v) w → AnyE P md ops Q S N U (fuel + 1) listed a w := by
  intro fuel
  induction fuel with
  | zero =>
    intro listed a w _ hr hy hS H
    refine ⟨fun h => (by rw [h] at hr; cases hr), fun j hj => ?_⟩
    by_cases hji : j = i
    · subst hji; exact hy.wpOp hi hS ⟨fun h => (by rw [hN] at h; cases h), fun _ => rfl, H⟩
    · have := ready_mono hj hji
      rw [H.1] at this
      cases this
  | succ fuel ih =>
    intro listed a w hfree hr hy hS H
    refine ⟨fun h => (by rw [h] at hr; cases hr), fun j hj => ?_⟩
    by_cases hji : j = i
    · subst hji; exact hy.wpOp hi hS ⟨fun h => (by rw [hN] at h; cases h), fun _ => rfl, H⟩
    · have h1 := H.2 j (ready_mono hj hji)
      obtain ⟨hjun, oj, hoj, hall⟩ := mem_ready.1 hj
      have hnot : ∀ e ∈ oj.after, Region.binds md e = true → e.on ≠ i := fun e he hb heq => by
        have h1 := hall e he hb
        have h0 := (mem_ready.1 hr).1
        rw [heq] at h1
        rcases Nat.lt_or_ge i listed.size with h' | h'
        · simp [h'] at h0 h1; rw [h0] at h1; cases h1
        · simp [Array.getElem?_eq_none h'] at h1
      have h2 := wpOp_putIf hoj (hfree j oj hoj hji hjun hnot) (fun cs b => hsel i oi cs b hi) (fun cs b => hsel j oj cs b hoj) hQ hy h1
      refine wpOp_mono (fun a' w' h3 => ?_) h2
      have hTw : T w' := by
        rcases hT with hT | ⟨ht, hT⟩
        · exact hT w'
        · rcases restWaits_not ht hr hj with h | h
          · exact hT w' (h3.2.1 h)
          · rw [h3.2.2.1 h]; exact hS
      refine ⟨h3.2.1, h3.2.2.1, ih (listed.setIfInBounds j true) a' w' (fun k ok hk hki hun hno => ?_) (ready_mono hr (Ne.symm hji)) h3.1 hTw ?_⟩
      · refine hfree k ok hk hki ?_ hno
        by_cases hjk : j = k
        · subst hjk; exact hjun
        · rw [getD_set_ne true hjk] at hun; exact hun
      · rw [Array.setIfInBounds_comm _ _ hji]
        exact h3.2.2.2

/-- The places that have come up. -/
def came (n : Nat) : List Nat → Array Bool
  | [] => Array.replicate n false
  | i :: l => (came n l).setIfInBounds i true
/-- 'AnyE', by the list of what has come up. -/
def AnyL (P : Program) (ops : Array Oper) (Q : Exit → Act → World → Prop) (S : World → Prop) (N U : List Nat) (fuel : Nat) (l : List Nat) (a : Act) (w : World) : Prop :=
  AnyE P .any ops Q S N U fuel (came ops.size l) a w

/-- Number i yields in whatever world: it is taken first. -/
theorem AnyL.pure {i : Nat} {oi : Oper} {v : Value} {fuel : Nat} {l : List Nat} {a : Act} {w : World} (d : Option Tmp) (hi : ops[i]? = some oi) (hd : oi.dst = d)
    (hs : Region.noSelect ops = true) (hf : Region.free .any ops (came ops.size l) i = true) (hr : (Region.ready .any ops (came ops.size l)).contains i = true) (hN : N.contains i = false)
    (hQ : ∀ c a w, Q (.panic c) (a.put d v) w → Q (.panic c) a w) (hg : Region.wanted oi (yielded ops a.tmps) = true) (hy : ∀ w, (execOp a.eval oi).run P w = .ok (.value v) w)
    (h : AnyL P ops Q S N U fuel (i :: l) (a.put d v) w) : AnyL P ops Q S N U (fuel + 1) l a w := by
  subst hd
  exact AnyE.first (fun _ => True) hi (Region.noSelect_spec hs) hQ hN (.inl fun _ => trivial) fuel _ a w (Region.free_spec hi hf) (by simpa using hr) (.inl ⟨hg, fun w _ => hy w⟩) trivial h
/-- Number i reads memory: it is taken first. -/
theorem AnyL.take {i : Nat} {oi : Oper} {v : Value} {fuel : Nat} {l : List Nat} {a : Act} {w : World} (d : Option Tmp) (hi : ops[i]? = some oi) (hd : oi.dst = d)
    (hs : Region.noSelect ops = true) (hf : Region.free .any ops (came ops.size l) i = true) (hr : (Region.ready .any ops (came ops.size l)).contains i = true) (hN : N.contains i = false) (ht : restWaits .any ops N U i = true)
    (hQ : ∀ c a w, Q (.panic c) (a.put d v) w → Q (.panic c) a w) (hg : Region.wanted oi (yielded ops a.tmps) = true) (hy : ∀ w, S w → (execOp a.eval oi).run P w = .ok (.value v) w) (hS : S w)
    (h : AnyL P ops Q S N U fuel (i :: l) (a.put d v) w) : AnyL P ops Q S N U (fuel + 1) l a w := by
  subst hd
  exact AnyE.first S hi (Region.noSelect_spec hs) hQ hN (.inr ⟨ht, fun _ h => h⟩) fuel _ a w (Region.free_spec hi hf) (by simpa using hr) (.inl ⟨hg, hy⟩) hS h
/-- Number i's guard says no: it is passed over first. -/
theorem AnyL.pass {i : Nat} {oi : Oper} {fuel : Nat} {l : List Nat} {a : Act} {w : World} (d : Option Tmp) (hi : ops[i]? = some oi) (hd : oi.dst = d)
    (hs : Region.noSelect ops = true) (hf : Region.free .any ops (came ops.size l) i = true) (hr : (Region.ready .any ops (came ops.size l)).contains i = true) (hN : N.contains i = false)
    (hQ : ∀ c a w, Q (.panic c) (a.put d undef) w → Q (.panic c) a w) (hg : Region.wanted oi (yielded ops a.tmps) = false)
    (h : AnyL P ops Q S N U fuel (i :: l) (a.put d undef) w) : AnyL P ops Q S N U (fuel + 1) l a w := by
  subst hd
  exact AnyE.first (fun _ => True) hi (Region.noSelect_spec hs) hQ hN (.inl fun _ => trivial) fuel _ a w (Region.free_spec hi hf) (by simpa using hr) (.inr ⟨hg, rfl⟩) trivial h
/-- Number i alone may come up; it is one of N. -/
theorem AnyL.step {i : Nat} {o : Oper} {fuel : Nat} {l : List Nat} {a : Act} {w : World} (hr : Region.ready .any ops (came ops.size l) = [i]) (ho : ops[i]? = some o) (hU : U.contains i = false)
    (h : ∀ K : Act → World → Prop, (∀ a' w', S w' → AnyL P ops Q S N U fuel (i :: l) a' w' → K a' w') →
      if Region.wanted o (yielded ops a.tmps) = true then Oper.wp P o a w K Q else K (a.put o.dst undef) w) : AnyL P ops Q S N U (fuel + 1) l a w := by
  refine ⟨fun h0 => by rw [hr] at h0; simp at h0, fun j hj => ?_⟩
  rw [hr] at hj
  obtain rfl : j = i := by simpa using hj
  exact wpOp_step ho fun K hK => h K fun a' w' hS hA => hK a' w' ⟨fun _ => hS, fun h => (by rw [hU] at h; cases h), hA⟩
/-- Number i alone may come up; nothing that reads is to come any more. -/
theorem AnyL.last {i : Nat} {o : Oper} {fuel : Nat} {l : List Nat} {a : Act} {w : World} (hr : Region.ready .any ops (came ops.size l) = [i]) (ho : ops[i]? = some o) (hN : N.contains i = false) (hU : U.contains i = false)
    (h : ∀ K : Act → World → Prop, (∀ a' w', AnyL P ops Q S N U fuel (i :: l) a' w' → K a' w') →
      if Region.wanted o (yielded ops a.tmps) = true then Oper.wp P o a w K Q else K (a.put o.dst undef) w) : AnyL P ops Q S N U (fuel + 1) l a w := by
  refine ⟨fun h0 => by rw [hr] at h0; simp at h0, fun j hj => ?_⟩
  rw [hr] at hj
  obtain rfl : j = i := by simpa using hj
  exact wpOp_step ho fun K hK => h K fun a' w' hA => hK a' w' ⟨fun h => (by rw [hN] at h; cases h), fun h => (by rw [hU] at h; cases h), hA⟩
theorem AnyL.done {l : List Nat} {a : Act} {w : World} (hr : Region.ready .any ops (came ops.size l) = []) (h : Q .normal a w) : ∀ {fuel : Nat}, AnyL P ops Q S N U fuel l a w
  | 0 => ⟨hr, h⟩
  | _ + 1 => ⟨fun _ => h, by rw [hr]; simp⟩

theorem wp_region_L {id n : Nat} {a : Act} {w : World} (S : World → Prop) (N U : List Nat) (hm : P.follows .mixedOrders = true) (hn : ops.size = n)
    (h : AnyL P ops Q S N U n [] a w.drew) : (Code.region id ops true).wp P Q a w := by
  subst hn
  exact wp_region_any hm (AnyE.any _ _ _ _ h)
end
end Go.Proofs.YtedaapcmcimepaaGreatDoor
