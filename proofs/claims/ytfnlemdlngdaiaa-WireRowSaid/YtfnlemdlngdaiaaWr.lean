/-
  The wire as memory: its struct, its row, the bytes of its messages.
-/
import Derived.Test.YtfnlemdlngdaiaaMem
namespace Go.Proofs.Ytfnlemdlngdaiaa
open Go.RowKit

/-- A message: its number, its slice, the bytes that this holds. -/
structure Msg where
  N : Nat
  v : Value
  l : List UInt8
/-- A wire: where its struct lies, its row's slice, its messages, how many numbers were given. -/
structure Wr where
  p : Nat
  rv : Value
  ms : List Msg
  given : Nat

def rowCells (ms : List Msg) : List Value := ms.flatMap fun m => [.int .i64 m.N, m.v]
theorem rowCells_length (ms : List Msg) : (rowCells ms).length = ms.length * 2 := by
  induction ms with
  | nil => rfl
  | cons m ms ih => simp only [rowCells, List.flatMap_cons, List.length_append, List.length_cons, List.length_nil] at ih ⊢; omega
theorem rowCells_append (a b : List Msg) : rowCells (a ++ b) = rowCells a ++ rowCells b := by simp [rowCells]
theorem rowCells_n {ms : List Msg} {i : Nat} {m : Msg} (h : ms[i]? = some m) : (rowCells ms)[i * 2]? = some (.int .i64 m.N) := by
  induction ms generalizing i with
  | nil => simp at h
  | cons a ms ih =>
    cases i with
    | zero => simp at h; subst h; rfl
    | succ i =>
      simp only [List.getElem?_cons_succ] at h
      rw [show (i + 1) * 2 = i * 2 + 1 + 1 from by omega]
      exact ih h
theorem rowCells_v {ms : List Msg} {i : Nat} {m : Msg} (h : ms[i]? = some m) : (rowCells ms)[i * 2 + 1]? = some m.v := by
  induction ms generalizing i with
  | nil => simp at h
  | cons a ms ih =>
    cases i with
    | zero => simp at h; subst h; rfl
    | succ i =>
      simp only [List.getElem?_cons_succ] at h
      rw [show (i + 1) * 2 + 1 = i * 2 + 1 + 1 + 1 from by omega]
      exact ih h

/-- The wire W lies in the world w. -/
structure WrOk (w : World) (W : Wr) : Prop where
  blk : Blk w W.p 70 #[W.rv, .int .i64 W.given]
  row : w.ownsRow 0 63 2 W.rv W.ms.length (rowCells W.ms)
  byt : ∀ m ∈ W.ms, OwnB 0 w m.v m.l
  apart : (W.ms.filterMap fun m => m.v.ownBlock).Nodup
  small : ∀ m ∈ W.ms, m.l.length ≤ 1048576
  most : W.given ≤ 4096
  many : W.ms.length ≤ W.given

/-- A slice of the call's own, nil or not, with what its cells hold. -/
theorem own_form {w : World} {base : Nat} {e : TypeId} {size : Nat} {v : Value} {n : Nat} {xs : List Value} (h : w.ownsRow base e size v n xs) :
    ∃ A cap, v = .slice A n cap ∧ n ≤ cap ∧ cap ≤ maxLen ∧ (A = none → n = 0 ∧ cap = 0) ∧ (∀ g, v.ownBlock = some g ↔ A = some ⟨g, 0, none⟩) ∧ ∀ (j : Nat) (u : Value), xs[j]? = some u → ∃ g, A = some ⟨g, 0, none⟩ ∧ w.cell? ⟨g, j, none⟩ = some u := by
  rcases h.2 with ⟨rfl, h0⟩ | ⟨g, cap, cur, rfl, _, hg, hnc, hcm, hcs, htake⟩
  · subst h0
    have : xs = [] := List.eq_nil_of_length_eq_zero (by simpa using h.1)
    subst this
    exact ⟨none, 0, rfl, Nat.le_refl _, by simp [maxLen], fun _ => ⟨rfl, rfl⟩, fun g => by simp [Value.ownBlock], fun j u hu => by simp at hu⟩
  · exact ⟨some ⟨g, 0, none⟩, cap, rfl, hnc, hcm, fun h => by simp at h, fun g' => by simp [Value.ownBlock], fun j u hu => ⟨g, rfl, own_at h hu⟩⟩

/-- The blocks of a wire. -/
def Wr.foot (W : Wr) (k : Nat) : Prop := k = W.p ∨ W.rv.ownBlock = some k ∨ ∃ m ∈ W.ms, m.v.ownBlock = some k

theorem WrOk.upd {w w' : World} {W : Wr} {S : Nat → Prop} (h : WrOk w W) (hu : Upd S w w') (hn : ∀ k, W.foot k → ¬ S k) : WrOk w' W where
  blk := h.blk.upd hu (hn _ (.inl rfl))
  row := own_upd h.row hu fun k hk => hn k (.inr (.inl hk))
  byt := fun m hm => (h.byt m hm).upd hu fun k hk => hn k (.inr (.inr ⟨m, hm, hk⟩))
  apart := h.apart
  small := h.small
  most := h.most
  many := h.many

theorem WrOk.lt {w : World} {W : Wr} (h : WrOk w W) : ∀ k, W.foot k → k < w.heap.size := by
  rintro k (rfl | hk | ⟨m, hm, hk⟩)
  · exact h.blk.lt
  · exact (h.row.lt k hk).2
  · exact (h.byt m hm).lt k hk

/-- What a call on the wire W leaves: the wire W' in W's place; of all else nothing has turned. -/
structure Onward (w : World) (W : Wr) (w' : World) (W' : Wr) : Prop where
  ok : WrOk w' W'
  same : W'.p = W.p
  upd : Upd W.foot w w'
  into : ∀ k, W'.foot k → W.foot k ∨ w.heap.size ≤ k

theorem nodup_concat {α β : Type} {f : α → Option β} {l : List α} {a : α} (h : (l.filterMap f).Nodup) (hn : ∀ b, f a = some b → ∀ x ∈ l, f x ≠ some b) : ((l ++ [a]).filterMap f).Nodup := by
  rw [List.filterMap_append, List.nodup_append]
  refine ⟨h, ?_, ?_⟩
  · cases hf : f a <;> simp [hf]
  · intro b hb c hc
    simp only [List.mem_filterMap, List.mem_singleton] at hb hc
    obtain ⟨x, hx, hxb⟩ := hb
    obtain ⟨y, rfl, hyc⟩ := hc
    rintro rfl
    exact hn b hyc x hx hxb

/-- The end of 'add': a message more, its bytes in a block of its own; the row may have moved. -/
theorem WrOk.grow {w w1 w3 : World} {W : Wr} {v rv' : Value} {l : List UInt8} (hW : WrOk w W) (hlt : W.given < 4096) (hl : l.length ≤ 1048576)
    (hu1 : Upd (fun k => k = W.p) w w1) (hb1 : Blk w1 W.p 70 #[W.rv, .int .i64 (W.given + 1 : Nat)]) (hu3 : Upd (fun k => W.rv.ownBlock = some k) w1 w3)
    (hown : OwnB w1.heap.size w3 v l) (hrow : w3.ownsRow 0 63 2 rv' (W.ms.length + 1) (rowCells W.ms ++ [.int .i64 (W.given + 1 : Nat), v])) (hat : ∀ k, rv'.ownBlock = some k → W.rv.ownBlock = some k ∨ w1.heap.size ≤ k) :
    Onward w W (w3.setCell ⟨W.p, 0, none⟩ rv') { W with rv := rv', ms := W.ms ++ [⟨W.given + 1, v, l⟩], given := W.given + 1 } := by
  have hrvp : W.rv.ownBlock ≠ some W.p := own_blk_ne hW.row hW.blk (by decide)
  have hb3 : Blk w3 W.p 70 #[W.rv, .int .i64 (W.given + 1 : Nat)] := hb1.upd hu3 hrvp
  have hu4 : Upd (fun k => k = W.p) w3 (w3.setCell ⟨W.p, 0, none⟩ rv') := (Upd.refl (fun k => k = W.p) w3).setCell (p := ⟨W.p, 0, none⟩) (.inl rfl) _
  have hu : Upd (fun k => k = W.p ∨ W.rv.ownBlock = some k) w (w3.setCell ⟨W.p, 0, none⟩ rv') :=
    ((hu1.mono fun _ _ h => .inl h).trans hu3 fun _ h => .inl (.inr h)).trans hu4 fun _ h => .inl (.inl h)
  have hn : ∀ m ∈ W.ms, ∀ k, m.v.ownBlock = some k → ¬ (k = W.p ∨ W.rv.ownBlock = some k) := by
    rintro m hm k hk (rfl | h)
    · exact own_blk_ne (hW.byt m hm) hW.blk (by decide) hk
    · exact own_own_ne (hW.byt m hm) hW.row (by decide) hk h
  have hlow : ∀ m ∈ W.ms, ∀ k, m.v.ownBlock = some k → k < w.heap.size := fun m hm k hk => (hW.byt m hm).lt k hk
  have hvge : ∀ k, v.ownBlock = some k → w.heap.size ≤ k := fun k hk => Nat.le_trans hu1.size (hown.ge k hk)
  refine ⟨⟨hb3.set 0 _, ?_, ?_, ?_, ?_, ?_, ?_⟩, rfl, ?_, ?_⟩
  · have h := own_upd hrow hu4 fun k hk hkp => own_blk_ne hrow hb3 (by decide) (by rw [hk, hkp])
    simpa [rowCells] using h
  · intro m hm
    simp only [List.mem_append, List.mem_singleton] at hm
    rcases hm with hm | rfl
    · exact (hW.byt m hm).upd hu (hn m hm)
    · refine (OwnB.mono (hown.upd hu4 fun k hk hkp => ?_) (Nat.zero_le _))
      have h1 := hvge k hk
      have h2 := hW.blk.lt
      omega
  · refine nodup_concat hW.apart fun b hb x hx hxb => ?_
    have h1 := hvge b hb
    have h2 := hlow x hx b hxb
    omega
  · intro m hm
    simp only [List.mem_append, List.mem_singleton] at hm
    rcases hm with hm | rfl
    · exact hW.small m hm
    · exact hl
  · exact hlt
  · have := hW.many
    simp only [List.length_append, List.length_cons, List.length_nil]
    omega
  · exact hu.mono fun k _ hk => by
      rcases hk with rfl | hk
      · exact .inl rfl
      · exact .inr (.inl hk)
  · rintro k (rfl | hk | ⟨m, hm, hk⟩)
    · exact .inl (.inl rfl)
    · rcases hat k hk with h | h
      · exact .inl (.inr (.inl h))
      · exact .inr (Nat.le_trans hu1.size h)
    · simp only [List.mem_append, List.mem_singleton] at hm
      rcases hm with hm | rfl
      · exact .inl (.inr (.inr ⟨m, hm, hk⟩))
      · exact .inr (hvge k hk)

theorem nodup_at_ne {α β : Type} {f : α → Option β} : ∀ {l : List α} {i j : Nat} {a b : α} {x : β}, (l.filterMap f).Nodup → l[i]? = some a → l[j]? = some b → i ≠ j → f a = some x → f b ≠ some x
  | [], _, _, _, _, _, _, hi, _, _, _ => by simp at hi
  | c :: l, i, j, a, b, x, h, hi, hj, hij, hx => by
    intro hb
    have hmem : ∀ {k : Nat} {d : α}, l[k]? = some d → f d = some x → x ∈ l.filterMap f := fun hk hd => List.mem_filterMap.2 ⟨_, List.mem_of_getElem? hk, hd⟩
    rw [List.filterMap_cons] at h
    cases i with
    | zero =>
      cases j with
      | zero => exact hij rfl
      | succ j =>
        simp only [List.getElem?_cons_zero, Option.some.injEq] at hi
        subst hi
        simp only [hx, List.nodup_cons] at h
        exact h.1 (hmem hj hb)
    | succ i =>
      cases j with
      | zero =>
        simp only [List.getElem?_cons_zero, Option.some.injEq] at hj
        subst hj
        simp only [hb, List.nodup_cons] at h
        exact h.1 (hmem hi hx)
      | succ j =>
        have h' : (l.filterMap f).Nodup := by
          cases hc : f c with
          | none => rw [hc] at h; exact h
          | some y => rw [hc] at h; exact (List.nodup_cons.1 h).2
        exact nodup_at_ne h' hi hj (fun e => hij (by rw [e])) hx hb

theorem filterMap_set_same {α β : Type} {f : α → Option β} : ∀ {l : List α} {i : Nat} {a b : α}, l[i]? = some a → f b = f a → (l.set i b).filterMap f = l.filterMap f
  | [], _, _, _, h, _ => by simp at h
  | c :: l, 0, a, b, h, hf => by
    simp only [List.getElem?_cons_zero, Option.some.injEq] at h
    subst h
    simp [hf, List.filterMap_cons]
  | c :: l, i + 1, a, b, h, hf => by
    simp only [List.getElem?_cons_succ] at h
    simp only [List.set_cons_succ, List.filterMap_cons, filterMap_set_same h hf]

theorem rowCells_set : ∀ {ms : List Msg} {i : Nat} (m : Msg), rowCells (ms.set i m) = ((rowCells ms).set (i * 2) (.int .i64 m.N)).set (i * 2 + 1) m.v
  | [], _, _ => by simp [rowCells]
  | a :: ms, 0, m => by simp [rowCells]
  | a :: ms, i + 1, m => by
    have ih := rowCells_set (ms := ms) (i := i) m
    simp only [rowCells, List.set_cons_succ, List.flatMap_cons, List.cons_append, List.nil_append] at ih ⊢
    rw [ih, show (i + 1) * 2 = i * 2 + 1 + 1 from by omega, show i * 2 + 1 + 1 + 1 = (i * 2 + 1) + 1 + 1 from rfl]
    simp only [List.set_cons_succ]

/-- One message of the row has turned: its bytes' block, or its slice in the row, or both. -/
theorem WrOk.turn {w w' : World} {W : Wr} {i : Nat} {m : Msg} {v' : Value} {l' : List UInt8} (hW : WrOk w W) (hm : W.ms[i]? = some m)
    (hu : Upd (fun k => W.rv.ownBlock = some k ∨ m.v.ownBlock = some k) w w') (hrow : w'.ownsRow 0 63 2 W.rv W.ms.length (rowCells (W.ms.set i ⟨m.N, v', l'⟩)))
    (hown : OwnB 0 w' v' l') (hv : v'.ownBlock = m.v.ownBlock) (hl : l'.length ≤ 1048576) : Onward w W w' { W with ms := W.ms.set i ⟨m.N, v', l'⟩ } := by
  have hmem := List.mem_of_getElem? hm
  have hi : i < W.ms.length := (List.getElem?_eq_some_iff.1 hm).1
  have hcase : ∀ x ∈ W.ms.set i ⟨m.N, v', l'⟩, x = ⟨m.N, v', l'⟩ ∨ ∃ j : Nat, j ≠ i ∧ W.ms[j]? = some x := by
    intro x hx
    obtain ⟨j, hj⟩ := List.getElem?_of_mem hx
    by_cases hji : j = i
    · subst hji
      rw [List.getElem?_set_self hi] at hj
      exact .inl (by simpa using hj.symm)
    · rw [List.getElem?_set_ne (Ne.symm hji)] at hj
      exact .inr ⟨j, hji, hj⟩
  refine ⟨⟨?_, ?_, ?_, ?_, ?_, hW.most, ?_⟩, rfl, ?_, ?_⟩
  · refine hW.blk.upd hu ?_
    rintro (h | h)
    · exact own_blk_ne hW.row hW.blk (by decide) h
    · exact own_blk_ne (hW.byt m hmem) hW.blk (by decide) h
  · simpa using hrow
  · intro x hx
    rcases hcase x hx with rfl | ⟨j, hji, hj⟩
    · exact hown
    · refine (hW.byt x (List.mem_of_getElem? hj)).upd hu fun k hk => ?_
      rintro (h | h)
      · exact own_own_ne (hW.byt x (List.mem_of_getElem? hj)) hW.row (by decide) hk h
      · exact nodup_at_ne hW.apart hm hj (Ne.symm hji) h hk
  · rw [filterMap_set_same hm hv]
    exact hW.apart
  · intro x hx
    rcases hcase x hx with rfl | ⟨j, hji, hj⟩
    · exact hl
    · exact hW.small x (List.mem_of_getElem? hj)
  · simpa using hW.many
  · refine hu.mono fun k _ hk => ?_
    rcases hk with hk | hk
    · exact .inr (.inl hk)
    · exact .inr (.inr ⟨m, hmem, hk⟩)
  · rintro k (rfl | hk | ⟨x, hx, hk⟩)
    · exact .inl (.inl rfl)
    · exact .inl (.inr (.inl hk))
    · rcases hcase x hx with rfl | ⟨j, hji, hj⟩
      · exact .inl (.inr (.inr ⟨m, hmem, by rw [← hv]; exact hk⟩))
      · exact .inl (.inr (.inr ⟨x, List.mem_of_getElem? hj, hk⟩))

theorem set_getElem?_self {α : Type} : ∀ {l : List α} {i : Nat} {a : α}, l[i]? = some a → l.set i a = l
  | [], _, _, h => by simp at h
  | b :: l, 0, a, h => by simp at h; simp [h]
  | b :: l, i + 1, a, h => by simp only [List.getElem?_cons_succ] at h; simp [set_getElem?_self h]

/-- A byte of a message has turned. -/
theorem WrOk.flip {w : World} {W : Wr} {i k bg c : Nat} {m : Msg} {b : UInt8} (hW : WrOk w W) (hm : W.ms[i]? = some m) (hv : m.v = .slice (some ⟨bg, 0, none⟩) m.l.length c) :
    Onward w W (w.setCell ⟨bg, k, none⟩ (bv b)) { W with ms := W.ms.set i ⟨m.N, m.v, m.l.set k b⟩ } := by
  have hmem := List.mem_of_getElem? hm
  have hb : m.v.ownBlock = some bg := by rw [hv]; rfl
  have hu : Upd (fun k => W.rv.ownBlock = some k ∨ m.v.ownBlock = some k) w (w.setCell ⟨bg, k, none⟩ (bv b)) := (Upd.refl (fun k => W.rv.ownBlock = some k ∨ m.v.ownBlock = some k) w).setCell (p := ⟨bg, k, none⟩) (.inl (.inr hb)) _
  refine hW.turn hm hu ?_ ?_ rfl (by simpa using hW.small m hmem)
  · have hu' : Upd (fun j => bg = j) w (w.setCell ⟨bg, k, none⟩ (bv b)) := (Upd.refl (fun j => bg = j) w).setCell (p := ⟨bg, k, none⟩) (.inl rfl) _
    have h := own_upd hW.row hu' fun j hj hbj => own_own_ne hW.row (hW.byt m hmem) (by decide) hj (by rw [hb, hbj])
    have he : rowCells (W.ms.set i ⟨m.N, m.v, m.l.set k b⟩) = rowCells W.ms := by
      rw [rowCells_set]
      simp only
      rw [set_getElem?_self (rowCells_n hm), set_getElem?_self (rowCells_v hm)]
    rw [he]
    exact h
  · have h := hW.byt m hmem
    unfold OwnB at h ⊢
    rw [hv] at h ⊢
    have h2 := (h.stored k (bv b)).1
    simpa [bvs] using h2

/-- Less of a message's bytes is left. -/
theorem WrOk.cutTo {w : World} {W : Wr} {i k g ln cap c : Nat} {A : Option Addr} {m : Msg} (hW : WrOk w W) (hm : W.ms[i]? = some m) (hrv : W.rv = .slice (some ⟨g, 0, none⟩) ln cap)
    (hl : W.ms.length = ln) (hv : m.v = .slice A m.l.length c) (hk : k ≤ m.l.length) :
    Onward w W (w.setCell ⟨g, i * 2 + 1, none⟩ (.slice A k c)).drew { W with ms := W.ms.set i ⟨m.N, .slice A k c, m.l.take k⟩ } := by
  subst hl
  have hmem := List.mem_of_getElem? hm
  have hb : W.rv.ownBlock = some g := by rw [hrv]; rfl
  have hu : Upd (fun k => W.rv.ownBlock = some k ∨ m.v.ownBlock = some k) w (w.setCell ⟨g, i * 2 + 1, none⟩ (.slice A k c)).drew :=
    ((Upd.refl (fun k => W.rv.ownBlock = some k ∨ m.v.ownBlock = some k) w).setCell (p := ⟨g, i * 2 + 1, none⟩) (.inl (.inl hb)) _).drew
  refine hW.turn hm hu ?_ ?_ (by rw [hv]; cases A <;> rfl) ?_
  · have h := hW.row
    rw [hrv] at h ⊢
    have h2 := (h.stored (i * 2 + 1) (.slice A k c)).1
    rw [rowCells_set]
    simp only
    rw [set_getElem?_self (rowCells_n hm)]
    exact h2
  · have hu' : Upd (fun j => g = j) w (w.setCell ⟨g, i * 2 + 1, none⟩ (.slice A k c)).drew := ((Upd.refl (fun j => g = j) w).setCell (p := ⟨g, i * 2 + 1, none⟩) (.inl rfl) _).drew
    have h := (hW.byt m hmem).upd hu' fun j hj hgj => own_own_ne (hW.byt m hmem) hW.row (by decide) hj (by rw [hb, hgj])
    unfold OwnB at h ⊢
    rw [hv] at h
    have h2 := own_shrink h hk
    rw [List.length_take, Nat.min_eq_left hk]
    simpa [bvs, List.map_take] using h2
  · have := hW.small m hmem
    rw [List.length_take]
    omega

/-- Where a message stands. -/
def Wr.find (W : Wr) (n : Int) : Option Nat := W.ms.findIdx? fun m => (m.N : Int) == n

theorem Wr.find_some {W : Wr} {n : Int} {i : Nat} (h : W.find n = some i) : ∃ m, W.ms[i]? = some m ∧ (m.N : Int) = n ∧ i < W.ms.length ∧ ∀ j, j < i → ∀ m : Msg, W.ms[j]? = some m → (m.N : Int) ≠ n := by
  unfold Wr.find at h
  rw [List.findIdx?_eq_some_iff_getElem] at h
  obtain ⟨hi, hp, hj⟩ := h
  refine ⟨W.ms[i], List.getElem?_eq_getElem hi, by simpa using hp, hi, fun j hji m hm => ?_⟩
  have h1 := hj j hji
  rw [List.getElem?_eq_getElem (by omega)] at hm
  have hm' : W.ms[j] = m := by simpa using hm
  simpa [hm'] using h1
theorem Wr.find_none {W : Wr} {n : Int} (h : W.find n = none) : ∀ (j : Nat) (m : Msg), W.ms[j]? = some m → (m.N : Int) ≠ n := by
  unfold Wr.find at h
  rw [List.findIdx?_eq_none_iff] at h
  intro j m hm
  simpa using h m (List.mem_of_getElem? hm)

end Go.Proofs.Ytfnlemdlngdaiaa
