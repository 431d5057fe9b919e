/-
  Words for memory: worlds that differ in some blocks alone, slices that read as lists of bytes, rows that the call owns. No program in sight.
-/
import Derived.WalkKit
import Derived.WalkSpells
import Derived.WalkLawsBesides
import Derived.Maps.AppendAt
import Derived.Deep.AppendLies
import Derived.Deep.Draws
import Derived.Deep.Onto
import Derived.Laws.Rows
import Derived.Lib.Hide
namespace Go.Proofs.YtedaapcmcimepaaGreatDoor
open Go.RowKit

/-- The world w' is w but for the blocks of S and for new blocks. -/
structure Upd (S : Nat → Prop) (w w' : World) : Prop where
  os : w'.os = w.os
  tape : w'.tape = w.tape
  output : w'.output = w.output
  size : w.heap.size ≤ w'.heap.size
  block : ∀ k, k < w.heap.size → ¬ S k → w'.heap[k]? = w.heap[k]?

/-- No block. -/
def noBlk : Nat → Prop := fun _ => False

section
variable {S S' : Nat → Prop} {w w' w'' : World}

theorem Upd.refl (S : Nat → Prop) (w : World) : Upd S w w := ⟨rfl, rfl, rfl, Nat.le_refl _, fun _ _ _ => rfl⟩
theorem Upd.mono (h : Upd S w w') (hs : ∀ k, k < w.heap.size → S k → S' k) : Upd S' w w' :=
  ⟨h.os, h.tape, h.output, h.size, fun k hk hn => h.block k hk fun hS => hn (hs k hk hS)⟩
theorem Upd.trans (h : Upd S w w') (h' : Upd S' w' w'') (hs : ∀ k, S' k → S k ∨ w.heap.size ≤ k) : Upd S w w'' :=
  ⟨h'.os.trans h.os, h'.tape.trans h.tape, h'.output.trans h.output, Nat.le_trans h.size h'.size, fun k hk hn =>
    (h'.block k (Nat.lt_of_lt_of_le hk h.size) fun hS => (hs k hS).elim hn fun hge => by omega).trans (h.block k hk hn)⟩
theorem Upd.trans_same (h : Upd S w w') (h' : Upd S w' w'') : Upd S w w'' := h.trans h' fun _ hk => .inl hk
theorem Upd.then_none (h : Upd S w w') (h' : Upd noBlk w' w'') : Upd S w w'' := h.trans h' fun _ hk => hk.elim
theorem Upd.of_none (h : Upd noBlk w w') (S : Nat → Prop) : Upd S w w' := h.mono fun _ _ hk => hk.elim
theorem Upd.drew (h : Upd S w w') : Upd S w w'.drew := ⟨h.os, h.tape, h.output, h.size, h.block⟩
theorem Upd.drewN (h : Upd S w w') (n : Nat) : Upd S w (w'.drewN n) := ⟨h.os, h.tape, h.output, h.size, h.block⟩
theorem Upd.undrew (h : Upd S w.drew w') : Upd S w w' := ⟨h.os, h.tape, h.output, h.size, h.block⟩
theorem Upd.undrewN {n : Nat} (h : Upd S (w.drewN n) w') : Upd S w w' := ⟨h.os, h.tape, h.output, h.size, h.block⟩
theorem Upd.alloc (h : Upd S w w') (o : Obj) : Upd S w (w'.alloc o) :=
  ⟨h.os, h.tape, h.output, Nat.le_trans h.size (by simp), fun k hk hn => (Below.heap_alloc w' o k (Nat.lt_of_lt_of_le hk h.size)).trans (h.block k hk hn)⟩
theorem Upd.setCell (h : Upd S w w') {p : Addr} (hp : S p.block ∨ w.heap.size ≤ p.block) (u : Value) : Upd S w (w'.setCell p u) :=
  ⟨h.os, h.tape, h.output, by simpa [World.setCell] using h.size, fun k hk hn => (Below.heap_setCell w' p u k (by
    rintro rfl
    rcases hp with hp | hp
    · exact hn hp
    · omega)).trans (h.block k hk hn)⟩
theorem Upd.grown (h : Upd S w w') {row : Option Nat} (hg : w'.grownBy w'' row) (hr : ∀ k, row = some k → S k ∨ w.heap.size ≤ k) : Upd S w w'' :=
  ⟨hg.os.trans h.os, hg.tape.trans h.tape, hg.output.trans h.output, Nat.le_trans h.size hg.size, fun k hk hn =>
    (hg.block k (Nat.lt_of_lt_of_le hk h.size) (fun e => (hr k e.symm).elim hn fun hge => by omega)).trans (h.block k hk hn)⟩
theorem Upd.of_grown {row : Option Nat} (hg : w.grownBy w' row) : Upd (fun k => row = some k) w w' := (Upd.refl _ w).grown hg fun _ hk => .inl hk
theorem Upd.below (h : Upd S w w') {B : Nat} (hB : B ≤ w.heap.size) (hs : ∀ k, S k → B ≤ k) : Below B w w' :=
  ⟨h.os, h.tape, h.output, h.size, fun k hk => h.block k (by omega) fun hS => by have := hs k hS; omega⟩
theorem Upd.of_below {B : Nat} (h : Below B w w') : Upd (fun k => B ≤ k) w w' := ⟨h.os, h.tape, h.output, h.size, fun k _ hn => h.block k (by omega)⟩
theorem Upd.of_below_all (h : Below w.heap.size w w') : Upd noBlk w w' := ⟨h.os, h.tape, h.output, h.size, fun k hk _ => h.block k hk⟩
theorem Upd.below_all (h : Upd noBlk w w') : Below w.heap.size w w' := h.below (Nat.le_refl _) fun _ hk => hk.elim
theorem Upd.cell (h : Upd S w w') {p : Addr} (hp : p.block < w.heap.size) (hn : ¬ S p.block) : w'.cell? p = w.cell? p := World.cell?_of_block (h.block _ hp hn)
theorem Upd.frozen (h : Upd S w w') {p : Addr} (hp : p.block < w.heap.size) (hn : ¬ S p.block) : w'.frozen? p = w.frozen? p := World.frozen?_of_block (h.block _ hp hn)
theorem Upd.cell_some (h : Upd S w w') {p : Addr} {v : Value} (hc : w.cell? p = some v) (hn : ¬ S p.block) : w'.cell? p = some v :=
  (h.cell (World.block_lt_of_cell? w p hc) hn).trans hc
end

theorem Upd.free {S : Nat → Prop} {w w' : World} (h : Upd S w w') {p : Addr} (hlt : p.block < w.heap.size) (hc : w.frozen? p = false) (hn : ¬ S p.block) : w'.frozen? p = false :=
  (h.frozen hlt hn).trans hc
theorem grown_free {w w' : World} {row : Option Nat} (hg : w.grownBy w' row) {p : Addr} (hlt : p.block < w.heap.size) (hc : w.frozen? p = false) (hne : some p.block ≠ row) : w'.frozen? p = false :=
  (World.frozen?_of_block (hg.block p.block hlt hne)).trans hc

/-- Block g is known whole: the cells cs, of element type t, none frozen. -/
def Blk (w : World) (g : Nat) (t : TypeId) (cs : Array Value) : Prop := w.heap[g]? = some (.cells cs t (0, 0))

section
variable {w w' : World} {S : Nat → Prop} {g : Nat} {t : TypeId} {cs : Array Value}
theorem Blk.lt (h : Blk w g t cs) : g < w.heap.size := lt_of_block h
theorem Blk.cell (h : Blk w g t cs) (i : Nat) : w.cell? ⟨g, i, none⟩ = cs[i]? := by unfold Blk at h; simp [World.cell?, h]
theorem Blk.free (h : Blk w g t cs) (p : Addr) (hp : p.block = g) : w.frozen? p = false := by unfold Blk at h; subst hp; simp [World.frozen?, h]
theorem Blk.upd (h : Blk w g t cs) (hu : Upd S w w') (hn : ¬ S g) : Blk w' g t cs := (hu.block g h.lt hn).trans h
theorem Blk.new (w : World) (t : TypeId) (cs : Array Value) : Blk (w.alloc (.cells cs t)) w.heap.size t cs := heap_alloc_new w _
theorem Blk.alloc (h : Blk w g t cs) (o : Obj) : Blk (w.alloc o) g t cs := (Below.heap_alloc w o g h.lt).trans h
theorem Blk.drew (h : Blk w g t cs) : Blk w.drew g t cs := h
theorem Blk.drewN (h : Blk w g t cs) (n : Nat) : Blk (w.drewN n) g t cs := h
theorem Blk.set (h : Blk w g t cs) (i : Nat) (u : Value) : Blk (w.setCell ⟨g, i, none⟩ u) g t (cs.setIfInBounds i u) := by
  unfold Blk at h ⊢
  simp [World.setCell, Array.getElem?_modify, h]
theorem Blk.far (h : Blk w g t cs) {p : Addr} (hp : g ≠ p.block) (u : Value) : Blk (w.setCell p u) g t cs := (Below.heap_setCell w p u g hp).trans h
theorem Blk.ne_of_type {g' : Nat} {t' : TypeId} {cs' : Array Value} (h : Blk w g t cs) (h' : Blk w g' t' cs') (hne : t ≠ t') : g ≠ g' := by
  rintro rfl
  unfold Blk at h h'
  rw [h] at h'
  simp only [Option.some.injEq, Obj.cells.injEq] at h'
  exact hne h'.2.1
end

section
variable {w w' : World} {S : Nat → Prop} {base base' : Nat} {e : TypeId} {size : Nat} {v : Value} {n : Nat} {xs : List Value}
/-- Rows that the call owns, kept. -/
theorem own_upd (h : w.ownsRow base e size v n xs) (hu : Upd S w w') (hn : ∀ k, v.ownBlock = some k → ¬ S k) : w'.ownsRow base e size v n xs := by
  refine ⟨h.1, ?_⟩
  rcases h.2 with h0 | ⟨g, cap, cur, rfl, hb, hg, r⟩
  · exact .inl h0
  · exact .inr ⟨g, cap, cur, rfl, hb, (hu.block g (lt_of_block hg) (hn g rfl)).trans hg, r⟩
theorem own_blk_ne {g : Nat} {t : TypeId} {cs : Array Value} (h : w.ownsRow base e size v n xs) (hg : Blk w g t cs) (hne : e ≠ t) : v.ownBlock ≠ some g := by
  rcases h.2 with ⟨rfl, _⟩ | ⟨g', cap, cur, rfl, _, hh, _⟩
  · simp [Value.ownBlock]
  · intro he
    have : g' = g := by simpa [Value.ownBlock] using he
    subst this
    exact Blk.ne_of_type (t := e) hh hg hne rfl
theorem own_own_ne {e' : TypeId} {size' n' : Nat} {v' : Value} {xs' : List Value} {base'' : Nat} (h : w.ownsRow base e size v n xs) (h' : w.ownsRow base'' e' size' v' n' xs') (hne : e ≠ e') {k : Nat} (hk : v.ownBlock = some k) : v'.ownBlock ≠ some k := by
  rcases h.2 with ⟨rfl, _⟩ | ⟨g, cap, cur, rfl, _, hh, _⟩
  · simp [Value.ownBlock] at hk
  · have : g = k := by simpa [Value.ownBlock] using hk
    subst this
    exact own_blk_ne h' (t := e) hh (fun e1 => hne e1.symm)
theorem own_at {g cap : Nat} (h : w.ownsRow base e size (.slice (some ⟨g, 0, none⟩) n cap) n xs) {j : Nat} {u : Value} (hu : xs[j]? = some u) : w.cell? ⟨g, j, none⟩ = some u := by
  have hj : j < n * size := by rw [← h.1]; exact (List.getElem?_eq_some_iff.1 hu).1
  rw [h.cellAt j hj, hu]
end

/-- A row of which less is left. -/
theorem own_shrink {w : World} {base : Nat} {e : TypeId} {size n k c : Nat} {A : Option Addr} {xs : List Value} (h : w.ownsRow base e size (.slice A n c) n xs) (hk : k ≤ n) :
    w.ownsRow base e size (.slice A k c) k (xs.take (k * size)) := by
  have hle : k * size ≤ n * size := Nat.mul_le_mul_right _ hk
  refine ⟨by rw [List.length_take, h.1]; omega, ?_⟩
  rcases h.2 with ⟨h0, h1⟩ | ⟨g, cap, cur, hv, hb, hg, hnc, hcm, hcs, htake⟩
  · subst h1
    obtain rfl : k = 0 := by omega
    exact .inl ⟨h0, rfl⟩
  · simp only [Value.slice.injEq, true_and] at hv
    obtain ⟨rfl, rfl⟩ := hv
    exact .inr ⟨g, c, cur, rfl, hb, hg, by omega, hcm, hcs, by rw [← htake, List.take_take, Nat.min_eq_left hle]⟩

/-- A byte, and bytes, as cells. -/
def bv (b : UInt8) : Value := .int .u8 b.toNat
def bvs (l : List UInt8) : List Value := l.map bv
theorem bvs_length (l : List UInt8) : (bvs l).length = l.length := by simp [bvs]
theorem bvs_append (l m : List UInt8) : bvs (l ++ m) = bvs l ++ bvs m := by simp [bvs]
theorem bvs_at {l : List UInt8} {j : Nat} {u : UInt8} (h : l[j]? = some u) : (bvs l)[j]? = some (bv u) := by simp [bvs, h]
theorem bvs_one (l : List UInt8) : ∀ u ∈ bvs l, u.oneCell' = true := by
  intro u hu
  simp only [bvs, List.mem_map] at hu
  obtain ⟨b, _, rfl⟩ := hu
  rfl

/-- A slice value that reads as these cells, wherever they lie; its capacity and its length are such as a value may have. -/
def RdC (w : World) (v : Value) (size n : Nat) (xs : List Value) : Prop :=
  xs.length = n * size ∧ ∃ A c, v = .slice A n c ∧ n ≤ c ∧ c ≤ maxLen ∧ (A = none → n = 0) ∧ ∀ (j : Nat) (u : Value), xs[j]? = some u → ∃ ad, A = some ad ∧ w.cell? (ad.add j) = some u
/-- .. as these bytes. -/
def RdB (w : World) (v : Value) (l : List UInt8) : Prop := RdC w v 1 l.length (bvs l)

/-- The bytes that a slice of the call's own holds. -/
def OwnB (B : Nat) (w : World) (v : Value) (l : List UInt8) : Prop := w.ownsRow B 5 1 v l.length (bvs l)

theorem addr_add_block (a : Addr) (n : Nat) : (a.add n).block = a.block := by unfold Addr.add; split <;> rfl
theorem addr_add_zero (g n : Nat) : (⟨g, 0, none⟩ : Addr).add n = ⟨g, n, none⟩ := by unfold Addr.add; split <;> simp_all
theorem addr_add_add (a : Addr) (i j : Nat) : (a.add i).add j = a.add (i + j) := by
  unfold Addr.add
  by_cases hi : i = 0 <;> by_cases hj : j = 0 <;> simp [hi, hj, Nat.add_assoc]

section
variable {w w' : World} {S : Nat → Prop} {v : Value} {size n : Nat} {xs : List Value}
theorem RdC.nil (w : World) (size c : Nat) (hc : c ≤ maxLen) : RdC w (.slice none 0 c) size 0 [] := ⟨by simp, none, c, rfl, Nat.zero_le _, hc, fun _ => rfl, fun j u h => by simp at h⟩
theorem RdC.upd (h : RdC w v size n xs) (hu : Upd S w w') (hn : ∀ k, v.ownBlock = some k → ¬ S k) : RdC w' v size n xs := by
  obtain ⟨h0, A, c, rfl, h1, h2, h3, h4⟩ := h
  refine ⟨h0, A, c, rfl, h1, h2, h3, fun j u hj => ?_⟩
  obtain ⟨ad, rfl, hc⟩ := h4 j u hj
  exact ⟨ad, rfl, hu.cell_some hc (by rw [addr_add_block]; exact hn ad.block rfl)⟩
/-- Nothing old has turned. -/
theorem RdC.none (h : RdC w v size n xs) (hu : Upd noBlk w w') : RdC w' v size n xs := h.upd hu fun _ _ hk => hk.elim
theorem RdC.block_lt (h : RdC w v size n xs) (hl : xs ≠ []) : ∀ k, v.ownBlock = some k → k < w.heap.size := by
  obtain ⟨h0, A, c, rfl, h1, h2, h3, h4⟩ := h
  intro k hk
  obtain ⟨u, l', rfl⟩ := List.exists_cons_of_ne_nil hl
  obtain ⟨ad, rfl, hc⟩ := h4 0 u rfl
  have hb := World.block_lt_of_cell? w _ hc
  rw [addr_add_block] at hb
  have : ad.block = k := by simpa [Value.ownBlock] using hk
  omega
theorem own_rd {B : Nat} {e : TypeId} (h : w.ownsRow B e size v n xs) : RdC w v size n xs := by
  rcases h.2 with ⟨rfl, h0⟩ | ⟨g, cap, cur, rfl, hb, hg, hc, hm, _⟩
  · subst h0
    have : xs = [] := List.eq_nil_of_length_eq_zero (by simpa using h.1)
    subst this
    exact RdC.nil w size 0 (by simp [maxLen])
  · exact ⟨h.1, _, cap, rfl, hc, hm, fun h => by simp at h, fun j u hj => ⟨_, rfl, h.cells rfl j _ hj⟩⟩
theorem RdC.length (h : RdC w v size n xs) : n ≤ maxLen := by
  obtain ⟨_, _, _, _, h1, h2, _⟩ := h
  omega
end

section
variable {w w' : World} {S : Nat → Prop} {v : Value} {l : List UInt8}
theorem RdB.nil (w : World) : RdB w (.slice none 0 0) [] := RdC.nil w 1 0 (by simp [maxLen])
theorem RdB.upd (h : RdB w v l) (hu : Upd S w w') (hn : ∀ k, v.ownBlock = some k → ¬ S k) : RdB w' v l := RdC.upd h hu hn
theorem RdB.none (h : RdB w v l) (hu : Upd noBlk w w') : RdB w' v l := RdC.none h hu
theorem OwnB.rd {B : Nat} (h : OwnB B w v l) : RdB w v l := own_rd h
theorem OwnB.upd {B : Nat} (h : OwnB B w v l) (hu : Upd S w w') (hn : ∀ k, v.ownBlock = some k → ¬ S k) : OwnB B w' v l := own_upd h hu hn
theorem OwnB.mono {B B' : Nat} (h : OwnB B w v l) (hB : B' ≤ B) : OwnB B' w v l := World.ownsRow.mono h hB
theorem OwnB.ge {B : Nat} (h : OwnB B w v l) : ∀ k, v.ownBlock = some k → B ≤ k := fun k hk => (h.lt k hk).1
theorem OwnB.lt {B : Nat} (h : OwnB B w v l) : ∀ k, v.ownBlock = some k → k < w.heap.size := fun k hk => (World.ownsRow.lt h k hk).2
end

/-- A block that is known whole reads as a slice. -/
theorem blk_rd {w : World} {g : Nat} {t : TypeId} {cs : Array Value} (h : Blk w g t cs) (size n : Nat) (hn : n ≤ maxLen) (hs : cs.size = n * size) : RdC w (.slice (some ⟨g, 0, none⟩) n n) size n cs.toList :=
  ⟨by simpa using hs, _, n, rfl, Nat.le_refl _, hn, fun h => by simp at h, fun j u hu => ⟨_, rfl, by rw [addr_add_zero, h.cell]; simpa using hu⟩⟩

section
variable {P : Program} (w : World)
/-- append onto a row of the call's own, the source nil, empty or not, wherever it lies. -/
theorem run_app (base : Nat) (t ty e : TypeId) (i : TypeInfo) (z : Value) (size bytes : Nat) (ht : P.underlying t = some (.slice e))
    (hI : P.info? e = some i ∧ i.zero = some z ∧ i.size = size ∧ i.bytes = bytes) (hzs : z.cells.size = size) (hsz : 0 < size)
    (v : Value) (n : Nat) (xs : List Value) (hown : w.ownsRow base e size v n xs) (src : Value) (m : Nat) (news : List Value) (hr : RdC w src size m news) (h1 : ∀ u ∈ news, u.oneCell' = true)
    (h63 : n + m ≤ maxLen) (hbytes : (n + m) * bytes ≤ 140737488355328) (hbase : base ≤ w.heap.size) :
    ∃ v' w', (Builtin.append_ #[t, t] ty #[v, src]).run P w = .ok v' w' ∧ w'.ownsRow base e size v' (n + m) (xs ++ news) ∧ w.grownBy w' v.ownBlock ∧
      (v'.ownBlock = v.ownBlock ∨ v'.ownBlock = some w.heap.size) := by
  obtain ⟨hi, hz, hsize, hby⟩ := hI
  obtain ⟨hl, A, c, rfl, hc1, hc2, hA, hat⟩ := hr
  cases A with
  | none =>
    obtain rfl := hA rfl
    obtain rfl : news = [] := List.eq_nil_of_length_eq_zero (by simpa using hl)
    refine ⟨v, w, ?_, by simpa using hown, World.grownBy.refl w _, .inl rfl⟩
    rcases hown.2 with ⟨rfl, rfl⟩ | ⟨g, cap, cur, rfl, _, _, hnc, _⟩
    · simp [Builtin.append_, run_underlying ht, sizeOf, typeInfo, hi, Builtin.lenOf, Builtin.firstCells]
    · simp [Builtin.append_, run_underlying ht, sizeOf, typeInfo, hi, Builtin.lenOf, Builtin.firstCells, hnc, storeCells]
  | some ad =>
    have hcells : ∀ (j : Nat) (u : Value), news[j]? = some u → w.cell? (ad.add j) = some u := by
      intro j u hu
      obtain ⟨ad', he, hc⟩ := hat j u hu
      injection he with he
      subst he
      exact hc
    obtain ⟨v', w', hrun, h2, h3, _, h5⟩ := run_append_own_at (P := P) w base t ty e i z size bytes ht hi hz hsize hby hzs hsz v n xs hown ad m c news hl hcells h1 h63 hbytes hbase
    exact ⟨v', w', hrun, h2, h3, h5⟩

/-- .. as a step of a region that draws its order. -/
theorem step_app {ops : Array Oper} {o : Oper} {a : Act} {K : Act → World → Prop} {Q : Exit → Act → World → Prop} {E : Prop} (hgd : o.guard = none) (s x : Operand) (t : TypeId)
    (ho : o.op = .call { callee := .builtin .append, args := #[s, x], argTypes := #[t, t] })
    (base : Nat) (e : TypeId) (i : TypeInfo) (z : Value) (size bytes : Nat) (ht : P.underlying t = some (.slice e))
    (hI : P.info? e = some i ∧ i.zero = some z ∧ i.size = size ∧ i.bytes = bytes) (hzs : z.cells.size = size) (hsz : 0 < size)
    (v : Value) (n : Nat) (xs : List Value) (hs : a.eval s = v) (hown : w.ownsRow base e size v n xs) (src : Value) (m : Nat) (news : List Value) (hx : a.eval x = src) (hr : RdC w src size m news)
    (h1 : ∀ u ∈ news, u.oneCell' = true) (h63 : n + m ≤ maxLen) (hbytes : (n + m) * bytes ≤ 140737488355328) (hbase : base ≤ w.heap.size)
    (h : ∀ v' w', w'.ownsRow base e size v' (n + m) (xs ++ news) → w.grownBy w' v.ownBlock → (v'.ownBlock = v.ownBlock ∨ v'.ownBlock = some w.heap.size) → K (a.put o.dst v') w') :
    if Region.wanted o (yielded ops a.tmps) = true then Oper.wp P o a w K Q else E := by
  have hw : Region.wanted o (yielded ops a.tmps) = true := by simp [Region.wanted, hgd]
  rw [if_pos hw]
  obtain ⟨v', w', hr, h2, h3, h4⟩ := run_app (P := P) w base t o.type e i z size bytes ht hI hzs hsz v n xs hown src m news hr h1 h63 hbytes hbase
  unfold Oper.wp execOp
  simp only [ho, resolve, invoke, builtin, Sem.run_bind, Sem.run_pure, Result.andThen_ok, List.map_toArray, List.map_cons, List.map_nil, hs, hx, hr]
  exact h v' w' h2 h3 h4

/-- .. as an operation of a plain region. -/
theorem wpList_app {ops : Array Oper} {rest : List Oper} {o : Oper} {a : Act} {Q : Exit → Act → World → Prop} (hgd : o.guard = none) (s x : Operand) (t : TypeId)
    (ho : o.op = .call { callee := .builtin .append, args := #[s, x], argTypes := #[t, t] })
    (base : Nat) (e : TypeId) (i : TypeInfo) (z : Value) (size bytes : Nat) (ht : P.underlying t = some (.slice e))
    (hI : P.info? e = some i ∧ i.zero = some z ∧ i.size = size ∧ i.bytes = bytes) (hzs : z.cells.size = size) (hsz : 0 < size)
    (v : Value) (n : Nat) (xs : List Value) (hs : a.eval s = v) (hown : w.ownsRow base e size v n xs) (src : Value) (m : Nat) (news : List Value) (hx : a.eval x = src) (hr : RdC w src size m news)
    (h1 : ∀ u ∈ news, u.oneCell' = true) (h63 : n + m ≤ maxLen) (hbytes : (n + m) * bytes ≤ 140737488355328) (hbase : base ≤ w.heap.size)
    (h : ∀ v' w', w'.ownsRow base e size v' (n + m) (xs ++ news) → w.grownBy w' v.ownBlock → (v'.ownBlock = v.ownBlock ∨ v'.ownBlock = some w.heap.size) → wpList P ops Q rest (a.put o.dst v') w') :
    wpList P ops Q (o :: rest) a w := by
  refine wpList_plain hgd fun K hK => ?_
  obtain ⟨v', w', hr, h2, h3, h4⟩ := run_app (P := P) w base t o.type e i z size bytes ht hI hzs hsz v n xs hown src m news hr h1 h63 hbytes hbase
  unfold Oper.wp execOp
  simp only [ho, resolve, invoke, builtin, Sem.run_bind, Sem.run_pure, Result.andThen_ok, List.map_toArray, List.map_cons, List.map_nil, hs, hx, hr]
  exact hK _ _ (h v' w' h2 h3 h4)
end

end Go.Proofs.YtedaapcmcimepaaGreatDoor
