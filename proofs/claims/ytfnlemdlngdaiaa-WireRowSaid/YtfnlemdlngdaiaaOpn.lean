/-
  The scripts that the rows hand in: opened.
-/
import Derived.Test.YtfnlemdlngdaiaaFnL
import Derived.Test.YtfnlemdlngdaiaaRow
import Derived.Deep.Slices
import Derived.SizedLaws
namespace Go.Proofs.Ytfnlemdlngdaiaa
open Go.ChangeShapes Go.WideShapes Go.RowKit

theorem c50 : Try.prog.cellsOf 50 = 5 := by kernel_rfl
theorem c5 : Try.prog.cellsOf 5 = 1 := by kernel_rfl
theorem b5 : Try.prog.bytesOf 5 = 1 := by kernel_rfl
theorem c3 : Try.prog.cellsOf 3 = 1 := by kernel_rfl
theorem c24 : Try.prog.cellsOf 24 = 1 := by kernel_rfl
theorem c38 : Try.prog.cellsOf 38 = 1 := by kernel_rfl
theorem c59 : Try.prog.cellsOf 59 = 5 := by kernel_rfl

section
variable {H : Type} {enc : TypeId × Value → H}

theorem byte_of {n : Int} (h : (Lit.int .u8 n).wf = true) : ∃ b : UInt8, (b.toNat : Int) = n := by
  simp only [Lit.wf, Bool.and_eq_true, decide_eq_true_eq] at h
  obtain ⟨h1, h2⟩ := h
  have h3 : (0 : Int) ≤ n := h1
  have h4 : n ≤ 255 := h2
  refine ⟨UInt8.ofNat n.toNat, ?_⟩
  have : n.toNat < 256 := by omega
  rw [UInt8.toNat_ofNat']
  omega

theorem bytes_of : ∀ (zs : List Int), (∀ n ∈ zs, (Lit.int .u8 n).wf = true) → ∃ l : List UInt8, l.map (fun b => (b.toNat : Int)) = zs
  | [], _ => ⟨[], rfl⟩
  | z :: zs, h => by
    obtain ⟨b, hb⟩ := byte_of (h z (by simp))
    obtain ⟨l, hl⟩ := bytes_of zs fun n hn => h n (by simp [hn])
    exact ⟨b :: l, by simp [hb, hl]⟩

/-- Bytes in memory, opened: they read as a list; and its length is in reach where the datum's is. -/
theorem open_rdb {W : World} {fuel : Nat} {cs : List Value} {x : DataW H × List MemPlace} (h : DataW.trod enc Try.prog W 0 (fun _ => true) true fuel 24 cs = some x) :
    ∃ v l, cs = [v] ∧ RdB W v l ∧ ((∀ n ∈ x.1.weights Try.prog 24, n ≤ reachBytes) → l.length ≤ 140737488351232) := by
  rcases open_ints Try.underlying24 Try.underlying5 c5 h with ⟨rfl, rfl⟩ | ⟨a, len, cap, zs, rfl, -, hl, hc, hzl, rfl, hz, hwf⟩
  · exact ⟨_, [], rfl, RdB.nil W, fun _ => by simp⟩
  simp only [if_true] at hzl
  obtain ⟨lz, hlz⟩ := bytes_of zs hwf
  have hlzl : lz.length = cap := by rw [← hzl, ← hlz]; simp
  have htl : (lz.take len).length = len := by rw [List.length_take]; omega
  refine ⟨_, lz.take len, rfl, ?_, ?_⟩
  · refine ⟨by rw [bvs_length]; omega, some a, cap, by rw [htl], by omega, hc, (fun h => by cases h), (fun j u hj => ⟨a, rfl, ?_⟩)⟩
    have hjl : j < len := by
      have := (List.getElem?_eq_some_iff.1 hj).1
      rw [bvs_length] at this
      omega
    rw [hz j (by omega)]
    rw [bvs, List.getElem?_map, List.getElem?_take, if_pos hjl, List.getElem?_eq_getElem (by omega)] at hj
    simp only [Option.map_some, Option.some.injEq] at hj
    rw [← hj]
    have hzd : zs[j]? = some (((lz[j]'(by omega)).toNat : Nat) : Int) := by
      have := congrArg (·[j]?) hlz
      simp only [List.getElem?_map, List.getElem?_eq_getElem (show j < lz.length by omega), Option.map_some] at this
      exact this.symm
    rw [List.getD, hzd]
    rfl
  · intro hw
    have h1 := hw (((lits (H := H) .u8 (zs.take len)).length + (lits (H := H) .u8 (zs.drop len)).length) * Try.prog.bytesOf 5) (by simp [DataW.weights, Try.underlying24])
    rw [b5] at h1
    have h2 : (lits (H := H) .u8 (zs.take len)).length = len := by simp [lits]; omega
    simp only [reachBytes] at h1
    rw [htl]
    omega

theorem weights_mem_all {P : Program} {t : TypeId} : ∀ {ds : List (DataW H)} {d : DataW H}, d ∈ ds → ∀ n ∈ d.weights P t, n ∈ DataW.weightsAll P t ds
  | d0 :: ds, d, hd, n, hn => by
    simp only [DataW.weightsAll, List.mem_append]
    rcases List.mem_cons.1 hd with rfl | hd
    · exact .inl hn
    · exact .inr (weights_mem_all hd n hn)

/-- One call of a script, opened. -/
theorem open_op {W : World} {fuel : Nat} {cs : List Value} {x : DataW H × List MemPlace} (h : DataW.trod enc Try.prog W 0 (fun _ => true) true fuel 50 cs = some x) :
    ∃ (o : OpD) (vb : Value), cs = [.int .i64 o.kind, .int .i64 o.n, .int .i64 o.m, .int .i64 o.k, vb] ∧ RdB W vb o.bytes ∧ ((∀ n ∈ x.1.weights Try.prog 50, n ≤ reachBytes) → o.bytes.length ≤ 140737488351232) := by
  obtain ⟨xs, n, -, rfl, hcl, hxl, hf⟩ := DataW.trod_struct Try.underlying50 h
  rw [c50] at hcl
  obtain ⟨v0, v1, v2, v3, v4, rfl⟩ : ∃ v0 v1 v2 v3 v4, cs = [v0, v1, v2, v3, v4] := by
    match cs, hcl with
    | [v0, v1, v2, v3, v4], _ => exact ⟨_, _, _, _, _, rfl⟩
  obtain ⟨x0, x1, x2, x3, x4, rfl⟩ : ∃ x0 x1 x2 x3 x4, xs = [x0, x1, x2, x3, x4] := by
    match xs, hxl with
    | [x0, x1, x2, x3, x4], _ => exact ⟨_, _, _, _, _, rfl⟩
  have f0 : DataW.trod enc Try.prog W 0 (fun _ => true) true n 3 (([v0, v1, v2, v3, v4].drop 0).take (Try.prog.cellsOf 3)) = some x0 := hf 0 _ rfl
  have f1 : DataW.trod enc Try.prog W 0 (fun _ => true) true n 3 (([v0, v1, v2, v3, v4].drop 1).take (Try.prog.cellsOf 3)) = some x1 := hf 1 _ rfl
  have f2 : DataW.trod enc Try.prog W 0 (fun _ => true) true n 3 (([v0, v1, v2, v3, v4].drop 2).take (Try.prog.cellsOf 3)) = some x2 := hf 2 _ rfl
  have f3 : DataW.trod enc Try.prog W 0 (fun _ => true) true n 3 (([v0, v1, v2, v3, v4].drop 3).take (Try.prog.cellsOf 3)) = some x3 := hf 3 _ rfl
  have f4 : DataW.trod enc Try.prog W 0 (fun _ => true) true n 24 (([v0, v1, v2, v3, v4].drop 4).take (Try.prog.cellsOf 24)) = some x4 := hf 4 _ rfl
  rw [c3] at f0 f1 f2 f3
  rw [c24] at f4
  obtain ⟨n0, e0, -, -⟩ := DataW.trod_int Try.underlying3 f0
  obtain ⟨n1, e1, -, -⟩ := DataW.trod_int Try.underlying3 f1
  obtain ⟨n2, e2, -, -⟩ := DataW.trod_int Try.underlying3 f2
  obtain ⟨n3, e3, -, -⟩ := DataW.trod_int Try.underlying3 f3
  obtain ⟨v, l, e4, hr, hw⟩ := open_rdb f4
  simp only [List.drop_zero, List.drop_succ_cons, List.take_succ_cons, List.take_zero, List.cons.injEq, and_true] at e0 e1 e2 e3 e4
  subst e0 e1 e2 e3 e4
  refine ⟨⟨n0, n1, n2, n3, l⟩, v4, rfl, hr, fun hh => hw fun m hm => hh m ?_⟩
  simp only [DataW.weights, Try.underlying50, List.map_cons, List.map_nil]
  exact DataW.weights_mem_each (j := 4) (t := 24) (d := x4.1) rfl rfl m hm

/-- A script, opened. -/
theorem open_script_cs {W : World} {fuel : Nat} {cs : List Value} {x : DataW H × List MemPlace} (h : DataW.trod enc Try.prog W 0 (fun _ => true) true fuel 38 cs = some x) (hw : ∀ n ∈ x.1.weights Try.prog 38, n ≤ reachBytes) :
    ∃ v os, cs = [v] ∧ ScriptAt W v os := by
  rcases Go.Deep.open_slice Try.underlying38 h with ⟨rfl, rfl⟩ | ⟨a, len, m, m', n, D, Pl, rfl, -, hl, hc, hmm, rfl, hx⟩
  · exact ⟨_, [], rfl, ⟨none, 0, rfl, by simp, by simp [maxLen], fun i o h => by simp at h⟩⟩
  obtain rfl : m' = m := by simpa using hmm
  have hx2 : ∀ i, i < len → ∃ o : OpD, ∃ vb, W.cells? 0 (a.add (i * 5)) 5 = some [.int .i64 o.kind, .int .i64 o.n, .int .i64 o.m, .int .i64 o.k, vb] ∧ RdB W vb o.bytes ∧ o.bytes.length ≤ 140737488351232 := by
    intro i hi
    obtain ⟨cs', h1, h2⟩ := hx i (by omega)
    obtain ⟨o, vb, rfl, h3, h4⟩ := open_op h2
    rw [c50] at h1
    refine ⟨o, vb, h1, h3, h4 fun k hk => hw k ?_⟩
    simp only [DataW.weights, Try.underlying38]
    refine List.mem_cons_of_mem _ (List.mem_append_left _ (weights_mem_all (d := D i) ?_ k hk))
    exact List.mem_map.2 ⟨i, by simpa using hi, rfl⟩
  have : Inhabited OpD := ⟨⟨0, 0, 0, 0, []⟩⟩
  obtain ⟨f, hf⟩ := Go.Deep.choose_lt hx2
  have hln : ((List.range len).map f).length = len := by simp
  refine ⟨_, (List.range len).map f, rfl, ⟨some a, m', by rw [hln], by omega, hc, fun i o hio => ?_⟩⟩
  have hi : i < len := by have := (List.getElem?_eq_some_iff.1 hio).1; omega
  have he : f i = o := by simpa [hi] using hio
  obtain ⟨vb, h1, h2, h3⟩ := hf i hi
  rw [he] at h1 h2 h3
  obtain ⟨-, -, hg⟩ := World.cells?_some h1
  have g0 := hg 0 (by simp)
  have g1 := hg 1 (by simp)
  have g2 := hg 2 (by simp)
  have g3 := hg 3 (by simp)
  have g4 := hg 4 (by simp)
  simp only [addr_add_add, Nat.add_zero] at g0 g1 g2 g3 g4
  exact ⟨a, vb, rfl, g0, g1, g2, g3, g4, h2, h3⟩

/-- A script as an argument. -/
theorem open_script {W : World} {v : Value} {d : DataW H} {ps : List MemPlace} (h : DataW.Trod enc Try.prog W 0 (fun _ => true) true 38 v d ps) (hv : ∃ a l c, v = .slice a l c) (hw : ∀ n ∈ d.weights Try.prog 38, n ≤ reachBytes) : ∃ os, ScriptAt W v os := by
  obtain ⟨a, l, c, rfl⟩ := hv
  obtain ⟨fuel, hf⟩ := h
  obtain ⟨v, os, e, hs⟩ := open_script_cs hf hw
  have : v = Value.slice a l c := by simpa [Value.cells] using e.symm
  subst this
  exact ⟨os, hs⟩

end
end Go.Proofs.Ytfnlemdlngdaiaa
