/-
  What the row hands in, opened: the secret, the names, the two laid tables.
-/
import Derived.Test.YtedaapcmcimepaaGreatDoorMks
import Derived.Test.YtedaapcmcimepaaGreatDoorRows
import Derived.WalkKit
import Derived.ProofKit
import Derived.OpenShut
import Derived.Deep.Slices
import Derived.SizedLaws
import Derived.SliceStrings
import Derived.LaidMore
import Derived.LaidHandle
import Derived.MakeChecks
namespace Go.Proofs.YtedaapcmcimepaaGreatDoor
open Go.ChangeShapes Go.WideShapes Go.ChangeAt Go.RowKit

theorem Tryz.own : ownKnob Tryz.prog.godebug = none := by kernel_rfl
theorem Tryz.laidOut : laidOutB Tryz.prog = true := by kernel_rfl
theorem c5 : Tryz.prog.cellsOf 5 = 1 := by kernel_rfl
theorem b5 : Tryz.prog.bytesOf 5 = 1 := by kernel_rfl
theorem c9 : Tryz.prog.cellsOf 9 = 1 := by kernel_rfl
theorem c50 : Tryz.prog.cellsOf 50 = 1 := by kernel_rfl
theorem c162 : Tryz.prog.cellsOf 162 = 64 := by kernel_rfl
theorem c131 : Tryz.prog.cellsOf 131 = 8 := by kernel_rfl
theorem rd22 : Tryz.prog.readableRec 22 = true ∧ 22 < Tryz.prog.types.size := ⟨by kernel_rfl, of_decide_eq_true (by kernel_rfl)⟩
theorem rd23 : Tryz.prog.readableRec 23 = true ∧ 23 < Tryz.prog.types.size := ⟨by kernel_rfl, of_decide_eq_true (by kernel_rfl)⟩
theorem rd9 : Tryz.prog.readableRec 9 = true ∧ 9 < Tryz.prog.types.size := ⟨by kernel_rfl, of_decide_eq_true (by kernel_rfl)⟩
theorem gRounds : Tryz.prog.globalNamed "hearsay/digest.rounds" = some 2 := by kernel_rfl
theorem gFirst : Tryz.prog.globalNamed "hearsay/digest.first" = some 0 := by kernel_rfl
theorem tRounds : (Tryz.prog.globals[2]?).map (·.type) = some 162 := by kernel_rfl
theorem tFirst : (Tryz.prog.globals[0]?).map (·.type) = some 131 := by kernel_rfl

section
variable {H : Type} {enc : TypeId × Value → H}

theorem byte_of {n : Int} (h : (Lit.int .u8 n).wf = true) : ∃ b : UInt8, (b.toNat : Int) = n := by
  simp only [Lit.wf, Bool.and_eq_true, decide_eq_true_eq] at h
  obtain ⟨h1, h2⟩ := h
  have h3 : (0 : Int) ≤ n := h1
  have h4 : n ≤ 255 := h2
  refine ⟨UInt8.ofNat n.toNat, ?_⟩
  have : n.toNat < 256 := by omega
  rw [UInt8.toNat_ofNat']
  omega

theorem bytes_of : ∀ (zs : List Int), (∀ n ∈ zs, (Lit.int .u8 n).wf = true) → ∃ l : List UInt8, l.map (fun b => (b.toNat : Int)) = zs
  | [], _ => ⟨[], rfl⟩
  | z :: zs, h => by
    obtain ⟨b, hb⟩ := byte_of (h z (by simp))
    obtain ⟨l, hl⟩ := bytes_of zs fun n hn => h n (by simp [hn])
    exact ⟨b :: l, by simp [hb, hl]⟩

/-- Bytes in memory, opened: they read as a list; and its length is in reach where the datum's is. -/
theorem open_rdb {W : World} {fuel : Nat} {cs : List Value} {x : DataW H × List MemPlace} (h : DataW.trod enc Tryz.prog W 0 (fun _ => true) true fuel 22 cs = some x) :
    ∃ v l, cs = [v] ∧ RdB W v l ∧ ((∀ n ∈ x.1.weights Tryz.prog 22, n ≤ reachBytes) → l.length ≤ 140737488351232) := by
  rcases open_ints Tryz.underlying22 Tryz.underlying5 c5 h with ⟨rfl, rfl⟩ | ⟨a, len, cap, zs, rfl, -, hl, hc, hzl, rfl, hz, hwf⟩
  · exact ⟨_, [], rfl, RdB.nil W, fun _ => by simp⟩
  simp only [if_true] at hzl
  obtain ⟨lz, hlz⟩ := bytes_of zs hwf
  have hlzl : lz.length = cap := by rw [← hzl, ← hlz]; simp
  have htl : (lz.take len).length = len := by rw [List.length_take]; omega
  refine ⟨_, lz.take len, rfl, ?_, ?_⟩
  · refine ⟨by rw [bvs_length]; omega, some a, cap, by rw [htl], by omega, hc, (fun h => by cases h), (fun j u hj => ⟨a, rfl, ?_⟩)⟩
    have hjl : j < len := by
      have := (List.getElem?_eq_some_iff.1 hj).1
      rw [bvs_length] at this
      omega
    rw [hz j (by omega)]
    rw [bvs, List.getElem?_map, List.getElem?_take, if_pos hjl, List.getElem?_eq_getElem (by omega)] at hj
    simp only [Option.map_some, Option.some.injEq] at hj
    rw [← hj]
    have hzd : zs[j]? = some (((lz[j]'(by omega)).toNat : Nat) : Int) := by
      have := congrArg (·[j]?) hlz
      simp only [List.getElem?_map, List.getElem?_eq_getElem (show j < lz.length by omega), Option.map_some] at this
      exact this.symm
    rw [List.getD, hzd]
    rfl
  · intro hw
    have h1 := hw (((lits (H := H) .u8 (zs.take len)).length + (lits (H := H) .u8 (zs.drop len)).length) * Tryz.prog.bytesOf 5) (by simp [DataW.weights, Tryz.underlying22])
    rw [b5] at h1
    have h2 : (lits (H := H) .u8 (zs.take len)).length = len := by simp [lits]; omega
    simp only [reachBytes] at h1
    rw [htl]
    omega

theorem str_of (s : ByteArray) : str s.data.toList = .string s := rfl

/-- Names in memory, opened. -/
theorem open_names {W : World} {fuel : Nat} {cs : List Value} {x : DataW H × List MemPlace} (h : DataW.trod enc Tryz.prog W 0 (fun _ => true) true fuel 23 cs = some x) :
    ∃ v ss, cs = [v] ∧ RdC W v 1 ss.length (strs ss) ∧ ∀ t ∈ ss, t.length ≤ maxLen := by
  rcases open_strings Tryz.underlying23 Tryz.underlying9 c9 h with ⟨rfl, rfl⟩ | ⟨a, len, cap, ss, rfl, -, hl, hc, hzl, rfl, hz, hwf⟩
  · exact ⟨_, [], rfl, RdC.nil W 1 0 (by simp [maxLen]), fun t ht => by simp at ht⟩
  simp only [if_true] at hzl
  have htl : ((ss.take len).map fun s => s.data.toList).length = len := by rw [List.length_map, List.length_take]; omega
  refine ⟨_, (ss.take len).map fun s => s.data.toList, rfl, ⟨by rw [strs_length, Nat.mul_one], some a, cap, by rw [htl], by omega, hc, (fun h => by cases h), (fun j u hj => ⟨a, rfl, ?_⟩)⟩, ?_⟩
  · have hjl : j < len := by
      have := (List.getElem?_eq_some_iff.1 hj).1
      rw [strs_length] at this
      omega
    rw [hz j (by omega)]
    unfold strs at hj
    rw [List.getElem?_map, List.getElem?_map, List.getElem?_take, if_pos hjl, List.getElem?_eq_getElem (by omega)] at hj
    simp only [Option.map_some, Option.some.injEq] at hj
    rw [← hj, List.getD, List.getElem?_eq_getElem (by omega)]
    rfl
  · intro t ht
    obtain ⟨s, hs, rfl⟩ := List.mem_map.1 ht
    have := hwf s (List.mem_of_mem_take hs)
    exact this
end

/-- A table of words that reads as a datum is a block of words. -/
theorem words_of {W : World} {t : TypeId} {n fuel : Nat} {cs : Array Value} {x : DataW Unit × List MemPlace} (ht : Tryz.prog.underlying t = some (.array n 50)) (hc : Tryz.prog.cellsOf t = n)
    (h : DataW.trod (fun _ => ()) Tryz.prog W 0 (fun _ => true) false fuel t cs.toList = some x) : W32s cs n := by
  obtain ⟨xs, m, -, -, hl, hn, hel⟩ := DataW.trod_array ht h
  rw [hc, Array.length_toList] at hl
  refine ⟨hl, fun j u hj => ?_⟩
  have hjn : j < n := by have := (Array.getElem?_eq_some_iff.1 hj).1; omega
  have h1 := hel j hjn
  rw [c50, Nat.mul_one, List.getElem?_eq_getElem (by omega)] at h1
  obtain ⟨k, e1, -, -⟩ := DataW.trod_int Tryz.underlying50 h1
  have h2 : (cs.toList.drop j)[0]? = some u := by rw [List.getElem?_drop, Nat.add_zero, Array.getElem?_toList]; exact hj
  have h3 : ((cs.toList.drop j).take 1)[0]? = some u := by rw [List.getElem?_take, if_pos (by omega)]; exact h2
  rw [e1] at h3
  exact ⟨k, (Option.some.inj h3).symm⟩

theorem blk_of_var {W : World} {n : String} {g : Nat} {cs : Array Value} (hg : Tryz.prog.globalNamed n = some g) (hv : W.var? Tryz.prog n = some cs) {c : Array Value} {t : TypeId} (hb : W.heap[g]? = some (.cells c t (0, 0))) : Blk W g t cs := by
  unfold World.var? at hv
  rw [hg] at hv
  simp only [Option.bind_some, hb, Option.some.injEq] at hv
  subst hv
  exact hb

/-- What the row's condition gives the walk. -/
theorem tabs_of_laid {W : World} (h : laidMetH Tryz.prog Rows.contextMakesRow.laid W) : Tabs W := by
  rw [MakeChecks.laidMetH_plain _ _ _ (by kernel_rfl)] at h
  obtain ⟨ps, ⟨g0, t0, cs0, f0, p0, q0, hg0, ht0, hv0, hd0, ⟨g1, t1, cs1, f1, p1, q1, hg1, ht1, hv1, hd1, -, hq0⟩, hps⟩, -, hcond⟩ := h
  obtain rfl := Option.some.inj (gRounds.symm.trans hg0)
  obtain rfl := Option.some.inj (gFirst.symm.trans hg1)
  obtain rfl := Option.some.inj (tRounds.symm.trans ht0)
  obtain rfl := Option.some.inj (tFirst.symm.trans ht1)
  have w0 := words_of Tryz.underlying162 c162 hd0
  have w1 := words_of Tryz.underlying131 c131 hd1
  subst hq0
  subst hps
  obtain ⟨⟨c, t, hb0⟩, -⟩ := hcond 2 0 (by
    refine List.mem_append.2 (.inl (List.mem_append.2 (.inl (MemPlace.mem_row.2 ⟨0, by rw [w0.1]; omega, rfl⟩))))
    )
  obtain ⟨⟨c', t', hb1⟩, -⟩ := hcond 0 0 (by
    refine List.mem_append.2 (.inr (List.mem_append.2 (.inl (List.mem_append.2 (.inl (MemPlace.mem_row.2 ⟨0, by rw [w1.1]; omega, rfl⟩))))))
    )
  exact ⟨⟨cs0, t, blk_of_var gRounds hv0 hb0, w0⟩, cs1, t', blk_of_var gFirst hv1 hb1, w1⟩
end Go.Proofs.YtedaapcmcimepaaGreatDoor
