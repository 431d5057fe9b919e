/-
  The law WireBack returns true: the statement Rows.WireBackSaid as given, without any condition of ours.
-/
import Derived.Test.YtfnlemdlngdaiaaLawD
import Derived.Test.YtfnlemdlngdaiaaOpn
namespace Go.Proofs.Ytfnlemdlngdaiaa
open Go.ChangeShapes Go.WideShapes Go.ChangeAt Go.RowKit

theorem open_turn {H : Type} {enc : TypeId × Value → H} {W : World} {v : Value} {d : DataW H} {ps : List MemPlace} (h : DataW.Trod enc Try.prog W 0 (fun _ => true) true 59 v d ps) (hv : ∃ cs, v = .agg cs ∧ cs.size = Try.prog.cellsOf 59)
    (hw : ∀ n ∈ d.weights Try.prog 59, n ≤ reachBytes) : ∃ s n m a b os, v = .agg #[s, .int .i64 n, .int .i64 m, .int .i64 a, .int .i64 b] ∧ ScriptAt W s os := by
  obtain ⟨cs, rfl, hcs⟩ := hv
  obtain ⟨fuel, hf⟩ := h
  obtain ⟨xs, n, -, he, hcl, hxl, hfs⟩ := DataW.trod_struct Try.underlying59 hf
  simp only [Prod.mk.injEq] at he
  obtain ⟨rfl, rfl⟩ := he
  rw [c59] at hcs
  obtain ⟨v0, v1, v2, v3, v4, rfl⟩ : ∃ v0 v1 v2 v3 v4, cs = #[v0, v1, v2, v3, v4] := by
    obtain ⟨l⟩ := cs
    match l, hcs with
    | [v0, v1, v2, v3, v4], _ => exact ⟨_, _, _, _, _, rfl⟩
  obtain ⟨x0, x1, x2, x3, x4, rfl⟩ : ∃ x0 x1 x2 x3 x4, xs = [x0, x1, x2, x3, x4] := by
    match xs, hxl with
    | [x0, x1, x2, x3, x4], _ => exact ⟨_, _, _, _, _, rfl⟩
  have f0 : DataW.trod enc Try.prog W 0 (fun _ => true) true n 38 (([v0, v1, v2, v3, v4].drop 0).take (Try.prog.cellsOf 38)) = some x0 := hfs 0 _ rfl
  have f1 : DataW.trod enc Try.prog W 0 (fun _ => true) true n 3 (([v0, v1, v2, v3, v4].drop 1).take (Try.prog.cellsOf 3)) = some x1 := hfs 1 _ rfl
  have f2 : DataW.trod enc Try.prog W 0 (fun _ => true) true n 3 (([v0, v1, v2, v3, v4].drop 2).take (Try.prog.cellsOf 3)) = some x2 := hfs 2 _ rfl
  have f3 : DataW.trod enc Try.prog W 0 (fun _ => true) true n 3 (([v0, v1, v2, v3, v4].drop 3).take (Try.prog.cellsOf 3)) = some x3 := hfs 3 _ rfl
  have f4 : DataW.trod enc Try.prog W 0 (fun _ => true) true n 3 (([v0, v1, v2, v3, v4].drop 4).take (Try.prog.cellsOf 3)) = some x4 := hfs 4 _ rfl
  rw [c3] at f1 f2 f3 f4
  rw [c38] at f0
  obtain ⟨n1, e1, -, -⟩ := DataW.trod_int Try.underlying3 f1
  obtain ⟨n2, e2, -, -⟩ := DataW.trod_int Try.underlying3 f2
  obtain ⟨n3, e3, -, -⟩ := DataW.trod_int Try.underlying3 f3
  obtain ⟨n4, e4, -, -⟩ := DataW.trod_int Try.underlying3 f4
  obtain ⟨s, os, e0, hs⟩ := open_script_cs f0 fun k hk => hw k (by
    simp only [DataW.weights, Try.underlying59, List.map_cons, List.map_nil]
    exact DataW.weights_mem_each (j := 0) (t := 38) (d := x0.1) rfl rfl k hk)
  simp only [List.drop_zero, List.drop_succ_cons, List.take_succ_cons, List.take_zero, List.cons.injEq, and_true] at e0 e1 e2 e3 e4
  subst e0 e1 e2 e3 e4
  exact ⟨v0, n1, n2, n3, n4, os, rfl, hs⟩

set_option maxRecDepth 100000 in
theorem wire_back_lifted (os : Os) (started : os.Started) (H : Type) (enc : TypeId × Value → H) :
    ReturnsInHanded {} Try.checked os 12 .any (Rows.wireBackSpec.pre6 enc Try.prog Try.f12 Rows.wireBackRow.domain false) (Rows.wireBackSpec.post enc Try.prog Try.f12 false true false false) := by
  refine returnsInHanded_of_change_sized (C := Try.checked) Try.own started (by kernel_rfl) Try.func12
    (ChangeSpec.witness6 (enc := enc) (C := Try.checked) false ⟨#[], #[.agg #[.slice none 0 0, .int .i64 0, .int .i64 0, .int .i64 0, .int .i64 0]], []⟩ 8 (by kernel_rfl) (by kernel_rfl) (by kernel_rfl) (by kernel_rfl)) ?_
  intro W base args ds gs before hval0 hW hcnd hsz _
  have hval : ∀ (j : Nat) t v, Try.f12.params[j]? = some t → args[j]? = some v → Value.okWide Try.prog W .any base t v := hval0
  have hW' := hW
  obtain ⟨p, q, hA0, hV, rfl, hfz, hnd⟩ := hW
  have hA : DataW.TrodAll enc Try.prog W 0 (fun _ => true) true Try.f12.params.toList args.toList ds p := hA0
  rw [Try.params12] at hA hval hsz
  obtain ⟨v0, vs0, d0, ds0, p0, q0, hargs, rfl, rfl, h0, r0⟩ := trodAll_cons hA
  obtain ⟨rfl, rfl, rfl⟩ := trodAll_nil r0
  obtain rfl : args = #[v0] := by cases args; simp_all
  obtain ⟨rfl, rfl⟩ := trodVars_none hV
  obtain ⟨s, n, m, a, b, os, rfl, hs⟩ := open_turn h0 (okWide_struct Try.underlying59 (hval 0 59 v0 rfl rfl)) fun k hk => by
    simpa using List.all_eq_true.1 hsz k (DataW.weights_mem_each (j := 0) (t := 59) (d := d0) rfl rfl k hk)
  refine (back_true s n m a b os W hs).mono fun e W' ⟨he, hb⟩ => ?_
  subst he
  exact ⟨_, rfl, post_true rfl rfl rfl (by rw [Try.params12]; exact List.forall_mem_cons.2 ⟨rd59, fun _ h => by cases h⟩) hW' hb⟩

theorem wire_back : Rows.WireBackSaid :=
  OpenClaim.holds_of_wide 12 Try.f12 rfl rfl rfl rfl rfl rfl rfl ⟨rfl, rfl, rfl, rfl, rfl⟩ rfl rfl rfl rfl rfl (by kernel_rfl) Try.func12 (by kernel_rfl)
    (of_decide_eq_true (by kernel_rfl)) (by unfold Func.isWrapper; first | (rw [if_pos (by decide +kernel)]; kernel_rfl) | (rw [if_neg (by decide +kernel)]; exact ⟨rfl, rfl⟩))
    (fun os started H enc _ => wire_back_lifted os started H enc)

#print axioms wire_back
end Go.Proofs.Ytfnlemdlngdaiaa
