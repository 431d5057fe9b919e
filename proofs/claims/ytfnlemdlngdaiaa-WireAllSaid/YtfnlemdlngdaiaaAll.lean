/-
  The law WireAll returns true: the statement Rows.WireAllSaid as given, without any condition of ours.
-/
import Derived.Test.YtfnlemdlngdaiaaLawH
import Derived.Test.YtfnlemdlngdaiaaOpn
namespace Go.Proofs.Ytfnlemdlngdaiaa
open Go.ChangeShapes Go.WideShapes Go.ChangeAt Go.RowKit

set_option maxRecDepth 100000 in
theorem wire_all_lifted (os : Os) (started : os.Started) (H : Type) (enc : TypeId × Value → H) :
    ReturnsInHanded {} Try.checked os 10 .any (Rows.wireAllSpec.pre6 enc Try.prog Try.f10 Rows.wireAllRow.domain false) (Rows.wireAllSpec.post enc Try.prog Try.f10 false true false false) := by
  refine returnsInHanded_of_change_sized (C := Try.checked) Try.own started (by kernel_rfl) Try.func10
    (ChangeSpec.witness6 (enc := enc) (C := Try.checked) false ⟨#[], #[.slice none 0 0], []⟩ 8 (by kernel_rfl) (by kernel_rfl) (by kernel_rfl) (by kernel_rfl)) ?_
  intro W base args ds gs before hval0 hW hcnd hsz _
  have hval : ∀ (j : Nat) t v, Try.f10.params[j]? = some t → args[j]? = some v → Value.okWide Try.prog W .any base t v := hval0
  have hW' := hW
  obtain ⟨p, q, hA0, hV, rfl, hfz, hnd⟩ := hW
  have hA : DataW.TrodAll enc Try.prog W 0 (fun _ => true) true Try.f10.params.toList args.toList ds p := hA0
  rw [Try.params10] at hA hval hsz
  obtain ⟨v0, vs0, d0, ds0, p0, q0, hargs, rfl, rfl, h0, r0⟩ := trodAll_cons hA
  obtain ⟨rfl, rfl, rfl⟩ := trodAll_nil r0
  obtain rfl : args = #[v0] := by cases args; simp_all
  obtain ⟨rfl, rfl⟩ := trodVars_none hV
  obtain ⟨os, hs⟩ := open_script h0 (okWide_slice Try.underlying38 (hval 0 38 v0 rfl rfl)) fun k hk => by
    simpa using List.all_eq_true.1 hsz k (DataW.weights_mem_each (j := 0) (t := 38) (d := d0) rfl rfl k hk)
  refine (all_true v0 os W hs).mono fun e W' ⟨he, hb⟩ => ?_
  subst he
  exact ⟨_, rfl, post_true rfl rfl rfl (by rw [Try.params10]; exact List.forall_mem_cons.2 ⟨rd38, fun _ h => by cases h⟩) hW' hb⟩

theorem wire_all : Rows.WireAllSaid :=
  OpenClaim.holds_of_wide 10 Try.f10 rfl rfl rfl rfl rfl rfl rfl ⟨rfl, rfl, rfl, rfl, rfl⟩ rfl rfl rfl rfl rfl (by kernel_rfl) Try.func10 (by kernel_rfl)
    (of_decide_eq_true (by kernel_rfl)) (by unfold Func.isWrapper; first | (rw [if_pos (by decide +kernel)]; kernel_rfl) | (rw [if_neg (by decide +kernel)]; exact ⟨rfl, rfl⟩))
    (fun os started H enc _ => wire_all_lifted os started H enc)

#print axioms wire_all
end Go.Proofs.Ytfnlemdlngdaiaa
