/-
  The law ContextMakes returns true: the card ContextMakesCardSaid as given, its two listed tables tied to the program's text, without any condition of ours.
-/
import Derived.Test.YtedaapcmcimepaaGreatDoorMak
import Derived.Test.YtedaapcmcimepaaGreatDoorTie
import Derived.Test.YtedaapcmcimepaaGreatDoorCards
import Derived.SevenTiedAt
namespace Go.Proofs.YtedaapcmcimepaaGreatDoor
open Go

theorem context_makes : Rows.ContextMakesCardSaid :=
  Claim7.holds_tied_plain_at .later [] [.data, .data] true (true, "c535c3cbbbfbc09267ddb0f05bfd120da522ab47d0cfb4401a2b70fd86512cfc") false
    context_makes_row (fun _ h => by cases h) (by kernel_rfl) (fun _ h => by cases h) contextMakes_row_tie rfl ⟨rfl, rfl⟩ (by kernel_rfl) rfl
    (fun f fn hf hfn => by
      obtain rfl : f = 3 := Option.some.inj ((show Tryz.prog.funcNamed "hearsay/hearsaylaw20.ContextMakes" = some 3 by kernel_rfl).symm.trans hf) |>.symm
      obtain rfl : fn = Tryz.f3 := (Option.some.inj (Tryz.func3.symm.trans hfn)).symm
      exact ⟨by kernel_rfl, fun j t ht => by
        rw [Tryz.params3] at ht
        have hm : t ∈ [22, 23, 9] := by simpa using Array.mem_of_getElem? ht
        have hall : ([22, 23, 9].all fun u => !Tryz.prog.wantsStandIn u) = true := by kernel_rfl
        exact (show Tryz.prog.wantsStandIn t = false by simpa using List.all_eq_true.1 hall t hm)⟩)
    (by kernel_rfl)

#print axioms context_makes
end Go.Proofs.YtedaapcmcimepaaGreatDoor
