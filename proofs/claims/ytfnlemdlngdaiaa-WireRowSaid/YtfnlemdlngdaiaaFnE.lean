/-
  The wire's functions: Cut.
-/
import Derived.Test.YtfnlemdlngdaiaaFnD
import Derived.Test.YtfnlemdlngdaiaaOrd
namespace Go.Proofs.Ytfnlemdlngdaiaa
open Go.RowKit

set_option maxRecDepth 100000 in
set_option maxHeartbeats 1000000 in
theorem cut_any (W : Wr) (n len : Int) (w : World) (hW : WrOk w W) :
    Calls Try.prog 24 #[.pointer (some ⟨W.p, 0, none⟩), .int .i64 n, .int .i64 len] w (Does w W (.int .i64 (W.abs.cut n len).2) (W.abs.cut n len).1) := by
  unfold WA.cut
  rw [W.find_abs]
  cases hf : W.find n with
  | none =>
    have hp := Lib.hid (place_none W n w hW hf)
    replace hW := Lib.hid hW
    clear hf
    go_enter Try.func24, Try.ntmps24
    go_wp2_with (go_at_call 38; refine hp.out.mono ?_; rintro e w' ⟨rfl, rfl⟩)
    go_ret
    exact ⟨W, rfl, Onward.refl hW.out, rfl⟩
  | some i =>
    obtain ⟨m, hm, _, _, _⟩ := W.find_some hf
    simp only [W.get_abs hm]
    obtain ⟨g, cap, hrv, hi, _, _, _, hc⟩ := row_at hW hm
    have h0 := hW.cell0
    rw [hrv] at h0
    have hmem := List.mem_of_getElem? hm
    have hsm := hW.small m hmem
    obtain ⟨A, c, hmv, hlc, hcm, hA, hbk, hat⟩ := own_form (hW.byt m hmem)
    rw [hmv] at hc
    have hp := Lib.hid (place_some W n i w hW hf)
    have hlenW := hW.len
    by_cases h1 : len < 0
    · rw [if_pos (.inl h1)]
      replace hW := Lib.hid hW
      clear hf hm hat hrv hmv hA hbk hmem
      generalize W.ms.length = ln at *
      go_enter Try.func24, Try.ntmps24
      go_wp2_with (go_at_call 38; refine hp.out.mono ?_; rintro e w' ⟨rfl, rfl⟩)
      go_ret
      exact ⟨W, rfl, Onward.refl hW.out, rfl⟩
    · by_cases h2 : (m.l.length : Int) < len
      · rw [if_pos (.inr h2)]
        replace hW := Lib.hid hW
        clear hf hm hat hrv hmv hA hbk hmem
        generalize W.ms.length = ln at *
        generalize m.l.length = ln2 at *
        go_enter Try.func24, Try.ntmps24
        go_wp2_with (go_at_call 38; refine hp.out.mono ?_; rintro e w' ⟨rfl, rfl⟩)
        go_ret
        exact ⟨W, rfl, Onward.refl hW.out, rfl⟩
      · rw [if_neg (by omega)]
        obtain ⟨k, rfl⟩ := Int.eq_ofNat_of_zero_le (Int.not_lt.1 h1)
        have hk : k ≤ m.l.length := by omega
        have hfr : w.frozen? ⟨g, i * 2 + 1, none⟩ = false := World.ownsRow.frozenAt (by have := hW.row; rw [hrv] at this; exact this) _
        have hcm' : c ≤ 9223372036854775807 := by simp only [maxLen] at hcm; omega
        have hkc : k ≤ c := by omega
        clear h1 h2 hcm
        replace hW := Lib.hid hW
        replace hm := Lib.hid hm
        replace hmv := Lib.hid hmv
        replace hA := Lib.hid hA
        replace hbk := Lib.hid hbk
        replace hrv := Lib.hid hrv
        clear hf hat hmem
        generalize hl1 : W.ms.length = ln at *
        generalize hl2 : m.l.length = ln2 at *
        replace hl1 := Lib.hid hl1
        replace hl2 := Lib.hid hl2
        go_enter Try.func24, Try.ntmps24
        go_wp2_with (go_at_call 38; refine hp.out.mono ?_; rintro e w' ⟨rfl, rfl⟩)
        have hS : w.drew.cell? ⟨W.p, 0, none⟩ = some (.slice (some ⟨g, 0, none⟩) ln cap) ∧ w.drew.cell? ⟨g, i * 2 + 1, none⟩ = some (.slice A ln2 c) := ⟨h0, hc⟩
        refine wp_region_L (n := 18) (fun w' : World => w'.cell? ⟨W.p, 0, none⟩ = some (.slice (some ⟨g, 0, none⟩) ln cap) ∧ w'.cell? ⟨g, i * 2 + 1, none⟩ = some (.slice A ln2 c)) [] [0, 1, 2, 3, 4, 5, 6, 7, 8, 9, 10, 11, 12, 13, 14, 15, 16] (by kernel_rfl) rfl ?_
        refine AnyL.pure (i := 0) (v := ?_) (some 33) rfl rfl (by kernel_rfl) (by kernel_rfl) (by kernel_rfl) rfl (fun _ _ _ h => h) (by rfl) (fun ww => ?_) ?_; rotate_left; · (go_simp; (try with_reducible rfl))
        refine AnyL.pure (i := 1) (v := ?_) (some 34) rfl rfl (by kernel_rfl) (by kernel_rfl) (by kernel_rfl) rfl (fun _ _ _ h => h) (by rfl) (fun ww => ?_) ?_; rotate_left; · (go_simp; (try with_reducible rfl))
        refine AnyL.pure (i := 2) (v := ?_) (some 35) rfl rfl (by kernel_rfl) (by kernel_rfl) (by kernel_rfl) rfl (fun _ _ _ h => h) (by rfl) (fun ww => ?_) ?_; rotate_left; · (go_simp; (try with_reducible rfl))
        refine AnyL.take (i := 3) (v := ?_) (some 36) rfl rfl (by kernel_rfl) (by kernel_rfl) (by kernel_rfl) rfl (by kernel_rfl) (fun _ _ _ h => h) (by rfl) (fun ww hww => ?_) hS ?_; rotate_left; · (obtain ⟨hs0, hs1⟩ := hww; go_simp; (try with_reducible rfl))
        refine AnyL.pure (i := 4) (v := ?_) (some 37) rfl rfl (by kernel_rfl) (by kernel_rfl) (by kernel_rfl) rfl (fun _ _ _ h => h) (by rfl) (fun ww => ?_) ?_; rotate_left; · (go_simp; (try with_reducible rfl))
        refine AnyL.pure (i := 5) (v := ?_) (some 38) rfl rfl (by kernel_rfl) (by kernel_rfl) (by kernel_rfl) rfl (fun _ _ _ h => h) (by rfl) (fun ww => ?_) ?_; rotate_left; · (go_simp; (try with_reducible rfl))
        refine AnyL.pure (i := 6) (v := ?_) (some 39) rfl rfl (by kernel_rfl) (by kernel_rfl) (by kernel_rfl) rfl (fun _ _ _ h => h) (by rfl) (fun ww => ?_) ?_; rotate_left; · (go_simp; (try with_reducible rfl))
        refine AnyL.pure (i := 7) (v := ?_) (some 40) rfl rfl (by kernel_rfl) (by kernel_rfl) (by kernel_rfl) rfl (fun _ _ _ h => h) (by rfl) (fun ww => ?_) ?_; rotate_left; · (go_simp; (try with_reducible rfl))
        refine AnyL.take (i := 8) (v := ?_) (some 41) rfl rfl (by kernel_rfl) (by kernel_rfl) (by kernel_rfl) rfl (by kernel_rfl) (fun _ _ _ h => h) (by rfl) (fun ww hww => ?_) hS ?_; rotate_left; · (obtain ⟨hs0, hs1⟩ := hww; go_simp; (try with_reducible rfl))
        refine AnyL.pure (i := 9) (v := ?_) (some 42) rfl rfl (by kernel_rfl) (by kernel_rfl) (by kernel_rfl) rfl (fun _ _ _ h => h) (by rfl) (fun ww => ?_) ?_; rotate_left; · (go_simp; (try with_reducible rfl))
        refine AnyL.pure (i := 10) (v := ?_) (some 43) rfl rfl (by kernel_rfl) (by kernel_rfl) (by kernel_rfl) rfl (fun _ _ _ h => h) (by rfl) (fun ww => ?_) ?_; rotate_left; · (go_simp; (try with_reducible rfl))
        refine AnyL.pure (i := 11) (v := ?_) (some 44) rfl rfl (by kernel_rfl) (by kernel_rfl) (by kernel_rfl) rfl (fun _ _ _ h => h) (by rfl) (fun ww => ?_) ?_; rotate_left; · (go_simp; (try with_reducible rfl))
        refine AnyL.take (i := 12) (v := ?_) (some 45) rfl rfl (by kernel_rfl) (by kernel_rfl) (by kernel_rfl) rfl (by kernel_rfl) (fun _ _ _ h => h) (by rfl) (fun ww hww => ?_) hS ?_; rotate_left; · (obtain ⟨hs0, hs1⟩ := hww; go_simp; (try with_reducible rfl))
        refine AnyL.pure (i := 13) (v := ?_) (some 46) rfl rfl (by kernel_rfl) (by kernel_rfl) (by kernel_rfl) rfl (fun _ _ _ h => h) (by rfl) (fun ww => ?_) ?_; rotate_left; · (go_simp; (try with_reducible rfl))
        refine AnyL.pure (i := 14) (v := ?_) (some 47) rfl rfl (by kernel_rfl) (by kernel_rfl) (by kernel_rfl) rfl (fun _ _ _ h => h) (by rfl) (fun ww => ?_) ?_; rotate_left; · (go_simp; (try with_reducible rfl))
        refine AnyL.pure (i := 15) (v := ?_) (some 48) rfl rfl (by kernel_rfl) (by kernel_rfl) (by kernel_rfl) rfl (fun _ _ _ h => h) (by rfl) (fun ww => ?_) ?_; rotate_left; · (go_simp; (try with_reducible rfl))
        refine AnyL.pure (i := 16) (v := ?_) (some 49) rfl rfl (by kernel_rfl) (by kernel_rfl) (by kernel_rfl) rfl (fun _ _ _ h => h) (by rfl) (fun ww => ?_) ?_; rotate_left; · (go_simp; (try with_reducible rfl))
        simp only [Act.put, List.setIfInBounds_toArray]; try simp only [List.set_cons_zero, List.set_cons_succ]
        refine AnyL.last (i := 17) (by kernel_rfl) rfl rfl rfl (fun K hK => ?_)
        go_simp
        refine hK _ _ ?_; clear hK K
        refine AnyL.done (by kernel_rfl) ?_
        go_wp2
        go_ret
        exact ⟨_, rfl, hW.out.cutTo hm.out hrv.out hl1.out (by rw [hl2.out]; exact hmv.out) (by rw [hl2.out]; exact hk), W.abs_set hm.out _ _⟩

end Go.Proofs.Ytfnlemdlngdaiaa
