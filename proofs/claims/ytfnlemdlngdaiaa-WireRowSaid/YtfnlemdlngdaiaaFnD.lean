/-
  The wire's functions: Flip, Cut.
-/
import Derived.Test.YtfnlemdlngdaiaaFnC
namespace Go.Proofs.Ytfnlemdlngdaiaa
open Go.RowKit

theorem Wr.abs_set {W : Wr} {i : Nat} {m : Msg} (hm : W.ms[i]? = some m) (v' : Value) (l' : List UInt8) : Wr.abs { W with ms := W.ms.set i ⟨m.N, v', l'⟩ } = W.abs.setB i l' := by
  unfold WA.setB
  rw [W.get_abs hm]
  simp [Wr.abs, List.map_set]

theorem xor_low (b : UInt8) (x : Int) : Value.int .u8 (Go.bits .xor .u8 (b.toNat : Int) (x % 256)) = bv (b ^^^ WA.low x) := by
  obtain ⟨y, hy⟩ := Int.eq_ofNat_of_zero_le (Int.emod_nonneg x (by decide : (256 : Int) ≠ 0))
  have hlt : y < 256 := by
    have := Int.emod_lt_of_pos x (by decide : (0 : Int) < 256)
    omega
  unfold bv WA.low
  rw [hy, u8_xor_nat _ _ b.toNat_lt hlt, Int.toNat_natCast, UInt8.toNat_xor, UInt8.toNat_ofNat', Nat.mod_eq_of_lt hlt]

set_option maxRecDepth 100000 in
set_option maxHeartbeats 400000 in
theorem flip_any (W : Wr) (n at_ bits : Int) (w : World) (hW : WrOk w W) :
    Calls Try.prog 23 #[.pointer (some ⟨W.p, 0, none⟩), .int .i64 n, .int .i64 at_, .int .i64 bits] w (Does w W (.int .i64 (W.abs.flip n at_ bits).2) (W.abs.flip n at_ bits).1) := by
  unfold WA.flip
  rw [W.find_abs]
  cases hf : W.find n with
  | none =>
    have hp := Lib.hid (place_none W n w hW hf)
    replace hW := Lib.hid hW
    clear hf
    go_enter Try.func23, Try.ntmps23
    go_wp2_with (go_at_call 38; refine hp.out.mono ?_; rintro e w' ⟨rfl, rfl⟩)
    go_ret
    exact ⟨W, rfl, Onward.refl hW.out, rfl⟩
  | some i =>
    obtain ⟨m, hm, _, _, _⟩ := W.find_some hf
    simp only [W.get_abs hm]
    obtain ⟨g, cap, hrv, hi, _, _, _, hc⟩ := row_at hW hm
    have h0 := hW.cell0
    rw [hrv] at h0
    have hmem := List.mem_of_getElem? hm
    have hsm := hW.small m hmem
    obtain ⟨A, c, hmv, hlc, _, hA, hbk, hat⟩ := own_form (hW.byt m hmem)
    rw [hmv] at hc
    have hp := Lib.hid (place_some W n i w hW hf)
    have hlen := hW.len
    by_cases h1 : at_ < 0
    · rw [if_pos (.inl h1)]
      replace hW := Lib.hid hW
      clear hf hm hat hrv hmv hA hbk hmem
      generalize W.ms.length = len at *
      go_enter Try.func23, Try.ntmps23
      go_wp2_with (go_at_call 38; refine hp.out.mono ?_; rintro e w' ⟨rfl, rfl⟩)
      go_ret
      exact ⟨W, rfl, Onward.refl hW.out, rfl⟩
    · by_cases h2 : (m.l.length : Int) ≤ at_
      · rw [if_pos (.inr h2)]
        replace hW := Lib.hid hW
        clear hf hm hat hrv hmv hA hbk hmem
        generalize W.ms.length = len at *
        generalize m.l.length = len2 at *
        go_enter Try.func23, Try.ntmps23
        go_wp2_with (go_at_call 38; refine hp.out.mono ?_; rintro e w' ⟨rfl, rfl⟩)
        go_ret
        exact ⟨W, rfl, Onward.refl hW.out, rfl⟩
      · rw [if_neg (by omega)]
        obtain ⟨k, rfl⟩ := Int.eq_ofNat_of_zero_le (Int.not_lt.1 h1)
        have hk : k < m.l.length := by omega
        obtain ⟨b, hb⟩ : ∃ b, m.l[k]? = some b := ⟨_, List.getElem?_eq_getElem hk⟩
        obtain ⟨bg, rfl, hcell⟩ := hat k _ (bvs_at hb)
        unfold bv at hcell
        have hfr : w.frozen? ⟨bg, k, none⟩ = false := World.ownsRow.frozenAt (by have := hW.byt m hmem; rw [hmv] at this; exact this) k
        clear h1 h2
        replace hW := Lib.hid hW
        replace hm := Lib.hid hm
        replace hmv := Lib.hid hmv
        clear hf hat hrv hA hbk hmem
        replace hb := Lib.hid hb
        generalize hl1 : W.ms.length = len at *
        generalize hl2 : m.l.length = len2 at *
        have hmv' : m.v = .slice (some ⟨bg, 0, none⟩) m.l.length c := by rw [hl2]; exact hmv.out
        replace hmv' := Lib.hid hmv'
        clear hl1 hl2
        go_enter Try.func23, Try.ntmps23
        go_wp2_with (go_at_call 38; refine hp.out.mono ?_; rintro e w' ⟨rfl, rfl⟩)
        go_ret
        rw [xor_low]
        have hx : (b ^^^ WA.low bits) = m.l.getD k 0 ^^^ WA.low bits := by rw [List.getD_eq_getElem?_getD, hb.out]; rfl
        rw [hx]
        exact ⟨_, rfl, hW.out.flip hm.out hmv'.out, W.abs_set hm.out _ _⟩

end Go.Proofs.Ytfnlemdlngdaiaa
