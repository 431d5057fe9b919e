/-
  The reference's functions: behind, Next, Look, Take, Drop.
-/
import Derived.Test.YtfnlemdlngdaiaaRfA
import Derived.Test.YtfnlemdlngdaiaaOrd
namespace Go.Proofs.Ytfnlemdlngdaiaa
open Go.RowKit

def RA.aof (r : RA) (k : Nat) : Nat := (r.getD k ([], 0)).2
/-- The message with the least place above a among the first k; 0 if there is none. -/
def RA.behindTo (r : RA) (a : Nat) : Nat → Nat
  | 0 => 0
  | k + 1 => if a < r.aof k ∧ (r.behindTo a k = 0 ∨ r.aof k < r.aof (r.behindTo a k - 1)) then k + 1 else r.behindTo a k
def RA.behind (r : RA) (a : Nat) : Nat := r.behindTo a r.length
theorem RA.behindTo_le (r : RA) (a : Nat) : ∀ k, r.behindTo a k ≤ k
  | 0 => Nat.le_refl _
  | k + 1 => by
    have := r.behindTo_le a k
    unfold RA.behindTo
    split <;> omega
theorem Rf.aof_at {R : Rf} {k : Nat} {m : RMsg} (h : R.ms[k]? = some m) : R.abs.aof k = m.a := by
  unfold RA.aof Rf.abs
  rw [List.getD, List.getElem?_map, h]
  rfl
def TellsN (w : World) (n : Int) (e : Ending) (w' : World) : Prop := e = .returned (.int .i64 n) ∧ ∃ q, w' = w.drewN q

set_option maxRecDepth 100000 in
set_option maxHeartbeats 4000000 in
theorem behind_any (R : Rf) (a : Nat) (w : World) (hR : RfOk w R) : Calls Try.prog 52 #[.pointer (some ⟨R.p, 0, none⟩), .int .i64 a] w (TellsN w (R.abs.behind a)) := by
  obtain ⟨A, cap, hrv, hc1, hc2, c0, -, hat⟩ := hR.open_
  have hm := hR.most
  have haof : ∀ (k : Nat) (m : RMsg), R.ms[k]? = some m → R.abs.aof k = m.a := fun k m h => Rf.aof_at h
  unfold RA.behind
  rw [R.abs_length]
  obtain ⟨ln, hln⟩ : ∃ ln, ln = R.ms.length := ⟨_, rfl⟩
  have hget : ∀ k, k < ln → ∃ m, R.ms[k]? = some m ∧ m.a ≤ ln := fun k hk => ⟨R.ms[k]'(by omega), List.getElem?_eq_getElem (by omega), by have := hR.ats _ (List.getElem_mem (l := R.ms) (n := k) (by omega)); omega⟩
  rw [← hln] at hrv hc1 hm c0 ⊢
  replace hat := Lib.hid hat
  replace haof := Lib.hid haof
  replace hget := Lib.hid hget
  clear hR hln hrv
  generalize R.abs = r at haof ⊢
  simp only [maxLen] at hc2
  go_enter Try.func52, Try.ntmps52
  go_wp2_with fail
  go_loopw [5, 6] (fun n i wr => ∃ k q : Nat, k ≤ ln ∧ n = .int .i64 (r.behindTo a k) ∧ i = .int .i64 ((k : Int) + 1) ∧ wr = w.drewN q) (fun _ i _ => ln + 1 - (intOf i).toNat)
  case atStart => exact ⟨0, 0, Nat.zero_le _, rfl, rfl, rfl⟩
  case round =>
    obtain ⟨k, q, hk, rfl, rfl, rfl⟩ := hrel
    have hle := r.behindTo_le a k
    have hrec : r.behindTo a (k + 1) = if a < r.aof k ∧ (r.behindTo a k = 0 ∨ r.aof k < r.aof (r.behindTo a k - 1)) then k + 1 else r.behindTo a k := rfl
    replace hrec := Lib.hid hrec
    generalize hbt : r.behindTo a k = b at *
    have c0' : (w.drewN q).cell? ⟨R.p, 0, none⟩ = some (.slice A ln cap) := c0
    by_cases hlt : k < ln
    · obtain ⟨m, hmk, hma⟩ := hget.out k hlt
      obtain ⟨g, rfl, -, v1⟩ := hat.out k m hmk
      have hak := haof.out k m hmk
      rw [hak] at hrec
      generalize m.a = x at *
      clear hmk hak m
      have v1' : (w.drewN q).cell? ⟨g, k * 2 + 1, none⟩ = some (.int .i64 x) := v1
      have hkw : IntKind.i64.wrap (k : Int) = k := by rw [IntKind.wrap_i64]; omega
      have hk0 : (0 : Int) ≤ k := by omega
      have hkl : (k : Int) < ln := by omega
      go_wp2_with fail
      by_cases h1 : a < x
      · by_cases h2 : b = 0
        · subst h2
          have hrec2 : r.behindTo a (k + 1) = k + 1 := by rw [hrec.out, if_pos ⟨h1, .inl rfl⟩]
          replace hrec2 := Lib.hid hrec2
          clear hrec
          have hS : (w.drewN q).drew.cell? ⟨R.p, 0, none⟩ = some (.slice (some ⟨g, 0, none⟩) ln cap) ∧ (w.drewN q).drew.cell? ⟨g, k * 2 + 1, none⟩ = some (.int .i64 x) := ⟨c0, v1⟩
          refine wp_region_L (n := 36) (fun w' : World => w'.cell? ⟨R.p, 0, none⟩ = some (.slice (some ⟨g, 0, none⟩) ln cap) ∧ w'.cell? ⟨g, k * 2 + 1, none⟩ = some (.int .i64 x)) [] [0, 1, 2, 3, 4, 5, 6, 7, 8, 9, 10, 11, 12, 13, 14, 15, 16, 17, 18, 19, 20, 21, 22, 23, 24, 25, 26, 27, 28, 29, 30, 31, 32, 33, 34, 35] (by kernel_rfl) rfl ?_
          refine AnyL.pure (i := 0) (v := ?_) (some 16) rfl rfl (by kernel_rfl) (by kernel_rfl) (by kernel_rfl) rfl (fun _ _ _ h => h) (by rfl) (fun ww => ?_) ?_; rotate_left; · (go_simp; (try with_reducible rfl))
          refine AnyL.pure (i := 1) (v := ?_) (some 17) rfl rfl (by kernel_rfl) (by kernel_rfl) (by kernel_rfl) rfl (fun _ _ _ h => h) (by rfl) (fun ww => ?_) ?_; rotate_left; · (go_simp; (try with_reducible rfl))
          refine AnyL.pure (i := 2) (v := ?_) (some 18) rfl rfl (by kernel_rfl) (by kernel_rfl) (by kernel_rfl) rfl (fun _ _ _ h => h) (by rfl) (fun ww => ?_) ?_; rotate_left; · (go_simp; (try with_reducible rfl))
          refine AnyL.take (i := 3) (v := ?_) (some 19) rfl rfl (by kernel_rfl) (by kernel_rfl) (by kernel_rfl) rfl (by kernel_rfl) (fun _ _ _ h => h) (by rfl) (fun ww hww => ?_) hS ?_; rotate_left; · (obtain ⟨hs0, hs1⟩ := hww; go_simp; (try with_reducible rfl))
          refine AnyL.pure (i := 4) (v := ?_) (some 20) rfl rfl (by kernel_rfl) (by kernel_rfl) (by kernel_rfl) rfl (fun _ _ _ h => h) (by rfl) (fun ww => ?_) ?_; rotate_left; · (go_simp; (try with_reducible rfl))
          refine AnyL.pure (i := 5) (v := ?_) (some 21) rfl rfl (by kernel_rfl) (by kernel_rfl) (by kernel_rfl) rfl (fun _ _ _ h => h) (by rfl) (fun ww => ?_) ?_; rotate_left; · (go_simp; (try with_reducible rfl))
          refine AnyL.pure (i := 6) (v := ?_) (some 22) rfl rfl (by kernel_rfl) (by kernel_rfl) (by kernel_rfl) rfl (fun _ _ _ h => h) (by rfl) (fun ww => ?_) ?_; rotate_left; · (go_simp; (try with_reducible rfl))
          refine AnyL.pure (i := 7) (v := ?_) (some 23) rfl rfl (by kernel_rfl) (by kernel_rfl) (by kernel_rfl) rfl (fun _ _ _ h => h) (by rfl) (fun ww => ?_) ?_; rotate_left; · (go_simp; (try with_reducible rfl))
          refine AnyL.take (i := 8) (v := ?_) (some 24) rfl rfl (by kernel_rfl) (by kernel_rfl) (by kernel_rfl) rfl (by kernel_rfl) (fun _ _ _ h => h) (by rfl) (fun ww hww => ?_) hS ?_; rotate_left; · (obtain ⟨hs0, hs1⟩ := hww; go_simp; (try with_reducible rfl))
          refine AnyL.pure (i := 9) (v := ?_) (some 25) rfl rfl (by kernel_rfl) (by kernel_rfl) (by kernel_rfl) rfl (fun _ _ _ h => h) (by rfl) (fun ww => ?_) ?_; rotate_left; · (go_simp; (try with_reducible rfl))
          refine AnyL.pure (i := 10) (v := ?_) (some 26) rfl rfl (by kernel_rfl) (by kernel_rfl) (by kernel_rfl) rfl (fun _ _ _ h => h) (by rfl) (fun ww => ?_) ?_; rotate_left; · (go_simp; (try with_reducible rfl))
          refine AnyL.pure (i := 11) (v := ?_) (some 27) rfl rfl (by kernel_rfl) (by kernel_rfl) (by kernel_rfl) rfl (fun _ _ _ h => h) (by rfl) (fun ww => ?_) ?_; rotate_left; · (go_simp; (try with_reducible rfl))
          simp only [Act.put, List.setIfInBounds_toArray]; try simp only [List.set_cons_zero, List.set_cons_succ]
          refine AnyL.pure (i := 12) (v := ?_) (some 28) rfl rfl (by kernel_rfl) (by kernel_rfl) (by kernel_rfl) rfl (fun _ _ _ h => h) (by kernel_rfl) (fun ww => ?_) ?_; rotate_left; · (go_simp; (try with_reducible rfl))
          simp only [Act.put, List.setIfInBounds_toArray]; try simp only [List.set_cons_zero, List.set_cons_succ]
          refine AnyL.pure (i := 13) (v := ?_) (some 29) rfl rfl (by kernel_rfl) (by kernel_rfl) (by kernel_rfl) rfl (fun _ _ _ h => h) (by kernel_rfl) (fun ww => ?_) ?_; rotate_left; · (go_simp; (try with_reducible rfl))
          simp only [Act.put, List.setIfInBounds_toArray]; try simp only [List.set_cons_zero, List.set_cons_succ]
          refine AnyL.pure (i := 14) (v := ?_) (some 30) rfl rfl (by kernel_rfl) (by kernel_rfl) (by kernel_rfl) rfl (fun _ _ _ h => h) (by kernel_rfl) (fun ww => ?_) ?_; rotate_left; · (go_simp; (try with_reducible rfl))
          simp only [Act.put, List.setIfInBounds_toArray]; try simp only [List.set_cons_zero, List.set_cons_succ]
          refine AnyL.pass (i := 15) (some 31) rfl rfl (by kernel_rfl) (by kernel_rfl) (by kernel_rfl) rfl (fun _ _ _ h => h) (by kernel_rfl) ?_
          simp only [Act.put, List.setIfInBounds_toArray]; try simp only [List.set_cons_zero, List.set_cons_succ]
          refine AnyL.pass (i := 16) (some 32) rfl rfl (by kernel_rfl) (by kernel_rfl) (by kernel_rfl) rfl (fun _ _ _ h => h) (by kernel_rfl) ?_
          simp only [Act.put, List.setIfInBounds_toArray]; try simp only [List.set_cons_zero, List.set_cons_succ]
          refine AnyL.pass (i := 17) (some 33) rfl rfl (by kernel_rfl) (by kernel_rfl) (by kernel_rfl) rfl (fun _ _ _ h => h) (by kernel_rfl) ?_
          simp only [Act.put, List.setIfInBounds_toArray]; try simp only [List.set_cons_zero, List.set_cons_succ]
          refine AnyL.pass (i := 18) (some 34) rfl rfl (by kernel_rfl) (by kernel_rfl) (by kernel_rfl) rfl (fun _ _ _ h => h) (by kernel_rfl) ?_
          simp only [Act.put, List.setIfInBounds_toArray]; try simp only [List.set_cons_zero, List.set_cons_succ]
          refine AnyL.pass (i := 19) (some 35) rfl rfl (by kernel_rfl) (by kernel_rfl) (by kernel_rfl) rfl (fun _ _ _ h => h) (by kernel_rfl) ?_
          simp only [Act.put, List.setIfInBounds_toArray]; try simp only [List.set_cons_zero, List.set_cons_succ]
          refine AnyL.pass (i := 20) (some 36) rfl rfl (by kernel_rfl) (by kernel_rfl) (by kernel_rfl) rfl (fun _ _ _ h => h) (by kernel_rfl) ?_
          simp only [Act.put, List.setIfInBounds_toArray]; try simp only [List.set_cons_zero, List.set_cons_succ]
          refine AnyL.pass (i := 21) (some 37) rfl rfl (by kernel_rfl) (by kernel_rfl) (by kernel_rfl) rfl (fun _ _ _ h => h) (by kernel_rfl) ?_
          simp only [Act.put, List.setIfInBounds_toArray]; try simp only [List.set_cons_zero, List.set_cons_succ]
          refine AnyL.pass (i := 22) (some 38) rfl rfl (by kernel_rfl) (by kernel_rfl) (by kernel_rfl) rfl (fun _ _ _ h => h) (by kernel_rfl) ?_
          simp only [Act.put, List.setIfInBounds_toArray]; try simp only [List.set_cons_zero, List.set_cons_succ]
          refine AnyL.pass (i := 23) (some 39) rfl rfl (by kernel_rfl) (by kernel_rfl) (by kernel_rfl) rfl (fun _ _ _ h => h) (by kernel_rfl) ?_
          simp only [Act.put, List.setIfInBounds_toArray]; try simp only [List.set_cons_zero, List.set_cons_succ]
          refine AnyL.pass (i := 24) (some 40) rfl rfl (by kernel_rfl) (by kernel_rfl) (by kernel_rfl) rfl (fun _ _ _ h => h) (by kernel_rfl) ?_
          simp only [Act.put, List.setIfInBounds_toArray]; try simp only [List.set_cons_zero, List.set_cons_succ]
          refine AnyL.pass (i := 25) (some 41) rfl rfl (by kernel_rfl) (by kernel_rfl) (by kernel_rfl) rfl (fun _ _ _ h => h) (by kernel_rfl) ?_
          simp only [Act.put, List.setIfInBounds_toArray]; try simp only [List.set_cons_zero, List.set_cons_succ]
          refine AnyL.pass (i := 26) (some 42) rfl rfl (by kernel_rfl) (by kernel_rfl) (by kernel_rfl) rfl (fun _ _ _ h => h) (by kernel_rfl) ?_
          simp only [Act.put, List.setIfInBounds_toArray]; try simp only [List.set_cons_zero, List.set_cons_succ]
          refine AnyL.pass (i := 27) (some 43) rfl rfl (by kernel_rfl) (by kernel_rfl) (by kernel_rfl) rfl (fun _ _ _ h => h) (by kernel_rfl) ?_
          simp only [Act.put, List.setIfInBounds_toArray]; try simp only [List.set_cons_zero, List.set_cons_succ]
          refine AnyL.pass (i := 28) (some 44) rfl rfl (by kernel_rfl) (by kernel_rfl) (by kernel_rfl) rfl (fun _ _ _ h => h) (by kernel_rfl) ?_
          simp only [Act.put, List.setIfInBounds_toArray]; try simp only [List.set_cons_zero, List.set_cons_succ]
          refine AnyL.pass (i := 29) (some 45) rfl rfl (by kernel_rfl) (by kernel_rfl) (by kernel_rfl) rfl (fun _ _ _ h => h) (by kernel_rfl) ?_
          simp only [Act.put, List.setIfInBounds_toArray]; try simp only [List.set_cons_zero, List.set_cons_succ]
          refine AnyL.pass (i := 30) (some 46) rfl rfl (by kernel_rfl) (by kernel_rfl) (by kernel_rfl) rfl (fun _ _ _ h => h) (by kernel_rfl) ?_
          simp only [Act.put, List.setIfInBounds_toArray]; try simp only [List.set_cons_zero, List.set_cons_succ]
          refine AnyL.pass (i := 31) (some 47) rfl rfl (by kernel_rfl) (by kernel_rfl) (by kernel_rfl) rfl (fun _ _ _ h => h) (by kernel_rfl) ?_
          simp only [Act.put, List.setIfInBounds_toArray]; try simp only [List.set_cons_zero, List.set_cons_succ]
          refine AnyL.pass (i := 32) (some 48) rfl rfl (by kernel_rfl) (by kernel_rfl) (by kernel_rfl) rfl (fun _ _ _ h => h) (by kernel_rfl) ?_
          simp only [Act.put, List.setIfInBounds_toArray]; try simp only [List.set_cons_zero, List.set_cons_succ]
          refine AnyL.pass (i := 33) (some 49) rfl rfl (by kernel_rfl) (by kernel_rfl) (by kernel_rfl) rfl (fun _ _ _ h => h) (by kernel_rfl) ?_
          simp only [Act.put, List.setIfInBounds_toArray]; try simp only [List.set_cons_zero, List.set_cons_succ]
          refine AnyL.pure (i := 34) (v := ?_) (some 50) rfl rfl (by kernel_rfl) (by kernel_rfl) (by kernel_rfl) rfl (fun _ _ _ h => h) (by kernel_rfl) (fun ww => ?_) ?_; rotate_left; · (go_simp; (try with_reducible rfl))
          refine AnyL.pure (i := 35) (v := ?_) (some 51) rfl rfl (by kernel_rfl) (by kernel_rfl) (by kernel_rfl) rfl (fun _ _ _ h => h) (by rfl) (fun ww => ?_) ?_; rotate_left; · (go_simp; (try with_reducible rfl))
          refine AnyL.done (by kernel_rfl) ?_
          go_wp2
          go_roundw
          case rel => exact ⟨k + 1, q + 1, by omega, by rw [hrec2.out]; go_num, by go_num, rfl⟩
          case measure => simp [intOf]; omega
        · obtain ⟨b', rfl⟩ : ∃ b', b = b' + 1 := ⟨b - 1, by omega⟩
          obtain ⟨m', hmk', hma'⟩ := hget.out b' (by omega)
          obtain ⟨g', hg', -, u1⟩ := hat.out b' m' hmk'
          simp only [Option.some.injEq, Addr.mk.injEq, and_true] at hg'
          subst hg'
          have hak' := haof.out b' m' hmk'
          rw [show b' + 1 - 1 = b' from rfl, hak'] at hrec
          generalize m'.a = y at *
          have hbw : IntKind.i64.wrap (b' : Int) = b' := by rw [IntKind.wrap_i64]; omega
          have hb0 : (0 : Int) ≤ b' := by omega
          have hbl : (b' : Int) < ln := by omega
          have hb1 : ((b' : Int) + 1 == 0) = false := by simp; omega
          clear hmk' hak' m' h2
          have u1' : (w.drewN q).cell? ⟨g, b' * 2 + 1, none⟩ = some (.int .i64 y) := u1
          have hS : (w.drewN q).drew.cell? ⟨R.p, 0, none⟩ = some (.slice (some ⟨g, 0, none⟩) ln cap) ∧ (w.drewN q).drew.cell? ⟨g, k * 2 + 1, none⟩ = some (.int .i64 x) ∧ (w.drewN q).drew.cell? ⟨g, b' * 2 + 1, none⟩ = some (.int .i64 y) := ⟨c0, v1, u1⟩
          by_cases h3 : x < y
          · have hrec2 : r.behindTo a (k + 1) = k + 1 := by rw [hrec.out, if_pos ⟨h1, .inr h3⟩]
            replace hrec2 := Lib.hid hrec2
            clear hrec
            refine wp_region_L (n := 36) (fun w' : World => w'.cell? ⟨R.p, 0, none⟩ = some (.slice (some ⟨g, 0, none⟩) ln cap) ∧ w'.cell? ⟨g, k * 2 + 1, none⟩ = some (.int .i64 x) ∧ w'.cell? ⟨g, b' * 2 + 1, none⟩ = some (.int .i64 y)) [] [0, 1, 2, 3, 4, 5, 6, 7, 8, 9, 10, 11, 12, 13, 14, 15, 16, 17, 18, 19, 20, 21, 22, 23, 24, 25, 26, 27, 28, 29, 30, 31, 32, 33, 34, 35] (by kernel_rfl) rfl ?_
            refine AnyL.pure (i := 0) (v := ?_) (some 16) rfl rfl (by kernel_rfl) (by kernel_rfl) (by kernel_rfl) rfl (fun _ _ _ h => h) (by rfl) (fun ww => ?_) ?_; rotate_left; · (go_simp; (try with_reducible rfl))
            refine AnyL.pure (i := 1) (v := ?_) (some 17) rfl rfl (by kernel_rfl) (by kernel_rfl) (by kernel_rfl) rfl (fun _ _ _ h => h) (by rfl) (fun ww => ?_) ?_; rotate_left; · (go_simp; (try with_reducible rfl))
            refine AnyL.pure (i := 2) (v := ?_) (some 18) rfl rfl (by kernel_rfl) (by kernel_rfl) (by kernel_rfl) rfl (fun _ _ _ h => h) (by rfl) (fun ww => ?_) ?_; rotate_left; · (go_simp; (try with_reducible rfl))
            refine AnyL.take (i := 3) (v := ?_) (some 19) rfl rfl (by kernel_rfl) (by kernel_rfl) (by kernel_rfl) rfl (by kernel_rfl) (fun _ _ _ h => h) (by rfl) (fun ww hww => ?_) hS ?_; rotate_left; · (obtain ⟨hs0, hs1, hs2⟩ := hww; go_simp; (try with_reducible rfl))
            refine AnyL.pure (i := 4) (v := ?_) (some 20) rfl rfl (by kernel_rfl) (by kernel_rfl) (by kernel_rfl) rfl (fun _ _ _ h => h) (by rfl) (fun ww => ?_) ?_; rotate_left; · (go_simp; (try with_reducible rfl))
            refine AnyL.pure (i := 5) (v := ?_) (some 21) rfl rfl (by kernel_rfl) (by kernel_rfl) (by kernel_rfl) rfl (fun _ _ _ h => h) (by rfl) (fun ww => ?_) ?_; rotate_left; · (go_simp; (try with_reducible rfl))
            refine AnyL.pure (i := 6) (v := ?_) (some 22) rfl rfl (by kernel_rfl) (by kernel_rfl) (by kernel_rfl) rfl (fun _ _ _ h => h) (by rfl) (fun ww => ?_) ?_; rotate_left; · (go_simp; (try with_reducible rfl))
            refine AnyL.pure (i := 7) (v := ?_) (some 23) rfl rfl (by kernel_rfl) (by kernel_rfl) (by kernel_rfl) rfl (fun _ _ _ h => h) (by rfl) (fun ww => ?_) ?_; rotate_left; · (go_simp; (try with_reducible rfl))
            refine AnyL.take (i := 8) (v := ?_) (some 24) rfl rfl (by kernel_rfl) (by kernel_rfl) (by kernel_rfl) rfl (by kernel_rfl) (fun _ _ _ h => h) (by rfl) (fun ww hww => ?_) hS ?_; rotate_left; · (obtain ⟨hs0, hs1, hs2⟩ := hww; go_simp; (try with_reducible rfl))
            refine AnyL.pure (i := 9) (v := ?_) (some 25) rfl rfl (by kernel_rfl) (by kernel_rfl) (by kernel_rfl) rfl (fun _ _ _ h => h) (by rfl) (fun ww => ?_) ?_; rotate_left; · (go_simp; (try with_reducible rfl))
            refine AnyL.pure (i := 10) (v := ?_) (some 26) rfl rfl (by kernel_rfl) (by kernel_rfl) (by kernel_rfl) rfl (fun _ _ _ h => h) (by rfl) (fun ww => ?_) ?_; rotate_left; · (go_simp; (try with_reducible rfl))
            refine AnyL.pure (i := 11) (v := ?_) (some 27) rfl rfl (by kernel_rfl) (by kernel_rfl) (by kernel_rfl) rfl (fun _ _ _ h => h) (by rfl) (fun ww => ?_) ?_; rotate_left; · (go_simp; (try with_reducible rfl))
            simp only [Act.put, List.setIfInBounds_toArray]; try simp only [List.set_cons_zero, List.set_cons_succ]
            refine AnyL.pure (i := 12) (v := ?_) (some 28) rfl rfl (by kernel_rfl) (by kernel_rfl) (by kernel_rfl) rfl (fun _ _ _ h => h) (by kernel_rfl) (fun ww => ?_) ?_; rotate_left; · (go_simp; (try with_reducible rfl))
            simp only [Act.put, List.setIfInBounds_toArray]; try simp only [List.set_cons_zero, List.set_cons_succ]
            refine AnyL.pure (i := 13) (v := ?_) (some 29) rfl rfl (by kernel_rfl) (by kernel_rfl) (by kernel_rfl) rfl (fun _ _ _ h => h) (by kernel_rfl) (fun ww => ?_) ?_; rotate_left; · (go_simp; (try with_reducible rfl))
            simp only [Act.put, List.setIfInBounds_toArray]; try simp only [List.set_cons_zero, List.set_cons_succ]
            refine AnyL.pure (i := 14) (v := ?_) (some 30) rfl rfl (by kernel_rfl) (by kernel_rfl) (by kernel_rfl) rfl (fun _ _ _ h => h) (by kernel_rfl) (fun ww => ?_) ?_; rotate_left; · (go_simp; (try with_reducible rfl))
            simp only [Act.put, List.setIfInBounds_toArray]; try simp only [List.set_cons_zero, List.set_cons_succ]
            refine AnyL.pure (i := 15) (v := ?_) (some 31) rfl rfl (by kernel_rfl) (by kernel_rfl) (by kernel_rfl) rfl (fun _ _ _ h => h) (by kernel_rfl) (fun ww => ?_) ?_; rotate_left; · (go_simp; (try with_reducible rfl))
            simp only [Act.put, List.setIfInBounds_toArray]; try simp only [List.set_cons_zero, List.set_cons_succ]
            refine AnyL.pure (i := 16) (v := ?_) (some 32) rfl rfl (by kernel_rfl) (by kernel_rfl) (by kernel_rfl) rfl (fun _ _ _ h => h) (by kernel_rfl) (fun ww => ?_) ?_; rotate_left; · (go_simp; (try with_reducible rfl))
            simp only [Act.put, List.setIfInBounds_toArray]; try simp only [List.set_cons_zero, List.set_cons_succ]
            refine AnyL.pure (i := 17) (v := ?_) (some 33) rfl rfl (by kernel_rfl) (by kernel_rfl) (by kernel_rfl) rfl (fun _ _ _ h => h) (by kernel_rfl) (fun ww => ?_) ?_; rotate_left; · (go_simp; (try with_reducible rfl))
            simp only [Act.put, List.setIfInBounds_toArray]; try simp only [List.set_cons_zero, List.set_cons_succ]
            refine AnyL.take (i := 18) (v := ?_) (some 34) rfl rfl (by kernel_rfl) (by kernel_rfl) (by kernel_rfl) rfl (by kernel_rfl) (fun _ _ _ h => h) (by kernel_rfl) (fun ww hww => ?_) hS ?_; rotate_left; · (obtain ⟨hs0, hs1, hs2⟩ := hww; go_simp; (try with_reducible rfl))
            simp only [Act.put, List.setIfInBounds_toArray]; try simp only [List.set_cons_zero, List.set_cons_succ]
            refine AnyL.pure (i := 19) (v := ?_) (some 35) rfl rfl (by kernel_rfl) (by kernel_rfl) (by kernel_rfl) rfl (fun _ _ _ h => h) (by kernel_rfl) (fun ww => ?_) ?_; rotate_left; · (go_simp; (try with_reducible rfl))
            simp only [Act.put, List.setIfInBounds_toArray]; try simp only [List.set_cons_zero, List.set_cons_succ]
            refine AnyL.pure (i := 20) (v := ?_) (some 36) rfl rfl (by kernel_rfl) (by kernel_rfl) (by kernel_rfl) rfl (fun _ _ _ h => h) (by kernel_rfl) (fun ww => ?_) ?_; rotate_left; · (go_simp; (try with_reducible rfl))
            simp only [Act.put, List.setIfInBounds_toArray]; try simp only [List.set_cons_zero, List.set_cons_succ]
            refine AnyL.pure (i := 21) (v := ?_) (some 37) rfl rfl (by kernel_rfl) (by kernel_rfl) (by kernel_rfl) rfl (fun _ _ _ h => h) (by kernel_rfl) (fun ww => ?_) ?_; rotate_left; · (go_simp; (try with_reducible rfl))
            simp only [Act.put, List.setIfInBounds_toArray]; try simp only [List.set_cons_zero, List.set_cons_succ]
            refine AnyL.pure (i := 22) (v := ?_) (some 38) rfl rfl (by kernel_rfl) (by kernel_rfl) (by kernel_rfl) rfl (fun _ _ _ h => h) (by kernel_rfl) (fun ww => ?_) ?_; rotate_left; · (go_simp; (try with_reducible rfl))
            simp only [Act.put, List.setIfInBounds_toArray]; try simp only [List.set_cons_zero, List.set_cons_succ]
            refine AnyL.take (i := 23) (v := ?_) (some 39) rfl rfl (by kernel_rfl) (by kernel_rfl) (by kernel_rfl) rfl (by kernel_rfl) (fun _ _ _ h => h) (by kernel_rfl) (fun ww hww => ?_) hS ?_; rotate_left; · (obtain ⟨hs0, hs1, hs2⟩ := hww; go_simp; (try with_reducible rfl))
            simp only [Act.put, List.setIfInBounds_toArray]; try simp only [List.set_cons_zero, List.set_cons_succ]
            refine AnyL.pure (i := 24) (v := ?_) (some 40) rfl rfl (by kernel_rfl) (by kernel_rfl) (by kernel_rfl) rfl (fun _ _ _ h => h) (by kernel_rfl) (fun ww => ?_) ?_; rotate_left; · (go_simp; (try with_reducible rfl))
            simp only [Act.put, List.setIfInBounds_toArray]; try simp only [List.set_cons_zero, List.set_cons_succ]
            refine AnyL.pure (i := 25) (v := ?_) (some 41) rfl rfl (by kernel_rfl) (by kernel_rfl) (by kernel_rfl) rfl (fun _ _ _ h => h) (by kernel_rfl) (fun ww => ?_) ?_; rotate_left; · (go_simp; (try with_reducible rfl))
            simp only [Act.put, List.setIfInBounds_toArray]; try simp only [List.set_cons_zero, List.set_cons_succ]
            refine AnyL.pure (i := 26) (v := ?_) (some 42) rfl rfl (by kernel_rfl) (by kernel_rfl) (by kernel_rfl) rfl (fun _ _ _ h => h) (by kernel_rfl) (fun ww => ?_) ?_; rotate_left; · (go_simp; (try with_reducible rfl))
            simp only [Act.put, List.setIfInBounds_toArray]; try simp only [List.set_cons_zero, List.set_cons_succ]
            refine AnyL.take (i := 27) (v := ?_) (some 43) rfl rfl (by kernel_rfl) (by kernel_rfl) (by kernel_rfl) rfl (by kernel_rfl) (fun _ _ _ h => h) (by kernel_rfl) (fun ww hww => ?_) hS ?_; rotate_left; · (obtain ⟨hs0, hs1, hs2⟩ := hww; go_simp; (try with_reducible rfl))
            simp only [Act.put, List.setIfInBounds_toArray]; try simp only [List.set_cons_zero, List.set_cons_succ]
            refine AnyL.pure (i := 28) (v := ?_) (some 44) rfl rfl (by kernel_rfl) (by kernel_rfl) (by kernel_rfl) rfl (fun _ _ _ h => h) (by kernel_rfl) (fun ww => ?_) ?_; rotate_left; · (go_simp; (try with_reducible rfl))
            simp only [Act.put, List.setIfInBounds_toArray]; try simp only [List.set_cons_zero, List.set_cons_succ]
            refine AnyL.pure (i := 29) (v := ?_) (some 45) rfl rfl (by kernel_rfl) (by kernel_rfl) (by kernel_rfl) rfl (fun _ _ _ h => h) (by kernel_rfl) (fun ww => ?_) ?_; rotate_left; · (go_simp; (try with_reducible rfl))
            simp only [Act.put, List.setIfInBounds_toArray]; try simp only [List.set_cons_zero, List.set_cons_succ]
            refine AnyL.pure (i := 30) (v := ?_) (some 46) rfl rfl (by kernel_rfl) (by kernel_rfl) (by kernel_rfl) rfl (fun _ _ _ h => h) (by kernel_rfl) (fun ww => ?_) ?_; rotate_left; · (go_simp; (try with_reducible rfl))
            simp only [Act.put, List.setIfInBounds_toArray]; try simp only [List.set_cons_zero, List.set_cons_succ]
            refine AnyL.pure (i := 31) (v := ?_) (some 47) rfl rfl (by kernel_rfl) (by kernel_rfl) (by kernel_rfl) rfl (fun _ _ _ h => h) (by kernel_rfl) (fun ww => ?_) ?_; rotate_left; · (go_simp; (try with_reducible rfl))
            simp only [Act.put, List.setIfInBounds_toArray]; try simp only [List.set_cons_zero, List.set_cons_succ]
            refine AnyL.take (i := 32) (v := ?_) (some 48) rfl rfl (by kernel_rfl) (by kernel_rfl) (by kernel_rfl) rfl (by kernel_rfl) (fun _ _ _ h => h) (by kernel_rfl) (fun ww hww => ?_) hS ?_; rotate_left; · (obtain ⟨hs0, hs1, hs2⟩ := hww; go_simp; (try with_reducible rfl))
            simp only [Act.put, List.setIfInBounds_toArray]; try simp only [List.set_cons_zero, List.set_cons_succ]
            refine AnyL.pure (i := 33) (v := ?_) (some 49) rfl rfl (by kernel_rfl) (by kernel_rfl) (by kernel_rfl) rfl (fun _ _ _ h => h) (by kernel_rfl) (fun ww => ?_) ?_; rotate_left; · (go_simp; (try with_reducible rfl))
            simp only [Act.put, List.setIfInBounds_toArray]; try simp only [List.set_cons_zero, List.set_cons_succ]
            refine AnyL.pure (i := 34) (v := ?_) (some 50) rfl rfl (by kernel_rfl) (by kernel_rfl) (by kernel_rfl) rfl (fun _ _ _ h => h) (by kernel_rfl) (fun ww => ?_) ?_; rotate_left; · (go_simp; (try with_reducible rfl))
            refine AnyL.pure (i := 35) (v := ?_) (some 51) rfl rfl (by kernel_rfl) (by kernel_rfl) (by kernel_rfl) rfl (fun _ _ _ h => h) (by rfl) (fun ww => ?_) ?_; rotate_left; · (go_simp; (try with_reducible rfl))
            refine AnyL.done (by kernel_rfl) ?_
            go_wp2
            go_roundw
            case rel => exact ⟨k + 1, q + 1, by omega, by rw [hrec2.out]; go_num, by go_num, rfl⟩
            case measure => simp [intOf]; omega
          · have hrec2 : r.behindTo a (k + 1) = b' + 1 := by rw [hrec.out, if_neg (fun h => h.2.elim (by omega) h3)]
            replace hrec2 := Lib.hid hrec2
            clear hrec
            refine wp_region_L (n := 36) (fun w' : World => w'.cell? ⟨R.p, 0, none⟩ = some (.slice (some ⟨g, 0, none⟩) ln cap) ∧ w'.cell? ⟨g, k * 2 + 1, none⟩ = some (.int .i64 x) ∧ w'.cell? ⟨g, b' * 2 + 1, none⟩ = some (.int .i64 y)) [] [0, 1, 2, 3, 4, 5, 6, 7, 8, 9, 10, 11, 12, 13, 14, 15, 16, 17, 18, 19, 20, 21, 22, 23, 24, 25, 26, 27, 28, 29, 30, 31, 32, 33, 34, 35] (by kernel_rfl) rfl ?_
            refine AnyL.pure (i := 0) (v := ?_) (some 16) rfl rfl (by kernel_rfl) (by kernel_rfl) (by kernel_rfl) rfl (fun _ _ _ h => h) (by rfl) (fun ww => ?_) ?_; rotate_left; · (go_simp; (try with_reducible rfl))
            refine AnyL.pure (i := 1) (v := ?_) (some 17) rfl rfl (by kernel_rfl) (by kernel_rfl) (by kernel_rfl) rfl (fun _ _ _ h => h) (by rfl) (fun ww => ?_) ?_; rotate_left; · (go_simp; (try with_reducible rfl))
            refine AnyL.pure (i := 2) (v := ?_) (some 18) rfl rfl (by kernel_rfl) (by kernel_rfl) (by kernel_rfl) rfl (fun _ _ _ h => h) (by rfl) (fun ww => ?_) ?_; rotate_left; · (go_simp; (try with_reducible rfl))
            refine AnyL.take (i := 3) (v := ?_) (some 19) rfl rfl (by kernel_rfl) (by kernel_rfl) (by kernel_rfl) rfl (by kernel_rfl) (fun _ _ _ h => h) (by rfl) (fun ww hww => ?_) hS ?_; rotate_left; · (obtain ⟨hs0, hs1, hs2⟩ := hww; go_simp; (try with_reducible rfl))
            refine AnyL.pure (i := 4) (v := ?_) (some 20) rfl rfl (by kernel_rfl) (by kernel_rfl) (by kernel_rfl) rfl (fun _ _ _ h => h) (by rfl) (fun ww => ?_) ?_; rotate_left; · (go_simp; (try with_reducible rfl))
            refine AnyL.pure (i := 5) (v := ?_) (some 21) rfl rfl (by kernel_rfl) (by kernel_rfl) (by kernel_rfl) rfl (fun _ _ _ h => h) (by rfl) (fun ww => ?_) ?_; rotate_left; · (go_simp; (try with_reducible rfl))
            refine AnyL.pure (i := 6) (v := ?_) (some 22) rfl rfl (by kernel_rfl) (by kernel_rfl) (by kernel_rfl) rfl (fun _ _ _ h => h) (by rfl) (fun ww => ?_) ?_; rotate_left; · (go_simp; (try with_reducible rfl))
            refine AnyL.pure (i := 7) (v := ?_) (some 23) rfl rfl (by kernel_rfl) (by kernel_rfl) (by kernel_rfl) rfl (fun _ _ _ h => h) (by rfl) (fun ww => ?_) ?_; rotate_left; · (go_simp; (try with_reducible rfl))
            refine AnyL.take (i := 8) (v := ?_) (some 24) rfl rfl (by kernel_rfl) (by kernel_rfl) (by kernel_rfl) rfl (by kernel_rfl) (fun _ _ _ h => h) (by rfl) (fun ww hww => ?_) hS ?_; rotate_left; · (obtain ⟨hs0, hs1, hs2⟩ := hww; go_simp; (try with_reducible rfl))
            refine AnyL.pure (i := 9) (v := ?_) (some 25) rfl rfl (by kernel_rfl) (by kernel_rfl) (by kernel_rfl) rfl (fun _ _ _ h => h) (by rfl) (fun ww => ?_) ?_; rotate_left; · (go_simp; (try with_reducible rfl))
            refine AnyL.pure (i := 10) (v := ?_) (some 26) rfl rfl (by kernel_rfl) (by kernel_rfl) (by kernel_rfl) rfl (fun _ _ _ h => h) (by rfl) (fun ww => ?_) ?_; rotate_left; · (go_simp; (try with_reducible rfl))
            refine AnyL.pure (i := 11) (v := ?_) (some 27) rfl rfl (by kernel_rfl) (by kernel_rfl) (by kernel_rfl) rfl (fun _ _ _ h => h) (by rfl) (fun ww => ?_) ?_; rotate_left; · (go_simp; (try with_reducible rfl))
            simp only [Act.put, List.setIfInBounds_toArray]; try simp only [List.set_cons_zero, List.set_cons_succ]
            refine AnyL.pure (i := 12) (v := ?_) (some 28) rfl rfl (by kernel_rfl) (by kernel_rfl) (by kernel_rfl) rfl (fun _ _ _ h => h) (by kernel_rfl) (fun ww => ?_) ?_; rotate_left; · (go_simp; (try with_reducible rfl))
            simp only [Act.put, List.setIfInBounds_toArray]; try simp only [List.set_cons_zero, List.set_cons_succ]
            refine AnyL.pure (i := 13) (v := ?_) (some 29) rfl rfl (by kernel_rfl) (by kernel_rfl) (by kernel_rfl) rfl (fun _ _ _ h => h) (by kernel_rfl) (fun ww => ?_) ?_; rotate_left; · (go_simp; (try with_reducible rfl))
            simp only [Act.put, List.setIfInBounds_toArray]; try simp only [List.set_cons_zero, List.set_cons_succ]
            refine AnyL.pure (i := 14) (v := ?_) (some 30) rfl rfl (by kernel_rfl) (by kernel_rfl) (by kernel_rfl) rfl (fun _ _ _ h => h) (by kernel_rfl) (fun ww => ?_) ?_; rotate_left; · (go_simp; (try with_reducible rfl))
            simp only [Act.put, List.setIfInBounds_toArray]; try simp only [List.set_cons_zero, List.set_cons_succ]
            refine AnyL.pure (i := 15) (v := ?_) (some 31) rfl rfl (by kernel_rfl) (by kernel_rfl) (by kernel_rfl) rfl (fun _ _ _ h => h) (by kernel_rfl) (fun ww => ?_) ?_; rotate_left; · (go_simp; (try with_reducible rfl))
            simp only [Act.put, List.setIfInBounds_toArray]; try simp only [List.set_cons_zero, List.set_cons_succ]
            refine AnyL.pure (i := 16) (v := ?_) (some 32) rfl rfl (by kernel_rfl) (by kernel_rfl) (by kernel_rfl) rfl (fun _ _ _ h => h) (by kernel_rfl) (fun ww => ?_) ?_; rotate_left; · (go_simp; (try with_reducible rfl))
            simp only [Act.put, List.setIfInBounds_toArray]; try simp only [List.set_cons_zero, List.set_cons_succ]
            refine AnyL.pure (i := 17) (v := ?_) (some 33) rfl rfl (by kernel_rfl) (by kernel_rfl) (by kernel_rfl) rfl (fun _ _ _ h => h) (by kernel_rfl) (fun ww => ?_) ?_; rotate_left; · (go_simp; (try with_reducible rfl))
            simp only [Act.put, List.setIfInBounds_toArray]; try simp only [List.set_cons_zero, List.set_cons_succ]
            refine AnyL.take (i := 18) (v := ?_) (some 34) rfl rfl (by kernel_rfl) (by kernel_rfl) (by kernel_rfl) rfl (by kernel_rfl) (fun _ _ _ h => h) (by kernel_rfl) (fun ww hww => ?_) hS ?_; rotate_left; · (obtain ⟨hs0, hs1, hs2⟩ := hww; go_simp; (try with_reducible rfl))
            simp only [Act.put, List.setIfInBounds_toArray]; try simp only [List.set_cons_zero, List.set_cons_succ]
            refine AnyL.pure (i := 19) (v := ?_) (some 35) rfl rfl (by kernel_rfl) (by kernel_rfl) (by kernel_rfl) rfl (fun _ _ _ h => h) (by kernel_rfl) (fun ww => ?_) ?_; rotate_left; · (go_simp; (try with_reducible rfl))
            simp only [Act.put, List.setIfInBounds_toArray]; try simp only [List.set_cons_zero, List.set_cons_succ]
            refine AnyL.pure (i := 20) (v := ?_) (some 36) rfl rfl (by kernel_rfl) (by kernel_rfl) (by kernel_rfl) rfl (fun _ _ _ h => h) (by kernel_rfl) (fun ww => ?_) ?_; rotate_left; · (go_simp; (try with_reducible rfl))
            simp only [Act.put, List.setIfInBounds_toArray]; try simp only [List.set_cons_zero, List.set_cons_succ]
            refine AnyL.pure (i := 21) (v := ?_) (some 37) rfl rfl (by kernel_rfl) (by kernel_rfl) (by kernel_rfl) rfl (fun _ _ _ h => h) (by kernel_rfl) (fun ww => ?_) ?_; rotate_left; · (go_simp; (try with_reducible rfl))
            simp only [Act.put, List.setIfInBounds_toArray]; try simp only [List.set_cons_zero, List.set_cons_succ]
            refine AnyL.pure (i := 22) (v := ?_) (some 38) rfl rfl (by kernel_rfl) (by kernel_rfl) (by kernel_rfl) rfl (fun _ _ _ h => h) (by kernel_rfl) (fun ww => ?_) ?_; rotate_left; · (go_simp; (try with_reducible rfl))
            simp only [Act.put, List.setIfInBounds_toArray]; try simp only [List.set_cons_zero, List.set_cons_succ]
            refine AnyL.take (i := 23) (v := ?_) (some 39) rfl rfl (by kernel_rfl) (by kernel_rfl) (by kernel_rfl) rfl (by kernel_rfl) (fun _ _ _ h => h) (by kernel_rfl) (fun ww hww => ?_) hS ?_; rotate_left; · (obtain ⟨hs0, hs1, hs2⟩ := hww; go_simp; (try with_reducible rfl))
            simp only [Act.put, List.setIfInBounds_toArray]; try simp only [List.set_cons_zero, List.set_cons_succ]
            refine AnyL.pure (i := 24) (v := ?_) (some 40) rfl rfl (by kernel_rfl) (by kernel_rfl) (by kernel_rfl) rfl (fun _ _ _ h => h) (by kernel_rfl) (fun ww => ?_) ?_; rotate_left; · (go_simp; (try with_reducible rfl))
            simp only [Act.put, List.setIfInBounds_toArray]; try simp only [List.set_cons_zero, List.set_cons_succ]
            refine AnyL.pure (i := 25) (v := ?_) (some 41) rfl rfl (by kernel_rfl) (by kernel_rfl) (by kernel_rfl) rfl (fun _ _ _ h => h) (by kernel_rfl) (fun ww => ?_) ?_; rotate_left; · (go_simp; (try with_reducible rfl))
            simp only [Act.put, List.setIfInBounds_toArray]; try simp only [List.set_cons_zero, List.set_cons_succ]
            refine AnyL.pure (i := 26) (v := ?_) (some 42) rfl rfl (by kernel_rfl) (by kernel_rfl) (by kernel_rfl) rfl (fun _ _ _ h => h) (by kernel_rfl) (fun ww => ?_) ?_; rotate_left; · (go_simp; (try with_reducible rfl))
            simp only [Act.put, List.setIfInBounds_toArray]; try simp only [List.set_cons_zero, List.set_cons_succ]
            refine AnyL.take (i := 27) (v := ?_) (some 43) rfl rfl (by kernel_rfl) (by kernel_rfl) (by kernel_rfl) rfl (by kernel_rfl) (fun _ _ _ h => h) (by kernel_rfl) (fun ww hww => ?_) hS ?_; rotate_left; · (obtain ⟨hs0, hs1, hs2⟩ := hww; go_simp; (try with_reducible rfl))
            simp only [Act.put, List.setIfInBounds_toArray]; try simp only [List.set_cons_zero, List.set_cons_succ]
            refine AnyL.pure (i := 28) (v := ?_) (some 44) rfl rfl (by kernel_rfl) (by kernel_rfl) (by kernel_rfl) rfl (fun _ _ _ h => h) (by kernel_rfl) (fun ww => ?_) ?_; rotate_left; · (go_simp; (try with_reducible rfl))
            simp only [Act.put, List.setIfInBounds_toArray]; try simp only [List.set_cons_zero, List.set_cons_succ]
            refine AnyL.pure (i := 29) (v := ?_) (some 45) rfl rfl (by kernel_rfl) (by kernel_rfl) (by kernel_rfl) rfl (fun _ _ _ h => h) (by kernel_rfl) (fun ww => ?_) ?_; rotate_left; · (go_simp; (try with_reducible rfl))
            simp only [Act.put, List.setIfInBounds_toArray]; try simp only [List.set_cons_zero, List.set_cons_succ]
            refine AnyL.pure (i := 30) (v := ?_) (some 46) rfl rfl (by kernel_rfl) (by kernel_rfl) (by kernel_rfl) rfl (fun _ _ _ h => h) (by kernel_rfl) (fun ww => ?_) ?_; rotate_left; · (go_simp; (try with_reducible rfl))
            simp only [Act.put, List.setIfInBounds_toArray]; try simp only [List.set_cons_zero, List.set_cons_succ]
            refine AnyL.pure (i := 31) (v := ?_) (some 47) rfl rfl (by kernel_rfl) (by kernel_rfl) (by kernel_rfl) rfl (fun _ _ _ h => h) (by kernel_rfl) (fun ww => ?_) ?_; rotate_left; · (go_simp; (try with_reducible rfl))
            simp only [Act.put, List.setIfInBounds_toArray]; try simp only [List.set_cons_zero, List.set_cons_succ]
            refine AnyL.take (i := 32) (v := ?_) (some 48) rfl rfl (by kernel_rfl) (by kernel_rfl) (by kernel_rfl) rfl (by kernel_rfl) (fun _ _ _ h => h) (by kernel_rfl) (fun ww hww => ?_) hS ?_; rotate_left; · (obtain ⟨hs0, hs1, hs2⟩ := hww; go_simp; (try with_reducible rfl))
            simp only [Act.put, List.setIfInBounds_toArray]; try simp only [List.set_cons_zero, List.set_cons_succ]
            refine AnyL.pure (i := 33) (v := ?_) (some 49) rfl rfl (by kernel_rfl) (by kernel_rfl) (by kernel_rfl) rfl (fun _ _ _ h => h) (by kernel_rfl) (fun ww => ?_) ?_; rotate_left; · (go_simp; (try with_reducible rfl))
            simp only [Act.put, List.setIfInBounds_toArray]; try simp only [List.set_cons_zero, List.set_cons_succ]
            refine AnyL.pure (i := 34) (v := ?_) (some 50) rfl rfl (by kernel_rfl) (by kernel_rfl) (by kernel_rfl) rfl (fun _ _ _ h => h) (by kernel_rfl) (fun ww => ?_) ?_; rotate_left; · (go_simp; (try with_reducible rfl))
            refine AnyL.pure (i := 35) (v := ?_) (some 51) rfl rfl (by kernel_rfl) (by kernel_rfl) (by kernel_rfl) rfl (fun _ _ _ h => h) (by rfl) (fun ww => ?_) ?_; rotate_left; · (go_simp; (try with_reducible rfl))
            refine AnyL.done (by kernel_rfl) ?_
            go_wp2
            go_roundw
            case rel => exact ⟨k + 1, q + 1, by omega, by rw [hrec2.out]; go_num, by go_num, rfl⟩
            case measure => simp [intOf]; omega
      · have hrec2 : r.behindTo a (k + 1) = b := by rw [hrec.out, if_neg (fun h => h1 h.1)]
        replace hrec2 := Lib.hid hrec2
        clear hrec
        have hS : (w.drewN q).drew.cell? ⟨R.p, 0, none⟩ = some (.slice (some ⟨g, 0, none⟩) ln cap) ∧ (w.drewN q).drew.cell? ⟨g, k * 2 + 1, none⟩ = some (.int .i64 x) := ⟨c0, v1⟩
        refine wp_region_L (n := 36) (fun w' : World => w'.cell? ⟨R.p, 0, none⟩ = some (.slice (some ⟨g, 0, none⟩) ln cap) ∧ w'.cell? ⟨g, k * 2 + 1, none⟩ = some (.int .i64 x)) [] [0, 1, 2, 3, 4, 5, 6, 7, 8, 9, 10, 11, 12, 13, 14, 15, 16, 17, 18, 19, 20, 21, 22, 23, 24, 25, 26, 27, 28, 29, 30, 31, 32, 33, 34, 35] (by kernel_rfl) rfl ?_
        refine AnyL.pure (i := 0) (v := ?_) (some 16) rfl rfl (by kernel_rfl) (by kernel_rfl) (by kernel_rfl) rfl (fun _ _ _ h => h) (by rfl) (fun ww => ?_) ?_; rotate_left; · (go_simp; (try with_reducible rfl))
        refine AnyL.pure (i := 1) (v := ?_) (some 17) rfl rfl (by kernel_rfl) (by kernel_rfl) (by kernel_rfl) rfl (fun _ _ _ h => h) (by rfl) (fun ww => ?_) ?_; rotate_left; · (go_simp; (try with_reducible rfl))
        refine AnyL.pure (i := 2) (v := ?_) (some 18) rfl rfl (by kernel_rfl) (by kernel_rfl) (by kernel_rfl) rfl (fun _ _ _ h => h) (by rfl) (fun ww => ?_) ?_; rotate_left; · (go_simp; (try with_reducible rfl))
        refine AnyL.take (i := 3) (v := ?_) (some 19) rfl rfl (by kernel_rfl) (by kernel_rfl) (by kernel_rfl) rfl (by kernel_rfl) (fun _ _ _ h => h) (by rfl) (fun ww hww => ?_) hS ?_; rotate_left; · (obtain ⟨hs0, hs1⟩ := hww; go_simp; (try with_reducible rfl))
        refine AnyL.pure (i := 4) (v := ?_) (some 20) rfl rfl (by kernel_rfl) (by kernel_rfl) (by kernel_rfl) rfl (fun _ _ _ h => h) (by rfl) (fun ww => ?_) ?_; rotate_left; · (go_simp; (try with_reducible rfl))
        refine AnyL.pure (i := 5) (v := ?_) (some 21) rfl rfl (by kernel_rfl) (by kernel_rfl) (by kernel_rfl) rfl (fun _ _ _ h => h) (by rfl) (fun ww => ?_) ?_; rotate_left; · (go_simp; (try with_reducible rfl))
        refine AnyL.pure (i := 6) (v := ?_) (some 22) rfl rfl (by kernel_rfl) (by kernel_rfl) (by kernel_rfl) rfl (fun _ _ _ h => h) (by rfl) (fun ww => ?_) ?_; rotate_left; · (go_simp; (try with_reducible rfl))
        refine AnyL.pure (i := 7) (v := ?_) (some 23) rfl rfl (by kernel_rfl) (by kernel_rfl) (by kernel_rfl) rfl (fun _ _ _ h => h) (by rfl) (fun ww => ?_) ?_; rotate_left; · (go_simp; (try with_reducible rfl))
        refine AnyL.take (i := 8) (v := ?_) (some 24) rfl rfl (by kernel_rfl) (by kernel_rfl) (by kernel_rfl) rfl (by kernel_rfl) (fun _ _ _ h => h) (by rfl) (fun ww hww => ?_) hS ?_; rotate_left; · (obtain ⟨hs0, hs1⟩ := hww; go_simp; (try with_reducible rfl))
        refine AnyL.pure (i := 9) (v := ?_) (some 25) rfl rfl (by kernel_rfl) (by kernel_rfl) (by kernel_rfl) rfl (fun _ _ _ h => h) (by rfl) (fun ww => ?_) ?_; rotate_left; · (go_simp; (try with_reducible rfl))
        refine AnyL.pure (i := 10) (v := ?_) (some 26) rfl rfl (by kernel_rfl) (by kernel_rfl) (by kernel_rfl) rfl (fun _ _ _ h => h) (by rfl) (fun ww => ?_) ?_; rotate_left; · (go_simp; (try with_reducible rfl))
        refine AnyL.pure (i := 11) (v := ?_) (some 27) rfl rfl (by kernel_rfl) (by kernel_rfl) (by kernel_rfl) rfl (fun _ _ _ h => h) (by rfl) (fun ww => ?_) ?_; rotate_left; · (go_simp; (try with_reducible rfl))
        simp only [Act.put, List.setIfInBounds_toArray]; try simp only [List.set_cons_zero, List.set_cons_succ]
        refine AnyL.pass (i := 12) (some 28) rfl rfl (by kernel_rfl) (by kernel_rfl) (by kernel_rfl) rfl (fun _ _ _ h => h) (by kernel_rfl) ?_
        simp only [Act.put, List.setIfInBounds_toArray]; try simp only [List.set_cons_zero, List.set_cons_succ]
        refine AnyL.pass (i := 13) (some 29) rfl rfl (by kernel_rfl) (by kernel_rfl) (by kernel_rfl) rfl (fun _ _ _ h => h) (by kernel_rfl) ?_
        simp only [Act.put, List.setIfInBounds_toArray]; try simp only [List.set_cons_zero, List.set_cons_succ]
        refine AnyL.pass (i := 14) (some 30) rfl rfl (by kernel_rfl) (by kernel_rfl) (by kernel_rfl) rfl (fun _ _ _ h => h) (by kernel_rfl) ?_
        simp only [Act.put, List.setIfInBounds_toArray]; try simp only [List.set_cons_zero, List.set_cons_succ]
        refine AnyL.pass (i := 15) (some 31) rfl rfl (by kernel_rfl) (by kernel_rfl) (by kernel_rfl) rfl (fun _ _ _ h => h) (by kernel_rfl) ?_
        simp only [Act.put, List.setIfInBounds_toArray]; try simp only [List.set_cons_zero, List.set_cons_succ]
        refine AnyL.pass (i := 16) (some 32) rfl rfl (by kernel_rfl) (by kernel_rfl) (by kernel_rfl) rfl (fun _ _ _ h => h) (by kernel_rfl) ?_
        simp only [Act.put, List.setIfInBounds_toArray]; try simp only [List.set_cons_zero, List.set_cons_succ]
        refine AnyL.pass (i := 17) (some 33) rfl rfl (by kernel_rfl) (by kernel_rfl) (by kernel_rfl) rfl (fun _ _ _ h => h) (by kernel_rfl) ?_
        simp only [Act.put, List.setIfInBounds_toArray]; try simp only [List.set_cons_zero, List.set_cons_succ]
        refine AnyL.pass (i := 18) (some 34) rfl rfl (by kernel_rfl) (by kernel_rfl) (by kernel_rfl) rfl (fun _ _ _ h => h) (by kernel_rfl) ?_
        simp only [Act.put, List.setIfInBounds_toArray]; try simp only [List.set_cons_zero, List.set_cons_succ]
        refine AnyL.pass (i := 19) (some 35) rfl rfl (by kernel_rfl) (by kernel_rfl) (by kernel_rfl) rfl (fun _ _ _ h => h) (by kernel_rfl) ?_
        simp only [Act.put, List.setIfInBounds_toArray]; try simp only [List.set_cons_zero, List.set_cons_succ]
        refine AnyL.pass (i := 20) (some 36) rfl rfl (by kernel_rfl) (by kernel_rfl) (by kernel_rfl) rfl (fun _ _ _ h => h) (by kernel_rfl) ?_
        simp only [Act.put, List.setIfInBounds_toArray]; try simp only [List.set_cons_zero, List.set_cons_succ]
        refine AnyL.pass (i := 21) (some 37) rfl rfl (by kernel_rfl) (by kernel_rfl) (by kernel_rfl) rfl (fun _ _ _ h => h) (by kernel_rfl) ?_
        simp only [Act.put, List.setIfInBounds_toArray]; try simp only [List.set_cons_zero, List.set_cons_succ]
        refine AnyL.pass (i := 22) (some 38) rfl rfl (by kernel_rfl) (by kernel_rfl) (by kernel_rfl) rfl (fun _ _ _ h => h) (by kernel_rfl) ?_
        simp only [Act.put, List.setIfInBounds_toArray]; try simp only [List.set_cons_zero, List.set_cons_succ]
        refine AnyL.pass (i := 23) (some 39) rfl rfl (by kernel_rfl) (by kernel_rfl) (by kernel_rfl) rfl (fun _ _ _ h => h) (by kernel_rfl) ?_
        simp only [Act.put, List.setIfInBounds_toArray]; try simp only [List.set_cons_zero, List.set_cons_succ]
        refine AnyL.pass (i := 24) (some 40) rfl rfl (by kernel_rfl) (by kernel_rfl) (by kernel_rfl) rfl (fun _ _ _ h => h) (by kernel_rfl) ?_
        simp only [Act.put, List.setIfInBounds_toArray]; try simp only [List.set_cons_zero, List.set_cons_succ]
        refine AnyL.pass (i := 25) (some 41) rfl rfl (by kernel_rfl) (by kernel_rfl) (by kernel_rfl) rfl (fun _ _ _ h => h) (by kernel_rfl) ?_
        simp only [Act.put, List.setIfInBounds_toArray]; try simp only [List.set_cons_zero, List.set_cons_succ]
        refine AnyL.pass (i := 26) (some 42) rfl rfl (by kernel_rfl) (by kernel_rfl) (by kernel_rfl) rfl (fun _ _ _ h => h) (by kernel_rfl) ?_
        simp only [Act.put, List.setIfInBounds_toArray]; try simp only [List.set_cons_zero, List.set_cons_succ]
        refine AnyL.pass (i := 27) (some 43) rfl rfl (by kernel_rfl) (by kernel_rfl) (by kernel_rfl) rfl (fun _ _ _ h => h) (by kernel_rfl) ?_
        simp only [Act.put, List.setIfInBounds_toArray]; try simp only [List.set_cons_zero, List.set_cons_succ]
        refine AnyL.pass (i := 28) (some 44) rfl rfl (by kernel_rfl) (by kernel_rfl) (by kernel_rfl) rfl (fun _ _ _ h => h) (by kernel_rfl) ?_
        simp only [Act.put, List.setIfInBounds_toArray]; try simp only [List.set_cons_zero, List.set_cons_succ]
        refine AnyL.pass (i := 29) (some 45) rfl rfl (by kernel_rfl) (by kernel_rfl) (by kernel_rfl) rfl (fun _ _ _ h => h) (by kernel_rfl) ?_
        simp only [Act.put, List.setIfInBounds_toArray]; try simp only [List.set_cons_zero, List.set_cons_succ]
        refine AnyL.pass (i := 30) (some 46) rfl rfl (by kernel_rfl) (by kernel_rfl) (by kernel_rfl) rfl (fun _ _ _ h => h) (by kernel_rfl) ?_
        simp only [Act.put, List.setIfInBounds_toArray]; try simp only [List.set_cons_zero, List.set_cons_succ]
        refine AnyL.pass (i := 31) (some 47) rfl rfl (by kernel_rfl) (by kernel_rfl) (by kernel_rfl) rfl (fun _ _ _ h => h) (by kernel_rfl) ?_
        simp only [Act.put, List.setIfInBounds_toArray]; try simp only [List.set_cons_zero, List.set_cons_succ]
        refine AnyL.pass (i := 32) (some 48) rfl rfl (by kernel_rfl) (by kernel_rfl) (by kernel_rfl) rfl (fun _ _ _ h => h) (by kernel_rfl) ?_
        simp only [Act.put, List.setIfInBounds_toArray]; try simp only [List.set_cons_zero, List.set_cons_succ]
        refine AnyL.pass (i := 33) (some 49) rfl rfl (by kernel_rfl) (by kernel_rfl) (by kernel_rfl) rfl (fun _ _ _ h => h) (by kernel_rfl) ?_
        simp only [Act.put, List.setIfInBounds_toArray]; try simp only [List.set_cons_zero, List.set_cons_succ]
        refine AnyL.pass (i := 34) (some 50) rfl rfl (by kernel_rfl) (by kernel_rfl) (by kernel_rfl) rfl (fun _ _ _ h => h) (by kernel_rfl) ?_
        refine AnyL.pure (i := 35) (v := ?_) (some 51) rfl rfl (by kernel_rfl) (by kernel_rfl) (by kernel_rfl) rfl (fun _ _ _ h => h) (by rfl) (fun ww => ?_) ?_; rotate_left; · (go_simp; (try with_reducible rfl))
        refine AnyL.done (by kernel_rfl) ?_
        go_wp2
        go_roundw
        case rel => exact ⟨k + 1, q + 1, by omega, by rw [hrec2.out], by go_num, rfl⟩
        case measure => simp [intOf]; omega
    · obtain rfl : k = ln := by omega
      clear hrec
      go_wp2
      go_ret
      exact ⟨by rw [hbt]; rfl, q, rfl⟩

set_option maxHeartbeats 400000 in
theorem rnext_any (R : Rf) (w : World) (hR : RfOk w R) : Calls Try.prog 42 #[.pointer (some ⟨R.p, 0, none⟩)] w (TellsN w (R.abs.behind 0)) := by
  have hc := behind_any R 0 w hR
  generalize R.abs.behind 0 = b at *
  replace hc := Lib.hid hc
  clear hR
  go_enter Try.func42, Try.ntmps42
  go_wp2_with (go_at_call 52; refine hc.out.mono ?_; rintro e w' ⟨rfl, q, rfl⟩)
  go_ret
  exact ⟨rfl, q, rfl⟩

def RA.get (r : RA) (k : Nat) : List UInt8 × Nat := r.getD k ([], 0)
def RA.look (r : RA) (n : Int) : List UInt8 × Int := match r.pick n with | none => ([], 231) | some k => ((r.get k).1, 0)
def RA.drop (r : RA) (n : Int) : RA × Int := match r.pick n with | none => (r, 231) | some k => (r.set k ((r.get k).1, 0), 0)
theorem Rf.get_at {R : Rf} {k : Nat} {m : RMsg} (h : R.ms[k]? = some m) : R.abs.get k = (m.l, m.a) := by
  unfold RA.get Rf.abs
  rw [List.getD, List.getElem?_map, h]
  rfl

set_option maxHeartbeats 1000000 in
theorem rlook_any (R : Rf) (n : Int) (w : World) (hR : RfOk w R) : Calls Try.prog 43 #[.pointer (some ⟨R.p, 0, none⟩), .int .i64 n] w (LookP w (R.abs.look n)) := by
  have ht := there_any R n w hR
  unfold RA.look
  cases hf : R.abs.pick n with
  | none =>
    rw [hf] at ht
    simp only [Option.isSome_none] at ht ⊢
    replace ht := Lib.hid ht
    clear hf hR
    go_enter Try.func43, Try.ntmps43
    go_wp2_with (go_at_call 54; refine ht.out.mono ?_; rintro e w' ⟨rfl, rfl⟩)
    go_ret2
    exact ⟨_, rfl, World.ownsRow_nil _ _ _ _, Upd.refl _ _⟩
  | some k =>
    rw [hf] at ht
    simp only [Option.isSome_some] at ht ⊢
    obtain ⟨rfl, l, a, hk, ha⟩ := RA.pick_some hf
    obtain ⟨m, hmk, rfl, rfl, hlt⟩ := Rf.at_abs hk
    rw [Rf.get_at hmk]
    obtain ⟨A, cap, hrv, hc1, hc2, c0, c1, hat⟩ := hR.open_
    obtain ⟨g, rfl, v0, v1⟩ := hat k m hmk
    have hm := hR.most
    have hmem := List.mem_of_getElem? hmk
    have hc := rcopy_any m.v m.l w (hR.byt m hmem).rd (by have := hR.small m hmem; omega)
    replace hc := Lib.hid hc
    replace ht := Lib.hid ht
    generalize R.ms.length = ln at *
    clear hf hk hat hR hrv hmem v1
    go_enter Try.func43, Try.ntmps43
    go_wp2_with (first | (go_at_call 54; refine ht.out.mono ?_; rintro e w' ⟨rfl, rfl⟩) | (go_at_call 53; refine hc.out.mono ?_; rintro e w' ⟨v', rfl, hown, hu⟩; replace hown := Lib.hid hown; replace hu := Lib.hid hu))
    go_ret2
    exact ⟨_, rfl, hown.out, hu.out⟩

section
variable {w w' w1 : World} {R : Rf} {k g n c : Nat} {m : RMsg} {v' : Value} {l' : List UInt8} {a' : Nat}
theorem mem_set_ {α : Type} {l : List α} {i : Nat} {a x : α} (h : x ∈ l.set i a) : x = a ∨ x ∈ l := (List.mem_or_eq_of_mem_set h).symm
theorem RfOk.turn (hR : RfOk w R) (hm : R.ms[k]? = some m) (hu : Upd (fun b => R.rv.ownBlock = some b) w w') (hrow : w'.ownsRow 0 79 2 R.rv R.ms.length (rCells (R.ms.set k ⟨v', l', a'⟩)))
    (hown : OwnB 0 w' v' l') (hl : l'.length ≤ 1048576) (ha : a' ≤ R.ms.length) (hv : ∀ j, v'.ownBlock = some j → m.v.ownBlock = some j ∨ w.heap.size ≤ j) :
    ROn w R w' { R with ms := R.ms.set k ⟨v', l', a'⟩ } := by
  have hmem := List.mem_of_getElem? hm
  refine ⟨⟨?_, by simpa using hrow, ?_, ?_, by simpa using hR.most, ?_⟩, rfl, hu.mono fun j _ hj => .inr (.inl hj), ?_⟩
  · simp only [List.length_set]
    exact hR.blk.upd hu fun h => own_blk_ne hR.row hR.blk (by decide) h
  · intro x hx
    rcases mem_set_ hx with rfl | hx
    · exact hown
    · exact (hR.byt x hx).upd hu fun j hj h => own_own_ne (hR.byt x hx) hR.row (by decide) hj h
  · intro x hx
    rcases mem_set_ hx with rfl | hx
    · exact hl
    · exact hR.small x hx
  · intro x hx
    simp only [List.length_set]
    rcases mem_set_ hx with rfl | hx
    · exact ha
    · exact hR.ats x hx
  · rintro j (rfl | hj | ⟨x, hx, hj⟩)
    · exact .inl (.inl rfl)
    · exact .inl (.inr (.inl hj))
    · rcases mem_set_ hx with rfl | hx
      · exact (hv j hj).imp (fun h => .inr (.inr ⟨m, hmem, h⟩)) id
      · exact .inl (.inr (.inr ⟨x, hx, hj⟩))
/-- A place turns. -/
theorem RfOk.turnA (hR : RfOk w R) (hm : R.ms[k]? = some m) (hrv : R.rv = .slice (some ⟨g, 0, none⟩) n c) (hn : R.ms.length = n) (ha : a' ≤ n) :
    ROn w R (w.setCell ⟨g, k * 2 + 1, none⟩ (.int .i64 a')) { R with ms := R.ms.set k ⟨m.v, m.l, a'⟩ } := by
  have hmem := List.mem_of_getElem? hm
  have hu : Upd (fun b => R.rv.ownBlock = some b) w (w.setCell ⟨g, k * 2 + 1, none⟩ (.int .i64 a')) := (Upd.refl (fun b => R.rv.ownBlock = some b) w).setCell (p := ⟨g, k * 2 + 1, none⟩) (.inl (by rw [hrv]; rfl)) _
  refine hR.turn hm hu ?_ ((hR.byt m hmem).upd hu fun j hj h => own_own_ne (hR.byt m hmem) hR.row (by decide) hj h) (hR.small m hmem) (by omega) fun j hj => .inl hj
  have h := hR.row
  rw [hrv, hn] at h ⊢
  have h2 := (h.stored (k * 2 + 1) (.int .i64 a')).1
  rw [rCells_set]
  simp only
  rw [set_getElem?_self (rCells_v hm)]
  exact h2
/-- A slice turns: new bytes. -/
theorem RfOk.turnV (hR : RfOk w R) (hm : R.ms[k]? = some m) (hrv : R.rv = .slice (some ⟨g, 0, none⟩) n c) (hn : R.ms.length = n) (hu1 : Upd noBlk w w1) (hown : OwnB w.heap.size w1 v' l') (hl : l'.length ≤ 1048576) :
    ROn w R (w1.setCell ⟨g, k * 2, none⟩ v') { R with ms := R.ms.set k ⟨v', l', m.a⟩ } := by
  have hmem := List.mem_of_getElem? hm
  have hu : Upd (fun b => R.rv.ownBlock = some b) w (w1.setCell ⟨g, k * 2, none⟩ v') := (hu1.of_none (fun b => R.rv.ownBlock = some b)).setCell (p := ⟨g, k * 2, none⟩) (.inl (by rw [hrv]; rfl)) _
  have hg : g < w.heap.size := (hR.row.lt g (by rw [hrv]; rfl)).2
  have hu2 : Upd (fun b => b = g) w1 (w1.setCell ⟨g, k * 2, none⟩ v') := (Upd.refl (fun b => b = g) w1).setCell (p := ⟨g, k * 2, none⟩) (.inl rfl) _
  refine hR.turn hm hu ?_ ((hown.upd hu2 fun j hj h => by have := hown.ge j hj; omega).mono (Nat.zero_le _)) hl (hR.ats m hmem) fun j hj => .inr (hown.ge j hj)
  have h := own_upd hR.row hu1 fun _ _ h => h
  rw [hrv, hn] at h ⊢
  have h2 := (h.stored (k * 2) v').1
  rw [rCells_set]
  simp only
  rw [← set_getElem?_self (rCells_a hm), List.set_comm _ _ (by omega)] at h2
  exact h2
end
theorem Rf.abs_set {R : Rf} {k : Nat} {x : RMsg} : Rf.abs { R with ms := R.ms.set k x } = R.abs.set k (x.l, x.a) := by
  unfold Rf.abs
  rw [List.map_set]
  rfl

def RTakeP (w : World) (R : Rf) (s : RA) (l : List UInt8) (er : Int) (e : Ending) (w' : World) : Prop :=
  ∃ v R', e = .returned (.tuple #[v, .int .i64 er]) ∧ OwnB w.heap.size w' v l ∧ ROn w R w' R' ∧ R'.abs = s ∧ ∀ k, v.ownBlock = some k → ¬ R'.foot k

set_option maxHeartbeats 1000000 in
theorem rtake_any (R : Rf) (n : Int) (w : World) (hR : RfOk w R) : Calls Try.prog 44 #[.pointer (some ⟨R.p, 0, none⟩), .int .i64 n] w (RTakeP w R (R.abs.drop n).1 (R.abs.look n).1 (R.abs.look n).2) := by
  have hl := rlook_any R n w hR
  unfold RA.drop
  cases hf : R.abs.pick n with
  | none =>
    have e1 : R.abs.look n = ([], 231) := by unfold RA.look; rw [hf]
    rw [e1] at hl ⊢
    simp only
    replace hl := Lib.hid hl
    replace hR := Lib.hid hR
    clear hf e1
    go_enter Try.func44, Try.ntmps44
    go_wp2_with (go_at_call 43; refine hl.out.mono ?_; rintro e w' ⟨v', rfl, hown, hu⟩; replace hown := Lib.hid hown; replace hu := Lib.hid hu)
    go_ret2
    refine ⟨_, R, rfl, hown.out, ROn.of_none hR.out hu.out, rfl, fun k hk hf => ?_⟩
    have := hown.out.ge k hk
    have := hR.out.lt k hf
    omega
  | some k =>
    have e1 : R.abs.look n = ((R.abs.get k).1, 0) := by unfold RA.look; rw [hf]
    rw [e1] at hl ⊢
    obtain ⟨rfl, l, a, hk, ha⟩ := RA.pick_some hf
    obtain ⟨m, hmk, rfl, rfl, hlt⟩ := Rf.at_abs hk
    rw [Rf.get_at hmk] at hl ⊢
    simp only at hl ⊢
    obtain ⟨A, cap, hrv, hc1, hc2, c0, c1, hat⟩ := hR.open_
    obtain ⟨g, rfl, v0, v1⟩ := hat k m hmk
    have hm := hR.most
    have hfz : w.frozen? ⟨g, k * 2 + 1, none⟩ = false := by
      have h := hR.row
      rw [hrv] at h
      exact World.ownsRow.frozenAt h _
    replace hl := Lib.hid hl
    have hgw : g < w.heap.size := (hR.row.lt g (by rw [hrv]; rfl)).2
    obtain ⟨ln, hln⟩ : ∃ ln, ln = R.ms.length := ⟨_, rfl⟩
    rw [← hln] at hrv hc1 c0 hlt hm
    replace hln := Lib.hid hln
    replace hrv := Lib.hid hrv
    replace hR := Lib.hid hR
    replace hmk := Lib.hid hmk
    clear hf hk hat e1 v0 c1
    have hkw : IntKind.i64.wrap (k : Int) = k := by rw [IntKind.wrap_i64]; omega
    go_enter Try.func44, Try.ntmps44
    go_wp2_with (go_at_call 43; refine hl.out.mono ?_; rintro e w' ⟨v', rfl, hown, hu⟩; have d0 := hu.cell_some c0 id; have d1 := hu.cell_some v1 id; have d2 := hu.free hgw hfz id; replace hown := Lib.hid hown; replace hu := Lib.hid hu)
    go_ret2
    have hR1 := hR.out.keep hu.out
    have hon := hR1.turnA (a' := 0) hmk.out hrv.out hln.out.symm (Nat.zero_le _)
    refine ⟨_, _, rfl, hown.out.upd hon.upd fun j hj hf => ?_, (ROn.of_none hR.out hu.out).trans hon, by rw [Rf.abs_set, Rf.get_at hmk.out], fun j hj hf => ?_⟩
    · have h1 := hown.out.ge j hj
      have h2 := hR.out.lt j hf
      omega
    · have h1 := hown.out.ge j hj
      have h3 := (hown.out.lt j hj)
      rcases hon.into j hf with h | h
      · have h2 := hR.out.lt j h
        omega
      · omega

set_option maxHeartbeats 1000000 in
theorem rdrop_any (R : Rf) (n : Int) (w : World) (hR : RfOk w R) : Calls Try.prog 45 #[.pointer (some ⟨R.p, 0, none⟩), .int .i64 n] w (RDoes w R (.int .i64 (R.abs.drop n).2) (R.abs.drop n).1) := by
  have hl := rtake_any R n w hR
  have e1 : (R.abs.look n).2 = (R.abs.drop n).2 := by
    unfold RA.look RA.drop
    cases R.abs.pick n <;> rfl
  rw [e1] at hl
  generalize R.abs.drop n = x at *
  obtain ⟨s, er⟩ := x
  replace hl := Lib.hid hl
  clear e1
  go_enter Try.func45, Try.ntmps45
  go_wp2_with (go_at_call 44; refine hl.out.mono ?_; rintro e w' ⟨v', R', rfl, -, hon, hab, -⟩; replace hon := Lib.hid hon; replace hab := Lib.hid hab)
  go_ret
  exact ⟨R', rfl, hon.out, hab.out⟩

end Go.Proofs.Ytfnlemdlngdaiaa
