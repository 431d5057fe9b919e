/-
  SHA-256's small functions: that they end, and of what kind their answers are.
-/
import Derived.Test.YtedaapcmcimepaaGreatDoorMem
import Derived.Test.YtedaapcmcimepaaGreatDoorOrd
import Derived.Test.YtedaapcmcimepaaGreatDoorProg
import Derived.BigQuiet
namespace Go.Proofs.YtedaapcmcimepaaGreatDoor
open Go.RowKit

/-- A 32 bit word is told; nothing has turned. -/
def TellsW (w : World) (e : Ending) (w' : World) : Prop := (∃ x : Int, e = .returned (.int .u32 x)) ∧ w = w'

theorem and31 (a : Int) : ∃ k : Nat, k < 32 ∧ Go.bits .and .u64 a 31 = k := by
  refine ⟨(a % 32).toNat, by omega, ?_⟩
  show IntKind.u64.wrap ((BitVec.ofInt 64 a &&& BitVec.ofInt 64 31).toNat : Int) = _
  rw [BitVec.toNat_and, BitVec.toNat_ofInt, show (BitVec.ofInt 64 31).toNat = 2 ^ 5 - 1 from rfl, Nat.and_two_pow_sub_one_eq_mod]
  simp only [IntKind.wrap, IntKind.signed, IntKind.bits, Nat.reducePow]
  simp
  omega

set_option maxHeartbeats 400000 in
theorem rotate_any (x n : Int) (w : World) : Calls Tryz.prog 104 #[.int .u32 x, .int .i64 n] w (TellsW w) := by
  obtain ⟨s, hs, es⟩ := and31 (IntKind.u64.wrap n)
  have h0 : (0 : Int) ≤ s := by omega
  have h1 : (s : Int) ≤ 32 := by omega
  have h2 : IntKind.u64.wrap (32 - (s : Int)) = 32 - s := by
    simp only [IntKind.wrap, IntKind.signed, IntKind.bits]
    simp
    omega
  have h3 : (0 : Int) ≤ 32 - s := by omega
  have h4 : (32 : Int) - s ≤ 32 := by omega
  go_enter Tryz.func104, Tryz.ntmps104
  go_wp2
  go_ret
  exact ⟨⟨_, rfl⟩, rfl⟩

set_option maxHeartbeats 400000 in
theorem right_any (x n : Int) (w : World) : Calls Tryz.prog 86 #[.int .u32 x, .int .i64 n] w (TellsW w) := by
  have hc := rotate_any x (wrap64 (-n)) w
  replace hc := Lib.hid hc
  go_enter Tryz.func86, Tryz.ntmps86
  go_wp2_with (go_at_call 104; refine hc.out.mono ?_; rintro e w' ⟨⟨y, rfl⟩, rfl⟩)
  go_ret
  exact ⟨⟨_, rfl⟩, rfl⟩

end Go.Proofs.YtedaapcmcimepaaGreatDoor
