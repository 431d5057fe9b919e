/-
  The numbers under which this dump holds the library's locks' functions and types, and that it holds them.
-/
import Derived.Test.YtedaapcmcimepaaGreatDoorProg
import Derived.Conc.RwLib
import Derived.Conc.MuData
import Derived.KernelRfl
namespace Go.Proofs
abbrev Tryz.muLink : Go.Conc.Locks.MuLink := { lock := 17, unlock := 18, ilock := 31, iunlock := 32, lockSlow := 54, unlockSlow := 57, disable := 50, enable := 52, acquire := 53, relMerge := 55, cas32 := 51, add32 := 56, tMutex := 54, tIMutex := 52, tPMutex := 106, tPIMutex := 123, tPI32 := 125, tUP := 127, tNoCopy := 49, tU32 := 50 }
theorem Tryz.muLib : Go.Conc.Locks.MuLib Tryz.prog Tryz.muLink :=
  ⟨Tryz.func17, Tryz.func18, Tryz.func31, Tryz.func32, Tryz.func50, Tryz.func52, Tryz.func53, Tryz.func55, Tryz.func51, Tryz.func56, Tryz.underlying52, Tryz.runUnderlying52, Tryz.sizeOf52, Tryz.isAgg52, Tryz.zeroValue52, Tryz.underlying54, Tryz.runUnderlying54, Tryz.sizeOf54, Tryz.isAgg54, Tryz.zeroValue54, Tryz.underlying106, Tryz.runUnderlying106, Tryz.sizeOf106, Tryz.isAgg106, Tryz.zeroValue106, Tryz.underlying123, Tryz.runUnderlying123, Tryz.sizeOf123, Tryz.isAgg123, Tryz.zeroValue123, Tryz.underlying125, Tryz.runUnderlying125, Tryz.sizeOf125, Tryz.isAgg125, Tryz.zeroValue125, Tryz.underlying127, Tryz.runUnderlying127, Tryz.sizeOf127, Tryz.isAgg127, Tryz.zeroValue127, Tryz.underlying49, Tryz.runUnderlying49, Tryz.sizeOf49, Tryz.isAgg49, Tryz.zeroValue49, Tryz.underlying21, Tryz.runUnderlying21, Tryz.sizeOf21, Tryz.isAgg21, Tryz.zeroValue21, (by kernel_rfl)⟩
theorem Tryz.muData : Go.Conc.Locks.MuData Tryz.prog Tryz.muLink := ⟨Tryz.underlying50, by kernel_rfl, by kernel_rfl, by kernel_rfl, by kernel_rfl, by kernel_rfl⟩
end Go.Proofs
