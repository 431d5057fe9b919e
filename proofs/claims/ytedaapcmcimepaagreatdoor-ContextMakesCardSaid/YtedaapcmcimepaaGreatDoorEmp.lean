/-
  A context without clauses: what it tells.
-/
import Derived.Test.YtedaapcmcimepaaGreatDoorCtx
namespace Go.Proofs.YtedaapcmcimepaaGreatDoor
open Go.RowKit

def NoneP (w : World) (e : Ending) (w' : World) : Prop := e = .returned (.tuple #[]) ∧ Hid (w = w')
def RetP (v : Value) (w : World) (e : Ending) (w' : World) : Prop := e = .returned v ∧ Hid (w = w')

set_option maxRecDepth 100000 in
set_option maxHeartbeats 1000000 in
theorem len64_zero (w : World) : Calls Tryz.prog 77 #[.int .u64 0] w (RetP (.int .i64 0) w) := by
  go_enter Tryz.func77, Tryz.ntmps77
  go_wp2
  go_ret
  exact ⟨by kernel_rfl, Lib.hid rfl⟩

set_option maxHeartbeats 1000000 in
theorem len_zero (w : World) : Calls Tryz.prog 47 #[.int .u64 0] w (RetP (.int .i64 0) w) := by
  go_enter Tryz.func47, Tryz.ntmps47
  go_wp2_with (go_at_call 77; refine (len64_zero _).mono ?_; rintro e w1 ⟨rfl, hw⟩; obtain rfl := hw.out; clear hw)
  go_ret
  exact ⟨rfl, Lib.hid rfl⟩

set_option maxHeartbeats 1000000 in
theorem isort68_zero (v f : Value) (w : World) : Calls Tryz.prog 68 #[v, .int .i64 0, .int .i64 0, f] w (NoneP w) := by
  go_enter Tryz.func68, Tryz.ntmps68
  go_wp2_with fail
  go_loopw [8] (fun i wr => i = .int .i64 1 ∧ Hid (w = wr)) (fun _ _ => 0)
  case atStart => exact ⟨rfl, Lib.hid rfl⟩
  case round =>
    obtain ⟨rfl, hw⟩ := hrel
    go_wp2
    refine bodyPost_end (results_none rfl _ _ _) rfl ?_
    exact ⟨rfl, hw⟩

set_option maxHeartbeats 1000000 in
theorem isort87_zero (v f : Value) (w : World) : Calls Tryz.prog 87 #[v, .int .i64 0, .int .i64 0, f] w (NoneP w) := by
  go_enter Tryz.func87, Tryz.ntmps87
  go_wp2_with fail
  go_loopw [8] (fun i wr => i = .int .i64 1 ∧ Hid (w = wr)) (fun _ _ => 0)
  case atStart => exact ⟨rfl, Lib.hid rfl⟩
  case round =>
    obtain ⟨rfl, hw⟩ := hrel
    go_wp2
    refine bodyPost_end (results_none rfl _ _ _) rfl ?_
    exact ⟨rfl, hw⟩

set_option maxRecDepth 100000 in
set_option maxHeartbeats 1000000 in
theorem pdq46_zero (v f : Value) (w : World) : Calls Tryz.prog 46 #[v, .int .i64 0, .int .i64 0, .int .i64 0, f] w (NoneP w) := by
  go_enter Tryz.func46, Tryz.ntmps46
  go_wp2_with fail
  go_loopw [1, 2, 3, 10, 11] (fun a b c _ _ wr => a = .int .i64 0 ∧ b = .int .i64 0 ∧ c = .int .i64 0 ∧ Hid (w = wr)) (fun _ _ _ _ _ _ => 0)
  case atStart => exact ⟨rfl, rfl, rfl, Lib.hid rfl⟩
  case round =>
    obtain ⟨rfl, rfl, rfl, hw⟩ := hrel
    go_wp2_with (go_at_call 68; refine (isort68_zero _ _ _).mono ?_; rintro e w1 ⟨rfl, hw1⟩; obtain rfl := hw1.out; clear hw1)
    refine bodyPost_ret (results_none rfl _ _ _) rfl ?_
    exact ⟨rfl, hw⟩

set_option maxRecDepth 100000 in
set_option maxHeartbeats 1000000 in
theorem pdq61_zero (v f : Value) (w : World) : Calls Tryz.prog 61 #[v, .int .i64 0, .int .i64 0, .int .i64 0, f] w (NoneP w) := by
  go_enter Tryz.func61, Tryz.ntmps61
  go_wp2_with fail
  go_loopw [1, 2, 3, 10, 11] (fun a b c _ _ wr => a = .int .i64 0 ∧ b = .int .i64 0 ∧ c = .int .i64 0 ∧ Hid (w = wr)) (fun _ _ _ _ _ _ => 0)
  case atStart => exact ⟨rfl, rfl, rfl, Lib.hid rfl⟩
  case round =>
    obtain ⟨rfl, rfl, rfl, hw⟩ := hrel
    go_wp2_with (go_at_call 87; refine (isort87_zero _ _ _).mono ?_; rintro e w1 ⟨rfl, hw1⟩; obtain rfl := hw1.out; clear hw1)
    refine bodyPost_ret (results_none rfl _ _ _) rfl ?_
    exact ⟨rfl, hw⟩

set_option maxHeartbeats 1000000 in
theorem sort26_zero (A : Option Addr) (c : Nat) (f : Value) (w : World) : Calls Tryz.prog 26 #[.slice A 0 c, f] w (NoneP w) := by
  go_enter Tryz.func26, Tryz.ntmps26
  go_wp2_with (first | (go_at_call 47; refine (len_zero _).mono ?_; rintro e w1 ⟨rfl, hw⟩; obtain rfl := hw.out; clear hw) | (go_at_call 46; refine (pdq46_zero _ _ _).mono ?_; rintro e w1 ⟨rfl, hw⟩; obtain rfl := hw.out; clear hw))
  refine bodyPost_end (results_none rfl _ _ _) rfl ?_
  exact ⟨rfl, Lib.hid rfl⟩

set_option maxHeartbeats 1000000 in
theorem sort42_zero (A : Option Addr) (c : Nat) (f : Value) (w : World) : Calls Tryz.prog 42 #[.slice A 0 c, f] w (NoneP w) := by
  go_enter Tryz.func42, Tryz.ntmps42
  go_wp2_with (first | (go_at_call 47; refine (len_zero _).mono ?_; rintro e w1 ⟨rfl, hw⟩; obtain rfl := hw.out; clear hw) | (go_at_call 61; refine (pdq61_zero _ _ _).mono ?_; rintro e w1 ⟨rfl, hw⟩; obtain rfl := hw.out; clear hw))
  refine bodyPost_end (results_none rfl _ _ _) rfl ?_
  exact ⟨rfl, Lib.hid rfl⟩

set_option maxHeartbeats 1000000 in
theorem compact_zero (A : Option Addr) (c : Nat) (f : Value) (w : World) : Calls Tryz.prog 44 #[.slice A 0 c, f] w (RetP (.slice A 0 c) w) := by
  go_enter Tryz.func44, Tryz.ntmps44
  go_wp2
  go_ret
  exact ⟨rfl, Lib.hid rfl⟩

/-- An empty slice is told; nothing old has turned. -/
def EmptyP (w : World) (e : Ending) (w' : World) : Prop := ∃ A c, e = .returned (.slice A 0 c) ∧ Upd noBlk w w'

theorem Tryz.info100 : ∃ i z, Tryz.prog.info? 100 = some i ∧ i.zero = some z := by
  have h : ((Tryz.prog.info? 100).bind (·.zero)).isSome = true := by kernel_rfl
  obtain ⟨z, hz⟩ := Option.isSome_iff_exists.1 h
  obtain ⟨i, hi, h2⟩ := Option.bind_eq_some_iff.1 hz
  exact ⟨i, z, hi, h2⟩

set_option maxRecDepth 100000 in
set_option maxHeartbeats 1000000 in
theorem cset_zero (A : Option Addr) (c : Nat) (w : World) : Calls Tryz.prog 25 #[.slice A 0 c] w (EmptyP w) := by
  obtain ⟨i, z, hi, hz⟩ := Tryz.info100
  replace hi := Lib.hid hi
  replace hz := Lib.hid hz
  go_enter Tryz.func25, Tryz.ntmps25
  go_wp2_with (at_make; refine wpList_make_own _ rfl _ _ 40 rfl w.heap.size 100 i z i.size Tryz.underlying40 hi.out hz.out rfl .i64 .i64 0 0 rfl rfl rfl (by simp) (by simp) (Nat.le_refl _) ?_; intro w1 _ hg; have hu := Lib.hid ((Upd.refl noBlk w).grown hg fun k h => by cases h); clear hg)
  go_loopw [3, 11] (fun o i wr => o = .slice (some ⟨w.heap.size, 0, none⟩) 0 0 ∧ i = .int .i64 0 ∧ Hid (w1 = wr)) (fun _ _ _ => 0)
  case atStart => exact ⟨rfl, rfl, Lib.hid rfl⟩
  case round =>
    obtain ⟨rfl, rfl, hw⟩ := hrel
    obtain rfl := hw.out
    clear hw
    go_wp2_with (first | (go_at_call 42; refine (sort42_zero _ _ _ _).mono ?_; rintro e w2 ⟨rfl, hw⟩; obtain rfl := hw.out; clear hw) | (go_at_call 44; refine (compact_zero _ _ _ _).mono ?_; rintro e w2 ⟨rfl, hw⟩; obtain rfl := hw.out; clear hw))
    go_ret
    exact ⟨_, _, rfl, hu.out⟩

set_option maxHeartbeats 1000000 in
theorem sclone_zero (w : World) : Calls Tryz.prog 49 #[.slice none 0 0] w (RetP (.slice none 0 0) w) := by
  have hn := fun w : World => Lib.run_eql_slice_nil (P := Tryz.prog) w 40 100 none 0 0 0 0 Tryz.underlying40
  go_enter Tryz.func49, Tryz.ntmps49
  go_wp2
  go_ret
  exact ⟨rfl, Lib.hid rfl⟩

theorem CtxB.cells {w : World} {g p : Nat} {s : List UInt8} (h : CtxB w g p s) : w.cell? ⟨g, 1, none⟩ = some (.string ⟨⟨s⟩⟩) ∧ w.cell? ⟨g, 2, none⟩ = some (.slice none 0 0) ∧ w.cell? ⟨g, 3, none⟩ = some (.slice none 0 0) := by
  obtain ⟨n, hb⟩ := h
  exact ⟨by rw [hb.cell]; rfl, by rw [hb.cell]; rfl, by rw [hb.cell]; rfl⟩
theorem CtxB.same {w w' : World} {g p : Nat} {s : List UInt8} (h : CtxB w g p s) (hu : Upd noBlk w w') : CtxB w' g p s := by
  obtain ⟨n, hb⟩ := h
  exact ⟨n, hb.upd hu id⟩

set_option maxHeartbeats 1000000 in
theorem own_zero (g p : Nat) (s : List UInt8) (w : World) (h : CtxB w g p s) : Calls Tryz.prog 12 #[.pointer (some ⟨g, 0, none⟩)] w (EmptyP w) := by
  obtain ⟨c1, c2, c3⟩ := h.cells
  clear h
  go_enter Tryz.func12, Tryz.ntmps12
  go_wp2_with (go_at_call 25; refine (cset_zero _ _ _).mono ?_; rintro e w2 ⟨A, c, rfl, hu⟩; replace hu := Lib.hid hu)
  go_ret
  exact ⟨_, _, rfl, hu.out⟩

set_option maxHeartbeats 1000000 in
theorem name_zero (g p : Nat) (s : List UInt8) (w : World) (h : CtxB w g p s) : Calls Tryz.prog 15 #[.pointer (some ⟨g, 0, none⟩)] w (RetP (.string ⟨⟨s⟩⟩) w) := by
  obtain ⟨c1, c2, c3⟩ := h.cells
  clear h
  go_enter Tryz.func15, Tryz.ntmps15
  go_wp2
  go_ret
  exact ⟨rfl, Lib.hid rfl⟩

set_option maxHeartbeats 1000000 in
theorem certs_zero (g p : Nat) (s : List UInt8) (w : World) (h : CtxB w g p s) : Calls Tryz.prog 13 #[.pointer (some ⟨g, 0, none⟩)] w (EmptyP w) := by
  obtain ⟨c1, c2, c3⟩ := h.cells
  clear h
  go_enter Tryz.func13, Tryz.ntmps13
  go_wp2_with fail
  go_loopw [3, 12] (fun o i wr => o = .slice none 0 0 ∧ i = .int .i64 0 ∧ Hid (w = wr)) (fun _ _ _ => 0)
  case atStart => exact ⟨rfl, rfl, Lib.hid rfl⟩
  case round =>
    obtain ⟨rfl, rfl, hw⟩ := hrel
    obtain rfl := hw.out
    clear hw
    go_wp2_with (go_at_call 26; refine (sort26_zero _ _ _ _).mono ?_; rintro e w2 ⟨rfl, hw⟩; obtain rfl := hw.out; clear hw)
    go_ret
    exact ⟨_, _, rfl, Upd.refl _ _⟩

set_option maxHeartbeats 1000000 in
theorem all_zero (g p : Nat) (s : List UInt8) (w : World) (h : CtxB w g p s) : Calls Tryz.prog 30 #[.pointer (some ⟨g, 0, none⟩)] w (EmptyP w) := by
  obtain ⟨c1, c2, c3⟩ := h.cells
  clear h
  go_enter Tryz.func30, Tryz.ntmps30
  go_wp2_with (go_at_call 49; refine (sclone_zero _).mono ?_; rintro e w2 ⟨rfl, hw⟩; obtain rfl := hw.out; clear hw)
  go_loopw [3, 16] (fun o i wr => o = .slice none 0 0 ∧ i = .int .i64 0 ∧ Hid (w = wr)) (fun _ _ _ => 0)
  case atStart => exact ⟨rfl, rfl, Lib.hid rfl⟩
  case round =>
    obtain ⟨rfl, rfl, hw⟩ := hrel
    obtain rfl := hw.out
    clear hw
    go_wp2
    go_ret
    exact ⟨_, _, rfl, Upd.refl _ _⟩

set_option maxHeartbeats 1000000 in
theorem clauses_zero (g p : Nat) (s : List UInt8) (w : World) (h : CtxB w g p s) : Calls Tryz.prog 14 #[.pointer (some ⟨g, 0, none⟩)] w (EmptyP w) := by
  have hc := Lib.hid (all_zero g p s w h)
  clear h
  go_enter Tryz.func14, Tryz.ntmps14
  go_wp2_with (first | (go_at_call 30; refine hc.out.mono ?_; rintro e w1 ⟨A1, c1, rfl, hu1⟩; replace hu1 := Lib.hid hu1) | (go_at_call 25; refine (cset_zero _ _ _).mono ?_; rintro e w2 ⟨A, c, rfl, hu⟩; replace hu := Lib.hid hu))
  go_ret
  exact ⟨_, _, rfl, hu1.out.then_none hu.out⟩
end Go.Proofs.YtedaapcmcimepaaGreatDoor
