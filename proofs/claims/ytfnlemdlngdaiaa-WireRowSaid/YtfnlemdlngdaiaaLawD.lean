/-
  WireBack: flips and swaps turned back, a copy dropped, leave the row; a cut leaves what is ahead of it.
-/
import Derived.Test.YtfnlemdlngdaiaaPlA
namespace Go.Proofs.Ytfnlemdlngdaiaa
open Go.RowKit

/-- All that is there, but the wire. -/
def rest (w : World) (W : Wr) : Nat → Prop := fun k => k < w.heap.size ∧ ¬ W.foot k
section
variable {F : Nat → Prop} {w w' : World} {W W' : Wr} {s s' : WA}
theorem at_rest (h : At F w W s) : At (rest w W) w W s := ⟨h.ok, h.abs, fun _ hk hF => hF.2 hk, fun _ hF => hF.1⟩
theorem at_into (h : At F w W s) : ∀ k, F k → rest w W k := fun k hk => ⟨h.old k hk, fun hf => h.far k hf hk⟩

theorem at_many (h : At F w W s) : s.row.length ≤ s.given := by
  rw [← h.abs]
  have := h.ok.many
  simpa [Wr.abs] using this

/-- Messages that lie where F says. -/
structure Kept (F : Nat → Prop) (w : World) (v : Value) (ms : List Msg) : Prop where
  own : OwnMs 0 w v ms
  into : ∀ k, (v.ownBlock = some k ∨ ∃ m ∈ ms, m.v.ownBlock = some k) → F k
theorem Kept.upd {v : Value} {ms : List Msg} (h : Kept F w v ms) (hu : Upd (fun k => ¬ F k) w w') : Kept F w' v ms := ⟨h.own.upd hu fun k hk hn => hn (h.into k hk), h.into⟩
theorem Kept.mono {G : Nat → Prop} {v : Value} {ms : List Msg} (h : Kept F w v ms) (hG : ∀ k, F k → G k) : Kept G w v ms := ⟨h.own, fun k hk => hG k (h.into k hk)⟩
theorem Kept.rd {v : Value} {ms : List Msg} (h : Kept F w v ms) : RdM w v ms := h.own.rd

/-- The row is told: the wire as it was, the row kept. -/
theorem at_waits (h : At F w W s) : Calls Try.prog 33 #[.pointer (some ⟨W.p, 0, none⟩)] w fun e w' =>
    ∃ (v : Value) (ms : List Msg) (G : Nat → Prop), e = .returned v ∧ ms.map Msg.abs = s.row ∧ (∀ k, F k → G k) ∧ At G w' W s ∧ Kept G w' v ms ∧ Upd noBlk w w' := by
  have hc := waiting_any W w h.ok
  rw [h.abs] at hc
  refine hc.mono ?_
  rintro e w' ⟨v, ms, rfl, ho, hm, hu⟩
  have h' := h.none hu
  exact ⟨v, ms, _, rfl, hm, at_into h', at_rest h', ⟨ho.mono (Nat.zero_le _), fun k hk => ⟨(ho.lt k hk).2, fun hf => by have := h.ok.lt k hf; have := (ho.lt k hk).1; omega⟩⟩, hu⟩
end

def backCells (v : Value) (n m a b : Int) : Array Value := #[v, .int .i64 n, .int .i64 m, .int .i64 a, .int .i64 b]

theorem rd_take {w : World} {A : Option Addr} {n c : Nat} {l : List UInt8} (h : RdB w (.slice A n c) l) {k : Nat} (hk : k ≤ l.length) : RdB w (.slice A k c) (l.take k) := by
  obtain ⟨h0, A', c', e, h1, h2, h3, h4⟩ := h
  simp only [Value.slice.injEq] at e
  obtain ⟨rfl, rfl, rfl⟩ := e
  have hl : (l.take k).length = k := by rw [List.length_take]; omega
  refine ⟨by rw [bvs_length, Nat.mul_one], A, c, by rw [hl], by omega, h2, fun h => by have := h3 h; omega, fun j u hj => h4 j u ?_⟩
  unfold bvs at hj ⊢
  rw [List.map_take, List.getElem?_take] at hj
  split at hj
  · exact hj
  · cases hj

def i0' (s : WA) : Nat := s.row.length
theorem and3 (a : Int) : ∃ k : Nat, k < 4 ∧ Go.bits .and .i64 a 3 = k := by
  refine ⟨(a % 4).toNat, by omega, ?_⟩
  show IntKind.i64.wrap ((BitVec.ofInt 64 a &&& BitVec.ofInt 64 3).toNat : Int) = _
  rw [BitVec.toNat_and, BitVec.toNat_ofInt, show (BitVec.ofInt 64 3).toNat = 2 ^ 2 - 1 from rfl, Nat.and_two_pow_sub_one_eq_mod, IntKind.wrap_i64]
  simp only [Nat.reducePow]
  omega
theorem and255 (a : Int) : Go.bits .and .i64 a 255 = a % 256 := by
  show IntKind.i64.wrap ((BitVec.ofInt 64 a &&& BitVec.ofInt 64 255).toNat : Int) = _
  rw [BitVec.toNat_and, BitVec.toNat_ofInt, show (BitVec.ofInt 64 255).toNat = 2 ^ 8 - 1 from rfl, Nat.and_two_pow_sub_one_eq_mod, IntKind.wrap_i64]
  simp only [Nat.reducePow]
  omega

set_option maxRecDepth 100000 in
set_option maxHeartbeats 2000000 in
theorem back_true (v : Value) (n m a b : Int) (os : List OpD) (w : World) (hs : ScriptAt w v os) : Calls Try.prog 12 #[.agg #[v, .int .i64 n, .int .i64 m, .int .i64 a, .int .i64 b]] w (TrueP w) := by
  have hv : ∃ A l c, v = .slice A l c := by obtain ⟨A, c, e, -⟩ := hs.form; exact ⟨A, _, c, e⟩
  obtain ⟨vA, vl, vc, rfl⟩ := hv
  have hu0 := (Upd.refl noBlk w).alloc (.cells #[.slice vA vl vc, .int .i64 n, .int .i64 m, .int .i64 a, .int .i64 b] 59)
  have hb0 := Blk.new w 59 #[.slice vA vl vc, .int .i64 n, .int .i64 m, .int .i64 a, .int .i64 b]
  have hs1 := Lib.hid (hs.old (hu0.of_none _))
  have c1 : (w.alloc (.cells #[.slice vA vl vc, .int .i64 n, .int .i64 m, .int .i64 a, .int .i64 b] 59)).cell? ⟨w.heap.size, 1, none⟩ = some (.int .i64 n) := by rw [hb0.cell]; rfl
  have c2 : (w.alloc (.cells #[.slice vA vl vc, .int .i64 n, .int .i64 m, .int .i64 a, .int .i64 b] 59)).cell? ⟨w.heap.size, 2, none⟩ = some (.int .i64 m) := by rw [hb0.cell]; rfl
  have c3 : (w.alloc (.cells #[.slice vA vl vc, .int .i64 n, .int .i64 m, .int .i64 a, .int .i64 b] 59)).cell? ⟨w.heap.size, 3, none⟩ = some (.int .i64 a) := by rw [hb0.cell]; rfl
  have c4 : (w.alloc (.cells #[.slice vA vl vc, .int .i64 n, .int .i64 m, .int .i64 a, .int .i64 b] 59)).cell? ⟨w.heap.size, 4, none⟩ = some (.int .i64 b) := by rw [hb0.cell]; rfl
  have c0 : (w.alloc (.cells #[.slice vA vl vc, .int .i64 n, .int .i64 m, .int .i64 a, .int .i64 b] 59)).cell? ⟨w.heap.size, 0, none⟩ = some (.slice vA vl vc) := by rw [hb0.cell]; rfl
  clear hs hb0
  replace hu0 := Lib.hid hu0
  go_enter Try.func12, Try.ntmps12
  go_wp2_with fail
  generalize w.alloc (.cells #[.slice vA vl vc, .int .i64 n, .int .i64 m, .int .i64 a, .int .i64 b] 59) = w1 at *
  have hS : w1.drew.cell? ⟨w.heap.size, 1, none⟩ = some (.int .i64 n) ∧ w1.drew.cell? ⟨w.heap.size, 2, none⟩ = some (.int .i64 m) ∧ w1.drew.cell? ⟨w.heap.size, 3, none⟩ = some (.int .i64 a) ∧ w1.drew.cell? ⟨w.heap.size, 4, none⟩ = some (.int .i64 b) := ⟨c1, c2, c3, c4⟩
  refine wp_region_L (n := 12) (fun w' : World => w'.cell? ⟨w.heap.size, 1, none⟩ = some (.int .i64 n) ∧ w'.cell? ⟨w.heap.size, 2, none⟩ = some (.int .i64 m) ∧ w'.cell? ⟨w.heap.size, 3, none⟩ = some (.int .i64 a) ∧ w'.cell? ⟨w.heap.size, 4, none⟩ = some (.int .i64 b)) [] [0, 1, 2, 3, 4, 5, 6, 7, 8, 9, 10, 11] (by kernel_rfl) rfl ?_
  refine AnyL.pure (i := 0) (v := ?_) (some 18) rfl rfl (by kernel_rfl) (by kernel_rfl) (by kernel_rfl) rfl (fun _ _ _ h => h) (by rfl) (fun ww => ?_) ?_; rotate_left; · (go_simp; (try with_reducible rfl))
  refine AnyL.take (i := 1) (v := ?_) (some 19) rfl rfl (by kernel_rfl) (by kernel_rfl) (by kernel_rfl) rfl (by kernel_rfl) (fun _ _ _ h => h) (by rfl) (fun ww hww => ?_) hS ?_; rotate_left; · (obtain ⟨hs0, hs1, hs2, hs3⟩ := hww; go_simp; (try with_reducible rfl))
  refine AnyL.pure (i := 2) (v := ?_) (some 20) rfl rfl (by kernel_rfl) (by kernel_rfl) (by kernel_rfl) rfl (fun _ _ _ h => h) (by rfl) (fun ww => ?_) ?_; rotate_left; · (go_simp; (try with_reducible rfl))
  refine AnyL.take (i := 3) (v := ?_) (some 21) rfl rfl (by kernel_rfl) (by kernel_rfl) (by kernel_rfl) rfl (by kernel_rfl) (fun _ _ _ h => h) (by rfl) (fun ww hww => ?_) hS ?_; rotate_left; · (obtain ⟨hs0, hs1, hs2, hs3⟩ := hww; go_simp; (try with_reducible rfl))
  refine AnyL.pure (i := 4) (v := ?_) (some 22) rfl rfl (by kernel_rfl) (by kernel_rfl) (by kernel_rfl) rfl (fun _ _ _ h => h) (by rfl) (fun ww => ?_) ?_; rotate_left; · (go_simp; (try with_reducible rfl))
  refine AnyL.take (i := 5) (v := ?_) (some 23) rfl rfl (by kernel_rfl) (by kernel_rfl) (by kernel_rfl) rfl (by kernel_rfl) (fun _ _ _ h => h) (by rfl) (fun ww hww => ?_) hS ?_; rotate_left; · (obtain ⟨hs0, hs1, hs2, hs3⟩ := hww; go_simp; (try with_reducible rfl))
  refine AnyL.pure (i := 6) (v := ?_) (some 24) rfl rfl (by kernel_rfl) (by kernel_rfl) (by kernel_rfl) rfl (fun _ _ _ h => h) (by rfl) (fun ww => ?_) ?_; rotate_left; · (go_simp; (try with_reducible rfl))
  refine AnyL.take (i := 7) (v := ?_) (some 25) rfl rfl (by kernel_rfl) (by kernel_rfl) (by kernel_rfl) rfl (by kernel_rfl) (fun _ _ _ h => h) (by rfl) (fun ww hww => ?_) hS ?_; rotate_left; · (obtain ⟨hs0, hs1, hs2, hs3⟩ := hww; go_simp; (try with_reducible rfl))
  refine AnyL.pure (i := 8) (v := ?_) (some 3) rfl rfl (by kernel_rfl) (by kernel_rfl) (by kernel_rfl) rfl (fun _ _ _ h => h) (by rfl) (fun ww => ?_) ?_; rotate_left; · (go_simp; (try with_reducible rfl))
  refine AnyL.pure (i := 9) (v := ?_) (some 4) rfl rfl (by kernel_rfl) (by kernel_rfl) (by kernel_rfl) rfl (fun _ _ _ h => h) (by rfl) (fun ww => ?_) ?_; rotate_left; · (go_simp; (try with_reducible rfl))
  refine AnyL.pure (i := 10) (v := ?_) (some 5) rfl rfl (by kernel_rfl) (by kernel_rfl) (by kernel_rfl) rfl (fun _ _ _ h => h) (by rfl) (fun ww => ?_) ?_; rotate_left; · (go_simp; (try with_reducible rfl))
  refine AnyL.pure (i := 11) (v := ?_) (some 6) rfl rfl (by kernel_rfl) (by kernel_rfl) (by kernel_rfl) rfl (fun _ _ _ h => h) (by rfl) (fun ww => ?_) ?_; rotate_left; · (go_simp; (try with_reducible rfl))
  refine AnyL.done (by kernel_rfl) ?_
  have c0' : w1.drew.cell? ⟨w.heap.size, 0, none⟩ = some (.slice vA vl vc) := c0
  have hu1 : Upd noBlk w w1.drew := hu0.out.drewN 1
  have hs2 : ScriptAt w1.drew (.slice vA vl vc) os := hs1.out.old ((Upd.refl _ w1).drewN 1)
  generalize w1.drew = w2 at *
  clear hS c0 c1 c2 c3 c4 hu0 hs1
  replace hu1 := Lib.hid hu1
  replace hs2 := Lib.hid hs2
  go_wp2_with fail
  refine (begun_any _ os w2 hs2.out).mono ?_
  clear c0' hs2
  rintro e w3 ⟨W3, s, rfl, hs, hg, hA, hU⟩
  have hso : s.Ok := by rw [hs]; exact WA.Ok.nil.play _
  have U3 : Upd (fun k => ¬ older w k) w w3 := (hu1.out.of_none _).trans_same (hU.mono fun k _ hk => fun h => hk (Nat.lt_of_lt_of_le h hu1.out.size))
  replace hA := hA.less (G := older w) fun k hk => Nat.lt_of_lt_of_le hk hu1.out.size
  clear hs hU hu1
  generalize hl : s.given + 1 = last
  have hat : (s.add [1, 2, 3, 4, 5]).row[s.row.length]? = some (last, [1, 2, 3, 4, 5]) := by rw [← hl]; exact WA.add_at s _
  have hSo := hso.add [1, 2, 3, 4, 5]
  have hSg : (s.add [1, 2, 3, 4, 5]).given = last := hl
  have hi0 : i0' s + 1 = (s.add [1, 2, 3, 4, 5]).row.length := by simp [WA.add, i0']
  rw [show s.row.length = i0' s from rfl] at hat
  generalize i0' s = i0 at hat hi0
  generalize s.add [1, 2, 3, 4, 5] = S at hat hSo hSg hA hi0
  replace hA := Lib.hid hA
  replace U3 := Lib.hid U3
  replace hat := Lib.hid hat
  replace hSo := Lib.hid hSo
  replace hSg := Lib.hid hSg
  have hlast : last ≤ 4001 := by omega
  have hi9 : i0 ≤ 4001 := by have := at_many hA.out; rw [hSg.out] at this; omega
  clear hso hg hl s
  go_wp2_with fail
  refine (at_waits hA.out).mono ?_
  rintro e w4 ⟨v4, ms4, G4, rfl, hm4, hF4, hA4, hK4, hu4⟩
  have U4 := Lib.hid (U3.out.trans_same (hu4.of_none _))
  obtain ⟨A4, c4, rfl, -⟩ := own_form hK4.own.row
  replace hm4 := Lib.hid hm4
  replace hF4 := Lib.hid hF4
  replace hA4 := Lib.hid hA4
  replace hK4 := Lib.hid hK4
  clear hA U3 hu4
  go_wp2_with fail
  obtain ⟨k, hk, ek⟩ := and3 a
  rw [ek]
  have hc := hA4.out.does (flip_any W3 last k b w4 hA4.out.ok)
  rw [hA4.out.abs, WA.flip_of hSo.out hat.out (by omega) (by simp; omega)] at hc
  refine hc.mono ?_
  clear hc ek
  rintro e w5 ⟨W5, rfl, hp5, hA5, hu5⟩
  have U5 := Lib.hid (U4.out.trans_same (hu5.mono fun j _ hj ho => hj (hF4.out j ho)))
  replace hK4 := Lib.hid (hK4.out.upd hu5)
  replace hA5 := Lib.hid hA5
  clear hA4 U4 hu5
  rw [← hp5]
  replace hp5 := Lib.hid hp5
  go_wp2_with fail
  refine (at_waits hA5.out).mono ?_
  rintro e w6 ⟨v6, ms6, G6, rfl, hm6, hF6, hA6, hK6, hu6⟩
  have U6 := Lib.hid (U5.out.trans_same (hu6.of_none _))
  replace hK4 := Lib.hid ((hK4.out.upd (hu6.of_none _)).mono hF6)
  have hO6 := Lib.hid (fun k h => hF6 k (hF4.out k h))
  obtain ⟨A6, c6, rfl, -⟩ := own_form hK6.own.row
  replace hm6 := Lib.hid hm6
  replace hA6 := Lib.hid hA6
  replace hK6 := Lib.hid hK6
  clear hA5 U5 hu6 hF6 hF4
  go_wp2_with fail
  have hc := hA6.out.does (flip_any W5 last k b w6 hA6.out.ok)
  rw [hA6.out.abs, WA.flip_flip hSo.out hat.out (by omega) (by simp; omega)] at hc
  refine hc.mono ?_
  clear hc
  rintro e w7 ⟨W7, rfl, hp7, hA7, hu7⟩
  have U7 := Lib.hid (U6.out.trans_same (hu7.mono fun j _ hj ho => hj (hO6.out j ho)))
  replace hK4 := Lib.hid (hK4.out.upd hu7)
  replace hK6 := Lib.hid (hK6.out.upd hu7)
  replace hA7 := Lib.hid hA7
  clear hA6 U6 hu7
  rw [← hp7]
  replace hp7 := Lib.hid hp7
  have hlen6 : ms6.length = S.row.length := by
    have := congrArg List.length hm6.out
    simpa [WA.setB] using this
  rw [← hi0] at hlen6
  have hg6 : ∃ m6 : Msg, ms6[i0]? = some m6 ∧ m6.l = WA.flipped [1, 2, 3, 4, 5] k b := by
    have h1 : ms6[i0]? = some (ms6[i0]'(by omega)) := List.getElem?_eq_getElem _
    refine ⟨_, h1, ?_⟩
    have h2 := congrArg (·[i0]?) hm6.out
    simp only [List.getElem?_map, h1, Option.map_some] at h2
    rw [WA.setB_at hat.out] at h2
    exact congrArg Prod.snd (Option.some.inj h2)
  obtain ⟨m6, hm60, hm6l⟩ := hg6
  obtain ⟨g6, o6, c6', he6, hn6, hv6, hr6⟩ := hK6.out.rd.at_ hm60
  rw [hm6l] at hr6
  obtain ⟨hb0, A7, c7, hv7, h71, h72, h73, h74⟩ := hr6
  obtain ⟨B, hB⟩ : ∃ B : UInt8, B = UInt8.ofNat (k + 1) ^^^ WA.low b := ⟨_, rfl⟩
  obtain ⟨ad7, rfl, hc7⟩ := h74 k (bv B) (bvs_at (by
    rw [hB]
    have : k = 0 ∨ k = 1 ∨ k = 2 ∨ k = 3 := by omega
    rcases this with rfl | rfl | rfl | rfl <;> rfl))
  rw [hv7] at hv6
  have hfl : (WA.flipped [1, 2, 3, 4, 5] k b).length = 5 := by simp [WA.flipped]
  rw [hfl] at hv6 h71
  simp only [Value.slice.injEq, true_and] at he6
  obtain ⟨rfl, rfl⟩ := he6
  have hc9 : c7 ≤ 9223372036854775807 := by simp only [maxLen] at h72; omega
  clear h72
  clear hb0 hv7 h73 h74 hn6
  rw [hlen6]
  unfold bv at hc7
  have hx : Go.bits .xor .u8 ((k : Int) + 1) (Go.bits .and .i64 b 255 % 256) = (B.toNat : Int) := by
    rw [hB, and255, Int.emod_emod]
    have h1 := xor_low (UInt8.ofNat (k + 1)) b
    simp only [bv, Value.int.injEq, true_and] at h1
    rw [← h1]
    have : (UInt8.ofNat (k + 1)).toNat = k + 1 := by rw [UInt8.toNat_ofNat']; omega
    rw [this]
    rfl
  clear hB
  have hne : ((B.toNat : Int) != Go.bits .xor .u8 ((k : Int) + 1) (Go.bits .and .i64 b 255 % 256)) = false := by rw [hx]; simp
  have hi1 : ((i0 : Int) + 1 == 0) = false := by simp; omega
  clear hx
  replace hm60 := Lib.hid hm60
  replace hm6l := Lib.hid hm6l
  replace hfl := Lib.hid hfl
  replace hlen6 := Lib.hid hlen6
  replace hi0 := Lib.hid hi0
  go_wp2_with fail
  go_wp2_with fail
  clear hne hi1 hv6 hc7 hK6 hm60 hm6l hfl hlen6 hm6 h71 hc9
  have hc := hA7.out.does (swap_any W7 n m w7 hA7.out.ok)
  rw [hA7.out.abs] at hc
  refine hc.mono ?_
  clear hc
  rintro e w8 ⟨W8, rfl, hp8, hA8, hu8⟩
  have U8 := Lib.hid (U7.out.trans_same (hu8.mono fun j _ hj ho => hj (hO6.out j ho)))
  replace hK4 := Lib.hid (hK4.out.upd hu8)
  replace hA8 := Lib.hid hA8
  clear hA7 U7 hu8
  rw [← hp8]
  replace hp8 := Lib.hid hp8
  generalize hs8 : S.swap n m = s8
  rw [hs8] at hA8
  obtain ⟨s8, e8⟩ := s8
  simp only at hA8 ⊢
  have hb8 := WA.swap_swap hSo.out n m
  rw [hs8] at hb8
  replace hb8 := Lib.hid hb8
  clear hs8
  go_wp2_with fail
  have hc := hA8.out.does (swap_any W8 n m w8 hA8.out.ok)
  rw [hA8.out.abs, hb8.out] at hc
  refine hc.mono ?_
  clear hc hb8
  rintro e w9 ⟨W9, rfl, hp9, hA9, hu9⟩
  have U9 := Lib.hid (U8.out.trans_same (hu9.mono fun j _ hj ho => hj (hO6.out j ho)))
  replace hK4 := Lib.hid (hK4.out.upd hu9)
  replace hA9 := Lib.hid hA9
  clear hA8 U8 hu9 s8
  rw [← hp9]
  replace hp9 := Lib.hid hp9
  have h40 : ∃ m0 : Msg, ms4[0]? = some m0 ∧ S.row[0]? = some m0.abs := by
    have h1 := congrArg List.length hm4.out
    rw [List.length_map, ← hi0.out] at h1
    have h2 : ms4[0]? = some (ms4[0]'(by omega)) := List.getElem?_eq_getElem _
    refine ⟨_, h2, ?_⟩
    have h3 := congrArg (·[0]?) hm4.out
    simp only [List.getElem?_map, h2, Option.map_some] at h3
    exact h3.symm
  obtain ⟨m0, hm0, hr0⟩ := h40
  obtain ⟨g4, o4, c4', he4, hn4, -, -⟩ := hK4.out.rd.at_ hm0
  simp only [Value.slice.injEq, true_and, Nat.zero_mul, Nat.add_zero] at he4 hn4
  obtain ⟨rfl, rfl⟩ := he4
  have hlen4 : 0 < ms4.length := (List.getElem?_eq_some_iff.1 hm0).1
  have hlen5 : (ms4.length : Int) ≤ 9223372036854775807 := by
    obtain ⟨A, c, e, h1, h2, -⟩ := own_form hK4.out.own.row
    simp only [maxLen] at h2
    omega
  have hN0 : (m0.N : Int) ≤ 9223372036854775807 := by
    have h1 := hSo.out.lo 0 _ hr0
    rw [hSg.out] at h1
    simp only [Msg.abs] at h1
    omega
  replace hm0 := Lib.hid hm0
  replace hr0 := Lib.hid hr0
  go_wp2_with fail
  have es : S.swap (m0.N : Int) (last : Int) = (S.swapped 0 i0, 0) := WA.swap_ok hSo.out hr0.out hat.out
  have et := WA.swap_back hSo.out (m0.N : Int) (last : Int)
  rw [es] at et
  have ec : S.copy (last : Int) = (S.add [1, 2, 3, 4, 5], (last : Int) + 1, 0) := by
    have h := WA.copy_of hSo.out hat.out (by rw [hSg.out]; omega)
    rw [hSg.out] at h
    simpa using h
  have ed : (S.add [1, 2, 3, 4, 5]).drop ((last : Int) + 1) = (⟨S.row, last + 1⟩, 0) := by
    have h := WA.drop_add hSo.out [1, 2, 3, 4, 5]
    rw [hSg.out] at h
    simpa using h
  simp only at et
  replace es := Lib.hid es
  replace et := Lib.hid et
  replace ec := Lib.hid ec
  replace ed := Lib.hid ed
  clear hn4
  have hc := hA9.out.does (swap_any W9 m0.N last w9 hA9.out.ok)
  rw [hA9.out.abs, es.out] at hc
  refine hc.mono ?_
  clear hc
  rintro e w10 ⟨W10, rfl, hp10, hA10, hu10⟩
  have U10 := Lib.hid (U9.out.trans_same (hu10.mono fun j _ hj ho => hj (hO6.out j ho)))
  replace hK4 := Lib.hid (hK4.out.upd hu10)
  replace hA10 := Lib.hid hA10
  clear hA9 U9 hu10
  rw [← hp10]
  replace hp10 := Lib.hid hp10
  have hn4 : w10.cell? ⟨g4, o4, none⟩ = some (.int .i64 m0.N) := by
    obtain ⟨g, o, c, he, hn, -, -⟩ := hK4.out.rd.at_ hm0.out
    simp only [Value.slice.injEq, Option.some.injEq, Addr.mk.injEq, and_true, Nat.zero_mul, Nat.add_zero] at he hn
    obtain ⟨⟨rfl, rfl⟩, -⟩ := he
    exact hn
  go_wp2_with fail
  clear hn4
  have hc := hA10.out.does (swap_any W10 last m0.N w10 hA10.out.ok)
  rw [hA10.out.abs, et.out] at hc
  refine hc.mono ?_
  clear hc
  rintro e w11 ⟨W11, rfl, hp11, hA11, hu11⟩
  have U11 := Lib.hid (U10.out.trans_same (hu11.mono fun j _ hj ho => hj (hO6.out j ho)))
  replace hK4 := Lib.hid (hK4.out.upd hu11)
  replace hA11 := Lib.hid hA11
  clear hA10 U10 hu11
  rw [← hp11]
  replace hp11 := Lib.hid hp11
  go_wp2_with fail
  have hc := hA11.out.does (wcopy_any W11 last w11 hA11.out.ok)
  rw [hA11.out.abs, ec.out] at hc
  refine hc.mono ?_
  clear hc
  rintro e w12 ⟨W12, rfl, hp12, hA12, hu12⟩
  have U12 := Lib.hid (U11.out.trans_same (hu12.mono fun j _ hj ho => hj (hO6.out j ho)))
  replace hK4 := Lib.hid (hK4.out.upd hu12)
  replace hA12 := Lib.hid hA12
  clear hA11 U11 hu12
  rw [← hp12]
  replace hp12 := Lib.hid hp12
  go_wp2_with fail
  have hc := hA12.out.does (drop_any W12 (last + 1) w12 hA12.out.ok)
  rw [hA12.out.abs, ed.out] at hc
  refine hc.mono ?_
  clear hc
  rintro e w13 ⟨W13, rfl, hp13, hA13, hu13⟩
  have U13 := Lib.hid (U12.out.trans_same (hu13.mono fun j _ hj ho => hj (hO6.out j ho)))
  replace hK4 := Lib.hid (hK4.out.upd hu13)
  replace hA13 := Lib.hid hA13
  clear hA12 U12 hu13
  rw [← hp13]
  replace hp13 := Lib.hid hp13
  clear es et ec ed
  go_wp2_with fail
  refine (at_waits hA13.out).mono ?_
  rintro e w14 ⟨v14, ms14, G14, rfl, hm14, hF14, hA14, hK14, hu14⟩
  have U14 := Lib.hid (U13.out.trans_same (hu14.of_none _))
  replace hK4 := Lib.hid ((hK4.out.upd (hu14.of_none _)).mono hF14)
  replace hO6 := Lib.hid (fun k h => hF14 k (hO6.out k h))
  obtain ⟨A14, c14, rfl, -⟩ := own_form hK14.own.row
  replace hm14 := Lib.hid hm14
  replace hA14 := Lib.hid hA14
  replace hK14 := Lib.hid hK14
  clear hA13 U13 hu14 hF14
  go_wp2_with fail
  refine (rows_any _ _ ms4 ms14 w14 hK4.out.rd hK14.out.rd).mono ?_
  rintro e w' ⟨rfl, q, rfl⟩
  rw [decide_eq_true (show ms4.map Msg.abs = ms14.map Msg.abs by rw [hm4.out, hm14.out])]
  obtain ⟨W15, hW15⟩ : ∃ W, W = W13 := ⟨_, rfl⟩
  have hA15 := Lib.hid (hA14.out.drewN q)
  have U15 := Lib.hid (U14.out.drewN q)
  rw [← hW15] at hA15 ⊢
  clear hA14 U14 hK4 hK14 hm4 hm14 hm0 hr0 hW15
  generalize w14.drewN q = w15 at *
  go_wp2_with fail
  have hT : (⟨S.row, last + 1⟩ : WA).Ok := hSg.out ▸ hSo.out.more
  have ec : (⟨S.row, last + 1⟩ : WA).cut (last : Int) (k : Int) = ((⟨S.row, last + 1⟩ : WA).setB i0 ([1, 2, 3, 4, 5].take k), 0) := by
    have h := WA.cut_of hT (s := ⟨S.row, last + 1⟩) hat.out (a := (k : Int)) (by omega) (by simp; omega)
    simpa using h
  have el : ((⟨S.row, last + 1⟩ : WA).setB i0 ([1, 2, 3, 4, 5].take k)).look (last : Int) = ([1, 2, 3, 4, 5].take k, 0) :=
    WA.look_of (hT.setB _ _) (WA.setB_at (s := ⟨S.row, last + 1⟩) hat.out _)
  replace ec := Lib.hid ec
  replace el := Lib.hid el
  replace hT := Lib.hid hT
  have hc := hA15.out.does (cut_any W15 last k w15 hA15.out.ok)
  rw [hA15.out.abs, ec.out] at hc
  refine hc.mono ?_
  clear hc
  rintro e w16 ⟨W16, rfl, hp16, hA16, hu16⟩
  have U16 := Lib.hid (U15.out.trans_same (hu16.mono fun j _ hj ho => hj (hO6.out j ho)))
  replace hA16 := Lib.hid hA16
  clear hA15 U15 hu16
  rw [← hp16]
  replace hp16 := Lib.hid hp16
  go_wp2_with fail
  have hc := look_any W16 last w16 hA16.out.ok
  rw [hA16.out.abs, el.out] at hc
  refine hc.mono ?_
  clear hc
  rintro e w17 ⟨v17, rfl, ho17, hu17⟩
  have U17 := Lib.hid (U16.out.trans_same (hu17.of_none _))
  have hR17 := Lib.hid ho17.rd
  clear U16 hA16 hu17
  obtain ⟨A17, c17, rfl, -⟩ := own_form ho17
  clear ho17
  have hk5 : ((k : Int)) ≤ 5 := by omega
  have hl17 : (([1, 2, 3, 4, 5] : List UInt8).take k).length = k := by simp; omega
  rw [hl17] at hR17 ⊢
  replace hl17 := Lib.hid hl17
  go_wp2_with fail
  have hr1 := hR17.out.none (five_upd w17)
  have hr2 := rd_take (five_rd w17) (k := k) (by simp; omega)
  refine (same_any _ _ _ _ _ hr1 hr2).mono ?_
  rintro e w' ⟨rfl, q, rfl⟩
  have U18 := Lib.hid ((U17.out.trans_same ((five_upd w17).of_none _)).drewN q)
  clear hr1 hr2 U17 hR17
  rw [show decide (([1, 2, 3, 4, 5] : List UInt8).take k = [1, 2, 3, 4, 5].take k) = true from decide_eq_true rfl]
  go_wp2
  go_ret
  exact ⟨rfl, below_of_old U18.out⟩

end Go.Proofs.Ytfnlemdlngdaiaa
