/-
  The reference's function Waiting.
-/
import Derived.Test.YtfnlemdlngdaiaaRfD
namespace Go.Proofs.Ytfnlemdlngdaiaa
open Go.RowKit

/-- The messages behind the place a, as far as the fuel goes. -/
def RA.from_ (r : RA) (a : Nat) : Nat → List (Nat × List UInt8)
  | 0 => []
  | f + 1 => if r.behind a = 0 then [] else (r.behind a, (r.get (r.behind a - 1)).1) :: r.from_ (r.aof (r.behind a - 1)) f
def RA.waiting (r : RA) : List (Nat × List UInt8) := r.from_ 0 (r.length + 1)

theorem RA.behindTo_above (r : RA) (a : Nat) : ∀ k, r.behindTo a k ≠ 0 → a < r.aof (r.behindTo a k - 1)
  | 0, h => (h rfl).elim
  | k + 1, h => by
    have ih := r.behindTo_above a k
    unfold RA.behindTo at h ⊢
    split
    · rename_i hc
      simpa using hc.1
    · rename_i hc
      rw [if_neg hc] at h
      exact ih h
theorem RA.behind_above (r : RA) (a : Nat) (h : r.behind a ≠ 0) : a < r.aof (r.behind a - 1) := r.behindTo_above a _ h
theorem RA.behind_le (r : RA) (a : Nat) : r.behind a ≤ r.length := r.behindTo_le a _

def RA.gap (r : RA) (ln : Nat) (n : Int) : Nat := if n = 0 then 0 else ln + 1 - r.aof (n.toNat - 1)
theorem RA.gap_zero (r : RA) (ln : Nat) : r.gap ln ((0 : Nat) : Int) = 0 := rfl
theorem RA.gap_pos (r : RA) (ln n : Nat) (h : n ≠ 0) : r.gap ln (n : Int) = ln + 1 - r.aof (n - 1) := by
  unfold RA.gap
  rw [if_neg (by omega), Int.toNat_natCast]
/-- A message more at the row's end. -/
theorem OwnMs.push {B N : Nat} {w w2 w3 : World} {v v' rv' : Value} {ms : List Msg} {l : List UInt8} (h : OwnMs B w v ms) (hB : B ≤ w.heap.size) (hu : Upd noBlk w w2) (hown : OwnB w.heap.size w2 v' l)
    (hrow : w3.ownsRow B 63 2 rv' (ms.length + 1) (rowCells ms ++ [.int .i64 N, v'])) (hg : w2.grownBy w3 v.ownBlock) : OwnMs B w3 rv' (ms ++ [⟨N, v', l⟩]) := by
  have hu3 : Upd (fun k => v.ownBlock = some k) w2 w3 := Upd.of_grown hg
  have hu13 : Upd (fun k => v.ownBlock = some k) w w3 := (hu.of_none _).trans_same hu3
  refine ⟨?_, ?_, ?_⟩
  · simpa [rowCells] using hrow
  · intro m hm
    simp only [List.mem_append, List.mem_singleton] at hm
    rcases hm with hm | rfl
    · exact (h.byt m hm).upd hu13 fun k hk hv => own_own_ne (h.byt m hm) h.row (by decide) hk hv
    · refine (hown.upd hu3 fun k hk hv => ?_).mono hB
      have h1 := hown.ge k hk
      have h2 := (h.row.lt k hv).2
      omega
  · refine nodup_concat h.apart fun b hb x hx hxb => ?_
    have h1 := hown.ge b hb
    have h2 := (h.byt x hx).lt b hxb
    omega

set_option maxRecDepth 100000 in
set_option maxHeartbeats 2000000 in
theorem rwait_any (R : Rf) (w : World) (hR : RfOk w R) : Calls Try.prog 41 #[.pointer (some ⟨R.p, 0, none⟩)] w (RowP w R.abs.waiting) := by
  obtain ⟨A, cap, hrv, hc1, hc2, c0, -, hat⟩ := hR.open_
  have hm := hR.most
  obtain ⟨i63, hi63, hz0, hz1, hz2⟩ := info_parts Try.info63
  have hI := Lib.hid (And.intro hi63 (And.intro hz0 (And.intro hz1 hz2)))
  clear hi63 hz0 hz1 hz2
  have hbeh := fun (a : Nat) (w' : World) (hu : Upd noBlk w w') => behind_any R a w' (hR.keep hu)
  replace hbeh := Lib.hid hbeh
  have hble := Lib.hid (fun a => R.abs.behind_le a)
  have habv := Lib.hid (fun a h => R.abs.behind_above a h)
  have haof : ∀ (k : Nat) (m : RMsg), R.ms[k]? = some m → R.abs.aof k = m.a := fun k m h => Rf.aof_at h
  have hget : ∀ (k : Nat) (m : RMsg), R.ms[k]? = some m → R.abs.get k = (m.l, m.a) := fun k m h => Rf.get_at h
  have hrd := fun (k : Nat) (m : RMsg) (h : R.ms[k]? = some m) => hR.byt m (List.mem_of_getElem? h)
  have hsm := fun (k : Nat) (m : RMsg) (h : R.ms[k]? = some m) => hR.small m (List.mem_of_getElem? h)
  have hats := fun (k : Nat) (m : RMsg) (h : R.ms[k]? = some m) => hR.ats m (List.mem_of_getElem? h)
  unfold RA.waiting
  simp only [R.abs_length] at hble ⊢
  obtain ⟨ln, hln⟩ : ∃ ln, ln = R.ms.length := ⟨_, rfl⟩
  have hex : ∀ k, k < ln → ∃ m, R.ms[k]? = some m := fun k hk => ⟨_, List.getElem?_eq_getElem (by omega)⟩
  rw [← hln] at hrv hc1 hm c0 hble ⊢
  simp only [← hln] at hats
  simp only [maxLen] at hc2
  generalize R.abs = r at *
  replace hat := Lib.hid hat
  replace haof := Lib.hid haof
  replace hget := Lib.hid hget
  replace hrd := Lib.hid hrd
  replace hsm := Lib.hid hsm
  replace hats := Lib.hid hats
  replace hex := Lib.hid hex
  replace c0 := Lib.hid c0
  clear hR hrv hln
  have hb0 := Lib.hid (hbeh.out 0 w (Upd.refl _ _))
  go_enter Try.func41, Try.ntmps41
  go_wp2_with (go_at_call 52; refine hb0.out.mono ?_; rintro e w' ⟨rfl, q, rfl⟩)
  go_loopw [3, 4] (fun lv n wr => ∃ (a f : Nat) (done : List Msg), n = .int .i64 (r.behind a) ∧ a ≤ ln ∧ done.length ≤ a ∧ ln + 1 ≤ f + a ∧ done.map Msg.abs ++ r.from_ a f = r.from_ 0 (ln + 1) ∧ OwnMs w.heap.size wr lv done ∧ Upd noBlk w wr) (fun _ n _ => r.gap ln (intOf n))
  case atStart => exact ⟨0, ln + 1, [], rfl, Nat.zero_le _, Nat.zero_le _, by omega, rfl, OwnMs.nil _ _, (Upd.refl _ _).drewN q⟩
  case round =>
    obtain ⟨a, f, done, rfl, ha, hda, hf, hfr, ho, hu⟩ := hrel
    obtain ⟨f, rfl⟩ : ∃ f', f = f' + 1 := ⟨f - 1, by omega⟩
    have hb1 := hble.out a
    have hb2 := habv.out a
    have hunf : r.from_ a (f + 1) = if r.behind a = 0 then [] else (r.behind a, (r.get (r.behind a - 1)).1) :: r.from_ (r.aof (r.behind a - 1)) f := rfl
    rw [hunf] at hfr
    clear hunf
    obtain ⟨lA, lc, rfl, -⟩ := own_form ho.row
    generalize r.behind a = b at *
    by_cases hz : b = 0
    · subst hz
      rw [if_pos rfl, List.append_nil] at hfr
      replace hfr := Lib.hid hfr
      replace ho := Lib.hid ho
      replace hu := Lib.hid hu
      go_wp2
      go_ret
      exact ⟨_, _, rfl, ho.out, hfr.out, hu.out⟩
    · obtain ⟨b', rfl⟩ : ∃ b', b = b' + 1 := ⟨b - 1, by omega⟩
      rw [if_neg hz] at hfr
      have hb3 := hb2 hz
      simp only [Nat.add_sub_cancel] at hfr hb3
      obtain ⟨m, hm2⟩ := hex.out b' (by omega)
      obtain ⟨g, rfl, v0, v1⟩ := hat.out b' m hm2
      have hma := haof.out b' m hm2
      have hmg := hget.out b' m hm2
      have hmat := hats.out b' m hm2
      have hms := hsm.out b' m hm2
      have hmo := hrd.out b' m hm2
      rw [hma] at hb3 hfr
      rw [hmg] at hfr
      simp only at hfr
      clear hz hb2
      have k0 := hu.cell_some c0.out id
      have k1 := hu.cell_some v0 id
      have k2 := hu.cell_some v1 id
      have hc := rcopy_any m.v m.l wr (hmo.rd.none hu) (by omega)
      have hkw : IntKind.i64.wrap (b' : Int) = b' := by rw [IntKind.wrap_i64]; omega
      have hkl : (b' : Int) < ln := by omega
      have hk0 : (0 : Int) ≤ b' := by omega
      obtain ⟨x, hx⟩ : ∃ x, x = m.a := ⟨_, rfl⟩
      rw [← hx] at hb3 hfr hmat k2 v1
      replace v1 := Lib.hid v1
      obtain ⟨dl, hdl⟩ : ∃ dl, dl = done.length := ⟨_, rfl⟩
      rw [← hdl] at hda
      have hrow := ho.row
      rw [← hdl] at hrow ⊢
      replace hrow := Lib.hid hrow
      replace hdl := Lib.hid hdl
      replace hx := Lib.hid hx
      replace hc := Lib.hid hc
      replace hfr := Lib.hid hfr
      replace ho := Lib.hid ho
      replace hu := Lib.hid hu
      replace hma := Lib.hid hma
      clear hmg hmo v0 hm2
      go_wp2_with fail
      refine hc.out.mono ?_
      rintro e w1 ⟨v', rfl, hown, hu1⟩
      obtain ⟨A', c', rfl, -⟩ := own_form hown
      have j0 := hu1.cell_some k0 id
      have j2 := hu1.cell_some k2 id
      have hu2 := hu1.alloc (.cells #[.int .i64 ((b' : Int) + 1), .slice A' m.l.length c'] 63)
      have hb2 := Blk.new w1 63 #[.int .i64 ((b' : Int) + 1), .slice A' m.l.length c']
      have hrow2 := own_upd hrow.out hu2 fun _ _ h => h
      have hown2 := hown.upd ((Upd.refl noBlk w1).alloc (.cells #[.int .i64 ((b' : Int) + 1), .slice A' m.l.length c'] 63)) fun _ _ h => h
      have j3 := hu2.cell_some k0 id
      have j4 := hu2.cell_some k2 id
      have hgw : g < wr.heap.size := World.block_lt_of_cell? wr _ k2
      have hone := own_one hown
      replace hown := Lib.hid hown
      replace hu2 := Lib.hid hu2
      replace hb2 := Lib.hid hb2
      replace hrow2 := Lib.hid hrow2
      replace hown2 := Lib.hid hown2
      replace hone := Lib.hid hone
      clear hrow
      go_wp2_with (at_builtin; refine wpList_app _ rfl _ _ 44 rfl w.heap.size 63 i63 _ 2 32 Try.underlying44 hI.out rfl (by decide) (.slice lA dl lc) dl (rowCells done) rfl hrow2.out _ 1 [.int .i64 ((b' : Int) + 1), .slice A' m.l.length c'] rfl (blk_rd hb2.out 2 1 (by simp [maxLen]) rfl) (msgCells _ _ hone.out) (by simp only [maxLen]; omega) (by omega) (by have h1 := hu.out.size; have h2 := hu2.out.size; omega) ?_; intro rv' w3 hown3 hgrow hatr; have hU3 := (hu.out.then_none hu2.out).grown hgrow (fun k hk => .inr (hrow2.out.lt k hk).1); have q0 := hU3.cell_some c0.out id; have q2 := hU3.cell_some v1.out id; replace hown3 := Lib.hid hown3; replace hgrow := Lib.hid hgrow; replace hU3 := Lib.hid hU3)
      refine (hbeh.out x w3 hU3.out).mono ?_
      rintro e w4 ⟨rfl, q4, rfl⟩
      go_wp2_with fail
      go_roundw
      case rel =>
        have ho' := ho.out
        rw [← hdl.out] at ho'
        have hp := OwnMs.push (N := b' + 1) ho' hu.out.size hu2.out hown2.out (by rw [← hdl.out]; exact hown3.out) hgrow.out
        exact ⟨x, f, done ++ [⟨b' + 1, .slice A' m.l.length c', m.l⟩], rfl, hmat, by rw [List.length_append, ← hdl.out]; simp; omega, by omega, by rw [List.map_append, List.append_assoc]; exact hfr.out, hp.upd ((Upd.refl noBlk w3).drewN q4) fun _ _ h => h, hU3.out.drewN q4⟩
      case measure =>
        have h1 := habv.out x
        have h2 := hble.out x
        have h6 : r.aof b' = x := by rw [hma.out, hx.out]
        show r.gap ln ((r.behind x : Nat) : Int) < r.gap ln ((b' + 1 : Nat) : Int)
        rw [RA.gap_pos r ln (b' + 1) (by omega), Nat.add_sub_cancel, h6]
        by_cases hz : r.behind x = 0
        · rw [hz, RA.gap_zero]
          omega
        · have h3 := h1 hz
          obtain ⟨m2, hm2⟩ := hex.out (r.behind x - 1) (by omega)
          have h4 := hats.out _ m2 hm2
          have h5 := haof.out _ m2 hm2
          rw [RA.gap_pos _ _ _ hz, h5]
          rw [h5] at h3
          omega
end Go.Proofs.Ytfnlemdlngdaiaa
