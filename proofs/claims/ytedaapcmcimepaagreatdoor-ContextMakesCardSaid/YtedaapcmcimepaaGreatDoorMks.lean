/-
  The law ContextMakes: true, whatever the input; nothing old turns.
-/
import Derived.Test.YtedaapcmcimepaaGreatDoorSet
namespace Go.Proofs.YtedaapcmcimepaaGreatDoor
open Go.RowKit

/-- True is told, and what was there is as it was. -/
def TrueP (w : World) (e : Ending) (w' : World) : Prop := e = .returned (.bool true) ∧ Below w.heap.size w w'

theorem code2_perm {ns ms : List (List UInt8)} (hm : ∀ t, t ∈ ns ↔ t ∈ ms) (s : List UInt8) : code2 ns s = code2 ms s := by
  unfold code2
  by_cases h : s ∈ ms
  · rw [if_pos h, if_pos ((hm s).2 h)]
  · rw [if_neg h, if_neg fun h1 => h ((hm s).1 h1)]

set_option maxRecDepth 100000 in
set_option maxHeartbeats 4000000 in
theorem makes_true (v u : Value) (l : List UInt8) (ss : List (List UInt8)) (s : List UInt8) (w : World) (ht : Tabs w) (hv : RdB w v l) (hl : l.length ≤ 140737488355328) (hu : RdC w u 1 ss.length (strs ss)) (hss : ∀ t ∈ ss, t.length ≤ maxLen) (hs : s.length ≤ maxLen) :
    Calls Tryz.prog 3 #[v, u, str s] w (TrueP w) := by
  have hc := Lib.hid fun W (h : Upd noBlk w W) => copy_any v l W (hv.none h) hl
  have hset := Lib.hid fun W (h : Upd noBlk w W) => set_any v l W (ht.none h) (hv.none h) hl
  obtain ⟨n, hn⟩ : ∃ n, ss.length = n := ⟨_, rfl⟩
  rw [hn] at hu
  obtain ⟨-, A, c, rfl, hc1, hc2, -, hat⟩ := hu
  replace hn := Lib.hid hn
  replace hat := Lib.hid hat
  replace hss := Lib.hid hss
  replace ht := Lib.hid ht
  clear hv
  unfold str
  go_enter Tryz.func3, Tryz.ntmps3
  go_wp2_with (go_at_call 5; refine (hc.out _ (Upd.refl _ _)).mono ?_; rintro e w1 ⟨v1, rfl, hown1, hu1⟩; refine Hid.out ?_)
  refine Lib.hid ?_
  have hk := Lib.hid (knew_any v1 l w1 hown1.rd hl)
  clear hown1
  go_wp2_with (go_at_call 4; refine hk.out.mono ?_; clear hk; rintro e w2 ⟨Kr, rfl, hk2, hu2, hge2⟩; refine Hid.out ?_)
  refine Lib.hid ?_
  have hu12 := hu1.then_none hu2
  replace hk2 := Lib.hid hk2
  replace hge2 := Lib.hid hge2
  replace hu1 := Lib.hid hu1
  replace hu2 := Lib.hid hu2
  replace hu12 := Lib.hid hu12
  go_wp2_with (go_at_call 5; refine (hc.out _ hu12.out).mono ?_; clear hc; rintro e w3 ⟨v3, rfl, hown3, hu3⟩; refine Hid.out ?_)
  refine Lib.hid ?_
  have hnw := Lib.hid (lnew_any v3 l w3 hown3.rd hl)
  replace hu3 := Lib.hid hu3
  clear hown3
  go_wp2_with (go_at_call 6; refine hnw.out.mono ?_; clear hnw; rintro e w4 ⟨R, rfl, hl4, hu4, hq4, hlv4⟩; refine Hid.out ?_)
  refine Lib.hid ?_
  have hrs := RS.start ht.out hu1.out hk2.out hu2.out hge2.out hu3.out hl4 hu4 hq4 hlv4
  clear hk2 hge2 hu1 hu2 hu12 hu3 hl4 hu4 hq4 hlv4 ht
  generalize hq : R.q = q
  replace hrs := Lib.hid hrs
  replace hq := Lib.hid hq
  go_wp2_with fail
  go_loopw [9] (fun i wr => ∃ (k : Nat) (R : LRg) (ns : List (List UInt8)), k ≤ n ∧ i = .int .i64 k ∧ Hid (R.q = q) ∧ RS w wr Kr R ns ns) (fun i _ => n - (intOf i).toNat)
  case atStart => exact ⟨0, R, [], Nat.zero_le _, rfl, hq, hrs.out⟩
  case round =>
    clear hrs hq
    obtain ⟨k, R, ns, hk, rfl, hq, hrs⟩ := hrel
    by_cases hlt : k < n
    · obtain ⟨t, htt⟩ : ∃ t, ss[k]? = some t := ⟨_, List.getElem?_eq_getElem (by rw [hn.out]; exact hlt)⟩
      have htl : t.length ≤ maxLen := hss.out t (List.mem_of_getElem? htt)
      obtain ⟨ad, rfl, hcell⟩ := hat.out k _ (strs_at htt)
      unfold str at hcell
      have hc1' : wr.cell? (ad.add k) = some (.string ⟨⟨t⟩⟩) := hrs.upd.cell_some hcell id
      have q1 : (0 : Int) ≤ k := by omega
      have q2 : (k : Int) < n := by omega
      have q3 : IntKind.i64.wrap ((k : Int) + 1) = k + 1 := by rw [IntKind.wrap_i64]; simp only [maxLen] at hc2; omega
      have hen := Lib.hid (hrs.enroll t htl)
      unfold str at hen
      clear hrs
      replace hcell := Lib.hid hcell
      go_wp2_with (go_at_call 7; refine hen.out.mono ?_; clear hen; rintro e w7 ⟨rfl, hrs7, -⟩; refine Hid.out ?_)
      refine Lib.hid ?_
      have hc7 : w7.cell? (ad.add k) = some (.string ⟨⟨t⟩⟩) := hrs7.upd.cell_some hcell.out id
      have hle := hrs7.lenroll t rfl
      rw [hq.out] at hle
      unfold str at hle
      replace hle := Lib.hid hle
      clear hrs7 hc1'
      generalize code ns t = cd at hle ⊢
      go_wp2_with (go_at_call 8; refine hle.out.mono ?_; clear hle; rintro e w8 ⟨R', ms, rfl, hq8, hrs8, -, -, -⟩; refine Hid.out ?_)
      refine Lib.hid ?_
      replace hrs8 := Lib.hid hrs8
      replace hq8 := Lib.hid hq8
      go_wp2
      go_roundw
      case rel => exact ⟨k + 1, R', ms, by omega, by go_num, hq8, hrs8.out⟩
      case measure => simp [intOf]; omega
    · obtain rfl : k = n := by omega
      clear hlt hk
      have hp := Lib.hid (hrs.pnew s hs)
      unfold str at hp
      clear hrs
      by_cases hc0 : code2 ns s = 0
      · go_wp2_with (go_at_call 9; refine hp.out.mono ?_; clear hp; rintro e w9 ⟨hrs9, -, ⟨-, gx, rfl, -, hctx⟩ | ⟨hne, -⟩⟩; all_goals (first | (exact absurd hc0 hne) | (refine Hid.out ?_)))
        refine Lib.hid ?_
        have hrn := hrs9.rnew s
        rw [hq.out] at hrn
        unfold str at hrn
        replace hrn := Lib.hid hrn
        clear hrs9
        replace hctx := Lib.hid hctx
        go_wp2_with (go_at_call 10; refine hrn.out.mono ?_; clear hrn; rintro e w10 ⟨hrs10, hu10, ⟨-, gy, rfl⟩ | ⟨hne, -⟩⟩; all_goals (first | (exact absurd hc0 hne) | (refine Hid.out ?_)))
        refine Lib.hid ?_
        have hbel := hrs10.upd
        clear hrs10
        replace hctx := Lib.hid (hctx.out.same hu10)
        have ho := Lib.hid (own_zero gx Kr.p s w10 hctx.out)
        replace hbel := Lib.hid hbel
        clear hu10
        go_wp2_with (go_at_call 12; refine ho.out.mono ?_; clear ho; rintro e w11 ⟨Ao, co, rfl, hu11⟩; refine Hid.out ?_)
        refine Lib.hid ?_
        replace hctx := Lib.hid (hctx.out.same hu11)
        replace hbel := Lib.hid (hbel.out.then_none hu11)
        have hce := Lib.hid (certs_zero gx Kr.p s w11 hctx.out)
        clear hu11
        go_wp2_with (go_at_call 13; refine hce.out.mono ?_; clear hce; rintro e w12 ⟨Ac, cc, rfl, hu12⟩; refine Hid.out ?_)
        refine Lib.hid ?_
        replace hctx := Lib.hid (hctx.out.same hu12)
        replace hbel := Lib.hid (hbel.out.then_none hu12)
        have hcl := Lib.hid (clauses_zero gx Kr.p s w12 hctx.out)
        clear hu12
        go_wp2_with (go_at_call 14; refine hcl.out.mono ?_; clear hcl; rintro e w13 ⟨Al, cl, rfl, hu13⟩; refine Hid.out ?_)
        refine Lib.hid ?_
        replace hctx := Lib.hid (hctx.out.same hu13)
        replace hbel := Lib.hid (hbel.out.then_none hu13)
        have hna := Lib.hid (name_zero gx Kr.p s w13 hctx.out)
        clear hu13
        go_wp2_with (go_at_call 15; refine hna.out.mono ?_; clear hna; rintro e w14 ⟨rfl, hw⟩; obtain rfl := hw.out; clear hw)
        go_ret
        exact ⟨rfl, hbel.out.below_all⟩
      · go_wp2_with (go_at_call 9; refine hp.out.mono ?_; clear hp; rintro e w9 ⟨hrs9, -, ⟨hne, -⟩ | ⟨-, rfl⟩⟩; all_goals (first | (exact absurd hne hc0) | (refine Hid.out ?_)))
        refine Lib.hid ?_
        have hrn := hrs9.rnew s
        rw [hq.out] at hrn
        unfold str at hrn
        replace hrn := Lib.hid hrn
        clear hrs9
        replace hc0 := Lib.hid hc0
        generalize code2 ns s = cd at hrn hc0 ⊢
        go_wp2_with (go_at_call 10; refine hrn.out.mono ?_; clear hrn; rintro e w10 ⟨hrs10, hu10, ⟨hne, -⟩ | ⟨-, rfl⟩⟩; all_goals (first | (exact absurd hne hc0.out) | (refine Hid.out ?_)))
        refine Lib.hid ?_
        have hbel := hrs10.upd
        have hst := Lib.hid (hset.out w10 hbel)
        replace hbel := Lib.hid hbel
        clear hrs10 hu10 hset
        go_wp2_with (go_at_call 11; refine hst.out.mono ?_; clear hst; rintro e w11 ⟨⟨tb, rfl⟩, hu11⟩; refine Hid.out ?_)
        refine Lib.hid ?_
        replace hbel := Lib.hid (hbel.out.then_none hu11)
        clear hu11
        go_wp2
        go_ret
        exact ⟨rfl, hbel.out.below_all⟩
end Go.Proofs.YtedaapcmcimepaaGreatDoor
