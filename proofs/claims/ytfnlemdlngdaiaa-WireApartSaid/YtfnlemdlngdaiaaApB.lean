/-
  WireApart: message and copy, told bytes and kept ones, two wires: each has its own.
-/
import Derived.Test.YtfnlemdlngdaiaaApA
import Derived.Test.YtfnlemdlngdaiaaLawE
namespace Go.Proofs.Ytfnlemdlngdaiaa
open Go.RowKit

set_option maxRecDepth 100000 in
set_option maxHeartbeats 4000000 in
theorem apart_true (v : Value) (a b : Int) (os : List OpD) (w : World) (hs : ScriptAt w v os) : Calls Try.prog 14 #[v, .int .i64 a, .int .i64 b] w (TrueP w) := by
  have hv : ∃ A l c, v = .slice A l c := by obtain ⟨A, c, e, -⟩ := hs.form; exact ⟨A, _, c, e⟩
  obtain ⟨vA, vl, vc, rfl⟩ := hv
  replace hs := Lib.hid hs
  go_enter Try.func14, Try.ntmps14
  go_wp2_with fail
  refine (begun_any _ os w hs.out).mono ?_
  clear hs
  rintro e w1 ⟨W, s, rfl, hs, hg, hA, U1⟩
  have hso : s.Ok := by rw [hs]; exact WA.Ok.nil.play _
  clear hs
  generalize hl : s.given + 1 = last
  have hat : (s.add [1, 2, 3, 4, 5]).row[s.row.length]? = some (last, [1, 2, 3, 4, 5]) := by rw [← hl]; exact WA.add_at s _
  have hSo := hso.add [1, 2, 3, 4, 5]
  have hSg : (s.add [1, 2, 3, 4, 5]).given = last := hl
  have hi0 : i0' s + 1 = (s.add [1, 2, 3, 4, 5]).row.length := by simp [WA.add, i0']
  rw [show s.row.length = i0' s from rfl] at hat
  have hlast : last ≤ 4001 := by omega
  generalize i0' s = i0 at hat hi0
  generalize s.add [1, 2, 3, 4, 5] = S at hat hSo hSg hA hi0
  clear hso hg hl s
  replace hA := Lib.hid hA
  replace U1 := Lib.hid U1
  replace hat := Lib.hid hat
  replace hSo := Lib.hid hSo
  replace hSg := Lib.hid hSg
  go_wp2_with fail
  refine (begun_any _ [] w1 (script_nil w1)).mono ?_
  rintro e w2 ⟨V, t, rfl, ht, -, hV, hu2⟩
  have et : t = ⟨[], 0⟩ := ht
  subst et
  obtain ⟨F2, hF2, hA2, hV2⟩ := two_wires hA.out hV hu2
  have U2 := Lib.hid (U1.out.trans_same (hu2.mono fun k _ hk h => hk (Nat.lt_of_lt_of_le h U1.out.size)))
  clear hA U1 hV hu2 ht
  replace hF2 := Lib.hid hF2
  replace hA2 := Lib.hid hA2
  replace hV2 := Lib.hid hV2
  obtain ⟨T, hT⟩ : ∃ T, T = (⟨[], 0⟩ : WA).add [1, 2, 3, 4, 5] := ⟨_, rfl⟩
  rw [← hT] at hV2
  replace hT := Lib.hid hT
  go_wp2_with fail
  obtain ⟨k, hk, ek⟩ := and3 a
  rw [ek]
  clear ek
  have hc := hA2.out.does (wcopy_any W last w2 hA2.out.ok)
  rw [hA2.out.abs, WA.copy_of hSo.out hat.out (by rw [hSg.out]; omega), hSg.out] at hc
  refine hc.mono ?_
  clear hc
  rintro e w3 ⟨W3, rfl, hp3, hA3, hu3⟩
  have U3 := Lib.hid (U2.out.trans_same (hu3.mono fun j _ hj ho => hj (hF2.out j ho)))
  replace hV2 := Lib.hid (hV2.out.upd hu3)
  have hSo3 := hSo.out.add [1, 2, 3, 4, 5]
  have hat3 : (S.add [1, 2, 3, 4, 5]).row[i0]? = some (last, [1, 2, 3, 4, 5]) := by
    have h1 := hat.out
    unfold WA.add
    rw [List.getElem?_append_left (by omega)]
    exact h1
  have hat4 : (S.add [1, 2, 3, 4, 5]).row[i0 + 1]? = some (last + 1, [1, 2, 3, 4, 5]) := by
    have h1 := WA.add_at S [1, 2, 3, 4, 5]
    rw [hSg.out, ← hi0] at h1
    exact h1
  have hlen3 : (S.add [1, 2, 3, 4, 5]).row.length = i0 + 2 := by simp only [WA.add, List.length_append, List.length_cons, List.length_nil]; omega
  generalize S.add [1, 2, 3, 4, 5] = S3 at hSo3 hat3 hat4 hA3 hlen3
  clear hA2 U2 hu3 hSo hSg hat hi0 S
  replace hSo3 := Lib.hid hSo3
  replace hat3 := Lib.hid hat3
  replace hat4 := Lib.hid hat4
  replace hlen3 := Lib.hid hlen3
  replace hA3 := Lib.hid hA3
  rw [← hp3]
  clear hp3
  go_wp2_with fail
  generalize bits BinOp.or IntKind.i64 b 1 = bb
  have hc := hA3.out.does (flip_any W3 last k bb w3 hA3.out.ok)
  rw [hA3.out.abs, WA.flip_of hSo3.out hat3.out (by omega) (by simp; omega)] at hc
  refine hc.mono ?_
  clear hc
  rintro e w5 ⟨W5, rfl, hp5, hA5, hu5⟩
  have U5 := Lib.hid (U3.out.trans_same (hu5.mono fun j _ hj ho => hj (hF2.out j ho)))
  replace hV2 := Lib.hid (hV2.out.upd hu5)
  have hl5 : (WA.flipped [1, 2, 3, 4, 5] (k : Int).toNat bb).length = 5 := by simp [WA.flipped]
  generalize WA.flipped [1, 2, 3, 4, 5] (k : Int).toNat bb = lf at hl5 hA5
  have hSo5 := hSo3.out.setB i0 lf
  have hat5 : (S3.setB i0 lf).row[i0]? = some (last, lf) := WA.setB_at hat3.out _
  have hat6 : (S3.setB i0 lf).row[i0 + 1]? = some (last + 1, [1, 2, 3, 4, 5]) := by
    unfold WA.setB
    rw [List.getElem?_set_ne (by omega)]
    exact hat4.out
  have hlen5 : (S3.setB i0 lf).row.length = i0 + 2 := by
    unfold WA.setB
    rw [List.length_set]
    exact hlen3.out
  generalize S3.setB i0 lf = S5 at hSo5 hat5 hat6 hA5 hlen5
  clear hA3 U3 hu5 hSo3 hat3 hat4 hlen3 hk
  replace hSo5 := Lib.hid hSo5
  replace hat5 := Lib.hid hat5
  replace hat6 := Lib.hid hat6
  replace hA5 := Lib.hid hA5
  replace hl5 := Lib.hid hl5
  rw [← hp5]
  clear hp5
  go_wp2_with fail
  have hc := look_any W5 ((last : Int) + 1) w5 hA5.out.ok
  rw [hA5.out.abs, show S5.look ((last : Int) + 1) = ([1, 2, 3, 4, 5], 0) from WA.look_of hSo5.out (N := last + 1) hat6.out] at hc
  refine hc.mono ?_
  clear hc
  rintro e w6 ⟨v6, rfl, hb6, hu6⟩
  have hA6 := hA5.out.none hu6
  obtain ⟨A6, c6, rfl, hc61, hc62, -, -, hcel⟩ := own_form hb6
  obtain ⟨gb, rfl, -⟩ := hcel 0 (bv 1) rfl
  clear hcel
  have hgb := hb6.ge gb rfl
  have hb62 : ¬ F2 gb := fun hF => by have := hA5.out.old gb hF; omega
  have hb67 : rest w6 W5 gb := ⟨hb6.lt gb rfl, fun hf => by have := hA5.out.ok.lt gb hf; omega⟩
  have hF6 : ∀ k, F2 k → rest w6 W5 k := at_into hA6
  replace hA6 := at_rest hA6
  generalize rest w6 W5 = F6 at hF6 hA6 hb67
  have U6 := Lib.hid (U5.out.trans_same (hu6.of_none _))
  replace hV2 := Lib.hid (hV2.out.upd (hu6.of_none _))
  replace hb6 := Lib.hid (hb6.mono (Nat.zero_le _))
  clear hA5 U5 hgb hu6 hat6
  replace hF6 := Lib.hid hF6
  replace hA6 := Lib.hid hA6
  replace hb62 := Lib.hid hb62
  replace hb67 := Lib.hid hb67
  replace hlen5 := Lib.hid hlen5
  simp only [maxLen] at hc62
  simp only [List.length_cons, List.length_nil, Nat.zero_add, Nat.reduceAdd] at hc61 hb6 ⊢
  go_wp2_with fail
  have hb7 := OwnB.upd hb6.out ((five_upd w6).of_none noBlk) fun _ _ h => h
  refine (same_any _ _ [1, 2, 3, 4, 5] [1, 2, 3, 4, 5] _ hb7.rd (five_rd w6)).mono ?_
  rintro e w7 ⟨rfl, q7, rfl⟩
  rw [show decide (([1, 2, 3, 4, 5] : List UInt8) = [1, 2, 3, 4, 5]) = true from decide_eq_true rfl]
  have hu7 : Upd noBlk w6 ((w6.alloc (.cells #[.int .u8 1, .int .u8 2, .int .u8 3, .int .u8 4, .int .u8 5] 5)).drewN q7) := (five_upd w6).drewN q7
  have hA7 := Lib.hid (hA6.out.none hu7)
  have U7 := Lib.hid (U6.out.trans_same (hu7.of_none _))
  replace hV2 := Lib.hid (hV2.out.upd (hu7.of_none _))
  replace hb7 := Lib.hid (hb6.out.upd (hu7.of_none noBlk) fun _ _ h => h)
  generalize (w6.alloc (.cells #[.int .u8 1, .int .u8 2, .int .u8 3, .int .u8 4, .int .u8 5] 5)).drewN q7 = w7 at *
  clear hA6 U6 hb6 hu7
  go_wp2_with fail
  refine (at_waits2 hA7.out).mono ?_
  rintro e w8 ⟨v8, ms8, G8, rfl, hm8, hF8, hA8, hK8, hu8, hn8⟩
  have U8 := Lib.hid (U7.out.trans_same (hu8.of_none _))
  replace hV2 := Lib.hid (hV2.out.upd (hu8.of_none _))
  replace hb8 := Lib.hid (hb7.out.upd (hu8.of_none noBlk) fun _ _ h => h)
  have hlen8 : ms8.length = i0 + 2 := by
    have h1 := congrArg List.length hm8
    rw [hlen5.out, List.length_map] at h1
    exact h1
  obtain ⟨A8, c8, rfl, hc81, hc82, -, -, hcel⟩ := own_form hK8.own.row
  obtain ⟨m80, hm80⟩ : ∃ m, ms8[0]? = some m := ⟨_, List.getElem?_eq_getElem (by omega)⟩
  obtain ⟨g8, rfl, -⟩ := hcel _ _ (rowCells_n hm80)
  clear hcel hm80 m80
  rw [hlen8] at hc81 hK8 hn8 ⊢
  simp only [maxLen] at hc82
  have hsm8 : ∀ (j : Nat) (m : Msg), ms8[j]? = some m → m.l.length ≤ 1048576 := by
    intro j m hj
    have h1 : S5.row[j]? = some m.abs := by rw [← hm8, List.getElem?_map, hj]; rfl
    rw [← hA8.abs] at h1
    simp only [Wr.abs, List.getElem?_map, Option.map_eq_some_iff] at h1
    obtain ⟨m', hm', he'⟩ := h1
    have h2 := hA8.ok.small m' (List.mem_of_getElem? hm')
    have h3 : m'.l = m.l := congrArg Prod.snd he'
    rw [← h3]
    exact h2
  clear hA7 U7 hu8 hb7 hm8
  replace hA8 := Lib.hid hA8
  replace hK8 := Lib.hid hK8
  replace hF8 := Lib.hid hF8
  replace hn8 := Lib.hid hn8
  replace hlen8 := Lib.hid hlen8
  replace hsm8 := Lib.hid hsm8
  have hir : i0 + 2 ≤ 4096 := by
    have h1 := at_many hA8.out
    have h2 := hA8.out.ok.most
    have h3 : W5.given = S5.given := congrArg WA.given hA8.out.abs
    rw [hlen5.out] at h1
    omega
  go_wp2_with fail
  refine (at_waits2 hA8.out).mono ?_
  rintro e w9 ⟨v9, ms9, G9, rfl, hm9, hF9, hA9, hK9, hu9, hn9⟩
  obtain ⟨A9, c9, rfl, -⟩ := own_form hK9.own.row
  have U9 := Lib.hid (U8.out.trans_same (hu9.of_none _))
  replace hV2 := hV2.out.upd (hu9.of_none _)
  replace hb9 := Lib.hid (hb8.out.upd (hu9.of_none noBlk) fun _ _ h => h)
  obtain ⟨D, F', hDn, hKr, hDb, hWD, hFD, hA', hFF, hV', hK'⟩ := row_apart hF6.out hF8.out hF9 hb62.out hb67.out hA9 hV2 (hK8.out.upd (hu9.of_none _)) hK9 hn8.out hn9
  have hF2' := Lib.hid (fun k h => hFF k (hF2.out k h))
  clear hF9 hA9 hK9 hn9 hn8 hF8 hK8 hA8 hV2 U8 hu9 hb8 hFF hF6 hb62 hb67 hF2
  replace hm9 := Lib.hid hm9
  replace hDn := Lib.hid hDn
  replace hKr := Lib.hid hKr
  replace hDb := Lib.hid hDb
  replace hWD := Lib.hid hWD
  replace hFD := Lib.hid hFD
  replace hA' := Lib.hid hA'
  replace hV' := Lib.hid hV'
  replace hK' := Lib.hid hK'
  go_wp2_with fail
  generalize hln0 : i0 + 2 = ln at *
  clear hln0
  replace hir := Lib.hid hir
  obtain ⟨i5, hi5, hz0, hz1, hz2⟩ := info_parts Try.info5
  have hi := Lib.hid (And.intro hi5 (And.intro hz0 (And.intro hz1 hz2)))
  clear hi5 hz0 hz1 hz2
  go_loopw [18] (fun i wr => ∃ (q : Nat) (ms : List Msg), q ≤ ln ∧ i = .int .i64 q ∧ ms.length = ln ∧ (∀ (j : Nat) (m : Msg), ms[j]? = some m → m.l.length ≤ 1048576) ∧ Kept D wr (.slice (some ⟨g8, 0, none⟩) (ln) c8) ms ∧ Upd D w9 wr) (fun i _ => ln - (intOf i).toNat)
  case atStart => exact ⟨0, ms8, Nat.zero_le _, rfl, hlen8.out, hsm8.out, hKr.out, Upd.refl _ _⟩
  case round =>
    clear hlen8 hsm8 hKr
    obtain ⟨q, ms, hq, rfl, hln, hsm, hK, hU⟩ := hrel
    replace hln := Lib.hid hln
    replace hsm := Lib.hid hsm
    replace hK := Lib.hid hK
    replace hU := Lib.hid hU
    have hir' := hir.out
    by_cases hlt : q < ln
    · obtain ⟨m, hm⟩ : ∃ m, ms[q]? = some m := ⟨_, List.getElem?_eq_getElem (by rw [hln.out]; exact hlt)⟩
      obtain ⟨A, c, hv, hc1, hc2, -, -, -⟩ := own_form (hK.out.own.byt m (List.mem_of_getElem? hm))
      obtain ⟨n, hn⟩ : ∃ n, n = m.l.length := ⟨_, rfl⟩
      rw [← hn] at hv hc1
      have hn1 : n ≤ 1048576 := by rw [hn]; exact hsm.out q m hm
      simp only [maxLen] at hc2
      have hrel1 := Lib.hid (show ∃ (ms2 : List Msg) (m2 : Msg), ms2.length = ln ∧ (∀ (j : Nat) (m : Msg), ms2[j]? = some m → m.l.length ≤ 1048576) ∧ ms2[q]? = some m2 ∧ m2.v = .slice A n c ∧ m2.l.length = n ∧ Kept D wr (.slice (some ⟨g8, 0, none⟩) (ln) c8) ms2 ∧ Upd D w9 wr from ⟨ms, m, hln.out, hsm.out, hm, hv, hn.symm, hK.out, hU.out⟩)
      clear hv hn hm hln hsm hK hU
      go_wp2_with fail
      go_loopw [19] (fun i wr => ∃ r : Nat, r ≤ n ∧ i = .int .i64 r ∧ ∃ (ms2 : List Msg) (m2 : Msg), ms2.length = ln ∧ (∀ (j : Nat) (m : Msg), ms2[j]? = some m → m.l.length ≤ 1048576) ∧ ms2[q]? = some m2 ∧ m2.v = .slice A n c ∧ m2.l.length = n ∧ Kept D wr (.slice (some ⟨g8, 0, none⟩) (ln) c8) ms2 ∧ Upd D w9 wr) (fun i _ => n - (intOf i).toNat)
      case atStart => exact ⟨0, Nat.zero_le _, rfl, hrel1.out⟩
      case round =>
        obtain ⟨r, hr, rfl, ms2, m2, hln, hsm, hm2, hv, hl2, hK, hU⟩ := hrel
        obtain ⟨-, hcv, -, -⟩ := hK.rw_.cells hln hm2
        by_cases hlt2 : r < n
        · have hob := hK.own.byt m2 (List.mem_of_getElem? hm2)
          rw [hv] at hob
          obtain ⟨A', c', hv', -, -, -, -, hcl⟩ := own_form hob
          simp only [Value.slice.injEq] at hv'
          obtain ⟨rfl, -, rfl⟩ := hv'
          obtain ⟨bg, rfl, -⟩ := hcl r _ (bvs_at (List.getElem?_eq_getElem (by omega)))
          clear hcl
          obtain ⟨b, _, hcell, hfr⟩ := hob.at_ hl2 hlt2
          have hbyte := Lib.hid (fun (x : UInt8) => hK.byte hm2 hv hl2 r x)
          replace hob := Lib.hid hob
          replace hln := Lib.hid hln
          replace hsm := Lib.hid hsm
          replace hm2 := Lib.hid hm2
          rw [hv] at hcv
          replace hv := Lib.hid hv
          replace hl2 := Lib.hid hl2
          replace hK := Lib.hid hK
          replace hU := Lib.hid hU
          go_wp2
          rw [low_bv]
          go_roundw
          case rel =>
            have h1 := hbyte.out (WA.low ((q : Int) + 100))
            refine ⟨r + 1, by omega, by go_num, _, ⟨m2.N, m2.v, m2.l.set r (WA.low ((q : Int) + 100))⟩, by rw [List.length_set]; exact hln.out, ?_, List.getElem?_set_self (by rw [hln.out]; exact hlt), hv.out, by rw [List.length_set]; exact hl2.out, h1.1, hU.out.trans_same h1.2⟩
            intro j x hj
            rw [List.getElem?_set] at hj
            split at hj
            · split at hj
              · obtain rfl := Option.some.inj hj
                rw [List.length_set]
                exact hsm.out q m2 hm2.out
              · cases hj
            · exact hsm.out j x hj
          case measure => simp [intOf]; omega
        · obtain rfl : r = n := by omega
          replace hln := Lib.hid hln
          replace hsm := Lib.hid hsm
          rw [hv] at hcv
          replace hv := Lib.hid hv
          replace hl2 := Lib.hid hl2
          replace hK := Lib.hid hK
          replace hU := Lib.hid hU
          clear hm2
          go_wp2
          go_roundw
          case rel => exact ⟨q + 1, ms2, by omega, by go_num, hln.out, hsm.out, hK.out, hU.out⟩
          case measure => simp [intOf]; omega
    · obtain rfl : ln = q := by omega
      clear hlt hq
      go_wp2_with fail
      have hsm0 : ∀ (j : Nat) (m : Msg), 0 ≤ j → ms[j]? = some m → m.l.length ≤ 1048576 := fun j m _ hj => hsm.out j m hj
      clear hsm
      replace hsm0 := Lib.hid hsm0
      clear hir'
      go_loopw [20] (fun i wr => ∃ (q : Nat) (ms : List Msg), q ≤ ln ∧ i = .int .i64 q ∧ ms.length = ln ∧ (∀ (j : Nat) (m : Msg), q ≤ j → ms[j]? = some m → m.l.length ≤ 1048576) ∧ Kept D wr (.slice (some ⟨g8, 0, none⟩) (ln) c8) ms ∧ Upd D w9 wr) (fun i _ => ln - (intOf i).toNat)
      case atStart => exact ⟨0, ms, Nat.zero_le _, rfl, hln.out, hsm0.out, hK.out, hU.out⟩
      case round =>
        clear hln hsm0 hK hU
        obtain ⟨q, ms, hq, rfl, hln, hsm, hK, hU⟩ := hrel
        replace hln := Lib.hid hln
        replace hsm := Lib.hid hsm
        replace hK := Lib.hid hK
        replace hU := Lib.hid hU
        have hir' := hir.out
        by_cases hlt : q < ln
        · obtain ⟨m, hm⟩ : ∃ m, ms[q]? = some m := ⟨_, List.getElem?_eq_getElem (by rw [hln.out]; exact hlt)⟩
          obtain ⟨-, hcv, -, -⟩ := hK.out.rw_.cells hln.out hm
          have hn1 := Lib.hid (hsm.out q m (Nat.le_refl _) hm)
          have hK2 := Lib.hid (hK.out.upd ((Upd.refl (fun k => ¬ D k) wr).alloc (.cells #[.int .u8 201, .int .u8 202, .int .u8 203, .int .u8 204, .int .u8 205, .int .u8 206, .int .u8 207, .int .u8 208] 5)))
          have hU2 := Lib.hid (hU.out.alloc (.cells #[.int .u8 201, .int .u8 202, .int .u8 203, .int .u8 204, .int .u8 205, .int .u8 206, .int .u8 207, .int .u8 208] 5))
          have hb2 := Lib.hid (Blk.new wr 5 #[.int .u8 201, .int .u8 202, .int .u8 203, .int .u8 204, .int .u8 205, .int .u8 206, .int .u8 207, .int .u8 208])
          have hob := Lib.hid (hK2.out.own.byt m (List.mem_of_getElem? hm))
          obtain ⟨l8, hl8⟩ : ∃ l8 : List UInt8, l8 = [201, 202, 203, 204, 205, 206, 207, 208] := ⟨_, rfl⟩
          replace hm := Lib.hid hm
          clear hK hU
          go_wp2_with (at_builtin; refine wpList_app _ rfl _ _ 24 rfl 0 5 i5 (.int .u8 0) 1 1 Try.underlying24 hi.out rfl (by decide) m.v m.l.length (bvs m.l) rfl hob.out _ 8 (bvs [201, 202, 203, 204, 205, 206, 207, 208]) rfl (blk_rd hb2.out 1 8 (by simp [maxLen]) rfl) (bvs_one _) (by have := hn1.out; simp only [maxLen]; omega) (by have := hn1.out; omega) (Nat.zero_le _) ?_; intro u2 wv hownv hgrowv hatv; have hfc := hK2.out.grow_cell hln.out hm.out hgrowv; obtain ⟨hf1, hf2⟩ := hfc; have hfo := own_form hownv; obtain ⟨Av, cv, rfl, -⟩ := hfo; replace hownv := Lib.hid hownv; replace hgrowv := Lib.hid hgrowv; replace hatv := Lib.hid hatv)
          go_roundw
          case rel =>
            have h1 := hK2.out.grow (l' := m.l ++ [201, 202, 203, 204, 205, 206, 207, 208]) hln.out hm.out (fun k hk => hDn.out k (Nat.le_trans hU2.out.size hk)) (by unfold OwnB; rw [bvs_append, List.length_append]; exact hownv.out) hgrowv.out hatv.out
            refine ⟨q + 1, _, by omega, by go_num, by rw [List.length_set]; exact hln.out, ?_, h1.1, hU2.out.trans_same h1.2⟩
            intro j x hqj hj
            rw [List.getElem?_set_ne (by omega)] at hj
            exact hsm.out j x (by omega) hj
          case measure => simp [intOf]; omega
        · obtain rfl : ln = q := by omega
          clear hlt hq hsm
          have hKb := Lib.hid (hb9.out.upd hU.out fun k hk => by have h1 : gb = k := (by simpa [Value.ownBlock] using hk); rw [← h1]; exact hDb.out)
          clear hK hln ms hir'
          obtain ⟨w10, rfl⟩ : ∃ x, x = wr := ⟨_, rfl⟩
          go_wp2_with fail
          go_loopw [21] (fun i wr => ∃ (r : Nat) (l' : List UInt8), r ≤ 5 ∧ i = .int .i64 r ∧ l'.length = 5 ∧ OwnB 0 wr (.slice (some ⟨gb, 0, none⟩) 5 c6) l' ∧ Upd (fun k => k = gb) w10 wr) (fun i _ => 5 - (intOf i).toNat)
          case atStart => exact ⟨0, _, Nat.zero_le _, rfl, rfl, hKb.out, Upd.refl _ _⟩
          case round =>
            obtain ⟨r, l', hr, rfl, hl', hol, hul⟩ := hrel
            by_cases hlt2 : r < 5
            · obtain ⟨b, _, hcell, hfr⟩ := hol.at_ hl' hlt2
              replace hol := Lib.hid hol
              replace hl' := Lib.hid hl'
              replace hul := Lib.hid hul
              go_wp2
              go_roundw
              case rel => exact ⟨r + 1, l'.set r 99, by omega, by go_num, by rw [List.length_set]; exact hl'.out, hol.out.stored hl'.out (b := 99), hul.out.setCell (p := ⟨gb, r, none⟩) (.inl rfl) _⟩
              case measure => simp [intOf]; omega
            · obtain rfl : r = 5 := by omega
              have hu11 : Upd (fun k => D k ∨ k = gb) w9 wr := (hU.out.mono fun _ _ h => .inl h).trans_same (hul.mono fun _ _ h => .inr h)
              have hA11 := Lib.hid (hA'.out.touched hu11 hWD.out)
              have hFu : Upd (fun k => ¬ F' k) w9 wr := hu11.mono fun k _ hk hF => hFD.out k hF hk
              have hV11 := Lib.hid (hV'.out.upd hFu)
              have hK11 := Lib.hid (hK'.out.upd hFu)
              have U11 := Lib.hid (U9.out.trans_same (hFu.mono fun k _ hk ho => hk (hF2'.out k ho)))
              clear hKb hU hul hol hl' hu11 hFu hA' hV' hK' U9 hWD hFD hDb hDn hlt2
              go_wp2_with fail
              refine (at_waits2 hA11.out).mono ?_
              rintro e w12 ⟨v12, ms12, G12, rfl, hm12, hF12, hA12, hK12, hu12, -⟩
              have U12 := Lib.hid (U11.out.trans_same (hu12.of_none _))
              obtain ⟨A12, c12, rfl, -⟩ := own_form hK12.own.row
              have hV12 := hV11.out.upd (hu12.of_none _)
              have hK9' := (hK11.out.upd (hu12.of_none _)).mono hF12
              have hO12 : ∀ k, older w k → G12 k := fun k hk => hF12 k (hF2'.out k hk)
              clear hA11 hV11 hK11 U11 hu12 hF12 hF2'
              replace hV12 := Lib.hid hV12
              replace hA12 := Lib.hid hA12
              replace hK12 := Lib.hid hK12
              replace hK9' := Lib.hid hK9'
              replace hm12 := Lib.hid hm12
              replace hO12 := Lib.hid hO12
              go_wp2_with fail
              have hc := waiting_any V w12 hV12.out.ok
              rw [hV12.out.abs, hT.out, show ((⟨[], 0⟩ : WA).add [1, 2, 3, 4, 5]).row = [(1, [1, 2, 3, 4, 5])] from rfl] at hc
              refine hc.mono ?_
              clear hc
              rintro e w13 ⟨v13, ms13, rfl, ho13, hm13, hu13⟩
              have hA13 := (hA12.out.none hu13).more (G := fun k => v13.ownBlock = some k ∨ ∃ m ∈ ms13, m.v.ownBlock = some k) (fun k hk => ⟨(ho13.lt k hk).2, fun hf => by have := hA12.out.ok.lt k hf; have := (ho13.lt k hk).1; omega⟩)
              have hK13 : Kept (fun k => G12 k ∨ (v13.ownBlock = some k ∨ ∃ m ∈ ms13, m.v.ownBlock = some k)) w13 v13 ms13 := ⟨ho13.mono (Nat.zero_le _), fun k hk => .inr hk⟩
              have hO13 : ∀ k, older w k → (fun k => G12 k ∨ (v13.ownBlock = some k ∨ ∃ m ∈ ms13, m.v.ownBlock = some k)) k := fun k hk => .inl (hO12.out k hk)
              have hK12' := (hK12.out.upd (hu13.of_none _)).mono (G := fun k => G12 k ∨ (v13.ownBlock = some k ∨ ∃ m ∈ ms13, m.v.ownBlock = some k)) fun k hk => .inl hk
              have hK9 := (hK9'.out.upd (hu13.of_none _)).mono (G := fun k => G12 k ∨ (v13.ownBlock = some k ∨ ∃ m ∈ ms13, m.v.ownBlock = some k)) fun k hk => .inl hk
              generalize (fun k => G12 k ∨ (v13.ownBlock = some k ∨ ∃ m ∈ ms13, m.v.ownBlock = some k)) = G13 at *
              have U13 := Lib.hid (U12.out.trans_same (hu13.of_none _))
              clear hA12 hK12 hK9' U12 hu13 hO12 hV12 ho13
              obtain ⟨m13, rfl⟩ : ∃ m, ms13 = [m] := by
                have h1 := congrArg List.length hm13
                simp only [List.length_map, List.length_cons, List.length_nil] at h1
                match ms13, h1 with
                | [m], _ => exact ⟨m, rfl⟩
              have hm13l : m13.l = [1, 2, 3, 4, 5] := by
                simp only [List.map_cons, List.map_nil, List.cons.injEq, and_true] at hm13
                exact congrArg Prod.snd hm13
              obtain ⟨A13, c13, rfl, hc131, hc132, -, -, hcel⟩ := own_form hK13.own.row
              obtain ⟨g13, rfl, -⟩ := hcel 0 _ (rowCells_n (i := 0) (m := m13) rfl)
              clear hcel hm13
              obtain ⟨A14, c14, hv14, -⟩ := own_form (hK13.own.byt m13 List.mem_cons_self)
              rw [hm13l] at hv14
              simp only [List.length_cons, List.length_nil, Nat.zero_add, Nat.reduceAdd] at hv14 hK13 hc131 ⊢
              replace hA13 := Lib.hid hA13
              replace hK13 := Lib.hid hK13
              replace hK12' := Lib.hid hK12'
              replace hK9 := Lib.hid hK9
              replace hO13 := Lib.hid hO13
              replace hv14 := Lib.hid hv14
              replace hm13l := Lib.hid hm13l
              go_wp2_with fail
              have hc := take_any W5 last w13 hA13.out.ok
              rw [hA13.out.abs, WA.look_of hSo5.out hat5.out] at hc
              refine hc.mono ?_
              clear hc
              rintro e w15 ⟨v15, W15, rfl, hb15, hon, -, -⟩
              have hu15 := hA13.out.upd hon
              have U15 := Lib.hid (U13.out.trans_same (hu15.mono fun k _ hk ho => hk (hO13.out k ho)))
              have hK13' := hK13.out.upd hu15
              replace hK12' := Lib.hid (hK12'.out.upd hu15)
              replace hK9 := Lib.hid (hK9.out.upd hu15)
              obtain ⟨A15, c15, rfl, -⟩ := own_form hb15
              rw [hl5.out]
              obtain ⟨-, hcv, -, -⟩ := hK13'.rw_.cells (i := 0) rfl rfl
              rw [hv14.out, Nat.zero_mul, Nat.zero_add] at hcv
              replace hK13' := Lib.hid hK13'
              clear hA13 hK13 hO13 U13 hu15 hon hb15
              go_wp2_with fail
              refine (rows_any _ _ ms12 ms9 _ hK12'.out.rw_.rd hK9.out.rw_.rd).mono ?_
              rintro e w16 ⟨rfl, q16, rfl⟩
              rw [show decide (ms12.map Msg.abs = ms9.map Msg.abs) = true from decide_eq_true (by rw [hm12.out, hm9.out])]
              have U16 := Lib.hid (U15.out.drewN q16)
              replace hcv : (w15.drewN q16).cell? ⟨g13, 1, none⟩ = some (.slice A14 5 c14) := hcv
              have hb16 := (hK13'.out.own.byt m13 List.mem_cons_self).upd ((Upd.refl noBlk w15).drewN q16) fun _ _ h => h
              rw [hm13l.out, hv14.out] at hb16
              replace hb16 := Lib.hid hb16
              generalize w15.drewN q16 = w17 at *
              clear hK12' hK9 hK13' U15 hm12 hm9 hm13l hv14
              go_wp2_with fail
              refine (same_any _ _ [1, 2, 3, 4, 5] [1, 2, 3, 4, 5] _ (OwnB.upd hb16.out ((five_upd w17).of_none noBlk) fun _ _ h => h).rd (five_rd w17)).mono ?_
              rintro e w18 ⟨rfl, q18, rfl⟩
              rw [show decide (([1, 2, 3, 4, 5] : List UInt8) = [1, 2, 3, 4, 5]) = true from decide_eq_true rfl]
              have U18 := (U16.out.trans_same ((five_upd w17).of_none _)).drewN q18
              replace U18 := Lib.hid U18
              go_wp2
              go_ret
              exact ⟨rfl, below_of_old U18.out⟩

end Go.Proofs.Ytfnlemdlngdaiaa
