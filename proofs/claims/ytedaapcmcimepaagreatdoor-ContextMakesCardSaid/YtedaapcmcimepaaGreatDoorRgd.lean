/-
  The document's ring takes a name.
-/
import Derived.Test.YtedaapcmcimepaaGreatDoorRgb
import Derived.Test.YtedaapcmcimepaaGreatDoorRgc
import Derived.Deep.CutBlock
import Derived.Deep.CutRange
namespace Go.Proofs.YtedaapcmcimepaaGreatDoor
open Go.RowKit

theorem Tryz.info9 : (Tryz.prog.info? 9).map (fun i => (i.zero, i.size, i.bytes)) = some (some (.string ⟨#[]⟩), 1, 16) := by kernel_rfl

theorem good_false {names : List (List UInt8)} {s : List UInt8} (h : good s = false) : code names s = 36 := by
  unfold code
  refine if_pos ?_
  unfold good at h
  cases s with
  | nil => exact .inl rfl
  | cons b r => exact .inr (by simp at h ⊢; omega)
theorem good_true {s : List UInt8} (h : good s = true) : ¬ (s = [] ∨ 64 < s.length) := by
  unfold good at h
  cases s with
  | nil => simp at h
  | cons b r => simp at h ⊢; exact h

def LEnrollP (w : World) (R : LRg) (names : List (List UInt8)) (s : List UInt8) (e : Ending) (w' : World) : Prop := ∃ (R' : LRg) (ns : List (List UInt8)), e = .returned (.int .i64 (code names s)) ∧ R'.q = R.q ∧ LOk w' R' ns ∧ Upd (fun k => k = R.q) w w' ∧
  ns.length = (names' names s).length ∧ (∀ t, t ∈ ns ↔ t ∈ names' names s) ∧ ∀ k, R'.foot k → R.foot k ∨ w.heap.size ≤ k

theorem names'_of {names : List (List UInt8)} {s : List UInt8} {c : Int} (h : code names s = c) (hc : c ≠ 0) : names' names s = names := by unfold names'; rw [if_neg (by rw [h]; exact hc)]

set_option maxRecDepth 100000 in
set_option maxHeartbeats 2000000 in
theorem lenroll_any (R : LRg) (names : List (List UInt8)) (s : List UInt8) (w : World) (hR : LOk w R names) : Calls Tryz.prog 8 #[.pointer (some ⟨R.q, 0, none⟩), str s] w (LEnrollP w R names s) := by
  have hp := Lib.hid (rprin_any s w)
  have hR0 := Lib.hid hR
  have stay : ∀ (c : Int), code names s = c → c ≠ 0 → ∀ w', Upd noBlk w w' → LEnrollP w R names s (.returned (.int .i64 c)) w' := fun c h1 h2 w' hu => by
    have h3 := names'_of h1 h2
    exact ⟨R, names, by rw [h1], rfl, hR.same hu, hu.of_none _, by rw [h3], by rw [h3]; exact fun _ => Iff.rfl, fun _ h => .inl h⟩
  replace stay := Lib.hid stay
  unfold textTerm at hp
  unfold str
  by_cases hg : good s = true
  · rw [hg] at hp
    have hbad := good_true hg
    have hh := Lib.hid fun w1 h => rhas_any R names s w1 (hR.same h)
    unfold str at hh
    by_cases hin : s ∈ names
    · have hcode : code names s = 181 := by unfold code; rw [if_neg hbad, if_pos hin]
      rw [decide_eq_true hin] at hh
      clear hbad hin hR
      go_enter Tryz.func8, Tryz.ntmps8
      go_wp2_with (first | (go_at_call 20; refine hp.out.mono ?_; rintro e w1 ⟨rfl, hu⟩; replace hu := Lib.hid hu) | (go_at_call 21; refine (hh.out _ hu.out).mono ?_; rintro e w2 ⟨rfl, rfl⟩))
      go_ret
      exact stay.out 181 hcode (by decide) _ hu.out
    · obtain ⟨n, hn⟩ : ∃ n, names.length = n := ⟨_, rfl⟩
      have hrow := own_rd hR.row.choose_spec
      rw [hn] at hrow
      obtain ⟨-, A, c, hlv, hc1, hc2, hA0, hat⟩ := hrow
      have cq : ∀ w1, Upd noBlk w w1 → w1.cell? ⟨R.q, 1, none⟩ = some (.slice A n c) ∧ w1.frozen? ⟨R.q, 1, none⟩ = false := fun w1 hu => by
        have hb := hR.blk.upd hu id
        exact ⟨by rw [hb.cell, hlv]; rfl, hb.free _ rfl⟩
      replace cq := Lib.hid cq
      replace hA0 := Lib.hid hA0
      replace hlv := Lib.hid hlv
      replace hat := Lib.hid hat
      rw [decide_eq_false hin] at hh
      by_cases hfull : 256 ≤ n
      · have hcode : code names s = 183 := by unfold code; rw [if_neg hbad, if_neg hin, if_pos (by omega)]
        have hfull' : (256 : Int) ≤ n := by omega
        clear hbad hin hR hat
        go_enter Tryz.func8, Tryz.ntmps8
        go_wp2_with (first | (go_at_call 20; refine hp.out.mono ?_; rintro e w1 ⟨rfl, hu⟩; have hq := (cq.out _ hu).1; replace hu := Lib.hid hu) | (go_at_call 21; refine (hh.out _ hu.out).mono ?_; rintro e w2 ⟨rfl, rfl⟩))
        go_ret
        exact stay.out 183 hcode (by decide) _ hu.out
      · have hcode : code names s = 0 := by unfold code; rw [if_neg hbad, if_neg hin, if_neg (by omega)]
        have hnames : names' names s = s :: names := by unfold names'; rw [hcode]; rfl
        have hfull' : ¬ (256 : Int) ≤ n := by omega
        clear hbad hin hR stay
        replace hcode := Lib.hid hcode
        replace hnames := Lib.hid hnames
        go_enter Tryz.func8, Tryz.ntmps8
        go_upto_block 0 with (first | (go_at_call 20; refine hp.out.mono ?_; rintro e w1 ⟨rfl, hu⟩; have hq := (cq.out _ hu).1; have hfq := (cq.out _ hu).2; replace hu := Lib.hid hu) | (go_at_call 21; refine (hh.out _ hu.out).mono ?_; rintro e w2 ⟨rfl, rfl⟩))
        clear hh hp cq
        go_cut [5] from 5 to 39 (fun i wx => ∃ k : Nat, k ≤ n ∧ i = .int .i64 k ∧ Hid (w1 = wx))
        case first =>
          go_wp2_with fail
          go_loopw [5] (fun i wr => ∃ k : Nat, k ≤ n ∧ i = .int .i64 k ∧ Hid (w1 = wr)) (fun i _ => n - (intOf i).toNat)
          case atStart => exact ⟨0, Nat.zero_le _, rfl, Lib.hid rfl⟩
          case round =>
            obtain ⟨k, hk, rfl, hw⟩ := hrel
            obtain rfl := hw.out
            clear hw
            by_cases hlt : k < n
            · obtain ⟨t, ht⟩ : ∃ t, names[k]? = some t := ⟨_, List.getElem?_eq_getElem (by omega)⟩
              obtain ⟨ad, rfl, hcell⟩ := hat.out k _ (strs_at ht)
              replace hcell := hu.out.cell_some hcell id
              unfold str at hcell
              have q1 : (0 : Int) ≤ k := by omega
              have q2 : (k : Int) < n := by omega
              go_wp2
              · go_roundw
                case rel => exact ⟨k + 1, by omega, by go_num, Lib.hid trivial⟩
                case measure => simp [intOf]; omega
              · go_meet
                exact ⟨k, by omega, rfl, Lib.hid rfl⟩
            · obtain rfl : k = n := by omega
              go_wp2
              go_meet
              exact ⟨k, Nat.le_refl _, rfl, Lib.hid rfl⟩
        case rest =>
          obtain ⟨k, hk, rfl, hw⟩ := hcut
          obtain rfl := hw.out
          clear hw
          obtain ⟨i9, hi⟩ := info_parts Tryz.info9
          replace hi := Lib.hid hi
          have q1 : (0 : Int) ≤ k := by omega
          have q2 : (k : Int) ≤ n := by omega
          have q3 : (k : Int) ≤ c := by omega
          have hat1 : Hid (∀ (j : Nat) (u : Value), (strs names)[j]? = some u → ∃ ad, A = some ad ∧ w1.cell? (ad.add j) = some u) := Lib.hid fun j u hj => by
            obtain ⟨ad, h1, h2⟩ := hat.out j u hj
            exact ⟨ad, h1, hu.out.cell_some h2 id⟩
          have hpre : RdC w1 (.slice A k c) 1 k ((strs names).take k) := by
            refine ⟨by rw [List.length_take, strs_length, hn]; omega, A, c, rfl, by omega, hc2, fun h => by have := hA0.out h; omega, fun j u hj => ?_⟩
            rw [List.getElem?_take] at hj
            split at hj
            · exact hat1.out j u hj
            · cases hj
          replace hpre := Lib.hid hpre
          have hone : ∀ u ∈ strs names, u.oneCell' = true := fun u hu => by
            simp only [strs, List.mem_map] at hu
            obtain ⟨t, -, rfl⟩ := hu
            rfl
          replace hone := Lib.hid hone
          have hnil : Hid (w1.ownsRow w1.heap.size 9 1 (.slice none 0 0) 0 []) := Lib.hid (World.ownsRow_nil _ _ _ _)
          go_wp2_with (at_builtin; refine wpList_app _ rfl _ _ 23 rfl w1.heap.size 9 i9 (.string ⟨#[]⟩) 1 16 Tryz.underlying23 hi.out rfl (by decide) (.slice none 0 0) 0 [] rfl hnil.out (.slice A k c) k ((strs names).take k) rfl hpre.out (fun u hu => hone.out u (List.mem_of_mem_take hu)) (by simp only [maxLen]; omega) (by omega) (Nat.le_refl _) ?_; intro v2 w2 hown2 hgrow2 _; refine Hid.out ?_)
          refine Lib.hid ?_
          obtain ⟨A2, c2, rfl, -⟩ := own_form hown2
          rw [Nat.zero_add, List.nil_append] at hown2
          have hu2 : Upd noBlk w1 w2 := (Upd.refl noBlk w1).grown hgrow2 fun k h => by cases h
          have hown3 : Hid ((w2.alloc (.cells #[.string ⟨⟨s⟩⟩] 9)).ownsRow w1.heap.size 9 1 (.slice A2 k c2) k ((strs names).take k)) := Lib.hid (own_upd hown2 ((Upd.refl noBlk w2).alloc _) fun _ _ => id)
          have hsrc : Hid (RdC (w2.alloc (.cells #[.string ⟨⟨s⟩⟩] 9)) (.slice (some ⟨w2.heap.size, 0, none⟩) 1 1) 1 1 [str s]) := Lib.hid (own_rd (World.ownsRow_lit (base := w2.heap.size) w2 #[.string ⟨⟨s⟩⟩] 1 (Nat.le_refl _) (by simp [maxLen]) rfl))
          have hge2 : ∀ j, (Value.slice A2 k c2).ownBlock = some j → w1.heap.size ≤ j := fun j hj => (World.ownsRow.lt hown2 j hj).1
          replace hu2 := Lib.hid hu2
          replace hge2 := Lib.hid hge2
          have hsz2 := hu2.out.size
          clear hown2 hgrow2 hpre hnil
          rw [Nat.zero_add]
          go_wp2_with (at_builtin; refine wpList_app _ rfl _ _ 23 rfl w1.heap.size 9 i9 (.string ⟨#[]⟩) 1 16 Tryz.underlying23 hi.out rfl (by decide) (.slice A2 k c2) k ((strs names).take k) rfl hown3.out _ 1 [str s] rfl hsrc.out (fun u hu => by rw [List.mem_singleton.1 hu]; rfl) (by simp only [maxLen]; omega) (by omega) (by simp; omega) ?_; intro v3 w3 hown4 hgrow3 _; refine Hid.out ?_)
          refine Lib.hid ?_
          obtain ⟨A3, c3, rfl, -⟩ := own_form hown4
          have hu3 : Upd noBlk w1 w3 := (hu2.out.alloc (.cells #[.string ⟨⟨s⟩⟩] 9)).grown hgrow3 fun j h => .inr (hge2.out j h)
          have hge3 : ∀ j, (Value.slice A3 (k + 1) c3).ownBlock = some j → w1.heap.size ≤ j := fun j hj => (World.ownsRow.lt hown4 j hj).1
          have hq3 := hu3.cell_some hq id
          have hfq3 := hu3.free (p := ⟨R.q, 1, none⟩) (World.block_lt_of_cell? _ _ hq) hfq id
          replace hu3 := Lib.hid hu3
          replace hge3 := Lib.hid hge3
          have hown5 := Lib.hid hown4
          have hqc := Lib.hid hq
          have hfc := Lib.hid hfq
          clear hown4 hgrow3 hsrc hown3 hq hfq
          obtain ⟨A4, hA4⟩ : ∃ A4, (if c = k then A else Option.map (fun x => x.add k) A) = A4 := ⟨_, rfl⟩
          have hsuf : RdC w3 (.slice A4 (n - k) (c - k)) 1 (n - k) ((strs names).drop k) := by
            refine ⟨by rw [List.length_drop, strs_length, hn]; omega, A4, c - k, rfl, by omega, by omega, fun h => ?_, fun j u hj => ?_⟩
            · rw [← hA4] at h
              split at h
              · have := hA0.out h; omega
              · cases A with
                | none => have := hA0.out rfl; omega
                | some a => cases h
            · rw [List.getElem?_drop] at hj
              obtain ⟨ad, rfl, h2⟩ := hat1.out (k + j) u hj
              have hlt : k + j < n := by
                have := (List.getElem?_eq_some_iff.1 hj).1
                rw [strs_length, hn] at this
                exact this
              rw [if_neg (by omega)] at hA4
              exact ⟨ad.add k, hA4.symm, by rw [addr_add_add]; exact hu3.out.cell_some h2 id⟩
          replace hsuf := Lib.hid hsuf
          have hsz3 := hu3.out.size
          go_wp2_with (at_builtin; refine wpList_app _ rfl _ _ 23 rfl w1.heap.size 9 i9 (.string ⟨#[]⟩) 1 16 Tryz.underlying23 hi.out rfl (by decide) (.slice A3 (k + 1) c3) (k + 1) _ rfl hown5.out (.slice A4 (n - k) (c - k)) (n - k) ((strs names).drop k) rfl hsuf.out (fun u hu => hone.out u (List.mem_of_mem_drop hu)) (by simp only [maxLen]; omega) (by omega) hsz3 ?_; intro v6 w6 hown6 hgrow6 _; refine Hid.out ?_)
          refine Lib.hid ?_
          obtain ⟨A6, c6, rfl, -⟩ := own_form hown6
          have hu6 := hu3.out.grown hgrow6 fun j h => .inr (hge3.out j h)
          have hqlt : R.q < w1.heap.size := World.block_lt_of_cell? _ _ hqc.out
          have hq6 := hu6.cell_some hqc.out id
          have hf6 := hu6.free (p := ⟨R.q, 1, none⟩) hqlt hfc.out id
          have hge6 : ∀ j, (Value.slice A6 (k + 1 + (n - k)) c6).ownBlock = some j → w1.heap.size ≤ j := fun j hj => (World.ownsRow.lt hown6 j hj).1
          have hrow6 : w6.ownsRow w1.heap.size 9 1 (.slice A6 (k + 1 + (n - k)) c6) (names.take k ++ s :: names.drop k).length (strs (names.take k ++ s :: names.drop k)) := by
            have h1 := hown6
            have e1 : (names.take k ++ s :: names.drop k).length = k + 1 + (n - k) := by rw [List.length_append, List.length_take, List.length_cons, List.length_drop, hn]; omega
            have e2 : strs (names.take k ++ s :: names.drop k) = (strs names).take k ++ [str s] ++ (strs names).drop k := by simp [strs, List.map_take, List.map_drop]
            rw [e1, e2]
            exact h1
          have hu7 := hu.out.then_none hu6
          have hblk6 := hR0.out.blk.upd hu7 id
          have hlen6 : (names.take k ++ s :: names.drop k).length = (s :: names).length := by
            have h1 := congrArg List.length (List.take_append_drop k names)
            rw [List.length_append] at h1
            rw [List.length_append, List.length_cons, List.length_cons]
            omega
          have hmem6 : ∀ t, t ∈ names.take k ++ s :: names.drop k ↔ t ∈ s :: names := fun t => by
            have h1 : t ∈ names ↔ t ∈ names.take k ∨ t ∈ names.drop k := by rw [← List.mem_append, List.take_append_drop]
            rw [List.mem_append, List.mem_cons, List.mem_cons, h1]
            constructor
            · rintro (h | h | h)
              · exact .inr (.inl h)
              · exact .inl h
              · exact .inr (.inr h)
            · rintro (h | h | h)
              · exact .inr (.inl h)
              · exact .inl h
              · exact .inr (.inr h)
          have hsz1 := hu.out.size
          have hneq : Hid (∀ j, (Value.slice A6 (k + 1 + (n - k)) c6).ownBlock = some j → j ≠ R.q) := Lib.hid fun j hj => by have := hge6 j hj; omega
          generalize hns : names.take k ++ s :: names.drop k = ns at *
          generalize hnum : k + 1 + (n - k) = m at *
          replace hge6 := Lib.hid hge6
          replace hrow6 := Lib.hid hrow6
          replace hu7 := Lib.hid hu7
          replace hblk6 := Lib.hid hblk6
          replace hlen6 := Lib.hid hlen6
          replace hmem6 := Lib.hid hmem6
          clear hown6 hgrow6 hu6 hown5 hsuf hu3 hge3 hq3 hfq3 hA4 hat1 hat hone hns hnum hA0
          go_wp2
          go_ret
          have hv : Upd (fun j => j = R.q) w6 (w6.setCell ⟨R.q, 1, none⟩ (.slice A6 m c6)) := (Upd.refl (fun j => j = R.q) w6).setCell (p := ⟨R.q, 1, none⟩) (.inl rfl) _
          refine ⟨⟨R.q, R.a, .slice A6 m c6, R.c⟩, ns, by rw [hcode.out]; rfl, rfl, ⟨hblk6.out.set 1 _, ⟨_, own_upd hrow6.out hv fun j hj => hneq.out j hj⟩, by rw [hlen6.out, List.length_cons]; omega⟩, (hu7.out.of_none _).trans_same hv, by rw [hlen6.out, hnames.out], by rw [hnames.out]; exact hmem6.out, ?_⟩
          rintro j (rfl | hj)
          · exact .inl (.inl rfl)
          · have := hge6.out j hj
            exact .inr (by omega)
  · have hcode := good_false (names := names) (Bool.eq_false_iff.2 hg)
    rw [Bool.eq_false_iff.2 hg] at hp
    clear hR
    go_enter Tryz.func8, Tryz.ntmps8
    go_wp2_with (go_at_call 20; refine hp.out.mono ?_; rintro e w1 ⟨rfl, hu⟩; replace hu := Lib.hid hu)
    go_ret
    exact stay.out 36 hcode (by decide) _ hu.out
end Go.Proofs.YtedaapcmcimepaaGreatDoor
