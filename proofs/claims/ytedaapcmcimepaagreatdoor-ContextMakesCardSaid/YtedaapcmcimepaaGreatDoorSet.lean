/-
  The law's table: three contexts on one ring are made.
-/
import Derived.Test.YtedaapcmcimepaaGreatDoorRst
namespace Go.Proofs.YtedaapcmcimepaaGreatDoor
open Go.RowKit

def n3 : List (List UInt8) := [[97, 110, 110], [98, 111, 98], [99, 121]]
theorem n3_at {k : Nat} (hk : k < 3) : ∃ s, n3[k]? = some s ∧ good s = true ∧ s.length ≤ 3 ∧ s ∉ n3.take k ∧ n3.take (k + 1) = n3.take k ++ [s] := by
  rcases (show k = 0 ∨ k = 1 ∨ k = 2 by omega) with rfl | rfl | rfl
  · exact ⟨[97, 110, 110], rfl, by decide, by decide, by decide, rfl⟩
  · exact ⟨[98, 111, 98], rfl, by decide, by decide, by decide, rfl⟩
  · exact ⟨[99, 121], rfl, by decide, by decide, by decide, rfl⟩

def Names3 (w : World) (g : Nat) : Prop := Blk w g 9 #[str [97, 110, 110], str [98, 111, 98], str [99, 121]]
theorem Names3.at_ {w : World} {g k : Nat} {s : List UInt8} (h : Names3 w g) (hs : n3[k]? = some s) : w.cell? ⟨g, k, none⟩ = some (str s) := by
  unfold Names3 at h
  rw [h.cell]
  have hk : k < 3 := (List.getElem?_eq_some_iff.1 hs).1
  rcases (show k = 0 ∨ k = 1 ∨ k = 2 by omega) with rfl | rfl | rfl <;> (obtain rfl := Option.some.inj hs; rfl)

set_option maxHeartbeats 400000 in
theorem names_any (w : World) : Calls Tryz.prog 24 #[] w fun e w' => ∃ g, e = .returned (.slice (some ⟨g, 0, none⟩) 3 3) ∧ Names3 w' g ∧ w.heap.size ≤ g ∧ Upd noBlk w w' := by
  go_enter Tryz.func24, Tryz.ntmps24
  go_wp2
  go_ret
  exact ⟨_, rfl, Blk.new w 9 _, Nat.le_refl _, (Upd.refl noBlk w).alloc _⟩

/-- Two new rings. -/
theorem RS.start {w0 w1 w2 w3 w4 : World} {Kr : KRg} {R : LRg} (ht : Tabs w0) (h1 : Upd noBlk w0 w1) (hk : KOk w2 Kr []) (h2 : Upd noBlk w1 w2) (hge : ∀ k, Kr.foot k → w1.heap.size ≤ k) (h3 : Upd noBlk w2 w3) (hl : LOk w4 R []) (h4 : Upd noBlk w3 w4) (hq : w3.heap.size ≤ R.q) (hlv : R.lv = .slice none 0 0) : RS w0 w4 Kr R [] [] := by
  have s1 := h1.size; have s2 := h2.size; have s3 := h3.size
  refine ⟨ht.none (((h1.then_none h2).then_none h3).then_none h4), hk.same (h3.then_none h4), hl, ((h1.then_none h2).then_none h3).then_none h4, fun k hf => by have := hge k hf; omega, fun k hf => ?_, fun k hf hf' => ?_⟩
  · rcases hf with rfl | h
    · omega
    · rw [hlv] at h; cases h
  · have h5 := hk.foot_lt k hf
    rcases hf' with rfl | h
    · omega
    · rw [hlv] at h; cases h

theorem Tryz.info31 : (Tryz.prog.info? 31).map (fun i => (i.zero, i.size, i.bytes)) = some (some (.pointer none), 1, 8) := by kernel_rfl
theorem Tryz.info34 : (Tryz.prog.info? 34).map (fun i => (i.zero, i.size, i.bytes)) = some (some (.pointer none), 1, 8) := by kernel_rfl

/-- The table, the names, the two rows of contexts. -/
structure SV (p q T G m n : Nat) (A B : Option Addr) (c d : Nat) (xl yl : List Value) (w : World) : Prop where
  names : Names3 w G
  tab : Blk w T 91 #[.pointer (some ⟨p, 0, none⟩), .pointer (some ⟨q, 0, none⟩), .slice A m c, .slice B n d, .slice none 0 0]
  size : T + 1 ≤ w.heap.size
  xs : w.ownsRow (T + 1) 31 1 (.slice A m c) m xl
  ys : w.ownsRow (T + 1) 34 1 (.slice B n d) n yl
section
variable {p q T G m n m' : Nat} {A B A' : Option Addr} {c d c' : Nat} {xl yl xl' : List Value} {S : Nat → Prop} {w wa w' : World}
theorem SV.upd (h : SV p q T G m n A B c d xl yl w) (hG : T < G) (hu : Upd S w w') (hS : ∀ k, S k → k < T) : SV p q T G m n A B c d xl yl w' :=
  ⟨h.names.upd hu fun h1 => by (have := hS _ h1; omega), h.tab.upd hu fun h1 => by (have := hS _ h1; omega), Nat.le_trans h.size hu.size,
    own_upd h.xs hu fun j hj h1 => by (have := hS _ h1; have := (World.ownsRow.lt h.xs j hj).1; omega), own_upd h.ys hu fun j hj h1 => by (have := hS _ h1; have := (World.ownsRow.lt h.ys j hj).1; omega)⟩
theorem SV.push1 (h : SV p q T G m n A B c d xl yl w) (hG : T < G) (ha : Upd noBlk w wa) (hg : Upd (fun j => (Value.slice A m c).ownBlock = some j) wa w') (hn : w'.ownsRow (T + 1) 31 1 (.slice A' m' c') m' xl') :
    SV p q T G m' n A' B c' d xl' yl (w'.setCell ⟨T, 2, none⟩ (.slice A' m' c')) := by
  have hxs := own_upd h.xs ha fun _ _ => id
  have hys := own_upd h.ys ha fun _ _ => id
  have hu : Upd (fun j => j = T) w' (w'.setCell ⟨T, 2, none⟩ (.slice A' m' c')) := (Upd.refl (fun j => j = T) w').setCell (p := ⟨T, 2, none⟩) (.inl rfl) _
  have hys' := own_upd hys hg fun j hj h1 => own_own_ne hxs hys (by decide) h1 hj
  exact ⟨((h.names.upd ha id).upd hg (own_blk_ne hxs (h.names.upd ha id) (by decide))).upd hu (show ¬ G = T by omega), ((h.tab.upd ha id).upd hg fun h1 => by (have := (World.ownsRow.lt hxs T h1).1; omega)).set 2 _,
    Nat.le_trans h.size (Nat.le_trans ha.size (Nat.le_trans hg.size hu.size)), own_upd hn hu fun j hj h1 => by (have := (World.ownsRow.lt hn j hj).1; have h2 : j = T := h1; omega), own_upd hys' hu fun j hj h1 => by (have := (World.ownsRow.lt hys' j hj).1; have h2 : j = T := h1; omega)⟩
theorem SV.push2 (h : SV p q T G n m B A d c yl xl w) (hG : T < G) (ha : Upd noBlk w wa) (hg : Upd (fun j => (Value.slice A m c).ownBlock = some j) wa w') (hn : w'.ownsRow (T + 1) 34 1 (.slice A' m' c') m' xl') :
    SV p q T G n m' B A' d c' yl xl' (w'.setCell ⟨T, 3, none⟩ (.slice A' m' c')) := by
  have hys := own_upd h.ys ha fun _ _ => id
  have hxs := own_upd h.xs ha fun _ _ => id
  have hu : Upd (fun j => j = T) w' (w'.setCell ⟨T, 3, none⟩ (.slice A' m' c')) := (Upd.refl (fun j => j = T) w').setCell (p := ⟨T, 3, none⟩) (.inl rfl) _
  have hxs' := own_upd hxs hg fun j hj h1 => own_own_ne hys hxs (by decide) h1 hj
  exact ⟨((h.names.upd ha id).upd hg (own_blk_ne hys (h.names.upd ha id) (by decide))).upd hu (show ¬ G = T by omega), ((h.tab.upd ha id).upd hg fun h1 => by (have := (World.ownsRow.lt hys T h1).1; omega)).set 3 _,
    Nat.le_trans h.size (Nat.le_trans ha.size (Nat.le_trans hg.size hu.size)), own_upd hxs' hu fun j hj h1 => by (have := (World.ownsRow.lt hxs' j hj).1; have h2 : j = T := h1; omega), own_upd hn hu fun j hj h1 => by (have := (World.ownsRow.lt hn j hj).1; have h2 : j = T := h1; omega)⟩
theorem RS.push {w0 : World} {Kr : KRg} {R : LRg} {nk nl : List (List UInt8)} {e : TypeId} {k : Nat} {v : Value} {cs : Array Value} (h : RS w0 w Kr R nk nl) (ha : Upd noBlk w wa) (hown : wa.ownsRow (T + 1) e 1 v k xl) (he : e ≠ 9) (hg : Upd (fun j => v.ownBlock = some j) wa w')
    (hK : ∀ k, Kr.foot k → k < T) (hq : R.q < T) (h2 : 2 < T) (hw : w0.heap.size ≤ T) (hT : Blk w T 91 cs) (f : Nat) (u : Value) : RS w0 (w'.setCell ⟨T, f, none⟩ u) Kr R nk nl := by
  have hlt : ∀ j, v.ownBlock = some j → T + 1 ≤ j := fun j hj => (World.ownsRow.lt hown j hj).1
  obtain ⟨B, hr⟩ := h.ref.row
  have hra := own_upd hr ha fun _ _ => id
  have hr' := own_upd hra hg fun j hj h1 => own_own_ne hown hra he h1 hj
  have h1 : RS w0 w' Kr R nk nl := (h.same ha).turn hg (fun h1 => by have := hlt _ h1; omega) (fun h1 => by have := hlt _ h1; omega) (fun j hj h1 => by have := hlt _ h1; have := hK j hj; omega) (by
    rintro j (rfl | hj) h1
    · have := hlt _ h1; omega
    · exact own_own_ne hown hra he h1 hj) (fun j hj => by have := hlt j hj; omega)
  have hu : Upd (fun j => j = T) w' (w'.setCell ⟨T, f, none⟩ u) := (Upd.refl (fun j => j = T) w').setCell (p := ⟨T, f, none⟩) (.inl rfl) _
  have hT' := (hT.upd ha id).upd hg fun h1 => by have := hlt _ h1; omega
  exact h1.turn hu (show ¬ 2 = T by omega) (show ¬ 0 = T by omega) (fun j hj (h1 : j = T) => by have := hK j hj; omega) (by
    rintro j (rfl | hj) (h1 : _ = T)
    · omega
    · exact own_blk_ne hr' hT' (by decide) (h1 ▸ hj)) (fun j (h1 : j = T) => by omega)
end

theorem code2_good {ns : List (List UInt8)} {s : List UInt8} (hg : good s = true) (hi : s ∈ ns) : code2 ns s = 0 := by unfold code2; rw [if_pos hg, if_pos hi]

def SetP (w : World) (e : Ending) (w' : World) : Prop := (∃ t, e = .returned (.tuple #[t, .bool true])) ∧ Upd noBlk w w'

set_option maxRecDepth 100000 in
set_option maxHeartbeats 4000000 in
theorem set_any (v : Value) (l : List UInt8) (w : World) (ht : Tabs w) (hv : RdB w v l) (hl : l.length ≤ 140737488355328) : Calls Tryz.prog 11 #[v] w (SetP w) := by
  have hc := Lib.hid fun W (h : Upd noBlk w W) => copy_any v l W (hv.none h) hl
  replace ht := Lib.hid ht
  clear hv
  go_enter Tryz.func11, Tryz.ntmps11
  go_wp2_with (go_at_call 5; refine (hc.out _ (Upd.refl _ _)).mono ?_; rintro e w1 ⟨v1, rfl, hown1, hu1⟩; refine Hid.out ?_)
  refine Lib.hid ?_
  have hk := Lib.hid (knew_any v1 l w1 hown1.rd hl)
  clear hown1
  go_wp2_with (go_at_call 4; refine hk.out.mono ?_; clear hk; rintro e w2 ⟨Kr, rfl, hk2, hu2, hge2⟩; refine Hid.out ?_)
  refine Lib.hid ?_
  have hu12 := hu1.then_none hu2
  replace hk2 := Lib.hid hk2
  replace hge2 := Lib.hid hge2
  replace hu1 := Lib.hid hu1
  replace hu2 := Lib.hid hu2
  replace hu12 := Lib.hid hu12
  go_wp2_with (go_at_call 5; refine (hc.out _ hu12.out).mono ?_; clear hc; rintro e w3 ⟨v3, rfl, hown3, hu3⟩; refine Hid.out ?_)
  refine Lib.hid ?_
  have hn := Lib.hid (lnew_any v3 l w3 hown3.rd hl)
  replace hu3 := Lib.hid hu3
  clear hown3
  go_wp2_with (go_at_call 6; refine hn.out.mono ?_; clear hn; rintro e w4 ⟨R, rfl, hl4, hu4, hq4, hlv4⟩; refine Hid.out ?_)
  refine Lib.hid ?_
  have hrs := RS.start ht.out hu1.out hk2.out hu2.out hge2.out hu3.out hl4 hu4 hq4 hlv4
  clear hk2 hge2 hu1 hu2 hu12 hu3 hl4 hu4 hq4 hlv4 ht
  replace hrs := Lib.hid hrs
  go_wp2_with (go_at_call 24; refine (names_any _).mono ?_; rintro e w6 ⟨G, rfl, hG, hge, hu6⟩; refine Hid.out ?_)
  refine Lib.hid ?_
  have hT := (Blk.new w4 91 #[.pointer (some ⟨Kr.p, 0, none⟩), .pointer (some ⟨R.q, 0, none⟩), .slice none 0 0, .slice none 0 0, .slice none 0 0]).upd hu6 id
  have hu46 := ((Upd.refl noBlk w4).alloc (.cells #[.pointer (some ⟨Kr.p, 0, none⟩), .pointer (some ⟨R.q, 0, none⟩), .slice none 0 0, .slice none 0 0, .slice none 0 0] 91)).then_none hu6
  have hF : ∀ k, F3 Kr R.q k → k < w4.heap.size := by
    rintro k (rfl | rfl | rfl)
    · exact hrs.out.ring.plt
    · exact hrs.out.ring.blt
    · exact hrs.out.ref.blk.lt
  have hK : ∀ k, Kr.foot k → k < w4.heap.size := hrs.out.ring.foot_lt
  have hw4 : w.heap.size ≤ w4.heap.size := hrs.out.upd.size
  have h2T : 2 < w4.heap.size := hrs.out.tabs.lt
  have hge' : w4.heap.size < G := by simp at hge; omega
  have h64 := hu46.size
  replace hrs := Lib.hid (hrs.out.same hu46)
  generalize hq : R.q = q at hT hF ⊢
  generalize hTe : w4.heap.size = T at hT hF hge' h64 hK hw4 h2T ⊢
  replace hT := Lib.hid hT
  replace hG := Lib.hid hG
  replace hF := Lib.hid hF
  replace hK := Lib.hid hK
  replace hq := Lib.hid hq
  clear hu46 hu6 hge hTe
  obtain ⟨i31, hi31⟩ := info_parts Tryz.info31
  obtain ⟨i34, hi34⟩ := info_parts Tryz.info34
  replace hi31 := Lib.hid hi31
  replace hi34 := Lib.hid hi34
  go_wp2_with fail
  go_loopw [6] (fun i wr => ∃ (k : Nat) (R : LRg) (ns : List (List UInt8)) (A B : Option Addr) (c d : Nat) (xl yl : List Value), k ≤ 3 ∧ i = .int .i64 k ∧ Hid (R.q = q) ∧ RS w wr Kr R ns ns ∧ ns.length = k ∧ (∀ t, t ∈ ns ↔ t ∈ n3.take k) ∧ SV Kr.p q T G k k A B c d xl yl wr) (fun i _ => 3 - (intOf i).toNat)
  case atStart => exact ⟨0, R, [], none, none, 0, 0, [], [], by omega, rfl, hq, hrs.out, rfl, fun t => Iff.rfl, hG.out, hT.out, hT.out.lt, World.ownsRow_nil _ _ _ _, World.ownsRow_nil _ _ _ _⟩
  case round =>
    clear hrs hG hT hq
    obtain ⟨k, R, ns, A, B, c, d, xl, yl, hk, rfl, hq, hrs, hnl, hnm, hSV⟩ := hrel
    by_cases hlt : k < 3
    · obtain ⟨sk, hsk, hgood, hlen, hnew, htake⟩ := n3_at hlt
      have ct0 : wr.cell? ⟨T, 0, none⟩ = some (.pointer (some ⟨Kr.p, 0, none⟩)) := by rw [hSV.tab.cell]; rfl
      have cg : wr.cell? ⟨G, k, none⟩ = some (str sk) := hSV.names.at_ hsk
      have hsl : sk.length ≤ maxLen := by simp only [maxLen]; omega
      have hbad := good_true hgood
      have hcode : code ns sk = 0 := by unfold code; rw [if_neg hbad, if_neg fun h => hnew ((hnm sk).1 h), if_neg (by omega)]
      have hnames : names' ns sk = sk :: ns := by unfold names'; rw [hcode]; rfl
      have q1 : (0 : Int) ≤ k := by omega
      have q2 : (k : Int) < 3 := by omega
      replace hrs := Lib.hid hrs
      replace hnl := Lib.hid hnl
      replace hnm := Lib.hid hnm
      replace hSV := Lib.hid hSV
      replace hcode := Lib.hid hcode
      replace hnames := Lib.hid hnames
      replace hsk := Lib.hid hsk
      replace hnew := Lib.hid hnew
      replace htake := Lib.hid htake
      replace hgood := Lib.hid hgood
      clear hbad
      go_wp2_with fail
      generalize wr = wv at *
      have hS : wv.drew.cell? ⟨T, 0, none⟩ = some (.pointer (some ⟨Kr.p, 0, none⟩)) ∧ wv.drew.cell? ⟨G, k, none⟩ = some (str sk) := ⟨ct0, cg⟩
      refine wp_region_L (n := 10) (fun w' : World => w'.cell? ⟨T, 0, none⟩ = some (.pointer (some ⟨Kr.p, 0, none⟩)) ∧ w'.cell? ⟨G, k, none⟩ = some (str sk)) [] [0, 1, 2, 3, 4, 5, 6, 7, 9] (by kernel_rfl) rfl ?_
      refine AnyL.pure (i := 0) (v := ?_) (some 33) rfl rfl (by kernel_rfl) (by kernel_rfl) (by kernel_rfl) rfl (fun _ _ _ h => h) (by rfl) (fun ww => ?_) ?_; rotate_left; · (go_simp; (try with_reducible rfl))
      refine AnyL.pure (i := 1) (v := ?_) (some 34) rfl rfl (by kernel_rfl) (by kernel_rfl) (by kernel_rfl) rfl (fun _ _ _ h => h) (by rfl) (fun ww => ?_) ?_; rotate_left; · (go_simp; (try with_reducible rfl))
      refine AnyL.pure (i := 2) (v := ?_) (some 35) rfl rfl (by kernel_rfl) (by kernel_rfl) (by kernel_rfl) rfl (fun _ _ _ h => h) (by rfl) (fun ww => ?_) ?_; rotate_left; · (go_simp; (try with_reducible rfl))
      refine AnyL.take (i := 3) (v := ?_) (some 36) rfl rfl (by kernel_rfl) (by kernel_rfl) (by kernel_rfl) rfl (by kernel_rfl) (fun _ _ _ h => h) (by rfl) (fun ww hww => ?_) hS ?_; rotate_left; · (obtain ⟨hs0, hs1⟩ := hww; go_simp; (try with_reducible rfl))
      refine AnyL.pure (i := 4) (v := ?_) (some 37) rfl rfl (by kernel_rfl) (by kernel_rfl) (by kernel_rfl) rfl (fun _ _ _ h => h) (by rfl) (fun ww => ?_) ?_; rotate_left; · (go_simp; (try with_reducible rfl))
      refine AnyL.pure (i := 5) (v := ?_) (some 38) rfl rfl (by kernel_rfl) (by kernel_rfl) (by kernel_rfl) rfl (fun _ _ _ h => h) (by rfl) (fun ww => ?_) ?_; rotate_left; · (go_simp; (try with_reducible rfl))
      refine AnyL.pure (i := 6) (v := ?_) (some 39) rfl rfl (by kernel_rfl) (by kernel_rfl) (by kernel_rfl) rfl (fun _ _ _ h => h) (by rfl) (fun ww => ?_) ?_; rotate_left; · (go_simp; (try with_reducible rfl))
      refine AnyL.take (i := 7) (v := ?_) (some 40) rfl rfl (by kernel_rfl) (by kernel_rfl) (by kernel_rfl) rfl (by kernel_rfl) (fun _ _ _ h => h) (by rfl) (fun ww hww => ?_) hS ?_; rotate_left; · (obtain ⟨hs0, hs1⟩ := hww; go_simp; (try with_reducible rfl))
      simp only [Act.put, List.setIfInBounds_toArray]; try simp only [List.set_cons_zero, List.set_cons_succ]
      refine AnyL.last (i := 8) (by kernel_rfl) rfl rfl rfl (fun K hK => ?_)
      go_simp
      change Calls Tryz.prog 7 _ wv.drew _
      have hc := (hrs.out.same ((Upd.refl noBlk wv).drew)).enroll sk hsl
      refine hc.mono ?_
      clear hc
      rintro e w7 ⟨rfl, hrs7, hu7⟩
      rw [hcode.out]
      rw [hq.out] at hu7
      have hSV7 := Lib.hid (hSV.out.upd hge' ((Upd.refl _ wv).drew.trans_same hu7) hF.out)
      replace hrs7 := Lib.hid hrs7
      clear hSV hrs hu7
      refine hK _ _ ?_; clear hK K
      refine AnyL.pure (i := 9) (v := ?_) (some 7) rfl rfl (by kernel_rfl) (by kernel_rfl) (by kernel_rfl) rfl (fun _ _ _ h => h) (by rfl) (fun ww => ?_) ?_; rotate_left; · (go_simp; (try with_reducible rfl))
      refine AnyL.done (by kernel_rfl) ?_
      clear hS ct0 cg
      go_wp2_with fail
      have ct : w7.cell? ⟨T, 1, none⟩ = some (.pointer (some ⟨q, 0, none⟩)) := by rw [hSV7.out.tab.cell]; rfl
      have cg : w7.cell? ⟨G, k, none⟩ = some (str sk) := hSV7.out.names.at_ hsk.out
      have hS : w7.drew.cell? ⟨T, 1, none⟩ = some (.pointer (some ⟨q, 0, none⟩)) ∧ w7.drew.cell? ⟨G, k, none⟩ = some (str sk) := ⟨ct, cg⟩
      refine wp_region_L (n := 9) (fun w' : World => w'.cell? ⟨T, 1, none⟩ = some (.pointer (some ⟨q, 0, none⟩)) ∧ w'.cell? ⟨G, k, none⟩ = some (str sk)) [] [0, 1, 2, 3, 4, 5, 6, 7] (by kernel_rfl) rfl ?_
      refine AnyL.pure (i := 0) (v := ?_) (some 42) rfl rfl (by kernel_rfl) (by kernel_rfl) (by kernel_rfl) rfl (fun _ _ _ h => h) (by rfl) (fun ww => ?_) ?_; rotate_left; · (go_simp; (try with_reducible rfl))
      refine AnyL.pure (i := 1) (v := ?_) (some 43) rfl rfl (by kernel_rfl) (by kernel_rfl) (by kernel_rfl) rfl (fun _ _ _ h => h) (by rfl) (fun ww => ?_) ?_; rotate_left; · (go_simp; (try with_reducible rfl))
      refine AnyL.pure (i := 2) (v := ?_) (some 44) rfl rfl (by kernel_rfl) (by kernel_rfl) (by kernel_rfl) rfl (fun _ _ _ h => h) (by rfl) (fun ww => ?_) ?_; rotate_left; · (go_simp; (try with_reducible rfl))
      refine AnyL.take (i := 3) (v := ?_) (some 45) rfl rfl (by kernel_rfl) (by kernel_rfl) (by kernel_rfl) rfl (by kernel_rfl) (fun _ _ _ h => h) (by rfl) (fun ww hww => ?_) hS ?_; rotate_left; · (obtain ⟨hs0, hs1⟩ := hww; go_simp; (try with_reducible rfl))
      refine AnyL.pure (i := 4) (v := ?_) (some 46) rfl rfl (by kernel_rfl) (by kernel_rfl) (by kernel_rfl) rfl (fun _ _ _ h => h) (by rfl) (fun ww => ?_) ?_; rotate_left; · (go_simp; (try with_reducible rfl))
      refine AnyL.pure (i := 5) (v := ?_) (some 47) rfl rfl (by kernel_rfl) (by kernel_rfl) (by kernel_rfl) rfl (fun _ _ _ h => h) (by rfl) (fun ww => ?_) ?_; rotate_left; · (go_simp; (try with_reducible rfl))
      refine AnyL.pure (i := 6) (v := ?_) (some 48) rfl rfl (by kernel_rfl) (by kernel_rfl) (by kernel_rfl) rfl (fun _ _ _ h => h) (by rfl) (fun ww => ?_) ?_; rotate_left; · (go_simp; (try with_reducible rfl))
      refine AnyL.take (i := 7) (v := ?_) (some 49) rfl rfl (by kernel_rfl) (by kernel_rfl) (by kernel_rfl) rfl (by kernel_rfl) (fun _ _ _ h => h) (by rfl) (fun ww hww => ?_) hS ?_; rotate_left; · (obtain ⟨hs0, hs1⟩ := hww; go_simp; (try with_reducible rfl))
      simp only [Act.put, List.setIfInBounds_toArray]; try simp only [List.set_cons_zero, List.set_cons_succ]
      refine AnyL.last (i := 8) (by kernel_rfl) rfl rfl rfl (fun K hK => ?_)
      go_simp
      change Calls Tryz.prog 8 _ w7.drew _
      have hc := (hrs7.out.same ((Upd.refl noBlk w7).drew)).lenroll sk rfl
      rw [hq.out] at hc
      refine hc.mono ?_
      clear hc
      rintro e w8 ⟨R', ms, rfl, hq8, hrs8, hu8, hl8, hm8⟩
      have hSV8 := Lib.hid (hSV7.out.upd hge' ((Upd.refl _ w7).drew.trans_same hu8) hF.out)
      replace hrs8 := Lib.hid hrs8; replace hq8 := Lib.hid hq8
      rw [hnames.out] at hl8 hm8
      have hin : Hid (sk ∈ ms) := Lib.hid ((hm8 sk).2 List.mem_cons_self)
      replace hl8 := Lib.hid hl8; replace hm8 := Lib.hid hm8
      clear hSV7 hrs7 hu8
      refine hK _ _ ?_; clear hK K
      refine AnyL.done (by kernel_rfl) ?_
      clear hS ct cg
      go_wp2_with fail
      have ct : w8.cell? ⟨T, 0, none⟩ = some (.pointer (some ⟨Kr.p, 0, none⟩)) := by rw [hSV8.out.tab.cell]; rfl
      have cg : w8.cell? ⟨G, k, none⟩ = some (str sk) := hSV8.out.names.at_ hsk.out
      have hS : w8.drew.cell? ⟨T, 0, none⟩ = some (.pointer (some ⟨Kr.p, 0, none⟩)) ∧ w8.drew.cell? ⟨G, k, none⟩ = some (str sk) := ⟨ct, cg⟩
      refine wp_region_L (n := 14) (fun w' : World => w'.cell? ⟨T, 0, none⟩ = some (.pointer (some ⟨Kr.p, 0, none⟩)) ∧ w'.cell? ⟨G, k, none⟩ = some (str sk)) [] [0, 1, 2, 3, 4, 5, 6, 7, 9, 10, 11, 12, 13] (by kernel_rfl) rfl ?_
      refine AnyL.pure (i := 0) (v := ?_) (some 52) rfl rfl (by kernel_rfl) (by kernel_rfl) (by kernel_rfl) rfl (fun _ _ _ h => h) (by rfl) (fun ww => ?_) ?_; rotate_left; · (go_simp; (try with_reducible rfl))
      refine AnyL.pure (i := 1) (v := ?_) (some 53) rfl rfl (by kernel_rfl) (by kernel_rfl) (by kernel_rfl) rfl (fun _ _ _ h => h) (by rfl) (fun ww => ?_) ?_; rotate_left; · (go_simp; (try with_reducible rfl))
      refine AnyL.pure (i := 2) (v := ?_) (some 54) rfl rfl (by kernel_rfl) (by kernel_rfl) (by kernel_rfl) rfl (fun _ _ _ h => h) (by rfl) (fun ww => ?_) ?_; rotate_left; · (go_simp; (try with_reducible rfl))
      refine AnyL.take (i := 3) (v := ?_) (some 55) rfl rfl (by kernel_rfl) (by kernel_rfl) (by kernel_rfl) rfl (by kernel_rfl) (fun _ _ _ h => h) (by rfl) (fun ww hww => ?_) hS ?_; rotate_left; · (obtain ⟨hs0, hs1⟩ := hww; go_simp; (try with_reducible rfl))
      refine AnyL.pure (i := 4) (v := ?_) (some 56) rfl rfl (by kernel_rfl) (by kernel_rfl) (by kernel_rfl) rfl (fun _ _ _ h => h) (by rfl) (fun ww => ?_) ?_; rotate_left; · (go_simp; (try with_reducible rfl))
      refine AnyL.pure (i := 5) (v := ?_) (some 57) rfl rfl (by kernel_rfl) (by kernel_rfl) (by kernel_rfl) rfl (fun _ _ _ h => h) (by rfl) (fun ww => ?_) ?_; rotate_left; · (go_simp; (try with_reducible rfl))
      refine AnyL.pure (i := 6) (v := ?_) (some 58) rfl rfl (by kernel_rfl) (by kernel_rfl) (by kernel_rfl) rfl (fun _ _ _ h => h) (by rfl) (fun ww => ?_) ?_; rotate_left; · (go_simp; (try with_reducible rfl))
      refine AnyL.take (i := 7) (v := ?_) (some 59) rfl rfl (by kernel_rfl) (by kernel_rfl) (by kernel_rfl) rfl (by kernel_rfl) (fun _ _ _ h => h) (by rfl) (fun ww hww => ?_) hS ?_; rotate_left; · (obtain ⟨hs0, hs1⟩ := hww; go_simp; (try with_reducible rfl))
      simp only [Act.put, List.setIfInBounds_toArray]; try simp only [List.set_cons_zero, List.set_cons_succ]
      refine AnyL.last (i := 8) (by kernel_rfl) rfl rfl rfl (fun K hK => ?_)
      go_simp
      change Calls Tryz.prog 9 _ w8.drew _
      have hc := (hrs8.out.same ((Upd.refl noBlk w8).drew)).pnew sk hsl
      rw [hq8.out] at hc
      refine hc.mono ?_
      clear hc
      rintro e w9 ⟨hrs9, hu9, ⟨-, gx, rfl, -⟩ | ⟨hne, -⟩⟩
      rotate_left
      · exact absurd (code2_good hgood.out hin.out) hne
      have hSV9 := Lib.hid (hSV8.out.upd hge' ((Upd.refl _ w8).drew.trans_same hu9) hF.out)
      replace hrs9 := Lib.hid hrs9
      clear hSV8 hrs8 hu9
      refine hK _ _ ?_; clear hK K
      refine AnyL.pure (i := 9) (v := ?_) (some 51) rfl rfl (by kernel_rfl) (by kernel_rfl) (by kernel_rfl) rfl (fun _ _ _ h => h) (by rfl) (fun ww => ?_) ?_; rotate_left; · (go_simp; (try with_reducible rfl))
      refine AnyL.pure (i := 10) (v := ?_) (some 61) rfl rfl (by kernel_rfl) (by kernel_rfl) (by kernel_rfl) rfl (fun _ _ _ h => h) (by rfl) (fun ww => ?_) ?_; rotate_left; · (go_simp; (try with_reducible rfl))
      refine AnyL.pure (i := 11) (v := ?_) (some 62) rfl rfl (by kernel_rfl) (by kernel_rfl) (by kernel_rfl) rfl (fun _ _ _ h => h) (by rfl) (fun ww => ?_) ?_; rotate_left; · (go_simp; (try with_reducible rfl))
      refine AnyL.pure (i := 12) (v := ?_) (some 8) rfl rfl (by kernel_rfl) (by kernel_rfl) (by kernel_rfl) rfl (fun _ _ _ h => h) (by rfl) (fun ww => ?_) ?_; rotate_left; · (go_simp; (try with_reducible rfl))
      refine AnyL.pure (i := 13) (v := ?_) (some 9) rfl rfl (by kernel_rfl) (by kernel_rfl) (by kernel_rfl) rfl (fun _ _ _ h => h) (by rfl) (fun ww => ?_) ?_; rotate_left; · (go_simp; (try with_reducible rfl))
      refine AnyL.done (by kernel_rfl) ?_
      clear hS ct cg
      go_wp2_with fail
      have ct : w9.cell? ⟨T, 1, none⟩ = some (.pointer (some ⟨q, 0, none⟩)) := by rw [hSV9.out.tab.cell]; rfl
      have cg : w9.cell? ⟨G, k, none⟩ = some (str sk) := hSV9.out.names.at_ hsk.out
      have hS : w9.drew.cell? ⟨T, 1, none⟩ = some (.pointer (some ⟨q, 0, none⟩)) ∧ w9.drew.cell? ⟨G, k, none⟩ = some (str sk) := ⟨ct, cg⟩
      refine wp_region_L (n := 14) (fun w' : World => w'.cell? ⟨T, 1, none⟩ = some (.pointer (some ⟨q, 0, none⟩)) ∧ w'.cell? ⟨G, k, none⟩ = some (str sk)) [] [0, 1, 2, 3, 4, 5, 6, 7, 9, 10, 11, 12, 13] (by kernel_rfl) rfl ?_
      refine AnyL.pure (i := 0) (v := ?_) (some 64) rfl rfl (by kernel_rfl) (by kernel_rfl) (by kernel_rfl) rfl (fun _ _ _ h => h) (by rfl) (fun ww => ?_) ?_; rotate_left; · (go_simp; (try with_reducible rfl))
      refine AnyL.pure (i := 1) (v := ?_) (some 65) rfl rfl (by kernel_rfl) (by kernel_rfl) (by kernel_rfl) rfl (fun _ _ _ h => h) (by rfl) (fun ww => ?_) ?_; rotate_left; · (go_simp; (try with_reducible rfl))
      refine AnyL.pure (i := 2) (v := ?_) (some 66) rfl rfl (by kernel_rfl) (by kernel_rfl) (by kernel_rfl) rfl (fun _ _ _ h => h) (by rfl) (fun ww => ?_) ?_; rotate_left; · (go_simp; (try with_reducible rfl))
      refine AnyL.take (i := 3) (v := ?_) (some 67) rfl rfl (by kernel_rfl) (by kernel_rfl) (by kernel_rfl) rfl (by kernel_rfl) (fun _ _ _ h => h) (by rfl) (fun ww hww => ?_) hS ?_; rotate_left; · (obtain ⟨hs0, hs1⟩ := hww; go_simp; (try with_reducible rfl))
      refine AnyL.pure (i := 4) (v := ?_) (some 68) rfl rfl (by kernel_rfl) (by kernel_rfl) (by kernel_rfl) rfl (fun _ _ _ h => h) (by rfl) (fun ww => ?_) ?_; rotate_left; · (go_simp; (try with_reducible rfl))
      refine AnyL.pure (i := 5) (v := ?_) (some 69) rfl rfl (by kernel_rfl) (by kernel_rfl) (by kernel_rfl) rfl (fun _ _ _ h => h) (by rfl) (fun ww => ?_) ?_; rotate_left; · (go_simp; (try with_reducible rfl))
      refine AnyL.pure (i := 6) (v := ?_) (some 70) rfl rfl (by kernel_rfl) (by kernel_rfl) (by kernel_rfl) rfl (fun _ _ _ h => h) (by rfl) (fun ww => ?_) ?_; rotate_left; · (go_simp; (try with_reducible rfl))
      refine AnyL.take (i := 7) (v := ?_) (some 71) rfl rfl (by kernel_rfl) (by kernel_rfl) (by kernel_rfl) rfl (by kernel_rfl) (fun _ _ _ h => h) (by rfl) (fun ww hww => ?_) hS ?_; rotate_left; · (obtain ⟨hs0, hs1⟩ := hww; go_simp; (try with_reducible rfl))
      simp only [Act.put, List.setIfInBounds_toArray]; try simp only [List.set_cons_zero, List.set_cons_succ]
      refine AnyL.last (i := 8) (by kernel_rfl) rfl rfl rfl (fun K hK => ?_)
      go_simp
      change Calls Tryz.prog 10 _ w9.drew _
      have hc := (hrs9.out.same ((Upd.refl noBlk w9).drew)).rnew sk
      rw [hq8.out] at hc
      refine hc.mono ?_
      clear hc
      rintro e w10 ⟨hrs10, hu10, ⟨-, gy, rfl⟩ | ⟨hne, -⟩⟩
      rotate_left
      · exact absurd (code2_good hgood.out hin.out) hne
      have hSV10 := Lib.hid (hSV9.out.upd hge' ((Upd.refl _ w9).drew.then_none hu10) hF.out)
      replace hrs10 := Lib.hid hrs10
      clear hSV9 hrs9 hu10
      refine hK _ _ ?_; clear hK K
      refine AnyL.pure (i := 9) (v := ?_) (some 63) rfl rfl (by kernel_rfl) (by kernel_rfl) (by kernel_rfl) rfl (fun _ _ _ h => h) (by rfl) (fun ww => ?_) ?_; rotate_left; · (go_simp; (try with_reducible rfl))
      refine AnyL.pure (i := 10) (v := ?_) (some 73) rfl rfl (by kernel_rfl) (by kernel_rfl) (by kernel_rfl) rfl (fun _ _ _ h => h) (by rfl) (fun ww => ?_) ?_; rotate_left; · (go_simp; (try with_reducible rfl))
      refine AnyL.pure (i := 11) (v := ?_) (some 74) rfl rfl (by kernel_rfl) (by kernel_rfl) (by kernel_rfl) rfl (fun _ _ _ h => h) (by rfl) (fun ww => ?_) ?_; rotate_left; · (go_simp; (try with_reducible rfl))
      refine AnyL.pure (i := 12) (v := ?_) (some 10) rfl rfl (by kernel_rfl) (by kernel_rfl) (by kernel_rfl) rfl (fun _ _ _ h => h) (by rfl) (fun ww => ?_) ?_; rotate_left; · (go_simp; (try with_reducible rfl))
      refine AnyL.pure (i := 13) (v := ?_) (some 11) rfl rfl (by kernel_rfl) (by kernel_rfl) (by kernel_rfl) rfl (fun _ _ _ h => h) (by rfl) (fun ww => ?_) ?_; rotate_left; · (go_simp; (try with_reducible rfl))
      refine AnyL.done (by kernel_rfl) ?_
      clear hS ct cg
      have d2 : w10.cell? ⟨T, 2, none⟩ = some (.slice A k c) := by rw [hSV10.out.tab.cell]; rfl
      have htl10 := hSV10.out.size
      have hxw10 : Hid ((w10.alloc (.cells #[.pointer (some ⟨gx, 0, none⟩)] 31)).ownsRow (T + 1) 31 1 (.slice A k c) k xl) := Lib.hid (own_upd hSV10.out.xs ((Upd.refl noBlk w10).alloc _) fun _ _ => id)
      have hrw10 : Hid (RdC (w10.alloc (.cells #[.pointer (some ⟨gx, 0, none⟩)] 31)) (.slice (some ⟨w10.heap.size, 0, none⟩) 1 1) 1 1 [.pointer (some ⟨gx, 0, none⟩)]) := Lib.hid (own_rd (World.ownsRow_lit (base := w10.heap.size) w10 #[.pointer (some ⟨gx, 0, none⟩)] 1 (Nat.le_refl _) (by simp [maxLen]) rfl))
      go_wp2_with (at_builtin; refine wpList_app _ rfl _ _ 88 rfl (T + 1) 31 i31 (.pointer none) 1 8 Tryz.underlying88 hi31.out rfl (by decide) (.slice A k c) k xl rfl hxw10.out _ 1 [.pointer (some ⟨gx, 0, none⟩)] rfl hrw10.out (fun u hu => by rw [List.mem_singleton.1 hu]; rfl) (by simp only [maxLen]; omega) (by omega) (by simp; omega) ?_; intro v11 w11 hown11 hgrow11 _; refine Hid.out ?_)
      refine Lib.hid ?_
      obtain ⟨A11, c11, rfl, -⟩ := own_form hown11
      have hg11 := Upd.of_grown hgrow11
      have ha10 : Upd noBlk w10 (w10.alloc (.cells #[.pointer (some ⟨gx, 0, none⟩)] 31)) := (Upd.refl noBlk w10).alloc _
      have hqT : R'.q < T := by rw [hq8.out]; exact hF.out q (.inr (.inr rfl))
      have hSV12 := Lib.hid (hSV10.out.push1 hge' ha10 hg11 hown11)
      have hrs12 := Lib.hid (hrs10.out.push ha10 hxw10.out (by decide) hg11 hK.out hqT h2T hw4 hSV10.out.tab 2 (.slice A11 (k + 1) c11))
      have hT11 : Blk w11 T 91 #[.pointer (some ⟨Kr.p, 0, none⟩), .pointer (some ⟨q, 0, none⟩), .slice A k c, .slice B k d, .slice none 0 0] := (hSV10.out.tab.upd ha10 id).upd hg11 fun h1 => by have := (World.ownsRow.lt hxw10.out T h1).1; omega
      have e2 : w11.cell? ⟨T, 2, none⟩ = some (.slice A k c) := by rw [hT11.cell]; rfl
      have ef2 : w11.frozen? ⟨T, 2, none⟩ = false := hT11.free _ rfl
      have d3 : (w11.setCell ⟨T, 2, none⟩ (.slice A11 (k + 1) c11)).cell? ⟨T, 3, none⟩ = some (.slice B k d) := by rw [hSV12.out.tab.cell]; rfl
      have hs12 := hSV12.out.size
      clear hown11 hgrow11 hg11 ha10 hT11 hxw10 hrw10 hSV10 hrs10 d2
      go_upto_region 15 with fail
      generalize w11.setCell ⟨T, 2, none⟩ (.slice A11 (k + 1) c11) = w12 at *
      clear e2 ef2
      have hxw12 : Hid ((w12.alloc (.cells #[.pointer (some ⟨gy, 0, none⟩)] 34)).ownsRow (T + 1) 34 1 (.slice B k d) k yl) := Lib.hid (own_upd hSV12.out.ys ((Upd.refl noBlk w12).alloc _) fun _ _ => id)
      have hrw12 : Hid (RdC (w12.alloc (.cells #[.pointer (some ⟨gy, 0, none⟩)] 34)) (.slice (some ⟨w12.heap.size, 0, none⟩) 1 1) 1 1 [.pointer (some ⟨gy, 0, none⟩)]) := Lib.hid (own_rd (World.ownsRow_lit (base := w12.heap.size) w12 #[.pointer (some ⟨gy, 0, none⟩)] 1 (Nat.le_refl _) (by simp [maxLen]) rfl))
      go_wp2_with (at_builtin; refine wpList_app _ rfl _ _ 89 rfl (T + 1) 34 i34 (.pointer none) 1 8 Tryz.underlying89 hi34.out rfl (by decide) (.slice B k d) k yl rfl hxw12.out _ 1 [.pointer (some ⟨gy, 0, none⟩)] rfl hrw12.out (fun u hu => by rw [List.mem_singleton.1 hu]; rfl) (by simp only [maxLen]; omega) (by omega) (by simp; omega) ?_; intro v13 w13 hown13 hgrow13 _; refine Hid.out ?_)
      refine Lib.hid ?_
      obtain ⟨A13, c13, rfl, -⟩ := own_form hown13
      have hg13 := Upd.of_grown hgrow13
      have ha12 : Upd noBlk w12 (w12.alloc (.cells #[.pointer (some ⟨gy, 0, none⟩)] 34)) := (Upd.refl noBlk w12).alloc _
      have hSV14 := Lib.hid (hSV12.out.push2 hge' ha12 hg13 hown13)
      have hrs14 := Lib.hid (hrs12.out.push ha12 hxw12.out (by decide) hg13 hK.out hqT h2T hw4 hSV12.out.tab 3 (.slice A13 (k + 1) c13))
      have hT13 : Blk w13 T 91 #[.pointer (some ⟨Kr.p, 0, none⟩), .pointer (some ⟨q, 0, none⟩), .slice A11 (k + 1) c11, .slice B k d, .slice none 0 0] := (hSV12.out.tab.upd ha12 id).upd hg13 fun h1 => by have := (World.ownsRow.lt hxw12.out T h1).1; omega
      have e3 : w13.cell? ⟨T, 3, none⟩ = some (.slice B k d) := by rw [hT13.cell]; rfl
      have ef3 : w13.frozen? ⟨T, 3, none⟩ = false := hT13.free _ rfl
      clear hown13 hgrow13 hg13 ha12 hT13 hxw12 hrw12 hSV12 hrs12 d3
      go_wp2_with fail
      go_roundw
      case rel => exact ⟨k + 1, R', ms, _, _, _, _, _, _, by omega, by go_num, hq8, hrs14.out, by rw [hl8.out, List.length_cons, hnl.out], fun t => by
        rw [hm8.out, htake.out, List.mem_cons, List.mem_append, List.mem_singleton, hnm.out]
        exact Or.comm, hSV14.out⟩
      case measure => simp [intOf]; omega
    · obtain rfl : k = 3 := by omega
      rw [show ((3 : Nat) : Int) = 3 from rfl]
      have hu := Lib.hid hrs.upd
      clear hrs hnl hnm hSV hlt hk
      go_wp2
      go_ret2
      exact ⟨⟨_, rfl⟩, hu.out⟩
end Go.Proofs.YtedaapcmcimepaaGreatDoor
