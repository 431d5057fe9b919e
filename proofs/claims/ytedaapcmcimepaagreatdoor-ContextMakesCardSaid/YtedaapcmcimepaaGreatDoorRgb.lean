/-
  A ring of keys takes a name, and tells whether it has one.
-/
import Derived.Test.YtedaapcmcimepaaGreatDoorRga
namespace Go.Proofs.YtedaapcmcimepaaGreatDoor
open Go.RowKit Go.MuLone

theorem law9 : Maps.Keyed Tryz.prog 9 := Maps.string_keyed Tryz.underlying9
/-- What Enroll answers. -/
def code (names : List (List UInt8)) (s : List UInt8) : Int := if s = [] ∨ 64 < s.length then 36 else if s ∈ names then 181 else if 256 ≤ names.length then 183 else 0
/-- What is enrolled behind it. -/
def names' (names : List (List UInt8)) (s : List UInt8) : List (List UInt8) := if code names s = 0 then s :: names else names

theorem bytes_of_str (w : World) (s : List UInt8) (hs : s.length ≤ maxLen) : ∃ (w1 : World) (c : Nat), (convert 9 22 (str s)).run Tryz.prog w = .ok (.slice (some ⟨w.heap.size, 0, none⟩) s.length c) w1 ∧ RdB w1 (.slice (some ⟨w.heap.size, 0, none⟩) s.length c) s ∧ Upd noBlk w w1 := by
  have h := run_bytes_of_string (P := Tryz.prog) w 9 22 5 ⟨⟨s⟩⟩ Tryz.underlying9 Tryz.underlying22 Tryz.underlying5
  have hge := grownCap_ge w s.length 0 5
  have hle := grownCap_le_maxLen w s.length 0 5 hs
  refine ⟨_, _, h, ⟨by rw [bvs_length, Nat.mul_one], _, _, rfl, hge, hle, fun h => by (simp at h), fun j u hj => ⟨_, rfl, ?_⟩⟩, ((Upd.refl noBlk w).drew).alloc _⟩
  rw [addr_add_zero]
  have hj' : j < s.length := by
    have := (List.getElem?_eq_some_iff.1 hj).1
    rw [bvs_length] at this
    exact this
  have hat := bytesRow_at ⟨⟨s⟩⟩ (grownCap w s.length 0 5) j hj'
  have hb : (w.drew.alloc (.cells (bytesRow ⟨⟨s⟩⟩ (grownCap w s.length 0 5)) 5 ((bytesRow ⟨⟨s⟩⟩ (grownCap w s.length 0 5)).size, (bytesRow ⟨⟨s⟩⟩ (grownCap w s.length 0 5)).size + 1))).heap[w.heap.size]? = some (.cells (bytesRow ⟨⟨s⟩⟩ (grownCap w s.length 0 5)) 5 ((bytesRow ⟨⟨s⟩⟩ (grownCap w s.length 0 5)).size, (bytesRow ⟨⟨s⟩⟩ (grownCap w s.length 0 5)).size + 1)) := heap_alloc_last w.drew _
  have hc : (bvs s)[j]? = some (bv s[j]) := bvs_at (List.getElem?_eq_getElem hj')
  rw [hc] at hj
  obtain rfl := Option.some.inj hj
  show (w.drew.alloc _).cell? _ = _
  unfold World.cell?
  simp only [show ((⟨⟨s⟩⟩ : ByteArray).size) = s.length from rfl, hb]
  exact hat

section
variable {S : Nat → Prop} {w w' : World} {Kr : KRg} {names : List (List UInt8)}
theorem own_map_upd {b n : Nat} {D : DataW Unit} (h : w.ownsMap Tryz.prog 9 dgElem b n D) (hu : Upd S w w') (hn : ¬ S b) : w'.ownsMap Tryz.prog 9 dgElem b n D := by
  obtain ⟨es, clock, hb, r⟩ := h
  exact ⟨es, clock, (hu.block b (lt_of_block hb) hn).trans hb, r⟩
theorem upd_mapTurned {b : Nat} (h : w.mapTurned w' b) : Upd (fun k => k = b) w w' := (Upd.of_grown h.grown).mono fun _ _ hk => (Option.some.inj hk).symm
theorem KOk.upd (h : KOk w Kr names) (hu : Upd S w w') (hf : ∀ k, Kr.foot k → ¬ S k) : KOk w' Kr names := by
  obtain ⟨D, h1, h2, h3⟩ := h.map
  exact ⟨h.blk.upd hu (hf _ (.inl rfl)), h.srd.upd' hu fun h0 k hk => hf k (.inr (.inr ⟨h0, hk⟩)), h.slen, h.sfar, h.ne, D, own_map_upd h1 hu (hf _ (.inr (.inl rfl))), h2, h3⟩
theorem KOk.plt (h : KOk w Kr names) : Kr.p < w.heap.size := h.blk.lt
theorem KOk.blt (h : KOk w Kr names) : Kr.bk < w.heap.size := by obtain ⟨D, h1, -⟩ := h.map; exact h1.lt
theorem KOk.perm {ns : List (List UInt8)} (h : KOk w Kr names) (hl : ns.length = names.length) (hm : ∀ s, s ∈ ns ↔ s ∈ names) : KOk w Kr ns := by
  obtain ⟨D, h1, h2, h3⟩ := h.map
  exact ⟨h.blk, h.srd, h.slen, h.sfar, h.ne, D, hl ▸ h1, h2.trans hl.symm, fun s => by rw [h3 s]; exact decide_eq_decide.2 (hm s).symm⟩
theorem KOk.tabs_far (h : KOk w Kr names) (ht : Tabs w) : Kr.p ≠ 2 ∧ Kr.p ≠ 0 ∧ Kr.bk ≠ 2 ∧ Kr.bk ≠ 0 := by
  obtain ⟨⟨rs, t, h1, h2⟩, fs, t', h3, h4⟩ := ht
  obtain ⟨D, ⟨es, clock, hb, -⟩, -⟩ := h.map
  have hk := h.blk
  unfold Blk at hk h1 h3
  refine ⟨fun e => ?_, fun e => ?_, fun e => ?_, fun e => ?_⟩
  · rw [e, h1] at hk
    have := congrArg Array.size (Obj.cells.inj (Option.some.inj hk)).1
    rw [h2.1] at this
    cases this
  · rw [e, h3] at hk
    have := congrArg Array.size (Obj.cells.inj (Option.some.inj hk)).1
    rw [h4.1] at this
    cases this
  · rw [e, h1] at hb
    cases hb
  · rw [e, h3] at hb
    cases hb
end

section
variable {P : Program} {fn : Func} {R : Ending → World → Prop} {ts ts' : Array Value}
theorem leaves_tmps (h : ∀ w, (results fn ts).run P w = (results fn ts').run P w) : ∀ (ds : List Deferred) (u : FrameMode) (w : World), Leaves P fn ts R ds u w → Leaves P fn ts' R ds u w
  | [], .returning, w, ⟨v, h1, h2⟩ => ⟨v, (h w).symm.trans h1, h2⟩
  | [], .panicking _, _, h2 => h2
  | [], .run, _, h2 => h2
  | d :: ds, u, w, ⟨h1, fv, cap, f, args, h2, h3, h4⟩ => ⟨h1, fv, cap, f, args, h2, h3, h4.mono fun e u' w' hh => by
      cases e with
      | returned v => exact leaves_tmps h ds _ _ hh
      | panicked c => exact leaves_tmps h ds _ _ hh
      | outgrown => exact hh⟩
/-- A panic's way out does not hang on a slot that is no result. -/
theorem bodyPostD_put {t d : Tmp} (hr : fn.results = #[.tmp t]) (hd : d ≠ t) {c} {a : Act} {v : Value} {w : World} (h : bodyPostD P fn R (.panic c) (a.put (some d) v) w) : bodyPostD P fn R (.panic c) a w := by
  refine leaves_tmps (ts := (a.put (some d) v).tmps) (fun w => ?_) _ _ _ h
  simp only [results, hr, Act.put]
  have : (a.tmps.setIfInBounds d v)[t]?.getD undef = a.tmps[t]?.getD undef := by
    rw [Array.getElem?_setIfInBounds, if_neg hd]
  simp [this]
end

def EnrollP (w : World) (Kr : KRg) (names : List (List UInt8)) (s : List UInt8) (e : Ending) (w' : World) : Prop := e = .returned (.int .i64 (code names s)) ∧ KOk w' Kr (names' names s) ∧ Upd (fun k => k = Kr.p ∨ k = Kr.bk) w w'

theorem key9 (s : List UInt8) (hs : s.length ≤ maxLen) : keyOf Tryz.prog 9 (str s) = some (.string s) := by
  rw [Go.keyOf_string Tryz.underlying9]
  simp [mapKey, str, Tryz.underlying9]
  exact hs
theorem dg_mk {ds : Array Value} (h : B8s ds 32) : dgElem (.agg ds) = some (.agg [], []) := by
  obtain ⟨l, hl, hc⟩ := h.list
  refine if_pos ⟨h.1, ?_⟩
  rw [hc, List.all_eq_true]
  intro u hu
  simp only [bvs, List.mem_map] at hu
  obtain ⟨b, -, rfl⟩ := hu
  rfl
theorem dg_inv {v : Value} {z : DataW Unit × List MemPlace} (h : dgElem v = some z) : ∃ ds : Array Value, v = .agg ds ∧ ds.size = 32 ∧ ds.all (·.oneCell') = true := by
  unfold dgElem at h
  split at h
  · rename_i cs
    split at h
    · rename_i hc
      refine ⟨cs, rfl, hc.1, ?_⟩
      rw [Array.all_eq_true_iff_forall_mem]
      intro u hu
      have h1 := List.all_eq_true.1 hc.2 u (by simpa using hu)
      split at h1
      · rfl
      · cases h1
    · cases h
  · cases h
theorem zero61 (w : World) : (zeroValue 61).run Tryz.prog w = .ok (.agg (Array.replicate 32 (.int .u8 0))) w := by kernel_rfl

/-- The lock let go behind it. -/
theorem KOk.unlock {W : World} {Kr : KRg} {ns : List (List UInt8)} (hb : Blk W Kr.p 56 (Kr.cells.setIfInBounds 0 (.int .i32 1))) (srd : RdB W Kr.sv Kr.sl) (slen : Kr.sl.length ≤ 140737488355328)
    (sfar : 0 < Kr.sl.length → ∀ k, Kr.sv.ownBlock = some k → k ≠ Kr.p ∧ k ≠ Kr.bk) (ne : Kr.bk ≠ Kr.p) {D : DataW Unit} (hm : W.ownsMap Tryz.prog 9 dgElem Kr.bk ns.length D) (hs : Maps.size D = ns.length)
    (hh : ∀ s : List UInt8, Maps.has D (.string s) = decide (s ∈ ns)) : KOk (W.setCell ⟨Kr.p, 0, none⟩ (.int .i32 0)) Kr ns := by
  have hu : Upd (fun k => k = Kr.p) W (W.setCell ⟨Kr.p, 0, none⟩ (.int .i32 0)) := (Upd.refl (fun k => k = Kr.p) W).setCell (p := ⟨Kr.p, 0, none⟩) (.inl rfl) _
  exact ⟨hb.set 0 _, srd.upd' hu fun h0 k hk => (sfar h0 k hk).1, slen, sfar, ne, D, own_map_upd hm hu ne, hs, hh⟩

set_option maxRecDepth 100000 in
set_option maxHeartbeats 2000000 in
theorem enroll_any (Kr : KRg) (names : List (List UInt8)) (s : List UInt8) (w : World) (hk : KOk w Kr names) (ht : Tabs w) (hs : s.length ≤ maxLen) :
    Calls Tryz.prog 7 #[.pointer (some ⟨Kr.p, 0, none⟩), str s] w (EnrollP w Kr names s) := by
  have c0 : w.cell? ⟨Kr.p, 0, none⟩ = some (.int .i32 0) := by rw [hk.blk.cell]; rfl
  have f0 : w.frozen? ⟨Kr.p, 0, none⟩ = false := hk.blk.free _ rfl
  obtain ⟨D, hm, hsz, hhas⟩ := hk.map
  have u1 : Upd (fun k => k = Kr.p) w (w.setCell ⟨Kr.p, 0, none⟩ (.int .i32 1)) := (Upd.refl (fun k => k = Kr.p) w).setCell (p := ⟨Kr.p, 0, none⟩) (.inl rfl) _
  have b1 : Blk (w.setCell ⟨Kr.p, 0, none⟩ (.int .i32 1)) Kr.p 56 (Kr.cells.setIfInBounds 0 (.int .i32 1)) := hk.blk.set 0 _
  have r1 : RdB (w.setCell ⟨Kr.p, 0, none⟩ (.int .i32 1)) Kr.sv Kr.sl := hk.srd.upd' u1 fun h0 k h1 => (hk.sfar h0 k h1).1
  have m1 := own_map_upd hm u1 hk.ne
  have c1 : (w.setCell ⟨Kr.p, 0, none⟩ (.int .i32 1)).cell? ⟨Kr.p, 0, none⟩ = some (.int .i32 1) := by rw [b1.cell]; rfl
  have c2 : (w.setCell ⟨Kr.p, 0, none⟩ (.int .i32 1)).cell? ⟨Kr.p, 2, none⟩ = some Kr.sv := by rw [b1.cell]; rfl
  have c3 : (w.setCell ⟨Kr.p, 0, none⟩ (.int .i32 1)).cell? ⟨Kr.p, 3, none⟩ = some (.map (some Kr.bk)) := by rw [b1.cell]; rfl
  have f1 : (w.setCell ⟨Kr.p, 0, none⟩ (.int .i32 1)).frozen? ⟨Kr.p, 0, none⟩ = false := b1.free _ rfl
  have hfar := hk.tabs_far ht
  have t1 : Tabs (w.setCell ⟨Kr.p, 0, none⟩ (.int .i32 1)) := ht.upd u1 (fun h => hfar.1 h.symm) (fun h => hfar.2.1 h.symm)
  generalize hw1 : w.setCell ⟨Kr.p, 0, none⟩ (.int .i32 1) = w1 at *
  have lock : Calls Tryz.prog 17 #[.pointer (some ⟨Kr.p, 0, none⟩)] w fun e w' => e = .returned (.tuple #[]) ∧ w1 = w' := by
    have := lock_free Tryz.muLib ⟨Kr.p, 0, none⟩ _ c0 f0
    rw [hw1] at this
    exact this.mono fun _ _ h => ⟨h.1, h.2.symm⟩
  have htd := Lib.hid (hm.tidy law9)
  have hmp := Lib.hid hm.isMap
  have slen := hk.slen
  have sfar := hk.sfar
  have kne := hk.ne
  replace hsz := Lib.hid hsz
  replace hhas := Lib.hid hhas
  replace u1 := Lib.hid u1
  replace b1 := Lib.hid b1
  replace r1 := Lib.hid r1
  replace m1 := Lib.hid m1
  replace t1 := Lib.hid t1
  replace lock := Lib.hid lock
  replace sfar := Lib.hid sfar
  clear hk hm ht c0 f0 hw1
  by_cases hbad : s = [] ∨ 64 < s.length
  · have hcode : code names s = 36 := if_pos hbad
    have hnames : names' names s = names := by unfold names'; rw [hcode]; rfl
    unfold str
    rcases hbad with rfl | hl
    · go_enter_defers Tryz.func7, Tryz.ntmps7
      go_wp2_with (go_at_call 17; refine lock.out.mono ?_; rintro e w' ⟨rfl, rfl⟩)
      refine leaves_cons (f := 18) (args := #[.pointer (some ⟨Kr.p, 0, none⟩)]) (by simp) (by simp [go_sem]) ?_
      refine (unlock_deferred Tryz.muLib ⟨Kr.p, 0, none⟩ .returning _ c1 f1).mono ?_
      rintro e u' w'' ⟨rfl, rfl, rfl⟩
      refine ⟨_, results_tmp rfl _ _ _, by rw [hcode]; rfl, ?_, (u1.out.mono fun _ _ h => .inl h).setCell (.inl (.inl rfl)) _⟩
      rw [hnames]
      exact KOk.unlock b1.out r1.out slen sfar.out kne m1.out hsz.out hhas.out
    · have hl' : (64 : Int) < s.length := by omega
      have hl2 : s.isEmpty = false := by cases s with | nil => simp at hl | cons => rfl
      go_enter_defers Tryz.func7, Tryz.ntmps7
      go_wp2_with (go_at_call 17; refine lock.out.mono ?_; rintro e w' ⟨rfl, rfl⟩)
      refine leaves_cons (f := 18) (args := #[.pointer (some ⟨Kr.p, 0, none⟩)]) (by simp) (by simp [go_sem]) ?_
      refine (unlock_deferred Tryz.muLib ⟨Kr.p, 0, none⟩ .returning _ c1 f1).mono ?_
      rintro e u' w'' ⟨rfl, rfl, rfl⟩
      refine ⟨_, results_tmp rfl _ _ _, by rw [hcode]; rfl, ?_, (u1.out.mono fun _ _ h => .inl h).setCell (.inl (.inl rfl)) _⟩
      rw [hnames]
      exact KOk.unlock b1.out r1.out slen sfar.out kne m1.out hsz.out hhas.out
  · have hne : ¬ s = [] := fun h => hbad (.inl h)
    have hl : (s.length : Int) ≤ 64 := by have : ¬ 64 < s.length := fun h => hbad (.inr h); omega
    have hl2 : s.isEmpty = false := by cases s with | nil => exact absurd rfl hne | cons => rfl
    have hkey := key9 s hs
    have i61 : (Tryz.prog.info? 61).map (·.size) = some 32 := by kernel_rfl
    replace i61 := Lib.hid i61
    replace hkey := Lib.hid hkey
    by_cases hin : s ∈ names
    · have hcode : code names s = 181 := by unfold code; rw [if_neg hbad, if_pos hin]
      have hnames : names' names s = names := by unfold names'; rw [hcode]; rfl
      have hh : Maps.has D (.string s) = true := by rw [hhas.out]; exact decide_eq_true hin
      clear hbad hin
      unfold str
      go_enter_defers Tryz.func7, Tryz.ntmps7
      go_wp2_with (first
        | (go_at_call 17; refine lock.out.mono ?_; rintro e w' ⟨rfl, rfl⟩)
        | (at_lookup; refine wpList_lookup_own_ok _ rfl _ _ 46 rfl 9 61 law9 Tryz.underlying46 dgElem (zero61 _) (.agg []) [] (dg_mk (B8s.replicate 32)) Kr.bk _ D rfl m1.out _ _ rfl hkey.out ?_; intro v ps hv; rw [hh]; obtain ⟨ds, rfl, hds1, hds2⟩ := dg_inv hv; clear hv; replace hds1 := Lib.hid hds1; replace hds2 := Lib.hid hds2)
        | (refine wpList_storeNew rfl rfl _ _ 61 rfl w1.heap.size rfl rfl ds rfl _ 32 rfl hds1.out i61.out hds2.out ?_; intro w2 hb2 hu2 hs2; refine Hid.out ?_))
      refine Lib.hid ?_
      have c1' := hu2.cell_some c1 id
      have f1' := hu2.free b1.out.lt f1 id
      replace m1 := Lib.hid (own_map_upd m1.out hu2 id)
      replace b1 := Lib.hid (b1.out.upd hu2 id)
      replace r1 := Lib.hid (r1.out.none hu2)
      replace u1 := Lib.hid (u1.out.then_none hu2)
      clear hb2 hs2 hu2 c1 c2 c3 f1
      go_wp2
      refine leaves_cons (f := 18) (args := #[.pointer (some ⟨Kr.p, 0, none⟩)]) (by simp) (by simp [go_sem]) ?_
      refine (unlock_deferred Tryz.muLib ⟨Kr.p, 0, none⟩ .returning _ c1' f1').mono ?_
      rintro e u' w'' ⟨rfl, rfl, rfl⟩
      refine ⟨_, results_tmp rfl _ _ _, by rw [hcode]; rfl, ?_, (u1.out.mono fun _ _ h => .inl h).setCell (.inl (.inl rfl)) _⟩
      rw [hnames]
      exact KOk.unlock b1.out r1.out slen sfar.out kne m1.out hsz.out hhas.out
    · have hh : Maps.has D (.string s) = false := by rw [hhas.out]; exact decide_eq_false hin
      obtain ⟨n, hn⟩ : ∃ n, names.length = n := ⟨_, rfl⟩
      by_cases hfull : 256 ≤ n
      · have hcode : code names s = 183 := by unfold code; rw [if_neg hbad, if_neg hin, if_pos (by omega)]
        have hnames : names' names s = names := by unfold names'; rw [hcode]; rfl
        have hfull' : (256 : Int) ≤ n := by omega
        clear hbad hin
        unfold str
        go_enter_defers Tryz.func7, Tryz.ntmps7
        go_wp2_with (first
          | (go_at_call 17; refine lock.out.mono ?_; rintro e w' ⟨rfl, rfl⟩)
          | (at_lookup; refine wpList_lookup_own_ok _ rfl _ _ 46 rfl 9 61 law9 Tryz.underlying46 dgElem (zero61 _) (.agg []) [] (dg_mk (B8s.replicate 32)) Kr.bk _ D rfl m1.out _ _ rfl hkey.out ?_; intro v ps hv; rw [hh]; obtain ⟨ds, rfl, hds1, hds2⟩ := dg_inv hv; clear hv; replace hds1 := Lib.hid hds1; replace hds2 := Lib.hid hds2)
          | (refine wpList_storeNew rfl rfl _ _ 61 rfl w1.heap.size rfl rfl ds rfl _ 32 rfl hds1.out i61.out hds2.out ?_; intro w2 hb2 hu2 hs2; refine Hid.out ?_))
        refine Lib.hid ?_
        have c1' := hu2.cell_some c1 id
        have c2' := hu2.cell_some c2 id
        have c3' := hu2.cell_some c3 id
        have f1' := hu2.free b1.out.lt f1 id
        replace m1 := Lib.hid (own_map_upd m1.out hu2 id)
        replace b1 := Lib.hid (b1.out.upd hu2 id)
        replace r1 := Lib.hid (r1.out.none hu2)
        replace t1 := Lib.hid (t1.out.none hu2)
        replace u1 := Lib.hid (u1.out.then_none hu2)
        clear hb2 hs2 hu2 c1 c2 c3 f1
        have hlen := m1.out.len Tryz.underlying46 3
        rw [hsz.out, hn] at hlen
        go_wp2
        refine leaves_cons (f := 18) (args := #[.pointer (some ⟨Kr.p, 0, none⟩)]) (by simp) (by simp [go_sem]) ?_
        refine (unlock_deferred Tryz.muLib ⟨Kr.p, 0, none⟩ .returning _ c1' f1').mono ?_
        rintro e u' w'' ⟨rfl, rfl, rfl⟩
        refine ⟨_, results_tmp rfl _ _ _, by rw [hcode]; rfl, ?_, (u1.out.mono fun _ _ h => .inl h).setCell (.inl (.inl rfl)) _⟩
        rw [hnames]
        exact KOk.unlock b1.out r1.out slen sfar.out kne m1.out hsz.out hhas.out
      · have hcode : code names s = 0 := by unfold code; rw [if_neg hbad, if_neg hin, if_neg (by omega)]
        have hnames : names' names s = s :: names := by unfold names'; rw [hcode]; rfl
        have hfull' : ¬ (256 : Int) ≤ n := by omega
        clear hbad
        unfold str
        go_enter_defers Tryz.func7, Tryz.ntmps7
        go_wp2_with (first
          | (go_at_call 17; refine lock.out.mono ?_; rintro e w' ⟨rfl, rfl⟩)
          | (at_lookup; refine wpList_lookup_own_ok _ rfl _ _ 46 rfl 9 61 law9 Tryz.underlying46 dgElem (zero61 _) (.agg []) [] (dg_mk (B8s.replicate 32)) Kr.bk _ D rfl m1.out _ _ rfl hkey.out ?_; intro v ps hv; rw [hh]; obtain ⟨ds, rfl, hds1, hds2⟩ := dg_inv hv; clear hv; replace hds1 := Lib.hid hds1; replace hds2 := Lib.hid hds2)
          | (refine wpList_storeNew rfl rfl _ _ 61 rfl w1.heap.size rfl rfl ds rfl _ 32 rfl hds1.out i61.out hds2.out ?_; intro w2 hb2 hu2 hs2; refine Hid.out ?_))
        refine Lib.hid ?_
        have c1' := hu2.cell_some c1 id
        have c2' := hu2.cell_some c2 id
        have c3' := hu2.cell_some c3 id
        have f1' := hu2.free b1.out.lt f1 id
        replace m1 := Lib.hid (own_map_upd m1.out hu2 id)
        replace b1 := Lib.hid (b1.out.upd hu2 id)
        replace r1 := Lib.hid (r1.out.none hu2)
        replace t1 := Lib.hid (t1.out.none hu2)
        replace u1 := Lib.hid (u1.out.then_none hu2)
        clear hb2 hs2 hu2 c1 c2 c3 f1
        have hlen := m1.out.len Tryz.underlying46 3
        rw [hsz.out, hn] at hlen
        go_wp2_with fail
        obtain ⟨w3, cc, hrun, hrd, hu3⟩ := bytes_of_str w2.drew s hs
        unfold str at hrun
        have hc := mac_any Kr.sv _ Kr.sl s w3 (t1.out.none ((Upd.refl noBlk w2).drew.then_none hu3)) (r1.out.none ((Upd.refl noBlk w2).drew.then_none hu3)) slen hrd (by omega)
        have hS : w2.drew.cell? ⟨Kr.p, 3, none⟩ = some (.map (some Kr.bk)) ∧ w2.drew.cell? ⟨Kr.p, 2, none⟩ = some Kr.sv := ⟨c3', c2'⟩
        replace hc := Lib.hid hc
        have hS3 : w3.cell? ⟨Kr.p, 3, none⟩ = some (.map (some Kr.bk)) ∧ w3.cell? ⟨Kr.p, 2, none⟩ = some Kr.sv := ⟨hu3.cell_some c3' id, hu3.cell_some c2' id⟩
        replace hu3 := Lib.hid ((Upd.refl noBlk w2).drew.then_none hu3)
        clear hrd
        refine wp_region_L (n := 13) (fun w' : World => w'.cell? ⟨Kr.p, 3, none⟩ = some (.map (some Kr.bk)) ∧ w'.cell? ⟨Kr.p, 2, none⟩ = some Kr.sv) [10, 11] [0, 1, 2, 3, 4, 5, 6, 7, 8, 9] (by kernel_rfl) rfl ?_
        refine AnyL.pure (i := 0) (v := ?_) (some 37) rfl rfl (by kernel_rfl) (by kernel_rfl) (by kernel_rfl) rfl (fun _ _ _ h => bodyPostD_put (d := 37) Tryz.results7 (by decide) h) (by rfl) (fun ww => ?_) ?_; rotate_left; · (go_simp; (try with_reducible rfl))
        refine AnyL.pure (i := 1) (v := ?_) (some 38) rfl rfl (by kernel_rfl) (by kernel_rfl) (by kernel_rfl) rfl (fun _ _ _ h => bodyPostD_put (d := 38) Tryz.results7 (by decide) h) (by rfl) (fun ww => ?_) ?_; rotate_left; · (go_simp; (try with_reducible rfl))
        refine AnyL.pure (i := 2) (v := ?_) (some 39) rfl rfl (by kernel_rfl) (by kernel_rfl) (by kernel_rfl) rfl (fun _ _ _ h => bodyPostD_put (d := 39) Tryz.results7 (by decide) h) (by rfl) (fun ww => ?_) ?_; rotate_left; · (go_simp; (try with_reducible rfl))
        refine AnyL.take (i := 3) (v := ?_) (some 40) rfl rfl (by kernel_rfl) (by kernel_rfl) (by kernel_rfl) rfl (by kernel_rfl) (fun _ _ _ h => bodyPostD_put (d := 40) Tryz.results7 (by decide) h) (by rfl) (fun ww hww => ?_) hS ?_; rotate_left; · (obtain ⟨hs0, hs1⟩ := hww; go_simp; (try with_reducible rfl))
        refine AnyL.pure (i := 4) (v := ?_) (some 41) rfl rfl (by kernel_rfl) (by kernel_rfl) (by kernel_rfl) rfl (fun _ _ _ h => bodyPostD_put (d := 41) Tryz.results7 (by decide) h) (by rfl) (fun ww => ?_) ?_; rotate_left; · (go_simp; (try with_reducible rfl))
        refine AnyL.pure (i := 5) (v := ?_) (some 42) rfl rfl (by kernel_rfl) (by kernel_rfl) (by kernel_rfl) rfl (fun _ _ _ h => bodyPostD_put (d := 42) Tryz.results7 (by decide) h) (by rfl) (fun ww => ?_) ?_; rotate_left; · (go_simp; (try with_reducible rfl))
        refine AnyL.pure (i := 6) (v := ?_) (some 43) rfl rfl (by kernel_rfl) (by kernel_rfl) (by kernel_rfl) rfl (fun _ _ _ h => bodyPostD_put (d := 43) Tryz.results7 (by decide) h) (by rfl) (fun ww => ?_) ?_; rotate_left; · (go_simp; (try with_reducible rfl))
        refine AnyL.pure (i := 7) (v := ?_) (some 44) rfl rfl (by kernel_rfl) (by kernel_rfl) (by kernel_rfl) rfl (fun _ _ _ h => bodyPostD_put (d := 44) Tryz.results7 (by decide) h) (by rfl) (fun ww => ?_) ?_; rotate_left; · (go_simp; (try with_reducible rfl))
        refine AnyL.take (i := 8) (v := ?_) (some 45) rfl rfl (by kernel_rfl) (by kernel_rfl) (by kernel_rfl) rfl (by kernel_rfl) (fun _ _ _ h => bodyPostD_put (d := 45) Tryz.results7 (by decide) h) (by rfl) (fun ww hww => ?_) hS ?_; rotate_left; · (obtain ⟨hs0, hs1⟩ := hww; go_simp; (try with_reducible rfl))
        refine AnyL.pure (i := 9) (v := ?_) (some 46) rfl rfl (by kernel_rfl) (by kernel_rfl) (by kernel_rfl) rfl (fun _ _ _ h => bodyPostD_put (d := 46) Tryz.results7 (by decide) h) (by rfl) (fun ww => ?_) ?_; rotate_left; · (go_simp; (try with_reducible rfl))
        simp only [Act.put, List.setIfInBounds_toArray]; try simp only [List.set_cons_zero, List.set_cons_succ]
        refine AnyL.step (i := 10) (by kernel_rfl) rfl rfl (fun K hK => ?_)
        go_simp
        refine hK _ _ hS3 ?_; clear hK K
        replace hS := hS3; clear hS3
        refine AnyL.step (i := 11) (by kernel_rfl) rfl rfl (fun K hK => ?_)
        go_simp
        refine hc.out.mono ?_
        clear hc hS
        rintro e w4 ⟨es, rfl, hes, hu4⟩
        replace m1 := own_map_upd m1.out (hu3.out.then_none hu4) id
        obtain ⟨w5, hrun5, hown5, hturn⟩ := m1.store law9 Tryz.underlying46 (by rw [hn]; simp only [maxLen]; omega) hkey.out (dg_mk hes)
        unfold str at hrun5
        have hu5 := hu3.out.then_none hu4
        have hS4 : w4.cell? ⟨Kr.p, 3, none⟩ = some (.map (some Kr.bk)) ∧ w4.cell? ⟨Kr.p, 2, none⟩ = some Kr.sv := ⟨hu5.cell_some c3' id, hu5.cell_some c2' id⟩
        have hv5 := upd_mapTurned hturn
        have c5 := hv5.cell_some (hu5.cell_some c1' id) (show ¬ Kr.p = Kr.bk from fun h => kne h.symm)
        have f5 := hv5.free (p := ⟨Kr.p, 0, none⟩) (Nat.lt_of_lt_of_le b1.out.lt hu5.size) (hu5.free (p := ⟨Kr.p, 0, none⟩) b1.out.lt f1' id) (show ¬ Kr.p = Kr.bk from fun h => kne h.symm)
        have b5 := (b1.out.upd hu5 id).upd hv5 (show ¬ Kr.p = Kr.bk from fun h => kne h.symm)
        have r5 := (r1.out.none hu5).upd' hv5 fun h0 k h1 => (sfar.out h0 k h1).2
        have hu6 : Upd (fun k => k = Kr.p ∨ k = Kr.bk) w w5 := ((u1.out.then_none hu5).mono fun _ _ h => .inl h).trans hv5 fun _ h => .inl (.inr h)
        replace hown5 := Lib.hid hown5; replace b5 := Lib.hid b5; replace r5 := Lib.hid r5; replace hu6 := Lib.hid hu6; clear hturn hv5 hu5 hu4 m1 hes
        refine hK _ _ hS4 ?_; clear hK K
        refine AnyL.last (i := 12) (by kernel_rfl) rfl rfl rfl (fun K hK => ?_)
        go_simp
        refine hK _ _ ?_; clear hK K
        refine AnyL.done (by kernel_rfl) ?_
        go_wp2
        refine leaves_cons (f := 18) (args := #[.pointer (some ⟨Kr.p, 0, none⟩)]) (by simp) (by simp [go_sem]) ?_
        refine (unlock_deferred Tryz.muLib ⟨Kr.p, 0, none⟩ .returning _ c5 f5).mono ?_
        rintro e u' w'' ⟨rfl, rfl, rfl⟩
        refine ⟨_, results_tmp rfl _ _ _, by rw [hcode]; rfl, ?_, hu6.out.setCell (.inl (.inl rfl)) _⟩
        rw [hnames]
        refine KOk.unlock b5.out r5.out slen sfar.out kne (ns := s :: names) hown5.out ?_ fun t => ?_
        · rw [Maps.size_put htd.out, if_neg (by rw [hh]; decide), hsz.out]; rfl
        · by_cases hts : t = s
          · subst hts
            rw [Maps.has_put_same hmp.out (show WideAt.IsKeyLit (.string t) from trivial)]
            simp
          · rw [Maps.has_put_other (fun h => hts (Lit.string.inj h)), hhas.out]
            simp [hts]
set_option maxRecDepth 100000 in
set_option maxHeartbeats 2000000 in
theorem khas_any (Kr : KRg) (names : List (List UInt8)) (s : List UInt8) (w : World) (hk : KOk w Kr names) (hs : s.length ≤ maxLen) :
    Calls Tryz.prog 23 #[.pointer (some ⟨Kr.p, 0, none⟩), str s] w fun e w' => e = .returned (.bool (decide (s ∈ names))) ∧ KOk w' Kr names ∧ Upd (fun k => k = Kr.p) w w' := by
  have c0 : w.cell? ⟨Kr.p, 0, none⟩ = some (.int .i32 0) := by rw [hk.blk.cell]; rfl
  have f0 : w.frozen? ⟨Kr.p, 0, none⟩ = false := hk.blk.free _ rfl
  obtain ⟨D, hm, hsz, hhas⟩ := hk.map
  have u1 : Upd (fun k => k = Kr.p) w (w.setCell ⟨Kr.p, 0, none⟩ (.int .i32 1)) := (Upd.refl (fun k => k = Kr.p) w).setCell (p := ⟨Kr.p, 0, none⟩) (.inl rfl) _
  have b1 : Blk (w.setCell ⟨Kr.p, 0, none⟩ (.int .i32 1)) Kr.p 56 (Kr.cells.setIfInBounds 0 (.int .i32 1)) := hk.blk.set 0 _
  have r1 : RdB (w.setCell ⟨Kr.p, 0, none⟩ (.int .i32 1)) Kr.sv Kr.sl := hk.srd.upd' u1 fun h0 k h1 => (hk.sfar h0 k h1).1
  have m1 := own_map_upd hm u1 hk.ne
  have c1 : (w.setCell ⟨Kr.p, 0, none⟩ (.int .i32 1)).cell? ⟨Kr.p, 0, none⟩ = some (.int .i32 1) := by rw [b1.cell]; rfl
  have c3 : (w.setCell ⟨Kr.p, 0, none⟩ (.int .i32 1)).cell? ⟨Kr.p, 3, none⟩ = some (.map (some Kr.bk)) := by rw [b1.cell]; rfl
  have f1 : (w.setCell ⟨Kr.p, 0, none⟩ (.int .i32 1)).frozen? ⟨Kr.p, 0, none⟩ = false := b1.free _ rfl
  generalize hw1 : w.setCell ⟨Kr.p, 0, none⟩ (.int .i32 1) = w1 at *
  have lock : Calls Tryz.prog 17 #[.pointer (some ⟨Kr.p, 0, none⟩)] w fun e w' => e = .returned (.tuple #[]) ∧ w1 = w' := by
    have := lock_free Tryz.muLib ⟨Kr.p, 0, none⟩ _ c0 f0
    rw [hw1] at this
    exact this.mono fun _ _ h => ⟨h.1, h.2.symm⟩
  have slen := hk.slen
  have sfar := hk.sfar
  have kne := hk.ne
  replace hsz := Lib.hid hsz
  replace hhas := Lib.hid hhas
  replace u1 := Lib.hid u1
  replace b1 := Lib.hid b1
  replace r1 := Lib.hid r1
  replace m1 := Lib.hid m1
  replace lock := Lib.hid lock
  replace sfar := Lib.hid sfar
  clear hk hm c0 f0 hw1
  have hkey := key9 s hs
  have i61 : (Tryz.prog.info? 61).map (·.size) = some 32 := by kernel_rfl
  replace i61 := Lib.hid i61
  replace hkey := Lib.hid hkey
  obtain ⟨hb, hh⟩ : ∃ b, Maps.has D (.string s) = b := ⟨_, rfl⟩
  rw [show decide (s ∈ names) = hb from (hhas.out s).symm.trans hh]
  unfold str
  go_enter_defers Tryz.func23, Tryz.ntmps23
  go_wp2_with (first
    | (go_at_call 17; refine lock.out.mono ?_; rintro e w' ⟨rfl, rfl⟩)
    | (at_lookup; refine wpList_lookup_own_ok _ rfl _ _ 46 rfl 9 61 law9 Tryz.underlying46 dgElem (zero61 _) (.agg []) [] (dg_mk (B8s.replicate 32)) Kr.bk _ D rfl m1.out _ _ rfl hkey.out ?_; intro v ps hv; rw [hh]; obtain ⟨ds, rfl, hds1, hds2⟩ := dg_inv hv; clear hv; replace hds1 := Lib.hid hds1; replace hds2 := Lib.hid hds2)
    | (refine wpList_storeNew rfl rfl _ _ 61 rfl w1.heap.size rfl rfl ds rfl _ 32 rfl hds1.out i61.out hds2.out ?_; intro w2 hb2 hu2 hs2; refine Hid.out ?_))
  refine Lib.hid ?_
  have c1' := hu2.cell_some c1 id
  have f1' := hu2.free b1.out.lt f1 id
  replace m1 := Lib.hid (own_map_upd m1.out hu2 id)
  replace b1 := Lib.hid (b1.out.upd hu2 id)
  replace r1 := Lib.hid (r1.out.none hu2)
  replace u1 := Lib.hid (u1.out.then_none hu2)
  clear hb2 hs2 hu2 c1 c3 f1
  go_wp2
  refine leaves_cons (f := 18) (args := #[.pointer (some ⟨Kr.p, 0, none⟩)]) (by simp) (by simp [go_sem]) ?_
  refine (unlock_deferred Tryz.muLib ⟨Kr.p, 0, none⟩ .returning _ c1' f1').mono ?_
  rintro e u' w'' ⟨rfl, rfl, rfl⟩
  exact ⟨_, results_tmp rfl _ _ _, rfl, KOk.unlock b1.out r1.out slen sfar.out kne m1.out hsz.out hhas.out, u1.out.setCell (.inl rfl) _⟩
end Go.Proofs.YtedaapcmcimepaaGreatDoor
