/- Lemmas: WlsW HatA. -/
import Derived.Lib.MinMax
import Derived.Lib.SliceRun
import Derived.Test.YtneelidbgigehaaGreatT35
import Derived.Test.YtneelidbgigehaaGreatT37
import Derived.Test.YtneelidbgigehaaGreatT40
import Derived.Test.YtneelidbgigehaaGreatT42
import Derived.Test.YtneelidbgigehaaGreatT25
import Derived.Test.YtneelidbgigehaaGreatT26
import Derived.Test.YtneelidbgigehaaGreatT07
import Derived.Test.YtneelidbgigehaaGreatT11
import Derived.Test.YtneelidbgigehaaGreatShelf3
/- Walls: walked. -/
/- Walls: walked. -/
namespace Go.Proofs.YtneelidbgigehaaGreat
set_option linter.unusedSimpArgs false
set_option linter.unusedVariables false
set_option maxRecDepth 100000
open Go Go.Maps Go.RowKit Runs Reg Wal
open Trk (Cl Tr tval oncT)
attribute [local go_sem] Kin.cell Kin.frozen Kin.lt0 Kin.lt1 Kin.lt2 Kin.lt3 run_mkf
theorem rbd_v {rows : List Reg.Row} (h : rvalid rows = true) : RBd rows := by
  have hv := rvalid_iff.1 h
  exact ⟨by have := (vreg_len hv).1; omega, fun r hr => by have := (vreg_len hv).2 r hr; omega⟩
/-- a list whose first value is an int lies in no block of one slice -/
theorem ints_far1 {α : Type} {k : Nat} {enc : α → List Value} {W : World} {v : Value} {l : List α} {g : Nat} {t : TypeId} {A : Option Addr} {n c : Nat} (h : Rd k enc W v l) (he : ∀ x, ∃ (n : Int) (t : List Value), enc x = .int .i64 n :: t)
    (hB : Blk W g t #[.slice A n c]) : l = [] ∨ v.ownBlock ≠ some g := by
  obtain ⟨A', cap, rfl, _, h⟩ := h
  rcases h with h | ⟨b, off, rfl, hlt, hcell⟩
  · exact .inl h
  rcases l with _ | ⟨r, l⟩
  · exact .inl rfl
  right
  intro e
  have e : b = g := by simpa [Value.ownBlock] using e
  subst e
  obtain ⟨m, t', hx⟩ := he r
  have h0 := hcell 0 r rfl 0 (.int .i64 m) (by rw [hx]; rfl)
  rw [hB.cell] at h0
  generalize off + 0 * k + 0 = q at h0
  match q, h0 with
  | 0, h0 => simp at h0
  | q + 1, h0 => simp at h0
theorem RdTrs.far_ {W W' : World} {v : Value} {l : List Tr} {g : Nat} {t : TypeId} {A : Option Addr} {n c : Nat} (h : RdTrs W v l) (hB : Blk W g t #[.slice A n c]) (hg : W.grownBy W' (some g)) : RdTrs W' v l := by
  obtain ⟨hs, h1, h2⟩ := h
  exact ⟨hs, h1.grown hg (ints_far1 h1 (fun x => ⟨x.1.1, _, rfl⟩) hB), h2.1, fun i y x hy hx => ⟨(h2.2 i y x hy hx).1, (h2.2 i y x hy hx).2.grown hg (ints_far1 (h2.2 i y x hy hx).2 (fun x => ⟨x.1, _, rfl⟩) hB)⟩⟩
set_option maxHeartbeats 4000000 in
theorem joined_any (v u : Value) (xs ys : List Tr) (w : World) (h1 : RdTrs w v xs) (h2 : RdTrs w u ys) (hl : xs.length + ys.length ≤ 1000000) :
    Calls Tryz.prog 34 #[v, u] w fun e w' => (∃ v', e = .returned v' ∧ RdTrs w' v' (xs ++ ys)) ∧ Below w.heap.size w w' := by
  obtain ⟨hs1, a1, a2⟩ := h1
  obtain ⟨hs2, b1, b2⟩ := h2
  obtain ⟨A, cap, rfl, hcap, _⟩ := a1.open_
  obtain ⟨B, c, rfl, hc, _⟩ := b1.open_
  obtain ⟨n, hn⟩ : ∃ n, hs1.length = n := ⟨_, rfl⟩
  obtain ⟨m, hm⟩ : ∃ m, hs2.length = m := ⟨_, rfl⟩
  have hnm : n + m ≤ 1000000 := by have := a2.1; have := b2.1; omega
  have a1n : Rd 3 encTr w (.slice A n n) hs1 := by
    obtain ⟨A', c', e, _, h⟩ := a1
    injection e with e1 e2 e3
    subst e1
    rw [← hn]
    exact ⟨A, hs1.length, rfl, Nat.le_refl _, h⟩
  rw [hn] at hcap ⊢
  rw [hm] at b1 hc ⊢
  have HA := Lib.hid a1n
  have HA2 := Lib.hid a2
  have HB := Lib.hid b1
  have HB2 := Lib.hid b2
  clear a1 a1n a2 b1 b2 hn hm
  rcases A with _ | a
  · go_enter Tryz.func34, Tryz.ntmps34
    go_wp2_with (at_builtin; refine Shut.out ?_)
    unfold Shut
    refine wpList_appfull _ rfl _ _ 35 rfl encTr_len (by decide) 72 (.agg #[.int .i64 0, .bool false, .slice none 0 0]) 40 infoTr rfl Tryz.underlying35 _ _ rfl _ HA.out _ _ _ rfl _ HB.out (by omega) (by decide) ?_
    intro v1 w1 hr1 hb1
    have HN1 := Lib.hid ((nestAt_append HA2.out HB2.out).below hb1)
    have HR1 := Lib.hid hr1
    have HB1 := Lib.hid hb1
    clear hr1 hb1
    go_wp2_with fail
    go_ret
    exact ⟨⟨_, rfl, _, HR1.out, HN1.out⟩, HB1.out⟩
  · go_enter Tryz.func34, Tryz.ntmps34
    go_wp2_with (at_builtin; refine Shut.out ?_)
    unfold Shut
    refine wpList_appfull _ rfl _ _ 35 rfl encTr_len (by decide) 72 (.agg #[.int .i64 0, .bool false, .slice none 0 0]) 40 infoTr rfl Tryz.underlying35 _ _ rfl _ HA.out _ _ _ rfl _ HB.out (by omega) (by decide) ?_
    intro v1 w1 hr1 hb1
    have HN1 := Lib.hid ((nestAt_append HA2.out HB2.out).below hb1)
    have HR1 := Lib.hid hr1
    have HB1 := Lib.hid hb1
    clear hr1 hb1
    go_wp2_with fail
    go_ret
    exact ⟨⟨_, rfl, _, HR1.out, HN1.out⟩, HB1.out⟩
theorem union_empty {a : List Reg.Row} (h : rvalid a = true) : rop (opf 2) a [] = a :=
  (rop_eq (opf_ff 2) h rvalid_nil (rvalid_iff.1 h) (fun x y => by rw [memC_nil]; simp [opf])).symm
theorem union0_any (v : Value) (a : List Reg.Row) (w : World) (ha : RdReg w v a) (hv : rvalid a = true) :
    Calls Tryz.prog 33 #[v, .agg #[.slice none 0 0]] w fun e w' => (∃ A n c, e = .returned (.agg #[.slice A n c]) ∧ RdReg w' (.agg #[.slice A n c]) a) ∧ Below w.heap.size w w' :=
  (unionReg_any v _ a [] w ha ⟨_, rfl, RdN.nil⟩ (rbd_v hv) (rbd_v rvalid_nil)).mono fun e w' ⟨⟨r, he, hr⟩, hb⟩ => ⟨by
    rw [union_empty hv] at hr
    obtain ⟨A, c, rfl⟩ := hr.slice_
    exact ⟨A, _, c, he, hr⟩, hb⟩
theorem results_t_cell {P : Program} {fn : Func} {p q : Tmp} {ty : TypeId} (h : fn.results = #[.tmp q, .cell p ty]) (tmps : Array Value) (w : World) {g : Nat} {t : TypeId} {cs : Array Value} (fr : Nat × Nat) {d : TypeDesc}
    (hp : tmps.getD p undef = .pointer (some ⟨g, 0, none⟩)) (hg : w.heap[g]? = some (.cells cs t fr))
    (hu : P.underlying ty = some d) (hd : (match d with | .struct _ | .array _ _ => true | _ => false) = true) (hi : (P.info? ty).map (·.size) = some cs.size) :
    (results fn tmps).run P w = .ok (.tuple #[tmps.getD q undef, .agg cs]) w := by
  have hp' : tmps[p]?.getD undef = .pointer (some ⟨g, 0, none⟩) := by simpa using hp
  simp [results, h, hp', asAddr, run_loadVar_row w g t ty cs fr d hg hu hd hi]
theorem reg_rows {w : World} {S : Value} {rows : List Reg.Row} (h : RdReg w (.agg #[S]) rows) : RdRows w S rows := by
  obtain ⟨s, e, h⟩ := h
  injection e with e
  have : S = s := by simpa using e
  rw [this]; exact h
/-- the state of the loop of Walls -/
structure WlI (rows : List Reg.Row) (W1 : World) (gr : Nat) (k : Nat) (u : Value) (wr : World) (all : List Tr) (A : Option Addr) (m c : Nat) : Prop where
  tr : RdTrs wr u all
  wl : Wls rows k all
  vr : Blk wr gr 24 #[.slice A m c]
  rr : RdReg wr (.agg #[.slice A m c]) (eroR rows k)
  kin : Below W1.heap.size W1 wr
set_option maxHeartbeats 16000000 in
theorem walls_any (v : Value) (rows : List Reg.Row) (n : Nat) (w : World) (h : RdReg w v rows) (hv : rvalid rows = true) (hn : cntR rows ≤ 200) (hn20 : n ≤ 20) :
    Calls Tryz.prog 13 #[v, .int .i64 n] w fun e w' => (∃ u A m c all, e = .returned (.tuple #[u, .agg #[.slice A m c]]) ∧ Wls rows n all ∧ RdTrs w' u (oncT all) ∧ RdReg w' (.agg #[.slice A m c]) (eroR rows n)) ∧ Below w.heap.size w w' := by
  obtain ⟨AS, capS, rfl⟩ := h.slice_
  obtain ⟨nr, hnr⟩ : ∃ nr, rows.length = nr := ⟨_, rfl⟩
  rw [hnr] at h ⊢
  have HR := Lib.hid h
  have HV := Lib.hid hv
  have HBD := Lib.hid (rbd_v hv)
  have HN := Lib.hid hn
  clear h hv hn hnr
  go_enter Tryz.func13, Tryz.ntmps13
  go_wp2_with fail
  obtain ⟨W1, hW1⟩ : ∃ W1, (w.alloc (.cells #[.slice AS nr capS] 24)).alloc (.cells #[.slice none 0 0] 24) = W1 := ⟨_, rfl⟩
  obtain ⟨g2, hg2⟩ : ∃ g2, w.heap.size = g2 := ⟨_, rfl⟩
  have hb1 : Below w.heap.size w W1 := by rw [← hW1]; exact gRw
  have B2 : Blk W1 g2 24 #[.slice AS nr capS] := by rw [← hW1, ← hg2]; exact (Blk.new w _ _).al_ _
  have B5 : Blk W1 (g2 + 1) 24 #[.slice none 0 0] := by
    have := Blk.new (w.alloc (.cells #[.slice AS nr capS] 24)) 24 #[.slice none 0 0]
    rw [World.size_alloc, hW1, hg2] at this; exact this
  have HR1 := Lib.hid (RdReg.below HR.out hb1)
  have HB1 := Lib.hid hb1
  have HB2 := Lib.hid B2
  have HB5 := Lib.hid B5
  have r_0 : W1.cell? ⟨g2, 0, none⟩ = some (.slice AS nr capS) := B2.cell 0
  have r_l := B2.lt
  rw [hW1, hg2]
  clear hW1 hb1 B2 B5 HR
  (go_at_call 27; (with_reducible refine (Kin.callK (W := W1) gRw (rvalid_is _ rows _ HR1.out HBD.out HV.out)).mono ?_); rintro e w' ⟨z2, rfl, hz2, rfl⟩; skip)
  go_wp2_with fail
  have hr2 := HR1.out.below z2.2
  (go_at_call 33; (with_reducible refine (Kin.callK (W := W1) gRw (union0_any _ rows _ hr2 HV.out)).mono ?_); rintro e w' ⟨z3, ⟨A3, n3, c3, rfl, hr3⟩, hz3, rfl⟩; skip)
  obtain ⟨W3, hW3⟩ : ∃ W3, z3.1 = W3 := ⟨_, rfl⟩
  have hb3 := z3.2
  rw [hW3] at hr3 hb3 ⊢
  have HR3 := Lib.hid hr3
  have HB3 := Lib.hid hb3
  clear hW3 hz3 hb3 hr3 hz2 hr2
  go_wp2_with fail
  have hmin : min (n : Int) 64 = (n : Int) := Int.min_eq_left (by omega)
  rw [hmin]
  obtain ⟨W4, hW4⟩ : ∃ W4, W3.alloc (.cells #[.slice A3 n3 c3] 24) = W4 := ⟨_, rfl⟩
  obtain ⟨gr, hgr⟩ : ∃ gr, W3.heap.size = gr := ⟨_, rfl⟩
  have hb4 : Below W3.heap.size W3 W4 := by rw [← hW4]; exact gRw
  have hI0 : WlI rows W1 gr 0 (.slice none 0 0) W4 [] A3 n3 c3 := ⟨RdN.nil, wls_nil _, by rw [← hW4, ← hgr]; exact Blk.new _ _ _, by
    have := HR3.out.below hb4
    rw [show ((0 : Nat) : Int) = 0 from rfl, ero_zero HV.out]; exact this, HB3.out.trans (hb4.mono HB3.out.size)⟩
  have hgr1 : W1.heap.size ≤ gr := by rw [← hgr]; exact HB3.out.size
  have HI0 := Lib.hid hI0
  rw [hW4, hgr]
  clear hW4 hgr hb4 hI0 HR3 HB3 hmin r_0 r_l
  go_loopw [6, 18] (fun u i wr => ∃ k : Nat, k ≤ n ∧ i = .int .i64 k ∧ ∃ all A m c, Hid (WlI rows W1 gr k u wr all A m c)) (fun _ i _ => n - (intOf i).toNat)
  case atStart => exact ⟨0, Nat.zero_le _, rfl, _, _, _, _, HI0⟩
  case round =>
    clear HI0
    obtain ⟨k, hk, rfl, all, A, m, c, HI⟩ := hrel
    have r_0 : wr.cell? ⟨gr, 0, none⟩ = some (.slice A m c) := HI.out.vr.cell 0
    have r_l := HI.out.vr.lt
    have hlen := (wls_spec HV.out HN.out (by omega) HI.out.wl).2.2
    by_cases hlt : k < n
    · have hck := ck_ero HV.out HN.out (j := (k : Int)) (by omega) (by omega)
      have hv1 := rvalid_iff.1 (eroR_valid rows (k : Int))
      have hrr := reg_rows HI.out.rr
      have hck2 : (Trc.ckR (eroR rows (k : Int))).length ≤ 32768 := by omega
      go_wp2_with fail
      (go_at_call 14; (with_reducible refine (Kin.callK (W := wr) gRw (walkT_any (.slice A m c) (eroR rows (k : Int)) _ hrr hv1 hck2)).mono ?_); rintro e w' ⟨z5, ⟨u5, ts, rfl, hwk, hot⟩, hz5, rfl⟩; skip)
      obtain ⟨W5, hW5⟩ : ∃ W5, z5.1 = W5 := ⟨_, rfl⟩
      have hb5 := z5.2
      rw [hW5] at hot hb5 ⊢
      have hts := (wkL_spec hv1 hck2 hwk).2.2
      have hrt := OwnN.rd encTr_len hot
      have HWK := Lib.hid hwk
      have HRT := Lib.hid hrt
      have HB5 := Lib.hid hb5
      have hall5 := RdN.below HI.out.tr hb5
      have HA5 := Lib.hid hall5
      clear hW5 hz5 hb5 hot hwk hrt hall5 hv1 hrr hck2
      go_wp2_with fail
      (go_at_call 34; (with_reducible refine (Kin.callK (W := W5) gRw (joined_any _ u5 all ts _ HA5.out HRT.out (by omega))).mono ?_); rintro e w' ⟨z6, ⟨u6, rfl, hr6⟩, hz6, rfl⟩; skip)
      obtain ⟨W6, hW6⟩ : ∃ W6, z6.1 = W6 := ⟨_, rfl⟩
      have hb6 := HB5.out.trans (z6.2.mono HB5.out.size)
      rw [hW6] at hr6 hb6 ⊢
      have HR6 := Lib.hid hr6
      have HB6 := Lib.hid hb6
      have B6 := HI.out.vr.below hb6
      have r6_0 : W6.cell? ⟨gr, 0, none⟩ = some (.slice A m c) := B6.cell 0
      have r6_l := B6.lt
      have HRE := Lib.hid (HI.out.rr.below hb6)
      clear hW6 hz6 hb6 hr6 B6 r_0 r_l HA5 HRT HB5
      go_wp2_with fail
      (go_at_call 35; (with_reducible refine (Kin.callK (W := W6) gRw (ero_any _ (eroR rows (k : Int)) 1 _ HRE.out (rbd_v (eroR_valid _ _)))).mono ?_); rintro e w' ⟨z7, ⟨A7, m7, c7, rfl, hr7⟩, hz7, rfl⟩; skip)
      obtain ⟨W7, hW7⟩ : ∃ W7, z7.1 = W7 := ⟨_, rfl⟩
      have hb7 := z7.2
      rw [hW7] at hr7 hb7 ⊢
      rw [ero_steps (by omega) (by omega) (by omega)] at hr7
      have B7 := (HI.out.vr.below HB6.out).below hb7
      have r7_0 : W7.cell? ⟨gr, 0, none⟩ = some (.slice A m c) := B7.cell 0
      have r7_l := B7.lt
      have r7_f := B7.frozen 0
      have HB7 := Lib.hid (HI.out.kin.trans ((HB6.out.trans (hb7.mono HB6.out.size)).mono HI.out.kin.size))
      have HR7 := Lib.hid hr7
      have HT7 := Lib.hid (RdN.below HR6.out hb7)
      have HV7 := Lib.hid B7
      clear hW7 hz7 hb7 hr7 B7 HRE HR6
      go_wp2_with fail
      refine ⟨⟨k + 1, by omega, by go_num, _, _, _, _, Lib.hid ⟨RdTrs.far_ HT7.out HV7.out (grownBy_set _), wls_snoc HI.out.wl HWK.out, HV7.out.set_ 0 _, HR7.out.set_ HV7.out, HB7.out.setCell (p := ⟨gr, 0, none⟩) hgr1 _⟩⟩, by simp [intOf]; omega⟩
    · have hkn : k = n := by omega
      subst hkn
      have mixed : Tryz.prog.follows .mixedOrders = true := by kernel_rfl
      have B5 := HB5.out.below HI.out.kin
      have HV5 := Lib.hid B5
      have HIH := HI
      clear B5
      go_wp2_with fail
      refine wp_region_heldT (S := fun w' => Below wr.heap.size wr w') 4 (by kernel_rfl) ((Below.refl _ _).drew) (fun hHeld => ?_)
      try simp only [List.size_toArray, List.length_cons, List.length_nil, Nat.zero_add, Nat.reduceAdd, List.replicate, Array.replicate]
      obtain ⟨W7, hW7⟩ : ∃ W7, wr.drew = W7 := ⟨_, rfl⟩
      rw [hW7] at hHeld ⊢
      clear hW7
      refine wpAnyT_take (m := 4) (i := 0) (v := ?_) (by kernel_rfl) (by decide) rfl (by kernel_rfl) (by kernel_rfl) (by kernel_rfl) (fun _ _ _ h => h) (Or.inl ⟨by kernel_rfl, ?_⟩) (by assumption) ?_
      rotate_left
      · (intro w' hSw; have s0 := (hSw.cell (p := ⟨gr, 0, none⟩) r_l).trans r_0; go_simp; try with_reducible rfl)
      try simp only [List.getElem_toArray, List.getElem_cons_succ, List.getElem_cons_zero, Act.put, List.setIfInBounds_toArray, List.set_cons_zero, List.set_cons_succ]
      refine wpAnyT_take (m := 4) (i := 2) (v := ?_) (by kernel_rfl) (by decide) rfl (by kernel_rfl) (by kernel_rfl) (by kernel_rfl) (fun _ _ _ h => h) (Or.inl ⟨by kernel_rfl, ?_⟩) (by assumption) ?_
      rotate_left
      · (intro w' hSw; have s0 := (hSw.cell (p := ⟨gr, 0, none⟩) r_l).trans r_0; go_simp; try with_reducible rfl)
      try simp only [List.getElem_toArray, List.getElem_cons_succ, List.getElem_cons_zero, Act.put, List.setIfInBounds_toArray, List.set_cons_zero, List.set_cons_succ]
      refine wpAnyT_step (i := 1) (by kernel_rfl) rfl (fun K hK => ?_)
      go_simp
      (go_at_call 36; (with_reducible refine (Kin.callK (W := W7) gRw (once_any _ all _ (RdN.below HI.out.tr hHeld) (by omega))).mono ?_); rintro e w' ⟨z8, ⟨u8, rfl, hu8⟩, hz8, rfl⟩; skip)
      simp only []
      have h8 : Below wr.heap.size wr z8.1 := hHeld.trans (z8.2.mono hHeld.size)
      obtain ⟨W8, hW8⟩ : ∃ W8, z8.1 = W8 := ⟨_, rfl⟩
      rw [hW8] at hu8 h8 ⊢
      have HU8 := Lib.hid (OwnN.rd encTr_len hu8)
      refine hK.out _ _ (h8) (fun hHeld2 => ?_)
      clear hK hHeld
      have hHeld := hHeld2
      clear hHeld2 K
      try simp only [List.getElem_toArray, List.getElem_cons_succ, List.getElem_cons_zero, Act.put, List.setIfInBounds_toArray, List.set_cons_zero, List.set_cons_succ]
      refine wpAnyT_take (m := 4) (i := 3) (v := ?_) (by kernel_rfl) (by decide) rfl (by kernel_rfl) (by kernel_rfl) (by kernel_rfl) (fun _ _ _ h => h) (Or.inl ⟨by kernel_rfl, ?_⟩) (by assumption) ?_
      rotate_left
      · (intro w' hSw; have s0 := (hSw.cell (p := ⟨gr, 0, none⟩) r_l).trans r_0; go_simp; try with_reducible rfl)
      try simp only [List.getElem_toArray, List.getElem_cons_succ, List.getElem_cons_zero, Act.put, List.setIfInBounds_toArray, List.set_cons_zero, List.set_cons_succ]
      have B8 := HV5.out.below h8
      have c8 := B8.cell 0
      have f8 := B8.frozen 0
      have l8 := B8.lt
      have HV8 := Lib.hid B8
      have HR8 := Lib.hid (HI.out.rr.below h8)
      have HB8 := Lib.hid (HI.out.kin.trans (h8.mono HI.out.kin.size))
      clear B8 hu8 hW8 hz8 hHeld h8
      refine wpAnyT_last (by kernel_rfl) rfl (fun K hK => ?_)
      go_simp
      refine hK.out _ _ ?_
      refine wpAnyT_done (by kernel_rfl) ?_ _
      clear hK
      go_wp2_with fail
      (try simp only [Exit.inBlock, Exit.then])
      refine bodyPost_ret (results_t_cell rfl _ _ (0, 0) rfl (HV8.out.set_ 0 _) Tryz.underlying24 rfl (by kernel_rfl)) rfl ?_
      exact ⟨⟨_, _, _, _, all, rfl, HI.out.wl, RdTrs.far_ HU8.out HV8.out (grownBy_set _), HR8.out.set_ HV8.out⟩, (HB1.out.trans (HB8.out.mono HB1.out.size)).setCell (p := ⟨g2 + 1, 0, none⟩) (by show w.heap.size ≤ g2 + 1; omega) _⟩
end Go.Proofs.YtneelidbgigehaaGreat

/- The lines of a filling: walked. -/
namespace Go.Sort
end Go.Sort
namespace Go.Shelf
end Go.Shelf
namespace Go.Proofs.YtneelidbgigehaaGreat
set_option linter.unusedSimpArgs false
set_option linter.unusedVariables false
set_option maxRecDepth 100000
open Go.Shelf Go.RowKit Go.Lib Go.Sort Go.Proofs Trk
attribute [local go_sem] Kin.cell Kin.frozen Kin.lt0 Kin.lt1 Kin.lt2 Kin.lt3 run_mkf
theorem grow_nilC (w : World) : grow w #[] = w := by simp [grow]
theorem reverse_cells (base : Nat) (w : World) (v : Value) (xs : List Cl) (hne : xs ≠ []) (hown : w.ownsRow base 47 2 v xs.length (xs.flatMap encPt)) (hlen : xs.length ≤ 9223372036854775807) (hB : base ≤ w.heap.size) :
    Calls Tryz.prog 66 #[v] w fun e w' => e = .returned (.tuple #[]) ∧ w'.ownsRow base 47 2 v xs.reverse.length (xs.reverse.flatMap encPt) ∧ Below base w w' ∧ w.grownBy w' v.ownBlock := by
  rcases hown.2 with ⟨rfl, h0⟩ | ⟨b, cap, cur, rfl, hbase, hb, hn, hm, hs, ht⟩
  · exact absurd (List.eq_nil_of_length_eq_zero h0) hne
  · have hbs : b < w.heap.size := (Array.getElem?_eq_some_iff.1 hb).1
    have := AnyQ.slices_Reverse Tryz.revCell 2 Tryz.isAgg47 Tryz.sizeOf47 encPt encPt_len (fun x u hu => by simp [encPt] at hu; rcases hu with rfl | rfl <;> rfl) b 0 cap xs.toArray w (holdsK_of_block encPt_len (by decide) hb ht) (by simpa using hlen)
    simp only [List.size_toArray] at this
    refine this.mono fun _ _ ⟨he, n, hw⟩ => ⟨he, ?_, ?_⟩
    · have := ownsRow_sortedK (enc := encPt) encPt_len (by decide) (ys := xs.reverse) (n := n) (os := #[]) (by simp) hbase hb hn hm hs
      rw [grow_nilC] at this
      rw [hw]
      simpa [putRowK] using this
    · have hg : w.grownBy (putRowK encPt 2 (Sort.ahead w n) b 0 xs.toArray.reverse) (some b) := by
        have := grownBy_sortedK (w := w) (g := b) (n := n) (os := #[]) (flatK encPt 2 xs.toArray.reverse)
        rw [grow_nilC] at this
        exact this
      rw [hw]
      exact ⟨own_grown (Below.refl _ _) hown hg (Nat.le_refl _) hB, hg⟩
theorem nearH_is {r : Bool} (a b : Cl) (w : World) (ha : okc a = true) (hb : okc b = true) (h : nb a b = r) : Calls Tryz.prog 106 #[.agg #[.int .i64 a.1, .int .i64 a.2], .agg #[.int .i64 b.1, .int .i64 b.2]] w fun e w' => e = .returned (.bool r) ∧ Below w.heap.size w w' := by
  subst h
  have h1 := okc_iff.1 ha
  have h2 := okc_iff.1 hb
  have e1 : IntKind.i64.wrap (a.1 - b.1) = a.1 - b.1 := IntWalk.i64_in _ (by omega)
  have e2 : IntKind.i64.wrap (a.2 - b.2) = a.2 - b.2 := IntWalk.i64_in _ (by omega)
  have s1 := sq_bd (x := a.1 - b.1) (by omega)
  have s2 := sq_bd (x := a.2 - b.2) (by omega)
  have e3 : IntKind.i64.wrap ((a.1 - b.1) * (a.1 - b.1)) = (a.1 - b.1) * (a.1 - b.1) := IntWalk.i64_in _ (by omega)
  have e4 : IntKind.i64.wrap ((a.2 - b.2) * (a.2 - b.2)) = (a.2 - b.2) * (a.2 - b.2) := IntWalk.i64_in _ (by omega)
  have e5 : IntKind.i64.wrap ((a.1 - b.1) * (a.1 - b.1) + (a.2 - b.2) * (a.2 - b.2)) = (a.1 - b.1) * (a.1 - b.1) + (a.2 - b.2) * (a.2 - b.2) := IntWalk.i64_in _ (by omega)
  go_enter Tryz.func106, Tryz.ntmps106
  go_wp2
  ((first | refine wp_region_kin _ (by kernel_rfl) (by kernel_rfl) ?_ | refine wp_region_kin0 (by kernel_rfl) (by kernel_rfl) ?_); (repeat' (first | go_big_quiet_step (fail) | ((refine wpQuiet_guard rfl rfl rfl rfl (fun hg => ?_) (fun hg => ?_)) <;> (fail_if_success (first | guard_hyp hg : true = true | guard_hyp hg : false = false)) <;> (try simp only [decide_eq_true_eq, decide_eq_false_iff_not] at hg) <;> simp only [Act.put, List.setIfInBounds_toArray, List.set_cons_zero, List.set_cons_succ]))); all_goals ((with_reducible refine wpQuiet_nil ?_); rintro _ ⟨z, rfl⟩))
  go_wp2
  go_ret
  exact ⟨ret_bool (by simp [nb, e1, e2, e3, e4, e5]; try rfl), gRw⟩
theorem rest_is {y r : Int} (h : (y = 1 ∧ r = 1) ∨ (y = 2 ∧ r = 0) ∨ (y = 3 ∧ r = 1)) (w : World) : Calls Tryz.prog 62 #[.int .i64 y, .int .i64 2] w fun e w' => e = .returned (.int .i64 r) ∧ Below w.heap.size w w' := by
  rcases h with ⟨rfl, rfl⟩ | ⟨rfl, rfl⟩ | ⟨rfl, rfl⟩
  · go_enter Tryz.func62, Tryz.ntmps62
    go_wp2
    go_ret
    exact ⟨ret_int (by rfl), gRw⟩
  · go_enter Tryz.func62, Tryz.ntmps62
    go_wp2
    go_ret
    exact ⟨ret_int (by rfl), gRw⟩
  · go_enter Tryz.func62, Tryz.ntmps62
    go_wp2
    go_ret
    exact ⟨ret_int (by rfl), gRw⟩
/-- the cells of a run -/
def lineL (y a : Int) (n : Nat) : List Cl := (List.range n).map fun k : Nat => (a + (k : Int), y)
theorem lineL_succ (y a : Int) (n : Nat) : lineL y a (n + 1) = lineL y a n ++ [(a + (n : Int), y)] := by simp [lineL, List.range_succ]
theorem lineL_len (y a : Int) (n : Nat) : (lineL y a n).length = n := by simp [lineL]
set_option maxHeartbeats 4000000 in
theorem line_any (y a b : Int) (n : Nat) (w : World) (ha : -10000 ≤ a ∧ a ≤ 10000) (hn : n ≤ 10000) (hb : b = a + (n : Int)) :
    Calls Tryz.prog 64 #[.int .i64 y, .agg #[.int .i64 a, .int .i64 b]] w fun e w' => (∃ u, e = .returned u ∧ OwnC w.heap.size w' u (lineL y a n)) ∧ Below w.heap.size w w' := by
  have HBE := Lib.hid hb
  have hb1 : -10000 ≤ b ∧ b ≤ 20000 := by omega
  clear hb
  go_enter Tryz.func64, Tryz.ntmps64
  go_wp2_with fail
  obtain ⟨W1, hW1⟩ : ∃ W1, w.alloc (.cells #[.int .i64 a, .int .i64 b] 69) = W1 := ⟨_, rfl⟩
  have hb1 : Below w.heap.size w W1 := hW1 ▸ (Below.refl _ _).alloc (Nat.le_refl _) _
  have B1 : Blk W1 w.heap.size 69 #[.int .i64 a, .int .i64 b] := hW1 ▸ Blk.new _ _ _
  have r_0 : W1.cell? ⟨w.heap.size, 0, none⟩ = some (.int .i64 a) := B1.cell 0
  have r_1 : W1.cell? ⟨w.heap.size, 1, none⟩ = some (.int .i64 b) := B1.cell 1
  have r_l := B1.lt
  have HB1 := Lib.hid hb1
  obtain ⟨g, hg⟩ : ∃ g, w.heap.size = g := ⟨_, rfl⟩
  have HG := Lib.hid hg
  rw [hg] at r_0 r_1 r_l
  rw [hW1, hg]
  clear hW1 hb1 B1 hg
  go_loopw [5, 6] (fun u i wr => ∃ k : Nat, k ≤ n ∧ i = .int .i64 (a + (k : Int)) ∧ Hid (OwnC W1.heap.size wr u (lineL y a k)) ∧ ∃ z : Kin W1, z.1 = wr) (fun _ i _ => n - (intOf i - a).toNat)
  case atStart => exact ⟨0, Nat.zero_le _, by simp, Lib.hid (World.ownsRow_nil _ _ _ _), ⟨W1, Below.refl _ _⟩, rfl⟩
  case round =>
    obtain ⟨k, hk, rfl, HO, z, rfl⟩ := hrel
    by_cases hlt : k < n
    · have hlt2 : a + (k : Int) < b := by have := HBE.out; omega
      have e1 : IntKind.i64.wrap (a + (k : Int) + 1) = a + (k : Int) + 1 := IntWalk.i64_in _ (by omega)
      have hl := lineL_len y a k
      have HO1 := Lib.hid (show z.1.ownsRow W1.heap.size 47 2 u5 k ((lineL y a k).flatMap encPt) from by have := HO.out; unfold OwnC at this; rwa [hl] at this)
      go_wp2_with (at_builtin; refine Shut.out ?_)
      unfold Shut
      refine wpList_app _ rfl _ _ 70 rfl encPt_len (by decide) oneP (W1.heap.size) 47 (.agg #[.int .i64 0, .int .i64 0]) 16 infoCell rfl Tryz.underlying70 _ _ _ _ rfl (HO1.out.alloc _) _ _ _ rfl (rd_one _ encPt_len _ (a + (k : Int), y) _ rfl) ?c1 (by decide) ?c2 ?_
      case c1 => (first | (simp only [List.length_append, List.length_cons, List.length_nil]; omega) | omega | (simp; omega))
      case c2 => exact lEw
      intro v1 w1 hown1 hg1 hbel1 hat1
      have g0 : Below z.1.heap.size z.1 (z.1.alloc (.cells #[.int .i64 (a + (k : Int)), .int .i64 y] 47)) := (Below.refl _ _).alloc (Nat.le_refl _) _
      have HO2 := Lib.hid (show OwnC W1.heap.size w1 v1 (lineL y a (k + 1)) by rw [lineL_succ]; exact hown1)
      have HK := Lib.hid ((z.2.trans (g0.mono z.2.size)).trans hbel1)
      clear g0 hown1 hg1 hbel1 hat1 HO1 hl
      go_wp2_with fail
      refine ⟨⟨k + 1, by omega, ?_, HO2, ⟨w1, HK.out⟩, rfl⟩, by simp [intOf]; omega⟩
      push_cast
      rw [← Int.add_assoc]
    · have hkn : k = n := by omega
      subst hkn
      have hlt2 : ¬ a + (k : Int) < b := by have := HBE.out; omega
      go_wp2_with fail
      go_ret
      exact ⟨⟨_, rfl, own_base HO.out (by have := HB1.out.size; omega)⟩, HG.out ▸ HB1.out.trans (z.2.mono HB1.out.size)⟩
end Go.Proofs.YtneelidbgigehaaGreat
