/- Lemmas: HatZ. -/
import Derived.RangeFuncNested
import Derived.RangeFuncBound
import Derived.RangeFuncCalls
import Derived.RangeFuncLeaves
import Derived.Shelf.Abstract
import Derived.Shelf.RegionOpen
import Derived.WalkKit
import Derived.OwnWalkIn
import Derived.TacticsInMore
import Derived.LoopNIn
import Derived.LoopN
import Derived.LoopIn
import Derived.Test.YtneelidbgigehaaGreatT44
import Derived.Test.YtneelidbgigehaaGreatT45
import Derived.Test.YtneelidbgigehaaGreatT34
import Derived.Test.YtneelidbgigehaaGreatT07
/- Zigzag of a square of 3 x 3 cells: walked. -/
namespace Go.Proofs.YtneelidbgigehaaGreat
set_option linter.unusedSimpArgs false
set_option linter.unusedVariables false
set_option maxRecDepth 100000
open Go Go.RowKit Trk Runs Reg
attribute [local go_sem] Oper.semAt_some
attribute [local go_sem] Kin.cell Kin.frozen Kin.lt0 Kin.lt1 Kin.lt2 Kin.lt3 run_mkf
/-- what Zigzag reads of the square -/
structure SqAt (w : World) (bA offA b0 o0 c0 b1 o1 c1 b2 o2 c2 : Nat) : Prop where
  lA : bA < w.heap.size
  l0 : b0 < w.heap.size
  l1 : b1 < w.heap.size
  l2 : b2 < w.heap.size
  y0 : w.cell? ⟨bA, offA, none⟩ = some (.int .i64 1)
  s0 : w.cell? ⟨bA, offA + 1, none⟩ = some (.slice (some ⟨b0, o0, none⟩) 1 c0)
  y1 : w.cell? ⟨bA, offA + 2, none⟩ = some (.int .i64 2)
  s1 : w.cell? ⟨bA, offA + 2 + 1, none⟩ = some (.slice (some ⟨b1, o1, none⟩) 1 c1)
  y2 : w.cell? ⟨bA, offA + 4, none⟩ = some (.int .i64 3)
  s2 : w.cell? ⟨bA, offA + 4 + 1, none⟩ = some (.slice (some ⟨b2, o2, none⟩) 1 c2)
  f0 : w.cell? ⟨b0, o0, none⟩ = some (.int .i64 1)
  t0 : w.cell? ⟨b0, o0 + 1, none⟩ = some (.int .i64 4)
  f1 : w.cell? ⟨b1, o1, none⟩ = some (.int .i64 1)
  t1 : w.cell? ⟨b1, o1 + 1, none⟩ = some (.int .i64 4)
  f2 : w.cell? ⟨b2, o2, none⟩ = some (.int .i64 1)
  t2 : w.cell? ⟨b2, o2 + 1, none⟩ = some (.int .i64 4)
theorem SqAt.below {w w' : World} {n bA offA b0 o0 c0 b1 o1 c1 b2 o2 c2 : Nat} (h : SqAt w bA offA b0 o0 c0 b1 o1 c1 b2 o2 c2) (hb : Below n w w') (hn : bA < n ∧ b0 < n ∧ b1 < n ∧ b2 < n) : SqAt w' bA offA b0 o0 c0 b1 o1 c1 b2 o2 c2 :=
  ⟨Nat.lt_of_lt_of_le h.lA hb.size, Nat.lt_of_lt_of_le h.l0 hb.size, Nat.lt_of_lt_of_le h.l1 hb.size, Nat.lt_of_lt_of_le h.l2 hb.size,
   (hb.cell (p := ⟨bA, _, none⟩) hn.1).trans h.y0, (hb.cell (p := ⟨bA, _, none⟩) hn.1).trans h.s0, (hb.cell (p := ⟨bA, _, none⟩) hn.1).trans h.y1, (hb.cell (p := ⟨bA, _, none⟩) hn.1).trans h.s1, (hb.cell (p := ⟨bA, _, none⟩) hn.1).trans h.y2, (hb.cell (p := ⟨bA, _, none⟩) hn.1).trans h.s2,
   (hb.cell (p := ⟨b0, _, none⟩) hn.2.1).trans h.f0, (hb.cell (p := ⟨b0, _, none⟩) hn.2.1).trans h.t0, (hb.cell (p := ⟨b1, _, none⟩) hn.2.2.1).trans h.f1, (hb.cell (p := ⟨b1, _, none⟩) hn.2.2.1).trans h.t1, (hb.cell (p := ⟨b2, _, none⟩) hn.2.2.2).trans h.f2, (hb.cell (p := ⟨b2, _, none⟩) hn.2.2.2).trans h.t2⟩
theorem run_at {w : World} {S : Option Addr} {c : Nat} {r : Run} (h : Rd 2 encRun w (.slice S 1 c) [r]) : ∃ b o, S = some ⟨b, o, none⟩ ∧ b < w.heap.size ∧ w.cell? ⟨b, o, none⟩ = some (.int .i64 r.1) ∧ w.cell? ⟨b, o + 1, none⟩ = some (.int .i64 r.2) := by
  obtain ⟨b, o, e, hb, hc⟩ := h.op 0 r rfl
  exact ⟨b, o, e, hb, by simpa using hc 0 r rfl 0 _ rfl, by simpa using hc 0 r rfl 1 _ rfl⟩
theorem sq_at {w : World} {s : Value} (h : RdRows w s Wal.sq1) : ∃ bA offA capA b0 o0 c0 b1 o1 c1 b2 o2 c2, s = .slice (some ⟨bA, offA, none⟩) 3 capA ∧ SqAt w bA offA b0 o0 c0 b1 o1 c1 b2 o2 c2 := by
  obtain ⟨A, capA, rfl, hcapA, hop⟩ := rows_open h
  obtain ⟨bA, offA, rfl, hbA, hcA⟩ := hop 0 _ rfl
  obtain ⟨S0, c0, r0_0, r0_1, hc0, hr0⟩ := hcA 0 _ rfl
  obtain ⟨S1, c1, r1_0, r1_1, hc1, hr1⟩ := hcA 1 _ rfl
  obtain ⟨S2, c2, r2_0, r2_1, hc2, hr2⟩ := hcA 2 _ rfl
  obtain ⟨b0, o0, rfl, l0, f0, t0⟩ := run_at hr0
  obtain ⟨b1, o1, rfl, l1, f1, t1⟩ := run_at hr1
  obtain ⟨b2, o2, rfl, l2, f2, t2⟩ := run_at hr2
  exact ⟨bA, offA, capA, b0, o0, c0, b1, o1, c1, b2, o2, c2, rfl, hbA, l0, l1, l2, by simpa using r0_0, by simpa using r0_1, by simpa using r1_0, by simpa using r1_1, by simpa using r2_0, by simpa using r2_1, f0, t0, f1, t1, f2, t2⟩
section
variable {W W' : World} {row : Option Nat}
theorem nc_blk {g : Nat} {t : TypeId} {cs : Array Value} (h : Blk W g t cs) (hg : W.grownBy W' row) (hr : ∀ r, row = some r → ∃ o : Obj, W.heap[r]? = some o ∧ o.isCells = false) : Blk W' g t cs :=
  h.grown hg fun e => by
    obtain ⟨o, ho, hc⟩ := hr g e.symm
    rw [h] at ho
    injection ho with ho
    rw [← ho] at hc; cases hc
theorem nc_own {base size n : Nat} {e : TypeId} {v : Value} {xs : List Value} (h : W.ownsRow base e size v n xs) (hg : W.grownBy W' row) (hr : ∀ r, row = some r → ∃ o : Obj, W.heap[r]? = some o ∧ o.isCells = false) : W'.ownsRow base e size v n xs := by
  refine h.kept hg ?_
  rcases h.2 with ⟨rfl, _⟩ | ⟨g, cap, cur, rfl, _, hh, _⟩
  · exact .inl rfl
  · right
    intro e'
    have e' : some g = row := e'
    obtain ⟨o, ho, hc⟩ := hr g e'.symm
    rw [hh] at ho
    injection ho with ho
    rw [← ho] at hc; cases hc
theorem PthN.nc {base gp : Nat} {E : List Cl} (h : PthN base W gp E) (hg : W.grownBy W' row) (hr : ∀ r, row = some r → ∃ o : Obj, W.heap[r]? = some o ∧ o.isCells = false) : PthN base W' gp E := by
  obtain ⟨g, cap, h0, h1, h2⟩ := h
  exact ⟨g, cap, h0, nc_blk h1 hg hr, nc_own h2.own hg hr, ⟨rfl, fun i h x hh => by simp at hh⟩, fun i h x hh => by simp at hh, h2.tg, nc_own h2.inner hg hr, h2.low, Nat.le_trans h2.top hg.size⟩
theorem KeptP.nc {X : World} (h : KeptP X W) (hg : W.grownBy W' row) (hr : ∀ r, row = some r → X.heap.size ≤ r ∧ ∃ o : Obj, W.heap[r]? = some o ∧ o.isCells = false) : KeptP X W' :=
  ⟨fun g t cs hb h1 h2 h3 => nc_blk (h.blk g t cs hb h1 h2 h3) hg fun r e => (hr r e).2, ⟨Nat.le_trans h.oth.size hg.size, fun k o hk ho => by
    have h1 := h.oth.same k o hk ho
    refine (hg.block k (Array.getElem?_eq_some_iff.1 h1).1 ?_).trans h1
    intro e
    have := (hr k e.symm).1
    have := (Array.getElem?_eq_some_iff.1 hk).1
    omega⟩⟩
end
/-- between two rounds: the path, and what has been kept since X -/
structure ZgW (base : Nat) (X : World) (pth : World → Prop) (W : World) : Prop where
  pth : pth W
  kept : KeptP X W
  bel : Below base X W
theorem ZgW.own {base : Nat} {X : World} {pth : World → Prop} (hp : ∀ W W' row, pth W → W.grownBy W' row → (∀ r, row = some r → ∃ o : Obj, W.heap[r]? = some o ∧ o.isCells = false) → pth W') (hb : base ≤ X.heap.size) : OwnFrom X.heap.size (fun (_ : Unit) W => ZgW base X pth W) :=
  fun _ W W' row h hg hr => ⟨hp W W' row h.pth hg (fun r e => (hr r e).2), h.kept.nc hg hr, h.bel.grown hg (Nat.le_trans hb h.kept.oth.size) fun k e => Nat.le_trans hb (hr k e).1⟩
theorem ZgW.below {base : Nat} {X : World} {pth : World → Prop} (hp : ∀ W W', pth W → Below W.heap.size W W' → pth W') (hb : base ≤ X.heap.size) (W W' : World) (h : ZgW base X pth W) (h' : Below W.heap.size W W') : ZgW base X pth W' :=
  ⟨hp W W' h.pth h', h.kept.trans (KeptP.below h'), h.bel.trans (h'.mono (Nat.le_trans hb h.kept.oth.size))⟩
theorem ZgW.start {base : Nat} {X : World} {pth : World → Prop} (h : pth X) : ZgW base X pth X := ⟨h, KeptP.refl _, Below.refl _ _⟩
theorem line_form {base n : Nat} {W : World} {v : Value} {y a : Int} (h : OwnC base W v (lineL y a n)) (hn : 0 < n) : ∃ g c, v = .slice (some ⟨g, 0, none⟩) n c ∧ W.ownsRow base 47 2 (.slice (some ⟨g, 0, none⟩) n c) n ((lineL y a n).flatMap encPt) := by
  unfold OwnC at h
  rw [lineL_len] at h
  obtain ⟨g, c, rfl, _, _⟩ := h.form hn
  exact ⟨g, c, rfl, h⟩
set_option maxHeartbeats 16000000 in
theorem zig_any (s : Value) (w : World) (h : RdRows w s Wal.sq1) :
    Calls Tryz.prog 32 #[.agg #[s]] w fun e w' => (∃ A c E, e = .returned (.slice A 1 c) ∧ RdTrs w' (.slice A 1 c) [((3, false), E)] ∧ E.length = 9) ∧ Below w.heap.size w w' := by
  obtain ⟨bA, offA, capA, b0, o0, c0, b1, o1, c1, b2, o2, c2, rfl, hsq⟩ := sq_at h
  have HR := Lib.hid h
  have HSQ := Lib.hid hsq
  have HLT := Lib.hid (show bA < w.heap.size ∧ b0 < w.heap.size ∧ b1 < w.heap.size ∧ b2 < w.heap.size from ⟨hsq.lA, hsq.l0, hsq.l1, hsq.l2⟩)
  have HVV := Lib.hid (rvalid_iff.2 Wal.sq1_v)
  have HBD := Lib.hid (vreg_bd Wal.sq1_v)
  clear h hsq
  refine (callsIn_wide (n := 8)).1 ?_
  refine callsIn_of_wp_marks Tryz.func32 rfl trivial ?_ rfl
  refine wpIn_wide.2 ?_
  simp only [Tryz.ntmps32, List.size_toArray, List.length_cons, List.length_nil, Nat.reduceAdd, Nat.reduceSub, Array.replicate_succ, Array.replicate_zero, List.push_toArray, List.append_toArray, List.nil_append, List.cons_append]
  go_wp2_with fail
  obtain ⟨W1, hW1⟩ : ∃ W1, w.alloc (.cells #[.slice (some ⟨bA, offA, none⟩) 3 capA] 24) = W1 := ⟨_, rfl⟩
  obtain ⟨gA, hgA⟩ : ∃ gA, w.heap.size = gA := ⟨_, rfl⟩
  have hb1 : Below w.heap.size w W1 := hW1 ▸ (Below.refl _ _).alloc (Nat.le_refl _) _
  have B1 : Blk W1 gA 24 #[.slice (some ⟨bA, offA, none⟩) 3 capA] := by rw [← hW1, ← hgA]; exact Blk.new _ _ _
  have hrd1 : RdReg W1 (.agg #[.slice (some ⟨bA, offA, none⟩) 3 capA]) Wal.sq1 := ⟨_, rfl, RdN.below HR.out hb1⟩
  have HGA := Lib.hid hgA
  have HRD := Lib.hid hrd1
  have HB1 := Lib.hid hb1
  have HBL := Lib.hid B1
  rw [hW1, hgA]
  clear hW1 hgA hb1 B1 hrd1 HR
  (go_at_call 27; (with_reducible refine (Kin.callK (W := W1) gRw (rvalid_is _ Wal.sq1 _ HRD.out HBD.out HVV.out)).mono ?_); rintro e w' ⟨z2, rfl, hz2, rfl⟩; skip)
  obtain ⟨W2, hW2⟩ : ∃ W2, z2.1 = W2 := ⟨_, rfl⟩
  have hb2 := z2.2
  rw [hW2] at hb2 ⊢
  have B2 := HBL.out.below hb2
  have rA := B2.cell 0
  have rAl := B2.lt
  have HB2 := Lib.hid (HB1.out.trans (hb2.mono HB1.out.size))
  clear hz2 hW2 hb2 B2 HRD HB1 HBL HBD HVV
  go_wp2_with fail
  obtain ⟨X0, hX0⟩ : ∃ X0, W2.alloc (.cells #[.slice none 0 0] 110) = X0 := ⟨_, rfl⟩
  obtain ⟨gp, hgp⟩ : ∃ gp, W2.heap.size = gp := ⟨_, rfl⟩
  have P0 : Blk X0 gp 110 #[.slice none 0 0] := by rw [← hX0, ← hgp]; exact Blk.new _ _ _
  have hb0 : Below w.heap.size w X0 := by rw [← hX0]; exact HB2.out.alloc HB2.out.size _
  have hgb : w.heap.size ≤ gp := by rw [← hgp]; exact HB2.out.size
  have HP0 := Lib.hid P0
  have HB0 := Lib.hid hb0
  rw [hX0, hgp]
  clear hX0 hgp P0 hb0 rA rAl HB2
  refine wp_loop_rounds 4 ?_
  rw [rounds_succ]
  have q0 := HSQ.out.below HB0.out HLT.out
  have HQ00 := Lib.hid q0
  have y_0 := q0.y0
  have s_0 := q0.s0
  have lA0 := q0.lA
  clear q0
  go_wp2_with fail
  obtain ⟨X01, hX01⟩ : ∃ X1, X0.alloc (.cells #[.int .i64 1, .slice (some ⟨b0, o0, none⟩) 1 c0] 44) = X1 := ⟨_, rfl⟩
  obtain ⟨gr0, hgr0⟩ : ∃ gr, X0.heap.size = gr := ⟨_, rfl⟩
  have R01 : Blk X01 gr0 44 #[.int .i64 1, .slice (some ⟨b0, o0, none⟩) 1 c0] := by rw [← hX01, ← hgr0]; exact Blk.new _ _ _
  have hb01 : Below X0.heap.size X0 X01 := by rw [← hX01]; exact gRw
  have HR01 := Lib.hid R01
  have HB01 := Lib.hid hb01
  rw [hX01, hgr0]
  clear hX01 hgr0 R01 hb01 y_0 s_0 lA0
  (go_at_call 62; (with_reducible refine (Kin.callK (W := X01) gRw (rest_is (.inl ⟨rfl, rfl⟩) _)).mono ?_); rintro e w' ⟨z03, rfl, hz03, rfl⟩; skip)
  obtain ⟨X02, hX02⟩ : ∃ X2, z03.1 = X2 := ⟨_, rfl⟩
  have hb02 := z03.2
  rw [hX02] at hb02 ⊢
  have R02 := HR01.out.below hb02
  have r0_0 : X02.cell? ⟨gr0, 0, none⟩ = some (.int .i64 1) := R02.cell 0
  have r0_1 : X02.cell? ⟨gr0, 1, none⟩ = some (.slice (some ⟨b0, o0, none⟩) 1 c0) := R02.cell 1
  have r0_l := R02.lt
  have HR02 := Lib.hid R02
  have HB02 := Lib.hid (HB01.out.trans (hb02.mono HB01.out.size))
  clear hz03 hX02 hb02 R02 HR01 HB01
  go_wp2_with fail
  (go_at_call 65; (refine (backward_any _ _ _ _).mono ?_); rintro e w' ⟨rfl, rfl⟩)
  obtain ⟨X03, hX03⟩ : ∃ X3, X02.alloc (.cells #[.slice (some ⟨b0, o0, none⟩) 1 c0] 42) = X3 := ⟨_, rfl⟩
  obtain ⟨gb0, hgb0⟩ : ∃ gb, X02.heap.size = gb := ⟨_, rfl⟩
  have hb03 : Below X02.heap.size X02 X03 := by rw [← hX03]; exact gRw
  have V03 : Blk X03 gb0 42 #[.slice (some ⟨b0, o0, none⟩) 1 c0] := by rw [← hX03, ← hgb0]; exact Blk.new _ _ _
  have hb003 : Below X0.heap.size X0 X03 := HB02.out.trans (hb03.mono HB02.out.size)
  have R03 := HR02.out.below hb03
  have P03 := HP0.out.below hb003
  have Q03 := HQ00.out.below hb003 ⟨HQ00.out.lA, HQ00.out.l0, HQ00.out.l1, HQ00.out.l2⟩
  have hbw03 := HB0.out.trans (hb003.mono HB0.out.size)
  have HV03 := Lib.hid V03
  have HR03 := Lib.hid R03
  have HP03 := Lib.hid P03
  have HQ03 := Lib.hid Q03
  have HB03 := Lib.hid hbw03
  rw [hX03, hgb0]
  clear hX03 hgb0 hb03 V03 hb003 R03 P03 Q03 hbw03 HR02 HB02 r0_0 r0_1 r0_l
  go_wp2_with fail
  have hX0s := HB03.out.size
  refine wp_range_once (n := 8) (by omega) (gf := 107) (lb := #[.pointer (some ⟨gb0, 0, none⟩)]) rfl (enters_of Tryz.func107 (by kernel_rfl) rfl) rfl (back_stops 7 (by omega) gb0 b0 o0 c0 1 4 X03 (HV03.out.cell 0) HQ03.out.f0 HQ03.out.t0 HV03.out.lt HQ03.out.l0)
    (ZgW w.heap.size X03 (fun W => Blk W gp 110 #[.slice none 0 0])) (ZgW w.heap.size X03 (fun W => PthN w.heap.size W gp (lineL 1 1 3).reverse))
    (ZgW.own (fun _ _ _ h hg hr => nc_blk h hg hr) hX0s) (ZgW.own (fun _ _ _ h hg hr => h.nc hg hr) hX0s) (ZgW.start HP03.out) 9 69 #[.int .i64 1, .int .i64 4]
    (ZgW.below (fun _ _ h hb => h.below hb) hX0s) (ZgW.below (fun _ _ h hb => h.below hb) hX0s) ?assign ?body ?done
  case assign =>
    intro l W K hK
    gi_wp2
    have h := hK W.heap.size _ gRw (Blk.new _ _ _)
    simpa using h
  case body =>
    intro l Bx W hz hB
    have R4 := hz.kept.blk _ _ _ HR03.out (by decide) (by decide) (by decide)
    have r_0 : W.cell? ⟨gr0, 0, none⟩ = some (.int .i64 1) := R4.cell 0
    have r_l := R4.lt
    have x_0 : W.cell? ⟨Bx, 0, none⟩ = some (.int .i64 1) := hB.cell 0
    have x_1 : W.cell? ⟨Bx, 1, none⟩ = some (.int .i64 4) := hB.cell 1
    have x_l := hB.lt
    have HZ := Lib.hid hz
    have hbase : w.heap.size ≤ W.heap.size := Nat.le_trans hX0s hz.kept.oth.size
    clear hz hB R4
    gi_wp2_with fail
    refine ⟨trivial, ?_⟩
    refine (CallsIn.inRound l (callsIn_wide.2 (line_any 1 1 4 3 W (by omega) (by omega) (by omega)))).mono ?_
    rintro e W5 ⟨⟨v5, rfl, ho5⟩, hb5⟩
    obtain ⟨g5, c5, rfl, ho5'⟩ := line_form ho5 (by omega)
    have ho6 := own_base ho5' hbase
    have HF5 := Lib.hid ho5'
    have HO6 := Lib.hid ho6
    have HB5 := Lib.hid hb5
    have hs5 := hb5.size
    clear ho5 ho5' ho6 hb5 r_0 r_l x_0 x_1 x_l
    gi_wp2_with fail
    refine ⟨trivial, ?_⟩
    refine (CallsIn.inRound l (callsIn_wide.2 (reverse_cells w.heap.size W5 _ (lineL 1 1 3) (by decide) HO6.out (by rw [lineL_len]; omega) (by omega)))).mono ?_
    rintro e W6 ⟨rfl, ho6, hbb6, hg6⟩
    have ho6' : W6.ownsRow w.heap.size 47 2 (.slice (some ⟨g5, 0, none⟩) 3 c5) 3 ((lineL 1 1 3).reverse.flatMap encPt) := by
      rw [List.length_reverse, lineL_len] at ho6; exact ho6
    have HO7 := Lib.hid ho6'
    have HK6 := Lib.hid ((KeptP.below HB5.out).trans (KeptP.row HO6.out (.inr rfl) hg6))
    have HB6 := Lib.hid ((HB5.out.mono hbase).trans hbb6)
    have hs6 := hg6.size
    have P6 := HZ.out.pth.below (HB5.out.grown hg6 hs5 (fun k e => (HF5.out.lt k e).1))
    have HP6 := Lib.hid P6
    clear ho6 ho6' hbb6 hg6 P6
    gi_wp2_with fail
    refine ⟨trivial, ?_⟩
    refine (CallsIn.inRound l (callsIn_wide.2 (runF_any w.heap.size gp _ 3 c5 _ W6 HP6.out HO7.out (by omega) hgb))).mono ?_
    rintro e W7 ⟨rfl, hp7, hk7, hb7⟩
    have HZ7 := Lib.hid (show KeepsFrom X03.heap.size W W7 ∧ ZgW w.heap.size X03 (fun W => PthN w.heap.size W gp (lineL 1 1 3).reverse) W7 from ⟨(HK6.out.trans hk7).oth.from _, hp7, HZ.out.kept.trans (HK6.out.trans hk7), HZ.out.bel.trans (HB6.out.trans hb7)⟩)
    clear hp7 hk7 hb7
    gi_wp2_with fail
    exact HZ7.out
  case done =>
    intro D0 V0 hD0 hz0 hK0
    have HP04 := Lib.hid hz0.pth
    have HB04 := Lib.hid (HB03.out.trans hz0.bel)
    have HD0 := Lib.hid hK0
    clear hz0 hK0
    go_wp2_with fail
    rw [rounds_succ]
    have q1 := HSQ.out.below HB04.out HLT.out
    have HQ10 := Lib.hid q1
    have y_1 := q1.y1
    have s_1 := q1.s1
    have lA1 := q1.lA
    clear q1
    go_wp2_with fail
    obtain ⟨X11, hX11⟩ : ∃ X1, V0.alloc (.cells #[.int .i64 2, .slice (some ⟨b1, o1, none⟩) 1 c1] 44) = X1 := ⟨_, rfl⟩
    obtain ⟨gr1, hgr1⟩ : ∃ gr, V0.heap.size = gr := ⟨_, rfl⟩
    have R11 : Blk X11 gr1 44 #[.int .i64 2, .slice (some ⟨b1, o1, none⟩) 1 c1] := by rw [← hX11, ← hgr1]; exact Blk.new _ _ _
    have hb11 : Below V0.heap.size V0 X11 := by rw [← hX11]; exact gRw
    have HR11 := Lib.hid R11
    have HB11 := Lib.hid hb11
    rw [hX11, hgr1]
    clear hX11 hgr1 R11 hb11 y_1 s_1 lA1
    (go_at_call 62; (with_reducible refine (Kin.callK (W := X11) gRw (rest_is (.inr (.inl ⟨rfl, rfl⟩)) _)).mono ?_); rintro e w' ⟨z13, rfl, hz13, rfl⟩; skip)
    obtain ⟨X12, hX12⟩ : ∃ X2, z13.1 = X2 := ⟨_, rfl⟩
    have hb12 := z13.2
    rw [hX12] at hb12 ⊢
    have R12 := HR11.out.below hb12
    have r1_0 : X12.cell? ⟨gr1, 0, none⟩ = some (.int .i64 2) := R12.cell 0
    have r1_1 : X12.cell? ⟨gr1, 1, none⟩ = some (.slice (some ⟨b1, o1, none⟩) 1 c1) := R12.cell 1
    have r1_l := R12.lt
    have HR12 := Lib.hid R12
    have HB12 := Lib.hid (HB11.out.trans (hb12.mono HB11.out.size))
    clear hz13 hX12 hb12 R12 HR11 HB11
    have f_0 := HQ10.out.f1
    have f_1 := HQ10.out.t1
    have f_l := HQ10.out.l1
    replace f_0 : X12.cell? ⟨b1, o1, none⟩ = some (.int .i64 1) := (HB12.out.cell (p := ⟨b1, o1, none⟩) f_l).trans f_0
    replace f_1 : X12.cell? ⟨b1, o1 + 1, none⟩ = some (.int .i64 4) := (HB12.out.cell (p := ⟨b1, o1 + 1, none⟩) f_l).trans f_1
    replace f_l : b1 < X12.heap.size := Nat.lt_of_lt_of_le f_l HB12.out.size
    go_wp2_with fail
    refine wp_loop_rounds 2 ?_
    rw [rounds_succ]
    go_wp2_with fail
    obtain ⟨X13, hX13⟩ : ∃ X3, X12.alloc (.cells #[.int .i64 1, .int .i64 4] 69) = X3 := ⟨_, rfl⟩
    have hb13 : Below X12.heap.size X12 X13 := by rw [← hX13]; exact gRw
    have HB13 := Lib.hid (HB12.out.trans (hb13.mono HB12.out.size))
    rw [hX13]
    clear hX13 hb13 r1_0 r1_1 r1_l f_0 f_1 f_l
    (go_at_call 64; (with_reducible refine (Kin.callK (W := X13) gRw (line_any 2 1 4 3 _ (by omega) (by omega) (by omega))).mono ?_); rintro e w' ⟨z15, ⟨v5, rfl, ho5⟩, hz15, rfl⟩; skip)
    obtain ⟨X15, hX15⟩ : ∃ X5, z15.1 = X5 := ⟨_, rfl⟩
    have hb15 := z15.2
    rw [hX15] at ho5 hb15 ⊢
    obtain ⟨g5, c5, rfl, ho5'⟩ := line_form ho5 (by omega)
    have hb105 := HB13.out.trans (hb15.mono HB13.out.size)
    have HP15 := Lib.hid (HP04.out.below hb105)
    have HB15 := Lib.hid (HB04.out.trans (hb105.mono HB04.out.size))
    have hd15 := (KeptP.below hb105).oth.same _ _ HD0.out rfl
    have HD15 := Lib.hid hd15
    have HL15 := Lib.hid (Rd.own' encPt_len (by decide) ho5')
    have hbs := HB15.out.size
    clear hX15 hz15 hb15 hb105 hd15 ho5 ho5'
    go_wp2_with fail
    (go_at_call 63; (refine (runM_any w.heap.size gp _ 3 c5 _ _ (1, 1) (1, 2) X15 HP15.out HL15.out (by decide) (by decide) (by decide) (by decide) (by decide) (by decide) hbs hgb).mono ?_); rintro e V1 ⟨rfl, hp7, hk7, hb7⟩)
    have HP14 := Lib.hid hp7
    have HB14 := Lib.hid (HB15.out.trans hb7)
    have hd17 := hk7.oth.same _ _ HD15.out rfl
    have HD0 := Lib.hid hd17
    clear hp7 hk7 hb7 hd17
    go_wp2_with fail
    rw [rounds_succ]
    go_wp2_with fail
    rw [rounds_succ]
    have q2 := HSQ.out.below HB14.out HLT.out
    have HQ20 := Lib.hid q2
    have y_2 := q2.y2
    have s_2 := q2.s2
    have lA2 := q2.lA
    clear q2
    go_wp2_with fail
    obtain ⟨X21, hX21⟩ : ∃ X1, V1.alloc (.cells #[.int .i64 3, .slice (some ⟨b2, o2, none⟩) 1 c2] 44) = X1 := ⟨_, rfl⟩
    obtain ⟨gr2, hgr2⟩ : ∃ gr, V1.heap.size = gr := ⟨_, rfl⟩
    have R21 : Blk X21 gr2 44 #[.int .i64 3, .slice (some ⟨b2, o2, none⟩) 1 c2] := by rw [← hX21, ← hgr2]; exact Blk.new _ _ _
    have hb21 : Below V1.heap.size V1 X21 := by rw [← hX21]; exact gRw
    have HR21 := Lib.hid R21
    have HB21 := Lib.hid hb21
    rw [hX21, hgr2]
    clear hX21 hgr2 R21 hb21 y_2 s_2 lA2
    (go_at_call 62; (with_reducible refine (Kin.callK (W := X21) gRw (rest_is (.inr (.inr ⟨rfl, rfl⟩)) _)).mono ?_); rintro e w' ⟨z23, rfl, hz23, rfl⟩; skip)
    obtain ⟨X22, hX22⟩ : ∃ X2, z23.1 = X2 := ⟨_, rfl⟩
    have hb22 := z23.2
    rw [hX22] at hb22 ⊢
    have R22 := HR21.out.below hb22
    have r2_0 : X22.cell? ⟨gr2, 0, none⟩ = some (.int .i64 3) := R22.cell 0
    have r2_1 : X22.cell? ⟨gr2, 1, none⟩ = some (.slice (some ⟨b2, o2, none⟩) 1 c2) := R22.cell 1
    have r2_l := R22.lt
    have HR22 := Lib.hid R22
    have HB22 := Lib.hid (HB21.out.trans (hb22.mono HB21.out.size))
    clear hz23 hX22 hb22 R22 HR21 HB21
    go_wp2_with fail
    (go_at_call 65; (refine (backward_any _ _ _ _).mono ?_); rintro e w' ⟨rfl, rfl⟩)
    obtain ⟨X23, hX23⟩ : ∃ X3, X22.alloc (.cells #[.slice (some ⟨b2, o2, none⟩) 1 c2] 42) = X3 := ⟨_, rfl⟩
    obtain ⟨gb2, hgb2⟩ : ∃ gb, X22.heap.size = gb := ⟨_, rfl⟩
    have hb23 : Below X22.heap.size X22 X23 := by rw [← hX23]; exact gRw
    have V23 : Blk X23 gb2 42 #[.slice (some ⟨b2, o2, none⟩) 1 c2] := by rw [← hX23, ← hgb2]; exact Blk.new _ _ _
    have hb203 : Below V1.heap.size V1 X23 := HB22.out.trans (hb23.mono HB22.out.size)
    have R23 := HR22.out.below hb23
    have P23 := HP14.out.below hb203
    have Q23 := HQ20.out.below hb203 ⟨HQ20.out.lA, HQ20.out.l0, HQ20.out.l1, HQ20.out.l2⟩
    have hbw23 := HB14.out.trans (hb203.mono HB14.out.size)
    have hd23 := (KeptP.below hb203).oth.same _ _ HD0.out rfl
    have HD23 := Lib.hid hd23
    clear hd23
    have HV23 := Lib.hid V23
    have HR23 := Lib.hid R23
    have HP23 := Lib.hid P23
    have HQ23 := Lib.hid Q23
    have HB23 := Lib.hid hbw23
    rw [hX23, hgb2]
    clear hX23 hgb2 hb23 V23 hb203 R23 P23 Q23 hbw23 HR22 HB22 r2_0 r2_1 r2_l
    go_wp2_with fail
    have hX2s := HB23.out.size
    refine wp_range_once (n := 8) (by omega) (gf := 107) (lb := #[.pointer (some ⟨gb2, 0, none⟩)]) rfl (enters_of Tryz.func107 (by kernel_rfl) rfl) rfl (back_stops 7 (by omega) gb2 b2 o2 c2 1 4 X23 (HV23.out.cell 0) HQ23.out.f2 HQ23.out.t2 HV23.out.lt HQ23.out.l2)
      (ZgW w.heap.size X23 (fun W => PthN w.heap.size W gp ((lineL 1 1 3).reverse ++ lineL 2 1 3))) (ZgW w.heap.size X23 (fun W => PthN w.heap.size W gp (((lineL 1 1 3).reverse ++ lineL 2 1 3) ++ (lineL 3 1 3).reverse)))
      (ZgW.own (fun _ _ _ h hg hr => h.nc hg hr) hX2s) (ZgW.own (fun _ _ _ h hg hr => h.nc hg hr) hX2s) (ZgW.start HP23.out) 9 69 #[.int .i64 1, .int .i64 4]
      (ZgW.below (fun _ _ h hb => h.below hb) hX2s) (ZgW.below (fun _ _ h hb => h.below hb) hX2s) ?assign ?body ?done
    case assign =>
      intro l W K hK
      gi_wp2
      have h := hK W.heap.size _ gRw (Blk.new _ _ _)
      simpa using h
    case body =>
      intro l Bx W hz hB
      have R4 := hz.kept.blk _ _ _ HR23.out (by decide) (by decide) (by decide)
      have r_0 : W.cell? ⟨gr2, 0, none⟩ = some (.int .i64 3) := R4.cell 0
      have r_l := R4.lt
      have x_0 : W.cell? ⟨Bx, 0, none⟩ = some (.int .i64 1) := hB.cell 0
      have x_1 : W.cell? ⟨Bx, 1, none⟩ = some (.int .i64 4) := hB.cell 1
      have x_l := hB.lt
      have HZ := Lib.hid hz
      have hbase : w.heap.size ≤ W.heap.size := Nat.le_trans hX2s hz.kept.oth.size
      clear hz hB R4
      gi_wp2_with fail
      refine ⟨trivial, ?_⟩
      refine (CallsIn.inRound l (callsIn_wide.2 (line_any 3 1 4 3 W (by omega) (by omega) (by omega)))).mono ?_
      rintro e W5 ⟨⟨v5, rfl, ho5⟩, hb5⟩
      obtain ⟨g5, c5, rfl, ho5'⟩ := line_form ho5 (by omega)
      have ho6 := own_base ho5' hbase
      have HF5 := Lib.hid ho5'
      have HO6 := Lib.hid ho6
      have HB5 := Lib.hid hb5
      have hs5 := hb5.size
      clear ho5 ho5' ho6 hb5 r_0 r_l x_0 x_1 x_l
      gi_wp2_with fail
      refine ⟨trivial, ?_⟩
      refine (CallsIn.inRound l (callsIn_wide.2 (reverse_cells w.heap.size W5 _ (lineL 3 1 3) (by decide) HO6.out (by rw [lineL_len]; omega) (by omega)))).mono ?_
      rintro e W6 ⟨rfl, ho6, hbb6, hg6⟩
      have ho6' : W6.ownsRow w.heap.size 47 2 (.slice (some ⟨g5, 0, none⟩) 3 c5) 3 ((lineL 3 1 3).reverse.flatMap encPt) := by
        rw [List.length_reverse, lineL_len] at ho6; exact ho6
      have HO7 := Lib.hid ho6'
      have HK6 := Lib.hid ((KeptP.below HB5.out).trans (KeptP.row HO6.out (.inr rfl) hg6))
      have HB6 := Lib.hid ((HB5.out.mono hbase).trans hbb6)
      have hs6 := hg6.size
      have P6 := HZ.out.pth.below (HB5.out.grown hg6 hs5 (fun k e => (HF5.out.lt k e).1))
      have HP6 := Lib.hid P6
      clear ho6 ho6' hbb6 hg6 P6
      gi_wp2_with fail
      refine ⟨trivial, ?_⟩
      refine (CallsIn.inRound l (callsIn_wide.2 (runM_any w.heap.size gp _ 3 c5 _ _ (3, 2) (3, 3) W6 HP6.out (Rd.own' encPt_len (by decide) HO7.out) (by decide) (by decide) (by decide) (by decide) (by decide) (by decide) (by omega) hgb))).mono ?_
      rintro e W7 ⟨rfl, hp7, hk7, hb7⟩
      have HZ7 := Lib.hid (show KeepsFrom X23.heap.size W W7 ∧ ZgW w.heap.size X23 (fun W => PthN w.heap.size W gp (((lineL 1 1 3).reverse ++ lineL 2 1 3) ++ (lineL 3 1 3).reverse)) W7 from ⟨(HK6.out.trans hk7).oth.from _, hp7, HZ.out.kept.trans (HK6.out.trans hk7), HZ.out.bel.trans (HB6.out.trans hb7)⟩)
      clear hp7 hk7 hb7
      gi_wp2_with fail
      exact HZ7.out
    case done =>
      intro D2 V2 hD2 hz2 hK2
      have HP24 := Lib.hid hz2.pth
      have HB24 := Lib.hid (HB23.out.trans hz2.bel)
      have HD9 := Lib.hid hK2
      have hd := hz2.kept.oth.same _ _ HD23.out rfl
      have HD8 := Lib.hid hd
      have hDD : D0 ≠ D2 := by
        have := (Array.getElem?_eq_some_iff.1 HD23.out).1
        omega
      clear hd
      clear hz2 hK2
      go_wp2_with fail
      rw [rounds_succ]
      obtain ⟨g9, cap9, h9, B9, O9⟩ := HP24.out
      have c9 : V2.cell? ⟨gp, 0, none⟩ = some (.slice (some ⟨g9, 0, none⟩) 1 cap9) := B9.cell 0
      have c9l := B9.lt
      have HO9 := Lib.hid O9
      have HBB9 := Lib.hid B9
      clear B9 O9
      go_wp2_with fail
      have G1 := grownBy_putObj' V2 D2 (.deferred none)
      have N1 : ∀ r, some D2 = some r → ∃ o : Obj, V2.heap[r]? = some o ∧ o.isCells = false := fun r e => by injection e with e; subst e; exact ⟨_, HD9.out, rfl⟩
      have K1 : (V2.putObj D2 (.deferred none)).heap[D0]? = some (.deferred (some [])) := (World.putObj_heap_other hDD).trans HD8.out
      have G2 := grownBy_putObj' (V2.putObj D2 (.deferred none)) D0 (.deferred none)
      have N2 : ∀ r, some D0 = some r → ∃ o : Obj, (V2.putObj D2 (.deferred none)).heap[r]? = some o ∧ o.isCells = false := fun r e => by injection e with e; subst e; exact ⟨_, K1, rfl⟩
      have P9 : PthN w.heap.size V2 gp _ := ⟨g9, cap9, h9, HBB9.out, HO9.out⟩
      obtain ⟨ga, ca, ha, Ba, Oa⟩ := (P9.nc G1 N1).nc G2 N2
      have hv := nc_blk (nc_blk HBB9.out G1 N1) G2 N2
      have hve := hv.symm.trans Ba
      injection hve with hve
      injection hve with hve _
      injection hve with hve
      injection hve with hve _
      injection hve with hga _ hca
      injection hga with hga
      injection hga with hga _ _
      subst hga hca
      refine ⟨by simp, .inl ⟨_, _, rfl, run_takeDeferred HD9.out, ⟨by simp, .inl ⟨_, _, rfl, run_takeDeferred K1, ?_⟩⟩⟩⟩
      refine ⟨_, results_tmp rfl _ _ _, ⟨⟨_, _, _, rfl, OwnN.rd encTr_len (OwnL.close encPt_len (by decide) Oa), by simp [lineL_len]⟩, ?_⟩⟩
      have hs := HB24.out.size
      exact (HB24.out.grown G1 hs (fun k e => by injection e with e; subst e; have := HB23.out.size; omega)).grown G2 (Nat.le_trans hs G1.size) (fun k e => by injection e with e; subst e; have := HB03.out.size; omega)
end Go.Proofs.YtneelidbgigehaaGreat
