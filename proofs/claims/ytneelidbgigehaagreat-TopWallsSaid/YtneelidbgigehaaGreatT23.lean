/- Lemmas: WlkF. -/
import Derived.Test.YtneelidbgigehaaGreatT21
import Derived.Test.YtneelidbgigehaaGreatT22
import Derived.Test.YtneelidbgigehaaGreatT11
/- The small functions of the walk along a loop: walked. -/
/- The small functions of the walk along a loop: walked. -/
namespace Go.Proofs.YtneelidbgigehaaGreat
set_option linter.unusedSimpArgs false
set_option linter.unusedVariables false
set_option maxRecDepth 100000
open Go Go.Maps Go.RowKit Trc
open Trk (Cl Tr)
attribute [local go_sem] Kin.cell Kin.frozen Kin.lt0 Kin.lt1 Kin.lt2 Kin.lt3 run_mkf
def sgI (n : Int) : Int := if 0 < n then 1 else if n < 0 then -1 else 0
theorem sign_any (n : Int) (w : World) : Calls Tryz.prog 114 #[.int .i64 n] w fun e w' => e = .returned (.int .i64 (sgI n)) ∧ Below w.heap.size w w' := by
  unfold sgI
  by_cases h1 : 0 < n
  · go_enter Tryz.func114, Tryz.ntmps114
    go_wp2_with fail
    go_ret
    exact ⟨by simp [h1], gRw⟩
  · by_cases h2 : n < 0
    · go_enter Tryz.func114, Tryz.ntmps114
      go_wp2_with fail
      go_ret
      exact ⟨by simp [h1, h2], gRw⟩
    · go_enter Tryz.func114, Tryz.ntmps114
      go_wp2_with fail
      go_ret
      exact ⟨by simp [h1, h2], gRw⟩
/-- the step of a heading -/
def dvec (h : Int) : Pt := if h = 0 then (1, 0) else if h = 1 then (0, 1) else if h = 2 then (-1, 0) else (0, -1)
theorem dir_leg {a : Pt} {h : Int} {k : Nat} (hk : 0 < k) (hh : 0 ≤ h ∧ h < 4) : (sgI ((stepN h k a).1 - a.1), sgI ((stepN h k a).2 - a.2)) = dvec h := by
  rw [step_eq]
  unfold sgI dvec
  have : h = 0 ∨ h = 1 ∨ h = 2 ∨ h = 3 := by omega
  have hk' : (0 : Int) < k := by omega
  rcases this with rfl | rfl | rfl | rfl <;> simp [hk'] <;> omega
theorem direction_any (a b : Pt) (w : World) (ha : near6 a) (hb : near6 b) :
    Calls Tryz.prog 74 #[.agg #[.int .i64 a.1, .int .i64 a.2], .agg #[.int .i64 b.1, .int .i64 b.2]] w fun e w' => e = .returned (.agg #[.int .i64 (sgI (b.1 - a.1)), .int .i64 (sgI (b.2 - a.2))]) ∧ Below w.heap.size w w' := by
  unfold near6 at ha hb
  have e1 : IntKind.i64.wrap (b.1 - a.1) = b.1 - a.1 := IntWalk.i64_in _ (by omega)
  have e2 : IntKind.i64.wrap (b.2 - a.2) = b.2 - a.2 := IntWalk.i64_in _ (by omega)
  have mixed : Tryz.prog.follows .mixedOrders = true := by kernel_rfl
  go_enter Tryz.func74, Tryz.ntmps74
  go_wp2_with fail
  obtain ⟨W3, hW3⟩ : ∃ W3, ((w.alloc (.cells #[.int .i64 a.1, .int .i64 a.2] 60)).alloc (.cells #[.int .i64 b.1, .int .i64 b.2] 60)).alloc (.cells #[.int .i64 0, .int .i64 0] 60) = W3 := ⟨_, rfl⟩
  have hA : Blk W3 w.heap.size 60 #[.int .i64 a.1, .int .i64 a.2] := by rw [← hW3]; exact ((Blk.new _ _ _).al_ _).al_ _
  have hB : Blk W3 (w.heap.size + 1) 60 #[.int .i64 b.1, .int .i64 b.2] := by
    have := (Blk.new (w.alloc (.cells #[.int .i64 a.1, .int .i64 a.2] 60)) 60 #[.int .i64 b.1, .int .i64 b.2]).al_ (.cells #[.int .i64 0, .int .i64 0] 60)
    rw [World.size_alloc] at this
    rw [← hW3]; exact this
  have hR : Blk W3 (w.heap.size + 1 + 1) 60 #[.int .i64 0, .int .i64 0] := by
    have := Blk.new ((w.alloc (.cells #[.int .i64 a.1, .int .i64 a.2] 60)).alloc (.cells #[.int .i64 b.1, .int .i64 b.2] 60)) 60 #[.int .i64 0, .int .i64 0]
    rw [World.size_alloc, World.size_alloc] at this
    rw [← hW3]; exact this
  have hb3 : Below w.heap.size w W3 := by rw [← hW3]; exact gRw
  rw [hW3]
  clear hW3
  have a0 : W3.cell? ⟨w.heap.size, 0, none⟩ = some (.int .i64 a.1) := hA.cell 0
  have a1 : W3.cell? ⟨w.heap.size, 1, none⟩ = some (.int .i64 a.2) := hA.cell 1
  have b0 : W3.cell? ⟨w.heap.size + 1, 0, none⟩ = some (.int .i64 b.1) := hB.cell 0
  have b1 : W3.cell? ⟨w.heap.size + 1, 1, none⟩ = some (.int .i64 b.2) := hB.cell 1
  have al := hA.lt
  have bl := hB.lt
  have HR := Lib.hid hR
  have HB3 := Lib.hid hb3
  clear hA hB hR hb3
  refine wp_region_heldT (S := fun w' => Below W3.heap.size W3 w') 13 (by kernel_rfl) ((Below.refl _ _).drew) (fun hHeld => ?_)
  try simp only [List.size_toArray, List.length_cons, List.length_nil, Nat.zero_add, Nat.reduceAdd, List.replicate, Array.replicate]
  refine wpAnyT_take (m := 13) (i := 0) (v := ?_) (by kernel_rfl) (by decide) rfl (by kernel_rfl) (by kernel_rfl) (by kernel_rfl) (fun _ _ _ h => h) (Or.inl ⟨by kernel_rfl, ?_⟩) (by assumption) ?_
  rotate_left
  · (intro w' hSw; have s0 := (hSw.cell (p := ⟨w.heap.size, 0, none⟩) al).trans a0; have s1 := (hSw.cell (p := ⟨w.heap.size, 1, none⟩) al).trans a1; have s2 := (hSw.cell (p := ⟨w.heap.size + 1, 0, none⟩) bl).trans b0; have s3 := (hSw.cell (p := ⟨w.heap.size + 1, 1, none⟩) bl).trans b1; go_simp; try with_reducible rfl)
  try simp only [List.getElem_toArray, List.getElem_cons_succ, List.getElem_cons_zero, Act.put, List.setIfInBounds_toArray, List.set_cons_zero, List.set_cons_succ]
  refine wpAnyT_take (m := 13) (i := 1) (v := ?_) (by kernel_rfl) (by decide) rfl (by kernel_rfl) (by kernel_rfl) (by kernel_rfl) (fun _ _ _ h => h) (Or.inl ⟨by kernel_rfl, ?_⟩) (by assumption) ?_
  rotate_left
  · (intro w' hSw; have s0 := (hSw.cell (p := ⟨w.heap.size, 0, none⟩) al).trans a0; have s1 := (hSw.cell (p := ⟨w.heap.size, 1, none⟩) al).trans a1; have s2 := (hSw.cell (p := ⟨w.heap.size + 1, 0, none⟩) bl).trans b0; have s3 := (hSw.cell (p := ⟨w.heap.size + 1, 1, none⟩) bl).trans b1; go_simp; try with_reducible rfl)
  try simp only [List.getElem_toArray, List.getElem_cons_succ, List.getElem_cons_zero, Act.put, List.setIfInBounds_toArray, List.set_cons_zero, List.set_cons_succ]
  refine wpAnyT_take (m := 13) (i := 2) (v := ?_) (by kernel_rfl) (by decide) rfl (by kernel_rfl) (by kernel_rfl) (by kernel_rfl) (fun _ _ _ h => h) (Or.inl ⟨by kernel_rfl, ?_⟩) (by assumption) ?_
  rotate_left
  · (intro w' hSw; have s0 := (hSw.cell (p := ⟨w.heap.size, 0, none⟩) al).trans a0; have s1 := (hSw.cell (p := ⟨w.heap.size, 1, none⟩) al).trans a1; have s2 := (hSw.cell (p := ⟨w.heap.size + 1, 0, none⟩) bl).trans b0; have s3 := (hSw.cell (p := ⟨w.heap.size + 1, 1, none⟩) bl).trans b1; go_simp; try with_reducible rfl)
  try simp only [List.getElem_toArray, List.getElem_cons_succ, List.getElem_cons_zero, Act.put, List.setIfInBounds_toArray, List.set_cons_zero, List.set_cons_succ]
  refine wpAnyT_take (m := 13) (i := 3) (v := ?_) (by kernel_rfl) (by decide) rfl (by kernel_rfl) (by kernel_rfl) (by kernel_rfl) (fun _ _ _ h => h) (Or.inl ⟨by kernel_rfl, ?_⟩) (by assumption) ?_
  rotate_left
  · (intro w' hSw; have s0 := (hSw.cell (p := ⟨w.heap.size, 0, none⟩) al).trans a0; have s1 := (hSw.cell (p := ⟨w.heap.size, 1, none⟩) al).trans a1; have s2 := (hSw.cell (p := ⟨w.heap.size + 1, 0, none⟩) bl).trans b0; have s3 := (hSw.cell (p := ⟨w.heap.size + 1, 1, none⟩) bl).trans b1; go_simp; try with_reducible rfl)
  try simp only [List.getElem_toArray, List.getElem_cons_succ, List.getElem_cons_zero, Act.put, List.setIfInBounds_toArray, List.set_cons_zero, List.set_cons_succ]
  refine wpAnyT_take (m := 13) (i := 4) (v := ?_) (by kernel_rfl) (by decide) rfl (by kernel_rfl) (by kernel_rfl) (by kernel_rfl) (fun _ _ _ h => h) (Or.inl ⟨by kernel_rfl, ?_⟩) (by assumption) ?_
  rotate_left
  · (intro w' hSw; have s0 := (hSw.cell (p := ⟨w.heap.size, 0, none⟩) al).trans a0; have s1 := (hSw.cell (p := ⟨w.heap.size, 1, none⟩) al).trans a1; have s2 := (hSw.cell (p := ⟨w.heap.size + 1, 0, none⟩) bl).trans b0; have s3 := (hSw.cell (p := ⟨w.heap.size + 1, 1, none⟩) bl).trans b1; go_simp; try with_reducible rfl)
  try simp only [List.getElem_toArray, List.getElem_cons_succ, List.getElem_cons_zero, Act.put, List.setIfInBounds_toArray, List.set_cons_zero, List.set_cons_succ]
  refine wpAnyT_take (m := 13) (i := 6) (v := ?_) (by kernel_rfl) (by decide) rfl (by kernel_rfl) (by kernel_rfl) (by kernel_rfl) (fun _ _ _ h => h) (Or.inl ⟨by kernel_rfl, ?_⟩) (by assumption) ?_
  rotate_left
  · (intro w' hSw; have s0 := (hSw.cell (p := ⟨w.heap.size, 0, none⟩) al).trans a0; have s1 := (hSw.cell (p := ⟨w.heap.size, 1, none⟩) al).trans a1; have s2 := (hSw.cell (p := ⟨w.heap.size + 1, 0, none⟩) bl).trans b0; have s3 := (hSw.cell (p := ⟨w.heap.size + 1, 1, none⟩) bl).trans b1; go_simp; try with_reducible rfl)
  try simp only [List.getElem_toArray, List.getElem_cons_succ, List.getElem_cons_zero, Act.put, List.setIfInBounds_toArray, List.set_cons_zero, List.set_cons_succ]
  refine wpAnyT_take (m := 13) (i := 7) (v := ?_) (by kernel_rfl) (by decide) rfl (by kernel_rfl) (by kernel_rfl) (by kernel_rfl) (fun _ _ _ h => h) (Or.inl ⟨by kernel_rfl, ?_⟩) (by assumption) ?_
  rotate_left
  · (intro w' hSw; have s0 := (hSw.cell (p := ⟨w.heap.size, 0, none⟩) al).trans a0; have s1 := (hSw.cell (p := ⟨w.heap.size, 1, none⟩) al).trans a1; have s2 := (hSw.cell (p := ⟨w.heap.size + 1, 0, none⟩) bl).trans b0; have s3 := (hSw.cell (p := ⟨w.heap.size + 1, 1, none⟩) bl).trans b1; go_simp; try with_reducible rfl)
  try simp only [List.getElem_toArray, List.getElem_cons_succ, List.getElem_cons_zero, Act.put, List.setIfInBounds_toArray, List.set_cons_zero, List.set_cons_succ]
  refine wpAnyT_take (m := 13) (i := 8) (v := ?_) (by kernel_rfl) (by decide) rfl (by kernel_rfl) (by kernel_rfl) (by kernel_rfl) (fun _ _ _ h => h) (Or.inl ⟨by kernel_rfl, ?_⟩) (by assumption) ?_
  rotate_left
  · (intro w' hSw; have s0 := (hSw.cell (p := ⟨w.heap.size, 0, none⟩) al).trans a0; have s1 := (hSw.cell (p := ⟨w.heap.size, 1, none⟩) al).trans a1; have s2 := (hSw.cell (p := ⟨w.heap.size + 1, 0, none⟩) bl).trans b0; have s3 := (hSw.cell (p := ⟨w.heap.size + 1, 1, none⟩) bl).trans b1; go_simp; try with_reducible rfl)
  try simp only [List.getElem_toArray, List.getElem_cons_succ, List.getElem_cons_zero, Act.put, List.setIfInBounds_toArray, List.set_cons_zero, List.set_cons_succ]
  refine wpAnyT_take (m := 13) (i := 9) (v := ?_) (by kernel_rfl) (by decide) rfl (by kernel_rfl) (by kernel_rfl) (by kernel_rfl) (fun _ _ _ h => h) (Or.inl ⟨by kernel_rfl, ?_⟩) (by assumption) ?_
  rotate_left
  · (intro w' hSw; have s0 := (hSw.cell (p := ⟨w.heap.size, 0, none⟩) al).trans a0; have s1 := (hSw.cell (p := ⟨w.heap.size, 1, none⟩) al).trans a1; have s2 := (hSw.cell (p := ⟨w.heap.size + 1, 0, none⟩) bl).trans b0; have s3 := (hSw.cell (p := ⟨w.heap.size + 1, 1, none⟩) bl).trans b1; go_simp; try with_reducible rfl)
  try simp only [List.getElem_toArray, List.getElem_cons_succ, List.getElem_cons_zero, Act.put, List.setIfInBounds_toArray, List.set_cons_zero, List.set_cons_succ]
  refine wpAnyT_take (m := 13) (i := 10) (v := ?_) (by kernel_rfl) (by decide) rfl (by kernel_rfl) (by kernel_rfl) (by kernel_rfl) (fun _ _ _ h => h) (Or.inl ⟨by kernel_rfl, ?_⟩) (by assumption) ?_
  rotate_left
  · (intro w' hSw; have s0 := (hSw.cell (p := ⟨w.heap.size, 0, none⟩) al).trans a0; have s1 := (hSw.cell (p := ⟨w.heap.size, 1, none⟩) al).trans a1; have s2 := (hSw.cell (p := ⟨w.heap.size + 1, 0, none⟩) bl).trans b0; have s3 := (hSw.cell (p := ⟨w.heap.size + 1, 1, none⟩) bl).trans b1; go_simp; try with_reducible rfl)
  try simp only [List.getElem_toArray, List.getElem_cons_succ, List.getElem_cons_zero, Act.put, List.setIfInBounds_toArray, List.set_cons_zero, List.set_cons_succ]
  refine wpAnyT_step (i := 5) (by kernel_rfl) rfl (fun K hK => ?_)
  go_simp
  (go_at_call 114; (with_reducible refine (Kin.callK (W := W3) gRw (sign_any _ _)).mono ?_); rintro e w' ⟨z4, rfl, hz4, rfl⟩; skip)
  refine hK.out _ _ (z4.2) (fun hHeld2 => ?_)
  clear hK hHeld
  have hHeld := hHeld2
  clear hHeld2 K
  try simp only [List.getElem_toArray, List.getElem_cons_succ, List.getElem_cons_zero, Act.put, List.setIfInBounds_toArray, List.set_cons_zero, List.set_cons_succ]
  refine wpAnyT_step (i := 11) (by kernel_rfl) rfl (fun K hK => ?_)
  go_simp
  (go_at_call 114; (with_reducible refine (Kin.callK (W := W3) gRw (sign_any _ _)).mono ?_); rintro e w' ⟨z5, rfl, hz5, rfl⟩; skip)
  refine hK.out _ _ (z5.2) (fun hHeld2 => ?_)
  clear hK hHeld
  have hHeld := hHeld2
  clear hHeld2 K
  try simp only [List.getElem_toArray, List.getElem_cons_succ, List.getElem_cons_zero, Act.put, List.setIfInBounds_toArray, List.set_cons_zero, List.set_cons_succ]
  refine wpAnyT_take (m := 13) (i := 12) (v := ?_) (by kernel_rfl) (by decide) rfl (by kernel_rfl) (by kernel_rfl) (by kernel_rfl) (fun _ _ _ h => h) (Or.inl ⟨by kernel_rfl, ?_⟩) (by assumption) ?_
  rotate_left
  · (intro w' hSw; have s0 := (hSw.cell (p := ⟨w.heap.size, 0, none⟩) al).trans a0; have s1 := (hSw.cell (p := ⟨w.heap.size, 1, none⟩) al).trans a1; have s2 := (hSw.cell (p := ⟨w.heap.size + 1, 0, none⟩) bl).trans b0; have s3 := (hSw.cell (p := ⟨w.heap.size + 1, 1, none⟩) bl).trans b1; go_simp; try with_reducible rfl)
  try simp only [List.getElem_toArray, List.getElem_cons_succ, List.getElem_cons_zero, Act.put, List.setIfInBounds_toArray, List.set_cons_zero, List.set_cons_succ]
  obtain ⟨W5, hW5⟩ : ∃ W5, z5.1 = W5 := ⟨_, rfl⟩
  have hb5 := z5.2
  rw [hW5] at hb5 ⊢
  have hR5 := HR.out.below hb5
  have c5 := hR5.cell 0
  have c6 := hR5.cell 1
  have f5 := hR5.frozen 0
  have f6 := hR5.frozen 1
  have l5 := hR5.lt
  have HR5 := Lib.hid hR5
  have HB5 := Lib.hid (HB3.out.trans (hb5.mono HB3.out.size))
  clear hR5 hb5 hz4 hz5 hW5 hHeld
  refine wpAnyT_last (by kernel_rfl) rfl (fun K hK => ?_)
  go_simp
  refine hK.out _ _ ?_
  refine wpAnyT_done (by kernel_rfl) ?_ _
  clear hK
  go_wp2_with fail
  ((try simp only [Exit.inBlock, Exit.then]); refine bodyPost_ret (results_cell_row rfl _ _ _ _ _ (0, 0) _ rfl ((HR5.out.set_ 0 _).set_ 1 _) Tryz.underlying60 rfl (by kernel_rfl)) rfl ?_)
  exact ⟨rfl, (HB5.out.setCell (by show w.heap.size ≤ w.heap.size + 1 + 1; omega) _).setCell (by show w.heap.size ≤ w.heap.size + 1 + 1; omega) _⟩
theorem leftW_any (p : Pt) (h : Int) (w : World) (hp : near6 p) (hh : 0 ≤ h ∧ h < 4) :
    Calls Tryz.prog 76 #[.agg #[.int .i64 p.1, .int .i64 p.2], .agg #[.int .i64 (dvec h).1, .int .i64 (dvec h).2]] w fun e w' => e = .returned (.agg #[.int .i64 (lcP p h).1, .int .i64 (lcP p h).2]) ∧ Below w.heap.size w w' := by
  unfold near6 at hp
  have e1 : IntKind.i64.wrap (p.1 - 1) = p.1 - 1 := IntWalk.i64_in _ (by omega)
  have e2 : IntKind.i64.wrap (p.2 - 1) = p.2 - 1 := IntWalk.i64_in _ (by omega)
  have hc : h = 0 ∨ h = 1 ∨ h = 2 ∨ h = 3 := by omega
  rcases hc with rfl | rfl | rfl | rfl
  all_goals
    simp only [dvec, lcP, if_true, if_false, reduceIte, (by decide : ¬ (1 : Int) = 0), (by decide : ¬ (2 : Int) = 0), (by decide : ¬ (2 : Int) = 1), (by decide : ¬ (3 : Int) = 0), (by decide : ¬ (3 : Int) = 1), (by decide : ¬ (3 : Int) = 2)]
    go_enter Tryz.func76, Tryz.ntmps76
    go_wp2_with fail
    ((try simp only [Exit.inBlock, Exit.then]); refine bodyPost_ret (results_cell_row rfl _ _ _ _ _ (0, 0) _ rfl (Blk.at0 _ _ _ _ (by simp)) Tryz.underlying47 rfl (by kernel_rfl)) rfl ?_)
    exact ⟨rfl, gRw⟩
/-- what add gives: a cell more, unless it is the last one -/
def AddO (w : World) (base : Nat) (u : Value) (l : List Cl) (e : Ending) (w' : World) : Prop :=
  ∃ v, e = .returned v ∧ w'.ownsRow base 47 2 v l.length (l.flatMap encPt) ∧ w.grownBy w' u.ownBlock ∧ Below base w w' ∧ (v.ownBlock = u.ownBlock ∨ ∃ k, w.heap.size ≤ k ∧ v.ownBlock = some k)
theorem cellEq_yes (a : Cl) (w : World) : (binOp .eql 47 (.agg #[.int .i64 a.1, .int .i64 a.2]) (.agg #[.int .i64 a.1, .int .i64 a.2])).run Tryz.prog w = .ok (.bool true) w := by
  simp [go_sem]
theorem cellEq_no {a b : Cl} (h : a ≠ b) (w : World) : (binOp .eql 47 (.agg #[.int .i64 a.1, .int .i64 a.2]) (.agg #[.int .i64 b.1, .int .i64 b.2])).run Tryz.prog w = .ok (.bool false) w := by
  by_cases h1 : a.1 = b.1
  · have h2 : ¬ a.2 = b.2 := fun h2 => h (Prod.ext h1 h2)
    simp [go_sem, h1, h2]
  · simp [go_sem, h1]
theorem AddO.of {w W2 w1 : World} {base : Nat} {u v : Value} {m : List Cl} (hw : Below w.heap.size w W2) (hb : base ≤ w.heap.size) (ho : w1.ownsRow base 47 2 v m.length (m.flatMap encPt)) (hg : W2.grownBy w1 u.ownBlock) (hbel : Below base W2 w1)
    (hat : v.ownBlock = u.ownBlock ∨ v.ownBlock = some W2.heap.size) : AddO w base u m (.returned v) w1 :=
  ⟨v, rfl, ho, grownBy_trans (below_grownBy hw) hg, (hw.mono hb).trans hbel, hat.imp id fun h => ⟨_, hw.size, h⟩⟩
theorem addW_any (base : Nat) (A : Option Addr) (n cap : Nat) (l : List Cl) (c : Cl) (w : World) (h : w.ownsRow base 47 2 (.slice A n cap) l.length (l.flatMap encPt)) (hn : l.length = n) (hl : n ≤ 1000000) (hb : base ≤ w.heap.size) :
    Calls Tryz.prog 75 #[.slice A n cap, .agg #[.int .i64 c.1, .int .i64 c.2]] w (AddO w base (.slice A n cap) (addP l c)) := by
  have hr := Rd.own' encPt_len (by decide) h
  have mixed : Tryz.prog.follows .mixedOrders = true := by kernel_rfl
  have HO := Lib.hid h
  have HN := Lib.hid hn
  by_cases h0 : l = []
  · subst h0
    obtain rfl : n = 0 := by simpa using hn.symm
    clear h hn hr
    go_enter Tryz.func75, Tryz.ntmps75
    go_wp2_with fail
    refine wp_region_held_drew (S := fun w' => Below w.heap.size w w') (by kernel_rfl) ((Below.alloc (Below.refl _ _) (Nat.le_refl _) _).drew) (fun hHeld => ?_)
    try simp only [List.size_toArray, List.length_cons, List.length_nil, Nat.zero_add, Nat.reduceAdd, List.replicate, Array.replicate]
    refine wpAnyH_take (i := 0) (v := ?_) rfl (by kernel_rfl) (by kernel_rfl) (by kernel_rfl) (fun _ _ _ h => h) (Or.inl ⟨by kernel_rfl, ?_⟩) (by assumption) ?_
    rotate_left
    · (intro w' hSw; skip; go_simp; try with_reducible rfl)
    try simp only [List.getElem_toArray, List.getElem_cons_succ, List.getElem_cons_zero, Act.put, List.setIfInBounds_toArray, List.set_cons_zero, List.set_cons_succ]
    refine wpAnyH_take (i := 1) (v := ?_) rfl (by kernel_rfl) (by kernel_rfl) (by kernel_rfl) (fun _ _ _ h => h) (Or.inl ⟨by kernel_rfl, ?_⟩) (by assumption) ?_
    rotate_left
    · (intro w' hSw; skip; go_simp; try with_reducible rfl)
    try simp only [List.getElem_toArray, List.getElem_cons_succ, List.getElem_cons_zero, Act.put, List.setIfInBounds_toArray, List.set_cons_zero, List.set_cons_succ]
    refine wpAnyH_take (i := 2) (v := ?_) rfl (by kernel_rfl) (by kernel_rfl) (by kernel_rfl) (fun _ _ _ h => h) (Or.inl ⟨by kernel_rfl, ?_⟩) (by assumption) ?_
    rotate_left
    · (intro w' hSw; skip; go_simp; try with_reducible rfl)
    try simp only [List.getElem_toArray, List.getElem_cons_succ, List.getElem_cons_zero, Act.put, List.setIfInBounds_toArray, List.set_cons_zero, List.set_cons_succ]
    refine wpAnyH_take (i := 3) (v := ?_) rfl (by kernel_rfl) (by kernel_rfl) (by kernel_rfl) (fun _ _ _ h => h) (Or.inl ⟨by kernel_rfl, ?_⟩) (by assumption) ?_
    rotate_left
    · (intro w' hSw; skip; go_simp; try with_reducible rfl)
    try simp only [List.getElem_toArray, List.getElem_cons_succ, List.getElem_cons_zero, Act.put, List.setIfInBounds_toArray, List.set_cons_zero, List.set_cons_succ]
    refine wpAnyH_take (i := 4) (v := undef) rfl (by kernel_rfl) (by kernel_rfl) (by kernel_rfl) (fun _ _ _ h => h) (Or.inr ⟨by kernel_rfl, rfl⟩) (by assumption) ?_
    try simp only [List.getElem_toArray, List.getElem_cons_succ, List.getElem_cons_zero, Act.put, List.setIfInBounds_toArray, List.set_cons_zero, List.set_cons_succ]
    refine wpAnyH_take (i := 5) (v := undef) rfl (by kernel_rfl) (by kernel_rfl) (by kernel_rfl) (fun _ _ _ h => h) (Or.inr ⟨by kernel_rfl, rfl⟩) (by assumption) ?_
    try simp only [List.getElem_toArray, List.getElem_cons_succ, List.getElem_cons_zero, Act.put, List.setIfInBounds_toArray, List.set_cons_zero, List.set_cons_succ]
    refine wpAnyH_take (i := 6) (v := undef) rfl (by kernel_rfl) (by kernel_rfl) (by kernel_rfl) (fun _ _ _ h => h) (Or.inr ⟨by kernel_rfl, rfl⟩) (by assumption) ?_
    try simp only [List.getElem_toArray, List.getElem_cons_succ, List.getElem_cons_zero, Act.put, List.setIfInBounds_toArray, List.set_cons_zero, List.set_cons_succ]
    refine wpAnyH_take (i := 7) (v := undef) rfl (by kernel_rfl) (by kernel_rfl) (by kernel_rfl) (fun _ _ _ h => h) (Or.inr ⟨by kernel_rfl, rfl⟩) (by assumption) ?_
    try simp only [List.getElem_toArray, List.getElem_cons_succ, List.getElem_cons_zero, Act.put, List.setIfInBounds_toArray, List.set_cons_zero, List.set_cons_succ]
    refine wpAnyH_take (i := 8) (v := undef) rfl (by kernel_rfl) (by kernel_rfl) (by kernel_rfl) (fun _ _ _ h => h) (Or.inr ⟨by kernel_rfl, rfl⟩) (by assumption) ?_
    try simp only [List.getElem_toArray, List.getElem_cons_succ, List.getElem_cons_zero, Act.put, List.setIfInBounds_toArray, List.set_cons_zero, List.set_cons_succ]
    refine wpAnyH_take (i := 9) (v := undef) rfl (by kernel_rfl) (by kernel_rfl) (by kernel_rfl) (fun _ _ _ h => h) (Or.inr ⟨by kernel_rfl, rfl⟩) (by assumption) ?_
    try simp only [List.getElem_toArray, List.getElem_cons_succ, List.getElem_cons_zero, Act.put, List.setIfInBounds_toArray, List.set_cons_zero, List.set_cons_succ]
    refine wpAnyH_take (i := 10) (v := undef) rfl (by kernel_rfl) (by kernel_rfl) (by kernel_rfl) (fun _ _ _ h => h) (Or.inr ⟨by kernel_rfl, rfl⟩) (by assumption) ?_
    try simp only [List.getElem_toArray, List.getElem_cons_succ, List.getElem_cons_zero, Act.put, List.setIfInBounds_toArray, List.set_cons_zero, List.set_cons_succ]
    refine wpAnyH_take (i := 11) (v := undef) rfl (by kernel_rfl) (by kernel_rfl) (by kernel_rfl) (fun _ _ _ h => h) (Or.inr ⟨by kernel_rfl, rfl⟩) (by assumption) ?_
    try simp only [List.getElem_toArray, List.getElem_cons_succ, List.getElem_cons_zero, Act.put, List.setIfInBounds_toArray, List.set_cons_zero, List.set_cons_succ]
    refine wpAnyH_take (i := 12) (v := ?_) rfl (by kernel_rfl) (by kernel_rfl) (by kernel_rfl) (fun _ _ _ h => h) (Or.inl ⟨by kernel_rfl, ?_⟩) (by assumption) ?_
    rotate_left
    · (intro w' hSw; skip; go_simp; try with_reducible rfl)
    try simp only [List.getElem_toArray, List.getElem_cons_succ, List.getElem_cons_zero, Act.put, List.setIfInBounds_toArray, List.set_cons_zero, List.set_cons_succ]
    refine wpAnyH_done (by kernel_rfl) ?_ _
    clear hHeld
    go_wp2_with (at_builtin; refine Shut.out ?_)
    unfold Shut
    refine wpList_app _ rfl _ _ 70 rfl encPt_len (by decide) oneP (base) 47 (.agg #[.int .i64 0, .int .i64 0]) 16 infoCell rfl Tryz.underlying70 _ _ _ _ rfl ((HO.out.alloc _).alloc _) _ _ _ rfl (rd_one _ encPt_len _ c _ rfl) ?c1 (by decide) ?c2 ?_
    case c1 => (first | (simp only [List.length_append, List.length_cons, List.length_nil]; omega) | omega | (simp; omega))
    case c2 => exact lEw
    intro v1 w1 hown1 hg1 hbel1 hat1
    go_wp2_with fail
    go_ret
    exact AddO.of gRw hb hown1 hg1 hbel1 hat1
  · obtain ⟨k, hk⟩ : ∃ k, n = k + 1 := ⟨n - 1, by have := List.length_pos_iff.2 h0; omega⟩
    obtain ⟨x, hx⟩ : ∃ x, l[k]? = some x := ⟨_, List.getElem?_eq_getElem (by omega)⟩
    have hlast : l.getLast? = some x := by rw [List.getLast?_eq_getElem?, hn, hk]; exact hx
    obtain ⟨b, off, rfl, hbl, hcell⟩ := Rd.op hr k x hx
    have r_0 : w.cell? ⟨b, off + k * 2, none⟩ = some (.int .i64 x.1) := hcell k x hx 0 _ rfl
    have r_1 : w.cell? ⟨b, off + k * 2 + 1, none⟩ = some (.int .i64 x.2) := hcell k x hx 1 _ rfl
    have e1 : IntKind.i64.wrap ((n : Int) - 1) = (k : Int) := by rw [IntWalk.i64_in _ (by omega)]; omega
    have hpos : (0 : Int) < (n : Int) := by omega
    have hpos2 : 0 < n := by omega
    have hkn : k < n := by omega
    have HL := Lib.hid hlast
    clear h hn hr hcell hx hlast h0
    have HKN := Lib.hid hk
    clear hk
    obtain ⟨W2, hW2⟩ : ∃ W2, w.alloc (.cells #[.int .i64 c.1, .int .i64 c.2] 47) = W2 := ⟨_, rfl⟩
    have hb2 : Below w.heap.size w W2 := by rw [← hW2]; exact (Below.refl _ _).alloc (Nat.le_refl _) _
    have hC : Blk W2 w.heap.size 47 #[.int .i64 c.1, .int .i64 c.2] := by rw [← hW2]; exact Blk.new _ _ _
    have c_0 : W2.cell? ⟨w.heap.size, 0, none⟩ = some (.int .i64 c.1) := hC.cell 0
    have c_1 : W2.cell? ⟨w.heap.size, 1, none⟩ = some (.int .i64 c.2) := hC.cell 1
    have c_l := hC.lt
    have hbl2 : b < W2.heap.size := Nat.lt_of_lt_of_le hbl hb2.size
    replace r_0 := (hb2.cell (p := ⟨b, off + k * 2, none⟩) hbl).trans r_0
    replace r_1 := (hb2.cell (p := ⟨b, off + k * 2 + 1, none⟩) hbl).trans r_1
    have HB2 := Lib.hid hb2
    have HO2 := Lib.hid (own_below HO.out hb2)
    clear hb2 hC
    by_cases hc : x = c
    · subst hc
      have heq := cellEq_yes x
      go_enter Tryz.func75, Tryz.ntmps75
      go_wp2_with fail
      clear hW2
      refine wp_region_held_drew (S := fun w' => Below W2.heap.size W2 w') (by kernel_rfl) ((Below.refl _ _).drew) (fun hHeld => ?_)
      try simp only [List.size_toArray, List.length_cons, List.length_nil, Nat.zero_add, Nat.reduceAdd, List.replicate, Array.replicate]
      refine wpAnyH_take (i := 0) (v := ?_) rfl (by kernel_rfl) (by kernel_rfl) (by kernel_rfl) (fun _ _ _ h => h) (Or.inl ⟨by kernel_rfl, ?_⟩) (by assumption) ?_
      rotate_left
      · (intro w' hSw; have s0 := (hSw.cell (p := ⟨b, off + k * 2, none⟩) hbl2).trans r_0; have s1 := (hSw.cell (p := ⟨b, off + k * 2 + 1, none⟩) hbl2).trans r_1; have s2 := (hSw.cell (p := ⟨w.heap.size, 0, none⟩) c_l).trans c_0; have s3 := (hSw.cell (p := ⟨w.heap.size, 1, none⟩) c_l).trans c_1; go_simp; try with_reducible rfl)
      try simp only [List.getElem_toArray, List.getElem_cons_succ, List.getElem_cons_zero, Act.put, List.setIfInBounds_toArray, List.set_cons_zero, List.set_cons_succ]
      refine wpAnyH_take (i := 1) (v := ?_) rfl (by kernel_rfl) (by kernel_rfl) (by kernel_rfl) (fun _ _ _ h => h) (Or.inl ⟨by kernel_rfl, ?_⟩) (by assumption) ?_
      rotate_left
      · (intro w' hSw; have s0 := (hSw.cell (p := ⟨b, off + k * 2, none⟩) hbl2).trans r_0; have s1 := (hSw.cell (p := ⟨b, off + k * 2 + 1, none⟩) hbl2).trans r_1; have s2 := (hSw.cell (p := ⟨w.heap.size, 0, none⟩) c_l).trans c_0; have s3 := (hSw.cell (p := ⟨w.heap.size, 1, none⟩) c_l).trans c_1; go_simp; try with_reducible rfl)
      try simp only [List.getElem_toArray, List.getElem_cons_succ, List.getElem_cons_zero, Act.put, List.setIfInBounds_toArray, List.set_cons_zero, List.set_cons_succ]
      refine wpAnyH_take (i := 2) (v := ?_) rfl (by kernel_rfl) (by kernel_rfl) (by kernel_rfl) (fun _ _ _ h => h) (Or.inl ⟨by kernel_rfl, ?_⟩) (by assumption) ?_
      rotate_left
      · (intro w' hSw; have s0 := (hSw.cell (p := ⟨b, off + k * 2, none⟩) hbl2).trans r_0; have s1 := (hSw.cell (p := ⟨b, off + k * 2 + 1, none⟩) hbl2).trans r_1; have s2 := (hSw.cell (p := ⟨w.heap.size, 0, none⟩) c_l).trans c_0; have s3 := (hSw.cell (p := ⟨w.heap.size, 1, none⟩) c_l).trans c_1; go_simp; try with_reducible rfl)
      try simp only [List.getElem_toArray, List.getElem_cons_succ, List.getElem_cons_zero, Act.put, List.setIfInBounds_toArray, List.set_cons_zero, List.set_cons_succ]
      refine wpAnyH_take (i := 3) (v := ?_) rfl (by kernel_rfl) (by kernel_rfl) (by kernel_rfl) (fun _ _ _ h => h) (Or.inl ⟨by kernel_rfl, ?_⟩) (by assumption) ?_
      rotate_left
      · (intro w' hSw; have s0 := (hSw.cell (p := ⟨b, off + k * 2, none⟩) hbl2).trans r_0; have s1 := (hSw.cell (p := ⟨b, off + k * 2 + 1, none⟩) hbl2).trans r_1; have s2 := (hSw.cell (p := ⟨w.heap.size, 0, none⟩) c_l).trans c_0; have s3 := (hSw.cell (p := ⟨w.heap.size, 1, none⟩) c_l).trans c_1; go_simp; try with_reducible rfl)
      try simp only [List.getElem_toArray, List.getElem_cons_succ, List.getElem_cons_zero, Act.put, List.setIfInBounds_toArray, List.set_cons_zero, List.set_cons_succ]
      refine wpAnyH_take (i := 4) (v := ?_) rfl (by kernel_rfl) (by kernel_rfl) (by kernel_rfl) (fun _ _ _ h => h) (Or.inl ⟨by kernel_rfl, ?_⟩) (by assumption) ?_
      rotate_left
      · (intro w' hSw; have s0 := (hSw.cell (p := ⟨b, off + k * 2, none⟩) hbl2).trans r_0; have s1 := (hSw.cell (p := ⟨b, off + k * 2 + 1, none⟩) hbl2).trans r_1; have s2 := (hSw.cell (p := ⟨w.heap.size, 0, none⟩) c_l).trans c_0; have s3 := (hSw.cell (p := ⟨w.heap.size, 1, none⟩) c_l).trans c_1; go_simp; try with_reducible rfl)
      try simp only [List.getElem_toArray, List.getElem_cons_succ, List.getElem_cons_zero, Act.put, List.setIfInBounds_toArray, List.set_cons_zero, List.set_cons_succ]
      refine wpAnyH_take (i := 5) (v := ?_) rfl (by kernel_rfl) (by kernel_rfl) (by kernel_rfl) (fun _ _ _ h => h) (Or.inl ⟨by kernel_rfl, ?_⟩) (by assumption) ?_
      rotate_left
      · (intro w' hSw; have s0 := (hSw.cell (p := ⟨b, off + k * 2, none⟩) hbl2).trans r_0; have s1 := (hSw.cell (p := ⟨b, off + k * 2 + 1, none⟩) hbl2).trans r_1; have s2 := (hSw.cell (p := ⟨w.heap.size, 0, none⟩) c_l).trans c_0; have s3 := (hSw.cell (p := ⟨w.heap.size, 1, none⟩) c_l).trans c_1; go_simp; try with_reducible rfl)
      try simp only [List.getElem_toArray, List.getElem_cons_succ, List.getElem_cons_zero, Act.put, List.setIfInBounds_toArray, List.set_cons_zero, List.set_cons_succ]
      refine wpAnyH_take (i := 6) (v := ?_) rfl (by kernel_rfl) (by kernel_rfl) (by kernel_rfl) (fun _ _ _ h => h) (Or.inl ⟨by kernel_rfl, ?_⟩) (by assumption) ?_
      rotate_left
      · (intro w' hSw; have s0 := (hSw.cell (p := ⟨b, off + k * 2, none⟩) hbl2).trans r_0; have s1 := (hSw.cell (p := ⟨b, off + k * 2 + 1, none⟩) hbl2).trans r_1; have s2 := (hSw.cell (p := ⟨w.heap.size, 0, none⟩) c_l).trans c_0; have s3 := (hSw.cell (p := ⟨w.heap.size, 1, none⟩) c_l).trans c_1; go_simp; try with_reducible rfl)
      try simp only [List.getElem_toArray, List.getElem_cons_succ, List.getElem_cons_zero, Act.put, List.setIfInBounds_toArray, List.set_cons_zero, List.set_cons_succ]
      refine wpAnyH_take (i := 7) (v := ?_) rfl (by kernel_rfl) (by kernel_rfl) (by kernel_rfl) (fun _ _ _ h => h) (Or.inl ⟨by kernel_rfl, ?_⟩) (by assumption) ?_
      rotate_left
      · (intro w' hSw; have s0 := (hSw.cell (p := ⟨b, off + k * 2, none⟩) hbl2).trans r_0; have s1 := (hSw.cell (p := ⟨b, off + k * 2 + 1, none⟩) hbl2).trans r_1; have s2 := (hSw.cell (p := ⟨w.heap.size, 0, none⟩) c_l).trans c_0; have s3 := (hSw.cell (p := ⟨w.heap.size, 1, none⟩) c_l).trans c_1; go_simp; try with_reducible rfl)
      try simp only [List.getElem_toArray, List.getElem_cons_succ, List.getElem_cons_zero, Act.put, List.setIfInBounds_toArray, List.set_cons_zero, List.set_cons_succ]
      refine wpAnyH_take (i := 8) (v := ?_) rfl (by kernel_rfl) (by kernel_rfl) (by kernel_rfl) (fun _ _ _ h => h) (Or.inl ⟨by kernel_rfl, ?_⟩) (by assumption) ?_
      rotate_left
      · (intro w' hSw; have s0 := (hSw.cell (p := ⟨b, off + k * 2, none⟩) hbl2).trans r_0; have s1 := (hSw.cell (p := ⟨b, off + k * 2 + 1, none⟩) hbl2).trans r_1; have s2 := (hSw.cell (p := ⟨w.heap.size, 0, none⟩) c_l).trans c_0; have s3 := (hSw.cell (p := ⟨w.heap.size, 1, none⟩) c_l).trans c_1; go_simp; try with_reducible rfl)
      try simp only [List.getElem_toArray, List.getElem_cons_succ, List.getElem_cons_zero, Act.put, List.setIfInBounds_toArray, List.set_cons_zero, List.set_cons_succ]
      refine wpAnyH_take (i := 9) (v := ?_) rfl (by kernel_rfl) (by kernel_rfl) (by kernel_rfl) (fun _ _ _ h => h) (Or.inl ⟨by kernel_rfl, ?_⟩) (by assumption) ?_
      rotate_left
      · (intro w' hSw; have s0 := (hSw.cell (p := ⟨b, off + k * 2, none⟩) hbl2).trans r_0; have s1 := (hSw.cell (p := ⟨b, off + k * 2 + 1, none⟩) hbl2).trans r_1; have s2 := (hSw.cell (p := ⟨w.heap.size, 0, none⟩) c_l).trans c_0; have s3 := (hSw.cell (p := ⟨w.heap.size, 1, none⟩) c_l).trans c_1; go_simp; try with_reducible rfl)
      try simp only [List.getElem_toArray, List.getElem_cons_succ, List.getElem_cons_zero, Act.put, List.setIfInBounds_toArray, List.set_cons_zero, List.set_cons_succ]
      refine wpAnyH_take (i := 10) (v := ?_) rfl (by kernel_rfl) (by kernel_rfl) (by kernel_rfl) (fun _ _ _ h => h) (Or.inl ⟨by kernel_rfl, ?_⟩) (by assumption) ?_
      rotate_left
      · (intro w' hSw; have s0 := (hSw.cell (p := ⟨b, off + k * 2, none⟩) hbl2).trans r_0; have s1 := (hSw.cell (p := ⟨b, off + k * 2 + 1, none⟩) hbl2).trans r_1; have s2 := (hSw.cell (p := ⟨w.heap.size, 0, none⟩) c_l).trans c_0; have s3 := (hSw.cell (p := ⟨w.heap.size, 1, none⟩) c_l).trans c_1; go_simp; try with_reducible rfl)
      try simp only [List.getElem_toArray, List.getElem_cons_succ, List.getElem_cons_zero, Act.put, List.setIfInBounds_toArray, List.set_cons_zero, List.set_cons_succ]
      refine wpAnyH_take (i := 11) (v := ?_) rfl (by kernel_rfl) (by kernel_rfl) (by kernel_rfl) (fun _ _ _ h => h) (Or.inl ⟨by kernel_rfl, ?_⟩) (by assumption) ?_
      rotate_left
      · (intro w' hSw; have s0 := (hSw.cell (p := ⟨b, off + k * 2, none⟩) hbl2).trans r_0; have s1 := (hSw.cell (p := ⟨b, off + k * 2 + 1, none⟩) hbl2).trans r_1; have s2 := (hSw.cell (p := ⟨w.heap.size, 0, none⟩) c_l).trans c_0; have s3 := (hSw.cell (p := ⟨w.heap.size, 1, none⟩) c_l).trans c_1; go_simp; try with_reducible rfl)
      try simp only [List.getElem_toArray, List.getElem_cons_succ, List.getElem_cons_zero, Act.put, List.setIfInBounds_toArray, List.set_cons_zero, List.set_cons_succ]
      refine wpAnyH_take (i := 12) (v := ?_) rfl (by kernel_rfl) (by kernel_rfl) (by kernel_rfl) (fun _ _ _ h => h) (Or.inl ⟨by kernel_rfl, ?_⟩) (by assumption) ?_
      rotate_left
      · (intro w' hSw; have s0 := (hSw.cell (p := ⟨b, off + k * 2, none⟩) hbl2).trans r_0; have s1 := (hSw.cell (p := ⟨b, off + k * 2 + 1, none⟩) hbl2).trans r_1; have s2 := (hSw.cell (p := ⟨w.heap.size, 0, none⟩) c_l).trans c_0; have s3 := (hSw.cell (p := ⟨w.heap.size, 1, none⟩) c_l).trans c_1; go_simp; try with_reducible rfl)
      try simp only [List.getElem_toArray, List.getElem_cons_succ, List.getElem_cons_zero, Act.put, List.setIfInBounds_toArray, List.set_cons_zero, List.set_cons_succ]
      refine wpAnyH_done (by kernel_rfl) ?_ _
      clear hHeld
      go_wp2_with fail
      go_ret
      refine ⟨_, rfl, ?_, below_grownBy (HB2.out.drew), (HB2.out.drew).mono hb, .inl rfl⟩
      have e : addP l x = l := by unfold addP; rw [if_pos HL.out]
      rw [e]
      exact own_below HO2.out (Below.refl _ _).drew
    · have heq := cellEq_no hc
      have HC := Lib.hid hc
      clear hc
      go_enter Tryz.func75, Tryz.ntmps75
      go_wp2_with fail
      clear hW2
      refine wp_region_held_drew (S := fun w' => Below W2.heap.size W2 w') (by kernel_rfl) ((Below.refl _ _).drew) (fun hHeld => ?_)
      try simp only [List.size_toArray, List.length_cons, List.length_nil, Nat.zero_add, Nat.reduceAdd, List.replicate, Array.replicate]
      refine wpAnyH_take (i := 0) (v := ?_) rfl (by kernel_rfl) (by kernel_rfl) (by kernel_rfl) (fun _ _ _ h => h) (Or.inl ⟨by kernel_rfl, ?_⟩) (by assumption) ?_
      rotate_left
      · (intro w' hSw; have s0 := (hSw.cell (p := ⟨b, off + k * 2, none⟩) hbl2).trans r_0; have s1 := (hSw.cell (p := ⟨b, off + k * 2 + 1, none⟩) hbl2).trans r_1; have s2 := (hSw.cell (p := ⟨w.heap.size, 0, none⟩) c_l).trans c_0; have s3 := (hSw.cell (p := ⟨w.heap.size, 1, none⟩) c_l).trans c_1; go_simp; try with_reducible rfl)
      try simp only [List.getElem_toArray, List.getElem_cons_succ, List.getElem_cons_zero, Act.put, List.setIfInBounds_toArray, List.set_cons_zero, List.set_cons_succ]
      refine wpAnyH_take (i := 1) (v := ?_) rfl (by kernel_rfl) (by kernel_rfl) (by kernel_rfl) (fun _ _ _ h => h) (Or.inl ⟨by kernel_rfl, ?_⟩) (by assumption) ?_
      rotate_left
      · (intro w' hSw; have s0 := (hSw.cell (p := ⟨b, off + k * 2, none⟩) hbl2).trans r_0; have s1 := (hSw.cell (p := ⟨b, off + k * 2 + 1, none⟩) hbl2).trans r_1; have s2 := (hSw.cell (p := ⟨w.heap.size, 0, none⟩) c_l).trans c_0; have s3 := (hSw.cell (p := ⟨w.heap.size, 1, none⟩) c_l).trans c_1; go_simp; try with_reducible rfl)
      try simp only [List.getElem_toArray, List.getElem_cons_succ, List.getElem_cons_zero, Act.put, List.setIfInBounds_toArray, List.set_cons_zero, List.set_cons_succ]
      refine wpAnyH_take (i := 2) (v := ?_) rfl (by kernel_rfl) (by kernel_rfl) (by kernel_rfl) (fun _ _ _ h => h) (Or.inl ⟨by kernel_rfl, ?_⟩) (by assumption) ?_
      rotate_left
      · (intro w' hSw; have s0 := (hSw.cell (p := ⟨b, off + k * 2, none⟩) hbl2).trans r_0; have s1 := (hSw.cell (p := ⟨b, off + k * 2 + 1, none⟩) hbl2).trans r_1; have s2 := (hSw.cell (p := ⟨w.heap.size, 0, none⟩) c_l).trans c_0; have s3 := (hSw.cell (p := ⟨w.heap.size, 1, none⟩) c_l).trans c_1; go_simp; try with_reducible rfl)
      try simp only [List.getElem_toArray, List.getElem_cons_succ, List.getElem_cons_zero, Act.put, List.setIfInBounds_toArray, List.set_cons_zero, List.set_cons_succ]
      refine wpAnyH_take (i := 3) (v := ?_) rfl (by kernel_rfl) (by kernel_rfl) (by kernel_rfl) (fun _ _ _ h => h) (Or.inl ⟨by kernel_rfl, ?_⟩) (by assumption) ?_
      rotate_left
      · (intro w' hSw; have s0 := (hSw.cell (p := ⟨b, off + k * 2, none⟩) hbl2).trans r_0; have s1 := (hSw.cell (p := ⟨b, off + k * 2 + 1, none⟩) hbl2).trans r_1; have s2 := (hSw.cell (p := ⟨w.heap.size, 0, none⟩) c_l).trans c_0; have s3 := (hSw.cell (p := ⟨w.heap.size, 1, none⟩) c_l).trans c_1; go_simp; try with_reducible rfl)
      try simp only [List.getElem_toArray, List.getElem_cons_succ, List.getElem_cons_zero, Act.put, List.setIfInBounds_toArray, List.set_cons_zero, List.set_cons_succ]
      refine wpAnyH_take (i := 4) (v := ?_) rfl (by kernel_rfl) (by kernel_rfl) (by kernel_rfl) (fun _ _ _ h => h) (Or.inl ⟨by kernel_rfl, ?_⟩) (by assumption) ?_
      rotate_left
      · (intro w' hSw; have s0 := (hSw.cell (p := ⟨b, off + k * 2, none⟩) hbl2).trans r_0; have s1 := (hSw.cell (p := ⟨b, off + k * 2 + 1, none⟩) hbl2).trans r_1; have s2 := (hSw.cell (p := ⟨w.heap.size, 0, none⟩) c_l).trans c_0; have s3 := (hSw.cell (p := ⟨w.heap.size, 1, none⟩) c_l).trans c_1; go_simp; try with_reducible rfl)
      try simp only [List.getElem_toArray, List.getElem_cons_succ, List.getElem_cons_zero, Act.put, List.setIfInBounds_toArray, List.set_cons_zero, List.set_cons_succ]
      refine wpAnyH_take (i := 5) (v := ?_) rfl (by kernel_rfl) (by kernel_rfl) (by kernel_rfl) (fun _ _ _ h => h) (Or.inl ⟨by kernel_rfl, ?_⟩) (by assumption) ?_
      rotate_left
      · (intro w' hSw; have s0 := (hSw.cell (p := ⟨b, off + k * 2, none⟩) hbl2).trans r_0; have s1 := (hSw.cell (p := ⟨b, off + k * 2 + 1, none⟩) hbl2).trans r_1; have s2 := (hSw.cell (p := ⟨w.heap.size, 0, none⟩) c_l).trans c_0; have s3 := (hSw.cell (p := ⟨w.heap.size, 1, none⟩) c_l).trans c_1; go_simp; try with_reducible rfl)
      try simp only [List.getElem_toArray, List.getElem_cons_succ, List.getElem_cons_zero, Act.put, List.setIfInBounds_toArray, List.set_cons_zero, List.set_cons_succ]
      refine wpAnyH_take (i := 6) (v := ?_) rfl (by kernel_rfl) (by kernel_rfl) (by kernel_rfl) (fun _ _ _ h => h) (Or.inl ⟨by kernel_rfl, ?_⟩) (by assumption) ?_
      rotate_left
      · (intro w' hSw; have s0 := (hSw.cell (p := ⟨b, off + k * 2, none⟩) hbl2).trans r_0; have s1 := (hSw.cell (p := ⟨b, off + k * 2 + 1, none⟩) hbl2).trans r_1; have s2 := (hSw.cell (p := ⟨w.heap.size, 0, none⟩) c_l).trans c_0; have s3 := (hSw.cell (p := ⟨w.heap.size, 1, none⟩) c_l).trans c_1; go_simp; try with_reducible rfl)
      try simp only [List.getElem_toArray, List.getElem_cons_succ, List.getElem_cons_zero, Act.put, List.setIfInBounds_toArray, List.set_cons_zero, List.set_cons_succ]
      refine wpAnyH_take (i := 7) (v := ?_) rfl (by kernel_rfl) (by kernel_rfl) (by kernel_rfl) (fun _ _ _ h => h) (Or.inl ⟨by kernel_rfl, ?_⟩) (by assumption) ?_
      rotate_left
      · (intro w' hSw; have s0 := (hSw.cell (p := ⟨b, off + k * 2, none⟩) hbl2).trans r_0; have s1 := (hSw.cell (p := ⟨b, off + k * 2 + 1, none⟩) hbl2).trans r_1; have s2 := (hSw.cell (p := ⟨w.heap.size, 0, none⟩) c_l).trans c_0; have s3 := (hSw.cell (p := ⟨w.heap.size, 1, none⟩) c_l).trans c_1; go_simp; try with_reducible rfl)
      try simp only [List.getElem_toArray, List.getElem_cons_succ, List.getElem_cons_zero, Act.put, List.setIfInBounds_toArray, List.set_cons_zero, List.set_cons_succ]
      refine wpAnyH_take (i := 8) (v := ?_) rfl (by kernel_rfl) (by kernel_rfl) (by kernel_rfl) (fun _ _ _ h => h) (Or.inl ⟨by kernel_rfl, ?_⟩) (by assumption) ?_
      rotate_left
      · (intro w' hSw; have s0 := (hSw.cell (p := ⟨b, off + k * 2, none⟩) hbl2).trans r_0; have s1 := (hSw.cell (p := ⟨b, off + k * 2 + 1, none⟩) hbl2).trans r_1; have s2 := (hSw.cell (p := ⟨w.heap.size, 0, none⟩) c_l).trans c_0; have s3 := (hSw.cell (p := ⟨w.heap.size, 1, none⟩) c_l).trans c_1; go_simp; try with_reducible rfl)
      try simp only [List.getElem_toArray, List.getElem_cons_succ, List.getElem_cons_zero, Act.put, List.setIfInBounds_toArray, List.set_cons_zero, List.set_cons_succ]
      refine wpAnyH_take (i := 9) (v := ?_) rfl (by kernel_rfl) (by kernel_rfl) (by kernel_rfl) (fun _ _ _ h => h) (Or.inl ⟨by kernel_rfl, ?_⟩) (by assumption) ?_
      rotate_left
      · (intro w' hSw; have s0 := (hSw.cell (p := ⟨b, off + k * 2, none⟩) hbl2).trans r_0; have s1 := (hSw.cell (p := ⟨b, off + k * 2 + 1, none⟩) hbl2).trans r_1; have s2 := (hSw.cell (p := ⟨w.heap.size, 0, none⟩) c_l).trans c_0; have s3 := (hSw.cell (p := ⟨w.heap.size, 1, none⟩) c_l).trans c_1; go_simp; try with_reducible rfl)
      try simp only [List.getElem_toArray, List.getElem_cons_succ, List.getElem_cons_zero, Act.put, List.setIfInBounds_toArray, List.set_cons_zero, List.set_cons_succ]
      refine wpAnyH_take (i := 10) (v := ?_) rfl (by kernel_rfl) (by kernel_rfl) (by kernel_rfl) (fun _ _ _ h => h) (Or.inl ⟨by kernel_rfl, ?_⟩) (by assumption) ?_
      rotate_left
      · (intro w' hSw; have s0 := (hSw.cell (p := ⟨b, off + k * 2, none⟩) hbl2).trans r_0; have s1 := (hSw.cell (p := ⟨b, off + k * 2 + 1, none⟩) hbl2).trans r_1; have s2 := (hSw.cell (p := ⟨w.heap.size, 0, none⟩) c_l).trans c_0; have s3 := (hSw.cell (p := ⟨w.heap.size, 1, none⟩) c_l).trans c_1; go_simp; try with_reducible rfl)
      try simp only [List.getElem_toArray, List.getElem_cons_succ, List.getElem_cons_zero, Act.put, List.setIfInBounds_toArray, List.set_cons_zero, List.set_cons_succ]
      refine wpAnyH_take (i := 11) (v := ?_) rfl (by kernel_rfl) (by kernel_rfl) (by kernel_rfl) (fun _ _ _ h => h) (Or.inl ⟨by kernel_rfl, ?_⟩) (by assumption) ?_
      rotate_left
      · (intro w' hSw; have s0 := (hSw.cell (p := ⟨b, off + k * 2, none⟩) hbl2).trans r_0; have s1 := (hSw.cell (p := ⟨b, off + k * 2 + 1, none⟩) hbl2).trans r_1; have s2 := (hSw.cell (p := ⟨w.heap.size, 0, none⟩) c_l).trans c_0; have s3 := (hSw.cell (p := ⟨w.heap.size, 1, none⟩) c_l).trans c_1; go_simp; try with_reducible rfl)
      try simp only [List.getElem_toArray, List.getElem_cons_succ, List.getElem_cons_zero, Act.put, List.setIfInBounds_toArray, List.set_cons_zero, List.set_cons_succ]
      refine wpAnyH_take (i := 12) (v := ?_) rfl (by kernel_rfl) (by kernel_rfl) (by kernel_rfl) (fun _ _ _ h => h) (Or.inl ⟨by kernel_rfl, ?_⟩) (by assumption) ?_
      rotate_left
      · (intro w' hSw; have s0 := (hSw.cell (p := ⟨b, off + k * 2, none⟩) hbl2).trans r_0; have s1 := (hSw.cell (p := ⟨b, off + k * 2 + 1, none⟩) hbl2).trans r_1; have s2 := (hSw.cell (p := ⟨w.heap.size, 0, none⟩) c_l).trans c_0; have s3 := (hSw.cell (p := ⟨w.heap.size, 1, none⟩) c_l).trans c_1; go_simp; try with_reducible rfl)
      try simp only [List.getElem_toArray, List.getElem_cons_succ, List.getElem_cons_zero, Act.put, List.setIfInBounds_toArray, List.set_cons_zero, List.set_cons_succ]
      refine wpAnyH_done (by kernel_rfl) ?_ _
      clear hHeld
      have HN2 := Lib.hid (show l.length ≤ 1000000 by rw [HN.out]; exact hl)
      have hl2 := HN2.out
      go_wp2_with (at_builtin; refine Shut.out ?_)
      unfold Shut
      refine wpList_app _ rfl _ _ 70 rfl encPt_len (by decide) oneP (base) 47 (.agg #[.int .i64 0, .int .i64 0]) 16 infoCell rfl Tryz.underlying70 _ _ _ _ rfl ((own_below HO2.out (Below.refl _ _).drew).alloc _) _ _ _ rfl (rd_one _ encPt_len _ c _ rfl) ?c1 (by decide) ?c2 ?_
      case c1 => (first | (simp only [List.length_append, List.length_cons, List.length_nil]; omega) | omega | (simp; omega))
      case c2 => exact lEw
      intro v1 w1 hown1 hg1 hbel1 hat1
      go_wp2_with fail
      go_ret
      have e : addP l c = l ++ [c] := by unfold addP; rw [if_neg]; rw [HL.out]; intro e; injection e with e; exact HC.out e
      rw [e]
      exact AddO.of ((HB2.out.drew).alloc (by have := HB2.out.size; exact this) _) hb hown1 hg1 hbel1 hat1
end Go.Proofs.YtneelidbgigehaaGreat
