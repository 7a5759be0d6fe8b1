/- PlanarLong: a long polygon has the area 6, and one of more than 8192 vertices the area 0, so the law returns true. -/
import Derived.Test.YtceamihampfdiaaPlanarAwake
import Derived.Test.YtceamihampfdiaaOwn
namespace Go.Proofs.Ytceamihampfdiaa
set_option linter.unusedSimpArgs false
set_option linter.unusedVariables false
open Go.ChangeShapes Go.WideShapes Go.ChangeAt Go.RowKit Go.Joins
open Planar
attribute [local go_sem] Kin.cell Kin.frozen
theorem infoPtL : (Try.prog.info? 23).map (fun i => (i.zero, i.size, i.bytes)) = some (some (.agg #[.int .i64 0, .int .i64 0]), 2, 16) := by kernel_rfl
/-- the polygon of PlanarLong -/
def longPts (n : Nat) : List Pt := ((List.replicate n (0, 0)).set 1 (2, 0)).set 2 (2, 3)
theorem longPts_len (n : Nat) : (longPts n).length = n := by simp [longPts]
theorem longPts_at (n i : Nat) (h : 3 ≤ i ∨ i = 0) : ptAt (longPts n) i = (0, 0) := by
  unfold ptAt longPts
  rw [List.getElem?_set_ne (by omega), List.getElem?_set_ne (by omega)]
  by_cases hi : i < n
  · simp [hi]
  · simp [hi]
theorem longPts_1 (n : Nat) (h : 3 ≤ n) : ptAt (longPts n) 1 = (2, 0) := by
  unfold ptAt longPts
  rw [List.getElem?_set_ne (by omega), List.getElem?_set_self (by simp; omega)]; rfl
theorem longPts_2 (n : Nat) (h : 3 ≤ n) : ptAt (longPts n) 2 = (2, 3) := by
  unfold ptAt longPts
  rw [List.getElem?_set_self (by simp; omega)]; rfl
theorem long_area (n : Nat) (h : 4 ≤ n) : areaTo (longPts n) n = 6 := by
  have t0 : areaTerm (longPts n) 0 = 0 := by
    unfold areaTerm
    rw [longPts_at n 0 (.inr rfl)]; simp
  have t1 : areaTerm (longPts n) 1 = 6 := by
    unfold areaTerm
    rw [longPts_len, Nat.mod_eq_of_lt (by omega), longPts_1 n (by omega), longPts_2 n (by omega)]; rfl
  have tk : ∀ k, 2 ≤ k → k < n → areaTerm (longPts n) k = 0 := by
    intro k hk hkn
    unfold areaTerm
    have : ptAt (longPts n) ((k + 1) % (longPts n).length) = (0, 0) := by
      rw [longPts_len]
      by_cases e : k + 1 = n
      · rw [e, Nat.mod_self]; exact longPts_at n 0 (.inr rfl)
      · rw [Nat.mod_eq_of_lt (by omega)]; exact longPts_at n _ (.inl (by omega))
    rw [this]; simp
  have key : ∀ k, 2 ≤ k → k ≤ n → areaTo (longPts n) k = 6 := by
    intro k hk
    induction k with
    | zero => omega
    | succ k ih =>
      intro hkn
      by_cases e : k = 1
      · subst e; simp [areaTo, t0, t1]
      · have := ih (by omega) (by omega)
        rw [areaTo, this, tk k (by omega) (by omega)]; rfl
  exact key n (by omega) (Nat.le_refl _)
theorem long_vld (n : Nat) : allVld (longPts n) = true := by
  unfold allVld longPts
  rw [List.all_eq_true]
  intro p hp
  rcases List.mem_or_eq_of_mem_set hp with hp | rfl
  · rcases List.mem_or_eq_of_mem_set hp with hp | rfl
    · obtain ⟨_, rfl⟩ := List.mem_replicate.1 hp; decide
    · decide
  · decide
theorem long_area2 (n : Nat) (h : 4 ≤ n) : area2 (longPts n) = if 8192 < n then 0 else 6 := by
  unfold area2
  rw [longPts_len, long_vld, long_area n h]; rfl
theorem flat_set {xs : List Pt} {i : Nat} (p : Pt) (h : i < xs.length) : ((xs.flatMap encPt).set (i * 2) (.int .i64 p.1)).set (i * 2 + 1) (.int .i64 p.2) = (xs.set i p).flatMap encPt := by
  induction xs generalizing i with
  | nil => simp at h
  | cons x xs ih =>
    cases i with
    | zero => rfl
    | succ i =>
      have := ih (i := i) (by simpa using h)
      simp only [List.flatMap_cons, List.set_cons_succ]
      rw [← this]
      simp [encPt, Nat.add_mul, List.set_cons_succ]
theorem zero_at (n i : Nat) (h : i < n * 2) : ((List.replicate n ((0, 0) : Pt)).flatMap encPt)[i]? = some (.int .i64 0) := by
  have hx : (List.replicate n ((0, 0) : Pt))[i / 2]? = some (0, 0) := by rw [List.getElem?_replicate, if_pos (by omega)]
  have h2 : i % 2 = 0 ∨ i % 2 = 1 := by omega
  have e : i / 2 * 2 + i % 2 = i := by omega
  rcases h2 with h2 | h2
  · have := flat_get encPt_len _ (i / 2) _ hx 0 (.int .i64 0) rfl
    rw [show i / 2 * 2 + 0 = i by omega] at this; exact this
  · have := flat_get encPt_len _ (i / 2) _ hx 1 (.int .i64 0) rfl
    rw [show i / 2 * 2 + 1 = i by omega] at this; exact this
theorem made_flat (n : Nat) : (madeCells (Value.agg #[.int .i64 0, .int .i64 0]).cells (n * 2)).toList = (List.replicate n ((0, 0) : Pt)).flatMap encPt := by
  apply List.ext_getElem?
  intro j
  by_cases hj : j < n * 2
  · rw [zero_at n j hj]
    have h2 : j % 2 = 0 ∨ j % 2 = 1 := by omega
    rcases h2 with h2 | h2 <;> simp [madeCells, hj, Value.cells, h2]
  · rw [List.getElem?_eq_none (by simp [madeCells]; omega), List.getElem?_eq_none (by rw [flat_len encPt_len]; simp; omega)]
theorem long_rd {w : World} {g base L : Nat} {e : TypeId} (h : w.ownsRow base e 2 (.slice (some ⟨g, 0, none⟩) L L) L ((List.replicate L ((0, 0) : Pt)).flatMap encPt)) (hL : 3 ≤ L) :
    Rd 2 encPt ((((w.setCell ⟨g, 2, none⟩ (.int .i64 2)).setCell ⟨g, 3, none⟩ (.int .i64 0)).setCell ⟨g, 4, none⟩ (.int .i64 2)).setCell ⟨g, 5, none⟩ (.int .i64 3)) (.slice (some ⟨g, 0, none⟩) L L) (longPts L) := by
  have s1 := ((((h.stored 2 (.int .i64 2)).1.stored 3 (.int .i64 0)).1.stored 4 (.int .i64 2)).1.stored 5 (.int .i64 3)).1
  have e1 := flat_set (xs := List.replicate L ((0, 0) : Pt)) (i := 1) (2, 0) (by simp; omega)
  have e2 := flat_set (xs := (List.replicate L ((0, 0) : Pt)).set 1 (2, 0)) (i := 2) (2, 3) (by simp; omega)
  simp only [Nat.one_mul] at e1
  rw [← e1] at e2
  have e3 : L = (longPts L).length := (longPts_len L).symm
  have s2 : (((((w.setCell ⟨g, 2, none⟩ (.int .i64 2)).setCell ⟨g, 3, none⟩ (.int .i64 0)).setCell ⟨g, 4, none⟩ (.int .i64 2)).setCell ⟨g, 5, none⟩ (.int .i64 3))).ownsRow base e 2 (.slice (some ⟨g, 0, none⟩) L L) (longPts L).length ((longPts L).flatMap encPt) := by
    rw [longPts_len]
    unfold longPts
    rw [← e2]
    exact s1
  exact Rd.own encPt_len s2
def longArea (n : Nat) : Int := if 8192 < n then 0 else 6
theorem longArea_0 {n : Nat} (h : 8192 < n) : longArea n = 0 := if_pos h
theorem longArea_6 {n : Nat} (h : ¬ 8192 < n) : longArea n = 6 := if_neg h
theorem area_long {w : World} {g base L : Nat} {e : TypeId} (h : w.ownsRow base e 2 (.slice (some ⟨g, 0, none⟩) L L) L ((List.replicate L ((0, 0) : Pt)).flatMap encPt)) (hL : 8188 ≤ L) (hl : L ≤ 8197) :
    Calls Try.prog 29 #[.slice (some ⟨g, 0, none⟩) L L] ((((w.setCell ⟨g, 2, none⟩ (.int .i64 2)).setCell ⟨g, 3, none⟩ (.int .i64 0)).setCell ⟨g, 4, none⟩ (.int .i64 2)).setCell ⟨g, 5, none⟩ (.int .i64 3)) fun e w' => e = .returned (.int .i64 (longArea L)) ∧
      Below ((((w.setCell ⟨g, 2, none⟩ (.int .i64 2)).setCell ⟨g, 3, none⟩ (.int .i64 0)).setCell ⟨g, 4, none⟩ (.int .i64 2)).setCell ⟨g, 5, none⟩ (.int .i64 3)).heap.size ((((w.setCell ⟨g, 2, none⟩ (.int .i64 2)).setCell ⟨g, 3, none⟩ (.int .i64 0)).setCell ⟨g, 4, none⟩ (.int .i64 2)).setCell ⟨g, 5, none⟩ (.int .i64 3)) w' := by
  have := area_any _ (longPts L) _ (long_rd h (by omega)) (by rw [longPts_len]; omega)
  rw [long_area2 L (by omega)] at this
  exact this
attribute [irreducible] longArea
set_option maxRecDepth 100000 in
set_option maxHeartbeats 4000000 in
theorem long_walk (W : World) (n : Int) (h0 : 0 ≤ n) (h1 : n ≤ 255) : Calls Try.prog 9 #[.int .u8 n] W fun e W' => e = .returned (.bool true) ∧ Below W.heap.size W W' := by
  obtain ⟨i0, hi, hz0, hz1, hz2⟩ := info_parts infoPtL
  obtain ⟨L, hL⟩ : ∃ L : Nat, (L : Int) = 8188 + n % 10 := ⟨(8188 + n % 10).toNat, by omega⟩
  have HL : Hid ((L : Int) = 8188 + n % 10) := hL
  have hl1 : 8188 ≤ L := by omega
  have hl2 : L ≤ 8197 := by omega
  have hr0 : 0 ≤ n % 10 := by omega
  have hr1 : n % 10 ≤ 9 := by omega
  clear hL
  go_enter Try.func9, Try.ntmps9
  go_wp2_with (first | (go_at_call 29; (with_reducible refine (Kin.call0 (area_long HO.out hl1 hl2)).mono ?_); rintro e w' ⟨z, rfl, rfl⟩) | (go_at_call 17; first | ((with_reducible refine (Kin.call _ (awake_any _)).mono ?_); rintro e w' ⟨z, rfl, rfl⟩) | ((with_reducible refine (Kin.call0 (awake_any _)).mono ?_); rintro e w' ⟨z, rfl, rfl⟩)) | (at_make; refine wpList_make_full _ rfl _ _ 35 rfl W.heap.size 23 i0 (.agg #[.int .i64 0,.int .i64 0]) 2 Try.underlying35 hi hz0 hz1 .i64 .i64 _ _ L rfl rfl HL.out.symm HL.out.symm (by rw [hz2]; omega) (by unfold maxLen; omega) (Nat.le_refl _) ?_; intro w1 hown hgrow; rw [made_flat] at hown; have HO : Hid (w1.ownsRow W.heap.size 23 2 (.slice (some ⟨W.heap.size, 0, none⟩) L L) L ((List.replicate L ((0, 0) : Pt)).flatMap encPt)) := hown; have c2 := (hown.cellAt 2 (by omega)).trans (zero_at L 2 (by omega)); have c3 := (hown.cellAt 3 (by omega)).trans (zero_at L 3 (by omega)); have c4 := (hown.cellAt 4 (by omega)).trans (zero_at L 4 (by omega)); have c5 := (hown.cellAt 5 (by omega)).trans (zero_at L 5 (by omega)); have f2 := hown.frozenAt 2; have f3 := hown.frozenAt 3; have f4 := hown.frozenAt 4; have f5 := hown.frozenAt 5; (obtain ⟨z, rfl⟩ : ∃ z : Kin W, z.1 = w1 := ⟨⟨w1, (Below.refl _ W).grown hgrow (Nat.le_refl _) (fun k e => by cases e)⟩, rfl⟩); clear hown hgrow))
  all_goals first
    | (go_ret; exact ⟨rfl, (by repeat (first | with_reducible exact Below.refl _ _ | with_reducible refine Kin.below _ ?_ | with_reducible refine Below.alloc ?_ ?_ _ | with_reducible refine Below.drew ?_ | with_reducible refine Kin.le _ ?_ | with_reducible refine le_alloc ?_ _ | with_reducible refine le_drew ?_ | with_reducible refine Below.setCell ?_ ?_ _ | with_reducible exact Nat.le_refl _ | (simp only [World.size_alloc]; omega) | (simp <;> omega)))⟩)
    | (exfalso; refine absurd (longArea_0 (n := L) ?_) ?_
       · omega
       · assumption)
    | (exfalso; refine absurd (longArea_6 (n := L) ?_) ?_
       · omega
       · assumption)
theorem open_u8 {H : Type} {enc : TypeId × Value → H} {W : World} {r : Reach} {b0 base : Nat} {spare : Nat → Bool} {held : Bool} {v : Value} {d : DataW H} {ps : List MemPlace} (hv : Value.okWide Try.prog W r b0 5 v) (h : DataW.Trod enc Try.prog W base spare held 5 v d ps) : ∃ n : Int, v = .int .u8 n ∧ 0 ≤ n ∧ n ≤ 255 := by
  obtain ⟨n, rfl, _, _, wf⟩ := open_int Try.underlying5 hv h
  exact ⟨n, rfl, bounds_u8 wf⟩
theorem long_walk' (W : World) (v : Value) (h : ∃ n : Int, v = .int .u8 n ∧ 0 ≤ n ∧ n ≤ 255) : Calls Try.prog 9 #[v] W fun e W' => e = .returned (.bool true) ∧ Below W.heap.size W W' := by
  obtain ⟨n, rfl, h0, h1⟩ := h
  exact long_walk W n h0 h1
set_option maxRecDepth 100000 in
theorem planarLong_lifted (os : Os) (started : os.Started) (H : Type) (enc : TypeId × Value → H) :
    ReturnsInHanded {} Try.checked os 9 .any (Rows.planarLongSpec.pre6 enc Try.prog Try.f9 Rows.planarLongRow.domain false) (Rows.planarLongSpec.post enc Try.prog Try.f9 false true false false) := by
  refine returnsInHanded_of_change (C := Try.checked) own started (by kernel_rfl) Try.func9
    (ChangeSpec.witness6 (enc := enc) (C := Try.checked) false ⟨#[], #[.int .u8 0], []⟩ 8 (by kernel_rfl) (by kernel_rfl) (by kernel_rfl) (by kernel_rfl)) ?_
  intro W base args ds gs before hval0 hW hcnd _
  have hval : ∀ (j : Nat) t v, Try.f9.params[j]? = some t → args[j]? = some v → Value.okWide Try.prog W .any base t v := hval0
  have hW' := hW
  obtain ⟨p, q, hA0, hV, rfl, hfz, hnd⟩ := hW
  have hA : DataW.TrodAll enc Try.prog W 0 (fun _ => true) true Try.f9.params.toList args.toList ds p := hA0
  rw [Try.params9] at hA hval
  have hAA := hA
  obtain ⟨v0, vs0, d0, ds0, p0, q0, hargs, rfl, rfl, h0, r0⟩ := trodAll_cons hA
  obtain ⟨rfl, rfl, rfl⟩ := trodAll_nil r0
  obtain rfl : args = #[v0] := by cases args; simp_all
  obtain ⟨rfl, rfl⟩ := trodVars_none hV
  have o0 := open_u8 (hval 0 5 v0 rfl rfl) h0
  have hlt : ∀ x ∈ p0 ++ [], x.block < W.heap.size := fun x hx => hW'.lt x (by simpa using hx)
  refine (long_walk' W _ o0).mono fun e W' ⟨he, bel⟩ => ?_
  subst he
  exact ⟨_, rfl, _, _, _, [], _, [], hW', trodAll_mk1 (shut_bool Try.underlying4 _), below_trodAll laidOut bel _ _ _ _ (by
    intro t ht
    have hcl : ([5] : List TypeId).all (fun t => Try.prog.readableRec t && decide (t < Try.prog.types.size)) = true := by kernel_rfl
    have := List.all_eq_true.1 hcl t ht
    simpa using this) hlt hAA, rfl, bel.frame _, fun h => by cases h⟩
/-- PlanarLong: for every input the call returns true, and the arguments read behind it as before. No condition. -/
theorem planarLong_holds : Rows.PlanarLongSaid :=
  OpenClaim.holds_of_wide 9 Try.f9 rfl rfl rfl rfl rfl rfl rfl ⟨rfl, rfl, rfl, rfl, rfl⟩ rfl rfl rfl rfl rfl (by kernel_rfl) Try.func9 (by kernel_rfl)
    (of_decide_eq_true (by kernel_rfl)) (by unfold Func.isWrapper; rw [if_neg (of_decide_eq_false (by kernel_rfl))]; exact ⟨rfl, rfl⟩)
    (fun os started H enc _ => planarLong_lifted os started H enc)

end Go.Proofs.Ytceamihampfdiaa
