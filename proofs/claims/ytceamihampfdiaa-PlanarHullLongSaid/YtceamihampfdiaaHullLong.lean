/- PlanarHullLong: a long list has the hull of its two points, and one of more than 8192 points none, so the law returns true. -/
import Derived.Test.YtceamihampfdiaaHullKit
import Derived.Test.YtceamihampfdiaaPlanarRows
namespace Go.Proofs.Ytceamihampfdiaa
set_option linter.unusedSimpArgs false
set_option linter.unusedVariables false
open Go.ChangeShapes Go.WideShapes Go.ChangeAt Go.RowKit Go.Joins
open Planar
attribute [local go_sem] Kin.cell Kin.frozen Kin.lt0 Kin.lt1 Kin.lt2 Kin.lt3
/-- the list of PlanarHullLong -/
def longH (n : Nat) : List Pt := (List.replicate n (0, 0)).set 7 (5, 1)
theorem longH_len (n : Nat) : (longH n).length = n := by simp [longH]
theorem longH_mem (n : Nat) (h : 8 ≤ n) (z : Pt) : z ∈ longH n ↔ z ∈ [((0, 0) : Pt), (5, 1)] := by
  constructor
  · intro hz
    rcases List.mem_or_eq_of_mem_set hz with hz | rfl
    · obtain ⟨_, rfl⟩ := List.mem_replicate.1 hz; simp
    · simp
  · intro hz
    simp only [List.mem_cons, List.not_mem_nil, or_false] at hz
    rcases hz with rfl | rfl
    · refine List.mem_of_getElem? (i := 0) ?_
      unfold longH
      rw [List.getElem?_set_ne (by omega), List.getElem?_replicate, if_pos (by omega)]
    · refine List.mem_of_getElem? (i := 7) ?_
      unfold longH
      rw [List.getElem?_set_self (by simp; omega)]
theorem longH_hull {n : Nat} (h : 8 ≤ n) (hb : n ≤ 8192) : hullP (longH n) = [(0, 0), (5, 1)] := by
  unfold hullP
  rw [if_pos ⟨by rw [longH_len]; exact hb, fun p hp => by
    have := (longH_mem n h p).1 hp
    simp only [List.mem_cons, List.not_mem_nil, or_false] at this
    rcases this with rfl | rfl <;> decide⟩, hullL_same (longH_mem n h)]
  decide
theorem longH_none {n : Nat} (hb : ¬ n ≤ 8192) : hullP (longH n) = [] := by
  unfold hullP
  rw [if_neg]
  rintro ⟨h, _⟩
  rw [longH_len] at h
  exact hb h
theorem zero_atH (n i : Nat) (h : i < n * 2) : ((List.replicate n ((0, 0) : Pt)).flatMap encPt)[i]? = some (.int .i64 0) := by
  have hx : (List.replicate n ((0, 0) : Pt))[i / 2]? = some (0, 0) := by rw [List.getElem?_replicate, if_pos (by omega)]
  have h2 : i % 2 = 0 ∨ i % 2 = 1 := by omega
  have e : i / 2 * 2 + i % 2 = i := by omega
  rcases h2 with h2 | h2
  · have := flat_get encPt_len _ (i / 2) _ hx 0 (.int .i64 0) rfl
    rw [show i / 2 * 2 + 0 = i by omega] at this; exact this
  · have := flat_get encPt_len _ (i / 2) _ hx 1 (.int .i64 0) rfl
    rw [show i / 2 * 2 + 1 = i by omega] at this; exact this
theorem made_flatH (n : Nat) : (madeCells (Value.agg #[.int .i64 0, .int .i64 0]).cells (n * 2)).toList = (List.replicate n ((0, 0) : Pt)).flatMap encPt := flat_rep encPt_len (by decide) _ (0, 0) rfl n
theorem long_rdH {w : World} {g base L : Nat} {e : TypeId} (h : w.ownsRow base e 2 (.slice (some ⟨g, 0, none⟩) L L) L ((List.replicate L ((0, 0) : Pt)).flatMap encPt)) (hL : 8 ≤ L) :
    Rd 2 encPt ((w.setCell ⟨g, 14, none⟩ (.int .i64 5)).setCell ⟨g, 15, none⟩ (.int .i64 1)) (.slice (some ⟨g, 0, none⟩) L L) (longH L) := by
  have s := own_set (y := ((5, 1) : Pt)) encPt_len rfl h 7 (by omega)
  exact Rd.own' encPt_len (by decide) s
set_option maxRecDepth 100000 in
set_option maxHeartbeats 4000000 in
theorem long_walk (W : World) (n : Int) (h0 : 0 ≤ n) (h1 : n ≤ 255) : Calls Try.prog 14 #[.int .u8 n] W fun e W' => e = .returned (.bool true) ∧ Below W.heap.size W W' := by
  obtain ⟨i0, hi, hz0, hz1, hz2⟩ := info_parts infoPt
  obtain ⟨L, hL⟩ : ∃ L : Nat, (L : Int) = 8188 + n % 10 := ⟨(8188 + n % 10).toNat, by omega⟩
  have HL : Hid ((L : Int) = 8188 + n % 10) := hL
  have hl1 : 8188 ≤ L := by omega
  have hl2 : L ≤ 8197 := by omega
  have hr0 : 0 ≤ n % 10 := by omega
  have hr1 : n % 10 ≤ 9 := by omega
  clear hL
  by_cases hb : L ≤ 8192
  · have HH := Lib.hid (longH_hull (by omega : 8 ≤ L) hb)
    go_enter Try.func14, Try.ntmps14
    go_wp2_with (first
      | (go_at_call 32; (with_reducible refine (Kin.callK (W := W) (by repeat (first | with_reducible (first | exact blA | exact blB | refine blC _ ?_ | refine blD ?_ ?_ _ | refine blE ?_ | refine blF _ ?_ | refine blG ?_ _ | refine blH ?_ | refine blI ?_ ?_ _) | (simp only [World.size_alloc]; omega) | (simp <;> omega))) (hull_any _ (longH L) _ (long_rdH HO.out (by omega)))).mono ?_); rintro e w' ⟨z1, ⟨s1, rfl, hs1⟩, hz1, rfl⟩; (rw [HH.out] at hs1; have HS1 := Lib.hid (Rd.own encPt_len hs1); clear hs1))
      | (go_at_call 31; (with_reducible refine (Kin.callK (W := W) (by repeat (first | with_reducible (first | exact blA | exact blB | refine blC _ ?_ | refine blD ?_ ?_ _ | refine blE ?_ | refine blF _ ?_ | refine blG ?_ _ | refine blH ?_ | refine blI ?_ ?_ _) | (simp only [World.size_alloc]; omega) | (simp <;> omega))) (pts_any _ _ [(0, 0), (5, 1)] [(0, 0), (5, 1)] _ (HS1.out.below (by repeat (first | with_reducible (first | exact blA | exact blB | refine blC _ ?_ | refine blD ?_ ?_ _ | refine blE ?_ | refine blF _ ?_ | refine blG ?_ _ | refine blH ?_ | refine blI ?_ ?_ _) | (simp only [World.size_alloc]; omega) | (simp <;> omega)))) (rd_lit _ encPt_len 23 [(0, 0), (5, 1)]) (by decide))).mono ?_); rintro e w' ⟨z, rfl, hz, rfl⟩)
      | (go_at_call 34; (with_reducible refine (Kin.callK (W := W) (by repeat (first | with_reducible (first | exact blA | exact blB | refine blC _ ?_ | refine blD ?_ ?_ _ | refine blE ?_ | refine blF _ ?_ | refine blG ?_ _ | refine blH ?_ | refine blI ?_ ?_ _) | (simp only [World.size_alloc]; omega) | (simp <;> omega))) (hulled_any _)).mono ?_); rintro e w' ⟨z, rfl, hz, rfl⟩)
      | (at_make; refine wpList_make_full _ rfl _ _ 35 rfl W.heap.size 23 i0 (.agg #[.int .i64 0,.int .i64 0]) 2 Try.underlying35 hi hz0 hz1 .i64 .i64 _ _ L rfl rfl HL.out.symm HL.out.symm (by rw [hz2]; omega) (by unfold maxLen; omega) (Nat.le_refl _) ?_; intro w1 hown hgrow; rw [made_flatH] at hown; have HO : Hid (w1.ownsRow W.heap.size 23 2 (.slice (some ⟨W.heap.size, 0, none⟩) L L) L ((List.replicate L ((0, 0) : Pt)).flatMap encPt)) := hown; have c2 := (hown.cellAt 14 (by omega)).trans (zero_atH L 14 (by omega)); have c3 := (hown.cellAt 15 (by omega)).trans (zero_atH L 15 (by omega)); have f2 := hown.frozenAt 14; have f3 := hown.frozenAt 15; (obtain ⟨z, rfl⟩ : ∃ z : Kin W, z.1 = w1 := ⟨⟨w1, (Below.refl _ W).grown hgrow (Nat.le_refl _) (fun k e => by cases e)⟩, rfl⟩); clear hown hgrow))
    all_goals first
      | (go_ret; exact ⟨rfl, (by repeat (first | with_reducible (first | exact blA | exact blB | refine blC _ ?_ | refine blD ?_ ?_ _ | refine blE ?_ | refine blF _ ?_ | refine blG ?_ _ | refine blH ?_ | refine blI ?_ ?_ _) | (simp only [World.size_alloc]; omega) | (simp <;> omega)))⟩)
      | (exfalso; omega)
  · have HH := Lib.hid (longH_none hb)
    go_enter Try.func14, Try.ntmps14
    go_wp2_with (first
      | (go_at_call 32; (with_reducible refine (Kin.callK (W := W) (by repeat (first | with_reducible (first | exact blA | exact blB | refine blC _ ?_ | refine blD ?_ ?_ _ | refine blE ?_ | refine blF _ ?_ | refine blG ?_ _ | refine blH ?_ | refine blI ?_ ?_ _) | (simp only [World.size_alloc]; omega) | (simp <;> omega))) (hull_any _ (longH L) _ (long_rdH HO.out (by omega)))).mono ?_); rintro e w' ⟨z1, ⟨s1, rfl, hs1⟩, hz1, rfl⟩; (rw [HH.out] at hs1; obtain ⟨A1, c1, rfl, _, _⟩ := own_form hs1; clear hs1))
      | (go_at_call 34; (with_reducible refine (Kin.callK (W := W) (by repeat (first | with_reducible (first | exact blA | exact blB | refine blC _ ?_ | refine blD ?_ ?_ _ | refine blE ?_ | refine blF _ ?_ | refine blG ?_ _ | refine blH ?_ | refine blI ?_ ?_ _) | (simp only [World.size_alloc]; omega) | (simp <;> omega))) (hulled_any _)).mono ?_); rintro e w' ⟨z, rfl, hz, rfl⟩)
      | (at_make; refine wpList_make_full _ rfl _ _ 35 rfl W.heap.size 23 i0 (.agg #[.int .i64 0,.int .i64 0]) 2 Try.underlying35 hi hz0 hz1 .i64 .i64 _ _ L rfl rfl HL.out.symm HL.out.symm (by rw [hz2]; omega) (by unfold maxLen; omega) (Nat.le_refl _) ?_; intro w1 hown hgrow; rw [made_flatH] at hown; have HO : Hid (w1.ownsRow W.heap.size 23 2 (.slice (some ⟨W.heap.size, 0, none⟩) L L) L ((List.replicate L ((0, 0) : Pt)).flatMap encPt)) := hown; have c2 := (hown.cellAt 14 (by omega)).trans (zero_atH L 14 (by omega)); have c3 := (hown.cellAt 15 (by omega)).trans (zero_atH L 15 (by omega)); have f2 := hown.frozenAt 14; have f3 := hown.frozenAt 15; (obtain ⟨z, rfl⟩ : ∃ z : Kin W, z.1 = w1 := ⟨⟨w1, (Below.refl _ W).grown hgrow (Nat.le_refl _) (fun k e => by cases e)⟩, rfl⟩); clear hown hgrow))
    all_goals first
      | (go_ret; exact ⟨rfl, (by repeat (first | with_reducible (first | exact blA | exact blB | refine blC _ ?_ | refine blD ?_ ?_ _ | refine blE ?_ | refine blF _ ?_ | refine blG ?_ _ | refine blH ?_ | refine blI ?_ ?_ _) | (simp only [World.size_alloc]; omega) | (simp <;> omega)))⟩)
      | (exfalso; omega)
theorem open_u8 {H : Type} {enc : TypeId × Value → H} {W : World} {r : Reach} {b0 base : Nat} {spare : Nat → Bool} {held : Bool} {v : Value} {d : DataW H} {ps : List MemPlace} (hv : Value.okWide Try.prog W r b0 5 v) (h : DataW.Trod enc Try.prog W base spare held 5 v d ps) : ∃ n : Int, v = .int .u8 n ∧ 0 ≤ n ∧ n ≤ 255 := by
  obtain ⟨n, rfl, _, _, wf⟩ := open_int Try.underlying5 hv h
  exact ⟨n, rfl, bounds_u8 wf⟩
theorem long_walk' (W : World) (v : Value) (h : ∃ n : Int, v = .int .u8 n ∧ 0 ≤ n ∧ n ≤ 255) : Calls Try.prog 14 #[v] W fun e W' => e = .returned (.bool true) ∧ Below W.heap.size W W' := by
  obtain ⟨n, rfl, h0, h1⟩ := h
  exact long_walk W n h0 h1
set_option maxRecDepth 100000 in
theorem planarHullLong_lifted (os : Os) (started : os.Started) (H : Type) (enc : TypeId × Value → H) :
    ReturnsInHanded {} Try.checked os 14 .any (Rows.planarHullLongSpec.pre6 enc Try.prog Try.f14 Rows.planarHullLongRow.domain false) (Rows.planarHullLongSpec.post enc Try.prog Try.f14 false true false false) := by
  refine returnsInHanded_of_change (C := Try.checked) own started (by kernel_rfl) Try.func14
    (ChangeSpec.witness6 (enc := enc) (C := Try.checked) false ⟨#[], #[.int .u8 0], []⟩ 8 (by kernel_rfl) (by kernel_rfl) (by kernel_rfl) (by kernel_rfl)) ?_
  intro W base args ds gs before hval0 hW hcnd _
  have hval : ∀ (j : Nat) t v, Try.f14.params[j]? = some t → args[j]? = some v → Value.okWide Try.prog W .any base t v := hval0
  have hW' := hW
  obtain ⟨p, q, hA0, hV, rfl, hfz, hnd⟩ := hW
  have hA : DataW.TrodAll enc Try.prog W 0 (fun _ => true) true Try.f14.params.toList args.toList ds p := hA0
  rw [Try.params14] at hA hval
  have hAA := hA
  obtain ⟨v0, vs0, d0, ds0, p0, q0, hargs, rfl, rfl, h0, r0⟩ := trodAll_cons hA
  obtain ⟨rfl, rfl, rfl⟩ := trodAll_nil r0
  obtain rfl : args = #[v0] := by cases args; simp_all
  obtain ⟨rfl, rfl⟩ := trodVars_none hV
  have o0 := open_u8 (hval 0 5 v0 rfl rfl) h0
  have hlt : ∀ x ∈ p0 ++ [], x.block < W.heap.size := fun x hx => hW'.lt x (by simpa using hx)
  refine (long_walk' W _ o0).mono fun e W' ⟨he, bel⟩ => ?_
  subst he
  exact ⟨_, rfl, _, _, _, [], _, [], hW', trodAll_mk1 (shut_bool Try.underlying4 _), below_trodAll laidOut bel _ _ _ _ (by
    intro t ht
    have hcl : ([5] : List TypeId).all (fun t => Try.prog.readableRec t && decide (t < Try.prog.types.size)) = true := by kernel_rfl
    have := List.all_eq_true.1 hcl t ht
    simpa using this) hlt hAA, rfl, bel.frame _, fun h => by cases h⟩
theorem planarHullLong_heard : (Try.checked.prog.stopsHeard = true ∧ Try.checked.prog.mayEnter = true) ∧ Try.checked.prog.liftsFinal = Rows.planarHullLongRow.lifted := ⟨⟨by kernel_rfl, by kernel_rfl⟩, by kernel_rfl⟩
theorem planarHullLong_calls : (Try.checked.prog.inPlace 14 = Rows.planarHullLongRow.inPlace ∧ Try.checked.prog.unfollowed 14 = Rows.planarHullLongRow.unfollowed) ∧ (Try.checked.prog.recurses 14 = Rows.planarHullLongRow.recurses ∧ Try.checked.prog.varsNamed 14 = Rows.planarHullLongRow.named) := ⟨⟨by kernel_rfl, by kernel_rfl⟩, ⟨by kernel_rfl, by kernel_rfl⟩⟩
theorem planarHullLong_closed : joinedFacts Try.checked.prog 14 Try.f14 Rows.planarHullLongSpec Rows.planarHullLongRow = true := by
  unfold joinedFacts
  rw [planarHullLong_calls.1.1, planarHullLong_calls.1.2, planarHullLong_calls.2.1, planarHullLong_calls.2.2, planarHullLong_heard.1.1, planarHullLong_heard.1.2, planarHullLong_heard.2]
  kernel_rfl
/-- PlanarHullLong: for every input the call returns true, and the arguments read behind it as before. No condition. -/
theorem planarHullLong_holds : Rows.PlanarHullLongSaid :=
  OpenClaim.holds_of_wide 14 Try.f14 rfl rfl rfl rfl rfl rfl rfl ⟨rfl, rfl, rfl, rfl, rfl⟩ rfl rfl rfl rfl rfl (by kernel_rfl) Try.func14 planarHullLong_closed
    (of_decide_eq_true (by kernel_rfl)) (by unfold Func.isWrapper; rw [if_neg (of_decide_eq_false (by kernel_rfl))]; exact ⟨rfl, rfl⟩)
    (fun os started H enc _ => planarHullLong_lifted os started H enc)

end Go.Proofs.Ytceamihampfdiaa
