/- PlanarFan: for any list of 3 to 100 valid vertices the area is that of the fan, so the law returns true. -/
import Derived.Test.YtceamihampfdiaaPlanarAwake
import Derived.Test.YtceamihampfdiaaPlanarArea2
namespace Go.Proofs.Ytceamihampfdiaa
set_option linter.unusedSimpArgs false
set_option linter.unusedVariables false
open Go.ChangeShapes Go.WideShapes Go.ChangeAt Go.RowKit Go.Joins
open Planar
attribute [local go_sem] Kin.cell Kin.frozen
/-- the sum of the first triangles of the fan -/
def fanTo (l : List Pt) : Nat → Int
  | 0 => 0
  | 1 => 0
  | k + 2 => fanTo l (k + 1) + crs (ptAt l 0) (ptAt l (k + 1)) (ptAt l (k + 2))
theorem fan_eq (l : List Pt) : ∀ k : Nat, k + 1 < l.length → fanTo l (k + 1) = areaTo l (k + 1) - ((ptAt l 0).1 * (ptAt l (k + 1)).2 - (ptAt l 0).2 * (ptAt l (k + 1)).1)
  | 0, h => by
    have e : (0 + 1) % l.length = 1 := Nat.mod_eq_of_lt h
    simp only [fanTo, areaTo, areaTerm, e, Nat.zero_add]
    grind
  | k + 1, h => by
    have ih := fan_eq l k (by omega)
    have e : (k + 1 + 1) % l.length = k + 1 + 1 := Nat.mod_eq_of_lt h
    have e1 : areaTo l (k + 1 + 1) = areaTo l (k + 1) + areaTerm l (k + 1) := rfl
    have e2 : fanTo l (k + 1 + 1) = fanTo l (k + 1) + crs (ptAt l 0) (ptAt l (k + 1)) (ptAt l (k + 1 + 1)) := rfl
    rw [e1, e2, ih, areaTerm, e]
    simp only [crs]
    grind
theorem fan_all {l : List Pt} (h : 3 ≤ l.length) (hv : allVld l = true) (hb : l.length ≤ 100) : area2 l = fanTo l (l.length - 1) := by
  obtain ⟨n, hn⟩ : ∃ n, l.length = n + 2 := ⟨l.length - 2, by omega⟩
  have h1 := fan_eq l n (by omega)
  have e1 : areaTo l (n + 1 + 1) = areaTo l (n + 1) + areaTerm l (n + 1) := rfl
  have e2 : (n + 1 + 1) % l.length = 0 := by rw [hn]; exact Nat.mod_self _
  unfold area2
  rw [if_neg (by omega), if_pos hv]
  rw [show l.length - 1 = n + 1 from by omega, h1, show l.length = n + 1 + 1 from by omega, e1, areaTerm, e2]
  grind
theorem crs_bd {a b c : Pt} (ha : vld a = true) (hb : vld b = true) (hc : vld c = true) : -2251799813685248 ≤ crs a b c ∧ crs a b c ≤ 2251799813685248 := by
  have h1 := vld_bd ha
  have h2 := vld_bd hb
  have h3 := vld_bd hc
  have m1 := mul_bd (x := b.1 - a.1) (y := c.2 - a.2) (M := 33554432) (N := 33554432) (by omega) (by omega)
  have m2 := mul_bd (x := b.2 - a.2) (y := c.1 - a.1) (M := 33554432) (N := 33554432) (by omega) (by omega)
  unfold crs
  omega
theorem ptAt_vld {l : List Pt} (h : allVld l = true) {i : Nat} (hi : i < l.length) : vld (ptAt l i) = true := by
  rw [ptAt_some (List.getElem?_eq_getElem hi)]
  exact allVld_at h (List.getElem?_eq_getElem hi)
theorem fan_bd {l : List Pt} (hv : allVld l = true) : ∀ k : Nat, k < l.length → -(2251799813685248 * (k : Int)) ≤ fanTo l k ∧ fanTo l k ≤ 2251799813685248 * (k : Int)
  | 0, _ => by simp [fanTo]
  | 1, _ => by simp [fanTo]
  | k + 2, h => by
    have ih := fan_bd hv (k + 1) (by omega)
    have c := crs_bd (ptAt_vld hv (i := 0) (by omega)) (ptAt_vld hv (i := k + 1) (by omega)) (ptAt_vld hv h)
    simp only [fanTo]
    omega
theorem area_no {l : List Pt} {i : Nat} {p : Pt} (hp : l[i]? = some p) (h : vld p = false) : area2 l = 0 := by simp [area2, allVld_no hp h]
theorem cross_crs {a b c : Pt} (ha : vld a = true) (hb : vld b = true) (hc : vld c = true) : cross a b c = crs a b c := by simp [cross, ha, hb, hc]
theorem fan_step {l : List Pt} (hv : allVld l = true) {k : Nat} (h1 : 1 ≤ k) (h : k + 1 < l.length) (hb : l.length ≤ 100) {a p q : Pt} (ha : l[0]? = some a) (hp : l[k]? = some p) (hq : l[k + 1]? = some q) :
    wrap64 (fanTo l k + cross a p q) = fanTo l (k + 1) := by
  obtain ⟨j, rfl⟩ : ∃ j, k = j + 1 := ⟨k - 1, by omega⟩
  rw [cross_crs (allVld_at hv ha) (allVld_at hv hp) (allVld_at hv hq)]
  have b := fan_bd hv (j + 1 + 1) h
  have e : fanTo l (j + 1 + 1) = fanTo l (j + 1) + crs a p q := by
    show fanTo l (j + 1) + crs (ptAt l 0) (ptAt l (j + 1)) (ptAt l (j + 2)) = _
    rw [ptAt_some ha, ptAt_some hp, ptAt_some hq]
  rw [e] at b ⊢
  exact IntWalk.wrap64_in _ (by omega)
set_option maxRecDepth 100000 in
set_option maxHeartbeats 2000000 in
theorem fan_walk (W : World) (v : Value) (h : IsPts W v) : Calls Try.prog 10 #[v] W fun e W' => e = .returned (.bool true) ∧ Below W.heap.size W W' := by
  obtain ⟨l, h, _⟩ := h
  have H := h
  obtain ⟨A, cap, rfl, hcap, hopen⟩ := h.open_
  have HH : Hid (Rd 2 encPt W (.slice A l.length cap) l) := H
  clear H h
  by_cases hsm : l.length < 3
  · clear hopen
    have hb : (l.length : Int) < 3 := by omega
    go_enter Try.func10, Try.ntmps10
    go_wp2_with (go_at_call 17; first | ((with_reducible refine (Kin.call _ (awake_any _)).mono ?_); rintro e w' ⟨z, rfl, rfl⟩) | ((with_reducible refine (Kin.call0 (awake_any _)).mono ?_); rintro e w' ⟨z, rfl, rfl⟩))
    go_ret
    exact ⟨rfl, (by repeat (first | with_reducible exact Below.refl _ _ | with_reducible refine Kin.below _ ?_ | with_reducible refine Below.alloc ?_ ?_ _ | with_reducible refine Below.drew ?_ | with_reducible refine Kin.le _ ?_ | with_reducible refine le_alloc ?_ _ | with_reducible refine le_drew ?_ | with_reducible refine Below.setCell ?_ ?_ _ | with_reducible exact Nat.le_refl _ | (simp only [World.size_alloc]; omega) | (simp <;> omega)))⟩
  by_cases hbig : 100 < l.length
  · clear hopen
    have hb : ¬ (l.length : Int) < 3 := by omega
    have hb' : (100 : Int) < (l.length : Int) := by omega
    go_enter Try.func10, Try.ntmps10
    go_wp2_with (go_at_call 17; first | ((with_reducible refine (Kin.call _ (awake_any _)).mono ?_); rintro e w' ⟨z, rfl, rfl⟩) | ((with_reducible refine (Kin.call0 (awake_any _)).mono ?_); rintro e w' ⟨z, rfl, rfl⟩))
    go_ret
    exact ⟨rfl, (by repeat (first | with_reducible exact Below.refl _ _ | with_reducible refine Kin.below _ ?_ | with_reducible refine Below.alloc ?_ ?_ _ | with_reducible refine Below.drew ?_ | with_reducible refine Kin.le _ ?_ | with_reducible refine le_alloc ?_ _ | with_reducible refine le_drew ?_ | with_reducible refine Below.setCell ?_ ?_ _ | with_reducible exact Nat.le_refl _ | (simp only [World.size_alloc]; omega) | (simp <;> omega)))⟩
  have hb : ¬ (l.length : Int) < 3 := by omega
  have hb' : ¬ (100 : Int) < (l.length : Int) := by omega
  have hn3 : 3 ≤ l.length := by omega
  have hn100 : l.length ≤ 100 := by omega
  obtain ⟨b, off, rfl, hbb, hcell⟩ := hopen 0 _ (List.getElem?_eq_getElem (by omega))
  have Hc : Hid (∀ (i : Nat) (x : Pt), l[i]? = some x → ∀ (j : Nat) (u : Value), (encPt x)[j]? = some u → W.cell? ⟨b, off + i * 2 + j, none⟩ = some u) := hcell
  clear hcell hopen
  go_enter Try.func10, Try.ntmps10
  go_wp2
  go_loopw [4] (fun i wr => ∃ k : Nat, k ≤ l.length ∧ i = .int .i64 k ∧ Hid (∀ i p, i < k → l[i]? = some p → vld p = true) ∧ ∃ z : Kin W, z.1 = wr) (fun i _ => l.length - (intOf i).toNat)
  case atStart => exact ⟨0, Nat.zero_le _, rfl, fun i p h => absurd h (by omega), ⟨W, Below.refl _ _⟩, rfl⟩
  case round =>
    obtain ⟨k, hk, rfl, hval, z, rfl⟩ := hrel
    by_cases hlt : k < l.length
    · obtain ⟨p, hp⟩ : ∃ p, l[k]? = some p := ⟨_, List.getElem?_eq_getElem hlt⟩
      have hb1 := z.lt hbb
      have c0 : z.1.cell? ⟨b, off + k * 2, none⟩ = some (.int .i64 p.1) := by rw [z.cell hbb]; exact Hc.out k p hp 0 _ rfl
      have c1 : z.1.cell? ⟨b, off + k * 2 + 1, none⟩ = some (.int .i64 p.2) := by rw [z.cell hbb]; exact Hc.out k p hp 1 _ rfl
      have HP : Hid (l[k]? = some p) := hp
      clear hp
      cases hv : vld p
      · have ha0 : area2 l = 0 := area_no HP.out hv
        go_wp2_with (first
          | (go_at_call 22; first | ((with_reducible refine (Kin.call _ (valid_any _ _)).mono ?_); rintro e w' ⟨z, rfl, rfl⟩) | ((with_reducible refine (Kin.call0 (valid_any _ _)).mono ?_); rintro e w' ⟨z, rfl, rfl⟩))
          | (go_at_call 29; (with_reducible refine (Kin.call _ (area_any _ l _ (HH.out.kin _) (by omega))).mono ?_); rintro e w' ⟨z, rfl, rfl⟩)
          | (go_at_call 17; first | ((with_reducible refine (Kin.call _ (awake_any _)).mono ?_); rintro e w' ⟨z, rfl, rfl⟩) | ((with_reducible refine (Kin.call0 (awake_any _)).mono ?_); rintro e w' ⟨z, rfl, rfl⟩)))
        go_ret
        exact ⟨rfl, (by repeat (first | with_reducible exact Below.refl _ _ | with_reducible refine Kin.below _ ?_ | with_reducible refine Below.alloc ?_ ?_ _ | with_reducible refine Below.drew ?_ | with_reducible refine Kin.le _ ?_ | with_reducible refine le_alloc ?_ _ | with_reducible refine le_drew ?_ | with_reducible refine Below.setCell ?_ ?_ _ | with_reducible exact Nat.le_refl _ | (simp only [World.size_alloc]; omega) | (simp <;> omega)))⟩
      · go_wp2_with (go_at_call 22; first | ((with_reducible refine (Kin.call _ (valid_any _ _)).mono ?_); rintro e w' ⟨z, rfl, rfl⟩) | ((with_reducible refine (Kin.call0 (valid_any _ _)).mono ?_); rintro e w' ⟨z, rfl, rfl⟩))
        go_roundw
        case rel => exact ⟨k + 1, by omega, by go_num, vld_step hval.out HP.out hv, ⟨_, (by repeat (first | with_reducible exact Below.refl _ _ | with_reducible refine Kin.below _ ?_ | with_reducible refine Below.alloc ?_ ?_ _ | with_reducible refine Below.drew ?_ | with_reducible refine Kin.le _ ?_ | with_reducible refine le_alloc ?_ _ | with_reducible refine le_drew ?_ | with_reducible refine Below.setCell ?_ ?_ _ | with_reducible exact Nat.le_refl _ | (simp only [World.size_alloc]; omega) | (simp <;> omega)))⟩, rfl⟩
        case measure => simp [intOf]; omega
    · obtain rfl : k = l.length := by omega
      have hall := allVld_of hval.out
      have HA : Hid (allVld l = true) := hall
      clear hall hval hlt hk
      go_wp2
      go_loopw [3, 5] (fun s i wr => ∃ k : Nat, 1 ≤ k ∧ k + 1 ≤ l.length ∧ i = .int .i64 k ∧ s = .int .i64 (fanTo l k) ∧ ∃ z : Kin W, z.1 = wr) (fun _ i _ => l.length - (intOf i).toNat)
      case atStart => exact ⟨1, Nat.le_refl _, by omega, rfl, rfl, z, rfl⟩
      case round =>
        obtain ⟨k, hk1, hk, rfl, rfl, z', rfl⟩ := hrel
        have hb1 := z'.lt hbb
        by_cases hlt : k + 1 < l.length
        · obtain ⟨a, ha⟩ : ∃ a, l[0]? = some a := ⟨_, List.getElem?_eq_getElem (by omega)⟩
          obtain ⟨p, hp⟩ : ∃ p, l[k]? = some p := ⟨_, List.getElem?_eq_getElem (by omega)⟩
          obtain ⟨q, hq⟩ : ∃ q, l[k + 1]? = some q := ⟨_, List.getElem?_eq_getElem hlt⟩
          have a0 : W.cell? ⟨b, off, none⟩ = some (.int .i64 a.1) := by have := Hc.out 0 a ha 0 _ rfl; simpa using this
          have a1 : W.cell? ⟨b, off + 1, none⟩ = some (.int .i64 a.2) := by have := Hc.out 0 a ha 1 _ rfl; simpa using this
          have c0 : W.cell? ⟨b, off + k * 2, none⟩ = some (.int .i64 p.1) := by exact Hc.out k p hp 0 _ rfl
          have c1 : W.cell? ⟨b, off + k * 2 + 1, none⟩ = some (.int .i64 p.2) := by exact Hc.out k p hp 1 _ rfl
          have d0 : W.cell? ⟨b, off + (k + 1) * 2, none⟩ = some (.int .i64 q.1) := by exact Hc.out _ q hq 0 _ rfl
          have d1 : W.cell? ⟨b, off + (k + 1) * 2 + 1, none⟩ = some (.int .i64 q.2) := by exact Hc.out _ q hq 1 _ rfl
          have HP : Hid (l[k]? = some p ∧ l[k + 1]? = some q ∧ l[0]? = some a) := ⟨hp, hq, ha⟩
          clear hp hq ha
          have i1 : (0 : Int) ≤ (k : Int) := by omega
          have i2 : (k : Int) < (l.length : Int) := by omega
          have i3 : (k : Int) + 1 < (l.length : Int) := by omega
          have i4 : (0 : Int) < (l.length : Int) := by omega
          go_wp2
          ((first | refine wp_region_kin _ (by kernel_rfl) (by kernel_rfl) ?_ | refine wp_region_kin0 (by kernel_rfl) (by kernel_rfl) ?_); (repeat' (first | go_big_quiet_step ((go_at_call 24; exact Kin.quiet _ (cross_any a p q _))) | ((refine wpQuiet_guard rfl rfl rfl rfl (fun hg => ?_) (fun hg => ?_)) <;> (try simp only [decide_eq_true_eq, decide_eq_false_iff_not] at hg) <;> simp only [Act.put, List.setIfInBounds_toArray, List.set_cons_zero, List.set_cons_succ]))); all_goals ((with_reducible refine wpQuiet_nil ?_); rintro _ ⟨z, rfl⟩))
          go_wp2
          go_roundw
          case rel => exact ⟨k + 1, by omega, by omega, by go_num, by rw [fan_step HA.out hk1 hlt hn100 HP.out.2.2 HP.out.1 HP.out.2.1], _, rfl⟩
          case measure => simp [intOf]; omega
        · obtain hke : k = l.length - 1 := by omega
          have hf : area2 l = fanTo l k := by rw [hke]; exact fan_all hn3 HA.out hn100
          have Hf : Hid (area2 l = fanTo l k) := hf
          have HK : Hid (k = l.length - 1) := hke
          clear hf hke
          go_wp2_with (first
            | (go_at_call 29; (with_reducible refine (Kin.call _ (area_any _ l _ (HH.out.kin _) (by omega))).mono ?_); rw [Hf.out]; rintro e w' ⟨z, rfl, rfl⟩)
            | (go_at_call 17; first | ((with_reducible refine (Kin.call _ (awake_any _)).mono ?_); rintro e w' ⟨z, rfl, rfl⟩) | ((with_reducible refine (Kin.call0 (awake_any _)).mono ?_); rintro e w' ⟨z, rfl, rfl⟩)))
          go_ret
          exact ⟨rfl, (by repeat (first | with_reducible exact Below.refl _ _ | with_reducible refine Kin.below _ ?_ | with_reducible refine Below.alloc ?_ ?_ _ | with_reducible refine Below.drew ?_ | with_reducible refine Kin.le _ ?_ | with_reducible refine le_alloc ?_ _ | with_reducible refine le_drew ?_ | with_reducible refine Below.setCell ?_ ?_ _ | with_reducible exact Nat.le_refl _ | (simp only [World.size_alloc]; omega) | (simp <;> omega)))⟩
set_option maxRecDepth 100000 in
theorem planarFan_lifted (os : Os) (started : os.Started) (H : Type) (enc : TypeId × Value → H) :
    ReturnsInHanded {} Try.checked os 10 .any (Rows.planarFanSpec.pre6 enc Try.prog Try.f10 Rows.planarFanRow.domain false) (Rows.planarFanSpec.post enc Try.prog Try.f10 false true false false) := by
  refine returnsInHanded_of_change (C := Try.checked) own started (by kernel_rfl) Try.func10
    (ChangeSpec.witness6 (enc := enc) (C := Try.checked) false ⟨#[], #[.slice none 0 0], []⟩ 8 (by kernel_rfl) (by kernel_rfl) (by kernel_rfl) (by kernel_rfl)) ?_
  intro W base args ds gs before hval0 hW hcnd _
  have hval : ∀ (j : Nat) t v, Try.f10.params[j]? = some t → args[j]? = some v → Value.okWide Try.prog W .any base t v := hval0
  have hW' := hW
  obtain ⟨p, q, hA0, hV, rfl, hfz, hnd⟩ := hW
  have hA : DataW.TrodAll enc Try.prog W 0 (fun _ => true) true Try.f10.params.toList args.toList ds p := hA0
  rw [Try.params10] at hA hval
  have hAA := hA
  obtain ⟨v0, vs0, d0, ds0, p0, q0, hargs, rfl, rfl, h0, r0⟩ := trodAll_cons hA
  obtain ⟨rfl, rfl, rfl⟩ := trodAll_nil r0
  obtain rfl : args = #[v0] := by cases args; simp_all
  obtain ⟨rfl, rfl⟩ := trodVars_none hV
  have o0 := open_pts (hval 0 35 v0 rfl rfl) h0
  have hlt : ∀ x ∈ p0 ++ [], x.block < W.heap.size := fun x hx => hW'.lt x (by simpa using hx)
  refine (fan_walk W _ o0).mono fun e W' ⟨he, bel⟩ => ?_
  subst he
  exact ⟨_, rfl, _, _, _, [], _, [], hW', trodAll_mk1 (shut_bool Try.underlying4 _), below_trodAll laidOut bel _ _ _ _ (by
    intro t ht
    have hcl : ([35] : List TypeId).all (fun t => Try.prog.readableRec t && decide (t < Try.prog.types.size)) = true := by kernel_rfl
    have := List.all_eq_true.1 hcl t ht
    simpa using this) hlt hAA, rfl, bel.frame _, fun h => by cases h⟩
/-- PlanarFan: for every input the call returns true, and the arguments read behind it as before. No condition. -/
theorem planarFan_holds : Rows.PlanarFanSaid :=
  OpenClaim.holds_of_wide 10 Try.f10 rfl rfl rfl rfl rfl rfl rfl ⟨rfl, rfl, rfl, rfl, rfl⟩ rfl rfl rfl rfl rfl (by kernel_rfl) Try.func10 (by kernel_rfl)
    (of_decide_eq_true (by kernel_rfl)) (by unfold Func.isWrapper; rw [if_neg (of_decide_eq_false (by kernel_rfl))]; exact ⟨rfl, rfl⟩)
    (fun os started H enc _ => planarFan_lifted os started H enc)

end Go.Proofs.Ytceamihampfdiaa
