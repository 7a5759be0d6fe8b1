/- TrackLimits: for every input the law returns true. No condition. -/
import Derived.Test.YtomndgjnhhchdaaTrkAwk
import Derived.Test.YtomndgjnhhchdaaTrkLim
import Derived.Test.YtomndgjnhhchdaaTrkOpen
namespace Go.Proofs.Ytomndgjnhhchdaa
set_option linter.unusedSimpArgs false
set_option linter.unusedVariables false
set_option maxRecDepth 100000
open Go.ChangeShapes Go.WideShapes Go.ChangeAt Go.RowKit Go.Joins Trk Reg
attribute [local go_sem] Kin.cell Kin.frozen Kin.lt0 Kin.lt1 Kin.lt2 Kin.lt3
def IsBool (v : Value) : Prop := ∃ b : Bool, v = .bool b
theorem open_boolB {H : Type} {enc : TypeId × Value → H} {W : World} {base : Nat} {spare : Nat → Bool} {held : Bool} {r : Reach} {b0 : Nat} {v : Value} {d : DataW H} {ps : List MemPlace} (hv : Value.okWide Try.prog W r b0 4 v) (h : DataW.Trod enc Try.prog W base spare held 4 v d ps) : IsBool v := okWide_bool Try.underlying4 hv
theorem alt_mod {k : Nat} : (((k : Nat) : Int)).tmod 2 = ((k % 2 : Nat) : Int) := by rw [Int.tmod_eq_emod_of_nonneg (by omega)]; omega
set_option maxHeartbeats 8000000 in
theorem limits_mid (W : World) (more : Int) (small : Bool) (hm : -3 ≤ more ∧ more ≤ 3) : Calls Try.prog 8 #[.int .i64 more, .bool small] W fun e W' => e = .returned (.bool true) ∧ Below W.heap.size W W' := by
  have m1 : ¬ more < -3 := by omega
  have m2 : ¬ more > 3 := by omega
  have mw : IntKind.i64.wrap (65536 + more) = 65536 + more := IntWalk.i64_in _ (by omega)
  go_enter Try.func8, Try.ntmps8
  cases small
  case' false =>
    go_wp2_with fail
    obtain ⟨n, hn⟩ : ∃ n : Int, 65536 + more = n := ⟨_, rfl⟩
    have hnb : -3 ≤ n ∧ n ≤ 65539 := by omega
    rw [hn]
    clear hn mw
  case' true =>
    go_wp2_with fail
    obtain ⟨n, hn⟩ : ∃ n : Int, more = n := ⟨_, rfl⟩
    have hnb : -3 ≤ n ∧ n ≤ 65539 := by omega
    rw [hn]
    clear hn mw
  all_goals
    clear m1 m2 hm
    go_loopw [7] (fun i wr => ∃ k : Nat, k ≤ n.toNat ∧ i = .int .i64 k ∧ ∃ (u : Value) (y : Kin W), y.1 = wr ∧ Hid (Blk y.1 W.heap.size 24 #[.int .i64 7, .bool false, u]) ∧ Hid (OwnC W.heap.size y.1 u (altL k))) (fun i _ => n.toNat - (intOf i).toNat)
    case atStart => exact ⟨0, Nat.zero_le _, rfl, _, ⟨W.alloc _, (by repeat (first | with_reducible (first | exact blA | exact blB | refine blC _ ?_ | refine blD ?_ ?_ _ | refine blE ?_ | refine blF _ ?_ | refine blG ?_ _ | refine blH ?_ | refine blI ?_ ?_ _) | (simp only [World.size_alloc]; omega) | (simp <;> omega)))⟩, rfl, Lib.hid (Blk.new _ _ _), Lib.hid OwnC.nil⟩
    case round =>
      obtain ⟨k, hk, rfl, u, y, rfl, HB, HO⟩ := hrel
      have b2 : y.1.cell? ⟨W.heap.size, 2, none⟩ = some u := HB.out.cell 2
      have lb := HB.out.lt
      by_cases hlt : (k : Int) < n
      · have hlen : (altL k).length = k := altL_len k
        have e1 := alt_mod (k := k)
        have f2 : y.1.frozen? ⟨W.heap.size, 2, none⟩ = false := HB.out.frozen 2
        have hr : (0 : Int) ≤ ((k % 2 : Nat) : Int) := by omega
        have e2 : IntKind.i64.wrap ((k % 2 : Nat) : Int) = ((k % 2 : Nat) : Int) := IntWalk.i64_in _ (by omega)
        have e3 : IntKind.i64.wrap ((k : Int) + 1) = (k : Int) + 1 := IntWalk.i64_in _ (by omega)
        have HS := Lib.hid (altL_succ k)
        clear b2 f2 lb
        have b2 : y.1.cell? ⟨W.heap.size, 2, none⟩ = some u := HB.out.cell 2
        have lb := HB.out.lt
        go_wp2_with (at_builtin; refine wpList_app _ rfl _ _ 22 rfl encPt_len (by decide) oneP W.heap.size 31 (.agg #[.int .i64 0, .int .i64 0]) 16 infoCell rfl Try.underlying22 _ _ _ _ rfl (HO.out.own.alloc _) _ _ _ rfl (rd_one _ encPt_len _ (((k % 2 : Nat) : Int), 0) _ rfl) ?c1 (by decide) ?c2 ?_; (case c1 => (first | (simp only [List.length_append, List.length_cons, List.length_nil]; omega) | omega | (simp; omega))); (case c2 => exact (by repeat (first | with_reducible exact Nat.le_refl _ | assumption | with_reducible refine le_alloc ?_ _ | with_reducible refine le_drew ?_ | with_reducible refine Kin.le _ ?_ | assumption | omega | (simp only [World.size_alloc]; omega)))); intro v' w1 hown' hg hbel hat'; (obtain ⟨T2, n2, cp2, rfl⟩ := own_slice hown'; obtain ⟨y2, rfl⟩ : ∃ y2 : Kin W, y2.1 = w1 := ⟨⟨w1, Below.trans (by repeat (first | with_reducible (first | exact blA | exact blB | refine blC _ ?_ | refine blD ?_ ?_ _ | refine blE ?_ | refine blF _ ?_ | refine blG ?_ _ | refine blH ?_ | refine blI ?_ ?_ _) | (simp only [World.size_alloc]; omega) | (simp <;> omega))) hbel⟩, rfl⟩; have HB2 := Lib.hid (blk_app hg (by decide) (Below.alloc (Below.refl _ _) (Nat.le_refl _) _) (HO.out.own.alloc _) HB.out); have HO2 := Lib.hid (show OwnC W.heap.size y2.1 (.slice T2 n2 cp2) (altL (k + 1)) from (by rw [HS.out]; exact hown')); have c2 : y2.1.cell? ⟨W.heap.size, 2, none⟩ = some u := HB2.out.cell 2; have f2 : y2.1.frozen? ⟨W.heap.size, 2, none⟩ = false := HB2.out.frozen 2; have lb2 := HB2.out.lt; clear hown' hg hbel hat'))
        obtain ⟨y3, hy3⟩ : ∃ y3 : Kin W, y3.1 = y2.1.setCell ⟨W.heap.size, 2, none⟩ (.slice T2 n2 cp2) := ⟨⟨_, y2.2.setCell (p := ⟨W.heap.size, 2, none⟩) (Nat.le_refl _) _⟩, rfl⟩
        have HB3 := Lib.hid (HB2.out.set_ 2 (.slice T2 n2 cp2))
        have HO3 := Lib.hid (own_grownBy HO2.out.own (grownBy_set (p := ⟨W.heap.size, 2, none⟩) (.slice T2 n2 cp2)) (own_ne HO2.out.own HB2.out (by decide)))
        rw [← hy3] at HB3 HO3 ⊢
        exact ⟨⟨k + 1, by omega, by go_num, _, y3, rfl, HB3, HO3⟩, by simp [intOf]; omega⟩
      · have hkn : k = n.toNat := by omega
        clear b2
        obtain ⟨A, c, rfl, _, _⟩ := (Rd.own encPt_len HO.out.own).open_
        have HRD := Lib.hid (Rd.own encPt_len HO.out.own)
        obtain ⟨m, hm⟩ : ∃ m, (altL k).length = m := ⟨_, rfl⟩
        have HMM := Lib.hid hm
        rw [hm] at HRD HB
        have b0 : y.1.cell? ⟨W.heap.size, 0, none⟩ = some (.int .i64 7) := HB.out.cell 0
        have b1 : y.1.cell? ⟨W.heap.size, 1, none⟩ = some (.bool false) := HB.out.cell 1
        have b2 : y.1.cell? ⟨W.heap.size, 2, none⟩ = some (.slice A m c) := HB.out.cell 2
        have hv := altL_val (r := 7) (by omega) k
        clear hm
        by_cases hn1 : 1 ≤ n
        · have p1 : n ≥ 1 := hn1
          by_cases hn2 : n ≤ 65536
          · rw [decide_eq_true (by omega)] at hv
            clear hkn
            go_wp2_with (first | (go_at_call 11; (with_reducible refine (Kin.callK (W := (Kin.wd y)) (by repeat (first | with_reducible (first | exact blA | exact blB | refine blC _ ?_ | refine blD ?_ ?_ _ | refine blE ?_ | refine blF _ ?_ | refine blG ?_ _ | refine blH ?_ | refine blI ?_ ?_ _) | (simp only [World.size_alloc]; omega) | (simp <;> omega))) (validT_is (b := true) (n := m) 7 false _ _ _ _ HMM.out (HRD.out.below (by repeat (first | with_reducible (first | exact blA | exact blB | refine blC _ ?_ | refine blD ?_ ?_ _ | refine blE ?_ | refine blF _ ?_ | refine blG ?_ _ | refine blH ?_ | refine blI ?_ ?_ _) | (simp only [World.size_alloc]; omega) | (simp <;> omega)))) hv)).mono ?_); rintro e w' ⟨z, rfl, hz, rfl⟩) | (go_at_call 10; (with_reducible refine (Kin.callK (W := (Kin.wd y)) (by repeat (first | with_reducible (first | exact blA | exact blB | refine blC _ ?_ | refine blD ?_ ?_ _ | refine blE ?_ | refine blF _ ?_ | refine blG ?_ _ | refine blH ?_ | refine blI ?_ ?_ _) | (simp only [World.size_alloc]; omega) | (simp <;> omega))) (awake23_any _)).mono ?_); rintro e w' ⟨z, rfl, hz, rfl⟩))
            go_ret
            exact ⟨rfl, y.2.trans (z.2.mono y.2.size)⟩
          · rw [decide_eq_false (by omega)] at hv
            clear hkn
            go_wp2_with (first | (go_at_call 11; (with_reducible refine (Kin.callK (W := (Kin.wd y)) (by repeat (first | with_reducible (first | exact blA | exact blB | refine blC _ ?_ | refine blD ?_ ?_ _ | refine blE ?_ | refine blF _ ?_ | refine blG ?_ _ | refine blH ?_ | refine blI ?_ ?_ _) | (simp only [World.size_alloc]; omega) | (simp <;> omega))) (validT_is (b := false) (n := m) 7 false _ _ _ _ HMM.out (HRD.out.below (by repeat (first | with_reducible (first | exact blA | exact blB | refine blC _ ?_ | refine blD ?_ ?_ _ | refine blE ?_ | refine blF _ ?_ | refine blG ?_ _ | refine blH ?_ | refine blI ?_ ?_ _) | (simp only [World.size_alloc]; omega) | (simp <;> omega)))) hv)).mono ?_); rintro e w' ⟨z, rfl, hz, rfl⟩) | (go_at_call 10; (with_reducible refine (Kin.callK (W := (Kin.wd y)) (by repeat (first | with_reducible (first | exact blA | exact blB | refine blC _ ?_ | refine blD ?_ ?_ _ | refine blE ?_ | refine blF _ ?_ | refine blG ?_ _ | refine blH ?_ | refine blI ?_ ?_ _) | (simp only [World.size_alloc]; omega) | (simp <;> omega))) (awake23_any _)).mono ?_); rintro e w' ⟨z, rfl, hz, rfl⟩))
            go_ret
            exact ⟨(by show Ending.returned (Value.bool (!decide (n ≤ 65536))) = _; rw [decide_eq_false (show ¬ n ≤ 65536 by omega)]; rfl), y.2.trans (z.2.mono y.2.size)⟩
        · have p1 : ¬ n ≥ 1 := hn1
          rw [decide_eq_false (by omega)] at hv
          clear hkn
          go_wp2_with (first | (go_at_call 11; (with_reducible refine (Kin.callK (W := (Kin.wd y)) (by repeat (first | with_reducible (first | exact blA | exact blB | refine blC _ ?_ | refine blD ?_ ?_ _ | refine blE ?_ | refine blF _ ?_ | refine blG ?_ _ | refine blH ?_ | refine blI ?_ ?_ _) | (simp only [World.size_alloc]; omega) | (simp <;> omega))) (validT_is (b := false) (n := m) 7 false _ _ _ _ HMM.out (HRD.out.below (by repeat (first | with_reducible (first | exact blA | exact blB | refine blC _ ?_ | refine blD ?_ ?_ _ | refine blE ?_ | refine blF _ ?_ | refine blG ?_ _ | refine blH ?_ | refine blI ?_ ?_ _) | (simp only [World.size_alloc]; omega) | (simp <;> omega)))) hv)).mono ?_); rintro e w' ⟨z, rfl, hz, rfl⟩) | (go_at_call 10; (with_reducible refine (Kin.callK (W := (Kin.wd y)) (by repeat (first | with_reducible (first | exact blA | exact blB | refine blC _ ?_ | refine blD ?_ ?_ _ | refine blE ?_ | refine blF _ ?_ | refine blG ?_ _ | refine blH ?_ | refine blI ?_ ?_ _) | (simp only [World.size_alloc]; omega) | (simp <;> omega))) (awake23_any _)).mono ?_); rintro e w' ⟨z, rfl, hz, rfl⟩))
          go_ret
          exact ⟨rfl, y.2.trans (z.2.mono y.2.size)⟩
set_option maxHeartbeats 8000000 in
theorem limits_walk (W : World) (v : Value) (h : IsInt v) (v2 : Value) (h2 : IsBool v2) : Calls Try.prog 8 #[v, v2] W fun e W' => e = .returned (.bool true) ∧ Below W.heap.size W W' := by
  obtain ⟨more, rfl, hm⟩ := h
  obtain ⟨small, rfl⟩ := h2
  by_cases hr : -3 ≤ more ∧ more ≤ 3
  · exact limits_mid W more small hr
  · have out : more < -3 ∨ ¬ more < -3 ∧ more > 3 := by omega
    rcases out with m1 | ⟨m1, m2⟩
    all_goals
      go_enter Try.func8, Try.ntmps8
      cases small
      all_goals
        go_wp2_with (go_at_call 10; (with_reducible refine (Kin.callK (W := W) (by repeat (first | with_reducible (first | exact blA | exact blB | refine blC _ ?_ | refine blD ?_ ?_ _ | refine blE ?_ | refine blF _ ?_ | refine blG ?_ _ | refine blH ?_ | refine blI ?_ ?_ _) | (simp only [World.size_alloc]; omega) | (simp <;> omega))) (awake23_any _)).mono ?_); rintro e w' ⟨z, rfl, hz, rfl⟩)
        go_ret
        exact ⟨rfl, (by repeat (first | with_reducible (first | exact blA | exact blB | refine blC _ ?_ | refine blD ?_ ?_ _ | refine blE ?_ | refine blF _ ?_ | refine blG ?_ _ | refine blH ?_ | refine blI ?_ ?_ _) | (simp only [World.size_alloc]; omega) | (simp <;> omega)))⟩
set_option maxRecDepth 100000 in
theorem trackLimits_lifted (os : Os) (started : os.Started) (H : Type) (enc : TypeId × Value → H) :
    ReturnsInHanded {} Try.checked os 8 .any (Rows.trackLimitsSpec.pre6 enc Try.prog Try.f8 Rows.trackLimitsRow.domain false) (Rows.trackLimitsSpec.post enc Try.prog Try.f8 false true false false) := by
  refine returnsInHanded_of_change (C := Try.checked) own started (by kernel_rfl) Try.func8
    (ChangeSpec.witness6 (enc := enc) (C := Try.checked) false ⟨#[], #[.int .i64 0, .bool false], []⟩ 8 (by kernel_rfl) (by kernel_rfl) (by kernel_rfl) (by kernel_rfl)) ?_
  intro W base args ds gs before hval0 hW hcnd _
  have hval : ∀ (j : Nat) t v, Try.f8.params[j]? = some t → args[j]? = some v → Value.okWide Try.prog W .any base t v := hval0
  have hW' := hW
  obtain ⟨p, q, hA0, hV, rfl, hfz, hnd⟩ := hW
  have hA : DataW.TrodAll enc Try.prog W 0 (fun _ => true) true Try.f8.params.toList args.toList ds p := hA0
  rw [Try.params8] at hA hval
  have hAA := hA
  obtain ⟨v0, vs0, d0, ds0, p0, q0, hargs, rfl, rfl, h0, r0⟩ := trodAll_cons hA
  obtain ⟨v1, vs1, d1, ds1, p1, q1, rfl, rfl, rfl, h1, r1⟩ := trodAll_cons r0
  obtain ⟨rfl, rfl, rfl⟩ := trodAll_nil r1
  obtain rfl : args = #[v0, v1] := by cases args; simp_all
  obtain ⟨rfl, rfl⟩ := trodVars_none hV
  have o0 := open_i64 (hval 0 3 v0 rfl rfl) h0
  have o1 := open_boolB (hval 1 4 v1 rfl rfl) h1
  have hlt : ∀ x ∈ p0 ++ (p1 ++ []), x.block < W.heap.size := fun x hx => hW'.lt x (by simpa using hx)
  refine (limits_walk W _ o0 _ o1).mono fun e W' ⟨he, bel⟩ => ?_
  subst he
  exact ⟨_, rfl, _, _, _, [], _, [], hW', trodAll_mk1 (shut_bool Try.underlying4 _), below_trodAll laidOut bel _ _ _ _ (by
    intro t ht
    have hcl : ([3, 4] : List TypeId).all (fun t => Try.prog.readableRec t && decide (t < Try.prog.types.size)) = true := by kernel_rfl
    have := List.all_eq_true.1 hcl t ht
    simpa using this) hlt hAA, rfl, bel.frame _, fun h => by cases h⟩
theorem trackLimits_heard : (Try.checked.prog.stopsHeard = true ∧ Try.checked.prog.mayEnter = true) ∧ Try.checked.prog.liftsFinal = Rows.trackLimitsRow.lifted := ⟨⟨by kernel_rfl, by kernel_rfl⟩, by kernel_rfl⟩
theorem trackLimits_calls : (Try.checked.prog.inPlace 8 = Rows.trackLimitsRow.inPlace ∧ Try.checked.prog.unfollowed 8 = Rows.trackLimitsRow.unfollowed) ∧ (Try.checked.prog.recurses 8 = Rows.trackLimitsRow.recurses ∧ Try.checked.prog.varsNamed 8 = Rows.trackLimitsRow.named) := ⟨⟨by kernel_rfl, by kernel_rfl⟩, ⟨by kernel_rfl, by kernel_rfl⟩⟩
theorem trackLimits_closed : joinedFacts Try.checked.prog 8 Try.f8 Rows.trackLimitsSpec Rows.trackLimitsRow = true := by
  unfold joinedFacts
  rw [trackLimits_calls.1.1, trackLimits_calls.1.2, trackLimits_calls.2.1, trackLimits_calls.2.2, trackLimits_heard.1.1, trackLimits_heard.1.2, trackLimits_heard.2]
  kernel_rfl
/-- TrackLimits: for every input the call returns true, and the arguments read behind it as before. No condition. -/
theorem trackLimits_holds : Rows.TrackLimitsSaid :=
  OpenClaim.holds_of_wide 8 Try.f8 rfl rfl rfl rfl rfl rfl rfl ⟨rfl, rfl, rfl, rfl, rfl⟩ rfl rfl rfl rfl rfl (by kernel_rfl) Try.func8 trackLimits_closed
    (of_decide_eq_true (by kernel_rfl)) (by unfold Func.isWrapper; rw [if_neg (of_decide_eq_false (by kernel_rfl))]; exact ⟨rfl, rfl⟩)
    (fun os started H enc _ => trackLimits_lifted os started H enc)

end Go.Proofs.Ytomndgjnhhchdaa
