/- ContourLimits: for every input the law returns true. No condition. -/
import Derived.Test.YteadnlodccnfcaaCtrInt
namespace Go.Proofs.Yteadnlodccnfcaa
set_option linter.unusedSimpArgs false
set_option linter.unusedVariables false
set_option maxRecDepth 100000
open Go.ChangeShapes Go.WideShapes Go.ChangeAt Go.RowKit Go.Joins Planar
attribute [local go_sem] Kin.cell Kin.frozen Kin.lt0 Kin.lt1 Kin.lt2 Kin.lt3 run_mkf
def limP (k m : Nat) : List (List Pt) := List.replicate k (List.replicate m (0, 0))
theorem limP_succ (k m : Nat) : limP (k + 1) m = limP k m ++ [List.replicate m (0, 0)] := by unfold limP; rw [List.replicate_succ']
theorem limP_sum (k m : Nat) : sumN (limP k m) = k * m := by unfold sumN limP; simp
theorem limP_valid (k m : Nat) : validL (limP k m) = true := by
  unfold validL limP
  rw [List.all_eq_true]
  intro o ho
  rw [List.eq_of_mem_replicate ho, List.all_eq_true]
  intro p hp
  rw [List.eq_of_mem_replicate hp]
  decide
theorem nest_own (v : Value) (l : List (List Pt)) (w : World) (h : RdPols w v l) (hl : l.length ≤ 1000) (hb : ∀ o ∈ l, o.length ≤ 1000) {E : Int} {R : List Int} (hE : nestE l = E) (hR : nestL l = R) :
    Calls Try.prog 25 #[v] w fun e w' => (∃ A c, e = .returned (.tuple #[.slice A R.length c, .int .i64 E]) ∧ Rd 1 encI w' (.slice A R.length c) R) ∧ Below w.heap.size w w' := by
  subst hE hR
  exact (nest_any v l w h hl hb).mono fun e w' ⟨⟨u, he, ho⟩, hb⟩ => by
    obtain ⟨A, cap, rfl⟩ := own_slc ho
    exact ⟨⟨A, cap, he, Rd.own encI_len ho⟩, hb⟩
theorem lim_big {n m : Nat} (h : n > 64 ∨ n * m > 1024) : nestE (limP n m) = 2 ∧ nestL (limP n m) = [] := by
  have e : nestE (limP n m) = 2 := by
    unfold nestE; rw [limP_sum, if_pos]
    simpa [limP] using h
  exact ⟨e, by unfold nestL; rw [e]; rfl⟩
theorem lim_small {n m : Nat} (h : ¬ (n > 64 ∨ n * m > 1024)) : nestE (limP n m) = 0 ∧ (nestL (limP n m)).length = n := by
  have e : nestE (limP n m) = 0 := by
    unfold nestE; rw [limP_sum, if_neg, if_pos (limP_valid n m)]
    simpa [limP] using h
  refine ⟨e, ?_⟩
  unfold nestL
  rw [e, if_pos rfl, nestTo_len]
  simp [limP]
set_option maxHeartbeats 16000000 in
theorem ctrLimits_walk (W : World) (v : Value) (hv : IsInt v) (u : Value) (hu : IsInt u) : Calls Try.prog 10 #[v, u] W fun e W' => e = .returned (.bool true) ∧ Below W.heap.size W W' := by
  obtain ⟨n, rfl, _⟩ := hv
  obtain ⟨m, rfl, _⟩ := hu
  by_cases hr : n < 0 ∨ n > 80 ∨ m < 0 ∨ m > 80
  · by_cases h1 : n < 0 <;> by_cases h2 : n > 80 <;> by_cases h3 : m < 0 <;> by_cases h4 : m > 80
    all_goals (try (exfalso; omega))
    all_goals
      clear hr
      go_enter Try.func10, Try.ntmps10
      go_wp2_with fail
      (go_at_call 19; (with_reducible refine (Kin.callK (W := W) (by repeat (first | with_reducible (first | exact blA | exact blB | refine blC _ ?_ | refine blD ?_ ?_ _ | refine blE ?_ | refine blF _ ?_ | refine blG ?_ _ | refine blH ?_ | refine blI ?_ ?_ _) | (simp only [World.size_alloc]; omega) | (simp <;> omega))) (awake16_any _)).mono ?_); rintro e w' ⟨z6, rfl, hz6, rfl⟩; skip)
      go_wp2_with fail
      go_ret
      exact ⟨rfl, z6.2⟩
  · obtain ⟨a, rfl⟩ : ∃ a : Nat, n = (a : Int) := ⟨n.toNat, by omega⟩
    obtain ⟨b, rfl⟩ : ∃ b : Nat, m = (b : Int) := ⟨m.toNat, by omega⟩
    have ha : a ≤ 80 := by omega
    have hb : b ≤ 80 := by omega
    have h1 : ¬ (a : Int) < 0 := by omega
    have h2 : ¬ (a : Int) > 80 := by omega
    have h3 : ¬ (b : Int) < 0 := by omega
    have h4 : ¬ (b : Int) > 80 := by omega
    have hmb := mul_bd (x := (a : Int)) (y := (b : Int)) (M := 80) (N := 80) (by omega) (by omega)
    have hww : IntKind.i64.wrap ((a : Int) * (b : Int)) = (a : Int) * (b : Int) := IntWalk.i64_in _ (by omega)
    clear hr
    go_enter Try.func10, Try.ntmps10
    go_wp2_with fail
    go_loopw [5, 6] (fun s i wr => ∃ k : Nat, k ≤ a ∧ i = .int .i64 k ∧ Hid (OwnPols W.heap.size wr s (limP k b)) ∧ ∃ y : Kin W, y.1 = wr) (fun _ i _ => a - (intOf i).toNat)
    case atStart => exact ⟨0, Nat.zero_le _, rfl, Lib.hid OwnN.nil, ⟨W, Below.refl _ _⟩, rfl⟩
    case round =>
      obtain ⟨k, hk, rfl, HO, y1, rfl⟩ := hrel
      by_cases hlt : k < a
      · obtain ⟨hs, hown, hnest, hap⟩ := HO.out
        have hhl : hs.length ≤ 80 := by have := hnest.1; simp [limP] at this; omega
        have HOW := Lib.hid hown
        have HNE := Lib.hid hnest
        have HAP := Lib.hid hap
        clear hown hnest hap HO
        have hy1 := y1.2.size
        go_wp2_with (first
          | (at_make; refine wpList_mk _ rfl _ _ 40 rfl encPt_len (by decide) (0, 0) y1.1.heap.size 36 (.agg #[.int .i64 0, .int .i64 0]) 16 rfl infoPt2 Try.underlying40 .i64 .i64 _ _ (b) rfl rfl (by omega) (by omega) (by omega) (by decide) (by repeat (first | with_reducible exact Nat.le_refl _ | assumption | with_reducible refine le_alloc ?_ _ | with_reducible refine le_drew ?_ | with_reducible refine Kin.le _ ?_ | assumption | omega | (simp only [World.size_alloc]; omega))) ?_; intro w1 hmk hmb hmlt; (obtain ⟨y, rfl⟩ : ∃ y : Kin y1.1, y.1 = w1 := ⟨⟨w1, Below.trans (by repeat (first | with_reducible (first | exact blA | exact blB | refine blC _ ?_ | refine blD ?_ ?_ _ | refine blE ?_ | refine blF _ ?_ | refine blG ?_ _ | refine blH ?_ | refine blI ?_ ?_ _) | (simp only [World.size_alloc]; omega) | (simp <;> omega))) (hmb.mono (by repeat (first | with_reducible exact Nat.le_refl _ | assumption | with_reducible refine le_alloc ?_ _ | with_reducible refine le_drew ?_ | with_reducible refine Kin.le _ ?_ | assumption | omega | (simp only [World.size_alloc]; omega))))⟩, rfl⟩); (have HRM := Lib.hid (Rd.own' encPt_len (by decide) hmk); have HXM := Lib.hid (fun (u : Value) (hs : List PolH) (ho : y1.1.ownsRow W.heap.size 42 1 u hs.length (hs.flatMap encPol)) => show (Value.slice (some ⟨y1.1.heap.size, 0, none⟩) b b).ownBlock ≠ u.ownBlock from fun e => by have := (ho.lt y1.1.heap.size e.symm).2; omega); clear hmk); clear hmb)
          | (at_builtin; refine wpList_app _ rfl _ _ 24 rfl encPol_len (by decide) onePol W.heap.size 42 (.agg #[.slice none 0 0]) 24 infoPol rfl Try.underlying24 _ _ _ _ rfl ((own_below HOW.out y.2).alloc _) _ _ _ rfl (rd_one _ encPol_len _ ((some ⟨y1.1.heap.size, 0, none⟩, b, b) : PolH) _ rfl) ?c1 (by decide) ?c2 ?_; (case c1 => (first | (simp only [List.length_append, List.length_cons, List.length_nil]; omega) | omega | (simp; omega))); (case c2 => exact (by repeat (first | with_reducible exact Nat.le_refl _ | assumption | with_reducible refine le_alloc ?_ _ | with_reducible refine le_drew ?_ | with_reducible refine Kin.le _ ?_ | assumption | omega | (simp only [World.size_alloc]; omega)))); intro v' w1 hown' hg hbel hat'; ((obtain ⟨y5, rfl⟩ : ∃ y5 : Kin W, y5.1 = w1 := ⟨⟨w1, Below.trans (by repeat (first | with_reducible (first | exact blA | exact blB | refine blC _ ?_ | refine blD ?_ ?_ _ | refine blE ?_ | refine blF _ ?_ | refine blG ?_ _ | refine blH ?_ | refine blI ?_ ?_ _) | (simp only [World.size_alloc]; omega) | (simp <;> omega))) hbel⟩, rfl⟩); have HPU := Lib.hid (OwnN.snoc (e := 42) (h := ((some ⟨y1.1.heap.size, 0, none⟩, b, b) : PolH)) (x := List.replicate b (0, 0)) (HNE.out.below (by repeat (first | with_reducible (first | exact blA | exact blB | refine blC _ ?_ | refine blD ?_ ?_ _ | refine blE ?_ | refine blF _ ?_ | refine blG ?_ _ | refine blH ?_ | refine blI ?_ ?_ _) | (simp only [World.size_alloc]; omega) | (simp <;> omega)))) HAP.out hown' hg hat' trivial (Rd.below HRM.out (by repeat (first | with_reducible (first | exact blA | exact blB | refine blC _ ?_ | refine blD ?_ ?_ _ | refine blE ?_ | refine blF _ ?_ | refine blG ?_ _ | refine blH ?_ | refine blI ?_ ?_ _) | (simp only [World.size_alloc]; omega) | (simp <;> omega)))) (.inr (HXM.out _ _ HOW.out))); clear hown' hg hbel hat')))
        refine ⟨⟨k + 1, by omega, by go_num, Lib.hid (by rw [limP_succ]; exact HPU.out), y5, rfl⟩, by simp [intOf]; omega⟩
      · have hka : a = k := by omega
        subst hka
        have HRD := Lib.hid (OwnN.rd encPol_len HO.out)
        have hL1 : (limP a b).length ≤ 1000 := by simp [limP]; omega
        have HL2 := Lib.hid (show ∀ o ∈ limP a b, o.length ≤ 1000 from fun o ho => by rw [List.eq_of_mem_replicate ho]; simp; omega)
        by_cases hbig : a > 64 ∨ a * b > 1024
        · obtain ⟨e1, e2⟩ := lim_big hbig
          have HE1 := Lib.hid e1
          have HE2 := Lib.hid e2
          have hbi : a > 64 ∨ (a : Int) * (b : Int) > 1024 := by
            rcases hbig with h | h
            · exact .inl h
            · right; have : ((a * b : Nat) : Int) > 1024 := by omega
              rwa [Int.natCast_mul] at this
          clear e1 e2 hbig
          go_wp2_with fail
          (go_at_call 25; (with_reducible refine (Kin.callK (W := W) (by repeat (first | with_reducible (first | exact blA | exact blB | refine blC _ ?_ | refine blD ?_ ?_ _ | refine blE ?_ | refine blF _ ?_ | refine blG ?_ _ | refine blH ?_ | refine blI ?_ ?_ _) | (simp only [World.size_alloc]; omega) | (simp <;> omega))) (nest_own _ (limP a b) _ HRD.out hL1 HL2.out HE1.out HE2.out)).mono ?_); rintro e w' ⟨z2, ⟨A, c, rfl, h2⟩, hz2, rfl⟩; skip)
          clear h2 hz2
          by_cases h64 : (a : Int) > 64
          · go_wp2_with fail
            (go_at_call 19; (with_reducible refine (Kin.callK (W := W) (by repeat (first | with_reducible (first | exact blA | exact blB | refine blC _ ?_ | refine blD ?_ ?_ _ | refine blE ?_ | refine blF _ ?_ | refine blG ?_ _ | refine blH ?_ | refine blI ?_ ?_ _) | (simp only [World.size_alloc]; omega) | (simp <;> omega))) (awake16_any _)).mono ?_); rintro e w' ⟨z6, rfl, hz6, rfl⟩; skip)
            go_wp2_with fail
            go_ret
            exact ⟨rfl, z6.2⟩
          · have hab : (a : Int) * (b : Int) > 1024 := by
              rcases hbi with h | h
              · omega
              · exact h
            go_wp2_with fail
            (go_at_call 19; (with_reducible refine (Kin.callK (W := W) (by repeat (first | with_reducible (first | exact blA | exact blB | refine blC _ ?_ | refine blD ?_ ?_ _ | refine blE ?_ | refine blF _ ?_ | refine blG ?_ _ | refine blH ?_ | refine blI ?_ ?_ _) | (simp only [World.size_alloc]; omega) | (simp <;> omega))) (awake16_any _)).mono ?_); rintro e w' ⟨z6, rfl, hz6, rfl⟩; skip)
            go_wp2_with fail
            go_ret
            exact ⟨rfl, z6.2⟩
        · obtain ⟨e1, e2⟩ := lim_small hbig
          obtain ⟨R, hR⟩ : ∃ R, nestL (limP a b) = R := ⟨_, rfl⟩
          rw [hR] at e2
          have HE1 := Lib.hid e1
          have HE2 := Lib.hid e2
          have HR := Lib.hid hR
          have h64 : ¬ (a : Int) > 64 := by omega
          have hab : ¬ (a : Int) * (b : Int) > 1024 := by
            intro h
            have : ((a * b : Nat) : Int) > 1024 := by rw [Int.natCast_mul]; exact h
            omega
          clear e1 e2 hbig hR
          go_wp2_with fail
          (go_at_call 25; (with_reducible refine (Kin.callK (W := W) (by repeat (first | with_reducible (first | exact blA | exact blB | refine blC _ ?_ | refine blD ?_ ?_ _ | refine blE ?_ | refine blF _ ?_ | refine blG ?_ _ | refine blH ?_ | refine blI ?_ ?_ _) | (simp only [World.size_alloc]; omega) | (simp <;> omega))) (nest_own _ (limP a b) _ HRD.out hL1 HL2.out HE1.out HR.out)).mono ?_); rintro e w' ⟨z2, ⟨A, c, rfl, h2⟩, hz2, rfl⟩; skip)
          rw [HE2.out]
          have ee : ((a : Int) == (a : Int)) = true := beq_self_eq_true _
          clear h2 hz2
          go_wp2_with fail
          (go_at_call 19; (with_reducible refine (Kin.callK (W := W) (by repeat (first | with_reducible (first | exact blA | exact blB | refine blC _ ?_ | refine blD ?_ ?_ _ | refine blE ?_ | refine blF _ ?_ | refine blG ?_ _ | refine blH ?_ | refine blI ?_ ?_ _) | (simp only [World.size_alloc]; omega) | (simp <;> omega))) (awake16_any _)).mono ?_); rintro e w' ⟨z6, rfl, hz6, rfl⟩; skip)
          go_wp2_with fail
          go_ret
          exact ⟨rfl, z6.2⟩
set_option maxRecDepth 100000 in
theorem contourLimits_lifted (os : Os) (started : os.Started) (H : Type) (enc : TypeId × Value → H) :
    ReturnsInHanded {} Try.checked os 10 .any (Rows.contourLimitsSpec.pre6 enc Try.prog Try.f10 Rows.contourLimitsRow.domain false) (Rows.contourLimitsSpec.post enc Try.prog Try.f10 false true false false) := by
  refine returnsInHanded_of_change (C := Try.checked) own started (by kernel_rfl) Try.func10
    (ChangeSpec.witness6 (enc := enc) (C := Try.checked) false ⟨#[], #[.int .i64 0, .int .i64 0], []⟩ 8 (by kernel_rfl) (by kernel_rfl) (by kernel_rfl) (by kernel_rfl)) ?_
  intro W base args ds gs before hval0 hW hcnd _
  have hval : ∀ (j : Nat) t v, Try.f10.params[j]? = some t → args[j]? = some v → Value.okWide Try.prog W .any base t v := hval0
  have hW' := hW
  obtain ⟨p, q, hA0, hV, rfl, hfz, hnd⟩ := hW
  have hA : DataW.TrodAll enc Try.prog W 0 (fun _ => true) true Try.f10.params.toList args.toList ds p := hA0
  rw [Try.params10] at hA hval
  have hAA := hA
  obtain ⟨v0, vs0, d0, ds0, p0, q0, hargs, rfl, rfl, h0, r0⟩ := trodAll_cons hA
  obtain ⟨v1, vs1, d1, ds1, p1, q1, rfl, rfl, rfl, h1, r1⟩ := trodAll_cons r0
  obtain ⟨rfl, rfl, rfl⟩ := trodAll_nil r1
  obtain rfl : args = #[v0, v1] := by cases args; simp_all
  obtain ⟨rfl, rfl⟩ := trodVars_none hV
  have o0 := open_i64 (hval 0 3 v0 rfl rfl) h0
  have o1 := open_i64 (hval 1 3 v1 rfl rfl) h1
  have hlt : ∀ x ∈ p0 ++ (p1 ++ []), x.block < W.heap.size := fun x hx => hW'.lt x (by simpa using hx)
  refine (ctrLimits_walk W _ o0 _ o1).mono fun e W' ⟨he, bel⟩ => ?_
  subst he
  exact ⟨_, rfl, _, _, _, [], _, [], hW', trodAll_mk1 (shut_bool Try.underlying4 _), below_trodAll laidOut bel _ _ _ _ (by
    intro t ht
    have hcl : ([3, 3] : List TypeId).all (fun t => Try.prog.readableRec t && decide (t < Try.prog.types.size)) = true := by kernel_rfl
    have := List.all_eq_true.1 hcl t ht
    simpa using this) hlt hAA, rfl, bel.frame _, fun h => by cases h⟩
theorem contourLimits_heard : (Try.checked.prog.stopsHeard = true ∧ Try.checked.prog.mayEnter = true) ∧ Try.checked.prog.liftsFinal = Rows.contourLimitsRow.lifted := ⟨⟨by kernel_rfl, by kernel_rfl⟩, by kernel_rfl⟩
theorem contourLimits_calls : (Try.checked.prog.inPlace 10 = Rows.contourLimitsRow.inPlace ∧ Try.checked.prog.unfollowed 10 = Rows.contourLimitsRow.unfollowed) ∧ (Try.checked.prog.recurses 10 = Rows.contourLimitsRow.recurses ∧ Try.checked.prog.varsNamed 10 = Rows.contourLimitsRow.named) := ⟨⟨by kernel_rfl, by kernel_rfl⟩, ⟨by kernel_rfl, by kernel_rfl⟩⟩
theorem contourLimits_closed : joinedFacts Try.checked.prog 10 Try.f10 Rows.contourLimitsSpec Rows.contourLimitsRow = true := by
  unfold joinedFacts
  rw [contourLimits_calls.1.1, contourLimits_calls.1.2, contourLimits_calls.2.1, contourLimits_calls.2.2, contourLimits_heard.1.1, contourLimits_heard.1.2, contourLimits_heard.2]
  kernel_rfl
/-- ContourLimits: for every input the call returns true, and the arguments read behind it as before. No condition. -/
theorem contourLimits_holds : Rows.ContourLimitsSaid :=
  OpenClaim.holds_of_wide 10 Try.f10 rfl rfl rfl rfl rfl rfl rfl ⟨rfl, rfl, rfl, rfl, rfl⟩ rfl rfl rfl rfl rfl (by kernel_rfl) Try.func10 contourLimits_closed
    (of_decide_eq_true (by kernel_rfl)) (by unfold Func.isWrapper; rw [if_neg (of_decide_eq_false (by kernel_rfl))]; exact ⟨rfl, rfl⟩)
    (fun os started H enc _ => contourLimits_lifted os started H enc)

end Go.Proofs.Yteadnlodccnfcaa
