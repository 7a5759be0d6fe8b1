/- ContourNested: for every input the law returns true. No condition. -/
import Derived.Test.YteadnlodccnfcaaCtrInt
import Derived.Test.YteadnlodccnfcaaCtrNst
import Derived.Test.YteadnlodccnfcaaCtrTwo
import Derived.Laws.Bits64
namespace Go.Proofs.Yteadnlodccnfcaa
set_option linter.unusedSimpArgs false
set_option linter.unusedVariables false
set_option maxRecDepth 100000
open Go.ChangeShapes Go.WideShapes Go.ChangeAt Go.RowKit Go.Joins Planar
attribute [local go_sem] Kin.cell Kin.frozen Kin.lt0 Kin.lt1 Kin.lt2 Kin.lt3 run_mkf
def kOf (x : Int) : Nat := (x % 18446744073709551616).toNat % 4
theorem kOf_lt (x : Int) : kOf x < 4 := Nat.mod_lt _ (by omega)
theorem and3 (x : Int) : bits .and .i64 x 3 = (kOf x : Int) := by
  have h1 : (BitVec.ofInt 64 x).toNat = (x % 18446744073709551616).toNat := by rw [BitVec.toNat_ofInt]; rfl
  have h2 : (BitVec.ofInt 64 (3 : Int)).toNat = 2 ^ 2 - 1 := by decide
  show IntKind.i64.wrap ((BitVec.ofInt 64 x &&& BitVec.ofInt 64 (3 : Int)).toNat : Int) = _
  rw [BitVec.toNat_and, h1, h2, Nat.and_two_pow_sub_one_eq_mod]
  have := kOf_lt x
  exact IntWalk.i64_in _ (by unfold kOf at this; omega)
def kAt (F : List Int) (i : Nat) : Nat := match F[i]? with | some x => kOf x | none => 0
theorem kAt_lt (F : List Int) (i : Nat) : kAt F i < 4 := by
  unfold kAt
  split
  · exact kOf_lt _
  · omega
def numL (j : Nat) : List Int := (List.range j).map fun i : Nat => (i : Int)
theorem numL_succ (j : Nat) : numL (j + 1) = numL j ++ [(j : Int)] := by simp [numL, List.range_succ]
theorem numL_len (j : Nat) : (numL j).length = j := by simp [numL]
theorem squareO (a b f : Int) (k : Nat) (w : World) (hk : k < 4) (hf : f = (k : Int)) :
    Calls Try.prog 28 #[.int .i64 a, .int .i64 b, .int .i64 f] w fun e w' => (∃ S c, e = .returned (.agg #[.slice S 4 c]) ∧ Rd 2 encPt w' (.slice S 4 c) (sqP a b k) ∧ ∀ q, (Value.slice S 4 c).ownBlock = some q → w.heap.size ≤ q) ∧ Below w.heap.size w w' := by
  subst hf
  refine (square_any a b k w hk).mono fun e w' ⟨⟨S, c, he, ho⟩, hb⟩ => ⟨⟨S, c, he, ?_, fun q hq => (ho.lt q hq).1⟩, hb⟩
  have hl : (sqP a b k).length = 4 := by simp [sqP]
  have h2 : w'.ownsRow w.heap.size 36 2 (.slice S 4 c) (sqP a b k).length ((sqP a b k).flatMap encPt) := by rw [hl]; exact ho
  exact Rd.own encPt_len h2
set_option maxHeartbeats 16000000 in
theorem ctrNested_walk (W : World) (v : Value) (hv : IsInt v) (u : Value) (hu : IsInts W u) : Calls Try.prog 8 #[v, u] W fun e W' => e = .returned (.bool true) ∧ Below W.heap.size W W' := by
  obtain ⟨n, rfl, _⟩ := hv
  obtain ⟨F, hF, _⟩ := hu
  obtain ⟨A, capA, rfl, hcapA, hopA⟩ := hF.open_
  have HA := Lib.hid hopA
  have HLA := Lib.hid hF
  clear hopA hF
  by_cases hr : n < 0 ∨ n > 20
  · by_cases h1 : n < 0 <;> by_cases h2 : n > 20
    all_goals (try (exfalso; omega))
    all_goals
      clear hr
      go_enter Try.func8, Try.ntmps8
      go_wp2_with fail
      (go_at_call 19; (with_reducible refine (Kin.callK (W := W) (by repeat (first | with_reducible (first | exact blA | exact blB | refine blC _ ?_ | refine blD ?_ ?_ _ | refine blE ?_ | refine blF _ ?_ | refine blG ?_ _ | refine blH ?_ | refine blI ?_ ?_ _) | (simp only [World.size_alloc]; omega) | (simp <;> omega))) (awake16_any _)).mono ?_); rintro e w' ⟨z6, rfl, hz6, rfl⟩; skip)
      go_wp2_with fail
      go_ret
      exact ⟨rfl, z6.2⟩
  · obtain ⟨a, rfl⟩ : ∃ a : Nat, n = (a : Int) := ⟨n.toNat, by omega⟩
    have ha : a ≤ 20 := by omega
    have h1 : ¬ (a : Int) < 0 := by omega
    have h2 : ¬ (a : Int) > 20 := by omega
    clear hr
    go_enter Try.func8, Try.ntmps8
    go_wp2_with fail
    go_loopw [5, 6, 7] (fun s g i wr => ∃ k : Nat, k ≤ a ∧ i = .int .i64 k ∧ Hid (Two W.heap.size wr s (sqL (kAt F) k) 3 1 g (numL k).length ((numL k).flatMap encI)) ∧ ∃ y : Kin W, y.1 = wr) (fun _ _ i _ => a - (intOf i).toNat)
    case atStart => exact ⟨0, Nat.zero_le _, rfl, Lib.hid (Two.nil (World.ownsRow_nil _ _ _ _)), ⟨W, Below.refl _ _⟩, rfl⟩
    case round =>
      obtain ⟨k, hk, rfl, HO, y1, rfl⟩ := hrel
      by_cases hlt : k < a
      · obtain ⟨K, hK⟩ : ∃ K, kAt F k = K := ⟨_, rfl⟩
        have hK4 : K < 4 := by rw [← hK]; exact kAt_lt F k
        have HK := Lib.hid hK
        have hw50 : IntKind.i64.wrap (50 - (k : Int)) = 50 - (k : Int) := IntWalk.i64_in _ (by omega)
        by_cases hfl : k < F.length
        · obtain ⟨x, hx⟩ : ∃ el_, (F)[k]? = some el_ := ⟨_, List.getElem?_eq_getElem (by first | exact hfl | omega)⟩
          obtain ⟨bA, offA, rfl, hbA, hcA⟩ := HA.out (k) _ hx
          have x_0 : W.cell? ⟨bA, offA + k, none⟩ = some (.int .i64 x) := by have := hcA (k) _ hx 0 _ rfl; simpa using this
          have hbA2 : bA < W.heap.size + 1 := by omega
          have HAc := Lib.hid hcA
          have Hx := Lib.hid hx
          clear hx hcA
          have HX := Lib.hid (show bits .and .i64 x 3 = (K : Int) by
            rw [and3, ← hK]; unfold kAt; rw [Hx.out])
          clear hK
          go_wp2_with fail
          (go_at_call 28; (with_reducible refine (Kin.callK (W := W) (by repeat (first | with_reducible (first | exact blA | exact blB | refine blC _ ?_ | refine blD ?_ ?_ _ | refine blE ?_ | refine blF _ ?_ | refine blG ?_ _ | refine blH ?_ | refine blI ?_ ?_ _) | (simp only [World.size_alloc]; omega) | (simp <;> omega))) (squareO _ _ _ K _ hK4 HX.out)).mono ?_); rintro e w' ⟨z2, ⟨S, c, rfl, h2, hlow⟩, hz2, rfl⟩; skip)
          have HNL := Lib.hid (hlow : ∀ q, (psl ((S, 4, c) : PolH)).ownBlock = some q → y1.1.heap.size ≤ q)
          obtain ⟨hs0, t1, t2, t3, t4, t5⟩ := HO.out
          have HX1 := Lib.hid (new_apart (h := ((S, 4, c) : PolH)) h2 HNL.out t1)
          have HX2 := Lib.hid (new_apart (h := ((S, 4, c) : PolH)) h2 HNL.out t5)
          have hhl : hs0.length ≤ 20 := by have := t2.1; rw [sqL_len] at this; omega
          have HT1 := Lib.hid (own_below t1 hz2)
          have HT2 := Lib.hid (t2.below hz2)
          have HT3 := Lib.hid t3
          have HT4 := Lib.hid t4
          have HT5 := Lib.hid (own_below t5 hz2)
          have H2 := Lib.hid h2
          have hwz : W.heap.size ≤ z2.1.heap.size := z2.2.size
          have hnl : (numL k).length ≤ 20 := by rw [numL_len]; omega
          have HSQ := Lib.hid (show sqL (kAt F) (k + 1) = sqL (kAt F) k ++ [sqP k (50 - k) K] by rw [sqL_succ, HK.out])
          clear t1 t2 t3 t4 t5 HO h2 hlow hz2 HNL
          go_wp2_with (first
            | (at_builtin; refine wpList_app _ rfl _ _ 24 rfl encPol_len (by decide) onePol W.heap.size 42 (.agg #[.slice none 0 0]) 24 infoPol rfl Try.underlying24 _ _ _ _ rfl (HT1.out.alloc _) _ _ _ rfl (rd_one _ encPol_len _ ((S, 4, c) : PolH) _ rfl) ?c1 (by decide) ?c2 ?_; (case c1 => (first | (simp only [List.length_append, List.length_cons, List.length_nil]; omega) | omega | (simp; omega))); (case c2 => exact (by repeat (first | with_reducible exact Nat.le_refl _ | assumption | with_reducible refine le_alloc ?_ _ | with_reducible refine le_drew ?_ | with_reducible refine Kin.le _ ?_ | assumption | omega | (simp only [World.size_alloc]; omega)))); intro v' w1 hown' hg hbel hat'; ((obtain ⟨y5, rfl⟩ : ∃ y5 : Kin W, y5.1 = w1 := ⟨⟨w1, Below.trans (by repeat (first | with_reducible (first | exact blA | exact blB | refine blC _ ?_ | refine blD ?_ ?_ _ | refine blE ?_ | refine blF _ ?_ | refine blG ?_ _ | refine blH ?_ | refine blI ?_ ?_ _) | (simp only [World.size_alloc]; omega) | (simp <;> omega))) hbel⟩, rfl⟩); have HTW := Lib.hid (Two.push (e2 := 3) (h := ((S, 4, c) : PolH)) (x := sqP k (50 - k) K) (HT1.out.alloc _) (HT2.out.below ((Below.refl _ _).alloc (Nat.le_refl _) _)) HT3.out HT4.out (HT5.out.alloc _) (by decide) hown' hg hat' (Rd.below H2.out ((Below.refl _ _).alloc (Nat.le_refl _) _)) HX1.out HX2.out); have HT6 := Lib.hid (HTW.out.choose_spec.2.2.2.2); clear hown' hg hbel hat'))
            | (at_builtin; refine wpList_app _ rfl _ _ 43 rfl encI_len (by decide) oneI W.heap.size 3 (.int .i64 0) 8 infoInt rfl Try.underlying43 _ _ _ _ rfl (HT6.out.alloc _) _ _ _ rfl (rd_one _ encI_len _ (k : Int) _ rfl) ?c1 (by decide) ?c2 ?_; (case c1 => (first | (simp only [List.length_append, List.length_cons, List.length_nil]; omega) | omega | (simp; omega))); (case c2 => exact (by repeat (first | with_reducible exact Nat.le_refl _ | assumption | with_reducible refine le_alloc ?_ _ | with_reducible refine le_drew ?_ | with_reducible refine Kin.le _ ?_ | assumption | omega | (simp only [World.size_alloc]; omega)))); intro v' w1 hown' hg hbel hat'; ((obtain ⟨y6, rfl⟩ : ∃ y6 : Kin W, y6.1 = w1 := ⟨⟨w1, Below.trans (by repeat (first | with_reducible (first | exact blA | exact blB | refine blC _ ?_ | refine blD ?_ ?_ _ | refine blE ?_ | refine blF _ ?_ | refine blG ?_ _ | refine blH ?_ | refine blI ?_ ?_ _) | (simp only [World.size_alloc]; omega) | (simp <;> omega))) hbel⟩, rfl⟩); have HT7 := Lib.hid (Two.grow (HTW.out.below ((Below.refl _ _).alloc (Nat.le_refl _) _)) (by decide) hown' hg hat'); clear hown' hg hbel hat')))
          refine ⟨⟨k + 1, by omega, by go_num, Lib.hid (by rw [HSQ.out, numL_succ]; exact HT7.out), y6, rfl⟩, by simp [intOf]; omega⟩
        · have hK0 : K = 0 := by rw [← hK]; unfold kAt; rw [List.getElem?_eq_none (by omega)]
          clear hK
          subst hK0
          have HZ0 := Lib.hid (show (0 : Int) = ((0 : Nat) : Int) from rfl)
          go_wp2_with fail
          (go_at_call 28; (with_reducible refine (Kin.callK (W := W) (by repeat (first | with_reducible (first | exact blA | exact blB | refine blC _ ?_ | refine blD ?_ ?_ _ | refine blE ?_ | refine blF _ ?_ | refine blG ?_ _ | refine blH ?_ | refine blI ?_ ?_ _) | (simp only [World.size_alloc]; omega) | (simp <;> omega))) (squareO _ _ 0 0 _ hK4 HZ0.out)).mono ?_); rintro e w' ⟨z2, ⟨S, c, rfl, h2, hlow⟩, hz2, rfl⟩; skip)
          have HNL := Lib.hid (hlow : ∀ q, (psl ((S, 4, c) : PolH)).ownBlock = some q → y1.1.heap.size ≤ q)
          obtain ⟨hs0, t1, t2, t3, t4, t5⟩ := HO.out
          have HX1 := Lib.hid (new_apart (h := ((S, 4, c) : PolH)) h2 HNL.out t1)
          have HX2 := Lib.hid (new_apart (h := ((S, 4, c) : PolH)) h2 HNL.out t5)
          have hhl : hs0.length ≤ 20 := by have := t2.1; rw [sqL_len] at this; omega
          have HT1 := Lib.hid (own_below t1 hz2)
          have HT2 := Lib.hid (t2.below hz2)
          have HT3 := Lib.hid t3
          have HT4 := Lib.hid t4
          have HT5 := Lib.hid (own_below t5 hz2)
          have H2 := Lib.hid h2
          have hwz : W.heap.size ≤ z2.1.heap.size := z2.2.size
          have hnl : (numL k).length ≤ 20 := by rw [numL_len]; omega
          have HSQ := Lib.hid (show sqL (kAt F) (k + 1) = sqL (kAt F) k ++ [sqP k (50 - k) 0] by rw [sqL_succ, HK.out])
          clear t1 t2 t3 t4 t5 HO h2 hlow hz2 HNL
          go_wp2_with (first
            | (at_builtin; refine wpList_app _ rfl _ _ 24 rfl encPol_len (by decide) onePol W.heap.size 42 (.agg #[.slice none 0 0]) 24 infoPol rfl Try.underlying24 _ _ _ _ rfl (HT1.out.alloc _) _ _ _ rfl (rd_one _ encPol_len _ ((S, 4, c) : PolH) _ rfl) ?c1 (by decide) ?c2 ?_; (case c1 => (first | (simp only [List.length_append, List.length_cons, List.length_nil]; omega) | omega | (simp; omega))); (case c2 => exact (by repeat (first | with_reducible exact Nat.le_refl _ | assumption | with_reducible refine le_alloc ?_ _ | with_reducible refine le_drew ?_ | with_reducible refine Kin.le _ ?_ | assumption | omega | (simp only [World.size_alloc]; omega)))); intro v' w1 hown' hg hbel hat'; ((obtain ⟨y5, rfl⟩ : ∃ y5 : Kin W, y5.1 = w1 := ⟨⟨w1, Below.trans (by repeat (first | with_reducible (first | exact blA | exact blB | refine blC _ ?_ | refine blD ?_ ?_ _ | refine blE ?_ | refine blF _ ?_ | refine blG ?_ _ | refine blH ?_ | refine blI ?_ ?_ _) | (simp only [World.size_alloc]; omega) | (simp <;> omega))) hbel⟩, rfl⟩); have HTW := Lib.hid (Two.push (e2 := 3) (h := ((S, 4, c) : PolH)) (x := sqP k (50 - k) 0) (HT1.out.alloc _) (HT2.out.below ((Below.refl _ _).alloc (Nat.le_refl _) _)) HT3.out HT4.out (HT5.out.alloc _) (by decide) hown' hg hat' (Rd.below H2.out ((Below.refl _ _).alloc (Nat.le_refl _) _)) HX1.out HX2.out); have HT6 := Lib.hid (HTW.out.choose_spec.2.2.2.2); clear hown' hg hbel hat'))
            | (at_builtin; refine wpList_app _ rfl _ _ 43 rfl encI_len (by decide) oneI W.heap.size 3 (.int .i64 0) 8 infoInt rfl Try.underlying43 _ _ _ _ rfl (HT6.out.alloc _) _ _ _ rfl (rd_one _ encI_len _ (k : Int) _ rfl) ?c1 (by decide) ?c2 ?_; (case c1 => (first | (simp only [List.length_append, List.length_cons, List.length_nil]; omega) | omega | (simp; omega))); (case c2 => exact (by repeat (first | with_reducible exact Nat.le_refl _ | assumption | with_reducible refine le_alloc ?_ _ | with_reducible refine le_drew ?_ | with_reducible refine Kin.le _ ?_ | assumption | omega | (simp only [World.size_alloc]; omega)))); intro v' w1 hown' hg hbel hat'; ((obtain ⟨y6, rfl⟩ : ∃ y6 : Kin W, y6.1 = w1 := ⟨⟨w1, Below.trans (by repeat (first | with_reducible (first | exact blA | exact blB | refine blC _ ?_ | refine blD ?_ ?_ _ | refine blE ?_ | refine blF _ ?_ | refine blG ?_ _ | refine blH ?_ | refine blI ?_ ?_ _) | (simp only [World.size_alloc]; omega) | (simp <;> omega))) hbel⟩, rfl⟩); have HT7 := Lib.hid (Two.grow (HTW.out.below ((Below.refl _ _).alloc (Nat.le_refl _) _)) (by decide) hown' hg hat'); clear hown' hg hbel hat')))
          refine ⟨⟨k + 1, by omega, by go_num, Lib.hid (by rw [HSQ.out, numL_succ]; exact HT7.out), y6, rfl⟩, by simp [intOf]; omega⟩
      · have hka : a = k := by omega
        subst hka
        have HRD := Lib.hid HO.out.rd
        have HGD := Lib.hid (show Rd 1 encI y1.1 u6 (numL a) from (by
          obtain ⟨hs0, t1, t2, t3, t4, t5⟩ := HO.out
          exact Rd.own encI_len t5))
        have HE := Lib.hid (sq_E (kAt_lt F) ha)
        have HL := Lib.hid (show nestL (sqL (kAt F) a) = numL a from sq_L (kAt_lt F) ha)
        have hl1 : (sqL (kAt F) a).length ≤ 1000 := by rw [sqL_len]; omega
        have HL2 := Lib.hid (show ∀ o ∈ sqL (kAt F) a, o.length ≤ 1000 from fun o ho => by
          unfold sqL at ho
          obtain ⟨i, _, rfl⟩ := List.mem_map.1 ho
          rw [sqP_len]; omega)
        have hnl : (numL a).length ≤ 1000000000 := by rw [numL_len]; omega
        clear HO
        go_wp2_with fail
        (go_at_call 25; (with_reducible refine (Kin.callK (W := W) (by repeat (first | with_reducible (first | exact blA | exact blB | refine blC _ ?_ | refine blD ?_ ?_ _ | refine blE ?_ | refine blF _ ?_ | refine blG ?_ _ | refine blH ?_ | refine blI ?_ ?_ _) | (simp only [World.size_alloc]; omega) | (simp <;> omega))) (nest_is _ (sqL (kAt F) a) _ HRD.out hl1 HL2.out HE.out HL.out)).mono ?_); rintro e w' ⟨z2, ⟨u2, rfl, h2⟩, hz2, rfl⟩; skip)
        have H2 := Lib.hid h2
        replace HGD := Lib.hid (HGD.out.below hz2)
        clear h2 hz2
        go_wp2_with fail
        (go_at_call 27; (with_reducible refine (Kin.callK (W := W) (by repeat (first | with_reducible (first | exact blA | exact blB | refine blC _ ?_ | refine blD ?_ ?_ _ | refine blE ?_ | refine blF _ ?_ | refine blG ?_ _ | refine blH ?_ | refine blI ?_ ?_ _) | (simp only [World.size_alloc]; omega) | (simp <;> omega))) (ints_true _ _ (numL a) _ H2.out HGD.out hnl)).mono ?_); rintro e w' ⟨z4, rfl, hz4, rfl⟩; skip)
        clear hz4
        go_wp2_with fail
        (go_at_call 19; (with_reducible refine (Kin.callK (W := W) (by repeat (first | with_reducible (first | exact blA | exact blB | refine blC _ ?_ | refine blD ?_ ?_ _ | refine blE ?_ | refine blF _ ?_ | refine blG ?_ _ | refine blH ?_ | refine blI ?_ ?_ _) | (simp only [World.size_alloc]; omega) | (simp <;> omega))) (awake16_any _)).mono ?_); rintro e w' ⟨z6, rfl, hz6, rfl⟩; skip)
        go_wp2_with fail
        go_ret
        exact ⟨rfl, z6.2⟩
set_option maxRecDepth 100000 in
theorem contourNested_lifted (os : Os) (started : os.Started) (H : Type) (enc : TypeId × Value → H) :
    ReturnsInHanded {} Try.checked os 8 .any (Rows.contourNestedSpec.pre6 enc Try.prog Try.f8 Rows.contourNestedRow.domain false) (Rows.contourNestedSpec.post enc Try.prog Try.f8 false true false false) := by
  refine returnsInHanded_of_change (C := Try.checked) own started (by kernel_rfl) Try.func8
    (ChangeSpec.witness6 (enc := enc) (C := Try.checked) false ⟨#[], #[.int .i64 0, .slice none 0 0], []⟩ 8 (by kernel_rfl) (by kernel_rfl) (by kernel_rfl) (by kernel_rfl)) ?_
  intro W base args ds gs before hval0 hW hcnd _
  have hval : ∀ (j : Nat) t v, Try.f8.params[j]? = some t → args[j]? = some v → Value.okWide Try.prog W .any base t v := hval0
  have hW' := hW
  obtain ⟨p, q, hA0, hV, rfl, hfz, hnd⟩ := hW
  have hA : DataW.TrodAll enc Try.prog W 0 (fun _ => true) true Try.f8.params.toList args.toList ds p := hA0
  rw [Try.params8] at hA hval
  have hAA := hA
  obtain ⟨v0, vs0, d0, ds0, p0, q0, hargs, rfl, rfl, h0, r0⟩ := trodAll_cons hA
  obtain ⟨v1, vs1, d1, ds1, p1, q1, rfl, rfl, rfl, h1, r1⟩ := trodAll_cons r0
  obtain ⟨rfl, rfl, rfl⟩ := trodAll_nil r1
  obtain rfl : args = #[v0, v1] := by cases args; simp_all
  obtain ⟨rfl, rfl⟩ := trodVars_none hV
  have o0 := open_i64 (hval 0 3 v0 rfl rfl) h0
  have o1 := open_ints (hval 1 43 v1 rfl rfl) h1
  have hlt : ∀ x ∈ p0 ++ (p1 ++ []), x.block < W.heap.size := fun x hx => hW'.lt x (by simpa using hx)
  refine (ctrNested_walk W _ o0 _ o1).mono fun e W' ⟨he, bel⟩ => ?_
  subst he
  exact ⟨_, rfl, _, _, _, [], _, [], hW', trodAll_mk1 (shut_bool Try.underlying4 _), below_trodAll laidOut bel _ _ _ _ (by
    intro t ht
    have hcl : ([3, 43] : List TypeId).all (fun t => Try.prog.readableRec t && decide (t < Try.prog.types.size)) = true := by kernel_rfl
    have := List.all_eq_true.1 hcl t ht
    simpa using this) hlt hAA, rfl, bel.frame _, fun h => by cases h⟩
theorem contourNested_heard : (Try.checked.prog.stopsHeard = true ∧ Try.checked.prog.mayEnter = true) ∧ Try.checked.prog.liftsFinal = Rows.contourNestedRow.lifted := ⟨⟨by kernel_rfl, by kernel_rfl⟩, by kernel_rfl⟩
theorem contourNested_calls : (Try.checked.prog.inPlace 8 = Rows.contourNestedRow.inPlace ∧ Try.checked.prog.unfollowed 8 = Rows.contourNestedRow.unfollowed) ∧ (Try.checked.prog.recurses 8 = Rows.contourNestedRow.recurses ∧ Try.checked.prog.varsNamed 8 = Rows.contourNestedRow.named) := ⟨⟨by kernel_rfl, by kernel_rfl⟩, ⟨by kernel_rfl, by kernel_rfl⟩⟩
theorem contourNested_closed : joinedFacts Try.checked.prog 8 Try.f8 Rows.contourNestedSpec Rows.contourNestedRow = true := by
  unfold joinedFacts
  rw [contourNested_calls.1.1, contourNested_calls.1.2, contourNested_calls.2.1, contourNested_calls.2.2, contourNested_heard.1.1, contourNested_heard.1.2, contourNested_heard.2]
  kernel_rfl
/-- ContourNested: for every input the call returns true, and the arguments read behind it as before. No condition. -/
theorem contourNested_holds : Rows.ContourNestedSaid :=
  OpenClaim.holds_of_wide 8 Try.f8 rfl rfl rfl rfl rfl rfl rfl ⟨rfl, rfl, rfl, rfl, rfl⟩ rfl rfl rfl rfl rfl (by kernel_rfl) Try.func8 contourNested_closed
    (of_decide_eq_true (by kernel_rfl)) (by unfold Func.isWrapper; rw [if_neg (of_decide_eq_false (by kernel_rfl))]; exact ⟨rfl, rfl⟩)
    (fun os started H enc _ => contourNested_lifted os started H enc)

end Go.Proofs.Yteadnlodccnfcaa
