/- TrackAgain: for every input the law returns true. No condition. -/
import Derived.Test.YtomndgjnhhchdaaTrkAwk
import Derived.Test.YtomndgjnhhchdaaTrkPure
import Derived.Test.YtomndgjnhhchdaaTrkOpen
namespace Go.Proofs.Ytomndgjnhhchdaa
set_option linter.unusedSimpArgs false
set_option linter.unusedVariables false
set_option maxRecDepth 100000
open Go.ChangeShapes Go.WideShapes Go.ChangeAt Go.RowKit Go.Joins Trk Reg
attribute [local go_sem] Kin.cell Kin.frozen Kin.lt0 Kin.lt1 Kin.lt2 Kin.lt3
set_option maxRecDepth 100000 in
theorem open_u8 {H : Type} {enc : TypeId × Value → H} {W : World} {r : Reach} {b0 base : Nat} {spare : Nat → Bool} {held : Bool} {v : Value} {d : DataW H} {ps : List MemPlace} (hv : Value.okWide Try.prog W r b0 5 v) (h : DataW.Trod enc Try.prog W base spare held 5 v d ps) : ∃ n : Nat, n ≤ 255 ∧ v = .int .u8 n := by
  obtain ⟨n, rfl, _, _, wf⟩ := open_int Try.underlying5 hv h
  have hb := bounds_u8 wf
  refine ⟨n.toNat, by omega, ?_⟩
  rw [Int.toNat_of_nonneg hb.1]
theorem trs_take {W : World} {A : Option Addr} {n cap m : Nat} {l : List Tr} (h : RdTrs W (.slice A n cap) l) (hm : m ≤ n) : RdTrs W (.slice A m cap) (l.take m) := by
  obtain ⟨hs, h1, h2, h3⟩ := h
  refine ⟨hs.take m, Rd.take h1 hm, by rw [List.length_take, List.length_take, h2], fun i p t hp ht => ?_⟩
  rw [List.getElem?_take] at hp ht
  split at hp
  · rename_i hi
    rw [if_pos hi] at ht
    exact h3 i p t hp ht
  · cases hp
theorem oncT_short {l : List Tr} (h1 : l.length ≤ 40) (h : ∀ t ∈ l, t.2.length ≤ 300) : (oncT l).length ≤ 12040 ∧ ∀ t ∈ oncT l, t.2.length ≤ 300 := by
  have key : ∀ (l O : List Tr) (S : List Cl), (∀ t ∈ l, t.2.length ≤ 300) → (∀ t ∈ O, t.2.length ≤ 300) → (l.foldl oncS (O, S)).1.length ≤ O.length + 300 * l.length ∧ ∀ t ∈ (l.foldl oncS (O, S)).1, t.2.length ≤ 300 := by
    intro l
    induction l with
    | nil => intro O S _ h2; exact ⟨by simp, h2⟩
    | cons t l ih =>
      intro O S h1 h2
      have ht := h1 t (by simp)
      have hl := fun x hx => h1 x (List.mem_cons_of_mem _ hx)
      rw [List.foldl_cons]
      by_cases hv : tval t = true
      · have e : oncS (O, S) t = (O ++ (if (keptL S t.2).all id then [t] else pcsT t (keptL S t.2)), t.2.reverse ++ S) := by unfold oncS; rw [if_pos hv]
        rw [e]
        have hx : (if (keptL S t.2).all id then [t] else pcsT t (keptL S t.2)).length ≤ 300 ∧ ∀ x ∈ (if (keptL S t.2).all id then [t] else pcsT t (keptL S t.2)), x.2.length ≤ 300 := by
          split
          · exact ⟨by simp, fun x hx => by rw [List.mem_singleton] at hx; rw [hx]; exact ht⟩
          · exact ⟨Nat.le_trans (pcsTo_len _ _ _ _) ht, fun x hx => Nat.le_trans (pcsTo_cells _ _ _ _ x hx) ht⟩
        obtain ⟨r1, r2⟩ := ih _ (t.2.reverse ++ S) hl (fun x hx' => (List.mem_append.1 hx').elim (h2 x) (hx.2 x))
        refine ⟨?_, r2⟩
        have := hx.1
        rw [List.length_append] at r1
        simp only [List.length_cons]
        omega
      · have e : oncS (O, S) t = (O, S) := by unfold oncS; rw [if_neg hv]
        rw [e]
        obtain ⟨r1, r2⟩ := ih O S hl h2
        exact ⟨by simp only [List.length_cons]; omega, r2⟩
  obtain ⟨r1, r2⟩ := key l [] [] h (fun t ht => by cases ht)
  exact ⟨by unfold oncT; simp only [List.length_nil] at r1; omega, r2⟩
set_option maxHeartbeats 8000000 in
theorem again_walk (W : World) (v : Value) (h : IsTrks W v) (v2 : Value) (h2 : ∃ n : Nat, n ≤ 255 ∧ v2 = .int .u8 n) : Calls Try.prog 7 #[v, v2] W fun e W' => e = .returned (.bool true) ∧ Below W.heap.size W W' := by
  obtain ⟨q, hq, rfl⟩ := h2
  obtain ⟨l0, h0⟩ := h
  have H0 := Lib.hid h0
  clear h0
  obtain ⟨l, hl⟩ : ∃ l, fewT l0 = l := ⟨_, rfl⟩
  have hlen : l.length ≤ 40 := hl ▸ few_len l0
  have HSH := Lib.hid (fun (t : Tr) (ht : t ∈ l) => few_short (l := l0) (t := t) (hl ▸ ht))
  have HLL := Lib.hid hl
  clear hl
  obtain ⟨ho1, ho2⟩ := oncT_short hlen HSH.out
  obtain ⟨o, ho⟩ : ∃ o, oncT l = o := ⟨_, rfl⟩
  have HOA := Lib.hid (show oncT o = o by rw [← ho]; exact onc_again l)
  have HOO := Lib.hid ho
  rw [ho] at ho1 ho2
  have HO2 := Lib.hid ho2
  obtain ⟨n, hn⟩ : ∃ n, l.length = n := ⟨_, rfl⟩
  have HLN := Lib.hid hn
  rw [hn] at hlen
  obtain ⟨no, hno⟩ : ∃ no, o.length = no := ⟨_, rfl⟩
  have HNO := Lib.hid hno
  rw [hno] at ho1
  obtain ⟨m, hm⟩ : ∃ m, q % (n + 1) = m := ⟨_, rfl⟩
  have hmn : m ≤ n := by rw [← hm]; have := Nat.mod_lt q (show 0 < n + 1 by omega); omega
  obtain ⟨f, hf⟩ : ∃ f, oncT (l.take m) = f := ⟨_, rfl⟩
  obtain ⟨nf, hnf⟩ : ∃ nf, f.length = nf := ⟨_, rfl⟩
  have HPRE := Lib.hid (show nf ≤ no ∧ o.take nf = f by
    obtain ⟨r, hr⟩ := onc_pre l m
    rw [ho, hf] at hr
    rw [← hno, ← hnf, hr]
    simp)
  have HF := Lib.hid hf
  have HNF := Lib.hid hnf
  have hle : nf ≤ no := HPRE.out.1
  have e1 : IntKind.i64.wrap ((n : Int) + 1) = (n : Int) + 1 := IntWalk.i64_in _ (by omega)
  have e2 : IntKind.i64.wrap (q : Int) = (q : Int) := IntWalk.i64_in _ (by omega)
  have e3 : (q : Int).tmod ((n : Int) + 1) = (m : Int) := by rw [Int.tmod_eq_emod_of_nonneg (by omega), ← hm]; rfl
  have e4 : ¬ ((n : Int) + 1 = 0) := by omega
  have e5 : IntKind.i64.wrap (m : Int) = (m : Int) := IntWalk.i64_in _ (by omega)
  have e6 : (m : Int) ≤ (n : Int) := by omega
  have e7 : (nf : Int) ≤ (no : Int) := by omega
  clear ho ho2 hn hno hm hf hnf
  go_enter Try.func7, Try.ntmps7
  go_wp2_with fail
  (go_at_call 19; (with_reducible refine (Kin.callK (W := W) (by repeat (first | with_reducible (first | exact blA | exact blB | refine blC _ ?_ | refine blD ?_ ?_ _ | refine blE ?_ | refine blF _ ?_ | refine blG ?_ _ | refine blH ?_ | refine blI ?_ ?_ _) | (simp only [World.size_alloc]; omega) | (simp <;> omega))) (fewT_any _ _ _ H0.out)).mono ?_); rintro e w' ⟨z1, ⟨u1, rfl, hu1⟩, hz1, rfl⟩; skip)
  rw [HLL.out] at hu1
  obtain ⟨A, capA, rfl, hcapA, hopA⟩ := trks_open hu1
  have HL := Lib.hid hu1
  rw [HLN.out] at HL hcapA ⊢
  clear hz1 hu1 hopA
  go_wp2_with fail
  (go_at_call 24; (with_reducible refine (Kin.callK (W := (Kin.wd z1)) (by repeat (first | with_reducible (first | exact blA | exact blB | refine blC _ ?_ | refine blD ?_ ?_ _ | refine blE ?_ | refine blF _ ?_ | refine blG ?_ _ | refine blH ?_ | refine blI ?_ ?_ _) | (simp only [World.size_alloc]; omega) | (simp <;> omega))) (once_is _ l no _ HL.out (by rw [HLN.out]; omega) HOO.out HNO.out)).mono ?_); rintro e w' ⟨z2, ⟨BO, cO, rfl, hO⟩, hz2, rfl⟩; skip)
  have H2 := Lib.hid hO
  replace HL := Lib.hid (HL.out.below z2.2)
  clear hO hz2
  go_wp2_with fail
  (go_at_call 24; (with_reducible refine (Kin.callK (W := (Kin.wd z2)) (by repeat (first | with_reducible (first | exact blA | exact blB | refine blC _ ?_ | refine blD ?_ ?_ _ | refine blE ?_ | refine blF _ ?_ | refine blG ?_ _ | refine blH ?_ | refine blI ?_ ?_ _) | (simp only [World.size_alloc]; omega) | (simp <;> omega))) (once_is _ o no _ H2.out (by rw [HNO.out]; omega) HOA.out HNO.out)).mono ?_); rintro e w' ⟨z3, ⟨BP, cP, rfl, hP⟩, hz3, rfl⟩; skip)
  have H3 := Lib.hid hP
  replace H2 := Lib.hid (H2.out.below z3.2)
  replace HL := Lib.hid (HL.out.below z3.2)
  clear hP hz3
  go_wp2_with fail
  (go_at_call 25; (with_reducible refine (Kin.callK (W := (Kin.wd z3)) (by repeat (first | with_reducible (first | exact blA | exact blB | refine blC _ ?_ | refine blD ?_ ?_ _ | refine blE ?_ | refine blF _ ?_ | refine blG ?_ _ | refine blH ?_ | refine blI ?_ ?_ _) | (simp only [World.size_alloc]; omega) | (simp <;> omega))) (sameAll_true _ _ o _ H3.out H2.out (by rw [HNO.out]; omega) (fun t ht => Nat.le_trans (HO2.out t ht) (by decide)))).mono ?_); rintro e w' ⟨z4, rfl, hz4, rfl⟩; skip)
  go_wp2_with fail
  replace H2 := Lib.hid (H2.out.below z4.2)
  replace HL := Lib.hid (HL.out.below z4.2)
  (go_at_call 24; (with_reducible refine (Kin.callK (W := (Kin.wd z4)) (by repeat (first | with_reducible (first | exact blA | exact blB | refine blC _ ?_ | refine blD ?_ ?_ _ | refine blE ?_ | refine blF _ ?_ | refine blG ?_ _ | refine blH ?_ | refine blI ?_ ?_ _) | (simp only [World.size_alloc]; omega) | (simp <;> omega))) (once_is _ (l.take m) nf _ (trs_take HL.out hmn) (by rw [List.length_take]; omega) HF.out HNF.out)).mono ?_); rintro e w' ⟨z5, ⟨BF, cF, rfl, hFF⟩, hz5, rfl⟩; skip)
  have H5 := Lib.hid hFF
  replace H2 := Lib.hid (H2.out.below z5.2)
  have H6 := Lib.hid (show RdTrs z5.1 (.slice BO nf cO) f by have := trs_take H2.out hle; rwa [HPRE.out.2] at this)
  have hff : ∀ t ∈ f, t.2.length ≤ 1099511627776 := fun t ht => by
    rw [← HPRE.out.2] at ht
    exact Nat.le_trans (HO2.out t (List.mem_of_mem_take ht)) (by decide)
  have hcO : no ≤ cO := (RdN.op H2.out).2.1
  clear hFF hz5 hz4
  go_wp2_with (first
    | (go_at_call 25; (with_reducible refine (Kin.callK (W := (Kin.wd z5)) (by repeat (first | with_reducible (first | exact blA | exact blB | refine blC _ ?_ | refine blD ?_ ?_ _ | refine blE ?_ | refine blF _ ?_ | refine blG ?_ _ | refine blH ?_ | refine blI ?_ ?_ _) | (simp only [World.size_alloc]; omega) | (simp <;> omega))) (sameAll_true _ _ f _ H6.out H5.out (by rw [HNF.out]; omega) hff)).mono ?_); rintro e w' ⟨z, rfl, hz, rfl⟩)
    | (go_at_call 10; (with_reducible refine (Kin.callK (W := (Kin.wd z5)) (by repeat (first | with_reducible (first | exact blA | exact blB | refine blC _ ?_ | refine blD ?_ ?_ _ | refine blE ?_ | refine blF _ ?_ | refine blG ?_ _ | refine blH ?_ | refine blI ?_ ?_ _) | (simp only [World.size_alloc]; omega) | (simp <;> omega))) (awake23_any _)).mono ?_); rintro e w' ⟨z, rfl, hz, rfl⟩))
  go_ret
  exact ⟨rfl, (((z1.2.trans (z2.2.mono z1.2.size)).trans (z3.2.mono (Nat.le_trans z1.2.size z2.2.size))).trans (z4.2.mono (Nat.le_trans z1.2.size (Nat.le_trans z2.2.size z3.2.size)))).trans ((z5.2.trans (z.2.mono z5.2.size)).mono (Nat.le_trans z1.2.size (Nat.le_trans z2.2.size (Nat.le_trans z3.2.size z4.2.size))))⟩
set_option maxRecDepth 100000 in
theorem trackAgain_lifted (os : Os) (started : os.Started) (H : Type) (enc : TypeId × Value → H) :
    ReturnsInHanded {} Try.checked os 7 .any (Rows.trackAgainSpec.pre6 enc Try.prog Try.f7 Rows.trackAgainRow.domain false) (Rows.trackAgainSpec.post enc Try.prog Try.f7 false true false false) := by
  refine returnsInHanded_of_change (C := Try.checked) own started (by kernel_rfl) Try.func7
    (ChangeSpec.witness6 (enc := enc) (C := Try.checked) false ⟨#[], #[.slice none 0 0, .int .u8 0], []⟩ 8 (by kernel_rfl) (by kernel_rfl) (by kernel_rfl) (by kernel_rfl)) ?_
  intro W base args ds gs before hval0 hW hcnd _
  have hval : ∀ (j : Nat) t v, Try.f7.params[j]? = some t → args[j]? = some v → Value.okWide Try.prog W .any base t v := hval0
  have hW' := hW
  obtain ⟨p, q, hA0, hV, rfl, hfz, hnd⟩ := hW
  have hA : DataW.TrodAll enc Try.prog W 0 (fun _ => true) true Try.f7.params.toList args.toList ds p := hA0
  rw [Try.params7] at hA hval
  have hAA := hA
  obtain ⟨v0, vs0, d0, ds0, p0, q0, hargs, rfl, rfl, h0, r0⟩ := trodAll_cons hA
  obtain ⟨v1, vs1, d1, ds1, p1, q1, rfl, rfl, rfl, h1, r1⟩ := trodAll_cons r0
  obtain ⟨rfl, rfl, rfl⟩ := trodAll_nil r1
  obtain rfl : args = #[v0, v1] := by cases args; simp_all
  obtain ⟨rfl, rfl⟩ := trodVars_none hV
  have o0 := open_trks (hval 0 33 v0 rfl rfl) h0
  have o1 := open_u8 (hval 1 5 v1 rfl rfl) h1
  have hlt : ∀ x ∈ p0 ++ (p1 ++ []), x.block < W.heap.size := fun x hx => hW'.lt x (by simpa using hx)
  refine (again_walk W _ o0 _ o1).mono fun e W' ⟨he, bel⟩ => ?_
  subst he
  exact ⟨_, rfl, _, _, _, [], _, [], hW', trodAll_mk1 (shut_bool Try.underlying4 _), below_trodAll laidOut bel _ _ _ _ (by
    intro t ht
    have hcl : ([33, 5] : List TypeId).all (fun t => Try.prog.readableRec t && decide (t < Try.prog.types.size)) = true := by kernel_rfl
    have := List.all_eq_true.1 hcl t ht
    simpa using this) hlt hAA, rfl, bel.frame _, fun h => by cases h⟩
theorem trackAgain_heard : (Try.checked.prog.stopsHeard = true ∧ Try.checked.prog.mayEnter = true) ∧ Try.checked.prog.liftsFinal = Rows.trackAgainRow.lifted := ⟨⟨by kernel_rfl, by kernel_rfl⟩, by kernel_rfl⟩
theorem trackAgain_calls : (Try.checked.prog.inPlace 7 = Rows.trackAgainRow.inPlace ∧ Try.checked.prog.unfollowed 7 = Rows.trackAgainRow.unfollowed) ∧ (Try.checked.prog.recurses 7 = Rows.trackAgainRow.recurses ∧ Try.checked.prog.varsNamed 7 = Rows.trackAgainRow.named) := ⟨⟨by kernel_rfl, by kernel_rfl⟩, ⟨by kernel_rfl, by kernel_rfl⟩⟩
theorem trackAgain_closed : joinedFacts Try.checked.prog 7 Try.f7 Rows.trackAgainSpec Rows.trackAgainRow = true := by
  unfold joinedFacts
  rw [trackAgain_calls.1.1, trackAgain_calls.1.2, trackAgain_calls.2.1, trackAgain_calls.2.2, trackAgain_heard.1.1, trackAgain_heard.1.2, trackAgain_heard.2]
  kernel_rfl
/-- TrackAgain: for every input the call returns true, and the arguments read behind it as before. No condition. -/
theorem trackAgain_holds : Rows.TrackAgainSaid :=
  OpenClaim.holds_of_wide 7 Try.f7 rfl rfl rfl rfl rfl rfl rfl ⟨rfl, rfl, rfl, rfl, rfl⟩ rfl rfl rfl rfl rfl (by kernel_rfl) Try.func7 trackAgain_closed
    (of_decide_eq_true (by kernel_rfl)) (by unfold Func.isWrapper; rw [if_neg (of_decide_eq_false (by kernel_rfl))]; exact ⟨rfl, rfl⟩)
    (fun os started H enc _ => trackAgain_lifted os started H enc)

end Go.Proofs.Ytomndgjnhhchdaa
