/- TrackCover: for every input the law returns true. No condition. -/
import Derived.Test.YtomndgjnhhchdaaTrkAwk
import Derived.Test.YtomndgjnhhchdaaTrkPure
import Derived.Test.YtomndgjnhhchdaaTrkOpen
namespace Go.Proofs.Ytomndgjnhhchdaa
set_option linter.unusedSimpArgs false
set_option linter.unusedVariables false
set_option maxRecDepth 100000
open Go.ChangeShapes Go.WideShapes Go.ChangeAt Go.RowKit Go.Joins Trk Reg
attribute [local go_sem] Kin.cell Kin.frozen Kin.lt0 Kin.lt1 Kin.lt2 Kin.lt3
theorem contains18_at {b : Bool} (v : Value) (rows : List Reg.Row) (x y : Int) (w : World) (h : RdReg w v rows) (hbd : RBd rows) (hb : (rvalid rows && memC rows x y) = b) :
    Calls Try.prog 23 #[v, .agg #[.int .i64 x, .int .i64 y]] w fun e w' => e = .returned (.bool b) ∧ Below w.heap.size w w' := by subst hb; exact contains18_any v rows x y w h hbd
theorem trks_op {W : World} {A : Option Addr} {n cap : Nat} {l : List Tr} (h : RdTrs W (.slice A n cap) l) :
    ∀ (i : Nat) (t : Tr), l[i]? = some t → ∃ b off, A = some ⟨b, off, none⟩ ∧ b < W.heap.size ∧
      ∀ (i : Nat) (t : Tr), l[i]? = some t → ∃ (S : Option Addr) (c : Nat), W.cell? ⟨b, off + i * 3, none⟩ = some (.int .i64 t.1.1) ∧ W.cell? ⟨b, off + i * 3 + 1, none⟩ = some (.bool t.1.2) ∧ W.cell? ⟨b, off + i * 3 + 2, none⟩ = some (.slice S t.2.length c) ∧ t.2.length ≤ c ∧ Rd 2 encPt W (.slice S t.2.length c) t.2 := by
  obtain ⟨A', cap', hv, _, ho⟩ := trks_open h
  injection hv with h1
  subst h1
  exact ho
set_option maxHeartbeats 8000000 in
theorem coverL_walk (W : World) (v : Value) (h : IsTrks W v) : Calls Try.prog 5 #[v] W fun e W' => e = .returned (.bool true) ∧ Below W.heap.size W W' := by
  obtain ⟨l0, h0⟩ := h
  have H0 := Lib.hid h0
  clear h0
  obtain ⟨l, hl⟩ : ∃ l, fewT l0 = l := ⟨_, rfl⟩
  have hlen : l.length ≤ 40 := hl ▸ few_len l0
  have HSH := Lib.hid (fun (t : Tr) (ht : t ∈ l) => few_short (l := l0) (t := t) (hl ▸ ht))
  have HLL := Lib.hid hl
  have hcl : (cellsT l).length ≤ 1099511627776 := by
    have := cellsT_len (l := l) (m := 300) (fun t ht => HSH.out t ht)
    omega
  clear hl
  go_enter Try.func5, Try.ntmps5
  go_wp2_with fail
  (go_at_call 19; (with_reducible refine (Kin.callK (W := W) (by repeat (first | with_reducible (first | exact blA | exact blB | refine blC _ ?_ | refine blD ?_ ?_ _ | refine blE ?_ | refine blF _ ?_ | refine blG ?_ _ | refine blH ?_ | refine blI ?_ ?_ _) | (simp only [World.size_alloc]; omega) | (simp <;> omega))) (fewT_any _ _ _ H0.out)).mono ?_); rintro e w' ⟨z1, ⟨u1, rfl, hu1⟩, hz1, rfl⟩; skip)
  rw [HLL.out] at hu1
  obtain ⟨A, capA, rfl, hcapA, hopA⟩ := trks_open hu1
  obtain ⟨n, hn⟩ : ∃ n, l.length = n := ⟨_, rfl⟩
  have HLN := Lib.hid hn
  have HL := Lib.hid hu1
  rw [hn] at HL hcapA ⊢
  have HOP := Lib.hid hopA
  clear hz1 hu1 hopA
  go_wp2_with fail
  (go_at_call 20; (with_reducible refine (Kin.callK (W := (Kin.wd z1)) (by repeat (first | with_reducible (first | exact blA | exact blB | refine blC _ ?_ | refine blD ?_ ?_ _ | refine blE ?_ | refine blF _ ?_ | refine blG ?_ _ | refine blH ?_ | refine blI ?_ ?_ _) | (simp only [World.size_alloc]; omega) | (simp <;> omega))) (cover_any _ l _ HL.out (by omega) hcl)).mono ?_); rintro e w' ⟨z2, ⟨AR, nR, cR, rfl, hR⟩, hz2, rfl⟩; skip)
  have HR := Lib.hid hR
  clear hz2 hR
  go_wp2_with fail
  have mixed : Try.prog.follows .mixedOrders = true := by kernel_rfl
  obtain ⟨y0, hy0⟩ : ∃ y0 : Kin z1.1, y0.1 = z2.1.alloc (.cells #[.slice AR nR cR] 37) := ⟨⟨z2.1.alloc _, (by repeat (first | with_reducible (first | exact blA | exact blB | refine blC _ ?_ | refine blD ?_ ?_ _ | refine blE ?_ | refine blF _ ?_ | refine blG ?_ _ | refine blH ?_ | refine blI ?_ ?_ _) | (simp only [World.size_alloc]; omega) | (simp <;> omega)))⟩, rfl⟩
  obtain ⟨g, hg⟩ : ∃ g, z2.1.heap.size = g := ⟨_, rfl⟩
  have hby : Below z2.1.heap.size z2.1 y0.1 := hy0 ▸ Below.alloc (Below.refl _ _) (Nat.le_refl _) _
  have B0 := Blk.new z2.1 37 #[.slice AR nR cR]
  rw [← hy0, hg] at B0
  rw [← hy0, hg]
  replace HR := Lib.hid (HR.out.below hby)
  replace HL := Lib.hid (HL.out.below y0.2)
  replace HOP := Lib.hid (trks_op HL.out)
  have HB0 := Lib.hid B0
  have b0 : y0.1.cell? ⟨g, 0, none⟩ = some (.slice AR nR cR) := B0.cell 0
  have lg := B0.lt
  have HZ := Lib.hid (show Below W.heap.size W y0.1 from z1.2.trans (y0.2.mono z1.2.size))
  clear hy0 hg hby B0 hcapA
  refine wp_region_held_drew (S := fun w' => Below y0.1.heap.size y0.1 w') (by kernel_rfl) (by repeat (first | with_reducible (first | exact blA | exact blB | refine blC _ ?_ | refine blD ?_ ?_ _ | refine blE ?_ | refine blF _ ?_ | refine blG ?_ _ | refine blH ?_ | refine blI ?_ ?_ _) | (simp only [World.size_alloc]; omega) | (simp <;> omega))) (fun hHeld => ?_)
  try simp only [List.size_toArray, List.length_cons, List.length_nil, Nat.zero_add, Nat.reduceAdd, List.replicate, Array.replicate]
  refine wpAnyH_take (i := 0) (v := ?_) rfl (by kernel_rfl) (by kernel_rfl) (by kernel_rfl) (fun _ _ _ h => h) (Or.inl ⟨by kernel_rfl, ?_⟩) (by assumption) ?_
  rotate_left
  · (intro w' hSw; have s0 := (hSw.cell (p := ⟨g, 0, none⟩) lg).trans (b0); go_simp; try with_reducible rfl)
  try simp only [List.getElem_toArray, List.getElem_cons_succ, List.getElem_cons_zero, Act.put, List.setIfInBounds_toArray, List.set_cons_zero, List.set_cons_succ]
  refine wpAnyH_take (i := 1) (v := ?_) rfl (by kernel_rfl) (by kernel_rfl) (by kernel_rfl) (fun _ _ _ h => h) (Or.inl ⟨by kernel_rfl, ?_⟩) (by assumption) ?_
  rotate_left
  · (intro w' hSw; have s0 := (hSw.cell (p := ⟨g, 0, none⟩) lg).trans (b0); go_simp; try with_reducible rfl)
  try simp only [List.getElem_toArray, List.getElem_cons_succ, List.getElem_cons_zero, Act.put, List.setIfInBounds_toArray, List.set_cons_zero, List.set_cons_succ]
  refine wpAnyH_ready (rs := [2]) (by kernel_rfl) (by simp) (AllReadyH.cons rfl (fun K hK => ?_) AllReadyH.nil)
  go_simp
  (go_at_call 22; (with_reducible refine (Kin.callK (W := (Kin.wd y0)) (by repeat (first | with_reducible (first | exact blA | exact blB | refine blC _ ?_ | refine blD ?_ ?_ _ | refine blE ?_ | refine blF _ ?_ | refine blG ?_ _ | refine blH ?_ | refine blI ?_ ?_ _) | (simp only [World.size_alloc]; omega) | (simp <;> omega))) (coverR_any _ l _ (HL.out.below (by repeat (first | with_reducible (first | exact blA | exact blB | refine blC _ ?_ | refine blD ?_ ?_ _ | refine blE ?_ | refine blF _ ?_ | refine blG ?_ _ | refine blH ?_ | refine blI ?_ ?_ _) | (simp only [World.size_alloc]; omega) | (simp <;> omega)))) (by omega) hcl)).mono ?_); rintro e w' ⟨z3, ⟨AS, nS, cS, rfl, hS⟩, hz3, rfl⟩; skip)
  refine hK.out _ _ (by repeat (first | with_reducible (first | exact blA | exact blB | refine blC _ ?_ | refine blD ?_ ?_ _ | refine blE ?_ | refine blF _ ?_ | refine blG ?_ _ | refine blH ?_ | refine blI ?_ ?_ _) | (simp only [World.size_alloc]; omega) | (simp <;> omega))) (fun hHeld2 => ?_)
  clear hK hHeld
  have hHeld := hHeld2
  clear hHeld2 K
  try simp only [List.getElem_toArray, List.getElem_cons_succ, List.getElem_cons_zero, Act.put, List.setIfInBounds_toArray, List.set_cons_zero, List.set_cons_succ]
  have HR3 := HR.out.below z3.2
  refine wpAnyH_ready (rs := [3]) (by kernel_rfl) (by simp) (AllReadyH.cons rfl (fun K hK => ?_) AllReadyH.nil)
  go_simp
  (go_at_call 21; (with_reducible refine (Kin.callK (W := (Kin.wd y0)) (by repeat (first | with_reducible (first | exact blA | exact blB | refine blC _ ?_ | refine blD ?_ ?_ _ | refine blE ?_ | refine blF _ ?_ | refine blG ?_ _ | refine blH ?_ | refine blI ?_ ?_ _) | (simp only [World.size_alloc]; omega) | (simp <;> omega))) (same18_t _ _ _ HR3 hS (rvalid_bd (ofR_valid _)) (rvalid_bd (ofR_valid _)) rfl)).mono ?_); rintro e w' ⟨z4, rfl, hz4, rfl⟩; skip)
  refine hK.out _ _ (by repeat (first | with_reducible (first | exact blA | exact blB | refine blC _ ?_ | refine blD ?_ ?_ _ | refine blE ?_ | refine blF _ ?_ | refine blG ?_ _ | refine blH ?_ | refine blI ?_ ?_ _) | (simp only [World.size_alloc]; omega) | (simp <;> omega))) (fun hHeld2 => ?_)
  clear hK hHeld
  have hHeld := hHeld2
  clear hHeld2 K
  try simp only [List.getElem_toArray, List.getElem_cons_succ, List.getElem_cons_zero, Act.put, List.setIfInBounds_toArray, List.set_cons_zero, List.set_cons_succ]
  refine wpAnyH_take (i := 4) (v := ?_) rfl (by kernel_rfl) (by kernel_rfl) (by kernel_rfl) (fun _ _ _ h => h) (Or.inl ⟨by kernel_rfl, ?_⟩) (by assumption) ?_
  rotate_left
  · (intro w' hSw; have s0 := (hSw.cell (p := ⟨g, 0, none⟩) lg).trans (b0); go_simp; try with_reducible rfl)
  try simp only [List.getElem_toArray, List.getElem_cons_succ, List.getElem_cons_zero, Act.put, List.setIfInBounds_toArray, List.set_cons_zero, List.set_cons_succ]
  refine wpAnyH_done (by kernel_rfl) ?_ _
  go_wp2_with fail
  obtain ⟨y4, hy4⟩ : ∃ y4 : Kin y0.1, y4.1 = z4.1 := ⟨z4, rfl⟩
  rw [← hy4]
  clear hy4
  go_loopw [18] (fun i wr => ∃ k : Nat, k ≤ n ∧ i = .int .i64 k ∧ ∃ y : Kin y0.1, y.1 = wr) (fun i _ => n - (intOf i).toNat)
  case atStart => exact ⟨0, Nat.zero_le _, rfl, y4, rfl⟩
  case round =>
    obtain ⟨k, hk, rfl, y, rfl⟩ := hrel
    by_cases hlt : k < n
    · obtain ⟨⟨⟨r, cl⟩, cs⟩, ht⟩ : ∃ t, l[k]? = some t := ⟨_, List.getElem?_eq_getElem (by rw [HLN.out]; exact hlt)⟩
      obtain ⟨bA, offA, rfl, hbA, hcA⟩ := HOP.out k _ ht
      obtain ⟨S, cS, t_0, t_1, t_2, hcS, hrS⟩ := hcA k _ ht
      have HTM := Lib.hid (List.mem_of_getElem? ht)
      simp only at t_0 t_1 t_2 hcS hrS
      obtain ⟨nt, hnt⟩ : ∃ nt, cs.length = nt := ⟨_, rfl⟩
      rw [hnt] at t_2 hcS hrS
      have HNT := Lib.hid hnt
      have HRS := Lib.hid hrS
      have hs3 : nt ≤ 300 := by have := HSH.out _ HTM.out; rw [← hnt]; exact this
      clear hcA ht hnt hrS
      go_wp2_with fail
      obtain ⟨y5, hy5⟩ : ∃ y5 : Kin y0.1, y5.1 = y.1.alloc (.cells #[.int .i64 r, .bool cl, .slice S nt cS] 24) := ⟨⟨y.1.alloc _, (by repeat (first | with_reducible (first | exact blA | exact blB | refine blC _ ?_ | refine blD ?_ ?_ _ | refine blE ?_ | refine blF _ ?_ | refine blG ?_ _ | refine blH ?_ | refine blI ?_ ?_ _) | (simp only [World.size_alloc]; omega) | (simp <;> omega)))⟩, rfl⟩
      obtain ⟨g5, hg5⟩ : ∃ g, y.1.heap.size = g := ⟨_, rfl⟩
      have B5 := Blk.new y.1 24 #[.int .i64 r, .bool cl, .slice S nt cS]
      rw [← hy5, hg5] at B5
      rw [← hy5, hg5]
      have q0 : y5.1.cell? ⟨g5, 0, none⟩ = some (.int .i64 r) := B5.cell 0
      have q1 : y5.1.cell? ⟨g5, 1, none⟩ = some (.bool cl) := B5.cell 1
      have q2 : y5.1.cell? ⟨g5, 2, none⟩ = some (.slice S nt cS) := B5.cell 2
      have l5 := B5.lt
      have r0 : y5.1.cell? ⟨g, 0, none⟩ = some (.slice AR nR cR) := (Kin.cell y5 lg).trans b0
      have lg5 : g < y5.1.heap.size := Nat.lt_of_lt_of_le lg y5.2.size
      have HR5 := Lib.hid (HR.out.below y5.2)
      have HS5 := Lib.hid (HRS.out.below y5.2)
      clear hy5 hg5 B5 t_0 t_1 t_2
      go_loopw [6] (fun i wr => ∃ j : Nat, j ≤ nt ∧ i = .int .i64 j ∧ ∃ y6 : Kin y5.1, y6.1 = wr) (fun i _ => nt - (intOf i).toNat)
      case atStart => exact ⟨0, Nat.zero_le _, rfl, ⟨_, Below.refl _ _⟩, rfl⟩
      case round =>
        obtain ⟨j, hj, rfl, y6, rfl⟩ := hrel
        by_cases hlt2 : j < nt
        · cases hv : tval ((r, cl), cs)
          · go_wp2_with (go_at_call 11; (with_reducible refine (Kin.callK (W := (Kin.wd y5)) (by repeat (first | with_reducible (first | exact blA | exact blB | refine blC _ ?_ | refine blD ?_ ?_ _ | refine blE ?_ | refine blF _ ?_ | refine blG ?_ _ | refine blH ?_ | refine blI ?_ ?_ _) | (simp only [World.size_alloc]; omega) | (simp <;> omega))) (validT_is (b := false) (n := nt) r cl _ _ cs _ HNT.out (HS5.out.below (by repeat (first | with_reducible (first | exact blA | exact blB | refine blC _ ?_ | refine blD ?_ ?_ _ | refine blE ?_ | refine blF _ ?_ | refine blG ?_ _ | refine blH ?_ | refine blI ?_ ?_ _) | (simp only [World.size_alloc]; omega) | (simp <;> omega)))) hv)).mono ?_); rintro e w' ⟨z, rfl, hz, rfl⟩)
            obtain ⟨yy, hyy⟩ : ∃ yy : Kin y0.1, yy.1 = z.1 := ⟨⟨z.1, y5.2.trans (z.2.mono y5.2.size)⟩, rfl⟩
            rw [← hyy]
            go_roundw
            case rel => exact ⟨k + 1, by omega, by go_num, yy, rfl⟩
            case measure => simp [intOf]; omega
          · obtain ⟨c, hc⟩ : ∃ c, cs[j]? = some c := ⟨_, List.getElem?_eq_getElem (by rw [HNT.out]; exact hlt2)⟩
            obtain ⟨bS, offS, rfl, hbS, hcc⟩ := Rd.op HS5.out j c hc
            have c_0 : y5.1.cell? ⟨bS, offS + j * 2, none⟩ = some (.int .i64 c.1) := hcc j c hc 0 _ rfl
            have c_1 : y5.1.cell? ⟨bS, offS + j * 2 + 1, none⟩ = some (.int .i64 c.2) := hcc j c hc 1 _ rfl
            have HM := Lib.hid (show (rvalid (ofR (cellsT l)) && memC (ofR (cellsT l)) c.1 c.2) = true by rw [ofR_valid, cover_mem HTM.out hv (List.mem_of_getElem? hc)]; rfl)
            clear hcc hc
            go_wp2_with (go_at_call 11; (with_reducible refine (Kin.callK (W := (Kin.wd y5)) (by repeat (first | with_reducible (first | exact blA | exact blB | refine blC _ ?_ | refine blD ?_ ?_ _ | refine blE ?_ | refine blF _ ?_ | refine blG ?_ _ | refine blH ?_ | refine blI ?_ ?_ _) | (simp only [World.size_alloc]; omega) | (simp <;> omega))) (validT_is (b := true) (n := nt) r cl _ _ cs _ HNT.out (HS5.out.below (by repeat (first | with_reducible (first | exact blA | exact blB | refine blC _ ?_ | refine blD ?_ ?_ _ | refine blE ?_ | refine blF _ ?_ | refine blG ?_ _ | refine blH ?_ | refine blI ?_ ?_ _) | (simp only [World.size_alloc]; omega) | (simp <;> omega)))) hv)).mono ?_); rintro e w' ⟨z, rfl, hz, rfl⟩)
            ((refine wp_region_kinK (W := (Kin.wd y5)) (by kernel_rfl) (by kernel_rfl) (by repeat (first | with_reducible (first | exact blA | exact blB | refine blC _ ?_ | refine blD ?_ ?_ _ | refine blE ?_ | refine blF _ ?_ | refine blG ?_ _ | refine blH ?_ | refine blI ?_ ?_ _) | (simp only [World.size_alloc]; omega) | (simp <;> omega))) ?_); (repeat' (first | go_big_quiet_step ((go_at_call 23; exact Kin.quiet _ (contains18_at (b := true) _ _ _ _ _ (HR5.out.below (by repeat (first | with_reducible (first | exact blA | exact blB | refine blC _ ?_ | refine blD ?_ ?_ _ | refine blE ?_ | refine blF _ ?_ | refine blG ?_ _ | refine blH ?_ | refine blI ?_ ?_ _) | (simp only [World.size_alloc]; omega) | (simp <;> omega)))) (rvalid_bd (ofR_valid _)) HM.out))) | ((refine wpQuiet_guard rfl rfl rfl rfl (fun hg => ?_) (fun hg => ?_)) <;> (fail_if_success (first | guard_hyp hg : true = true | guard_hyp hg : false = false)) <;> (try simp only [decide_eq_true_eq, decide_eq_false_iff_not] at hg) <;> simp only [Act.put, List.setIfInBounds_toArray, List.set_cons_zero, List.set_cons_succ]))); all_goals ((with_reducible refine wpQuiet_nil ?_); intro zq hz))
            go_wp2_with fail
            exact ⟨⟨j + 1, by omega, by go_num, zq, rfl⟩, by simp [intOf]; omega⟩
        · have hjn : j = nt := by omega
          subst hjn
          go_wp2_with fail
          obtain ⟨yy, hyy⟩ : ∃ yy : Kin y0.1, yy.1 = y6.1 := ⟨⟨y6.1, y5.2.trans (y6.2.mono y5.2.size)⟩, rfl⟩
          rw [← hyy]
          go_roundw
          case rel => exact ⟨k + 1, by omega, by go_num, yy, rfl⟩
          case measure => simp [intOf]; omega
    · have hkn : k = n := by omega
      subst hkn
      go_wp2_with (go_at_call 10; (with_reducible refine (Kin.callK (W := (Kin.wd y0)) (by repeat (first | with_reducible (first | exact blA | exact blB | refine blC _ ?_ | refine blD ?_ ?_ _ | refine blE ?_ | refine blF _ ?_ | refine blG ?_ _ | refine blH ?_ | refine blI ?_ ?_ _) | (simp only [World.size_alloc]; omega) | (simp <;> omega))) (awake23_any _)).mono ?_); rintro e w' ⟨z, rfl, hz, rfl⟩)
      go_ret
      exact ⟨rfl, HZ.out.trans (z.2.mono HZ.out.size)⟩
set_option maxRecDepth 100000 in
theorem trackCover_lifted (os : Os) (started : os.Started) (H : Type) (enc : TypeId × Value → H) :
    ReturnsInHanded {} Try.checked os 5 .any (Rows.trackCoverSpec.pre6 enc Try.prog Try.f5 Rows.trackCoverRow.domain false) (Rows.trackCoverSpec.post enc Try.prog Try.f5 false true false false) := by
  refine returnsInHanded_of_change (C := Try.checked) own started (by kernel_rfl) Try.func5
    (ChangeSpec.witness6 (enc := enc) (C := Try.checked) false ⟨#[], #[.slice none 0 0], []⟩ 8 (by kernel_rfl) (by kernel_rfl) (by kernel_rfl) (by kernel_rfl)) ?_
  intro W base args ds gs before hval0 hW hcnd _
  have hval : ∀ (j : Nat) t v, Try.f5.params[j]? = some t → args[j]? = some v → Value.okWide Try.prog W .any base t v := hval0
  have hW' := hW
  obtain ⟨p, q, hA0, hV, rfl, hfz, hnd⟩ := hW
  have hA : DataW.TrodAll enc Try.prog W 0 (fun _ => true) true Try.f5.params.toList args.toList ds p := hA0
  rw [Try.params5] at hA hval
  have hAA := hA
  obtain ⟨v0, vs0, d0, ds0, p0, q0, hargs, rfl, rfl, h0, r0⟩ := trodAll_cons hA
  obtain ⟨rfl, rfl, rfl⟩ := trodAll_nil r0
  obtain rfl : args = #[v0] := by cases args; simp_all
  obtain ⟨rfl, rfl⟩ := trodVars_none hV
  have o0 := open_trks (hval 0 33 v0 rfl rfl) h0
  have hlt : ∀ x ∈ p0 ++ [], x.block < W.heap.size := fun x hx => hW'.lt x (by simpa using hx)
  refine (coverL_walk W _ o0).mono fun e W' ⟨he, bel⟩ => ?_
  subst he
  exact ⟨_, rfl, _, _, _, [], _, [], hW', trodAll_mk1 (shut_bool Try.underlying4 _), below_trodAll laidOut bel _ _ _ _ (by
    intro t ht
    have hcl : ([33] : List TypeId).all (fun t => Try.prog.readableRec t && decide (t < Try.prog.types.size)) = true := by kernel_rfl
    have := List.all_eq_true.1 hcl t ht
    simpa using this) hlt hAA, rfl, bel.frame _, fun h => by cases h⟩
theorem trackCover_heard : (Try.checked.prog.stopsHeard = true ∧ Try.checked.prog.mayEnter = true) ∧ Try.checked.prog.liftsFinal = Rows.trackCoverRow.lifted := ⟨⟨by kernel_rfl, by kernel_rfl⟩, by kernel_rfl⟩
theorem trackCover_calls : (Try.checked.prog.inPlace 5 = Rows.trackCoverRow.inPlace ∧ Try.checked.prog.unfollowed 5 = Rows.trackCoverRow.unfollowed) ∧ (Try.checked.prog.recurses 5 = Rows.trackCoverRow.recurses ∧ Try.checked.prog.varsNamed 5 = Rows.trackCoverRow.named) := ⟨⟨by kernel_rfl, by kernel_rfl⟩, ⟨by kernel_rfl, by kernel_rfl⟩⟩
theorem trackCover_closed : joinedFacts Try.checked.prog 5 Try.f5 Rows.trackCoverSpec Rows.trackCoverRow = true := by
  unfold joinedFacts
  rw [trackCover_calls.1.1, trackCover_calls.1.2, trackCover_calls.2.1, trackCover_calls.2.2, trackCover_heard.1.1, trackCover_heard.1.2, trackCover_heard.2]
  kernel_rfl
/-- TrackCover: for every input the call returns true, and the arguments read behind it as before. No condition. -/
theorem trackCover_holds : Rows.TrackCoverSaid :=
  OpenClaim.holds_of_wide 5 Try.f5 rfl rfl rfl rfl rfl rfl rfl ⟨rfl, rfl, rfl, rfl, rfl⟩ rfl rfl rfl rfl rfl (by kernel_rfl) Try.func5 trackCover_closed
    (of_decide_eq_true (by kernel_rfl)) (by unfold Func.isWrapper; rw [if_neg (of_decide_eq_false (by kernel_rfl))]; exact ⟨rfl, rfl⟩)
    (fun os started H enc _ => trackCover_lifted os started H enc)

end Go.Proofs.Ytomndgjnhhchdaa
