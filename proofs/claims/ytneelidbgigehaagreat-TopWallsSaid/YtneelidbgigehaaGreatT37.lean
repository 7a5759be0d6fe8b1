/- Lemmas: MorphEro TrkRefs. -/
import Derived.Test.YtneelidbgigehaaGreatT35
import Derived.Test.YtneelidbgigehaaGreatT36
import Derived.Test.YtneelidbgigehaaGreatT25
/- What Erode returns. -/
namespace Go.Proofs.YtneelidbgigehaaGreat
set_option linter.unusedSimpArgs false
set_option linter.unusedVariables false
open Go.RowKit Runs Reg
attribute [local go_sem] Kin.cell Kin.frozen Kin.lt0 Kin.lt1 Kin.lt2 Kin.lt3 run_mkf run_mkmap run_storeF
set_option maxRecDepth 100000 in
set_option maxHeartbeats 8000000 in
theorem winI_any (b n : Nat) (f : Int → Value) (g : Int → List Run) (y k : Int) (w : World) (h : MapF w b n f) (hg : ∀ j, Rd 2 encRun w (f j) (g j)) (hk : 0 ≤ k ∧ k ≤ 64) (hy : -10000 ≤ y ∧ y ≤ 10000)
    (hl : ∀ m, (winI g y k m).length ≤ 16384) (hgl : ∀ j, (g j).length ≤ 16384) :
    Calls Tryz.prog 72 #[.agg #[.map (some b), .func (.func 70) #[] #[]], .int .i64 y, .int .i64 k] w fun e w' => (∃ u, e = .returned u ∧ Rd 2 encRun w' u (winI g y k (2 * k).toNat)) ∧ Below w.heap.size w w' := by
  have H := Lib.hid h
  have HG := Lib.hid hg
  have HL := Lib.hid hl
  have HGL := Lib.hid hgl
  obtain ⟨hk1, hk2⟩ := hk
  obtain ⟨hy1, hy2⟩ := hy
  have hl1 := (MapF.below h (Below.alloc (Below.refl _ _) (Nat.le_refl _) (.cells #[.map (some b), .func (.func 70) #[] #[]] 119))).lookup (y := y - k) (i64_wf (by omega)) (zero_runs _)
  have hw1 : IntKind.i64.wrap (y - k) = y - k := IntWalk.i64_in _ (by omega)
  have hw2 : IntKind.i64.wrap (y - k + 1) = y - k + 1 := IntWalk.i64_in _ (by omega)
  have hw3 : IntKind.i64.wrap (y + k) = y + k := IntWalk.i64_in _ (by omega)
  clear h hg hl hgl
  go_enter Tryz.func72, Tryz.ntmps72
  go_wp2
  go_loopw [7, 8] (fun o i wr => ∃ m : Nat, m ≤ (2 * k).toNat ∧ i = .int .i64 (y - k + 1 + m) ∧ Hid (Rd 2 encRun wr o (winI g y k m)) ∧ ∃ z : Kin (w.alloc (.cells #[.map (some b), .func (.func 70) #[] #[]] 119)), z.1 = wr) (fun _ i _ => (y + k + 1 - intOf i).toNat)
  case atStart => exact ⟨0, Nat.zero_le _, by simp, Lib.hid ((HG.out (y - k)).below gRw), ⟨_, Below.refl _ _⟩, rfl⟩
  case round =>
    obtain ⟨m, hm, rfl, HO, z, rfl⟩ := hrel
    by_cases hlt : y - k + 1 + (m : Int) ≤ y + k
    · have hb : Below w.heap.size w z.1 := gRw
      have hlk := (MapF.below H.out hb).lookup (y := y - k + 1 + (m : Int)) (i64_wf (by omega)) (zero_runs _)
      have hw4 : IntKind.i64.wrap (y - k + 1 + (m : Int) + 1) = y - k + 1 + (m : Int) + 1 := IntWalk.i64_in _ (by omega)
      have l1 := HL.out m
      have l2 := HGL.out (y - k + 1 + m)
      go_wp2_with (go_at_call 70; (with_reducible refine (Kin.callK (W := w.alloc (.cells #[.map (some b), .func (.func 70) #[] #[]] 119)) gRw (intersect_any _ _ (winI g y k m) (g (y - k + 1 + m)) _ (HO.out.below gRw) ((HG.out _).below gRw) (by omega) (by omega))).mono ?_); rintro e w' ⟨z1, ⟨u, rfl, hu⟩, hz1, rfl⟩; (have HU := Lib.hid hu; clear hu))
      go_roundw
      case rel => exact ⟨m + 1, by omega, by go_num, Lib.hid HU.out, z1, rfl⟩
      case measure => simp [intOf]; omega
    · have em : m = (2 * k).toNat := by omega
      go_wp2
      go_ret
      exact ⟨⟨_, rfl, by rw [← em]; exact HO.out⟩, gRw⟩
theorem winI_in {rows : List Reg.Row} (h : VReg rows) {k : Int} (h0 : 0 ≤ k) (h1 : k ≤ 64) (y : Int) (m : Nat) : SepIn (winI (fun j => shrinkL (rwAt rows j) k) y k m) := by
  have hs := winI_spec (g := fun j => shrinkL (rwAt rows j) k) (fun j => shrink_valid) y k m
  refine sepIn_of_mem (valid_iff.1 hs.1).1 fun x hx => ?_
  have h3 := (hs.2 x).1 hx (y - k) (by omega) (by omega)
  exact sepIn_mem (rwAt_in h (y - k)) ((mem_shrink (rwAt_valid h (y - k)) h0 (by omega) x).1 h3 x (by omega) (by omega))
theorem winI_len {rows : List Reg.Row} (h : VReg rows) {k : Int} (h0 : 0 ≤ k) (h1 : k ≤ 64) (y : Int) (m : Nat) : (winI (fun j => shrinkL (rwAt rows j) k) y k m).length ≤ 16384 := Nat.le_trans (sepIn_len (winI_in h h0 h1 y m)) (by decide)
theorem shrunk_len {rows : List Reg.Row} (h : VReg rows) {k : Int} (h0 : 0 ≤ k) (h1 : k ≤ 64) (j : Int) : (shrinkL (rwAt rows j) k).length ≤ 16384 := by
  have := winI_len h h0 h1 (j + k) 0
  have e : winI (fun j => shrinkL (rwAt rows j) k) (j + k) k 0 = shrinkL (rwAt rows j) k := by show shrinkL (rwAt rows (j + k - k)) k = _; rw [show j + k - k = j by omega]
  rwa [e] at this
theorem shrinkL_nil (k : Int) : shrinkL [] k = [] := by unfold shrinkL shr; split <;> rfl
theorem map_take_snoc {rows : List Reg.Row} {n : Nat} {r : Reg.Row} (h : rows[n]? = some r) : (rows.map (·.1)).take (n + 1) = (rows.map (·.1)).take n ++ [r.1] := by
  rw [List.take_add_one, List.getElem?_map, h]; rfl
/-- the window of a map and an operation, made in a world -/
theorem win_world (x : World) (m f : Value) :
    Blk ((x.alloc (.map #[] 0)).alloc (.cells #[m, f] 119)) (x.heap.size + 1) 119 #[m, f] ∧
    MapF ((x.alloc (.map #[] 0)).alloc (.cells #[m, f] 119)) x.heap.size 0 (fun _ => .slice none 0 0) := by
  refine ⟨?_, ?_⟩
  · have := Blk.new (x.alloc (.map #[] 0)) 119 #[m, f]
    simpa using this
  · have h := MapF.made x
    exact h.below (Below.alloc (Below.refl _ _) (Nat.le_refl _) (.cells #[m, f] 119))
set_option maxRecDepth 100000 in
set_option maxHeartbeats 16000000 in
theorem ero_any (v : Value) (rows : List Reg.Row) (k : Int) (w : World) (h : RdReg w v rows) (hbd : RBd rows) :
    Calls Tryz.prog 35 #[v, .int .i64 k] w fun e w' => (∃ A n c, e = .returned (.agg #[.slice A n c]) ∧ RdReg w' (.agg #[.slice A n c]) (eroR rows k)) ∧ Below w.heap.size w w' := by
  have H := Lib.hid h
  have Hbd := Lib.hid hbd
  obtain ⟨A, capA, rfl⟩ := h.slice_
  clear h hbd
  cases h1 : (reachOk k && rvalid rows)
  · rw [ero_no h1]
    go_enter Tryz.func35, Tryz.ntmps35
    go_wp2_with (go_at_call 69; (with_reducible refine (Kin.callK (W := ((w.alloc (.cells #[.slice A rows.length capA] 24)).alloc (.cells #[.slice none 0 0] 24)).alloc (.cells #[.slice none 0 0] 24)) gRw (validM_is _ rows k _ (H.out.below gRw) Hbd.out h1)).mono ?_); rintro e w' ⟨z, rfl, hz, rfl⟩; (have hB := Lib.hid z.boxes3.2.1; have hC := Lib.hid z.boxes3.2.2; have q0 : (Kin.wd z).cell? ⟨w.heap.size + 1, 0, none⟩ = some (.slice none 0 0) := hB.out.cell 0; have qf : (Kin.wd z).frozen? ⟨w.heap.size + 1, 0, none⟩ = false := hB.out.frozen 0; have ql := hB.out.lt; have q2 : (Kin.wd z).cell? ⟨w.heap.size + 2, 0, none⟩ = some (.slice none 0 0) := hC.out.cell 0; have q2l := hC.out.lt))
    ((try simp only [Exit.inBlock, Exit.then]); refine bodyPost_ret (results_cell_row rfl _ _ _ _ _ (0, 0) _ rfl (hB.out.set_ 0 _) Tryz.underlying24 rfl (by kernel_rfl)) rfl ?_)
    exact ⟨⟨_, _, _, rfl, RdReg.nil⟩, gRw⟩
  · have HE := Lib.hid (show eroR rows k = rowsOn (eroW rows k) (rows.map (·.1)) from by unfold eroR; rw [if_pos h1])
    have h2 := h1
    rw [Bool.and_eq_true] at h2
    obtain ⟨hk, hv⟩ := h2
    obtain ⟨k0, k1⟩ := reach_iff.1 hk
    have HVR := Lib.hid (rvalid_iff.1 hv)
    have hlr := (vreg_len (rvalid_iff.1 hv)).1
    clear hk
    go_enter Tryz.func35, Tryz.ntmps35
    go_wp2_with (go_at_call 69; (with_reducible refine (Kin.callK (W := ((w.alloc (.cells #[.slice A rows.length capA] 24)).alloc (.cells #[.slice none 0 0] 24)).alloc (.cells #[.slice none 0 0] 24)) gRw (validM_is _ rows k _ (H.out.below gRw) Hbd.out h1)).mono ?_); rintro e w' ⟨z, rfl, hz, rfl⟩; (have hA := Lib.hid z.boxes3.1; have hB := Lib.hid z.boxes3.2.1; have hC := Lib.hid z.boxes3.2.2; have ql2 := hA.out.lt; have c0 : (Kin.wd z).cell? ⟨w.heap.size, 0, none⟩ = some (.slice A rows.length capA) := z.boxes3.1.cell 0; have d1 : w.heap.size < (Kin.wd z).heap.size + 1 := Nat.lt_succ_of_lt ql2; have d2 : w.heap.size < (Kin.wd z).heap.size + 1 + 1 := Nat.lt_succ_of_lt d1))
    obtain ⟨y9, hX⟩ : ∃ y9 : Kin z.1, y9.1 = (z.1.alloc (.map #[] 0)).alloc (.cells #[.map (some z.1.heap.size), .func (.func 70) #[] #[]] 119) := ⟨⟨(z.1.alloc (.map #[] 0)).alloc (.cells #[.map (some z.1.heap.size), .func (.func 70) #[] #[]] 119), gRw⟩, rfl⟩
    rw [← hX]
    obtain ⟨hwb, hm0⟩ := win_world z.1 (.map (some z.1.heap.size)) (.func (.func 70) #[] #[])
    rw [← hX] at hwb hm0
    have a3 := hwb.lt
    have HWb := Lib.hid hwb
    have HM0 := Lib.hid hm0
    clear hwb hm0
    have HZr := Lib.hid (rows_op (by have := (H.out.below (show Below w.heap.size w z.1 from gRw)); obtain ⟨s, e, h⟩ := this; cases e; exact h : RdRows z.1 (.slice A rows.length capA) rows))
    clear hX d1 d2
    go_loopw [22] (fun i wr => ∃ j : Nat, j ≤ rows.length ∧ i = .int .i64 j ∧ ∃ f, Hid (MapF wr z.1.heap.size j f) ∧ Hid (∀ y, Rd 2 encRun wr (f y) (shrinkL (rwAt (rows.take j) y) k)) ∧ Hid (y9.1.grownBy wr (some z.1.heap.size)) ∧ Hid (Below z.1.heap.size z.1 wr)) (fun i _ => rows.length - (intOf i).toNat)
    case atStart => exact ⟨0, Nat.zero_le _, rfl, _, HM0, Lib.hid (fun y => by rw [List.take_zero, rwAt_nil, shrinkL_nil]; exact Rd.nil), Lib.hid (World.grownBy.refl _ _), Lib.hid y9.2⟩
    case round =>
      clear HM0
      obtain ⟨j, hj, rfl, f, HM, HF, HG, hyB⟩ := hrel
      obtain ⟨y, rfl⟩ : ∃ y : Kin z.1, y.1 = wr := ⟨⟨wr, hyB.out⟩, rfl⟩
      clear hyB
      have HW := Lib.hid (HWb.out.grown HG.out (by simp))
      have e30 : y.1.cell? ⟨z.1.heap.size + 1, 0, none⟩ = some (.map (some z.1.heap.size)) := HW.out.cell 0
      have e31 : y.1.cell? ⟨z.1.heap.size + 1, 1, none⟩ = some (.func (.func 70) #[] #[]) := HW.out.cell 1
      have e3l := HW.out.lt
      by_cases hlt : j < rows.length
      · obtain ⟨r, hr⟩ : ∃ el_, rows[j]? = some el_ := ⟨_, List.getElem?_eq_getElem hlt⟩
        obtain ⟨bA, offA, rfl, hbA, hcA⟩ := HZr.out j _ hr
        obtain ⟨S, capS, r_0, r_1, hcapS, hrS⟩ := hcA j r hr
        have HRS := Lib.hid hrS
        have Hr := Lib.hid hr
        have hrm := HVR.out.1 r (List.mem_of_getElem? hr)
        have hri := (fine_sepIn.1 hrm.2).1
        have hrl := sepIn_len hri
        have hry : -4096 ≤ r.1 ∧ r.1 < 4096 := by have := hrm.1; unfold okC at this; simpa using this
        clear hr hcA hrS
        go_wp2
        obtain ⟨yr, hyr⟩ : ∃ yr : Kin z.1, yr.1 = y.1.alloc (.cells #[.int .i64 r.1, .slice S r.2.length capS] 44) := ⟨⟨y.1.alloc (.cells #[.int .i64 r.1, .slice S r.2.length capS] 44), gRw⟩, rfl⟩
        rw [← hyr]
        have hbr := Blk.new y.1 44 #[.int .i64 r.1, .slice S r.2.length capS]
        rw [← hyr] at hbr
        have g0 : yr.1.cell? ⟨y.1.heap.size, 0, none⟩ = some (.int .i64 r.1) := hbr.cell 0
        have g1 : yr.1.cell? ⟨y.1.heap.size, 1, none⟩ = some (.slice S r.2.length capS) := hbr.cell 1
        have gl := hbr.lt
        have hyyr : Below y.1.heap.size y.1 yr.1 := by rw [hyr]; exact gRw
        have g2 : yr.1.cell? ⟨z.1.heap.size + 1, 0, none⟩ = some (.map (some (z.1.heap.size))) := (hyyr.cell (p := ⟨z.1.heap.size + 1, 0, none⟩) e3l).trans e30
        have gl2 := Nat.lt_of_lt_of_le e3l hyyr.size
        have HMr := Lib.hid (HM.out.below hyyr)
        have HFr := Lib.hid (fun y' => (HF.out y').below hyyr)
        have HBy := Lib.hid hyyr
        have HUP := Lib.hid (fun (x : World) (hx : Below yr.1.heap.size yr.1 x) (u : Value) => MapF.update (HMr.out.below hx) (y := r.1) (i64_wf (by omega)) (show j < maxLen by unfold maxLen; omega) u)
        have HBR := Lib.hid hbr
        have HWr := Lib.hid (HW.out.below hyyr)
        clear hbr hyyr hyr
        go_region_held (fun w' => w'.cell? ⟨(Kin.wd z).heap.size + 1, 0, none⟩ = some (.map (some ((Kin.wd z).heap.size))) ∧ w'.cell? ⟨(Kin.wd y).heap.size, 0, none⟩ = some (.int .i64 r.1) ∧ w'.cell? ⟨(Kin.wd y).heap.size, 1, none⟩ = some (.slice S r.2.length capS)) (refine ⟨?_, ?_, ?_⟩ <;> first | assumption | (refine (Kin.cell (W := (Kin.wd yr)) _ ?_).trans ?_ <;> assumption) | simp [*, World.cell?_alloc_some, World.cell?_setCell_far] | ((refine (World.cell?_setCell_other (by simp)).trans ?_); first | assumption | simp [*])) ((go_at_call 71; (with_reducible refine (Kin.callK (W := (Kin.wd yr)) gRw (shrink_any _ r.2 k _ (HRS.out.below gRw) (by omega))).mono ?_); rintro e w' ⟨zg, ⟨u, rfl, hu⟩, hzg, rfl⟩; (have hu := Rd.own encRun_len hu; obtain ⟨w2, hrun, hm2, hg2⟩ := HUP.out (Kin.wd zg) zg.2 u; have HU := Lib.hid hu; have HM2 := Lib.hid hm2; have HG2 := Lib.hid hg2; have k0' : w2.cell? ⟨(Kin.wd y).heap.size, 0, none⟩ = some (.int .i64 r.1) := ((HBR.out.below zg.2).grown hg2 (by have := HMr.out.lt; simp; omega)).cell 0; have k1' : w2.cell? ⟨(Kin.wd y).heap.size, 1, none⟩ = some (.slice S r.2.length capS) := ((HBR.out.below zg.2).grown hg2 (by have := HMr.out.lt; simp; omega)).cell 1; have k2' : w2.cell? ⟨(Kin.wd z).heap.size + 1, 0, none⟩ = some (.map (some ((Kin.wd z).heap.size))) := ((HWr.out.below zg.2).grown hg2 (by simp)).cell 0; clear hu hm2 hg2)))
        all_goals
          go_wp2
          have hzz : Below z.1.heap.size z.1 zg.1 := yr.2.trans (zg.2.mono yr.2.size)
          go_roundw
          case rel => exact ⟨j + 1, by omega, by go_num, _, HM2, Lib.hid (fun y' => by
              rw [rwAt_take HVR.out Hr.out]
              by_cases hy' : y' = r.1
              · rw [if_pos hy', if_pos hy']
                exact HU.out.grown HG2.out (map_far HU.out (HMr.out.below zg.2))
              · rw [if_neg hy', if_neg hy']
                have hr0 := (HFr.out y').below zg.2
                exact hr0.grown HG2.out (map_far hr0 (HMr.out.below zg.2))), Lib.hid (grownBy_trans (grownBy_below2 HG.out ((HBy.out.trans (zg.2.mono HBy.out.size)).mono HG.out.size)) HG2.out), Lib.hid (hzz.trans (grownBy_below HG2.out hzz.size (Nat.le_refl _)))⟩
          case measure => simp [intOf]; omega
      · have ej : j = rows.length := by omega
        have HF2 := Lib.hid (show ∀ y', Rd 2 encRun y.1 (f y') (shrinkL (rwAt rows y') k) from fun y' => by have := HF.out y'; rwa [ej, List.take_length] at this)
        have hCy := Lib.hid (hC.out.below y.2)
        have hAy := Lib.hid (hA.out.below y.2)
        have hBy := Lib.hid (hB.out.below y.2)
        have hwy : Below w.heap.size w y.1 := gRw
        have dw2 := y.lt0 ql2
        have hcl := hCy.out.lt
        have hmz := HM.out.lt
        have hcz : w.heap.size + 2 < z.1.heap.size := hC.out.lt
        have HW0 := Lib.hid (rows_op (by have := H.out; obtain ⟨s, e, h⟩ := this; cases e; exact h : RdRows w (.slice A rows.length capA) rows))
        rw [ej] at HM
        clear HF HG HWb HZr ej
        go_wp2
        go_loopw [38] (fun i wr => ∃ n : Nat, n ≤ rows.length ∧ i = .int .i64 n ∧ ∃ S, Hid (OwnRows y.1.heap.size wr S (rowsOn (eroW rows k) ((rows.map (·.1)).take n))) ∧ Hid (Blk wr (w.heap.size + 2) 24 #[S]) ∧ Hid (y.1.grownBy wr (some (w.heap.size + 2))) ∧ Hid (Below w.heap.size w wr)) (fun i _ => rows.length - (intOf i).toNat)
        case atStart => exact ⟨0, Nat.zero_le _, rfl, _, Lib.hid OwnN.nil, hCy, Lib.hid (World.grownBy.refl _ _), Lib.hid hwy⟩
        case round =>
          obtain ⟨n, hn, rfl, S, HO, HP6, HG6, hyB⟩ := hrel
          obtain ⟨y6, rfl⟩ : ∃ y6 : Kin w, y6.1 = wr := ⟨⟨wr, hyB.out⟩, rfl⟩
          clear hyB
          have HA6 := Lib.hid (hAy.out.grown HG6.out (by simp))
          have c0' : y6.1.cell? ⟨w.heap.size, 0, none⟩ = some (.slice A rows.length capA) := HA6.out.cell 0
          have cl' := HA6.out.lt
          have hysz : y.1.heap.size ≤ y6.1.heap.size := HG6.out.size
          by_cases hlt : n < rows.length
          · obtain ⟨hs, hown, hnest, hap⟩ := HO.out
            obtain ⟨AS, nS, cS, rfl⟩ := own_slice hown
            have HOW := Lib.hid hown
            have HNE := Lib.hid hnest
            have HAP := Lib.hid hap
            have hhl := hnest.1
            have hrl := rowsOn_len (eroW rows k) ((rows.map (·.1)).take n)
            have htl : ((rows.map (·.1)).take n).length ≤ n := by simp; omega
            obtain ⟨r, hr⟩ : ∃ el_, rows[n]? = some el_ := ⟨_, List.getElem?_eq_getElem hlt⟩
            obtain ⟨bA, offA, rfl, hbA, hcA⟩ := HW0.out n _ hr
            obtain ⟨T, capT, r_0, r_1, hcapT, hrT⟩ := hcA n r hr
            have Hr := Lib.hid hr
            have hrm := HVR.out.1 r (List.mem_of_getElem? hr)
            have hry : -4096 ≤ r.1 ∧ r.1 < 4096 := by have := hrm.1; unfold okC at this; simpa using this
            have p0 : y6.1.cell? ⟨w.heap.size + 2, 0, none⟩ = some (.slice AS nS cS) := HP6.out.cell 0
            have pl := HP6.out.lt
            have hbA2 : bA < w.heap.size + 1 := by omega
            have lch : (eroW rows k r.1).length ≤ 8192 := sepIn_len (winI_in HVR.out k0 k1 r.1 (2 * k).toNat)
            have hrowsz : y6.1.heap.size < y6.1.heap.size + 1 := Nat.lt_succ_self _
            clear hown hnest hap hr hcA hrT hrm
            have HW6 := Lib.hid (HW.out.grown HG6.out (by simp; omega))
            have e30' : y6.1.cell? ⟨z.1.heap.size + 1, 0, none⟩ = some (.map (some z.1.heap.size)) := HW6.out.cell 0
            have e31' : y6.1.cell? ⟨z.1.heap.size + 1, 1, none⟩ = some (.func (.func 70) #[] #[]) := HW6.out.cell 1
            have e3l' := HW6.out.lt
            have HM6 := Lib.hid (HM.out.kept HG6.out (by simp; omega))
            have HF6 := Lib.hid (fun y' => (HF2.out y').grown HG6.out (runs_far (HF2.out y') hCy.out))
            go_wp2_with (go_at_call 72; (with_reducible refine (Kin.callK (W := (Kin.wd y6).alloc (.cells #[.int .i64 r.1, .slice T r.2.length capT] 44)) gRw (winI_any _ rows.length f (fun j => shrinkL (rwAt rows j) k) r.1 k _ (HM6.out.below gRw) (fun y' => (HF6.out y').below gRw) ⟨k0, k1⟩ (by omega) (winI_len HVR.out k0 k1 _) (shrunk_len HVR.out k0 k1))).mono ?_); rintro e w' ⟨zu, ⟨u, rfl, hl⟩, hzu, rfl⟩; (change Rd 2 encRun (Kin.wd zu) u (eroW rows k r.1) at hl; (obtain ⟨L, capL, rfl, hcapL, _⟩ := hl.open_); have HL := Lib.hid hl; have HBZ := Lib.hid (show Below (Kin.wd y6).heap.size (Kin.wd y6) (Kin.wd zu) from (Below.alloc (Below.refl _ _) (Nat.le_refl _) _).trans (hzu.mono (le_alloc (Nat.le_refl _) _))); have HRV := Lib.hid ((Blk.new (Kin.wd y6) 44 #[.int .i64 r.1, .slice T r.2.length capT]).below hzu); have HPZ := Lib.hid (HP6.out.below HBZ.out); have g0 : (Kin.wd zu).cell? ⟨(Kin.wd y6).heap.size, 0, none⟩ = some (.int .i64 r.1) := HRV.out.cell 0; have gp : (Kin.wd zu).cell? ⟨w.heap.size + 2, 0, none⟩ = some (.slice AS nS cS) := HPZ.out.cell 0; have gl := HRV.out.lt; have gpl0 := HPZ.out.lt; clear hl))
            · generalize hGG : eroW rows k r.1 = G at *
              have HGG := Lib.hid hGG
              clear hGG
              go_region_law (first
                | (skip; (refine step_app _ rfl _ _ 42 rfl encRun_len (by decide) oneR zu.1.heap.size 69 (.agg #[.int .i64 0, .int .i64 0]) 16 infoRun rfl Tryz.underlying42 (.slice (some ⟨zu.1.heap.size, 0, none⟩) 0 0) _ _ _ (by first | rfl | simp [Act.eval, Act.put]) (own_made _ encRun_len zu.1.heap.size _ [] #[] rfl lEw (by decide)) _ _ _ (by first | rfl | simp [Act.eval, Act.put]) (HL.out.below gRw) ?c1 (by decide) ?c2 ?_; (case c1 => (first | (simp only [List.length_append, List.length_cons, List.length_nil]; omega) | omega | (simp; omega))); (case c2 => exact lEw); intro v' w1 hown' hg hbel hat'; ((obtain ⟨zc, rfl⟩ : ∃ zc : Kin zu.1, zc.1 = w1 := ⟨⟨w1, Below.trans gRw hbel⟩, rfl⟩); have hrc := Rd.own encRun_len hown'; rw [List.nil_append] at hrc; (obtain ⟨AC, capC, rfl, hcapC, _⟩ := hrc.open_); have HRC := Lib.hid hrc; have HFR := Lib.hid (own_fresh hown' (v2 := .slice AS nS cS) (fun q e => Nat.lt_of_lt_of_le (HOW.out.lt q e).2 HBZ.out.size)); have HBC := Lib.hid (HBZ.out.trans (zc.2.mono HBZ.out.size)); have gr0 : zc.1.cell? ⟨y6.1.heap.size, 0, none⟩ = some (.int .i64 r.1) := (HRV.out.below zc.2).cell 0; have gp0 : zc.1.cell? ⟨w.heap.size + 2, 0, none⟩ = some (.slice AS nS cS) := (HPZ.out.below zc.2).cell 0; have grl := (HRV.out.below zc.2).lt; have gpl := (HPZ.out.below zc.2).lt; clear hrc hown' hg hbel hat')))
                | (skip; (refine step_app _ rfl _ _ 22 rfl encRow_len (by decide) oneRow y.1.heap.size 44 (.agg #[.int .i64 0, .slice none 0 0]) 32 infoRow rfl Tryz.underlying22 (.slice AS nS cS) _ _ _ (by first | rfl | simp [Act.eval, Act.put]) ((own_below HOW.out HBC.out).alloc _) _ _ _ (by first | rfl | simp [Act.eval, Act.put]) (rd_one _ encRow_len _ (hd r.1 AC G.length capC) _ rfl) ?c1 (by decide) ?c2 ?_; (case c1 => (first | (simp only [List.length_append, List.length_cons, List.length_nil]; omega) | omega | (simp; omega))); (case c2 => exact lEw); intro v' w1 hown' hg hbel hat'; ((obtain ⟨AV, nV, cV, rfl⟩ := own_slice hown'); have hPn : Blk (zc.1.alloc (.cells #[.int .i64 r.1, .slice AC G.length capC] 44)) (w.heap.size + 2) 24 #[.slice AS nS cS] := (HPZ.out.below zc.2).below (Below.alloc (Below.refl _ _) (Nat.le_refl _) _); have HP1 := Lib.hid (hPn.grown hg (Ne.symm (own_ne ((own_below HOW.out HBC.out).alloc _) hPn (by decide)))); have p1 : w1.cell? ⟨w.heap.size + 2, 0, none⟩ = some (.slice AS nS cS) := HP1.out.cell 0; have pf1 : w1.frozen? ⟨w.heap.size + 2, 0, none⟩ = false := HP1.out.frozen 0; have pl1 := HP1.out.lt; have HPU := Lib.hid (OwnRows.push ((own_below HOW.out HBC.out).alloc _) ((HNE.out.below HBC.out).below (Below.alloc (Below.refl _ _) (Nat.le_refl _) _)) HAP.out hown' hg hat' (HRC.out.below gRw) (HFR.out.imp (fun h => List.eq_nil_of_length_eq_zero (by simpa using h)) id) hPn); have HBE := Lib.hid hbel; clear hown' hg hbel hat'))))
              all_goals
                have hne : G.isEmpty = false := by
                  rw [List.isEmpty_eq_false_iff]; intro e; have : G.length = 0 := (by rw [e]; rfl); omega
                have hb56 : Below y.1.heap.size y6.1 (zc.1.alloc (.cells #[.int .i64 r.1, .slice AC G.length capC] 44)) := Below.alloc (HBC.out.mono hysz) (Nat.le_trans hysz HBC.out.size) _
                have hb5 := hb56.trans HBE.out
                have hbw : Below w.heap.size w w1 := y6.2.trans (hb5.mono (Nat.le_trans hwy.size (Nat.le_refl _)))
                go_wp2
                go_roundw
                case rel => exact ⟨n + 1, by omega, by go_num, _, Lib.hid (by rw [map_take_snoc Hr.out, rowsOn_snoc, HGG.out, hne]; exact HPU.out.1), Lib.hid HPU.out.2, Lib.hid (grownBy_trans (grownBy_below2 HG6.out hb5) (grownBy_set _)), Lib.hid (Below.setCell hbw (Nat.le_trans (Nat.le_succ _) (Nat.le_succ _)) _)⟩
                case measure => simp [intOf]; omega
            · rename_i h0
              have hne : (eroW rows k r.1).isEmpty = true := by
                rw [List.isEmpty_iff]; exact List.eq_nil_of_length_eq_zero (by omega)
              go_roundw
              case rel => exact ⟨n + 1, by omega, by go_num, _, Lib.hid (by rw [map_take_snoc Hr.out, rowsOn_snoc, hne]; simpa using HO.out.below HBZ.out), HPZ, Lib.hid (grownBy_below2 HG6.out (HBZ.out.mono hysz)), Lib.hid (y6.2.trans (HBZ.out.mono y6.2.size))⟩
              case measure => simp [intOf]; omega
          · have en : n = rows.length := by omega
            obtain ⟨hs, hown, _⟩ := HO.out
            obtain ⟨AS, nS, cS, rfl⟩ := own_slice hown
            have p0 : y6.1.cell? ⟨w.heap.size + 2, 0, none⟩ = some (.slice AS nS cS) := HP6.out.cell 0
            have pl := HP6.out.lt
            have B36 := Lib.hid (hBy.out.grown HG6.out (by simp))
            have q0 : y6.1.cell? ⟨w.heap.size + 1, 0, none⟩ = some (.slice none 0 0) := B36.out.cell 0
            have qf : y6.1.frozen? ⟨w.heap.size + 1, 0, none⟩ = false := B36.out.frozen 0
            have ql := B36.out.lt
            have HEN := Lib.hid (show (rows.map (·.1)).take n = rows.map (·.1) from by rw [en]; exact List.take_of_length_le (by simp))
            clear hown en
            go_wp2
            ((try simp only [Exit.inBlock, Exit.then]); refine bodyPost_ret (results_cell_row rfl _ _ _ _ _ (0, 0) _ rfl (B36.out.set_ 0 _) Tryz.underlying24 rfl (by kernel_rfl)) rfl ?_)
            refine ⟨⟨_, _, _, rfl, ?_⟩, gRw⟩
            rw [HE.out, ← HEN.out]
            exact (HO.out.set_ (i := 0) (u := .slice AS nS cS) B36.out (by decide)).reg
end Go.Proofs.YtneelidbgigehaaGreat

/- The chapter's Steps, Reverse, Turned, and the program's Steps, walked. (joined: TrkRef TrkRefL) -/
/- The chapter's Steps, Reverse, Turned, and the program's Steps, walked. -/
namespace Go.Proofs.YtneelidbgigehaaGreat
set_option linter.unusedSimpArgs false
set_option linter.unusedVariables false
set_option maxRecDepth 100000
open Go.RowKit Trk
attribute [local go_sem] Kin.cell Kin.frozen Kin.lt0 Kin.lt1 Kin.lt2 Kin.lt3
end Go.Proofs.YtneelidbgigehaaGreat
/- The chapter's Reverse and Turned, walked. -/
namespace Go.Proofs.YtneelidbgigehaaGreat
set_option linter.unusedSimpArgs false
set_option linter.unusedVariables false
set_option maxRecDepth 100000
open Go.RowKit Trk
attribute [local go_sem] Kin.cell Kin.frozen Kin.lt0 Kin.lt1 Kin.lt2 Kin.lt3
theorem own_m {W : World} {base n size m c : Nat} {B : Option Addr} {e : TypeId} {xs : List Value} (h : W.ownsRow base e size (.slice B m c) n xs) : m = n := by
  rcases h.2 with ⟨h1, h2⟩ | ⟨g, cap, cur, h1, _⟩
  · injection h1 with _ h1 _; omega
  · injection h1
end Go.Proofs.YtneelidbgigehaaGreat
