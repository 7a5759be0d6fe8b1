/- Nest of the program, walked. -/
import Derived.Test.YteadnlodccnfcaaCtrNestM
import Derived.Test.YteadnlodccnfcaaCtrPool
namespace Go.Proofs.Yteadnlodccnfcaa
set_option linter.unusedSimpArgs false
set_option linter.unusedVariables false
set_option maxRecDepth 100000
open Go.RowKit Planar Go.Sort
attribute [local go_sem] Kin.cell Kin.frozen Kin.lt0 Kin.lt1 Kin.lt2 Kin.lt3 run_mkf
theorem contains_is {b : Bool} (v : Value) (l : List Sg) (p : Pt) (w : World) (h : Rd 4 encSg w v l) (hl : l.length ≤ 1000000000) (hb : conP l p = b) :
    Calls Try.prog 43 #[v, .agg #[.int .i64 p.1, .int .i64 p.2]] w fun e w' => e = .returned (.bool b) ∧ Below w.heap.size w w' := by subst hb; exact contains_any v l p w h hl
set_option maxHeartbeats 16000000 in
theorem nest_any (v : Value) (l : List (List Pt)) (w : World) (h : RdPols w v l) (hl : l.length ≤ 1000) (hb : ∀ o ∈ l, o.length ≤ 1000) :
    Calls Try.prog 25 #[v] w fun e w' => (∃ u, e = .returned (.tuple #[u, .int .i64 (nestE l)]) ∧ w'.ownsRow w.heap.size 3 1 u (nestL l).length ((nestL l).flatMap encI)) ∧ Below w.heap.size w w' := by
  have HRD := Lib.hid h
  obtain ⟨A, capA, rfl, hcapA, hopA⟩ := pols_open h
  have HA := Lib.hid hopA
  have HLA := Lib.hid h
  clear hopA h
  have HBD := Lib.hid hb
  obtain ⟨n, hL⟩ : ∃ n, l.length = n := ⟨_, rfl⟩
  have HL := Lib.hid hL
  have HRV := Lib.hid (show RdPols w (.slice A n capA) l by have := HLA.out; rwa [hL] at this)
  rw [hL] at hcapA hl ⊢
  clear hL hb HRD HLA
  go_enter Try.func25, Try.ntmps25
  go_wp2_with fail
  go_loopw [4, 17] (fun s i wr => ∃ k : Nat, k ≤ n ∧ i = .int .i64 k ∧ s = .int .i64 (sumN (l.take k)) ∧ ∃ y : Kin w, y.1 = wr) (fun _ i _ => n - (intOf i).toNat)
  case atStart => exact ⟨0, Nat.zero_le _, rfl, rfl, ⟨w, Below.refl _ _⟩, rfl⟩
  case round =>
    obtain ⟨k, hk, rfl, rfl, y1, rfl⟩ := hrel
    by_cases hlt : k < n
    · obtain ⟨o, ho⟩ : ∃ el_, (l)[k]? = some el_ := ⟨_, List.getElem?_eq_getElem (by first | exact (by rw [HL.out]; exact hlt) | omega)⟩
      obtain ⟨bA, offA, rfl, hbA, hcA⟩ := HA.out (k) _ ho
      have hbA2 : bA < w.heap.size + 1 := by omega
      obtain ⟨S, capS, o_0, hcapS, hrS⟩ := hcA (k) o ho
      have HLS := Lib.hid hrS
      have HAc := Lib.hid hcA
      have Ho := Lib.hid ho
      clear ho hrS hcA
      have HST := Lib.hid (sumN_take Ho.out)
      have ho1 : o.length ≤ 1000 := HBD.out o (List.mem_of_getElem? Ho.out)
      have hs0 : sumN (l.take k) ≤ 1000000 := by
        have h1 := sumN_mul (l := l.take k) (b := 1000) (fun q hq => HBD.out q (List.mem_of_mem_take hq))
        have h2 := List.length_take_le k l
        have h3 := Nat.mul_le_mul_right 1000 h2
        omega
      have hwr : IntKind.i64.wrap ((sumN (l.take k) : Int) + (o.length : Int)) = (sumN (l.take k) : Int) + (o.length : Int) := IntWalk.i64_in _ (by omega)
      go_wp2_with fail
      go_roundw
      case rel => exact ⟨k + 1, by omega, by go_num, by rw [HST.out]; rfl, ⟨y1.1.alloc _, (by repeat (first | with_reducible (first | exact blA | exact blB | refine blC _ ?_ | refine blD ?_ ?_ _ | refine blE ?_ | refine blF _ ?_ | refine blG ?_ _ | refine blH ?_ | refine blI ?_ ?_ _) | (simp only [World.size_alloc]; omega) | (simp <;> omega)))⟩, rfl⟩
      case measure => simp [intOf]; omega
    · have hkn : n = k := by omega
      subst hkn
      have hE0 : sumN (l.take n) = sumN l := by rw [List.take_of_length_le (by rw [HL.out]; exact Nat.le_refl _)]
      rw [hE0]
      clear hE0
      obtain ⟨N, hN⟩ : ∃ N, sumN l = N := ⟨_, rfl⟩
      have HN := Lib.hid hN
      rw [hN]
      clear hN
      by_cases hlim : n > 64 ∨ N > 1024
      · have HE1 := Lib.hid (show nestE l = 2 by unfold nestE; rw [HL.out, HN.out, if_pos hlim])
        have HE2 := Lib.hid (show nestL l = [] by unfold nestL; rw [HE1.out]; rfl)
        by_cases h64 : n > 64
        all_goals
          go_wp2_with fail
          go_ret2
          rw [HE1.out, HE2.out]
          exact ⟨⟨_, rfl, World.ownsRow_nil _ _ _ _⟩, y1.2⟩
      · have h64 : ¬ n > 64 := fun h => hlim (.inl h)
        have h1024 : ¬ N > 1024 := fun h => hlim (.inr h)
        clear hlim
        go_wp2_with (at_make; refine wpList_mk _ rfl _ _ 65 rfl encPol_len (by decide) ((none, 0, 0) : PolH) w.heap.size 22 (.slice none 0 0) 24 rfl infoSgs Try.underlying65 .i64 .i64 _ _ (n) rfl rfl (by omega) (by omega) (by omega) (by decide) (by repeat (first | with_reducible exact Nat.le_refl _ | assumption | with_reducible refine le_alloc ?_ _ | with_reducible refine le_drew ?_ | with_reducible refine Kin.le _ ?_ | assumption | omega | (simp only [World.size_alloc]; omega))) ?_; intro w1 hmk hmb hmlt; (obtain ⟨y, rfl⟩ : ∃ y : Kin w, y.1 = w1 := ⟨⟨w1, Below.trans (by repeat (first | with_reducible (first | exact blA | exact blB | refine blC _ ?_ | refine blD ?_ ?_ _ | refine blE ?_ | refine blF _ ?_ | refine blG ?_ _ | refine blH ?_ | refine blI ?_ ?_ _) | (simp only [World.size_alloc]; omega) | (simp <;> omega))) (hmb.mono (by repeat (first | with_reducible exact Nat.le_refl _ | assumption | with_reducible refine le_alloc ?_ _ | with_reducible refine le_drew ?_ | with_reducible refine Kin.le _ ?_ | assumption | omega | (simp only [World.size_alloc]; omega))))⟩, rfl⟩); (have HMK := Lib.hid hmk; clear hmk); clear hmb)
        obtain ⟨ge, hge⟩ : ∃ ge, y1.1.heap.size = ge := ⟨_, rfl⟩
        have hwge : w.heap.size ≤ ge := by rw [← hge]; exact y1.2.size
        rw [hge] at HMK hmlt ⊢
        have HED := Lib.hid (show EdgM w.heap.size y.1 ge n l 0 (List.replicate n ((none, 0, 0) : PolH)) from ⟨by simp, HMK.out, fun j o hj => absurd hj (Nat.not_lt_zero _)⟩)
        obtain ⟨y2, rfl⟩ : ∃ y2 : Kin w, y2 = y := ⟨y, rfl⟩
        clear HMK hge
        go_loopw [39] (fun i wr => ∃ (k : Nat) (hs : List PolH), k ≤ n ∧ i = .int .i64 k ∧ Hid (EdgM w.heap.size wr ge n l k hs) ∧ Hid (validL (l.take k) = true) ∧ ∃ y : Kin w, y.1 = wr) (fun i _ => n - (intOf i).toNat)
        case atStart => exact ⟨0, _, Nat.zero_le _, rfl, HED, Lib.hid rfl, _, rfl⟩
        case round =>
          clear HED hmlt
          obtain ⟨k, hs, hk, rfl, HED, HVL, y, rfl⟩ := hrel
          by_cases hlt : k < n
          · obtain ⟨o, ho⟩ : ∃ el_, (l)[k]? = some el_ := ⟨_, List.getElem?_eq_getElem (by first | exact (by rw [HL.out]; exact hlt) | omega)⟩
            obtain ⟨bA, offA, rfl, hbA, hcA⟩ := HA.out (k) _ ho
            have hbA2 : bA < w.heap.size + 1 := by omega
            obtain ⟨S, capS, o_0, hcapS, hrS⟩ := hcA (k) o ho
            have HLS := Lib.hid hrS
            have HAc := Lib.hid hcA
            have Ho := Lib.hid ho
            clear ho hrS hcA
            have HVT := Lib.hid (validL_take Ho.out)
            have ho1 : o.length ≤ 1000 := HBD.out o (List.mem_of_getElem? Ho.out)
            go_wp2_with fail
            obtain ⟨y5, hy5⟩ : ∃ y5 : Kin w, y5.1 = y.1.alloc (.cells #[.slice S o.length capS] 42) := ⟨⟨y.1.alloc _, (by repeat (first | with_reducible (first | exact blA | exact blB | refine blC _ ?_ | refine blD ?_ ?_ _ | refine blE ?_ | refine blF _ ?_ | refine blG ?_ _ | refine blH ?_ | refine blI ?_ ?_ _) | (simp only [World.size_alloc]; omega) | (simp <;> omega)))⟩, rfl⟩
            have B5 := Blk.new y.1 42 #[.slice S o.length capS]
            have E5 := HED.out.below ((Below.refl _ _).alloc (Nat.le_refl _) (.cells #[.slice S o.length capS] 42))
            obtain ⟨g5, hg5⟩ : ∃ g5, y.1.heap.size = g5 := ⟨_, rfl⟩
            rw [← hy5, hg5] at B5
            rw [← hy5] at E5
            rw [← hy5, hg5]
            have HB5 := Lib.hid B5
            have HE5 := Lib.hid E5
            clear hy5 hg5 B5 E5 HED
            have hr5 := HLS.out.below y5.2
            rcases hv : o.all vld with _ | _
            · have hb5 : (!(o.all vld)) = true := by rw [hv]; rfl
              (go_at_call 40; (with_reducible refine (Kin.callK (W := w) (by repeat (first | with_reducible (first | exact blA | exact blB | refine blC _ ?_ | refine blD ?_ ?_ _ | refine blE ?_ | refine blF _ ?_ | refine blG ?_ _ | refine blH ?_ | refine blI ?_ ?_ _) | (simp only [World.size_alloc]; omega) | (simp <;> omega))) (cfunc_is (b := true) _ o _ hr5 (by omega) hb5)).mono ?_); rintro e w' ⟨z1, rfl, hz1, rfl⟩; skip)
              have HE1 := Lib.hid (show nestE l = 8 by
                unfold nestE
                rw [HL.out, HN.out, if_neg (by omega), if_neg]
                unfold validL
                rw [Bool.not_eq_true, List.all_eq_false]
                exact ⟨o, List.mem_of_getElem? Ho.out, by rw [hv]; simp⟩)
              have HE2 := Lib.hid (show nestL l = [] by unfold nestL; rw [HE1.out]; rfl)
              clear hv hz1 hb5 hr5
              go_wp2_with fail
              go_ret2
              rw [HE1.out, HE2.out]
              exact ⟨⟨_, rfl, World.ownsRow_nil _ _ _ _⟩, z1.2⟩
            · have hb5 : (!(o.all vld)) = false := by rw [hv]; rfl
              (go_at_call 40; (with_reducible refine (Kin.callK (W := w) (by repeat (first | with_reducible (first | exact blA | exact blB | refine blC _ ?_ | refine blD ?_ ?_ _ | refine blE ?_ | refine blF _ ?_ | refine blG ?_ _ | refine blH ?_ | refine blI ?_ ?_ _) | (simp only [World.size_alloc]; omega) | (simp <;> omega))) (cfunc_is (b := false) _ o _ hr5 (by omega) hb5)).mono ?_); rintro e w' ⟨z1, rfl, hz1, rfl⟩; skip)
              have HVL2 := Lib.hid (show validL (l.take (k + 1)) = true by rw [HVT.out, HVL.out, hv]; rfl)
              have HB6 := Lib.hid (HB5.out.below hz1)
              have HE6 := Lib.hid (HE5.out.below hz1)
              have b_0 : z1.1.cell? ⟨g5, 0, none⟩ = some (.slice S o.length capS) := HB6.out.cell 0
              have bl := HB6.out.lt
              clear hv hz1 hb5 hr5
              go_wp2_with fail
              have hr6 := rdPols_one z1.1 (HLS.out.below z1.2)
              have hs6 : (segsL [o]).length ≤ 1000000000 := by simp [segsL, segsO, segsTo_len]; omega
              (go_at_call 21; (with_reducible refine (Kin.callK (W := w) (by repeat (first | with_reducible (first | exact blA | exact blB | refine blC _ ?_ | refine blD ?_ ?_ _ | refine blE ?_ | refine blF _ ?_ | refine blG ?_ _ | refine blH ?_ | refine blI ?_ ?_ _) | (simp only [World.size_alloc]; omega) | (simp <;> omega))) (segs_any _ [o] _ hr6 (by simp) hs6)).mono ?_); rintro e w' ⟨z2, ⟨u, rfl, hu⟩, hz2, rfl⟩; skip)
              obtain ⟨Au, cu, rfl⟩ := own_slc hu
              have hsl : segsL [o] = segsO o := by simp [segsL]
              rw [hsl] at hu ⊢
              have HE7 := Lib.hid ((HE6.out.below ((Below.refl _ _).alloc (Nat.le_refl _) _)).below hz2)
              have HU := Lib.hid (Rd.own encSg_len hu)
              have hlt6 := (HE6.out.2.1.lt ge rfl).2
              have HNE := Lib.hid (show segsO o = [] ∨ (Value.slice Au (segsO o).length cu).ownBlock ≠ some ge from .inr fun e => by have := (hu.lt ge e).1; rw [World.size_alloc] at this; omega)
              obtain ⟨u0, g0⟩ := own_some HE7.out.2.1 k (by omega)
              have f0 : z2.1.frozen? ⟨ge, k, none⟩ = false := HE7.out.2.1.frozenAt _
              have gl := (HE7.out.2.1.lt ge rfl).2
              clear hu hsl hz2
              go_wp2_with fail
              refine ⟨⟨k + 1, _, by omega, by go_num, Lib.hid (HE7.out.set hlt Ho.out HU.out HNE.out), HVL2, ⟨_, z2.2.setCell hwge _⟩, rfl⟩, by simp [intOf]; omega⟩
          · have hkn : n = k := by omega
            subst hkn
            have HVA := Lib.hid (show validL l = true by have := HVL.out; rwa [List.take_of_length_le (by rw [HL.out]; exact Nat.le_refl _)] at this)
            have HE1 := Lib.hid (show nestE l = 0 by unfold nestE; rw [HL.out, HN.out, if_neg (by omega), if_pos HVA.out])
            have HE2 := Lib.hid (show nestL l = nestTo l n by unfold nestL; rw [HE1.out, if_pos rfl, HL.out])
            obtain ⟨y3, rfl⟩ : ∃ y3 : Kin w, y3 = y := ⟨y, rfl⟩
            have HE3 := Lib.hid (fun j o (hj : j < n) (ho : l[j]? = some o) => HED.out.get hj ho)
            have HRL3 := Lib.hid (HRV.out.below y3.2)
            clear HED HRV HVL
            go_wp2_with (at_make; refine wpList_mk _ rfl _ _ 43 rfl encI_len (by decide) (0 : Int) y3.1.heap.size 3 (.int .i64 0) 8 rfl infoInt Try.underlying43 .i64 .i64 _ _ (n) rfl rfl (by omega) (by omega) (by omega) (by decide) (by repeat (first | with_reducible exact Nat.le_refl _ | assumption | with_reducible refine le_alloc ?_ _ | with_reducible refine le_drew ?_ | with_reducible refine Kin.le _ ?_ | assumption | omega | (simp only [World.size_alloc]; omega))) ?_; intro w1 hmk hmb hmlt; (obtain ⟨y, rfl⟩ : ∃ y : Kin y3.1, y.1 = w1 := ⟨⟨w1, Below.trans (by repeat (first | with_reducible (first | exact blA | exact blB | refine blC _ ?_ | refine blD ?_ ?_ _ | refine blE ?_ | refine blF _ ?_ | refine blG ?_ _ | refine blH ?_ | refine blI ?_ ?_ _) | (simp only [World.size_alloc]; omega) | (simp <;> omega))) (hmb.mono (by repeat (first | with_reducible exact Nat.le_refl _ | assumption | with_reducible refine le_alloc ?_ _ | with_reducible refine le_drew ?_ | with_reducible refine Kin.le _ ?_ | assumption | omega | (simp only [World.size_alloc]; omega))))⟩, rfl⟩); (have HMK := Lib.hid hmk; clear hmk); clear hmb)
            obtain ⟨y4, rfl⟩ : ∃ y4 : Kin y3.1, y4 = y := ⟨y, rfl⟩
            go_loopw [59] (fun i wr => ∃ k : Nat, k ≤ n ∧ i = .int .i64 k ∧ Hid (wr.ownsRow y3.1.heap.size 3 1 (.slice (some ⟨y3.1.heap.size, 0, none⟩) n n) n ((nestTo l k ++ List.replicate (n - k) 0).flatMap encI)) ∧ ∃ z : Kin y3.1, z.1 = wr) (fun i _ => n - (intOf i).toNat)
            case atStart => exact ⟨0, Nat.zero_le _, rfl, Lib.hid (by simpa [nestTo] using HMK.out), _, rfl⟩
            case round =>
              clear HMK
              obtain ⟨k, hk, rfl, HO, z, rfl⟩ := hrel
              by_cases hlt : k < n
              · obtain ⟨o, ho⟩ : ∃ o, l[k]? = some o := ⟨_, List.getElem?_eq_getElem (by rw [HL.out]; exact hlt)⟩
                obtain ⟨bA, offA, rfl, hbA, hcA⟩ := pols_op HRL3.out k o ho
                obtain ⟨S, cS, o_0, hcS, hrS⟩ := hcA k o ho
                have HOK := Lib.hid ho
                have HRS := Lib.hid hrS
                have ho1 : o.length ≤ 1000 := HBD.out o (List.mem_of_getElem? ho)
                clear ho hrS hcA
                by_cases h0 : o.length = 0
                · have HSK := Lib.hid (nest_skip hlt (nestAt_nil HOK.out h0))
                  have h0' : ((o.length : Int) == 0) = true := by rw [h0]; rfl
                  go_wp2_with fail
                  go_roundw
                  case rel => exact ⟨k + 1, by omega, by go_num, Lib.hid (by rw [← HSK.out]; exact HO.out.alloc _), ⟨z.1.alloc _, (by repeat (first | with_reducible (first | exact blA | exact blB | refine blC _ ?_ | refine blD ?_ ?_ _ | refine blE ?_ | refine blF _ ?_ | refine blG ?_ _ | refine blH ?_ | refine blI ?_ ?_ _) | (simp only [World.size_alloc]; omega) | (simp <;> omega)))⟩, rfl⟩
                  case measure => simp [intOf]; omega
                · have h0' : ((o.length : Int) == 0) = false := by rw [beq_eq_false_iff_ne]; omega
                  have hne : o ≠ [] := fun e => h0 (by rw [e]; rfl)
                  have HNC := Lib.hid (nestAt_cnt HOK.out h0)
                  go_wp2_with fail
                  obtain ⟨z5, hz5⟩ : ∃ z5 : Kin y3.1, z5.1 = z.1.alloc (.cells #[.slice S o.length cS] 42) := ⟨⟨z.1.alloc _, (by repeat (first | with_reducible (first | exact blA | exact blB | refine blC _ ?_ | refine blD ?_ ?_ _ | refine blE ?_ | refine blF _ ?_ | refine blG ?_ _ | refine blH ?_ | refine blI ?_ ?_ _) | (simp only [World.size_alloc]; omega) | (simp <;> omega)))⟩, rfl⟩
                  have O5 := HO.out.alloc (.cells #[.slice S o.length cS] 42)
                  rw [← hz5] at O5 ⊢
                  have HO5 := Lib.hid O5
                  have hr5 := HRS.out.below z5.2
                  clear hz5 O5 HO
                  (go_at_call 42; (with_reducible refine (Kin.callK (W := (Kin.wd y3)) (by repeat (first | with_reducible (first | exact blA | exact blB | refine blC _ ?_ | refine blD ?_ ?_ _ | refine blE ?_ | refine blF _ ?_ | refine blG ?_ _ | refine blH ?_ | refine blI ?_ ?_ _) | (simp only [World.size_alloc]; omega) | (simp <;> omega))) (minf_any _ o _ hr5 hne (by omega))).mono ?_); rintro e w' ⟨z6, rfl, hz6, rfl⟩; skip)
                  have HO6 := Lib.hid (own_below HO5.out hz6)
                  obtain ⟨p, hp⟩ : ∃ p, minP o = p := ⟨_, rfl⟩
                  rw [hp] at HNC ⊢
                  clear hz6 hr5 HO5 hp
                  go_wp2_with fail
                  obtain ⟨z7, hz7⟩ : ∃ z7 : Kin y3.1, z7.1 = z6.1.alloc (.cells #[.int .i64 p.1, .int .i64 p.2] 36) := ⟨⟨z6.1.alloc _, (by repeat (first | with_reducible (first | exact blA | exact blB | refine blC _ ?_ | refine blD ?_ ?_ _ | refine blE ?_ | refine blF _ ?_ | refine blG ?_ _ | refine blH ?_ | refine blI ?_ ?_ _) | (simp only [World.size_alloc]; omega) | (simp <;> omega)))⟩, rfl⟩
                  have O7 := HO6.out.alloc (.cells #[.int .i64 p.1, .int .i64 p.2] 36)
                  have B7 := Blk.new z6.1 36 #[.int .i64 p.1, .int .i64 p.2]
                  obtain ⟨g7, hg7⟩ : ∃ g7, z6.1.heap.size = g7 := ⟨_, rfl⟩
                  have hg7b : y3.1.heap.size < g7 := by rw [← hg7]; exact (HO6.out.lt _ rfl).2
                  rw [← hz7, hg7] at B7
                  rw [← hz7] at O7
                  rw [← hz7, hg7]
                  have HB7 := Lib.hid B7
                  have HO7 := Lib.hid (show z7.1.ownsRow y3.1.heap.size 3 1 (.slice (some ⟨y3.1.heap.size, 0, none⟩) n n) n ((rowN l k n (cntN l k p 0)).flatMap encI) by rw [rowN_start hlt] at O7; exact O7)
                  clear hz7 hg7 O7 B7 HO6
                  go_loopw [73] (fun i wr => ∃ j : Nat, j ≤ n ∧ i = .int .i64 j ∧ Hid (wr.ownsRow y3.1.heap.size 3 1 (.slice (some ⟨y3.1.heap.size, 0, none⟩) n n) n ((rowN l k n (cntN l k p j)).flatMap encI)) ∧ Hid (Blk wr g7 36 #[.int .i64 p.1, .int .i64 p.2]) ∧ ∃ z : Kin y3.1, z.1 = wr) (fun i _ => n - (intOf i).toNat)
                  case atStart => exact ⟨0, Nat.zero_le _, rfl, HO7, HB7, z7, rfl⟩
                  case round =>
                    clear HO7 HB7
                    obtain ⟨j, hj, rfl, HO, HB, z8, rfl⟩ := hrel
                    have q_0 : z8.1.cell? ⟨g7, 0, none⟩ = some (.int .i64 p.1) := HB.out.cell 0
                    have q_1 : z8.1.cell? ⟨g7, 1, none⟩ = some (.int .i64 p.2) := HB.out.cell 1
                    have ql := HB.out.lt
                    by_cases hjl : j < n
                    · by_cases hjk : j = k
                      · subst hjk
                        have HCO := Lib.hid (cntN_own l j p)
                        go_wp2_with fail
                        ((refine wp_region_kinK (W := (Kin.wd y3)) (by kernel_rfl) (by kernel_rfl) (by repeat (first | with_reducible (first | exact blA | exact blB | refine blC _ ?_ | refine blD ?_ ?_ _ | refine blE ?_ | refine blF _ ?_ | refine blG ?_ _ | refine blH ?_ | refine blI ?_ ?_ _) | (simp only [World.size_alloc]; omega) | (simp <;> omega))) ?_); (repeat' (first | go_big_quiet_step (fail) | ((refine wpQuiet_guard rfl rfl rfl rfl (fun hg => ?_) (fun hg => ?_)) <;> (fail_if_success (first | guard_hyp hg : true = true | guard_hyp hg : false = false)) <;> (try simp only [decide_eq_true_eq, decide_eq_false_iff_not] at hg) <;> simp only [Act.put, List.setIfInBounds_toArray, List.set_cons_zero, List.set_cons_succ]))); all_goals ((with_reducible refine wpQuiet_nil ?_); intro zq hz))
                        have HOz := Lib.hid (own_below HO.out hz)
                        have HBz := Lib.hid (HB.out.below hz)
                        clear hz
                        go_wp2_with fail
                        refine ⟨⟨j + 1, by omega, by go_num, Lib.hid (by rw [HCO.out]; exact HOz.out), HBz, zq, rfl⟩, by simp [intOf]; omega⟩
                      · have hjk1 : ((j : Int) == (k : Int)) = false := by rw [beq_eq_false_iff_ne]; omega
                        have hjk2 : ((j : Int) != (k : Int)) = true := by rw [bne_iff_ne]; omega
                        obtain ⟨oj, hoj⟩ : ∃ o, l[j]? = some o := ⟨_, List.getElem?_eq_getElem (by rw [HL.out]; exact hjl)⟩
                        obtain ⟨Sj, cj, e_0, hcj, hrj, hgl⟩ := HE3.out j oj hjl hoj
                        have hj1 : oj.length ≤ 1000 := HBD.out oj (List.mem_of_getElem? hoj)
                        have hjs : (segsO oj).length ≤ 1000000000 := by unfold segsO; rw [segsTo_len]; omega
                        have HOJ := Lib.hid hoj
                        have HRJ := Lib.hid hrj
                        clear hoj hrj
                        rcases hcp : conP (segsO oj) p with _ | _
                        · have HCP := Lib.hid hcp
                          have HCN := Lib.hid (cntN_no (i := k) HOJ.out hcp)
                          clear hcp
                          go_wp2_with fail
                          ((refine wp_region_kinK (W := (Kin.wd y3)) (by kernel_rfl) (by kernel_rfl) (by repeat (first | with_reducible (first | exact blA | exact blB | refine blC _ ?_ | refine blD ?_ ?_ _ | refine blE ?_ | refine blF _ ?_ | refine blG ?_ _ | refine blH ?_ | refine blI ?_ ?_ _) | (simp only [World.size_alloc]; omega) | (simp <;> omega))) ?_); (repeat' (first | go_big_quiet_step ((go_at_call 43; exact Kin.quiet _ (contains_is _ _ p _ (HRJ.out.below (by repeat (first | with_reducible (first | exact blA | exact blB | refine blC _ ?_ | refine blD ?_ ?_ _ | refine blE ?_ | refine blF _ ?_ | refine blG ?_ _ | refine blH ?_ | refine blI ?_ ?_ _) | (simp only [World.size_alloc]; omega) | (simp <;> omega)))) hjs HCP.out))) | ((refine wpQuiet_guard rfl rfl rfl rfl (fun hg => ?_) (fun hg => ?_)) <;> (fail_if_success (first | guard_hyp hg : true = true | guard_hyp hg : false = false)) <;> (try simp only [decide_eq_true_eq, decide_eq_false_iff_not] at hg) <;> simp only [Act.put, List.setIfInBounds_toArray, List.set_cons_zero, List.set_cons_succ]))); all_goals ((with_reducible refine wpQuiet_nil ?_); intro zq hz))
                          have HOz := Lib.hid (own_below HO.out hz)
                          have HBz := Lib.hid (HB.out.below hz)
                          clear hz
                          go_wp2_with fail
                          refine ⟨⟨j + 1, by omega, by go_num, Lib.hid (by rw [HCN.out]; exact HOz.out), HBz, zq, rfl⟩, by simp [intOf]; omega⟩
                        · have HCP := Lib.hid hcp
                          have HCN := Lib.hid (cntN_yes (i := k) HOJ.out hjk hcp)
                          clear hcp
                          go_wp2_with fail
                          ((refine wp_region_kinK (W := (Kin.wd y3)) (by kernel_rfl) (by kernel_rfl) (by repeat (first | with_reducible (first | exact blA | exact blB | refine blC _ ?_ | refine blD ?_ ?_ _ | refine blE ?_ | refine blF _ ?_ | refine blG ?_ _ | refine blH ?_ | refine blI ?_ ?_ _) | (simp only [World.size_alloc]; omega) | (simp <;> omega))) ?_); (repeat' (first | go_big_quiet_step ((go_at_call 43; exact Kin.quiet _ (contains_is _ _ p _ (HRJ.out.below (by repeat (first | with_reducible (first | exact blA | exact blB | refine blC _ ?_ | refine blD ?_ ?_ _ | refine blE ?_ | refine blF _ ?_ | refine blG ?_ _ | refine blH ?_ | refine blI ?_ ?_ _) | (simp only [World.size_alloc]; omega) | (simp <;> omega)))) hjs HCP.out))) | ((refine wpQuiet_guard rfl rfl rfl rfl (fun hg => ?_) (fun hg => ?_)) <;> (fail_if_success (first | guard_hyp hg : true = true | guard_hyp hg : false = false)) <;> (try simp only [decide_eq_true_eq, decide_eq_false_iff_not] at hg) <;> simp only [Act.put, List.setIfInBounds_toArray, List.set_cons_zero, List.set_cons_succ]))); all_goals ((with_reducible refine wpQuiet_nil ?_); intro zq hz))
                          have HOz := Lib.hid (own_below HO.out hz)
                          have HBz := Lib.hid (HB.out.below hz)
                          clear hz
                          have c_0 : zq.1.cell? ⟨y3.1.heap.size, k, none⟩ = some (.int .i64 (cntN l k p j)) := rowN_cell HOz.out
                          have cf : zq.1.frozen? ⟨y3.1.heap.size, k, none⟩ = false := HOz.out.frozenAt _
                          have cl := (HOz.out.lt _ rfl).2
                          have cw : IntKind.i64.wrap ((cntN l k p j : Int) + 1) = (cntN l k p j : Int) + 1 := IntWalk.i64_in _ (by have := cntN_le l k p j; omega)
                          go_wp2_with fail
                          refine ⟨⟨j + 1, by omega, by go_num, Lib.hid (by rw [HCN.out]; exact rowN_store hlt HOz.out), Lib.hid (HBz.out.far (by show g7 ≠ y3.1.heap.size; omega) _), ⟨_, zq.2.setCell (Nat.le_refl _) _⟩, rfl⟩, by simp [intOf]; omega⟩
                    · have hjn : n = j := by omega
                      subst hjn
                      have HEND := Lib.hid (show rowN l k n (cntN l k p n) = nestTo l (k + 1) ++ List.replicate (n - (k + 1)) 0 by
                        rw [← rowN_end hlt, HNC.out, HL.out])
                      go_wp2_with fail
                      go_roundw
                      case rel => exact ⟨k + 1, by omega, by go_num, Lib.hid (by rw [← HEND.out]; exact HO.out), z8, rfl⟩
                      case measure => simp [intOf]; omega
              · have hkn : n = k := by omega
                subst hkn
                go_wp2_with fail
                go_ret2
                rw [HE1.out, HE2.out]
                refine ⟨⟨_, rfl, ?_⟩, (by repeat (first | with_reducible (first | exact blA | exact blB | refine blC _ ?_ | refine blD ?_ ?_ _ | refine blE ?_ | refine blF _ ?_ | refine blG ?_ _ | refine blH ?_ | refine blI ?_ ?_ _) | (simp only [World.size_alloc]; omega) | (simp <;> omega)))⟩
                have h := own_base HO.out (y3.2.size)
                rw [Nat.sub_self, List.replicate_zero, List.append_nil] at h
                rw [nestTo_len]
                exact h
end Go.Proofs.Yteadnlodccnfcaa
