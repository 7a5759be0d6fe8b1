/- The chapter's winding number of a point. -/
import Derived.Test.YtbdmibbpojmkiaaRasChk
import Derived.Test.YtbdmibbpojmkiaaRasMathB
import Derived.Test.YtbdmibbpojmkiaaPlanRef
namespace Go.Proofs.Ytbdmibbpojmkiaa
set_option linter.unusedSimpArgs false
set_option linter.unusedVariables false
set_option maxRecDepth 100000
open Go.RowKit Runs Reg Ras
attribute [local go_sem] Kin.cell Kin.frozen Kin.lt0 Kin.lt1 Kin.lt2 Kin.lt3 run_mkf
theorem valid05_is {b : Bool} (p : P2) (w : World) (hb : Planar.vld p = b) :
    Calls Try.prog 62 #[.agg #[.int .i64 p.1, .int .i64 p.2]] w fun e w' => e = .returned (.bool b) ∧ Below w.heap.size w w' := by subst hb; exact valid_ref p w
theorem turn05_is {t : Int} (a b c : P2) (w : World) (ht : Planar.turn a b c = t) :
    Calls Try.prog 74 #[.agg #[.int .i64 a.1, .int .i64 a.2], .agg #[.int .i64 b.1, .int .i64 b.2], .agg #[.int .i64 c.1, .int .i64 c.2]] w fun e w' => e = .returned (.int .i64 t) ∧ Below w.heap.size w w' := by subst ht; exact turn_ref a b c w
theorem turn_crs {a b c : P2} (ha : Planar.vld a = true) (hb : Planar.vld b = true) (hc : Planar.vld c = true) : (0 < Planar.turn a b c ↔ 0 < crs a b c) ∧ (Planar.turn a b c < 0 ↔ crs a b c < 0) := by
  have e : Planar.cross a b c = crs a b c := by unfold Planar.cross; rw [ha, hb, hc]; rfl
  unfold Planar.turn
  rw [e]
  unfold Planar.sgn
  omega
theorem addW_bd (a b p : P2) : -1 ≤ addW a b p ∧ addW a b p ≤ 1 := by
  unfold addW
  split
  · omega
  · split <;> omega
theorem windS_bd (s : List (P2 × P2)) (p : P2) : -(s.length : Int) ≤ windS s p ∧ windS s p ≤ s.length := by
  induction s with
  | nil => simp [windS, sumI]
  | cons q s ih =>
    have h := addW_bd q.1 q.2 p
    have e : windS (q :: s) p = addW q.1 q.2 p + windS s p := rfl
    rw [e, List.length_cons]; omega
theorem windS_succ (o : List P2) (m : Nat) (p : P2) {a b : P2} (ha : o[m]? = some a) (hb : o[(m + 1) % o.length]? = some b) : windS (sidesTo o (m + 1)) p = windS (sidesTo o m) p + addW a b p := by
  rw [sidesTo_succ, windS_append]
  unfold sideAt
  rw [ha, hb]
  show _ + (addW a b p + 0) = _
  rw [Int.add_zero]
theorem wind_succ {l : List (List P2)} {k : Nat} {o : List P2} (h : l[k]? = some o) (p : P2) : wind (l.take (k + 1)) p = wind (l.take k) p + windS (sides o) p := by
  unfold wind
  rw [List.take_add_one, h, List.flatMap_append, windS_append]
  simp
theorem wind_bd (l : List (List P2)) (p : P2) : -(ptsN l : Int) ≤ wind l p ∧ wind l p ≤ ptsN l := by
  have := windS_bd (l.flatMap sides) p
  rw [sides_flat_len] at this
  exact this
theorem vld_of {q : P2} (h : -8388608 ≤ q.1 ∧ q.1 ≤ 8388608 ∧ -8388608 ≤ q.2 ∧ q.2 ≤ 8388608) : Planar.vld q = true := by
  unfold Planar.vld
  rw [decide_eq_true_eq]; omega
set_option maxHeartbeats 4000000 in
theorem crosses17_any (a b p : P2) (w : World) (ha : Planar.vld a = true) (hb : Planar.vld b = true) (hp : Planar.vld p = true) :
    Calls Try.prog 63 #[.agg #[.int .i64 a.1, .int .i64 a.2], .agg #[.int .i64 b.1, .int .i64 b.2], .agg #[.int .i64 p.1, .int .i64 p.2]] w fun e w' => e = .returned (.int .i64 (addW a b p)) ∧ Below w.heap.size w w' := by
  obtain ⟨t1, t2⟩ := turn_crs ha hb hp
  obtain ⟨t, ht⟩ : ∃ t, Planar.turn a b p = t := ⟨_, rfl⟩
  rw [ht] at t1 t2
  have HT := Lib.hid ht
  have HA := Lib.hid ha
  have HB := Lib.hid hb
  have HV := Lib.hid (show addW a b p = if a.2 ≤ p.2 ∧ p.2 < b.2 ∧ 0 < t then 1 else if b.2 ≤ p.2 ∧ p.2 < a.2 ∧ t < 0 then -1 else 0 by unfold addW; simp only [t1, t2])
  clear ha hb hp ht t1 t2
  obtain ⟨V, hV⟩ : ∃ V, addW a b p = V := ⟨_, rfl⟩
  rw [hV] at HV ⊢
  clear hV
  obtain ⟨a1, a2⟩ := a
  obtain ⟨b1, b2⟩ := b
  obtain ⟨p1, p2⟩ := p
  simp only at *
  have hc : (a2 ≤ p2 ∧ p2 < b2 ∧ 0 < t ∧ V = 1) ∨ (a2 ≤ p2 ∧ p2 < b2 ∧ ¬ 0 < t ∧ ¬ b2 ≤ p2 ∧ V = 0) ∨ (a2 ≤ p2 ∧ ¬ p2 < b2 ∧ b2 ≤ p2 ∧ ¬ p2 < a2 ∧ V = 0) ∨ (¬ a2 ≤ p2 ∧ b2 ≤ p2 ∧ p2 < a2 ∧ t < 0 ∧ V = -1) ∨ (¬ a2 ≤ p2 ∧ b2 ≤ p2 ∧ p2 < a2 ∧ ¬ t < 0 ∧ V = 0) ∨ (¬ a2 ≤ p2 ∧ ¬ b2 ≤ p2 ∧ V = 0) := by
    have h := HV.out
    split at h
    · omega
    · split at h <;> omega
  clear HV
  rcases hc with ⟨c1, c2, c3, rfl⟩ | ⟨c1, c2, c3, c4, rfl⟩ | ⟨c1, c2, c3, c4, rfl⟩ | ⟨c1, c2, c3, c4, rfl⟩ | ⟨c1, c2, c3, c4, rfl⟩ | ⟨c1, c2, rfl⟩
  all_goals
    go_enter Try.func63, Try.ntmps63
    go_wp2_with (first
      | (go_at_call 62; (with_reducible refine (Kin.callK (W := (((w.alloc (.cells #[.int .i64 a1, .int .i64 a2] 24)).alloc (.cells #[.int .i64 b1, .int .i64 b2] 24)).alloc (.cells #[.int .i64 p1, .int .i64 p2] 24))) (by repeat (first | with_reducible (first | exact blA | exact blB | refine blC _ ?_ | refine blD ?_ ?_ _ | refine blE ?_ | refine blF _ ?_ | refine blG ?_ _ | refine blH ?_ | refine blI ?_ ?_ _) | (simp only [World.size_alloc]; omega) | (simp <;> omega))) (valid05_is _ _ HA.out)).mono ?_); rintro e w' ⟨z, rfl, hz, rfl⟩)
      | (go_at_call 62; (with_reducible refine (Kin.callK (W := (((w.alloc (.cells #[.int .i64 a1, .int .i64 a2] 24)).alloc (.cells #[.int .i64 b1, .int .i64 b2] 24)).alloc (.cells #[.int .i64 p1, .int .i64 p2] 24))) (by repeat (first | with_reducible (first | exact blA | exact blB | refine blC _ ?_ | refine blD ?_ ?_ _ | refine blE ?_ | refine blF _ ?_ | refine blG ?_ _ | refine blH ?_ | refine blI ?_ ?_ _) | (simp only [World.size_alloc]; omega) | (simp <;> omega))) (valid05_is _ _ HB.out)).mono ?_); rintro e w' ⟨z, rfl, hz, rfl⟩)
      | (go_at_call 74; (with_reducible refine (Kin.callK (W := (((w.alloc (.cells #[.int .i64 a1, .int .i64 a2] 24)).alloc (.cells #[.int .i64 b1, .int .i64 b2] 24)).alloc (.cells #[.int .i64 p1, .int .i64 p2] 24))) (by repeat (first | with_reducible (first | exact blA | exact blB | refine blC _ ?_ | refine blD ?_ ?_ _ | refine blE ?_ | refine blF _ ?_ | refine blG ?_ _ | refine blH ?_ | refine blI ?_ ?_ _) | (simp only [World.size_alloc]; omega) | (simp <;> omega))) (turn05_is _ _ _ _ HT.out)).mono ?_); rintro e w' ⟨z, rfl, hz, rfl⟩))
    go_ret
    exact ⟨rfl, (by repeat (first | with_reducible (first | exact blA | exact blB | refine blC _ ?_ | refine blD ?_ ?_ _ | refine blE ?_ | refine blF _ ?_ | refine blG ?_ _ | refine blH ?_ | refine blI ?_ ?_ _) | (simp only [World.size_alloc]; omega) | (simp <;> omega)))⟩
theorem crosses17_is {V : Int} (a b p : P2) (w : World) (ha : Planar.vld a = true) (hb : Planar.vld b = true) (hp : Planar.vld p = true) (hV : addW a b p = V) :
    Calls Try.prog 63 #[.agg #[.int .i64 a.1, .int .i64 a.2], .agg #[.int .i64 b.1, .int .i64 b.2], .agg #[.int .i64 p.1, .int .i64 p.2]] w fun e w' => e = .returned (.int .i64 V) ∧ Below w.heap.size w w' := by subst hV; exact crosses17_any a b p w ha hb hp
theorem okPt_vld {q : P2} (h : okPt q = true) : Planar.vld q = true := vld_of (by have := okPt_iff.1 h; omega)
set_option maxHeartbeats 8000000 in
theorem winding_any (v : Value) (l : List (List P2)) (p : P2) (w : World) (h : RdPols w v l) (hf : FewP l) (hok : okPs l = true) (hp : Planar.vld p = true) :
    Calls Try.prog 42 #[v, .agg #[.int .i64 p.1, .int .i64 p.2]] w fun e w' => e = .returned (.int .i64 (wind l p)) ∧ Below w.heap.size w w' := by
  have hl := hf.1
  have hpn := hf.2
  have HOK := Lib.hid (okPs_iff.1 hok)
  have HP := Lib.hid hp
  have HWB := Lib.hid (fun k => wind_bd (l.take k) p)
  clear hf hok hp
  obtain ⟨p1, p2⟩ := p
  simp only at HP ⊢
  obtain ⟨A, capA, rfl, hcapA, hopA⟩ := pols_open h
  have HA := Lib.hid hopA
  have HLA := Lib.hid h
  clear hopA h
  go_enter Try.func42, Try.ntmps42
  go_wp2_with (go_at_call 62; (with_reducible refine (Kin.callK (W := w.alloc (.cells #[.int .i64 p1, .int .i64 p2] 24)) (by repeat (first | with_reducible (first | exact blA | exact blB | refine blC _ ?_ | refine blD ?_ ?_ _ | refine blE ?_ | refine blF _ ?_ | refine blG ?_ _ | refine blH ?_ | refine blI ?_ ?_ _) | (simp only [World.size_alloc]; omega) | (simp <;> omega))) (valid05_is (p1, p2) _ HP.out)).mono ?_); rintro e w' ⟨z0, rfl, hz0, rfl⟩; skip)
  have HPB := Lib.hid ((Blk.new w 24 #[.int .i64 p1, .int .i64 p2]).below z0.2)
  have hz0 : Below w.heap.size w z0.1 := (by repeat (first | with_reducible (first | exact blA | exact blB | refine blC _ ?_ | refine blD ?_ ?_ _ | refine blE ?_ | refine blF _ ?_ | refine blG ?_ _ | refine blH ?_ | refine blI ?_ ?_ _) | (simp only [World.size_alloc]; omega) | (simp <;> omega)))
  have hz0s : w.heap.size ≤ z0.1.heap.size := hz0.size
  have HZ0 := Lib.hid hz0
  clear hz0
  go_loopw [5, 14] (fun o i wr => ∃ k : Nat, k ≤ l.length ∧ i = .int .i64 k ∧ o = .int .i64 (wind (l.take k) (p1, p2)) ∧ ∃ z : Kin z0.1, z.1 = wr) (fun _ i _ => l.length - (intOf i).toNat)
  case atStart => exact ⟨0, Nat.zero_le _, rfl, rfl, ⟨_, Below.refl _ _⟩, rfl⟩
  case round =>
    obtain ⟨k, hk, rfl, rfl, z, rfl⟩ := hrel
    have hwb := HWB.out k
    have hpk := ptsN_take l k
    by_cases hlt : k < l.length
    · obtain ⟨o, ho⟩ : ∃ el_, (l)[k]? = some el_ := ⟨_, List.getElem?_eq_getElem (by first | exact hlt | omega)⟩
      obtain ⟨bA, offA, rfl, hbA, hcA⟩ := HA.out (k) _ ho
      have hbA2 : bA < w.heap.size + 1 := by omega
      obtain ⟨S, capS, o_0, hcapS, hrS⟩ := hcA (k) o ho
      have HLS := Lib.hid hrS
      have HAc := Lib.hid hcA
      have Ho := Lib.hid ho
      clear ho hrS hcA
      have hpk1 := ptsN_take l (k + 1)
      have hpk2 : ptsN (l.take k) + o.length ≤ 16384 := by rw [← ptsN_succ Ho.out]; omega
      have HWS := Lib.hid (wind_succ Ho.out (p1, p2))
      generalize hT : wind (l.take k) (p1, p2) = T at *
      have HTT := Lib.hid hT
      clear hT
      have o_0z : z0.1.cell? ⟨bA, offA + k, none⟩ = some (.slice S o.length capS) := (HZ0.out.cell (p := ⟨bA, offA + k, none⟩) hbA).trans o_0
      have hbAz : bA < z0.1.heap.size := Nat.lt_of_lt_of_le hbA hz0s
      have HLZ := Lib.hid (HLS.out.below HZ0.out)
      clear o_0 HLS
      have HS := Lib.hid (Rd.op HLZ.out)
      have HLS := Lib.hid HLZ.out
      have HOO := Lib.hid (HOK.out o (List.mem_of_getElem? Ho.out))
      go_wp2
      go_loopw [5, 21] (fun u j wr => ∃ m : Nat, m ≤ o.length ∧ j = .int .i64 m ∧ u = .int .i64 (T + windS (sidesTo o m) (p1, p2)) ∧ ∃ z2 : Kin (z.1.alloc (.cells #[.slice S o.length capS] 40)), z2.1 = wr) (fun _ j _ => o.length - (intOf j).toNat)
      case atStart => exact ⟨0, Nat.zero_le _, rfl, by simp [sidesTo, windS, sumI], ⟨_, Below.refl _ _⟩, rfl⟩
      case round =>
        obtain ⟨m, hm2, rfl, rfl, z2, rfl⟩ := hrel
        have hsb := windS_bd (sidesTo o m) (p1, p2)
        rw [sidesTo_len] at hsb
        by_cases hlt2 : m < o.length
        · obtain ⟨q, hq⟩ : ∃ el_, (o)[m]? = some el_ := ⟨_, List.getElem?_eq_getElem (by first | exact hlt2 | omega)⟩
          obtain ⟨bS, offS, rfl, hbS, hcS⟩ := HS.out (m) _ hq
          have q_0 : z0.1.cell? ⟨bS, offS + m * 2, none⟩ = some (.int .i64 q.1) := by exact hcS (m) _ hq 0 _ rfl
          have q_1 : z0.1.cell? ⟨bS, offS + m * 2 + 1, none⟩ = some (.int .i64 q.2) := by exact hcS (m) _ hq 1 _ rfl
          have hbS2 : bS < z0.1.heap.size + 1 := by omega
          have HSc := Lib.hid hcS
          have Hq := Lib.hid hq
          clear hq hcS
          have hj : (m + 1) % o.length < o.length := Nat.mod_lt _ (by omega)
          obtain ⟨r, hr⟩ : ∃ el_, (o)[(m + 1) % o.length]? = some el_ := ⟨_, List.getElem?_eq_getElem (by first | exact hj | omega)⟩
          have r_0 : z0.1.cell? ⟨bS, offS + ((m + 1) % o.length) * 2, none⟩ = some (.int .i64 r.1) := by exact HSc.out ((m + 1) % o.length) _ hr 0 _ rfl
          have r_1 : z0.1.cell? ⟨bS, offS + ((m + 1) % o.length) * 2 + 1, none⟩ = some (.int .i64 r.2) := by exact HSc.out ((m + 1) % o.length) _ hr 1 _ rfl
          have Hr := Lib.hid hr
          clear hr
          have HQV := Lib.hid (okPt_vld (HOO.out q (List.mem_of_getElem? Hq.out)))
          have HRV := Lib.hid (okPt_vld (HOO.out r (List.mem_of_getElem? Hr.out)))
          have HSU := Lib.hid (windS_succ o m (p1, p2) Hq.out Hr.out)
          have hab := addW_bd q r (p1, p2)
          obtain ⟨j, hjd⟩ : ∃ j, (m + 1) % o.length = j := ⟨_, rfl⟩
          have hji : ((m : Int) + 1) % (o.length : Int) = (j : Int) := by rw [← hjd]; push_cast; rfl
          rw [hjd] at hj r_0 r_1
          clear hjd
          obtain ⟨V, hV⟩ : ∃ V, addW q r (p1, p2) = V := ⟨_, rfl⟩
          rw [hV] at hab
          have HVV := Lib.hid hV
          clear hV
          generalize hG : windS (sidesTo o m) (p1, p2) = G at *
          have HGG := Lib.hid hG
          clear hG
          have HPL := Lib.hid ((Blk.new z.1 40 #[.slice (some ⟨bS, offS, none⟩) o.length capS]).below z2.2)
          have g0 : z2.1.cell? ⟨z.1.heap.size, 0, none⟩ = some (.slice (some ⟨bS, offS, none⟩) o.length capS) := HPL.out.cell 0
          have gl := HPL.out.lt
          have HKK := Lib.hid (show Below z0.1.heap.size z0.1 z2.1 from (by repeat (first | with_reducible (first | exact blA | exact blB | refine blC _ ?_ | refine blD ?_ ?_ _ | refine blE ?_ | refine blF _ ?_ | refine blG ?_ _ | refine blH ?_ | refine blI ?_ ?_ _) | (simp only [World.size_alloc]; omega) | (simp <;> omega))))
          have HPP := Lib.hid (HPB.out.below HKK.out)
          have g1 : z2.1.cell? ⟨w.heap.size, 0, none⟩ = some (.int .i64 p1) := HPP.out.cell 0
          have g2 : z2.1.cell? ⟨w.heap.size, 1, none⟩ = some (.int .i64 p2) := HPP.out.cell 1
          have gl2 := HPP.out.lt
          have g3 : z2.1.cell? ⟨bS, offS + m * 2, none⟩ = some (.int .i64 q.1) := (HKK.out.cell (p := ⟨bS, offS + m * 2, none⟩) hbS).trans q_0
          have g4 : z2.1.cell? ⟨bS, offS + m * 2 + 1, none⟩ = some (.int .i64 q.2) := (HKK.out.cell (p := ⟨bS, offS + m * 2 + 1, none⟩) hbS).trans q_1
          have g5 : z2.1.cell? ⟨bS, offS + j * 2, none⟩ = some (.int .i64 r.1) := (HKK.out.cell (p := ⟨bS, offS + j * 2, none⟩) hbS).trans r_0
          have g6 : z2.1.cell? ⟨bS, offS + j * 2 + 1, none⟩ = some (.int .i64 r.2) := (HKK.out.cell (p := ⟨bS, offS + j * 2 + 1, none⟩) hbS).trans r_1
          have gl3 : bS < z2.1.heap.size := Nat.lt_of_lt_of_le hbS HKK.out.size
          have hn0 : ¬ (o.length : Int) = 0 := by omega
          have hn1 : ¬ o.length = 0 := by omega
          have hn2 : ¬ o = [] := by intro e; rw [e] at hn1; exact hn1 rfl
          have hw1 : IntKind.i64.wrap ((m : Int) + 1) = (m : Int) + 1 := IntWalk.i64_in _ (by omega)
          have hjt : Int.tmod ((m : Int) + 1) (o.length : Int) = (j : Int) := by rw [Int.tmod_eq_emod_of_nonneg (by omega)]; exact hji
          have hw2 : IntKind.i64.wrap (j : Int) = (j : Int) := IntWalk.i64_in _ (by omega)
          have hm1 : 0 ≤ (m : Int) + 1 := by omega
          have hw3 : IntKind.i64.wrap (T + G + V) = T + G + V := IntWalk.i64_in _ (by omega)
          clear q_0 q_1 r_0 r_1 o_0z
          go_wp2
          ((refine wp_region_kinK (W := (Kin.wd z2)) (by kernel_rfl) (by kernel_rfl) (by repeat (first | with_reducible (first | exact blA | exact blB | refine blC _ ?_ | refine blD ?_ ?_ _ | refine blE ?_ | refine blF _ ?_ | refine blG ?_ _ | refine blH ?_ | refine blI ?_ ?_ _) | (simp only [World.size_alloc]; omega) | (simp <;> omega))) ?_); (repeat' (first | go_big_quiet_step ((go_at_call 63; exact Kin.quiet _ (crosses17_is _ _ (p1, p2) _ HQV.out HRV.out HP.out HVV.out))) | ((refine wpQuiet_guard rfl rfl rfl rfl (fun hg => ?_) (fun hg => ?_)) <;> (fail_if_success (first | guard_hyp hg : true = true | guard_hyp hg : false = false)) <;> (try simp only [decide_eq_true_eq, decide_eq_false_iff_not] at hg) <;> simp only [Act.put, List.setIfInBounds_toArray, List.set_cons_zero, List.set_cons_succ]))); all_goals ((with_reducible refine wpQuiet_nil ?_); intro zq hz))
          all_goals
            go_wp2
            go_roundw
            case rel => exact ⟨m + 1, by omega, by go_num, by rw [HSU.out, HVV.out, Int.add_assoc], ⟨zq.1, (by repeat (first | with_reducible (first | exact blA | exact blB | refine blC _ ?_ | refine blD ?_ ?_ _ | refine blE ?_ | refine blF _ ?_ | refine blG ?_ _ | refine blH ?_ | refine blI ?_ ?_ _) | (simp only [World.size_alloc]; omega) | (simp <;> omega)))⟩, rfl⟩
            case measure => simp [intOf]; omega
        · have em : m = o.length := by omega
          have HW2 := Lib.hid (show wind (l.take (k + 1)) (p1, p2) = T + windS (sidesTo o m) (p1, p2) by rw [HWS.out, em]; rfl)
          generalize hG : windS (sidesTo o m) (p1, p2) = G at *
          clear hG em
          have HKK := Lib.hid (show Below z0.1.heap.size z0.1 z2.1 from (by repeat (first | with_reducible (first | exact blA | exact blB | refine blC _ ?_ | refine blD ?_ ?_ _ | refine blE ?_ | refine blF _ ?_ | refine blG ?_ _ | refine blH ?_ | refine blI ?_ ?_ _) | (simp only [World.size_alloc]; omega) | (simp <;> omega))))
          go_wp2
          go_roundw
          case rel => exact ⟨k + 1, by omega, by go_num, by rw [HW2.out], ⟨z2.1, HKK.out⟩, rfl⟩
          case measure => simp [intOf]; omega
    · have ek : l.take k = l := List.take_of_length_le (by omega)
      have HE := Lib.hid (show wind (l.take k) (p1, p2) = wind l (p1, p2) by rw [ek])
      clear ek
      generalize hT : wind (l.take k) (p1, p2) = T at *
      clear hT
      go_wp2
      go_ret
      exact ⟨by rw [← HE.out]; rfl, HZ0.out.trans (z.2.mono hz0s)⟩
theorem winding_is {n : Int} (v : Value) (l : List (List P2)) (p : P2) (w : World) (h : RdPols w v l) (hf : FewP l) (hok : okPs l = true) (hp : Planar.vld p = true) (hn : wind l p = n) :
    Calls Try.prog 42 #[v, .agg #[.int .i64 p.1, .int .i64 p.2]] w fun e w' => e = .returned (.int .i64 n) ∧ Below w.heap.size w w' := by subst hn; exact winding_any v l p w h hf hok hp
set_option maxHeartbeats 1000000 in
theorem inside17_any (v : Value) (l : List (List P2)) (p : P2) (w : World) (h : RdPols w v l) (hf : FewP l) (hok : okPs l = true) (hp : Planar.vld p = true) :
    Calls Try.prog 22 #[v, .agg #[.int .i64 p.1, .int .i64 p.2]] w fun e w' => e = .returned (.bool (decide (0 < wind l p))) ∧ Below w.heap.size w w' := by
  obtain ⟨n, hn⟩ : ∃ n, wind l p = n := ⟨_, rfl⟩
  rw [hn]
  have HN := Lib.hid hn
  have HP := Lib.hid hp
  clear hn hp
  obtain ⟨p1, p2⟩ := p
  simp only at HN HP ⊢
  go_enter Try.func22, Try.ntmps22
  go_wp2_with (go_at_call 42; (with_reducible refine (Kin.callK (W := w) (by repeat (first | with_reducible (first | exact blA | exact blB | refine blC _ ?_ | refine blD ?_ ?_ _ | refine blE ?_ | refine blF _ ?_ | refine blG ?_ _ | refine blH ?_ | refine blI ?_ ?_ _) | (simp only [World.size_alloc]; omega) | (simp <;> omega))) (winding_is _ l (p1, p2) _ (h.below (by repeat (first | with_reducible (first | exact blA | exact blB | refine blC _ ?_ | refine blD ?_ ?_ _ | refine blE ?_ | refine blF _ ?_ | refine blG ?_ _ | refine blH ?_ | refine blI ?_ ?_ _) | (simp only [World.size_alloc]; omega) | (simp <;> omega)))) hf hok HP.out HN.out)).mono ?_); rintro e w' ⟨z, rfl, hz, rfl⟩)
  go_ret
  exact ⟨rfl, (by repeat (first | with_reducible (first | exact blA | exact blB | refine blC _ ?_ | refine blD ?_ ?_ _ | refine blE ?_ | refine blF _ ?_ | refine blG ?_ _ | refine blH ?_ | refine blI ?_ ?_ _) | (simp only [World.size_alloc]; omega) | (simp <;> omega)))⟩
end Go.Proofs.Ytbdmibbpojmkiaa
