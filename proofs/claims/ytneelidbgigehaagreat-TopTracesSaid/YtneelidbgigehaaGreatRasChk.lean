/- The errors of polygons and a pitch, as the raster layer and its chapter find them. -/
import Derived.Test.YtneelidbgigehaaGreatRasWalk
namespace Go.Proofs.YtneelidbgigehaaGreat
set_option linter.unusedSimpArgs false
set_option linter.unusedVariables false
set_option maxRecDepth 100000
open Go.RowKit Runs Reg Ras
attribute [local go_sem] Kin.cell Kin.frozen Kin.lt0 Kin.lt1 Kin.lt2 Kin.lt3 run_mkf
theorem pitch_cases {p : Int} (h : okPitch p = false) : p < 32 ∨ (¬ p < 32 ∧ 1024 < p) ∨ (¬ p < 32 ∧ ¬ 1024 < p ∧ (p % 2 != 0) = true) := by
  have h2 : ¬ (32 ≤ p ∧ p ≤ 1024 ∧ p % 2 = 0) := fun h3 => absurd (okPitch_iff.2 h3) (by rw [h]; simp)
  by_cases h4 : p % 2 = 0
  · have := fun h3 h5 => h2 ⟨h3, h5, h4⟩
    omega
  · have h5 : (p % 2 != 0) = true := by simpa using h4
    by_cases k1 : p < 32
    · exact .inl k1
    · by_cases k2 : 1024 < p
      · exact .inr (.inl ⟨k1, k2⟩)
      · exact .inr (.inr ⟨k1, k2, h5⟩)
theorem tmod2_wrap (p : Int) : IntKind.i64.wrap (p.tmod 2) = p.tmod 2 := IntWalk.i64_in _ (by
  have h1 := Int.tmod_lt_of_pos p (show (0 : Int) < 2 by omega)
  have h2 := Int.lt_tmod_of_pos p (show (0 : Int) < 2 by omega)
  omega)
theorem okPt_cases {q : P2} (h : okPt q = false) : q.1 < -65536 ∨ (¬ q.1 < -65536 ∧ 65536 < q.1) ∨ (¬ q.1 < -65536 ∧ ¬ 65536 < q.1 ∧ q.2 < -65536) ∨ (¬ q.1 < -65536 ∧ ¬ 65536 < q.1 ∧ ¬ q.2 < -65536 ∧ 65536 < q.2) := by
  unfold okPt at h
  rw [decide_eq_false_iff_not] at h
  omega
set_option maxHeartbeats 4000000 in
theorem check_any (v : Value) (l : List (List P2)) (p : Int) (w : World) (h : RdPols w v l) (hf : FewP l) :
    Calls Tryz.prog 23 #[v, .int .i64 p] w fun e w' => e = .returned (.int .i64 (rasE l p)) ∧ Below w.heap.size w w' := by
  have hm := tmod2_wrap p
  cases hp : okPitch p
  · have e0 : rasE l p = 1 := by unfold rasE; rw [if_pos hp]
    rw [e0]
    clear e0
    rcases pitch_cases hp with k1 | ⟨k1, k2⟩ | ⟨k1, k2, k3⟩
    all_goals
      clear hp
      go_enter Tryz.func23, Tryz.ntmps23
      go_wp2
      go_ret
      exact ⟨rfl, (by repeat (first | with_reducible (first | exact blA | exact blB | refine blC _ ?_ | refine blD ?_ ?_ _ | refine blE ?_ | refine blF _ ?_ | refine blG ?_ _ | refine blH ?_ | refine blI ?_ ?_ _) | (simp only [World.size_alloc]; omega) | (simp <;> omega)))⟩
  · obtain ⟨k1, k2, k3⟩ : ¬ p < 32 ∧ ¬ 1024 < p ∧ (p % 2 != 0) = false := by
      have := okPitch_iff.1 hp
      exact ⟨by omega, by omega, by simpa using this.2.2⟩
    have HP := Lib.hid hp
    clear hp
    have hl := hf.1
    have hpn := hf.2
    obtain ⟨A, capA, rfl, hcapA, hopA⟩ := pols_open h
    have HA := Lib.hid hopA
    have HLA := Lib.hid h
    clear hopA h
    go_enter Tryz.func23, Tryz.ntmps23
    go_wp2
    go_loopw [5, 25] (fun o i wr => ∃ k : Nat, k ≤ l.length ∧ i = .int .i64 k ∧ o = .int .i64 (ptsN (l.take k)) ∧ ∃ z : Kin w, z.1 = wr) (fun _ i _ => l.length - (intOf i).toNat)
    case atStart => exact ⟨0, Nat.zero_le _, rfl, rfl, ⟨w, Below.refl _ _⟩, rfl⟩
    case round =>
      obtain ⟨k, hk, rfl, rfl, z, rfl⟩ := hrel
      have hpk := ptsN_take l k
      by_cases hlt : k < l.length
      · obtain ⟨o, ho⟩ : ∃ el_, (l)[k]? = some el_ := ⟨_, List.getElem?_eq_getElem (by first | exact hlt | omega)⟩
        obtain ⟨bA, offA, rfl, hbA, hcA⟩ := HA.out (k) _ ho
        have hbA2 : bA < w.heap.size + 1 := by omega
        obtain ⟨S, capS, o_0, hcapS, hrS⟩ := hcA (k) o ho
        have HLS := Lib.hid hrS
        have HAc := Lib.hid hcA
        have Ho := Lib.hid ho
        clear ho hrS hcA
        have HS := Lib.hid (ptsN_succ Ho.out)
        have hpk1 := ptsN_take l (k + 1)
        have hpk2 : ptsN (l.take k) + o.length ≤ 16384 := by rw [← HS.out]; omega
        generalize hN : ptsN (l.take k) = N at *
        go_wp2
        go_roundw
        case rel => exact ⟨k + 1, by omega, by go_num, by rw [HS.out]; go_num, ⟨World.alloc _ _, (by repeat (first | with_reducible (first | exact blA | exact blB | refine blC _ ?_ | refine blD ?_ ?_ _ | refine blE ?_ | refine blF _ ?_ | refine blG ?_ _ | refine blH ?_ | refine blI ?_ ?_ _) | (simp only [World.size_alloc]; omega) | (simp <;> omega)))⟩, rfl⟩
        case measure => simp [intOf]; omega
      · have ek : k = l.length := by omega
        have hpk3 : ptsN (l.take k) ≤ 16384 := by omega
        generalize hN : ptsN (l.take k) = N at *
        clear ek hN
        have HB := Lib.hid z.2
        go_wp2
        go_loopw [39] (fun i wr => ∃ k : Nat, k ≤ l.length ∧ i = .int .i64 k ∧ Hid (okTo l k) ∧ ∃ z : Kin w, z.1 = wr) (fun i _ => l.length - (intOf i).toNat)
        case atStart => exact ⟨0, Nat.zero_le _, rfl, Lib.hid (okTo_zero l), z, rfl⟩
        case round =>
          obtain ⟨k, hk, rfl, HT, z, rfl⟩ := hrel
          by_cases hlt : k < l.length
          · obtain ⟨o, ho⟩ : ∃ el_, (l)[k]? = some el_ := ⟨_, List.getElem?_eq_getElem (by first | exact hlt | omega)⟩
            obtain ⟨bA, offA, rfl, hbA, hcA⟩ := HA.out (k) _ ho
            have hbA2 : bA < w.heap.size + 1 := by omega
            obtain ⟨S, capS, o_0, hcapS, hrS⟩ := hcA (k) o ho
            have HLS := Lib.hid hrS
            have HAc := Lib.hid hcA
            have Ho := Lib.hid ho
            clear ho hrS hcA
            have hol : o.length ≤ 16384 := Nat.le_trans (ptsN_mem (List.mem_of_getElem? Ho.out)) hpn
            have hz1 : w.heap.size ≤ z.1.heap.size := z.2.size
            have HS := Lib.hid (Rd.op HLS.out)
            have HLS := Lib.hid HLS.out
            go_wp2
            go_loopw [46] (fun j wr => ∃ m : Nat, m ≤ o.length ∧ j = .int .i64 m ∧ Hid (∀ q ∈ o.take m, okPt q = true) ∧ ∃ z2 : Kin (z.1.alloc (.cells #[.slice S o.length capS] 53)), z2.1 = wr) (fun j _ => o.length - (intOf j).toNat)
            case atStart => exact ⟨0, Nat.zero_le _, rfl, Lib.hid (by simp), ⟨_, Below.refl _ _⟩, rfl⟩
            case round =>
              obtain ⟨m, hm2, rfl, HT2, z2, rfl⟩ := hrel
              by_cases hlt2 : m < o.length
              · obtain ⟨q, hq⟩ : ∃ el_, (o)[m]? = some el_ := ⟨_, List.getElem?_eq_getElem (by first | exact hlt2 | omega)⟩
                obtain ⟨bS, offS, rfl, hbS, hcS⟩ := HS.out (m) _ hq
                have q_0 : w.cell? ⟨bS, offS + m * 2, none⟩ = some (.int .i64 q.1) := by exact hcS (m) _ hq 0 _ rfl
                have q_1 : w.cell? ⟨bS, offS + m * 2 + 1, none⟩ = some (.int .i64 q.2) := by exact hcS (m) _ hq 1 _ rfl
                have hbS2 : bS < w.heap.size + 1 := by omega
                have HSc := Lib.hid hcS
                have Hq := Lib.hid hq
                clear hq hcS
                cases hq : okPt q
                · have e0 : rasE l p = 8 := by unfold rasE; rw [if_neg (by rw [HP.out]; simp), okPs_no Ho.out Hq.out hq]; rfl
                  have HE := Lib.hid e0
                  clear e0
                  rcases okPt_cases hq with c1 | ⟨c1, c2⟩ | ⟨c1, c2, c3⟩ | ⟨c1, c2, c3, c4⟩
                  all_goals
                    clear hq
                    go_wp2
                    go_ret
                    exact ⟨by rw [HE.out]; rfl, (by repeat (first | with_reducible (first | exact blA | exact blB | refine blC _ ?_ | refine blD ?_ ?_ _ | refine blE ?_ | refine blF _ ?_ | refine blG ?_ _ | refine blH ?_ | refine blI ?_ ?_ _) | (simp only [World.size_alloc]; omega) | (simp <;> omega)))⟩
                · have hqb := okPt_iff.1 hq
                  have HQ := Lib.hid hq
                  clear hq
                  go_wp2
                  go_roundw
                  case rel => exact ⟨m + 1, by omega, by go_num, Lib.hid (ok_take HT2.out Hq.out HQ.out), ⟨World.alloc _ _, (by repeat (first | with_reducible (first | exact blA | exact blB | refine blC _ ?_ | refine blD ?_ ?_ _ | refine blE ?_ | refine blF _ ?_ | refine blG ?_ _ | refine blH ?_ | refine blI ?_ ?_ _) | (simp only [World.size_alloc]; omega) | (simp <;> omega)))⟩, rfl⟩
                  case measure => simp [intOf]; omega
              · have em : m = o.length := by omega
                have HA2 := Lib.hid (show ∀ q ∈ o, okPt q = true from by have := HT2.out; rwa [em, List.take_length] at this)
                clear em
                have HB2 := Lib.hid (show Below w.heap.size w z2.1 from (by repeat (first | with_reducible (first | exact blA | exact blB | refine blC _ ?_ | refine blD ?_ ?_ _ | refine blE ?_ | refine blF _ ?_ | refine blG ?_ _ | refine blH ?_ | refine blI ?_ ?_ _) | (simp only [World.size_alloc]; omega) | (simp <;> omega))))
                go_wp2
                go_roundw
                case rel => exact ⟨k + 1, by omega, by go_num, Lib.hid (okTo_succ HT.out Ho.out HA2.out), ⟨z2.1, HB2.out⟩, rfl⟩
                case measure => simp [intOf]; omega
          · have ek : k = l.length := by omega
            have e0 : rasE l p = 0 := rasE_zero.2 ⟨HP.out, okTo_all HT.out (by omega)⟩
            have HE := Lib.hid e0
            clear e0 ek
            go_wp2
            go_ret
            exact ⟨by rw [HE.out]; rfl, (by repeat (first | with_reducible (first | exact blA | exact blB | refine blC _ ?_ | refine blD ?_ ?_ _ | refine blE ?_ | refine blF _ ?_ | refine blG ?_ _ | refine blH ?_ | refine blI ?_ ?_ _) | (simp only [World.size_alloc]; omega) | (simp <;> omega)))⟩
end Go.Proofs.YtneelidbgigehaaGreat
