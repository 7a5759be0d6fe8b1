/- The edges of polygons, sorted by their lower ends. -/
import Derived.Test.YtneelidbgigehaaGreatRasSort
import Derived.Deep.RegionHeld
namespace Go.Proofs.YtneelidbgigehaaGreat
set_option linter.unusedSimpArgs false
set_option linter.unusedVariables false
set_option maxRecDepth 100000
open Go.RowKit Runs Reg Ras
attribute [local go_sem] Kin.cell Kin.frozen Kin.lt0 Kin.lt1 Kin.lt2 Kin.lt3 run_mkf
set_option maxHeartbeats 8000000 in
theorem edges_any (v : Value) (l : List (List P2)) (w : World) (h : RdPols w v l) (hf : FewP l) (hok : okPs l = true) :
    Calls Tryz.prog 24 #[v] w fun e w' => (∃ u E, e = .returned u ∧ Rd 5 encEd w' u E ∧ E.Perm (edgesR l) ∧ E.Pairwise (fun a b => a.1.1.2 ≤ b.1.1.2)) ∧ Below w.heap.size w w' := by
  have hl := hf.1
  have hpn := hf.2
  have HOK := Lib.hid hok
  clear hf hok
  obtain ⟨A, capA, rfl, hcapA, hopA⟩ := pols_open h
  have HA := Lib.hid hopA
  have HLA := Lib.hid h
  clear hopA h
  go_enter Tryz.func24, Tryz.ntmps24
  go_wp2
  go_loopw [3, 11] (fun o i wr => ∃ k : Nat, k ≤ l.length ∧ i = .int .i64 k ∧ Hid (wr.ownsRow w.heap.size 85 5 o (edgesTo l k).length ((edgesTo l k).flatMap encEd)) ∧ ∃ z : Kin w, z.1 = wr) (fun _ i _ => l.length - (intOf i).toNat)
  case atStart => exact ⟨0, Nat.zero_le _, rfl, World.ownsRow_nil _ _ _ _, ⟨w, Below.refl _ _⟩, rfl⟩
  case round =>
    obtain ⟨k, hk, rfl, HO, z, rfl⟩ := hrel
    by_cases hlt : k < l.length
    · obtain ⟨o, ho⟩ : ∃ el_, (l)[k]? = some el_ := ⟨_, List.getElem?_eq_getElem (by first | exact hlt | omega)⟩
      obtain ⟨bA, offA, rfl, hbA, hcA⟩ := HA.out (k) _ ho
      have hbA2 : bA < w.heap.size + 1 := by omega
      obtain ⟨S, capS, o_0, hcapS, hrS⟩ := hcA (k) o ho
      have HLS := Lib.hid hrS
      have HAc := Lib.hid hcA
      have Ho := Lib.hid ho
      clear ho hrS hcA
      have hol : o.length ≤ 16384 := Nat.le_trans (ptsN_mem (List.mem_of_getElem? Ho.out)) hpn
      have hz1 : w.heap.size ≤ z.1.heap.size := z.2.size
      have hEk := edgesTo_len l k
      have HS := Lib.hid (Rd.op HLS.out)
      have HLS := Lib.hid HLS.out
      go_wp2
      go_loopw [3, 18] (fun u j wr => ∃ m : Nat, m ≤ o.length ∧ j = .int .i64 m ∧ Hid (wr.ownsRow w.heap.size 85 5 u (edgesTo l k ++ edgesOf (sidesTo o m)).length ((edgesTo l k ++ edgesOf (sidesTo o m)).flatMap encEd)) ∧ Hid (Blk wr z.1.heap.size 53 #[.slice S o.length capS]) ∧ ∃ z2 : Kin w, z2.1 = wr) (fun _ j _ => o.length - (intOf j).toNat)
      case atStart => exact ⟨0, Nat.zero_le _, rfl, Lib.hid (by simpa [sidesTo, edgesOf] using HO.out.alloc _), Lib.hid (Blk.new _ _ _), ⟨World.alloc _ _, (by repeat (first | with_reducible (first | exact blA | exact blB | refine blC _ ?_ | refine blD ?_ ?_ _ | refine blE ?_ | refine blF _ ?_ | refine blG ?_ _ | refine blH ?_ | refine blI ?_ ?_ _) | (simp only [World.size_alloc]; omega) | (simp <;> omega)))⟩, rfl⟩
      case round =>
        obtain ⟨m, hm2, rfl, HO2, HP, z2, rfl⟩ := hrel
        by_cases hlt2 : m < o.length
        · obtain ⟨q, hq⟩ : ∃ el_, (o)[m]? = some el_ := ⟨_, List.getElem?_eq_getElem (by first | exact hlt2 | omega)⟩
          obtain ⟨bS, offS, rfl, hbS, hcS⟩ := HS.out (m) _ hq
          have q_0 : w.cell? ⟨bS, offS + m * 2, none⟩ = some (.int .i64 q.1) := by exact hcS (m) _ hq 0 _ rfl
          have q_1 : w.cell? ⟨bS, offS + m * 2 + 1, none⟩ = some (.int .i64 q.2) := by exact hcS (m) _ hq 1 _ rfl
          have hbS2 : bS < w.heap.size + 1 := by omega
          have HSc := Lib.hid hcS
          have Hq := Lib.hid hq
          clear hq hcS
          have hj : (m + 1) % o.length < o.length := Nat.mod_lt _ (by omega)
          obtain ⟨r, hr⟩ : ∃ el_, (o)[(m + 1) % o.length]? = some el_ := ⟨_, List.getElem?_eq_getElem (by first | exact hj | omega)⟩
          have r_0 : w.cell? ⟨bS, offS + ((m + 1) % o.length) * 2, none⟩ = some (.int .i64 r.1) := by exact HSc.out ((m + 1) % o.length) _ hr 0 _ rfl
          have r_1 : w.cell? ⟨bS, offS + ((m + 1) % o.length) * 2 + 1, none⟩ = some (.int .i64 r.2) := by exact HSc.out ((m + 1) % o.length) _ hr 1 _ rfl
          have Hr := Lib.hid hr
          clear hr
          have hq := okPs_at HOK.out Ho.out Hq.out
          have hr := okPs_at HOK.out Ho.out Hr.out
          obtain ⟨j, hjd⟩ : ∃ j, (m + 1) % o.length = j := ⟨_, rfl⟩
          have hji : ((m : Int) + 1) % (o.length : Int) = (j : Int) := by rw [← hjd]; push_cast; rfl
          have HES := Lib.hid (edgesOf_succ o m (a := q) (b := r) (by rw [Hq.out]; rfl) (by rw [Hr.out]; rfl))
          have hEm : (edgesOf (sidesTo o m)).length ≤ 16384 := Nat.le_trans (edgesOf_len _) (by rw [sidesTo_len]; omega)
          rw [hjd] at hj r_0 r_1
          clear hjd
          have p0 : z2.1.cell? ⟨z.1.heap.size, 0, none⟩ = some (.slice (some ⟨bS, offS, none⟩) o.length capS) := HP.out.cell 0
          have pl := HP.out.lt
          have s_0 : z2.1.cell? ⟨bS, offS + j * 2, none⟩ = some (.int .i64 r.1) := (z2.cell hbS).trans r_0
          have s_1 : z2.1.cell? ⟨bS, offS + j * 2 + 1, none⟩ = some (.int .i64 r.2) := (z2.cell hbS).trans r_1
          have hbz := z2.lt0 hbS
          have hn0 : ¬ (o.length : Int) = 0 := by omega
          have hn1 : ¬ o.length = 0 := by omega
          have hn2 : ¬ o = [] := by intro e; rw [e] at hn1; exact hn1 rfl
          have hw1 : IntKind.i64.wrap ((m : Int) + 1) = (m : Int) + 1 := IntWalk.i64_in _ (by omega)
          have hjt : Int.tmod ((m : Int) + 1) (o.length : Int) = (j : Int) := by rw [Int.tmod_eq_emod_of_nonneg (by omega)]; exact hji
          have hw2 : IntKind.i64.wrap (j : Int) = (j : Int) := IntWalk.i64_in _ (by omega)
          have hm1 : 0 ≤ (m : Int) + 1 := by omega
          go_wp2
          go_region_held (fun w' => w'.cell? ⟨(Kin.wd z).heap.size, 0, none⟩ = some (.slice (some ⟨bS, offS, none⟩) o.length capS) ∧ w'.cell? ⟨bS, offS + j * 2, none⟩ = some (.int .i64 r.1) ∧ w'.cell? ⟨bS, offS + j * 2 + 1, none⟩ = some (.int .i64 r.2)) (refine ⟨?_, ?_, ?_⟩ <;> first | assumption | (refine (Kin.cell (W := (Kin.wd z2)) _ ?_).trans ?_ <;> assumption) | simp [*, World.cell?_alloc_some, World.cell?_setCell_far] | ((refine (World.cell?_setCell_other (by simp)).trans ?_); first | assumption | simp [*])) (fail)
          rcases (show q.2 < r.2 ∨ (¬ q.2 < r.2 ∧ r.2 < q.2) ∨ (¬ q.2 < r.2 ∧ ¬ r.2 < q.2) by omega) with c1 | ⟨c1, c2⟩ | ⟨c1, c2⟩
          · have HE1 := Lib.hid (show edgesTo l k ++ edgesOf (sidesTo o (m + 1)) = (edgesTo l k ++ edgesOf (sidesTo o m)) ++ [((q, r), 1)] by rw [HES.out, List.append_assoc]; unfold edge?; rw [if_pos c1]; rfl)
            go_wp2_with (at_builtin; refine wpList_app _ rfl _ _ 55 rfl encEd_len (by decide) oneEd w.heap.size 85 (.agg #[.int .i64 0, .int .i64 0, .int .i64 0, .int .i64 0, .int .i64 0]) 40 infoEd rfl Tryz.underlying55 _ _ _ _ rfl (own_below HO2.out (by repeat (first | with_reducible (first | exact blA | exact blB | refine blC _ ?_ | refine blD ?_ ?_ _ | refine blE ?_ | refine blF _ ?_ | refine blG ?_ _ | refine blH ?_ | refine blI ?_ ?_ _) | (simp only [World.size_alloc]; omega) | (simp <;> omega)))) _ _ _ rfl (rd_one _ encEd_len 85 (((q, r), 1)) _ rfl) ?c1 (by decide) ?c2 ?_; (case c1 => (first | (simp only [List.length_append, List.length_cons, List.length_nil]; omega) | omega | (simp; omega))); (case c2 => exact (by repeat (first | with_reducible exact Nat.le_refl _ | assumption | with_reducible refine le_alloc ?_ _ | with_reducible refine le_drew ?_ | with_reducible refine Kin.le _ ?_ | assumption | omega | (simp only [World.size_alloc]; omega)))); intro v' w1 hown' hg hbel hat'; ((have HPn := Lib.hid (blk_app hg (by decide) (by repeat (first | with_reducible (first | exact blA | exact blB | refine blC _ ?_ | refine blD ?_ ?_ _ | refine blE ?_ | refine blF _ ?_ | refine blG ?_ _ | refine blH ?_ | refine blI ?_ ?_ _) | (simp only [World.size_alloc]; omega) | (simp <;> omega))) (own_below HO2.out (by repeat (first | with_reducible (first | exact blA | exact blB | refine blC _ ?_ | refine blD ?_ ?_ _ | refine blE ?_ | refine blF _ ?_ | refine blG ?_ _ | refine blH ?_ | refine blI ?_ ?_ _) | (simp only [World.size_alloc]; omega) | (simp <;> omega)))) HP.out)); (obtain ⟨y, rfl⟩ : ∃ y : Kin w, y.1 = w1 := ⟨⟨w1, Below.trans (by repeat (first | with_reducible (first | exact blA | exact blB | refine blC _ ?_ | refine blD ?_ ?_ _ | refine blE ?_ | refine blF _ ?_ | refine blG ?_ _ | refine blH ?_ | refine blI ?_ ?_ _) | (simp only [World.size_alloc]; omega) | (simp <;> omega))) hbel⟩, rfl⟩); clear hbel hg hat'))
            go_roundw
            case rel => exact ⟨m + 1, by omega, by go_num, Lib.hid (by rw [HE1.out]; exact hown'), HPn, y, rfl⟩
            case measure => simp [intOf]; omega
          · have HE1 := Lib.hid (show edgesTo l k ++ edgesOf (sidesTo o (m + 1)) = (edgesTo l k ++ edgesOf (sidesTo o m)) ++ [((r, q), -1)] by rw [HES.out, List.append_assoc]; unfold edge?; rw [if_neg c1, if_pos c2]; rfl)
            go_wp2_with (at_builtin; refine wpList_app _ rfl _ _ 55 rfl encEd_len (by decide) oneEd w.heap.size 85 (.agg #[.int .i64 0, .int .i64 0, .int .i64 0, .int .i64 0, .int .i64 0]) 40 infoEd rfl Tryz.underlying55 _ _ _ _ rfl (own_below HO2.out (by repeat (first | with_reducible (first | exact blA | exact blB | refine blC _ ?_ | refine blD ?_ ?_ _ | refine blE ?_ | refine blF _ ?_ | refine blG ?_ _ | refine blH ?_ | refine blI ?_ ?_ _) | (simp only [World.size_alloc]; omega) | (simp <;> omega)))) _ _ _ rfl (rd_one _ encEd_len 85 (((r, q), -1)) _ rfl) ?c1 (by decide) ?c2 ?_; (case c1 => (first | (simp only [List.length_append, List.length_cons, List.length_nil]; omega) | omega | (simp; omega))); (case c2 => exact (by repeat (first | with_reducible exact Nat.le_refl _ | assumption | with_reducible refine le_alloc ?_ _ | with_reducible refine le_drew ?_ | with_reducible refine Kin.le _ ?_ | assumption | omega | (simp only [World.size_alloc]; omega)))); intro v' w1 hown' hg hbel hat'; ((have HPn := Lib.hid (blk_app hg (by decide) (by repeat (first | with_reducible (first | exact blA | exact blB | refine blC _ ?_ | refine blD ?_ ?_ _ | refine blE ?_ | refine blF _ ?_ | refine blG ?_ _ | refine blH ?_ | refine blI ?_ ?_ _) | (simp only [World.size_alloc]; omega) | (simp <;> omega))) (own_below HO2.out (by repeat (first | with_reducible (first | exact blA | exact blB | refine blC _ ?_ | refine blD ?_ ?_ _ | refine blE ?_ | refine blF _ ?_ | refine blG ?_ _ | refine blH ?_ | refine blI ?_ ?_ _) | (simp only [World.size_alloc]; omega) | (simp <;> omega)))) HP.out)); (obtain ⟨y, rfl⟩ : ∃ y : Kin w, y.1 = w1 := ⟨⟨w1, Below.trans (by repeat (first | with_reducible (first | exact blA | exact blB | refine blC _ ?_ | refine blD ?_ ?_ _ | refine blE ?_ | refine blF _ ?_ | refine blG ?_ _ | refine blH ?_ | refine blI ?_ ?_ _) | (simp only [World.size_alloc]; omega) | (simp <;> omega))) hbel⟩, rfl⟩); clear hbel hg hat'))
            go_roundw
            case rel => exact ⟨m + 1, by omega, by go_num, Lib.hid (by rw [HE1.out]; exact hown'), HPn, y, rfl⟩
            case measure => simp [intOf]; omega
          · have HE1 := Lib.hid (show edgesTo l k ++ edgesOf (sidesTo o (m + 1)) = edgesTo l k ++ edgesOf (sidesTo o m) by rw [HES.out]; unfold edge?; rw [if_neg c1, if_neg c2]; simp)
            go_wp2
            go_roundw
            case rel => exact ⟨m + 1, by omega, by go_num, Lib.hid (by rw [HE1.out]; exact own_below HO2.out (by repeat (first | with_reducible (first | exact blA | exact blB | refine blC _ ?_ | refine blD ?_ ?_ _ | refine blE ?_ | refine blF _ ?_ | refine blG ?_ _ | refine blH ?_ | refine blI ?_ ?_ _) | (simp only [World.size_alloc]; omega) | (simp <;> omega)))), Lib.hid (HP.out.below (by repeat (first | with_reducible (first | exact blA | exact blB | refine blC _ ?_ | refine blD ?_ ?_ _ | refine blE ?_ | refine blF _ ?_ | refine blG ?_ _ | refine blH ?_ | refine blI ?_ ?_ _) | (simp only [World.size_alloc]; omega) | (simp <;> omega)))), ⟨World.drew _, (by repeat (first | with_reducible (first | exact blA | exact blB | refine blC _ ?_ | refine blD ?_ ?_ _ | refine blE ?_ | refine blF _ ?_ | refine blG ?_ _ | refine blH ?_ | refine blI ?_ ?_ _) | (simp only [World.size_alloc]; omega) | (simp <;> omega)))⟩, rfl⟩
            case measure => simp [intOf]; omega
        · have em : m = o.length := by omega
          have HE1 := Lib.hid (show edgesTo l (k + 1) = edgesTo l k ++ edgesOf (sidesTo o m) by rw [edgesTo_succ Ho.out, em]; rfl)
          clear em
          go_wp2
          go_roundw
          case rel => exact ⟨k + 1, by omega, by go_num, Lib.hid (by rw [HE1.out]; exact HO2.out), z2, rfl⟩
          case measure => simp [intOf]; omega
    · have ek : k = l.length := by omega
      have HE1 := Lib.hid (show edgesTo l k = edgesR l by rw [ek, edgesTo_all])
      have hlen := edgesTo_len l k
      clear ek
      have HO3 := Lib.hid (show z.1.ownsRow w.heap.size 85 5 _ (edgesR l).length ((edgesR l).flatMap encEd) by rw [← HE1.out]; exact HO.out)
      have hle2 : (edgesR l).length ≤ 16384 := by rw [← HE1.out]; omega
      clear HO HE1 hlen
      go_wp2_with (go_at_call 44; refine (sort_edges w.heap.size _ _ (edgesR l) (fun e he => okEd_of HOK.out he) HO3.out (by omega) (by repeat (first | with_reducible exact Nat.le_refl _ | assumption | with_reducible refine le_alloc ?_ _ | with_reducible refine le_drew ?_ | with_reducible refine Kin.le _ ?_ | assumption | omega | (simp only [World.size_alloc]; omega)))).mono ?_; rintro e w' ⟨rfl, ys, hp, hs, hown', hb⟩; (obtain ⟨y, rfl⟩ : ∃ y : Kin w, y.1 = w' := ⟨⟨w', z.2.trans hb⟩, rfl⟩))
      go_ret
      exact ⟨⟨_, ys, rfl, Rd.own encEd_len hown', hp, hs⟩, (by repeat (first | with_reducible (first | exact blA | exact blB | refine blC _ ?_ | refine blD ?_ ?_ _ | refine blE ?_ | refine blF _ ?_ | refine blG ?_ _ | refine blH ?_ | refine blI ?_ ?_ _) | (simp only [World.size_alloc]; omega) | (simp <;> omega)))⟩
end Go.Proofs.YtneelidbgigehaaGreat
