/- A row of the cells inside polygons, as the raster layer finds it from sorted edges. -/
import Derived.Test.YtneelidbgigehaaGreatRasSort
import Derived.Test.YtneelidbgigehaaGreatRasMathB
import Derived.Test.YtneelidbgigehaaGreatRunsRef3
import Derived.Test.YtneelidbgigehaaGreatRunsNormO
namespace Go.Proofs.YtneelidbgigehaaGreat
set_option linter.unusedSimpArgs false
set_option linter.unusedVariables false
set_option maxRecDepth 100000
open Go.RowKit Runs Reg Ras
attribute [local go_sem] Kin.cell Kin.frozen Kin.lt0 Kin.lt1 Kin.lt2 Kin.lt3 run_mkf
theorem ediv_bd {a b M : Int} (hb : 0 < b) (h : -M ≤ a ∧ a ≤ M) (hM : 0 ≤ M) : -M ≤ a / b ∧ a / b ≤ M := by
  have h1 : 0 ≤ M * (b - 1) := Int.mul_nonneg hM (by omega)
  rw [Int.mul_sub] at h1
  constructor
  · apply (Int.le_ediv_iff_mul_le hb).2
    rw [Int.neg_mul]; omega
  · have : a / b < M + 1 := (Int.ediv_lt_iff_lt_mul hb).2 (by rw [Int.add_mul]; omega)
    omega
theorem bef_bd {e : Ed} {cy p : Int} (he : okEd e) (hp : 32 ≤ p ∧ p ≤ 1024) (h : e.1.1.2 ≤ cy ∧ cy < e.1.2.2) :
    (-8589934592 ≤ e.1.1.1 * (e.1.2.2 - e.1.1.2) ∧ e.1.1.1 * (e.1.2.2 - e.1.1.2) ≤ 8589934592) ∧ (-17179869184 ≤ (e.1.2.1 - e.1.1.1) * (cy - e.1.1.2) ∧ (e.1.2.1 - e.1.1.1) * (cy - e.1.1.2) ≤ 17179869184) ∧
    (-67108864 ≤ p / 2 * (e.1.2.2 - e.1.1.2) ∧ p / 2 * (e.1.2.2 - e.1.1.2) ≤ 67108864) ∧ (0 < p * (e.1.2.2 - e.1.1.2) ∧ p * (e.1.2.2 - e.1.1.2) ≤ 134217728) ∧ (-34359738368 ≤ befE e cy p ∧ befE e cy p ≤ 34359738368) := by
  unfold okEd at he
  have m1 := mul_bd (x := e.1.1.1) (y := e.1.2.2 - e.1.1.2) (M := 65536) (N := 131072) (by omega) (by omega)
  have m2 := mul_bd (x := e.1.2.1 - e.1.1.1) (y := cy - e.1.1.2) (M := 131072) (N := 131072) (by omega) (by omega)
  have m3 := mul_bd (x := p / 2) (y := e.1.2.2 - e.1.1.2) (M := 512) (N := 131072) (by omega) (by omega)
  have m4 := mul_bd (x := p) (y := e.1.2.2 - e.1.1.2) (M := 1024) (N := 131072) (by omega) (by omega)
  have m5 : 0 < p * (e.1.2.2 - e.1.1.2) := Int.mul_pos (by omega) (by omega)
  have m6 := ediv_bd (a := -(e.1.1.1 * (e.1.2.2 - e.1.1.2) + (e.1.2.1 - e.1.1.1) * (cy - e.1.1.2) - p / 2 * (e.1.2.2 - e.1.1.2))) (M := 34359738368) m5 (by omega) (by omega)
  refine ⟨by omega, by omega, by omega, ⟨m5, by omega⟩, ?_⟩
  unfold befE
  omega
set_option maxHeartbeats 1000000 in
theorem edcross_any (e : Ed) (cy p : Int) (w : World) (he : okEd e) (hp : 32 ≤ p ∧ p ≤ 1024) (h : e.1.1.2 ≤ cy ∧ cy < e.1.2.2) :
    Calls Tryz.prog 48 #[.agg #[.int .i64 e.1.1.1, .int .i64 e.1.1.2, .int .i64 e.1.2.1, .int .i64 e.1.2.2, .int .i64 e.2], .int .i64 cy, .int .i64 p] w fun r w' => r = .returned (.agg #[.int .i64 (befE e cy p), .int .i64 e.2]) ∧ Below w.heap.size w w' := by
  obtain ⟨b1, b2, b3, b4, b5⟩ := bef_bd he hp h
  unfold okEd at he
  unfold befE at b5 ⊢
  obtain ⟨⟨⟨lx, ly⟩, ⟨hx, hy⟩⟩, s⟩ := e
  simp only at *
  have h2 := half_go (p := p) (by omega)
  have e1 : IntKind.i64.wrap (lx * (hy - ly)) = lx * (hy - ly) := IntWalk.i64_in _ (by omega)
  have e2 : IntKind.i64.wrap ((hx - lx) * (cy - ly)) = (hx - lx) * (cy - ly) := IntWalk.i64_in _ (by omega)
  have e3 : IntKind.i64.wrap (lx * (hy - ly) + (hx - lx) * (cy - ly)) = lx * (hy - ly) + (hx - lx) * (cy - ly) := IntWalk.i64_in _ (by omega)
  have e4 : IntKind.i64.wrap (p / 2 * (hy - ly)) = p / 2 * (hy - ly) := IntWalk.i64_in _ (by omega)
  have e5 : IntKind.i64.wrap (lx * (hy - ly) + (hx - lx) * (cy - ly) - p / 2 * (hy - ly)) = lx * (hy - ly) + (hx - lx) * (cy - ly) - p / 2 * (hy - ly) := IntWalk.i64_in _ (by omega)
  have e6 : IntKind.i64.wrap (-(lx * (hy - ly) + (hx - lx) * (cy - ly) - p / 2 * (hy - ly))) = -(lx * (hy - ly) + (hx - lx) * (cy - ly) - p / 2 * (hy - ly)) := IntWalk.i64_in _ (by omega)
  have e7 : IntKind.i64.wrap (p * (hy - ly)) = p * (hy - ly) := IntWalk.i64_in _ (by omega)
  have e8 : IntKind.i64.wrap (-((-(lx * (hy - ly) + (hx - lx) * (cy - ly) - p / 2 * (hy - ly))) / (p * (hy - ly)))) = -((-(lx * (hy - ly) + (hx - lx) * (cy - ly) - p / 2 * (hy - ly))) / (p * (hy - ly))) := IntWalk.i64_in _ (by omega)
  go_enter Tryz.func48, Tryz.ntmps48
  go_wp2_with (go_at_call 46; (with_reducible refine (Kin.callK (W := (w.alloc (.cells #[.int .i64 lx, .int .i64 ly, .int .i64 hx, .int .i64 hy, .int .i64 s] 85)).alloc (.cells #[.int .i64 0, .int .i64 0] 93)) (by repeat (first | with_reducible (first | exact blA | exact blB | refine blC _ ?_ | refine blD ?_ ?_ _ | refine blE ?_ | refine blF _ ?_ | refine blG ?_ _ | refine blH ?_ | refine blI ?_ ?_ _) | (simp only [World.size_alloc]; omega) | (simp <;> omega))) (floor_any _ _ _ (by omega) (by omega))).mono ?_); rintro e w' ⟨z, rfl, hz, rfl⟩; skip)
  have hB := Lib.hid z.boxes2.2
  ((try simp only [Exit.inBlock, Exit.then]); refine bodyPost_ret (results_cell_row rfl _ _ _ _ _ (0, 0) _ rfl ((hB.out.set_ 0 _).set_ 1 _) Tryz.underlying93 rfl (by kernel_rfl)) rfl ?_)
  exact ⟨rfl, (by repeat (first | with_reducible (first | exact blA | exact blB | refine blC _ ?_ | refine blD ?_ ?_ _ | refine blE ?_ | refine blF _ ?_ | refine blG ?_ _ | refine blH ?_ | refine blI ?_ ?_ _) | (simp only [World.size_alloc]; omega) | (simp <;> omega)))⟩
theorem rowTo_bd {S : List (Int × Int)} (h : ∀ s ∈ S, s.2 = 1 ∨ s.2 = -1) : ∀ k : Nat, (-(k : Int) ≤ (rowTo S k).2.1 ∧ (rowTo S k).2.1 ≤ k) ∧ (rowTo S k).1.length ≤ k ∧ -4096 ≤ (rowTo S k).2.2 ∧ (rowTo S k).2.2 ≤ 4096
  | 0 => by simp [rowTo]
  | k + 1 => by
    obtain ⟨h1, h2, h3⟩ := rowTo_bd h k
    cases hs : S[k]? with
    | none =>
      have e : rowTo S (k + 1) = rowTo S k := by unfold rowTo; rw [List.take_add_one, hs]; simp
      rw [e]
      exact ⟨by omega, by omega, h3⟩
    | some t =>
      have ht := h t (List.mem_of_getElem? hs)
      rw [rowTo_succ hs]
      unfold rstp
      refine ⟨by simp only; omega, ?_, by unfold clampC; simp only; omega⟩
      simp only
      split
      · rw [List.length_append, List.length_singleton]; omega
      · omega
theorem steps_ok {E : List Ed} {cy p : Int} (h : ∀ e ∈ E, okEd e) (hp : 32 ≤ p ∧ p ≤ 1024) : ∀ s ∈ stepsR E cy p, okSt s ∧ (s.2 = 1 ∨ s.2 = -1) := by
  intro s hs
  unfold stepsR at hs
  obtain ⟨e, he, rfl⟩ := List.mem_map.1 hs
  obtain ⟨he, ha⟩ := List.mem_filter.1 he
  unfold act at ha
  simp only [Bool.and_eq_true, decide_eq_true_eq] at ha
  have := (bef_bd (h e he) hp ha).2.2.2.2
  have h2 := h e he
  unfold okEd at h2
  exact ⟨by unfold okSt; simp only; omega, h2.2.2.2⟩
theorem rawRow_norm {S : List (Int × Int)} (hs : S.Pairwise (fun a b => b.1 ≤ a.1)) : normR (rawRow S) = normal (rawRow S) := by
  have h : normOk (rawRow S) = true := by
    unfold normOk
    rw [List.all_eq_true]
    intro r hr
    have := (rawRow_spec hs).1 r (List.mem_filter.1 hr).1
    unfold fits
    rw [decide_eq_true_eq]; omega
  unfold normR
  rw [if_pos h, norm_normal]
theorem rawRow_len {S : List (Int × Int)} (hs : S.Pairwise (fun a b => b.1 ≤ a.1)) : (rawRow S).length ≤ S.length + 1 := (rawRow_spec hs).2.1
set_option maxHeartbeats 8000000 in
theorem rasrow_any (v : Value) (l : List (List P2)) (E : List Ed) (p y : Int) (w : World) (h : Rd 5 encEd w v E) (hE : E.Perm (edgesR l)) (hs : E.Pairwise (fun a b => a.1.1.2 ≤ b.1.1.2)) (hok : ∀ e ∈ E, okEd e) (hlen : E.length ≤ 16384) (hp : 32 ≤ p ∧ p ≤ 1024) (hy : -4096 ≤ y ∧ y < 4096) :
    Calls Tryz.prog 26 #[v, .int .i64 p, .int .i64 y] w fun e w' => (∃ u B, e = .returned u ∧ w.heap.size ≤ B ∧ w'.ownsRow B 69 2 u (rowP l p y).length ((rowP l p y).flatMap encRun)) ∧ Below w.heap.size w w' := by
  have HE := Lib.hid hE
  have HSO := Lib.hid hs
  have HOK := Lib.hid hok
  clear hE hs hok
  obtain ⟨A, capA, rfl, hcapA, hopA⟩ := h.open_
  have HA := Lib.hid hopA
  have HLA := Lib.hid h
  clear hopA h
  go_enter Tryz.func26, Tryz.ntmps26
  go_wp2_with (go_at_call 47; (with_reducible refine (Kin.callK (W := w) (by repeat (first | with_reducible (first | exact blA | exact blB | refine blC _ ?_ | refine blD ?_ ?_ _ | refine blE ?_ | refine blF _ ?_ | refine blG ?_ _ | refine blH ?_ | refine blI ?_ ?_ _) | (simp only [World.size_alloc]; omega) | (simp <;> omega))) (rcenter_any y p _ hy hp)).mono ?_); rintro e w' ⟨z, rfl, hz, rfl⟩)
  have HFIN := Lib.hid (fun (S : List (Int × Int)) (hS : S.Perm (stepsR E (ctr y p) p)) (hs : S.Pairwise (fun a b => b.1 ≤ a.1)) => (rawRow_norm hs).trans (row_is (by omega) HE.out hS hs))
  have HST := Lib.hid (fun s (hs : s ∈ stepsR E (ctr y p) p) => steps_ok HOK.out hp s hs)
  have hsl := stepsR_len E (ctr y p) p
  generalize hC : ctr y p = cy at *
  clear hC hz
  go_loopw [8, 22] (fun o i wr => ∃ k : Nat, k ≤ E.length ∧ i = .int .i64 k ∧ Hid (wr.ownsRow w.heap.size 93 2 o (stepsTo E cy p k).length ((stepsTo E cy p k).flatMap encPt)) ∧ ∃ z : Kin w, z.1 = wr) (fun _ i _ => E.length - (intOf i).toNat)
  case atStart => exact ⟨0, Nat.zero_le _, rfl, World.ownsRow_nil _ _ _ _, z, rfl⟩
  case round =>
    clear z
    obtain ⟨k, hk, rfl, HO, z, rfl⟩ := hrel
    by_cases hlt : k < E.length
    · obtain ⟨e, he⟩ : ∃ el_, (E)[k]? = some el_ := ⟨_, List.getElem?_eq_getElem (by first | exact hlt | omega)⟩
      obtain ⟨bA, offA, rfl, hbA, hcA⟩ := HA.out (k) _ he
      have e_0 : w.cell? ⟨bA, offA + k * 5, none⟩ = some (.int .i64 e.1.1.1) := by exact hcA (k) _ he 0 _ rfl
      have e_1 : w.cell? ⟨bA, offA + k * 5 + 1, none⟩ = some (.int .i64 e.1.1.2) := by exact hcA (k) _ he 1 _ rfl
      have e_2 : w.cell? ⟨bA, offA + k * 5 + 2, none⟩ = some (.int .i64 e.1.2.1) := by exact hcA (k) _ he 2 _ rfl
      have e_3 : w.cell? ⟨bA, offA + k * 5 + 3, none⟩ = some (.int .i64 e.1.2.2) := by exact hcA (k) _ he 3 _ rfl
      have e_4 : w.cell? ⟨bA, offA + k * 5 + 4, none⟩ = some (.int .i64 e.2) := by exact hcA (k) _ he 4 _ rfl
      have hbA2 : bA < w.heap.size + 1 := by omega
      have HAc := Lib.hid hcA
      have He := Lib.hid he
      clear he hcA
      have hstl := stepsTo_len E cy p k
      rcases (show cy < e.1.1.2 ∨ (¬ cy < e.1.1.2 ∧ cy < e.1.2.2) ∨ (¬ cy < e.1.1.2 ∧ ¬ cy < e.1.2.2) by omega) with c1 | ⟨c1, c2⟩ | ⟨c1, c2⟩
      · have HO3 := Lib.hid (show (z.1.alloc (.cells #[.int .i64 e.1.1.1, .int .i64 e.1.1.2, .int .i64 e.1.2.1, .int .i64 e.1.2.2, .int .i64 e.2] 85)).ownsRow w.heap.size 93 2 _ (stepsR E cy p).length ((stepsR E cy p).flatMap encPt) by rw [← stepsTo_break HSO.out He.out c1]; exact HO.out.alloc _)
        clear HO
        go_wp2_with (go_at_call 49; refine (sort_steps w.heap.size _ _ (stepsR E cy p) (fun s hs => (HST.out s hs).1) HO3.out (by omega) (by repeat (first | with_reducible exact Nat.le_refl _ | assumption | with_reducible refine le_alloc ?_ _ | with_reducible refine le_drew ?_ | with_reducible refine Kin.le _ ?_ | assumption | omega | (simp only [World.size_alloc]; omega)))).mono ?_; rintro e w' ⟨rfl, ys, hp', hs', hown', hb⟩; (obtain ⟨y1, rfl⟩ : ∃ y1 : Kin w, y1.1 = w' := ⟨⟨w', Below.trans (by repeat (first | with_reducible (first | exact blA | exact blB | refine blC _ ?_ | refine blD ?_ ?_ _ | refine blE ?_ | refine blF _ ?_ | refine blG ?_ _ | refine blH ?_ | refine blI ?_ ?_ _) | (simp only [World.size_alloc]; omega) | (simp <;> omega))) hb⟩, rfl⟩); have hrB := Rd.own encPt_len hown'; (obtain ⟨B, capB, rfl, hcapB, hopB⟩ := hrB.open_); have HB := Lib.hid hopB; have HPE := Lib.hid hp'; have HSR := Lib.hid hs'; clear hown' hp' hs' hb hopB hrB)
        have HYB := Lib.hid (fun s (hs : s ∈ ys) => (HST.out s (HPE.out.mem_iff.1 hs)).2)
        have hyl : ys.length ≤ 16384 := by rw [HPE.out.length_eq]; omega
        have HFY := Lib.hid (HFIN.out ys HPE.out HSR.out)
        have hyb : w.heap.size ≤ y1.1.heap.size := y1.2.size
        have HY1 := Lib.hid y1.2
        go_loopw [11, 12, 13, 48] (fun o u r i wr => ∃ k : Nat, k ≤ ys.length ∧ i = .int .i64 k ∧ u = .int .i64 (rowTo ys k).2.1 ∧ r = .int .i64 (rowTo ys k).2.2 ∧ Hid (wr.ownsRow y1.1.heap.size 69 2 o (rowTo ys k).1.length ((rowTo ys k).1.flatMap encRun)) ∧ ∃ z : Kin y1.1, z.1 = wr) (fun _ _ _ i _ => ys.length - (intOf i).toNat)
        case atStart => exact ⟨0, Nat.zero_le _, rfl, rfl, rfl, World.ownsRow_nil _ _ _ _, ⟨y1.1, Below.refl _ _⟩, rfl⟩
        case round =>
          obtain ⟨m, hm, rfl, rfl, rfl, HO4, z3, rfl⟩ := hrel
          obtain ⟨hb1, hb2, hb3⟩ := rowTo_bd HYB.out m
          by_cases hlt3 : m < ys.length
          · obtain ⟨s, hs⟩ : ∃ el_, (ys)[m]? = some el_ := ⟨_, List.getElem?_eq_getElem (by first | exact hlt3 | omega)⟩
            obtain ⟨bB, offB, rfl, hbB, hcB⟩ := HB.out (m) _ hs
            have s_0 : y1.1.cell? ⟨bB, offB + m * 2, none⟩ = some (.int .i64 s.1) := by exact hcB (m) _ hs 0 _ rfl
            have s_1 : y1.1.cell? ⟨bB, offB + m * 2 + 1, none⟩ = some (.int .i64 s.2) := by exact hcB (m) _ hs 1 _ rfl
            have hbB2 : bB < y1.1.heap.size + 1 := by omega
            have HBc := Lib.hid hcB
            have Hs := Lib.hid hs
            clear hs hcB
            have hs2 := HYB.out s (List.mem_of_getElem? Hs.out)
            have HR := Lib.hid (rowTo_succ Hs.out)
            have hcl : -4096 ≤ clampC s.1 ∧ clampC s.1 ≤ 4096 := by unfold clampC; omega
            have hcd : max (-4096) (min s.1 4096) = clampC s.1 := rfl
            generalize clampC s.1 = L at hcl hcd
            obtain ⟨⟨T1, T2, T3⟩, hT⟩ : ∃ T, T = rowTo ys m := ⟨_, rfl⟩
            rw [← hT] at HO4 HR hb1 hb2 hb3 ⊢
            clear hT
            simp only at hb1 hb2 hb3
            by_cases c3 : 0 < T2
            · by_cases c4 : L < T3
              · have HR2 := Lib.hid (show rowTo ys (m + 1) = (T1 ++ [(L, T3)], T2 + s.2, L) by rw [HR.out]; unfold rstp; simp only [clampC, hcd]; rw [if_pos ⟨c3, c4⟩])
                go_wp2_with (at_builtin; refine wpList_app _ rfl _ _ 42 rfl encRun_len (by decide) oneR y1.1.heap.size 69 (.agg #[.int .i64 0, .int .i64 0]) 16 infoRun rfl Tryz.underlying42 _ _ _ _ rfl (own_below HO4.out (by repeat (first | with_reducible (first | exact blA | exact blB | refine blC _ ?_ | refine blD ?_ ?_ _ | refine blE ?_ | refine blF _ ?_ | refine blG ?_ _ | refine blH ?_ | refine blI ?_ ?_ _) | (simp only [World.size_alloc]; omega) | (simp <;> omega)))) _ _ _ rfl (rd_one _ encRun_len 69 (L, T3) _ rfl) ?c1 (by decide) ?c2 ?_; (case c1 => (first | (simp only [List.length_append, List.length_cons, List.length_nil]; omega) | omega | (simp; omega))); (case c2 => exact (by repeat (first | with_reducible exact Nat.le_refl _ | assumption | with_reducible refine le_alloc ?_ _ | with_reducible refine le_drew ?_ | with_reducible refine Kin.le _ ?_ | assumption | omega | (simp only [World.size_alloc]; omega)))); intro v' w1 hown' hg hbel hat'; ((have HPn := Lib.hid (blk_app hg (by decide) (by repeat (first | with_reducible (first | exact blA | exact blB | refine blC _ ?_ | refine blD ?_ ?_ _ | refine blE ?_ | refine blF _ ?_ | refine blG ?_ _ | refine blH ?_ | refine blI ?_ ?_ _) | (simp only [World.size_alloc]; omega) | (simp <;> omega))) (own_below HO4.out (by repeat (first | with_reducible (first | exact blA | exact blB | refine blC _ ?_ | refine blD ?_ ?_ _ | refine blE ?_ | refine blF _ ?_ | refine blG ?_ _ | refine blH ?_ | refine blI ?_ ?_ _) | (simp only [World.size_alloc]; omega) | (simp <;> omega)))) (Blk.new z3.1 93 #[.int .i64 s.1, .int .i64 s.2]))); (obtain ⟨y, rfl⟩ : ∃ y : Kin y1.1, y.1 = w1 := ⟨⟨w1, Below.trans (by repeat (first | with_reducible (first | exact blA | exact blB | refine blC _ ?_ | refine blD ?_ ?_ _ | refine blE ?_ | refine blF _ ?_ | refine blG ?_ _ | refine blH ?_ | refine blI ?_ ?_ _) | (simp only [World.size_alloc]; omega) | (simp <;> omega))) hbel⟩, rfl⟩); have sb1 : y.1.cell? ⟨z3.1.heap.size, 1, none⟩ = some (.int .i64 s.2) := HPn.out.cell 1; have sbl := HPn.out.lt; clear hbel hg hat'))
                go_roundw
                case rel => exact ⟨m + 1, by omega, by go_num, by rw [HR2.out]; try go_num, by rw [HR2.out], Lib.hid (by rw [HR2.out]; exact hown'), y, rfl⟩
                case measure => simp [intOf]; omega
              · have HR2 := Lib.hid (show rowTo ys (m + 1) = (T1, T2 + s.2, L) by rw [HR.out]; unfold rstp; simp only [clampC, hcd]; rw [if_neg (fun h => c4 h.2)])
                go_wp2
                go_roundw
                case rel => exact ⟨m + 1, by omega, by go_num, by rw [HR2.out]; try go_num, by rw [HR2.out], Lib.hid (by rw [HR2.out]; exact HO4.out.alloc _), ⟨World.alloc _ _, (by repeat (first | with_reducible (first | exact blA | exact blB | refine blC _ ?_ | refine blD ?_ ?_ _ | refine blE ?_ | refine blF _ ?_ | refine blG ?_ _ | refine blH ?_ | refine blI ?_ ?_ _) | (simp only [World.size_alloc]; omega) | (simp <;> omega)))⟩, rfl⟩
                case measure => simp [intOf]; omega
            · have HR2 := Lib.hid (show rowTo ys (m + 1) = (T1, T2 + s.2, L) by rw [HR.out]; unfold rstp; simp only [clampC, hcd]; rw [if_neg (fun h => c3 h.1)])
              go_wp2
              go_roundw
              case rel => exact ⟨m + 1, by omega, by go_num, by rw [HR2.out]; try go_num, by rw [HR2.out], Lib.hid (by rw [HR2.out]; exact HO4.out.alloc _), ⟨World.alloc _ _, (by repeat (first | with_reducible (first | exact blA | exact blB | refine blC _ ?_ | refine blD ?_ ?_ _ | refine blE ?_ | refine blF _ ?_ | refine blG ?_ _ | refine blH ?_ | refine blI ?_ ?_ _) | (simp only [World.size_alloc]; omega) | (simp <;> omega)))⟩, rfl⟩
              case measure => simp [intOf]; omega
          · have em : m = ys.length := by omega
            have HRW := Lib.hid (show rawRow ys = rowEnd (rowTo ys m) by rw [em]; rfl)
            have hrl := rawRow_len HSR.out
            obtain ⟨⟨T1, T2, T3⟩, hT⟩ : ∃ T, T = rowTo ys m := ⟨_, rfl⟩
            rw [← hT] at HO4 HRW hb1 hb2 hb3 ⊢
            clear hT em
            simp only at hb1 hb2 hb3
            by_cases c3 : 0 < T2 ∧ -4096 < T3
            · have HR2 := Lib.hid (show rawRow ys = T1 ++ [(-4096, T3)] by rw [HRW.out]; unfold rowEnd; rw [if_pos c3])
              obtain ⟨c4, c5⟩ := c3
              go_wp2_with (first
                | (at_builtin; refine wpList_app _ rfl _ _ 42 rfl encRun_len (by decide) oneR y1.1.heap.size 69 (.agg #[.int .i64 0, .int .i64 0]) 16 infoRun rfl Tryz.underlying42 _ _ _ _ rfl (own_below HO4.out (by repeat (first | with_reducible (first | exact blA | exact blB | refine blC _ ?_ | refine blD ?_ ?_ _ | refine blE ?_ | refine blF _ ?_ | refine blG ?_ _ | refine blH ?_ | refine blI ?_ ?_ _) | (simp only [World.size_alloc]; omega) | (simp <;> omega)))) _ _ _ rfl (rd_one _ encRun_len 69 (-4096, T3) _ rfl) ?c1 (by decide) ?c2 ?_; (case c1 => (first | (simp only [List.length_append, List.length_cons, List.length_nil]; omega) | omega | (simp; omega))); (case c2 => exact (by repeat (first | with_reducible exact Nat.le_refl _ | assumption | with_reducible refine le_alloc ?_ _ | with_reducible refine le_drew ?_ | with_reducible refine Kin.le _ ?_ | assumption | omega | (simp only [World.size_alloc]; omega)))); intro v' w1 hown' hg hbel hat'; (obtain ⟨y, rfl⟩ : ∃ y : Kin y1.1, y.1 = w1 := ⟨⟨w1, Below.trans (by repeat (first | with_reducible (first | exact blA | exact blB | refine blC _ ?_ | refine blD ?_ ?_ _ | refine blE ?_ | refine blF _ ?_ | refine blG ?_ _ | refine blH ?_ | refine blI ?_ ?_ _) | (simp only [World.size_alloc]; omega) | (simp <;> omega))) hbel⟩, rfl⟩); clear hbel hg hat'; (have HRD := Lib.hid (show Rd 2 encRun y.1 _ (rawRow ys) from by rw [HR2.out]; exact Rd.own encRun_len hown'); clear hown'))
                | (go_at_call 51; (with_reducible refine (Kin.callK (W := (Kin.wd y1)) (by repeat (first | with_reducible (first | exact blA | exact blB | refine blC _ ?_ | refine blD ?_ ?_ _ | refine blE ?_ | refine blF _ ?_ | refine blG ?_ _ | refine blH ?_ | refine blI ?_ ?_ _) | (simp only [World.size_alloc]; omega) | (simp <;> omega))) (norm_own _ (rawRow ys) _ (HRD.out.below (by repeat (first | with_reducible (first | exact blA | exact blB | refine blC _ ?_ | refine blD ?_ ?_ _ | refine blE ?_ | refine blF _ ?_ | refine blG ?_ _ | refine blH ?_ | refine blI ?_ ?_ _) | (simp only [World.size_alloc]; omega) | (simp <;> omega)))) (by omega))).mono ?_); rintro e w' ⟨zn, ⟨un, Bn, rfl, hBn, hn⟩, hzn, rfl⟩; skip))
              go_ret
              exact ⟨⟨un, Bn, rfl, Nat.le_trans hyb (Nat.le_trans y.2.size hBn), by rw [← HFY.out]; exact hn⟩, HY1.out.trans (zn.2.mono hyb)⟩
            · have HR2 := Lib.hid (show rawRow ys = T1 by rw [HRW.out]; unfold rowEnd; rw [if_neg c3])
              have HRD := Lib.hid (show Rd 2 encRun z3.1 _ (rawRow ys) from by rw [HR2.out]; exact Rd.own encRun_len HO4.out)
              rcases (show ¬ 0 < T2 ∨ (0 < T2 ∧ ¬ -4096 < T3) by omega) with c4 | ⟨c4, c5⟩
              all_goals
                clear c3
                go_wp2_with (go_at_call 51; (with_reducible refine (Kin.callK (W := (Kin.wd y1)) (by repeat (first | with_reducible (first | exact blA | exact blB | refine blC _ ?_ | refine blD ?_ ?_ _ | refine blE ?_ | refine blF _ ?_ | refine blG ?_ _ | refine blH ?_ | refine blI ?_ ?_ _) | (simp only [World.size_alloc]; omega) | (simp <;> omega))) (norm_own _ (rawRow ys) _ (HRD.out.below (by repeat (first | with_reducible (first | exact blA | exact blB | refine blC _ ?_ | refine blD ?_ ?_ _ | refine blE ?_ | refine blF _ ?_ | refine blG ?_ _ | refine blH ?_ | refine blI ?_ ?_ _) | (simp only [World.size_alloc]; omega) | (simp <;> omega)))) (by omega))).mono ?_); rintro e w' ⟨zn, ⟨un, Bn, rfl, hBn, hn⟩, hzn, rfl⟩; skip)
                go_ret
                exact ⟨⟨un, Bn, rfl, Nat.le_trans hyb (Nat.le_trans z3.2.size hBn), by rw [← HFY.out]; exact hn⟩, HY1.out.trans (zn.2.mono hyb)⟩
      · have hcc := HOK.out e (List.mem_of_getElem? He.out)
        have HOE := Lib.hid hcc
        have HS1 := Lib.hid (stepsTo_yes He.out (by omega) c2 (pitch := p))
        clear hcc
        go_wp2_with (first
          | (go_at_call 48; (with_reducible refine (Kin.callK (W := w) (by repeat (first | with_reducible (first | exact blA | exact blB | refine blC _ ?_ | refine blD ?_ ?_ _ | refine blE ?_ | refine blF _ ?_ | refine blG ?_ _ | refine blH ?_ | refine blI ?_ ?_ _) | (simp only [World.size_alloc]; omega) | (simp <;> omega))) (edcross_any e cy p _ HOE.out hp (by omega))).mono ?_); rintro e w' ⟨zc, rfl, hzc, rfl⟩; skip)
          | (at_builtin; refine wpList_app _ rfl _ _ 91 rfl encPt_len (by decide) oneP w.heap.size 93 (.agg #[.int .i64 0, .int .i64 0]) 16 infoStep rfl Tryz.underlying91 _ _ _ _ rfl ((own_below (own_below HO.out (by repeat (first | with_reducible (first | exact blA | exact blB | refine blC _ ?_ | refine blD ?_ ?_ _ | refine blE ?_ | refine blF _ ?_ | refine blG ?_ _ | refine blH ?_ | refine blI ?_ ?_ _) | (simp only [World.size_alloc]; omega) | (simp <;> omega)))) hzc).alloc _) _ _ _ rfl (rd_one _ encPt_len 93 (befE e cy p, e.2) _ rfl) ?c1 (by decide) ?c2 ?_; (case c1 => (first | (simp only [List.length_append, List.length_cons, List.length_nil]; omega) | omega | (simp; omega))); (case c2 => exact (by repeat (first | with_reducible exact Nat.le_refl _ | assumption | with_reducible refine le_alloc ?_ _ | with_reducible refine le_drew ?_ | with_reducible refine Kin.le _ ?_ | assumption | omega | (simp only [World.size_alloc]; omega)))); intro v' w1 hown' hg hbel hat'; (obtain ⟨y, rfl⟩ : ∃ y : Kin w, y.1 = w1 := ⟨⟨w1, Below.trans (by repeat (first | with_reducible (first | exact blA | exact blB | refine blC _ ?_ | refine blD ?_ ?_ _ | refine blE ?_ | refine blF _ ?_ | refine blG ?_ _ | refine blH ?_ | refine blI ?_ ?_ _) | (simp only [World.size_alloc]; omega) | (simp <;> omega))) hbel⟩, rfl⟩); clear hbel hg hat'))
        go_roundw
        case rel => exact ⟨k + 1, by omega, by go_num, Lib.hid (by rw [HS1.out]; exact hown'), y, rfl⟩
        case measure => simp [intOf]; omega
      · have HS1 := Lib.hid (stepsTo_no He.out (by omega) (pitch := p) (cy := cy))
        go_wp2
        go_roundw
        case rel => exact ⟨k + 1, by omega, by go_num, Lib.hid (by rw [HS1.out]; exact HO.out.alloc _), ⟨World.alloc _ _, (by repeat (first | with_reducible (first | exact blA | exact blB | refine blC _ ?_ | refine blD ?_ ?_ _ | refine blE ?_ | refine blF _ ?_ | refine blG ?_ _ | refine blH ?_ | refine blI ?_ ?_ _) | (simp only [World.size_alloc]; omega) | (simp <;> omega)))⟩, rfl⟩
        case measure => simp [intOf]; omega
    · have HO3 := Lib.hid (show z.1.ownsRow w.heap.size 93 2 _ (stepsR E cy p).length ((stepsR E cy p).flatMap encPt) by rw [← stepsTo_all, show E.length = k by omega]; exact HO.out)
      clear HO
      go_wp2_with (go_at_call 49; refine (sort_steps w.heap.size _ _ (stepsR E cy p) (fun s hs => (HST.out s hs).1) HO3.out (by omega) (by repeat (first | with_reducible exact Nat.le_refl _ | assumption | with_reducible refine le_alloc ?_ _ | with_reducible refine le_drew ?_ | with_reducible refine Kin.le _ ?_ | assumption | omega | (simp only [World.size_alloc]; omega)))).mono ?_; rintro e w' ⟨rfl, ys, hp', hs', hown', hb⟩; (obtain ⟨y1, rfl⟩ : ∃ y1 : Kin w, y1.1 = w' := ⟨⟨w', Below.trans (by repeat (first | with_reducible (first | exact blA | exact blB | refine blC _ ?_ | refine blD ?_ ?_ _ | refine blE ?_ | refine blF _ ?_ | refine blG ?_ _ | refine blH ?_ | refine blI ?_ ?_ _) | (simp only [World.size_alloc]; omega) | (simp <;> omega))) hb⟩, rfl⟩); have hrB := Rd.own encPt_len hown'; (obtain ⟨B, capB, rfl, hcapB, hopB⟩ := hrB.open_); have HB := Lib.hid hopB; have HPE := Lib.hid hp'; have HSR := Lib.hid hs'; clear hown' hp' hs' hb hopB hrB)
      have HYB := Lib.hid (fun s (hs : s ∈ ys) => (HST.out s (HPE.out.mem_iff.1 hs)).2)
      have hyl : ys.length ≤ 16384 := by rw [HPE.out.length_eq]; omega
      have HFY := Lib.hid (HFIN.out ys HPE.out HSR.out)
      have hyb : w.heap.size ≤ y1.1.heap.size := y1.2.size
      have HY1 := Lib.hid y1.2
      go_loopw [11, 12, 13, 48] (fun o u r i wr => ∃ k : Nat, k ≤ ys.length ∧ i = .int .i64 k ∧ u = .int .i64 (rowTo ys k).2.1 ∧ r = .int .i64 (rowTo ys k).2.2 ∧ Hid (wr.ownsRow y1.1.heap.size 69 2 o (rowTo ys k).1.length ((rowTo ys k).1.flatMap encRun)) ∧ ∃ z : Kin y1.1, z.1 = wr) (fun _ _ _ i _ => ys.length - (intOf i).toNat)
      case atStart => exact ⟨0, Nat.zero_le _, rfl, rfl, rfl, World.ownsRow_nil _ _ _ _, ⟨y1.1, Below.refl _ _⟩, rfl⟩
      case round =>
        obtain ⟨m, hm, rfl, rfl, rfl, HO4, z3, rfl⟩ := hrel
        obtain ⟨hb1, hb2, hb3⟩ := rowTo_bd HYB.out m
        by_cases hlt3 : m < ys.length
        · obtain ⟨s, hs⟩ : ∃ el_, (ys)[m]? = some el_ := ⟨_, List.getElem?_eq_getElem (by first | exact hlt3 | omega)⟩
          obtain ⟨bB, offB, rfl, hbB, hcB⟩ := HB.out (m) _ hs
          have s_0 : y1.1.cell? ⟨bB, offB + m * 2, none⟩ = some (.int .i64 s.1) := by exact hcB (m) _ hs 0 _ rfl
          have s_1 : y1.1.cell? ⟨bB, offB + m * 2 + 1, none⟩ = some (.int .i64 s.2) := by exact hcB (m) _ hs 1 _ rfl
          have hbB2 : bB < y1.1.heap.size + 1 := by omega
          have HBc := Lib.hid hcB
          have Hs := Lib.hid hs
          clear hs hcB
          have hs2 := HYB.out s (List.mem_of_getElem? Hs.out)
          have HR := Lib.hid (rowTo_succ Hs.out)
          have hcl : -4096 ≤ clampC s.1 ∧ clampC s.1 ≤ 4096 := by unfold clampC; omega
          have hcd : max (-4096) (min s.1 4096) = clampC s.1 := rfl
          generalize clampC s.1 = L at hcl hcd
          obtain ⟨⟨T1, T2, T3⟩, hT⟩ : ∃ T, T = rowTo ys m := ⟨_, rfl⟩
          rw [← hT] at HO4 HR hb1 hb2 hb3 ⊢
          clear hT
          simp only at hb1 hb2 hb3
          by_cases c3 : 0 < T2
          · by_cases c4 : L < T3
            · have HR2 := Lib.hid (show rowTo ys (m + 1) = (T1 ++ [(L, T3)], T2 + s.2, L) by rw [HR.out]; unfold rstp; simp only [clampC, hcd]; rw [if_pos ⟨c3, c4⟩])
              go_wp2_with (at_builtin; refine wpList_app _ rfl _ _ 42 rfl encRun_len (by decide) oneR y1.1.heap.size 69 (.agg #[.int .i64 0, .int .i64 0]) 16 infoRun rfl Tryz.underlying42 _ _ _ _ rfl (own_below HO4.out (by repeat (first | with_reducible (first | exact blA | exact blB | refine blC _ ?_ | refine blD ?_ ?_ _ | refine blE ?_ | refine blF _ ?_ | refine blG ?_ _ | refine blH ?_ | refine blI ?_ ?_ _) | (simp only [World.size_alloc]; omega) | (simp <;> omega)))) _ _ _ rfl (rd_one _ encRun_len 69 (L, T3) _ rfl) ?c1 (by decide) ?c2 ?_; (case c1 => (first | (simp only [List.length_append, List.length_cons, List.length_nil]; omega) | omega | (simp; omega))); (case c2 => exact (by repeat (first | with_reducible exact Nat.le_refl _ | assumption | with_reducible refine le_alloc ?_ _ | with_reducible refine le_drew ?_ | with_reducible refine Kin.le _ ?_ | assumption | omega | (simp only [World.size_alloc]; omega)))); intro v' w1 hown' hg hbel hat'; ((have HPn := Lib.hid (blk_app hg (by decide) (by repeat (first | with_reducible (first | exact blA | exact blB | refine blC _ ?_ | refine blD ?_ ?_ _ | refine blE ?_ | refine blF _ ?_ | refine blG ?_ _ | refine blH ?_ | refine blI ?_ ?_ _) | (simp only [World.size_alloc]; omega) | (simp <;> omega))) (own_below HO4.out (by repeat (first | with_reducible (first | exact blA | exact blB | refine blC _ ?_ | refine blD ?_ ?_ _ | refine blE ?_ | refine blF _ ?_ | refine blG ?_ _ | refine blH ?_ | refine blI ?_ ?_ _) | (simp only [World.size_alloc]; omega) | (simp <;> omega)))) (Blk.new z3.1 93 #[.int .i64 s.1, .int .i64 s.2]))); (obtain ⟨y, rfl⟩ : ∃ y : Kin y1.1, y.1 = w1 := ⟨⟨w1, Below.trans (by repeat (first | with_reducible (first | exact blA | exact blB | refine blC _ ?_ | refine blD ?_ ?_ _ | refine blE ?_ | refine blF _ ?_ | refine blG ?_ _ | refine blH ?_ | refine blI ?_ ?_ _) | (simp only [World.size_alloc]; omega) | (simp <;> omega))) hbel⟩, rfl⟩); have sb1 : y.1.cell? ⟨z3.1.heap.size, 1, none⟩ = some (.int .i64 s.2) := HPn.out.cell 1; have sbl := HPn.out.lt; clear hbel hg hat'))
              go_roundw
              case rel => exact ⟨m + 1, by omega, by go_num, by rw [HR2.out]; try go_num, by rw [HR2.out], Lib.hid (by rw [HR2.out]; exact hown'), y, rfl⟩
              case measure => simp [intOf]; omega
            · have HR2 := Lib.hid (show rowTo ys (m + 1) = (T1, T2 + s.2, L) by rw [HR.out]; unfold rstp; simp only [clampC, hcd]; rw [if_neg (fun h => c4 h.2)])
              go_wp2
              go_roundw
              case rel => exact ⟨m + 1, by omega, by go_num, by rw [HR2.out]; try go_num, by rw [HR2.out], Lib.hid (by rw [HR2.out]; exact HO4.out.alloc _), ⟨World.alloc _ _, (by repeat (first | with_reducible (first | exact blA | exact blB | refine blC _ ?_ | refine blD ?_ ?_ _ | refine blE ?_ | refine blF _ ?_ | refine blG ?_ _ | refine blH ?_ | refine blI ?_ ?_ _) | (simp only [World.size_alloc]; omega) | (simp <;> omega)))⟩, rfl⟩
              case measure => simp [intOf]; omega
          · have HR2 := Lib.hid (show rowTo ys (m + 1) = (T1, T2 + s.2, L) by rw [HR.out]; unfold rstp; simp only [clampC, hcd]; rw [if_neg (fun h => c3 h.1)])
            go_wp2
            go_roundw
            case rel => exact ⟨m + 1, by omega, by go_num, by rw [HR2.out]; try go_num, by rw [HR2.out], Lib.hid (by rw [HR2.out]; exact HO4.out.alloc _), ⟨World.alloc _ _, (by repeat (first | with_reducible (first | exact blA | exact blB | refine blC _ ?_ | refine blD ?_ ?_ _ | refine blE ?_ | refine blF _ ?_ | refine blG ?_ _ | refine blH ?_ | refine blI ?_ ?_ _) | (simp only [World.size_alloc]; omega) | (simp <;> omega)))⟩, rfl⟩
            case measure => simp [intOf]; omega
        · have em : m = ys.length := by omega
          have HRW := Lib.hid (show rawRow ys = rowEnd (rowTo ys m) by rw [em]; rfl)
          have hrl := rawRow_len HSR.out
          obtain ⟨⟨T1, T2, T3⟩, hT⟩ : ∃ T, T = rowTo ys m := ⟨_, rfl⟩
          rw [← hT] at HO4 HRW hb1 hb2 hb3 ⊢
          clear hT em
          simp only at hb1 hb2 hb3
          by_cases c3 : 0 < T2 ∧ -4096 < T3
          · have HR2 := Lib.hid (show rawRow ys = T1 ++ [(-4096, T3)] by rw [HRW.out]; unfold rowEnd; rw [if_pos c3])
            obtain ⟨c4, c5⟩ := c3
            go_wp2_with (first
              | (at_builtin; refine wpList_app _ rfl _ _ 42 rfl encRun_len (by decide) oneR y1.1.heap.size 69 (.agg #[.int .i64 0, .int .i64 0]) 16 infoRun rfl Tryz.underlying42 _ _ _ _ rfl (own_below HO4.out (by repeat (first | with_reducible (first | exact blA | exact blB | refine blC _ ?_ | refine blD ?_ ?_ _ | refine blE ?_ | refine blF _ ?_ | refine blG ?_ _ | refine blH ?_ | refine blI ?_ ?_ _) | (simp only [World.size_alloc]; omega) | (simp <;> omega)))) _ _ _ rfl (rd_one _ encRun_len 69 (-4096, T3) _ rfl) ?c1 (by decide) ?c2 ?_; (case c1 => (first | (simp only [List.length_append, List.length_cons, List.length_nil]; omega) | omega | (simp; omega))); (case c2 => exact (by repeat (first | with_reducible exact Nat.le_refl _ | assumption | with_reducible refine le_alloc ?_ _ | with_reducible refine le_drew ?_ | with_reducible refine Kin.le _ ?_ | assumption | omega | (simp only [World.size_alloc]; omega)))); intro v' w1 hown' hg hbel hat'; (obtain ⟨y, rfl⟩ : ∃ y : Kin y1.1, y.1 = w1 := ⟨⟨w1, Below.trans (by repeat (first | with_reducible (first | exact blA | exact blB | refine blC _ ?_ | refine blD ?_ ?_ _ | refine blE ?_ | refine blF _ ?_ | refine blG ?_ _ | refine blH ?_ | refine blI ?_ ?_ _) | (simp only [World.size_alloc]; omega) | (simp <;> omega))) hbel⟩, rfl⟩); clear hbel hg hat'; (have HRD := Lib.hid (show Rd 2 encRun y.1 _ (rawRow ys) from by rw [HR2.out]; exact Rd.own encRun_len hown'); clear hown'))
              | (go_at_call 51; (with_reducible refine (Kin.callK (W := (Kin.wd y1)) (by repeat (first | with_reducible (first | exact blA | exact blB | refine blC _ ?_ | refine blD ?_ ?_ _ | refine blE ?_ | refine blF _ ?_ | refine blG ?_ _ | refine blH ?_ | refine blI ?_ ?_ _) | (simp only [World.size_alloc]; omega) | (simp <;> omega))) (norm_own _ (rawRow ys) _ (HRD.out.below (by repeat (first | with_reducible (first | exact blA | exact blB | refine blC _ ?_ | refine blD ?_ ?_ _ | refine blE ?_ | refine blF _ ?_ | refine blG ?_ _ | refine blH ?_ | refine blI ?_ ?_ _) | (simp only [World.size_alloc]; omega) | (simp <;> omega)))) (by omega))).mono ?_); rintro e w' ⟨zn, ⟨un, Bn, rfl, hBn, hn⟩, hzn, rfl⟩; skip))
            go_ret
            exact ⟨⟨un, Bn, rfl, Nat.le_trans hyb (Nat.le_trans y.2.size hBn), by rw [← HFY.out]; exact hn⟩, HY1.out.trans (zn.2.mono hyb)⟩
          · have HR2 := Lib.hid (show rawRow ys = T1 by rw [HRW.out]; unfold rowEnd; rw [if_neg c3])
            have HRD := Lib.hid (show Rd 2 encRun z3.1 _ (rawRow ys) from by rw [HR2.out]; exact Rd.own encRun_len HO4.out)
            rcases (show ¬ 0 < T2 ∨ (0 < T2 ∧ ¬ -4096 < T3) by omega) with c4 | ⟨c4, c5⟩
            all_goals
              clear c3
              go_wp2_with (go_at_call 51; (with_reducible refine (Kin.callK (W := (Kin.wd y1)) (by repeat (first | with_reducible (first | exact blA | exact blB | refine blC _ ?_ | refine blD ?_ ?_ _ | refine blE ?_ | refine blF _ ?_ | refine blG ?_ _ | refine blH ?_ | refine blI ?_ ?_ _) | (simp only [World.size_alloc]; omega) | (simp <;> omega))) (norm_own _ (rawRow ys) _ (HRD.out.below (by repeat (first | with_reducible (first | exact blA | exact blB | refine blC _ ?_ | refine blD ?_ ?_ _ | refine blE ?_ | refine blF _ ?_ | refine blG ?_ _ | refine blH ?_ | refine blI ?_ ?_ _) | (simp only [World.size_alloc]; omega) | (simp <;> omega)))) (by omega))).mono ?_); rintro e w' ⟨zn, ⟨un, Bn, rfl, hBn, hn⟩, hzn, rfl⟩; skip)
              go_ret
              exact ⟨⟨un, Bn, rfl, Nat.le_trans hyb (Nat.le_trans z3.2.size hBn), by rw [← HFY.out]; exact hn⟩, HY1.out.trans (zn.2.mono hyb)⟩
end Go.Proofs.YtneelidbgigehaaGreat
