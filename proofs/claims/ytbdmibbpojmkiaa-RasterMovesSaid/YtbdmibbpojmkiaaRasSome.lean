/- The law's polygons: at most 5, of at most 12 points each, with small coordinates. -/
import Derived.Test.YtbdmibbpojmkiaaRasWalk
import Derived.Test.YtbdmibbpojmkiaaFloatT
import Derived.Test.YtbdmibbpojmkiaaRegGen
namespace Go.Proofs.Ytbdmibbpojmkiaa
set_option linter.unusedSimpArgs false
set_option linter.unusedVariables false
set_option maxRecDepth 100000
open Go.RowKit Runs Reg Ras
attribute [local go_sem] Kin.cell Kin.frozen Kin.lt0 Kin.lt1 Kin.lt2 Kin.lt3 run_mkf
def cutR (x : Int) : Int := if x < -65536 ∨ 65536 < x then x else x.tmod 2001
theorem cut19_any (x : Int) (w : World) :
    Calls Try.prog 26 #[.int .i64 x] w fun e w' => e = .returned (.int .i64 (cutR x)) ∧ Below w.heap.size w w' := by
  have h1 := Int.tmod_lt_of_pos x (show (0 : Int) < 2001 by omega)
  have h2 := Int.lt_tmod_of_pos x (show (0 : Int) < 2001 by omega)
  have e1 : IntKind.i64.wrap (x.tmod 2001) = x.tmod 2001 := IntWalk.i64_in _ (by omega)
  rcases (show x < -65536 ∨ (¬ x < -65536 ∧ 65536 < x) ∨ (¬ x < -65536 ∧ ¬ 65536 < x) by omega) with c1 | ⟨c1, c2⟩ | ⟨c1, c2⟩
  · have e0 : cutR x = x := by unfold cutR; rw [if_pos (.inl c1)]
    rw [e0]
    go_enter Try.func26, Try.ntmps26
    go_wp2
    go_ret
    exact ⟨rfl, (by repeat (first | with_reducible (first | exact blA | exact blB | refine blC _ ?_ | refine blD ?_ ?_ _ | refine blE ?_ | refine blF _ ?_ | refine blG ?_ _ | refine blH ?_ | refine blI ?_ ?_ _) | (simp only [World.size_alloc]; omega) | (simp <;> omega)))⟩
  · have e0 : cutR x = x := by unfold cutR; rw [if_pos (.inr c2)]
    rw [e0]
    go_enter Try.func26, Try.ntmps26
    go_wp2
    go_ret
    exact ⟨rfl, (by repeat (first | with_reducible (first | exact blA | exact blB | refine blC _ ?_ | refine blD ?_ ?_ _ | refine blE ?_ | refine blF _ ?_ | refine blG ?_ _ | refine blH ?_ | refine blI ?_ ?_ _) | (simp only [World.size_alloc]; omega) | (simp <;> omega)))⟩
  · have e0 : cutR x = x.tmod 2001 := by unfold cutR; rw [if_neg (by omega)]
    rw [e0]
    go_enter Try.func26, Try.ntmps26
    go_wp2
    go_ret
    exact ⟨rfl, (by repeat (first | with_reducible (first | exact blA | exact blB | refine blC _ ?_ | refine blD ?_ ?_ _ | refine blE ?_ | refine blF _ ?_ | refine blG ?_ _ | refine blH ?_ | refine blI ?_ ?_ _) | (simp only [World.size_alloc]; omega) | (simp <;> omega)))⟩
def cutP (q : P2) : P2 := (cutR q.1, cutR q.2)
def cutO (o : List P2) (m : Nat) : List P2 := (o.take m).map cutP
def someTo (l : List (List P2)) (k : Nat) : List (List P2) := (l.take k).map fun o => cutO o 12
def someR (l : List (List P2)) : List (List P2) := someTo l 5
theorem cutO_succ {o : List P2} {m : Nat} {q : P2} (h : o[m]? = some q) : cutO o (m + 1) = cutO o m ++ [cutP q] := by unfold cutO; rw [List.take_add_one, h, List.map_append]; rfl
theorem cutO_len (o : List P2) (m : Nat) : (cutO o m).length ≤ m := by unfold cutO; rw [List.length_map]; exact List.length_take_le _ _
theorem someTo_succ {l : List (List P2)} {k : Nat} {o : List P2} (h : l[k]? = some o) : someTo l (k + 1) = someTo l k ++ [cutO o 12] := by unfold someTo; rw [List.take_add_one, h, List.map_append]; rfl
theorem someTo_len (l : List (List P2)) (k : Nat) : (someTo l k).length ≤ k := by unfold someTo; rw [List.length_map]; exact List.length_take_le _ _
theorem ptsN_le {l : List (List P2)} {M : Nat} (h : ∀ o ∈ l, o.length ≤ M) : ptsN l ≤ l.length * M := by
  induction l with
  | nil => simp [ptsN]
  | cons a l ih =>
    rw [ptsN_cons, List.length_cons, Nat.add_mul]
    have h1 := ih (fun o ho => h o (by simp [ho]))
    have h2 := h a (by simp)
    omega
theorem someR_small (l : List (List P2)) : (someR l).length ≤ 5 ∧ ∀ o ∈ someR l, o.length ≤ 12 :=
  ⟨someTo_len l 5, fun o ho => by
    unfold someR someTo at ho
    obtain ⟨p, _, rfl⟩ := List.mem_map.1 ho
    exact cutO_len p 12⟩
theorem someR_few (l : List (List P2)) : FewP (someR l) := by
  obtain ⟨h1, h2⟩ := someR_small l
  have h3 := ptsN_le h2
  have h4 : (someR l).length * 12 ≤ 5 * 12 := Nat.mul_le_mul_right 12 h1
  exact ⟨by omega, by omega⟩
abbrev OwnPols (base : Nat) (W : World) (v : Value) (l : List (List P2)) : Prop := OwnN base 40 1 encPol psl ptag 2 encPt (fun o : List P2 => o) W v l
set_option maxHeartbeats 8000000 in
theorem some19_any (v : Value) (l : List (List P2)) (w : World) (h : RdPols w v l) :
    Calls Try.prog 12 #[v] w fun e w' => (∃ u, e = .returned u ∧ RdPols w' u (someR l)) ∧ Below w.heap.size w w' := by
  obtain ⟨A, capA, rfl, hcapA, hopA⟩ := pols_open h
  have HA := Lib.hid hopA
  have HLA := Lib.hid h
  clear hopA h
  go_enter Try.func12, Try.ntmps12
  go_wp2
  go_loopw [3, 4] (fun u i wr => ∃ k : Nat, k ≤ l.length ∧ k ≤ 5 ∧ i = .int .i64 k ∧ Hid (OwnPols w.heap.size wr u (someTo l k)) ∧ ∃ z : Kin w, z.1 = wr) (fun _ i _ => 5 - (intOf i).toNat)
  case atStart => exact ⟨0, Nat.zero_le _, by omega, rfl, OwnN.nil, ⟨w, Below.refl _ _⟩, rfl⟩
  case round =>
    obtain ⟨k, hk, hk5, rfl, HO, z, rfl⟩ := hrel
    by_cases hlt : k < l.length
    · by_cases hlt5 : k < 5
      · have h5 : (k : Int) < 5 := by omega
        obtain ⟨o, ho⟩ : ∃ el_, (l)[k]? = some el_ := ⟨_, List.getElem?_eq_getElem (by first | exact hlt | omega)⟩
        obtain ⟨bA, offA, rfl, hbA, hcA⟩ := HA.out (k) _ ho
        have hbA2 : bA < w.heap.size + 1 := by omega
        obtain ⟨S, capS, o_0, hcapS, hrS⟩ := hcA (k) o ho
        have HLS := Lib.hid hrS
        have HAc := Lib.hid hcA
        have Ho := Lib.hid ho
        clear ho hrS hcA
        have hstl := someTo_len l k
        have HSS := Lib.hid (someTo_succ Ho.out)
        obtain ⟨hs, hown, hnest, hap⟩ := HO.out
        have HOW := Lib.hid hown
        have HNE := Lib.hid hnest
        have HAP := Lib.hid hap
        have hhl := hnest.1
        have hz1 : w.heap.size ≤ z.1.heap.size := z.2.size
        clear hown hnest hap HO
        have HS := Lib.hid (Rd.op HLS.out)
        have HLS := Lib.hid HLS.out
        go_wp2
        go_loopw [6] (fun i wr => ∃ m : Nat, m ≤ o.length ∧ m ≤ 12 ∧ i = .int .i64 m ∧ ∃ (B : Option Addr) (n c : Nat), Hid (Blk wr z.1.heap.size 40 #[.slice B n c]) ∧ Hid (wr.ownsRow (z.1.heap.size + 1) 24 2 (.slice B n c) (cutO o m).length ((cutO o m).flatMap encPt)) ∧ ∃ z2 : Kin z.1, z2.1 = wr) (fun i _ => 12 - (intOf i).toNat)
        case atStart => exact ⟨0, Nat.zero_le _, by omega, rfl, none, 0, 0, Lib.hid (Blk.new _ _ _), Lib.hid (World.ownsRow_nil _ _ _ _), ⟨World.alloc _ _, (by repeat (first | with_reducible (first | exact blA | exact blB | refine blC _ ?_ | refine blD ?_ ?_ _ | refine blE ?_ | refine blF _ ?_ | refine blG ?_ _ | refine blH ?_ | refine blI ?_ ?_ _) | (simp only [World.size_alloc]; omega) | (simp <;> omega)))⟩, rfl⟩
        case round =>
          obtain ⟨m, hm, hm12, rfl, B, n, c, HP, HQ, z2, rfl⟩ := hrel
          by_cases hlt2 : m < o.length
          · by_cases hlt12 : m < 12
            · have h12 : (m : Int) < 12 := by omega
              obtain ⟨q, hq⟩ : ∃ el_, (o)[m]? = some el_ := ⟨_, List.getElem?_eq_getElem (by first | exact hlt2 | omega)⟩
              obtain ⟨bS, offS, rfl, hbS, hcS⟩ := HS.out (m) _ hq
              have q_0 : w.cell? ⟨bS, offS + m * 2, none⟩ = some (.int .i64 q.1) := by exact hcS (m) _ hq 0 _ rfl
              have q_1 : w.cell? ⟨bS, offS + m * 2 + 1, none⟩ = some (.int .i64 q.2) := by exact hcS (m) _ hq 1 _ rfl
              have hbS2 : bS < w.heap.size + 1 := by omega
              have HSc := Lib.hid hcS
              have Hq := Lib.hid hq
              clear hq hcS
              have HCS := Lib.hid (cutO_succ Hq.out)
              have hcl := cutO_len o m
              have HKK := Lib.hid (show Below w.heap.size w z2.1 from (by repeat (first | with_reducible (first | exact blA | exact blB | refine blC _ ?_ | refine blD ?_ ?_ _ | refine blE ?_ | refine blF _ ?_ | refine blG ?_ _ | refine blH ?_ | refine blI ?_ ?_ _) | (simp only [World.size_alloc]; omega) | (simp <;> omega))))
              have g0 : z2.1.cell? ⟨z.1.heap.size, 0, none⟩ = some (.slice B n c) := HP.out.cell 0
              have gl := HP.out.lt
              have g1 : z2.1.cell? ⟨bA, offA + k, none⟩ = some (.slice (some ⟨bS, offS, none⟩) o.length capS) := (HKK.out.cell (p := ⟨bA, offA + k, none⟩) hbA).trans o_0
              have gl1 : bA < z2.1.heap.size := Nat.lt_of_lt_of_le hbA HKK.out.size
              have g2 : z2.1.cell? ⟨bS, offS + m * 2, none⟩ = some (.int .i64 q.1) := (HKK.out.cell (p := ⟨bS, offS + m * 2, none⟩) hbS).trans q_0
              have g3 : z2.1.cell? ⟨bS, offS + m * 2 + 1, none⟩ = some (.int .i64 q.2) := (HKK.out.cell (p := ⟨bS, offS + m * 2 + 1, none⟩) hbS).trans q_1
              have gl2 : bS < z2.1.heap.size := Nat.lt_of_lt_of_le hbS HKK.out.size
              have hn := own_len encPt_len (by decide) HQ.out
              go_wp2
              refine wp_region_floatT 2 23 (fun w' => w'.cell? ⟨z.1.heap.size, 0, none⟩ = some (.slice B n c)) (by kernel_rfl) (by kernel_rfl) (by kernel_rfl) (fun y => (y.cell gl).trans g0) ?_
              simp only [List.take_succ_cons, List.take_zero, List.drop_succ_cons, List.drop_zero]
              refine @takeS_cons _ _ _ _ _ _ _ ?_ rfl (fun w' hSw => ?_) ?_
              rotate_left
              · ((try dsimp only at hSw); go_simp; try with_reducible rfl)
              try simp only [Act.put, List.setIfInBounds_toArray, List.set_cons_zero, List.set_cons_succ]
              refine @takeS_cons _ _ _ _ _ _ _ ?_ rfl (fun w' hSw => ?_) ?_
              rotate_left
              · ((try dsimp only at hSw); go_simp; try with_reducible rfl)
              try simp only [Act.put, List.setIfInBounds_toArray, List.set_cons_zero, List.set_cons_succ]
              refine takeS_nil ?_
              ((repeat' (first | go_big_quiet_step ((go_at_call 26; exact Kin.quiet _ (cut19_any _ _))) | ((refine wpQuiet_guard rfl rfl rfl rfl (fun hg => ?_) (fun hg => ?_)) <;> (fail_if_success (first | guard_hyp hg : true = true | guard_hyp hg : false = false)) <;> (try simp only [decide_eq_true_eq, decide_eq_false_iff_not] at hg) <;> simp only [Act.put, List.setIfInBounds_toArray, List.set_cons_zero, List.set_cons_succ]))); all_goals ((with_reducible refine wpQuiet_nil ?_); intro zq))
              have HSR := Lib.hid (rd_one zq.1 encPt_len 24 (cutR q.1, cutR q.2) _ rfl rfl)
              have HZB := Lib.hid (show Below z.1.heap.size z.1 (zq.1.alloc (.cells #[.int .i64 (cutR q.1), .int .i64 (cutR q.2)] 24)) from (by repeat (first | with_reducible (first | exact blA | exact blB | refine blC _ ?_ | refine blD ?_ ?_ _ | refine blE ?_ | refine blF _ ?_ | refine blG ?_ _ | refine blH ?_ | refine blI ?_ ?_ _) | (simp only [World.size_alloc]; omega) | (simp <;> omega))))
              have ht0 : (zq.1.alloc (.cells #[.int .i64 (cutR q.1), .int .i64 (cutR q.2)] 24)).cell? ⟨z.1.heap.size, 0, none⟩ = some (.slice B n c) := (World.cell?_alloc_lt _ _ _ (zq.lt0 gl)).trans ((zq.cell gl).trans g0)
              intro K23 hK23
              go_simp
              refine hK23 _ _ (.inr ht0) ?_
              intro K24 hK24
              (skip; (refine step_app _ rfl _ _ 38 rfl encPt_len (by decide) oneP (z.1.heap.size + 1) 24 (.agg #[.int .i64 0, .int .i64 0]) 16 infoPt2 rfl Try.underlying38 (.slice B n c) _ _ _ (by first | rfl | simp [Act.eval, Act.put]) ((own_below HQ.out zq.2).alloc _) _ _ _ (by first | rfl | simp [Act.eval, Act.put]) (HSR.out) ?c1 (by decide) ?c2 ?_; (case c1 => (first | (simp only [List.length_append, List.length_cons, List.length_nil]; omega) | omega | (simp; omega))); (case c2 => exact (by repeat (first | with_reducible exact Nat.le_refl _ | assumption | with_reducible refine le_alloc ?_ _ | with_reducible refine le_drew ?_ | with_reducible refine Kin.le _ ?_ | assumption | omega | (simp only [World.size_alloc]; omega)))); intro v' w1 hown' hg hbel hat'; ((obtain ⟨B', n', c', rfl⟩ := own_slice hown'); have HPn := Lib.hid (blk_app hg (by decide) (by repeat (first | with_reducible (first | exact blA | exact blB | refine blC _ ?_ | refine blD ?_ ?_ _ | refine blE ?_ | refine blF _ ?_ | refine blG ?_ _ | refine blH ?_ | refine blI ?_ ?_ _) | (simp only [World.size_alloc]; omega) | (simp <;> omega))) ((own_below HQ.out zq.2).alloc _) HP.out); have p1 : w1.cell? ⟨z.1.heap.size, 0, none⟩ = some (.slice B n c) := HPn.out.cell 0; have pf1 : w1.frozen? ⟨z.1.heap.size, 0, none⟩ = false := HPn.out.frozen 0; have pl1 := HPn.out.lt; have HOO := Lib.hid hown'; have HBE := Lib.hid hbel; clear hown' hg hbel hat')))
              refine hK24 _ _ (.inr p1) ?_
              intro K25 hK25
              go_simp
              refine hK25 _ _ (.inr p1) ?_
              intro K26 hK26
              go_simp
              refine hK26 _ _ (.inl rfl) ?_
              clear hK23 hK24 hK25 hK26 K23 K24 K25 K26
              refine wpListT_nil ?_
              (try simp only [Exit.then])
              go_wp2
              go_roundw
              case rel => exact ⟨m + 1, by omega, by omega, by go_num, B', n', c', Lib.hid (HPn.out.set_ 0 _), Lib.hid (by rw [HCS.out]; exact own_grownBy HOO.out (grownBy_set _) (own_ne HOO.out HPn.out (by decide))), ⟨_, Below.setCell (HZB.out.trans (HBE.out.mono (Nat.le_succ _))) (Nat.le_refl _) _⟩, rfl⟩
              case measure => simp [intOf]; omega
            · have e12 : cutO o m = cutO o 12 := by unfold cutO; first | rw [show m = 12 by omega] | rw [List.take_of_length_le (show o.length ≤ m by omega), List.take_of_length_le (show o.length ≤ 12 by omega)]
              have HE12 := Lib.hid e12
              clear e12
              have hcl := cutO_len o 12
              have HQ2 := Lib.hid (show z2.1.ownsRow (z.1.heap.size + 1) 24 2 (.slice B n c) (cutO o 12).length ((cutO o 12).flatMap encPt) by rw [← HE12.out]; exact HQ.out)
              have hnc := own_len encPt_len (by decide) HQ2.out
              have HRD := Lib.hid (Rd.own encPt_len HQ2.out)
              have HFR := Lib.hid (own_fresh HQ2.out (v2 := u3) (fun q e => Nat.lt_succ_of_lt (HOW.out.lt q e).2))
              have g0 : z2.1.cell? ⟨z.1.heap.size, 0, none⟩ = some (.slice B n c) := HP.out.cell 0
              have gl := HP.out.lt
              have h12 : ¬ (m : Int) < 12 := by omega
              go_wp2_with (at_builtin; refine wpList_app _ rfl _ _ 28 rfl encPol_len (by decide) onePol w.heap.size 40 (.agg #[.slice none 0 0]) 24 infoPol rfl Try.underlying28 _ _ _ _ rfl ((own_below HOW.out z2.2).alloc _) _ _ _ rfl (rd_one _ encPol_len _ ((B, n, c) : PolH) _ rfl) ?c1 (by decide) ?c2 ?_; (case c1 => (first | (simp only [List.length_append, List.length_cons, List.length_nil]; omega) | omega | (simp; omega))); (case c2 => exact (by repeat (first | with_reducible exact Nat.le_refl _ | assumption | with_reducible refine le_alloc ?_ _ | with_reducible refine le_drew ?_ | with_reducible refine Kin.le _ ?_ | assumption | omega | (simp only [World.size_alloc]; omega)))); intro v' w1 hown' hg hbel hat'; ((obtain ⟨y, rfl⟩ : ∃ y : Kin w, y.1 = w1 := ⟨⟨w1, Below.trans (by repeat (first | with_reducible (first | exact blA | exact blB | refine blC _ ?_ | refine blD ?_ ?_ _ | refine blE ?_ | refine blF _ ?_ | refine blG ?_ _ | refine blH ?_ | refine blI ?_ ?_ _) | (simp only [World.size_alloc]; omega) | (simp <;> omega))) hbel⟩, rfl⟩); have HPU := Lib.hid (OwnN.snoc (e := 40) (h := ((B, n, c) : PolH)) (x := cutO o 12) (HNE.out.below (by repeat (first | with_reducible (first | exact blA | exact blB | refine blC _ ?_ | refine blD ?_ ?_ _ | refine blE ?_ | refine blF _ ?_ | refine blG ?_ _ | refine blH ?_ | refine blI ?_ ?_ _) | (simp only [World.size_alloc]; omega) | (simp <;> omega)))) HAP.out hown' hg hat' trivial (HRD.out.below (by repeat (first | with_reducible (first | exact blA | exact blB | refine blC _ ?_ | refine blD ?_ ?_ _ | refine blE ?_ | refine blF _ ?_ | refine blG ?_ _ | refine blH ?_ | refine blI ?_ ?_ _) | (simp only [World.size_alloc]; omega) | (simp <;> omega)))) (HFR.out.imp (fun h => List.eq_nil_of_length_eq_zero h) id)); clear hown' hg hbel hat'))
              go_roundw
              case rel => exact ⟨k + 1, by omega, by omega, by go_num, Lib.hid (by rw [HSS.out]; exact HPU.out), y, rfl⟩
              case measure => simp [intOf]; omega
          · have e12 : cutO o m = cutO o 12 := by unfold cutO; first | rw [show m = 12 by omega] | rw [List.take_of_length_le (show o.length ≤ m by omega), List.take_of_length_le (show o.length ≤ 12 by omega)]
            have HE12 := Lib.hid e12
            clear e12
            have hcl := cutO_len o 12
            have HQ2 := Lib.hid (show z2.1.ownsRow (z.1.heap.size + 1) 24 2 (.slice B n c) (cutO o 12).length ((cutO o 12).flatMap encPt) by rw [← HE12.out]; exact HQ.out)
            have hnc := own_len encPt_len (by decide) HQ2.out
            have HRD := Lib.hid (Rd.own encPt_len HQ2.out)
            have HFR := Lib.hid (own_fresh HQ2.out (v2 := u3) (fun q e => Nat.lt_succ_of_lt (HOW.out.lt q e).2))
            have g0 : z2.1.cell? ⟨z.1.heap.size, 0, none⟩ = some (.slice B n c) := HP.out.cell 0
            have gl := HP.out.lt
            have hml : ¬ (m : Int) < (o.length : Int) := by omega
            go_wp2_with (at_builtin; refine wpList_app _ rfl _ _ 28 rfl encPol_len (by decide) onePol w.heap.size 40 (.agg #[.slice none 0 0]) 24 infoPol rfl Try.underlying28 _ _ _ _ rfl ((own_below HOW.out z2.2).alloc _) _ _ _ rfl (rd_one _ encPol_len _ ((B, n, c) : PolH) _ rfl) ?c1 (by decide) ?c2 ?_; (case c1 => (first | (simp only [List.length_append, List.length_cons, List.length_nil]; omega) | omega | (simp; omega))); (case c2 => exact (by repeat (first | with_reducible exact Nat.le_refl _ | assumption | with_reducible refine le_alloc ?_ _ | with_reducible refine le_drew ?_ | with_reducible refine Kin.le _ ?_ | assumption | omega | (simp only [World.size_alloc]; omega)))); intro v' w1 hown' hg hbel hat'; ((obtain ⟨y, rfl⟩ : ∃ y : Kin w, y.1 = w1 := ⟨⟨w1, Below.trans (by repeat (first | with_reducible (first | exact blA | exact blB | refine blC _ ?_ | refine blD ?_ ?_ _ | refine blE ?_ | refine blF _ ?_ | refine blG ?_ _ | refine blH ?_ | refine blI ?_ ?_ _) | (simp only [World.size_alloc]; omega) | (simp <;> omega))) hbel⟩, rfl⟩); have HPU := Lib.hid (OwnN.snoc (e := 40) (h := ((B, n, c) : PolH)) (x := cutO o 12) (HNE.out.below (by repeat (first | with_reducible (first | exact blA | exact blB | refine blC _ ?_ | refine blD ?_ ?_ _ | refine blE ?_ | refine blF _ ?_ | refine blG ?_ _ | refine blH ?_ | refine blI ?_ ?_ _) | (simp only [World.size_alloc]; omega) | (simp <;> omega)))) HAP.out hown' hg hat' trivial (HRD.out.below (by repeat (first | with_reducible (first | exact blA | exact blB | refine blC _ ?_ | refine blD ?_ ?_ _ | refine blE ?_ | refine blF _ ?_ | refine blG ?_ _ | refine blH ?_ | refine blI ?_ ?_ _) | (simp only [World.size_alloc]; omega) | (simp <;> omega)))) (HFR.out.imp (fun h => List.eq_nil_of_length_eq_zero h) id)); clear hown' hg hbel hat'))
            go_roundw
            case rel => exact ⟨k + 1, by omega, by omega, by go_num, Lib.hid (by rw [HSS.out]; exact HPU.out), y, rfl⟩
            case measure => simp [intOf]; omega
      · have ek : someTo l k = someR l := by unfold someR someTo; first | rw [show k = 5 by omega] | rw [List.take_of_length_le (show l.length ≤ k by omega), List.take_of_length_le (show l.length ≤ 5 by omega)]
        have HEK := Lib.hid ek
        clear ek
        have h5 : ¬ (k : Int) < 5 := by omega
        go_wp2
        go_ret
        exact ⟨⟨_, rfl, by rw [← HEK.out]; exact OwnN.rd encPol_len HO.out⟩, (by repeat (first | with_reducible (first | exact blA | exact blB | refine blC _ ?_ | refine blD ?_ ?_ _ | refine blE ?_ | refine blF _ ?_ | refine blG ?_ _ | refine blH ?_ | refine blI ?_ ?_ _) | (simp only [World.size_alloc]; omega) | (simp <;> omega)))⟩
    · have ek : someTo l k = someR l := by unfold someR someTo; first | rw [show k = 5 by omega] | rw [List.take_of_length_le (show l.length ≤ k by omega), List.take_of_length_le (show l.length ≤ 5 by omega)]
      have HEK := Lib.hid ek
      clear ek
      have hkl : ¬ (k : Int) < (l.length : Int) := by omega
      go_wp2
      go_ret
      exact ⟨⟨_, rfl, by rw [← HEK.out]; exact OwnN.rd encPol_len HO.out⟩, (by repeat (first | with_reducible (first | exact blA | exact blB | refine blC _ ?_ | refine blD ?_ ?_ _ | refine blE ?_ | refine blF _ ?_ | refine blG ?_ _ | refine blH ?_ | refine blI ?_ ?_ _) | (simp only [World.size_alloc]; omega) | (simp <;> omega)))⟩
end Go.Proofs.Ytbdmibbpojmkiaa
