/- Lemmas: RunsSort RunsNorm RunsRef3 RegBounds. -/
import Derived.Test.YtneelidbgigehaaGreatT05
import Derived.Test.YtneelidbgigehaaGreatT07
import Derived.Test.YtneelidbgigehaaGreatShelf
import Derived.Test.YtneelidbgigehaaGreatT02
/- slices.SortFunc at runs, as Norm calls it: the runs sorted by From. -/
namespace Go.Sort
end Go.Sort
namespace Go.Shelf
end Go.Shelf
namespace Go.Proofs.YtneelidbgigehaaGreat
set_option linter.unusedSimpArgs false
set_option linter.unusedVariables false
open Go.Shelf Go.RowKit Go.Lib Go.Sort Go.Proofs Runs
/-- a run within the bounds -/
abbrev FRun := { r : Run // fits r = true }
instance : Inhabited FRun := ⟨⟨(0, 0), by decide⟩⟩
end Go.Proofs.YtneelidbgigehaaGreat

/- What Norm returns: the list of the set, or an error. -/
namespace Go.Proofs.YtneelidbgigehaaGreat
set_option linter.unusedSimpArgs false
set_option linter.unusedVariables false
open Go.RowKit Runs
attribute [local go_sem] Kin.cell Kin.frozen
theorem fits_bd {r : Run} (h : fits r = true) : -1048576 ≤ r.1 ∧ r.1 ≤ 1048576 ∧ -1048576 ≤ r.2 ∧ r.2 ≤ 1048576 := by simpa [fits] using h
end Go.Proofs.YtneelidbgigehaaGreat

/- What the chapter's Normal, Norm and set operations on runs return. -/
namespace Go.Proofs.YtneelidbgigehaaGreat
set_option linter.unusedSimpArgs false
set_option linter.unusedVariables false
open Go.RowKit Runs
attribute [local go_sem] Kin.cell Kin.frozen Kin.lt0 Kin.lt1 Kin.lt2 Kin.lt3 run_mkf
theorem at_some {b : List Int} {k : Nat} {r : Int} (h : b[k]? = some r) : at_ b k = r := by simp [at_, h]
/-- the three set operations, numbered as in the chapter's text -/
def opf (n : Int) (x y : Bool) : Bool := if n = 2 then x || y else if n = 1 then x && y else x && !y
theorem opf_ff (n : Int) : opf n false false = false := by unfold opf; split <;> (try split) <;> rfl
end Go.Proofs.YtneelidbgigehaaGreat

/- The chapter's sorted bounds of runs. -/
namespace Go.Proofs.YtneelidbgigehaaGreat
set_option linter.unusedSimpArgs false
set_option linter.unusedVariables false
open Go.RowKit Runs Reg
attribute [local go_sem] Kin.cell Kin.frozen Kin.lt0 Kin.lt1 Kin.lt2 Kin.lt3 run_mkf
theorem two_max (x y : Int) : [x, y].length ≤ maxLen := by unfold maxLen; simp
theorem kept_any (n : Int) (x y : Bool) (w : World) (hn : n = 0 ∨ n = 1 ∨ n = 2) :
    Calls Tryz.prog 116 #[.int .i64 n, .bool x, .bool y] w fun e w' => e = .returned (.bool (opf (if n = 0 then 2 else if n = 1 then 1 else 0) x y)) ∧ Below w.heap.size w w' := by
  rcases hn with rfl | rfl | rfl <;> cases x <;> cases y
  all_goals
    go_enter Tryz.func116, Tryz.ntmps116
    go_wp2
    go_ret
    exact ⟨ret_bool (by decide), gRw⟩
theorem ownI_cell {base g n cap : Nat} {W : World} {L : List Int} (h : OwnI base W (.slice (some ⟨g, 0, none⟩) n cap) L) {j : Nat} (hj : j < L.length) : W.cell? ⟨g, j, none⟩ = some (.int .i64 (at_ L j)) := by
  obtain ⟨A, cap', hv, _, ho⟩ := Rd.own encI_len h.own
  injection hv with e1 e2 e3
  rcases ho with ho | ⟨b, off, e, _, hc⟩
  · rw [ho] at hj; simp at hj
  · rw [e] at e1
    injection e1 with e1
    injection e1 with e1 e4 _
    subst e1 e4
    have := hc j L[j] (List.getElem?_eq_getElem hj) 0 _ rfl
    rw [at_get hj]
    simpa using this
theorem ownI_len {base g n cap : Nat} {W : World} {L : List Int} (h : OwnI base W (.slice (some ⟨g, 0, none⟩) n cap) L) : n = L.length := by
  obtain ⟨A, cap', hv, _, _⟩ := Rd.own encI_len h.own
  injection hv
theorem ownI_set {base g n cap k : Nat} {W : World} {L : List Int} {x : Int} (h : OwnI base W (.slice (some ⟨g, 0, none⟩) n cap) L) (hk : k < L.length) : OwnI base (W.setCell ⟨g, k, none⟩ (.int .i64 x)) (.slice (some ⟨g, 0, none⟩) n cap) (L.set k x) := by
  have hn := ownI_len h
  subst hn
  have := own_set1 (y := x) encI_len rfl h.own k hk
  unfold OwnI
  rw [List.length_set]
  exact this
set_option maxRecDepth 100000 in
set_option maxHeartbeats 8000000 in
theorem bounds18_any (v u : Value) (a b : List Run) (w : World) (h : Rd 2 encRun w v a) (h' : Rd 2 encRun w u b) (hlen : a.length ≤ 1048576) (hlen' : b.length ≤ 1048576) :
    Calls Tryz.prog 115 #[v, u] w fun e w' => (∃ r L, e = .returned r ∧ Rd 1 encI w' r L ∧ L.Perm (bl a ++ bl b) ∧ L.Pairwise (· ≤ ·)) ∧ Below w.heap.size w w' := by
  obtain ⟨A, capA, rfl, hcapA, hopA⟩ := h.open_
  have HA := Lib.hid hopA
  have HLA := Lib.hid h
  clear hopA h
  obtain ⟨B, capB, rfl, hcapB, hopB⟩ := h'.open_
  have HB := Lib.hid hopB
  have HLB := Lib.hid h'
  clear hopB
  go_enter Tryz.func115, Tryz.ntmps115
  go_wp2
  go_loopw [5, 6] (fun o i wr => ∃ k : Nat, k ≤ a.length ∧ i = .int .i64 k ∧ Hid (OwnI w.heap.size wr o (bl (a.take k))) ∧ Hid (Below w.heap.size w wr)) (fun _ i _ => a.length - (intOf i).toNat)
  case atStart => exact ⟨0, Nat.zero_le _, rfl, Lib.hid OwnI.nil, Lib.hid (Below.refl _ _)⟩
  case round =>
    obtain ⟨k, hk, rfl, HO, hyB⟩ := hrel
    obtain ⟨y1, rfl⟩ : ∃ y : Kin w, y.1 = wr := ⟨⟨wr, hyB.out⟩, rfl⟩
    clear hyB
    by_cases hlt : k < a.length
    · obtain ⟨r, hr⟩ : ∃ el_, (a)[k]? = some el_ := ⟨_, List.getElem?_eq_getElem (by first | exact hlt | omega)⟩
      obtain ⟨bA, offA, rfl, hbA, hcA⟩ := HA.out (k) _ hr
      have r_0 : w.cell? ⟨bA, offA + k * 2, none⟩ = some (.int .i64 r.1) := by exact hcA (k) _ hr 0 _ rfl
      have r_1 : w.cell? ⟨bA, offA + k * 2 + 1, none⟩ = some (.int .i64 r.2) := by exact hcA (k) _ hr 1 _ rfl
      have hbA2 : bA < w.heap.size + 1 := by omega
      have HAc := Lib.hid hcA
      have Hr := Lib.hid hr
      clear hr hcA
      have hbl := bl_len (a.take k)
      rw [List.length_take] at hbl
      go_wp2
      ((refine wp_region_float (W := w) 11 (by kernel_rfl) (by kernel_rfl) rfl rfl gRw ?_); simp only [List.take_succ_cons, List.take_zero, List.drop_succ_cons, List.drop_zero]; (repeat' (first | go_big_quiet_step (fail) | ((refine wpQuiet_guard rfl rfl rfl rfl (fun hg => ?_) (fun hg => ?_)) <;> (fail_if_success (first | guard_hyp hg : true = true | guard_hyp hg : false = false)) <;> (try simp only [decide_eq_true_eq, decide_eq_false_iff_not] at hg) <;> simp only [Act.put, List.setIfInBounds_toArray, List.set_cons_zero, List.set_cons_succ]))); all_goals ((with_reducible refine wpQuiet_nil ?_); intro zq hz))
      go_wp2_with (at_builtin; refine wpList_app _ rfl _ _ 163 rfl encI_len (by decide) oneI w.heap.size 3 (.int .i64 0) 8 infoInt rfl Tryz.underlying163 _ _ _ _ rfl ((own_below HO.out.own hz).alloc _) _ _ _ rfl (rd_lit _ encI_len 3 [r.1, r.2] (hm := two_max _ _)) ?c1 (by decide) ?c2 ?_; (case c1 => (first | (simp only [List.length_append, List.length_cons, List.length_nil]; omega) | omega | (simp; omega))); (case c2 => exact lEw); intro v' w1 hown' hg hbel hat'; (obtain ⟨y, rfl⟩ : ∃ y : Kin w, y.1 = w1 := ⟨⟨w1, Below.trans gRw hbel⟩, rfl⟩); clear hbel hg hat')
      go_roundw
      case rel => exact ⟨k + 1, by omega, by go_num, Lib.hid (by rw [bl_succ Hr.out]; exact hown'), Lib.hid y.2⟩
      case measure => simp [intOf]; omega
    · have ek : k = a.length := by omega
      rw [ek, List.take_length] at HO
      clear ek
      go_wp2
      go_loopw [5, 7] (fun o i wr => ∃ k : Nat, k ≤ b.length ∧ i = .int .i64 k ∧ Hid (OwnI w.heap.size wr o (bl a ++ bl (b.take k))) ∧ Hid (Below w.heap.size w wr)) (fun _ i _ => b.length - (intOf i).toNat)
      case atStart => exact ⟨0, Nat.zero_le _, rfl, Lib.hid (by simpa [bl] using HO.out), Lib.hid y1.2⟩
      case round =>
        clear HO
        obtain ⟨k, hk, rfl, HO, hyB⟩ := hrel
        obtain ⟨y1, rfl⟩ : ∃ y : Kin w, y.1 = wr := ⟨⟨wr, hyB.out⟩, rfl⟩
        clear hyB
        have hbla := bl_len a
        by_cases hlt : k < b.length
        · obtain ⟨r, hr⟩ : ∃ el_, (b)[k]? = some el_ := ⟨_, List.getElem?_eq_getElem (by first | exact hlt | omega)⟩
          obtain ⟨bB, offB, rfl, hbB, hcB⟩ := HB.out (k) _ hr
          have r_0 : w.cell? ⟨bB, offB + k * 2, none⟩ = some (.int .i64 r.1) := by exact hcB (k) _ hr 0 _ rfl
          have r_1 : w.cell? ⟨bB, offB + k * 2 + 1, none⟩ = some (.int .i64 r.2) := by exact hcB (k) _ hr 1 _ rfl
          have hbB2 : bB < w.heap.size + 1 := by omega
          have HBc := Lib.hid hcB
          have Hr := Lib.hid hr
          clear hr hcB
          have hbl := bl_len (b.take k)
          rw [List.length_take] at hbl
          have hl3 : (bl a ++ bl (b.take k)).length ≤ 4194304 := by rw [List.length_append]; omega
          go_wp2
          ((refine wp_region_float (W := w) 11 (by kernel_rfl) (by kernel_rfl) rfl rfl gRw ?_); simp only [List.take_succ_cons, List.take_zero, List.drop_succ_cons, List.drop_zero]; (repeat' (first | go_big_quiet_step (fail) | ((refine wpQuiet_guard rfl rfl rfl rfl (fun hg => ?_) (fun hg => ?_)) <;> (fail_if_success (first | guard_hyp hg : true = true | guard_hyp hg : false = false)) <;> (try simp only [decide_eq_true_eq, decide_eq_false_iff_not] at hg) <;> simp only [Act.put, List.setIfInBounds_toArray, List.set_cons_zero, List.set_cons_succ]))); all_goals ((with_reducible refine wpQuiet_nil ?_); intro zq hz))
          go_wp2_with (at_builtin; refine wpList_app _ rfl _ _ 163 rfl encI_len (by decide) oneI w.heap.size 3 (.int .i64 0) 8 infoInt rfl Tryz.underlying163 _ _ _ _ rfl ((own_below HO.out.own hz).alloc _) _ _ _ rfl (rd_lit _ encI_len 3 [r.1, r.2] (hm := two_max _ _)) ?c1 (by decide) ?c2 ?_; (case c1 => (first | (simp only [List.length_append, List.length_cons, List.length_nil]; omega) | omega | (simp; omega))); (case c2 => exact lEw); intro v' w1 hown' hg hbel hat'; (obtain ⟨y, rfl⟩ : ∃ y : Kin w, y.1 = w1 := ⟨⟨w1, Below.trans gRw hbel⟩, rfl⟩); clear hbel hg hat')
          go_roundw
          case rel => exact ⟨k + 1, by omega, by go_num, Lib.hid (by rw [bl_succ Hr.out]; simpa [OwnI, List.append_assoc] using (show OwnI _ _ _ _ from hown')), Lib.hid y.2⟩
          case measure => simp [intOf]; omega
        · have ek : k = b.length := by omega
          rw [ek, List.take_length] at HO
          clear ek
          have hblb := bl_len b
          have hlab : (bl a ++ bl b).length ≤ 4194304 := by rw [List.length_append]; omega
          obtain ⟨L0, hL0⟩ : ∃ L0, L0 = bl a ++ bl b := ⟨_, rfl⟩
          rw [← hL0] at HO hlab
          have HL0 := Lib.hid hL0
          clear hL0 hbla hblb
          rcases HO.out.2 with ⟨rfl, h0⟩ | ⟨g, cap, cur, rfl, hgb, hg, hn, hcap, hsz, htk⟩
          · have hnil : L0 = [] := List.eq_nil_of_length_eq_zero h0
            go_wp2
            go_loopw [8] (fun i wr => i = .int .i64 1 ∧ Hid (Below w.heap.size w wr)) (fun _ _ => 0)
            case atStart => exact ⟨rfl, Lib.hid y1.2⟩
            case round =>
              obtain ⟨rfl, hyB⟩ := hrel
              go_wp2
              go_ret
              exact ⟨⟨_, [], rfl, Rd.nil, by rw [← HL0.out, hnil], List.Pairwise.nil⟩, hyB.out⟩
          · clear hg hn hcap hsz htk
            go_wp2
            go_loopw [8] (fun i wr => ∃ k : Nat, 1 ≤ k ∧ (k ≤ L0.length ∨ k = 1) ∧ i = .int .i64 k ∧ ∃ L : List Int, Hid (L.Perm L0 ∧ SortTo L k) ∧ Hid (OwnI w.heap.size wr (.slice (some ⟨g, 0, none⟩) L0.length cap) L) ∧ Hid (Below w.heap.size w wr)) (fun i _ => L0.length - (intOf i).toNat)
            case atStart => exact ⟨1, Nat.le_refl _, .inr rfl, by simp, L0, Lib.hid ⟨List.Perm.refl _, fun p q h1 h2 => by omega⟩, HO, Lib.hid y1.2⟩
            case round =>
              clear HO
              obtain ⟨k, hk1, hk2, rfl, L, HS, HO, hyB⟩ := hrel
              obtain ⟨y1, rfl⟩ : ∃ y : Kin w, y.1 = wr := ⟨⟨wr, hyB.out⟩, rfl⟩
              clear hyB
              by_cases hlt : k < L0.length
              · go_wp2
                go_loopw [9] (fun i wr => ∃ m : Nat, m ≤ k ∧ i = .int .i64 m ∧ ∃ L : List Int, Hid (L.Perm L0 ∧ InsI L k m) ∧ Hid (OwnI w.heap.size wr (.slice (some ⟨g, 0, none⟩) L0.length cap) L) ∧ Hid (Below w.heap.size w wr)) (fun i _ => (intOf i).toNat)
                case atStart => exact ⟨k, Nat.le_refl _, rfl, L, Lib.hid ⟨HS.out.1, ins_start HS.out.2⟩, HO, Lib.hid y1.2⟩
                case round =>
                  clear HS HO
                  obtain ⟨m, hm, rfl, L, HS, HO, hyB⟩ := hrel
                  obtain ⟨y2, rfl⟩ : ∃ y : Kin w, y.1 = wr := ⟨⟨wr, hyB.out⟩, rfl⟩
                  clear hyB
                  have hLl := HS.out.1.length_eq
                  by_cases hm0 : m = 0
                  · have hd := Lib.hid (ins_done HS.out.2 hm (.inl hm0))
                    go_wp2
                    ((refine wp_region_kinK (W := w) (by kernel_rfl) (by kernel_rfl) gRw ?_); (repeat' (first | go_big_quiet_step (fail) | ((refine wpQuiet_guard rfl rfl rfl rfl (fun hg => ?_) (fun hg => ?_)) <;> (fail_if_success (first | guard_hyp hg : true = true | guard_hyp hg : false = false)) <;> (try simp only [decide_eq_true_eq, decide_eq_false_iff_not] at hg) <;> simp only [Act.put, List.setIfInBounds_toArray, List.set_cons_zero, List.set_cons_succ]))); all_goals ((with_reducible refine wpQuiet_nil ?_); intro zq hz))
                    go_wp2
                    go_roundw
                    case rel => exact ⟨k + 1, by omega, by omega, by go_num, L, Lib.hid ⟨HS.out.1, hd.out⟩, Lib.hid (own_below HO.out hz), Lib.hid zq.2⟩
                    case measure => simp [intOf]; omega
                  · have c1 : y2.1.cell? ⟨g, m, none⟩ = some (.int .i64 (at_ L m)) := ownI_cell HO.out (by omega)
                    have c2 : y2.1.cell? ⟨g, m - 1, none⟩ = some (.int .i64 (at_ L (m - 1))) := ownI_cell HO.out (by omega)
                    have hO := HO.out.own
                    rw [hLl] at hO
                    have f1 : y2.1.frozen? ⟨g, m, none⟩ = false := hO.frozenAt _
                    have f2 : y2.1.frozen? ⟨g, m - 1, none⟩ = false := hO.frozenAt _
                    clear hO
                    have hgl := (HO.out.own.lt g rfl).2
                    have hmi : (0 : Int) < (m : Int) := by omega
                    have hmL : m < L0.length := by omega
                    have hw1 : IntKind.i64.wrap ((m : Int) - 1) = (m : Int) - 1 := IntWalk.i64_in _ (by omega)
                    have hw2 : ((m : Int) - 1).toNat = m - 1 := by omega
                    have hw3 : 0 ≤ (m : Int) - 1 := by omega
                    have hw4 : m - 1 < L0.length := by omega
                    go_wp2
                    ((refine wp_region_kinK (W := (Kin.wd y2)) (by kernel_rfl) (by kernel_rfl) gRw ?_); (repeat' (first | go_big_quiet_step (fail) | ((refine wpQuiet_guard rfl rfl rfl rfl (fun hg => ?_) (fun hg => ?_)) <;> (fail_if_success (first | guard_hyp hg : true = true | guard_hyp hg : false = false)) <;> (try simp only [decide_eq_true_eq, decide_eq_false_iff_not] at hg) <;> simp only [Act.put, List.setIfInBounds_toArray, List.set_cons_zero, List.set_cons_succ]))); all_goals ((with_reducible refine wpQuiet_nil ?_); intro zq hz))
                    go_wp2
                    all_goals
                      have hzb := y2.2.trans (zq.2.mono y2.2.size)
                      have hLz := Lib.hid (own_below HO.out zq.2)
                    all_goals first
                      | (have hsw : at_ L m < at_ L (m - 1) := by omega
                         go_roundw
                         case rel => exact ⟨m - 1, by omega, by rw [show ((m - 1 : Nat) : Int) = (m : Int) - 1 by omega], swp L m, Lib.hid ⟨(swp_perm (by omega) (by omega)).trans HS.out.1, ins_step HS.out.2 (by omega) hm (by omega) hsw⟩, Lib.hid (ownI_set (ownI_set hLz.out (by omega)) (by rw [List.length_set]; omega)), Lib.hid (Below.setCell (Below.setCell hzb hgb _) hgb _)⟩
                         case measure => simp [intOf]; omega)
                      | (have hd := Lib.hid (ins_done HS.out.2 hm (.inr (show at_ L (m - 1) ≤ at_ L m by omega)))
                         go_roundw
                         case rel => exact ⟨k + 1, by omega, by omega, by go_num, L, Lib.hid ⟨HS.out.1, hd.out⟩, hLz, Lib.hid hzb⟩
                         case measure => simp [intOf]; omega)
              · go_wp2
                go_ret
                have hLl := HS.out.1.length_eq
                exact ⟨⟨_, L, rfl, Rd.own encI_len (by rw [hLl]; have := HO.out.own; rwa [hLl] at this), by rw [← HL0.out]; exact HS.out.1, sort_done (fun p q h1 h2 => HS.out.2 p q h1 (by omega))⟩, gRw⟩
end Go.Proofs.YtneelidbgigehaaGreat
