/- The chapter's list of the cells of a region. -/
import Derived.Test.YtlhmopndnohnhaaRegMathB
import Derived.Test.YtlhmopndnohnhaaRegCount
import Derived.Test.YtlhmopndnohnhaaRegKitA
namespace Go.Proofs.Ytlhmopndnohnhaa
set_option linter.unusedSimpArgs false
set_option linter.unusedVariables false
open Go.RowKit Runs Reg
attribute [local go_sem] Kin.cell Kin.frozen Kin.lt0 Kin.lt1 Kin.lt2 Kin.lt3 run_mkf
def encPt (p : Int × Int) : List Value := [.int .i64 p.1, .int .i64 p.2]
theorem encPt_len (p : Int × Int) : (encPt p).length = 2 := rfl
theorem oneP : OneC encPt := fun x u hu => by simp [encPt] at hu; rcases hu with rfl | rfl <;> rfl
theorem infoCell : (Try.prog.info? 44).map (fun i => (i.zero, i.size, i.bytes)) = some (some (.agg #[.int .i64 0, .int .i64 0]), 2, 16) := by kernel_rfl
def OwnC (base : Nat) (W : World) (v : Value) (l : List (Int × Int)) : Prop := W.ownsRow base 44 2 v l.length (l.flatMap encPt)
theorem OwnC.own {base : Nat} {W : World} {v : Value} {l : List (Int × Int)} (h : OwnC base W v l) : W.ownsRow base 44 2 v l.length (l.flatMap encPt) := h
theorem OwnC.nil {base : Nat} {W : World} : OwnC base W (.slice none 0 0) [] := World.ownsRow_nil _ _ _ _
theorem OwnC.of {base : Nat} {W : World} {v : Value} {l : List (Int × Int)} (h : W.ownsRow base 44 2 v l.length (l.flatMap encPt)) : OwnC base W v l := h
set_option maxRecDepth 100000 in
set_option maxHeartbeats 8000000 in
theorem cells18_any (v : Value) (rows : List Reg.Row) (w : World) (h : RdReg w v rows) (hbd : RBd rows) :
    Calls Try.prog 21 #[v] w fun e w' => (∃ u, e = .returned u ∧ Rd 2 encPt w' u (cellsR rows)) ∧ Below w.heap.size w w' := by
  have H := Lib.hid h
  have Hbd := Lib.hid hbd
  obtain ⟨s, rfl, h⟩ := h
  obtain ⟨A, capA, rfl, hcapA, hopA⟩ := rows_open h
  have HA := Lib.hid hopA
  have HLA := Lib.hid h
  clear hopA h
  clear hbd
  cases hv : rvalid rows
  · go_enter Try.func21, Try.ntmps21
    go_wp2_with (go_at_call 30; (with_reducible refine (Kin.callK (W := w) (by repeat (first | with_reducible exact Below.refl _ _ | with_reducible exact Nat.le_refl _ | with_reducible refine Kin.below _ ?_ | with_reducible refine Below.alloc ?_ ?_ _ | with_reducible refine Below.drew ?_ | with_reducible refine Kin.le _ ?_ | with_reducible refine le_alloc ?_ _ | with_reducible refine le_drew ?_ | with_reducible refine Below.setCell ?_ ?_ _ | with_reducible exact Nat.le_refl _ | (simp only [World.size_alloc]; omega) | (simp <;> omega))) (valid18_is _ rows _ (H.out.below (by repeat (first | with_reducible exact Below.refl _ _ | with_reducible exact Nat.le_refl _ | with_reducible refine Kin.below _ ?_ | with_reducible refine Below.alloc ?_ ?_ _ | with_reducible refine Below.drew ?_ | with_reducible refine Kin.le _ ?_ | with_reducible refine le_alloc ?_ _ | with_reducible refine le_drew ?_ | with_reducible refine Below.setCell ?_ ?_ _ | with_reducible exact Nat.le_refl _ | (simp only [World.size_alloc]; omega) | (simp <;> omega)))) Hbd.out hv)).mono ?_); rintro e w' ⟨z, rfl, hz, rfl⟩)
    go_ret
    exact ⟨⟨_, rfl, by rw [cellsR, if_neg (by simp [hv])]; exact Rd.nil⟩, (by repeat (first | with_reducible exact Below.refl _ _ | with_reducible exact Nat.le_refl _ | with_reducible refine Kin.below _ ?_ | with_reducible refine Below.alloc ?_ ?_ _ | with_reducible refine Below.drew ?_ | with_reducible refine Kin.le _ ?_ | with_reducible refine le_alloc ?_ _ | with_reducible refine le_drew ?_ | with_reducible refine Below.setCell ?_ ?_ _ | with_reducible exact Nat.le_refl _ | (simp only [World.size_alloc]; omega) | (simp <;> omega)))⟩
  · have hlen : rows.length ≤ 8192 := (vreg_len (rvalid_iff.1 hv)).1
    have HV := Lib.hid (rvalid_iff.1 hv)
    go_enter Try.func21, Try.ntmps21
    go_wp2_with (go_at_call 30; (with_reducible refine (Kin.callK (W := w.alloc (.cells #[.slice A rows.length capA] 24)) (by repeat (first | with_reducible exact Below.refl _ _ | with_reducible exact Nat.le_refl _ | with_reducible refine Kin.below _ ?_ | with_reducible refine Below.alloc ?_ ?_ _ | with_reducible refine Below.drew ?_ | with_reducible refine Kin.le _ ?_ | with_reducible refine le_alloc ?_ _ | with_reducible refine le_drew ?_ | with_reducible refine Below.setCell ?_ ?_ _ | with_reducible exact Nat.le_refl _ | (simp only [World.size_alloc]; omega) | (simp <;> omega))) (valid18_is _ rows _ (H.out.below (by repeat (first | with_reducible exact Below.refl _ _ | with_reducible exact Nat.le_refl _ | with_reducible refine Kin.below _ ?_ | with_reducible refine Below.alloc ?_ ?_ _ | with_reducible refine Below.drew ?_ | with_reducible refine Kin.le _ ?_ | with_reducible refine le_alloc ?_ _ | with_reducible refine le_drew ?_ | with_reducible refine Below.setCell ?_ ?_ _ | with_reducible exact Nat.le_refl _ | (simp only [World.size_alloc]; omega) | (simp <;> omega)))) Hbd.out hv)).mono ?_); rintro e w' ⟨z, rfl, hz, rfl⟩)
    go_loopw [3, 4] (fun o i wr => ∃ k : Nat, k ≤ rows.length ∧ i = .int .i64 k ∧ Hid (OwnC (w.alloc (.cells #[.slice A rows.length capA] 24)).heap.size wr o (cellsTo rows k)) ∧ ∃ z : Kin (w.alloc (.cells #[.slice A rows.length capA] 24)), z.1 = wr) (fun _ i _ => rows.length - (intOf i).toNat)
    case atStart => exact ⟨0, Nat.zero_le _, rfl, Lib.hid OwnC.nil, z, rfl⟩
    case round =>
      obtain ⟨k, hk, rfl, HO, z, rfl⟩ := hrel
      have hsum := sumR_bd HV.out k hk
      have hcl := cellsTo_len HV.out k hk
      by_cases hlt : k < rows.length
      · obtain ⟨r, hr⟩ : ∃ el_, (rows)[k]? = some el_ := ⟨_, List.getElem?_eq_getElem (by first | exact hlt | omega)⟩
        obtain ⟨bA, offA, ⟨⟩, hbA, hcA⟩ := HA.out (k) _ hr
        have hbA2 : bA < w.heap.size + 1 := by omega
        have HAc := Lib.hid hcA
        clear hcA
        obtain ⟨S, capS, r_0, r_1, hcapS, hrS⟩ := HAc.out (k) r hr
        have HLS := Lib.hid hrS
        have Hr := Lib.hid hr
        clear hr hrS
        have hin : SepIn r.2 := (fine_sepIn.1 (HV.out.1 r (List.mem_of_getElem? Hr.out)).2).1
        have hll := sepIn_len hin
        have HIN := Lib.hid hin
        have HS := Lib.hid (Rd.op HLS.out)
        have HLS := Lib.hid HLS.out
        clear hin
        go_wp2
        go_loopw [3, 5] (fun o i wr => ∃ j : Nat, j ≤ r.2.length ∧ i = .int .i64 j ∧ Hid (OwnC (w.alloc (.cells #[.slice (some ⟨bA, offA, none⟩) rows.length capA] 24)).heap.size wr o (cellsTo rows k ++ rowCells r j)) ∧ ∃ z : Kin (w.alloc (.cells #[.slice (some ⟨bA, offA, none⟩) rows.length capA] 24)), z.1 = wr) (fun _ i _ => r.2.length - (intOf i).toNat)
        case atStart => exact ⟨0, Nat.zero_le _, rfl, Lib.hid (by simpa [rowCells] using HO.out), z, rfl⟩
        case round =>
          obtain ⟨j, hj, rfl, HO2, z2, rfl⟩ := hrel
          have hs2 := sumL_in (sepIn_take HIN.out j)
          have hcl2 := rowCells_len HIN.out j
          by_cases hlt2 : j < r.2.length
          · obtain ⟨e, he⟩ : ∃ el_, (r.2)[j]? = some el_ := ⟨_, List.getElem?_eq_getElem (by first | exact hlt2 | omega)⟩
            obtain ⟨bS, offS, rfl, hbS, hcS⟩ := HS.out (j) _ he
            have e_0 : w.cell? ⟨bS, offS + j * 2, none⟩ = some (.int .i64 e.1) := by exact hcS (j) _ he 0 _ rfl
            have e_1 : w.cell? ⟨bS, offS + j * 2 + 1, none⟩ = some (.int .i64 e.2) := by exact hcS (j) _ he 1 _ rfl
            have hbS2 : bS < w.heap.size + 1 := by omega
            have HSc := Lib.hid hcS
            have He := Lib.hid he
            clear he hcS
            have hei := HIN.out.2 e (List.mem_of_getElem? He.out)
            have hej := HIN.out.1.1 e (List.mem_of_getElem? He.out)
            go_wp2
            go_loopw [3, 6] (fun o x wr => ∃ n : Nat, e.1 + (n : Int) ≤ e.2 ∧ x = .int .i64 (e.1 + (n : Int)) ∧ Hid (OwnC (w.alloc (.cells #[.slice (some ⟨bA, offA, none⟩) rows.length capA] 24)).heap.size wr o (cellsTo rows k ++ rowCells r j ++ runC r.1 e n)) ∧ ∃ z : Kin (w.alloc (.cells #[.slice (some ⟨bA, offA, none⟩) rows.length capA] 24)), z.1 = wr) (fun _ x _ => (e.2 - intOf x).toNat)
            case atStart => exact ⟨0, by omega, by simp, Lib.hid (by simpa [runC] using HO2.out), z2, rfl⟩
            case round =>
              obtain ⟨n, hn, rfl, HO3, z3, rfl⟩ := hrel
              by_cases hlt3 : e.1 + (n : Int) < e.2
              · have hl3 : (cellsTo rows k ++ rowCells r j ++ runC r.1 e n).length ≤ 1073741824 := by
                  rw [List.length_append, List.length_append, runC_len]; omega
                have hcell : w.cell? ⟨bA, offA + k * 2, none⟩ = some (.int .i64 r.1) := r_0
                go_wp2_with (at_builtin; refine wpList_app _ rfl _ _ 41 rfl encPt_len (by decide) oneP (w.alloc (.cells #[.slice (some ⟨bA, offA, none⟩) rows.length capA] 24)).heap.size 44 (.agg #[.int .i64 0, .int .i64 0]) 16 infoCell rfl Try.underlying41 _ _ _ _ rfl (HO3.out.own.alloc _) _ _ _ rfl (rd_one _ encPt_len _ (e.1 + (n : Int), r.1) _ rfl) ?c1 (by decide) ?c2 ?_; (case c1 => (first | (simp only [List.length_append, List.length_cons, List.length_nil]; omega) | omega | (simp; omega))); (case c2 => exact (by repeat (first | with_reducible exact Nat.le_refl _ | assumption | with_reducible refine le_alloc ?_ _ | with_reducible refine le_drew ?_ | with_reducible refine Kin.le _ ?_ | assumption | omega | (simp only [World.size_alloc]; omega)))); intro v' w1 hown' hg hbel hat'; (obtain ⟨y, rfl⟩ : ∃ y : Kin (w.alloc (.cells #[.slice (some ⟨bA, offA, none⟩) rows.length capA] 24)), y.1 = w1 := ⟨⟨w1, Below.trans (by repeat (first | with_reducible exact Below.refl _ _ | with_reducible exact Nat.le_refl _ | with_reducible refine Kin.below _ ?_ | with_reducible refine Below.alloc ?_ ?_ _ | with_reducible refine Below.drew ?_ | with_reducible refine Kin.le _ ?_ | with_reducible refine le_alloc ?_ _ | with_reducible refine le_drew ?_ | with_reducible refine Below.setCell ?_ ?_ _ | with_reducible exact Nat.le_refl _ | (simp only [World.size_alloc]; omega) | (simp <;> omega))) hbel⟩, rfl⟩); clear hbel hg hat')
                go_roundw
                case rel => exact ⟨n + 1, by omega, by go_num, Lib.hid (OwnC.of (by rw [runC_succ, ← List.append_assoc]; exact hown')), y, rfl⟩
                case measure => simp [intOf]; omega
              · have en : n = (e.2 - e.1).toNat := by omega
                go_wp2
                go_roundw
                case rel => exact ⟨j + 1, by omega, by go_num, Lib.hid (by rw [rowCells_succ He.out, ← List.append_assoc, runCells, ← en]; exact HO3.out), z3, rfl⟩
                case measure => simp [intOf]; omega
          · have ej : j = r.2.length := by omega
            go_wp2
            go_roundw
            case rel => exact ⟨k + 1, by omega, by go_num, Lib.hid (by rw [cellsTo_succ Hr.out, ← ej]; exact HO2.out), z2, rfl⟩
            case measure => simp [intOf]; omega
      · go_wp2
        go_ret
        have ek : k = rows.length := by omega
        have h1 := HO.out
        rw [ek] at h1
        exact ⟨⟨_, rfl, by rw [cellsR, if_pos hv]; exact Rd.own encPt_len h1.own⟩, (by repeat (first | with_reducible exact Below.refl _ _ | with_reducible exact Nat.le_refl _ | with_reducible refine Kin.below _ ?_ | with_reducible refine Below.alloc ?_ ?_ _ | with_reducible refine Below.drew ?_ | with_reducible refine Kin.le _ ?_ | with_reducible refine le_alloc ?_ _ | with_reducible refine le_drew ?_ | with_reducible refine Below.setCell ?_ ?_ _ | with_reducible exact Nat.le_refl _ | (simp only [World.size_alloc]; omega) | (simp <;> omega)))⟩
end Go.Proofs.Ytlhmopndnohnhaa
