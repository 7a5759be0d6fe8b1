/- Cover of the program and of the chapter, walked: the cells of the valid tracks. -/
import Derived.Test.YtomndgjnhhchdaaTrkMem
import Derived.Test.YtomndgjnhhchdaaTrkOfW
import Derived.Test.YtomndgjnhhchdaaOf
namespace Go.Proofs.Ytomndgjnhhchdaa
set_option linter.unusedSimpArgs false
set_option linter.unusedVariables false
set_option maxRecDepth 100000
open Go Go.RowKit Trk Reg Runs
attribute [local go_sem] Kin.cell Kin.frozen Kin.lt0 Kin.lt1 Kin.lt2 Kin.lt3
/-- the cells of the valid tracks -/
def cellsT (l : List Tr) : List Cl := l.flatMap fun t => if tval t then t.2 else []
theorem cellsT_succ {l : List Tr} {k : Nat} {t : Tr} (h : l[k]? = some t) : cellsT (l.take (k + 1)) = cellsT (l.take k) ++ (if tval t then t.2 else []) := by
  unfold cellsT
  rw [List.take_add_one, h]
  simp
theorem cellsT_le (l : List Tr) (k : Nat) : (cellsT (l.take k)).length ≤ (cellsT l).length := by
  unfold cellsT
  conv => rhs; rw [← List.take_append_drop k l]
  rw [List.flatMap_append, List.length_append]
  omega
set_option maxHeartbeats 4000000 in
theorem cellsR_any (v : Value) (l : List Tr) (w : World) (h : RdTrs w v l) (hl : l.length ≤ 1099511627776) (hc : (cellsT l).length ≤ 1099511627776) :
    Calls Try.prog 40 #[v] w fun e w' => (∃ u, e = .returned u ∧ OwnC w.heap.size w' u (cellsT l)) ∧ Below w.heap.size w w' := by
  obtain ⟨A, capA, rfl, hcapA, hopA⟩ := trks_open h
  have HA := Lib.hid hopA
  obtain ⟨n, hL⟩ : ∃ n, l.length = n := ⟨_, rfl⟩
  have HL := Lib.hid hL
  have HBD := Lib.hid (fun k => Nat.le_trans (cellsT_le l k) hc)
  rw [hL] at hcapA hl ⊢
  clear hL hopA h
  go_enter Try.func40, Try.ntmps40
  go_wp2
  go_loopw [3, 8] (fun u i wr => ∃ k : Nat, k ≤ n ∧ i = .int .i64 k ∧ Hid (OwnC (w.heap.size) wr u (cellsT (l.take k))) ∧ Hid (w.heap.size ≤ wr.heap.size) ∧ ∃ y : Kin w, y.1 = wr) (fun _ i _ => n - (intOf i).toNat)
  case atStart => exact ⟨0, Nat.zero_le _, rfl, Lib.hid OwnC.nil, Lib.hid (by simp), ⟨_, Below.refl _ _⟩, rfl⟩
  case round =>
    obtain ⟨k, hk, rfl, HO, HSZ, yo, rfl⟩ := hrel
    by_cases hlt : k < n
    · obtain ⟨t, ht⟩ : ∃ t, l[k]? = some t := ⟨_, List.getElem?_eq_getElem (by rw [HL.out]; exact hlt)⟩
      obtain ⟨bA, offA, rfl, hbA, hcA⟩ := HA.out k t ht
      obtain ⟨S, capS, t_0, t_1, t_2, hcapS, hrS⟩ := hcA k t ht
      have HSC := Lib.hid (cellsT_succ ht)
      have hbk := HBD.out k
      have hbk1 := HBD.out (k + 1)
      rw [HSC.out, List.length_append] at hbk1
      obtain ⟨⟨r, cl⟩, cs⟩ := t
      simp only at t_0 t_1 t_2 hcapS hrS
      obtain ⟨nt, hnt⟩ : ∃ nt, cs.length = nt := ⟨_, rfl⟩
      have HNT := Lib.hid hnt
      rw [hnt] at t_2 hcapS hrS
      have HLS := Lib.hid hrS
      clear hnt hrS hcA ht
      cases hv : tval ((r, cl), cs)
      · have HSS := Lib.hid (show cellsT (l.take (k + 1)) = cellsT (l.take k) by rw [HSC.out, hv]; simp)
        clear hbk1
        go_wp2_with (go_at_call 12; (with_reducible refine (Kin.callK (W := w) (by repeat (first | with_reducible (first | exact blA | exact blB | refine blC _ ?_ | refine blD ?_ ?_ _ | refine blE ?_ | refine blF _ ?_ | refine blG ?_ _ | refine blH ?_ | refine blI ?_ ?_ _) | (simp only [World.size_alloc]; omega) | (simp <;> omega))) (validR_is r cl S capS cs _ HNT.out (HLS.out.below (by repeat (first | with_reducible (first | exact blA | exact blB | refine blC _ ?_ | refine blD ?_ ?_ _ | refine blE ?_ | refine blF _ ?_ | refine blG ?_ _ | refine blH ?_ | refine blI ?_ ?_ _) | (simp only [World.size_alloc]; omega) | (simp <;> omega)))) hv)).mono ?_); rintro e w' ⟨z, rfl, hz, rfl⟩; (have HYZ := Lib.hid ((Below.alloc (Below.refl (Kin.wd yo).heap.size (Kin.wd yo)) (Nat.le_refl _) (.cells #[.int .i64 r, .bool cl, .slice S nt capS] 24)).trans (hz.mono (by rw [World.size_alloc]; exact Nat.le_succ _)))))
        go_roundw
        case rel => exact ⟨k + 1, by omega, by go_num, Lib.hid (by rw [HSS.out]; exact own_below HO.out.own HYZ.out), Lib.hid (Nat.le_trans HSZ.out HYZ.out.size), z, rfl⟩
        case measure => simp [intOf]; omega
      · have HSS := Lib.hid (show cellsT (l.take (k + 1)) = cellsT (l.take k) ++ cs by rw [HSC.out, hv]; rfl)
        rw [hv, if_pos rfl, HNT.out] at hbk1
        obtain ⟨C0, hC0⟩ : ∃ C0, cellsT (l.take k) = C0 := ⟨_, rfl⟩
        rw [hC0] at HSS hbk hbk1 HO
        clear hC0 HSC
        go_wp2_with (first
          | (go_at_call 12; (with_reducible refine (Kin.callK (W := w) (by repeat (first | with_reducible (first | exact blA | exact blB | refine blC _ ?_ | refine blD ?_ ?_ _ | refine blE ?_ | refine blF _ ?_ | refine blG ?_ _ | refine blH ?_ | refine blI ?_ ?_ _) | (simp only [World.size_alloc]; omega) | (simp <;> omega))) (validR_is r cl S capS cs _ HNT.out (HLS.out.below (by repeat (first | with_reducible (first | exact blA | exact blB | refine blC _ ?_ | refine blD ?_ ?_ _ | refine blE ?_ | refine blF _ ?_ | refine blG ?_ _ | refine blH ?_ | refine blI ?_ ?_ _) | (simp only [World.size_alloc]; omega) | (simp <;> omega)))) hv)).mono ?_); rintro e w' ⟨z, rfl, hz, rfl⟩; (have HYZ := Lib.hid ((Below.alloc (Below.refl (Kin.wd yo).heap.size (Kin.wd yo)) (Nat.le_refl _) (.cells #[.int .i64 r, .bool cl, .slice S nt capS] 24)).trans (hz.mono (by rw [World.size_alloc]; exact Nat.le_succ _))); have PT := Lib.hid ((Blk.new (Kin.wd yo) 24 #[.int .i64 r, .bool cl, .slice S nt capS]).below hz); have p2 : (Kin.wd z).cell? ⟨(Kin.wd yo).heap.size, 2, none⟩ = some (.slice S nt capS) := PT.out.cell 2; have pl := PT.out.lt; have HOZ := Lib.hid (own_below HO.out.own HYZ.out); have hle : w.heap.size ≤ (Kin.wd z).heap.size := Nat.le_trans HSZ.out HYZ.out.size; have hc1 : C0.length + nt < maxLen := (by unfold maxLen; omega)))
          | (at_builtin; refine wpList_app _ rfl _ _ 22 rfl encPt_len (by decide) oneP (w.heap.size) 31 (.agg #[.int .i64 0, .int .i64 0]) 16 infoCell rfl Try.underlying22 _ _ _ _ rfl (HOZ.out) _ _ _ rfl (HLS.out.below (by repeat (first | with_reducible (first | exact blA | exact blB | refine blC _ ?_ | refine blD ?_ ?_ _ | refine blE ?_ | refine blF _ ?_ | refine blG ?_ _ | refine blH ?_ | refine blI ?_ ?_ _) | (simp only [World.size_alloc]; omega) | (simp <;> omega)))) ?c1 (by decide) ?c2 ?_; (case c1 => (first | (simp only [List.length_append, List.length_cons, List.length_nil]; omega) | omega | (simp; omega))); (case c2 => exact (by repeat (first | with_reducible exact Nat.le_refl _ | assumption | with_reducible refine le_alloc ?_ _ | with_reducible refine le_drew ?_ | with_reducible refine Kin.le _ ?_ | assumption | omega | (simp only [World.size_alloc]; omega)))); intro v' w1 hown' hg hbel hat'; skip))
        have HON := Lib.hid (OwnC.of hown')
        have HWB := Lib.hid (show Below w.heap.size w w1 from z.2.trans (hbel.mono (Nat.le_refl _)))
        have hs11 : w.heap.size ≤ w1.heap.size := Nat.le_trans hle hg.size
        go_roundw
        case rel => exact ⟨k + 1, by omega, by go_num, Lib.hid (by rw [HSS.out]; exact HON.out), Lib.hid hs11, ⟨_, HWB.out⟩, rfl⟩
        case measure => simp [intOf]; omega
    · have hkn : k = n := by omega
      subst hkn
      have hall : cellsT (l.take k) = cellsT l := by rw [List.take_of_length_le (by rw [HL.out]; exact Nat.le_refl _)]
      rw [hall] at HO
      go_wp2
      go_ret
      exact ⟨⟨_, rfl, HO.out⟩, (by repeat (first | with_reducible (first | exact blA | exact blB | refine blC _ ?_ | refine blD ?_ ?_ _ | refine blE ?_ | refine blF _ ?_ | refine blG ?_ _ | refine blH ?_ | refine blI ?_ ?_ _) | (simp only [World.size_alloc]; omega) | (simp <;> omega)))⟩
set_option maxHeartbeats 8000000 in
theorem cover_any (v : Value) (l : List Tr) (w : World) (h : RdTrs w v l) (hl : l.length ≤ 1099511627776) (hc : (cellsT l).length ≤ 1099511627776) :
    Calls Try.prog 20 #[v] w fun e w' => (∃ A n c, e = .returned (.agg #[.slice A n c]) ∧ RdReg w' (.agg #[.slice A n c]) (ofR (cellsT l))) ∧ Below w.heap.size w w' := by
  obtain ⟨A, capA, rfl, hcapA, hopA⟩ := trks_open h
  have HA := Lib.hid hopA
  obtain ⟨n, hL⟩ : ∃ n, l.length = n := ⟨_, rfl⟩
  have HL := Lib.hid hL
  have HBD := Lib.hid (fun k => Nat.le_trans (cellsT_le l k) hc)
  rw [hL] at hcapA hl ⊢
  clear hL hopA h
  obtain ⟨W1, hW1⟩ : ∃ W1, W1 = w.alloc (.cells #[.slice none 0 0] 37) := ⟨_, rfl⟩
  have HB1 := Lib.hid (show Blk W1 w.heap.size 37 #[.slice none 0 0] from hW1 ▸ Blk.new _ _ _)
  have HBW := Lib.hid (show Below w.heap.size w W1 from hW1 ▸ (by repeat (first | with_reducible (first | exact blA | exact blB | refine blC _ ?_ | refine blD ?_ ?_ _ | refine blE ?_ | refine blF _ ?_ | refine blG ?_ _ | refine blH ?_ | refine blI ?_ ?_ _) | (simp only [World.size_alloc]; omega) | (simp <;> omega))))
  have hz1 : W1.heap.size = w.heap.size + 1 := by rw [hW1, World.size_alloc]
  have HA1 := Lib.hid (show ∀ (k : Nat) t, l[k]? = some t → True from fun _ _ _ => trivial)
  go_enter Try.func20, Try.ntmps20
  go_wp2
  rw [← hW1]
  clear hW1
  go_loopw [3, 10] (fun u i wr => ∃ k : Nat, k ≤ n ∧ i = .int .i64 k ∧ Hid (OwnC (W1.heap.size) wr u (cellsT (l.take k))) ∧ Hid (W1.heap.size ≤ wr.heap.size) ∧ ∃ y : Kin W1, y.1 = wr) (fun _ i _ => n - (intOf i).toNat)
  case atStart => exact ⟨0, Nat.zero_le _, rfl, Lib.hid OwnC.nil, Lib.hid (by simp), ⟨_, Below.refl _ _⟩, rfl⟩
  case round =>
    obtain ⟨k, hk, rfl, HO, HSZ, yo, rfl⟩ := hrel
    by_cases hlt : k < n
    · obtain ⟨t, ht⟩ : ∃ t, l[k]? = some t := ⟨_, List.getElem?_eq_getElem (by rw [HL.out]; exact hlt)⟩
      obtain ⟨bA, offA, rfl, hbA, hcA⟩ := HA.out k t ht
      obtain ⟨S, capS, t_0, t_1, t_2, hcapS, hrS⟩ := hcA k t ht
      have hbA1 : bA < W1.heap.size := Nat.lt_of_lt_of_le hbA HBW.out.size
      have u_0 : W1.cell? ⟨bA, offA + k * 3, none⟩ = _ := (HBW.out.cell (p := ⟨bA, _, none⟩) hbA).trans t_0
      have u_1 : W1.cell? ⟨bA, offA + k * 3 + 1, none⟩ = _ := (HBW.out.cell (p := ⟨bA, _, none⟩) hbA).trans t_1
      have u_2 : W1.cell? ⟨bA, offA + k * 3 + 2, none⟩ = _ := (HBW.out.cell (p := ⟨bA, _, none⟩) hbA).trans t_2
      have HSC := Lib.hid (cellsT_succ ht)
      have hbk := HBD.out k
      have hbk1 := HBD.out (k + 1)
      rw [HSC.out, List.length_append] at hbk1
      obtain ⟨⟨r, cl⟩, cs⟩ := t
      simp only at u_0 u_1 u_2 hcapS hrS
      clear t_0 t_1 t_2
      obtain ⟨nt, hnt⟩ : ∃ nt, cs.length = nt := ⟨_, rfl⟩
      have HNT := Lib.hid hnt
      rw [hnt] at u_2 hcapS hrS
      have HLS := Lib.hid hrS
      clear hnt hrS hcA ht
      cases hv : tval ((r, cl), cs)
      · have HSS := Lib.hid (show cellsT (l.take (k + 1)) = cellsT (l.take k) by rw [HSC.out, hv]; simp)
        clear hbk1
        go_wp2_with (go_at_call 11; (with_reducible refine (Kin.callK (W := W1) (by repeat (first | with_reducible (first | exact blA | exact blB | refine blC _ ?_ | refine blD ?_ ?_ _ | refine blE ?_ | refine blF _ ?_ | refine blG ?_ _ | refine blH ?_ | refine blI ?_ ?_ _) | (simp only [World.size_alloc]; omega) | (simp <;> omega))) (validT_is r cl S capS cs _ HNT.out ((HLS.out.below HBW.out).below (by repeat (first | with_reducible (first | exact blA | exact blB | refine blC _ ?_ | refine blD ?_ ?_ _ | refine blE ?_ | refine blF _ ?_ | refine blG ?_ _ | refine blH ?_ | refine blI ?_ ?_ _) | (simp only [World.size_alloc]; omega) | (simp <;> omega)))) hv)).mono ?_); rintro e w' ⟨z, rfl, hz, rfl⟩; (have HYZ := Lib.hid ((Below.alloc (Below.refl (Kin.wd yo).heap.size (Kin.wd yo)) (Nat.le_refl _) (.cells #[.int .i64 r, .bool cl, .slice S nt capS] 24)).trans (hz.mono (by rw [World.size_alloc]; exact Nat.le_succ _)))))
        go_roundw
        case rel => exact ⟨k + 1, by omega, by go_num, Lib.hid (by rw [HSS.out]; exact own_below HO.out.own HYZ.out), Lib.hid (Nat.le_trans HSZ.out HYZ.out.size), z, rfl⟩
        case measure => simp [intOf]; omega
      · have HSS := Lib.hid (show cellsT (l.take (k + 1)) = cellsT (l.take k) ++ cs by rw [HSC.out, hv]; rfl)
        rw [hv, if_pos rfl, HNT.out] at hbk1
        obtain ⟨C0, hC0⟩ : ∃ C0, cellsT (l.take k) = C0 := ⟨_, rfl⟩
        rw [hC0] at HSS hbk hbk1 HO
        clear hC0 HSC
        go_wp2_with (first
          | (go_at_call 11; (with_reducible refine (Kin.callK (W := W1) (by repeat (first | with_reducible (first | exact blA | exact blB | refine blC _ ?_ | refine blD ?_ ?_ _ | refine blE ?_ | refine blF _ ?_ | refine blG ?_ _ | refine blH ?_ | refine blI ?_ ?_ _) | (simp only [World.size_alloc]; omega) | (simp <;> omega))) (validT_is r cl S capS cs _ HNT.out ((HLS.out.below HBW.out).below (by repeat (first | with_reducible (first | exact blA | exact blB | refine blC _ ?_ | refine blD ?_ ?_ _ | refine blE ?_ | refine blF _ ?_ | refine blG ?_ _ | refine blH ?_ | refine blI ?_ ?_ _) | (simp only [World.size_alloc]; omega) | (simp <;> omega)))) hv)).mono ?_); rintro e w' ⟨z, rfl, hz, rfl⟩; (have HYZ := Lib.hid ((Below.alloc (Below.refl (Kin.wd yo).heap.size (Kin.wd yo)) (Nat.le_refl _) (.cells #[.int .i64 r, .bool cl, .slice S nt capS] 24)).trans (hz.mono (by rw [World.size_alloc]; exact Nat.le_succ _))); have PT := Lib.hid ((Blk.new (Kin.wd yo) 24 #[.int .i64 r, .bool cl, .slice S nt capS]).below hz); have p2 : (Kin.wd z).cell? ⟨(Kin.wd yo).heap.size, 2, none⟩ = some (.slice S nt capS) := PT.out.cell 2; have pl := PT.out.lt; have HOZ := Lib.hid (own_below HO.out.own HYZ.out); have hle : W1.heap.size ≤ (Kin.wd z).heap.size := Nat.le_trans HSZ.out HYZ.out.size; have hc1 : C0.length + nt < maxLen := (by unfold maxLen; omega)))
          | (at_builtin; refine wpList_app _ rfl _ _ 22 rfl encPt_len (by decide) oneP (W1.heap.size) 31 (.agg #[.int .i64 0, .int .i64 0]) 16 infoCell rfl Try.underlying22 _ _ _ _ rfl (HOZ.out) _ _ _ rfl ((HLS.out.below HBW.out).below (by repeat (first | with_reducible (first | exact blA | exact blB | refine blC _ ?_ | refine blD ?_ ?_ _ | refine blE ?_ | refine blF _ ?_ | refine blG ?_ _ | refine blH ?_ | refine blI ?_ ?_ _) | (simp only [World.size_alloc]; omega) | (simp <;> omega)))) ?c1 (by decide) ?c2 ?_; (case c1 => (first | (simp only [List.length_append, List.length_cons, List.length_nil]; omega) | omega | (simp; omega))); (case c2 => exact (by repeat (first | with_reducible exact Nat.le_refl _ | assumption | with_reducible refine le_alloc ?_ _ | with_reducible refine le_drew ?_ | with_reducible refine Kin.le _ ?_ | assumption | omega | (simp only [World.size_alloc]; omega)))); intro v' w1 hown' hg hbel hat'; skip))
        have HON := Lib.hid (OwnC.of hown')
        have HWB := Lib.hid (show Below W1.heap.size W1 w1 from z.2.trans (hbel.mono (Nat.le_refl _)))
        have hs11 : W1.heap.size ≤ w1.heap.size := Nat.le_trans hle hg.size
        go_roundw
        case rel => exact ⟨k + 1, by omega, by go_num, Lib.hid (by rw [HSS.out]; exact HON.out), Lib.hid hs11, ⟨_, HWB.out⟩, rfl⟩
        case measure => simp [intOf]; omega
    · have hkn : k = n := by omega
      subst hkn
      have hall : cellsT (l.take k) = cellsT l := by rw [List.take_of_length_le (by rw [HL.out]; exact Nat.le_refl _)]
      rw [hall] at HO
      have hrd := Rd.own encPt_len HO.out.own
      have HR := Lib.hid hrd
      clear hrd
      go_wp2_with (go_at_call 38; (with_reducible refine (Kin.callK (W := W1) (by repeat (first | with_reducible (first | exact blA | exact blB | refine blC _ ?_ | refine blD ?_ ?_ _ | refine blE ?_ | refine blF _ ?_ | refine blG ?_ _ | refine blH ?_ | refine blI ?_ ?_ _) | (simp only [World.size_alloc]; omega) | (simp <;> omega))) (of_any _ (cellsT l) _ HR.out hc)).mono ?_); rintro e w' ⟨z, ⟨A2, n2, c2, rfl, hr2⟩, hz, rfl⟩; (have HR2 := Lib.hid hr2; have B1 := Lib.hid (HB1.out.below z.2); have q0 : (Kin.wd z).cell? ⟨w.heap.size, 0, none⟩ = some (.slice none 0 0) := B1.out.cell 0; have f0 : (Kin.wd z).frozen? ⟨w.heap.size, 0, none⟩ = false := B1.out.frozen 0; have ql := B1.out.lt; clear hr2))
      have HZW := Lib.hid (show Below w.heap.size w z.1 from HBW.out.trans (z.2.mono (by omega)))
      ((try simp only [Exit.inBlock, Exit.then]); refine bodyPost_ret (results_cell_row rfl _ _ _ _ _ (0, 0) _ rfl ((B1.out.set_ 0 _).below (Below.alloc (Below.refl _ _) (Nat.le_refl _) _)) Try.underlying37 rfl (by kernel_rfl)) rfl ?_)
      obtain ⟨zz, hzz⟩ : ∃ zz : Kin w, zz.1 = z.1 := ⟨⟨z.1, HZW.out⟩, rfl⟩
      exact ⟨⟨_, _, _, rfl, (HR2.out.set_ B1.out).below (Below.alloc (Below.refl _ _) (Nat.le_refl _) _)⟩, by rw [← hzz]; have hsz := zz.2.size; exact (by repeat (first | with_reducible (first | exact blA | exact blB | refine blC _ ?_ | refine blD ?_ ?_ _ | refine blE ?_ | refine blF _ ?_ | refine blG ?_ _ | refine blH ?_ | refine blI ?_ ?_ _) | (simp only [World.size_alloc]; omega) | (simp <;> omega)))⟩
set_option maxHeartbeats 4000000 in
theorem coverR_any (v : Value) (l : List Tr) (w : World) (h : RdTrs w v l) (hl : l.length ≤ 1099511627776) (hc : (cellsT l).length ≤ 1099511627776) :
    Calls Try.prog 22 #[v] w fun e w' => (∃ A n c, e = .returned (.agg #[.slice A n c]) ∧ RdReg w' (.agg #[.slice A n c]) (ofR (cellsT l))) ∧ Below w.heap.size w w' := by
  obtain ⟨A, capA, rfl, hcapA, hopA⟩ := trks_open h
  have HH := Lib.hid h
  clear hopA h
  have HW1 := Lib.hid (show Below w.heap.size w (w.alloc (.cells #[.slice none 0 0] 37)) from (by repeat (first | with_reducible (first | exact blA | exact blB | refine blC _ ?_ | refine blD ?_ ?_ _ | refine blE ?_ | refine blF _ ?_ | refine blG ?_ _ | refine blH ?_ | refine blI ?_ ?_ _) | (simp only [World.size_alloc]; omega) | (simp <;> omega))))
  have hB := Lib.hid (Blk.new w 37 #[.slice none 0 0])
  go_enter Try.func22, Try.ntmps22
  go_wp2_with (first
    | (go_at_call 40; (with_reducible refine (Kin.callK (W := w.alloc (.cells #[.slice none 0 0] 37)) (by repeat (first | with_reducible (first | exact blA | exact blB | refine blC _ ?_ | refine blD ?_ ?_ _ | refine blE ?_ | refine blF _ ?_ | refine blG ?_ _ | refine blH ?_ | refine blI ?_ ?_ _) | (simp only [World.size_alloc]; omega) | (simp <;> omega))) (cellsR_any _ l _ (RdN.below HH.out HW1.out) hl hc)).mono ?_); rintro e w' ⟨z, ⟨u, rfl, hu⟩, hz, rfl⟩; (have hrd := Rd.own encPt_len hu.own; have HR := Lib.hid hrd; have B0 := Lib.hid (hB.out.below z.2); clear hu hrd))
    | (go_at_call 39; (with_reducible refine (Kin.callK (W := w.alloc (.cells #[.slice none 0 0] 37)) (by repeat (first | with_reducible (first | exact blA | exact blB | refine blC _ ?_ | refine blD ?_ ?_ _ | refine blE ?_ | refine blF _ ?_ | refine blG ?_ _ | refine blH ?_ | refine blI ?_ ?_ _) | (simp only [World.size_alloc]; omega) | (simp <;> omega))) (of18_any _ (cellsT l) _ (HR.out.below (by repeat (first | with_reducible (first | exact blA | exact blB | refine blC _ ?_ | refine blD ?_ ?_ _ | refine blE ?_ | refine blF _ ?_ | refine blG ?_ _ | refine blH ?_ | refine blI ?_ ?_ _) | (simp only [World.size_alloc]; omega) | (simp <;> omega)))) hc)).mono ?_); rintro e w' ⟨z2, ⟨A2, n2, c2, rfl, hr2⟩, hz2, rfl⟩; (have HR2 := Lib.hid hr2; have B1 := Lib.hid (hB.out.below z2.2); have q0 : (Kin.wd z2).cell? ⟨w.heap.size, 0, none⟩ = some (.slice none 0 0) := B1.out.cell 0; have f0 : (Kin.wd z2).frozen? ⟨w.heap.size, 0, none⟩ = false := B1.out.frozen 0; have ql := B1.out.lt; clear hr2)))
  ((try simp only [Exit.inBlock, Exit.then]); refine bodyPost_ret (results_cell_row rfl _ _ _ _ _ (0, 0) _ rfl ((B1.out.set_ 0 _).below (Below.alloc (Below.refl _ _) (Nat.le_refl _) _)) Try.underlying37 rfl (by kernel_rfl)) rfl ?_)
  exact ⟨⟨_, _, _, rfl, (HR2.out.set_ B1.out).below (by repeat (first | with_reducible (first | exact blA | exact blB | refine blC _ ?_ | refine blD ?_ ?_ _ | refine blE ?_ | refine blF _ ?_ | refine blG ?_ _ | refine blH ?_ | refine blI ?_ ?_ _) | (simp only [World.size_alloc]; omega) | (simp <;> omega)))⟩, (by repeat (first | with_reducible (first | exact blA | exact blB | refine blC _ ?_ | refine blD ?_ ?_ _ | refine blE ?_ | refine blF _ ?_ | refine blG ?_ _ | refine blH ?_ | refine blI ?_ ?_ _) | (simp only [World.size_alloc]; omega) | (simp <;> omega)))⟩
end Go.Proofs.Ytomndgjnhhchdaa
