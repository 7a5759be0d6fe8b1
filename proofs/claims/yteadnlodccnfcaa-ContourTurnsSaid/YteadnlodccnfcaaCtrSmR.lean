/- Simplify of the chapter: walked. -/
import Derived.Test.YteadnlodccnfcaaCtrSmp
namespace Go.Proofs.Yteadnlodccnfcaa
set_option linter.unusedSimpArgs false
set_option linter.unusedVariables false
set_option maxRecDepth 100000
open Go.RowKit Planar
attribute [local go_sem] Kin.cell Kin.frozen Kin.lt0 Kin.lt1 Kin.lt2 Kin.lt3 run_mkf
theorem flatF_cases (l : List Pt) : (flatF l = -1 ∧ ∀ j, j < l.length → flatAt l j = false) ∨ ∃ k : Nat, k < l.length ∧ flatF l = k ∧ flatAt l k = true ∧ ∀ j, j < k → flatAt l j = false := by
  have key : ∀ n, n ≤ l.length → (∀ j, j < n → flatAt l j = false) ∨ ∃ k : Nat, k < l.length ∧ flatAt l k = true ∧ ∀ j, j < k → flatAt l j = false := by
    intro n
    induction n with
    | zero => exact fun _ => .inl fun j h => absurd h (by omega)
    | succ n ih =>
      intro hn
      rcases ih (by omega) with h | h
      · cases hf : flatAt l n
        · exact .inl fun j hj => by
            rcases Nat.lt_or_ge j n with h1 | h1
            · exact h j h1
            · rw [show j = n by omega]; exact hf
        · exact .inr ⟨n, by omega, hf, h⟩
      · exact .inr h
  rcases key l.length (Nat.le_refl _) with h | ⟨k, h1, h2, h3⟩
  · exact .inl ⟨flatF_none h, h⟩
  · exact .inr ⟨k, h1, flatF_some h1 h2 h3, h2, h3⟩
theorem Rd.drop2 {α : Type} {k : Nat} {enc : α → List Value} {W : World} {A : Option Addr} {n c m : Nat} {xs : List α} (h : Rd k enc W (.slice A n c) xs) (hm : m ≤ n) (c' : Nat) (hc : n - m ≤ c') (B : Option Addr) (hB : ∀ b off, A = some ⟨b, off, none⟩ → m < n → B = some ⟨b, off + m * k, none⟩) : Rd k enc W (.slice B (n - m) c') (xs.drop m) := by
  obtain ⟨A', cap, hv, hc2, hr⟩ := h
  injection hv with e1 e2 e3
  subst e1 e2
  refine ⟨B, c', by rw [List.length_drop], by rw [List.length_drop]; exact hc, ?_⟩
  by_cases hm2 : m < xs.length
  · rcases hr with rfl | ⟨b, off, rfl, hb, hcell⟩
    · simp at hm2
    · right
      refine ⟨b, off + m * k, hB b off rfl hm2, hb, fun i x hx j u hu => ?_⟩
      rw [List.getElem?_drop] at hx
      have := hcell (m + i) x hx j u hu
      rw [Nat.add_mul] at this
      rw [Nat.add_assoc off]; exact this
  · left; exact List.drop_of_length_le (by omega)
set_option maxHeartbeats 8000000 in
theorem simpR_any (w : World) (A : Option Addr) (n c : Nat) (l : List Pt) (h : Rd 2 encPt w (.slice A n c) l) (hl : l.length ≤ 1000000) :
    Calls Try.prog 31 #[.agg #[.slice A n c]] w fun e w' => (∃ u, e = .returned (.agg #[u]) ∧ w'.ownsRow (w.heap.size + 1 + 1) 36 2 u (resP l).length ((resP l).flatMap encPt)) ∧ Below w.heap.size w w' := by
  have HLA := Lib.hid h
  obtain ⟨N, hN⟩ : ∃ N, l.length = N := ⟨_, rfl⟩
  have HN := Lib.hid hN
  have hnN : n = N := by
    obtain ⟨A', c', e, _⟩ := h
    injection e with _ e2
    rw [← hN]; exact e2
  subst hnN
  have hln : l.length ≤ 1000000 := hl
  rw [hN] at hl
  clear h hN
  have xo := own_made ((w.alloc (.cells #[.slice A n c] 42)).alloc (.cells #[.slice none 0 0] 42)) encPt_len (w.heap.size + 1 + 1) 36 ([] : List Pt) #[] rfl (by simp only [World.size_alloc]; omega) (by decide)
  simp only [World.size_alloc] at xo
  have HE2 := Lib.hid (show ((w.alloc (.cells #[.slice A n c] 42)).alloc (.cells #[.slice none 0 0] 42)).heap.size = w.heap.size + 1 + 1 by simp only [World.size_alloc])
  have HXO := Lib.hid (show (((w.alloc (.cells #[.slice A n c] 42)).alloc (.cells #[.slice none 0 0] 42)).alloc (.cells #[] 36)).ownsRow ((w.alloc (.cells #[.slice A n c] 42)).alloc (.cells #[.slice none 0 0] 42)).heap.size 36 2 (.slice (some ⟨w.heap.size + 1 + 1, 0, none⟩) 0 0) 0 (([] : List Pt).flatMap encPt) by rw [HE2.out]; exact xo)
  clear xo
  go_enter Try.func31, Try.ntmps31
  go_wp2_with (first
    | (at_builtin; refine wpList_app _ rfl _ _ 40 rfl encPt_len (by decide) oneP ((w.alloc (.cells #[.slice A n c] 42)).alloc (.cells #[.slice none 0 0] 42)).heap.size 36 (.agg #[.int .i64 0, .int .i64 0]) 16 infoPt rfl Try.underlying40 _ _ _ _ rfl (HXO.out) _ _ _ rfl (HLA.out.below (by repeat (first | with_reducible (first | exact blA | exact blB | refine blC _ ?_ | refine blD ?_ ?_ _ | refine blE ?_ | refine blF _ ?_ | refine blG ?_ _ | refine blH ?_ | refine blI ?_ ?_ _) | (simp only [World.size_alloc]; omega) | (simp <;> omega)))) ?c1 (by decide) ?c2 ?_; (case c1 => (first | (simp only [List.length_append, List.length_cons, List.length_nil]; omega) | omega | (simp; omega))); (case c2 => exact (by repeat (first | with_reducible exact Nat.le_refl _ | assumption | with_reducible refine le_alloc ?_ _ | with_reducible refine le_drew ?_ | with_reducible refine Kin.le _ ?_ | assumption | omega | (simp only [World.size_alloc]; omega)))); intro v' w1 hown' hg hbel hat'; (rw [HE2.out] at hbel hown'; have HBL := Lib.hid hbel; have HS1 := Lib.hid (show w1.ownsRow (w.heap.size + 1 + 1) 36 2 v' l.length (l.flatMap encPt) by simpa using hown'); (obtain ⟨y1, rfl⟩ : ∃ y : Kin w, y.1 = w1 := ⟨⟨w1, (show Below w.heap.size w _ from (by repeat (first | with_reducible (first | exact blA | exact blB | refine blC _ ?_ | refine blD ?_ ?_ _ | refine blE ?_ | refine blF _ ?_ | refine blG ?_ _ | refine blH ?_ | refine blI ?_ ?_ _) | (simp only [World.size_alloc]; omega) | (simp <;> omega)))).trans (hbel.mono (show w.heap.size ≤ w.heap.size + 1 + 1 by omega))⟩, rfl⟩); clear hbel hg hat' hown'))
    | (go_at_call 49; (with_reducible refine (Kin.callK (W := w) (by repeat (first | with_reducible (first | exact blA | exact blB | refine blC _ ?_ | refine blD ?_ ?_ _ | refine blE ?_ | refine blF _ ?_ | refine blG ?_ _ | refine blH ?_ | refine blI ?_ ?_ _) | (simp only [World.size_alloc]; omega) | (simp <;> omega))) (flatR_any _ l _ (Rd.own' encPt_len (by decide) HS1.out) hln)).mono ?_); rintro e w' ⟨z1, rfl, hz1, rfl⟩; (have HZ1 := Lib.hid hz1; clear hz1)))
  have B2 := Blk.new (w.alloc (.cells #[.slice A n c] 42)) 42 #[.slice none 0 0]
  have O2 := own_below HS1.out HZ1.out
  have O3 := HBL.out.block (w.heap.size + 1) (by omega)
  simp only [World.size_alloc] at B2
  have B4 := (show Blk (((w.alloc (.cells #[.slice A n c] 42)).alloc (.cells #[.slice none 0 0] 42)).alloc (.cells #[] 36)) (w.heap.size + 1) 42 #[.slice none 0 0] from B2.up _)
  have B5 := (show Blk y1.1 (w.heap.size + 1) 42 #[.slice none 0 0] from O3.trans B4).below HZ1.out
  have HO2 := Lib.hid O2
  have HB2 := Lib.hid B5
  clear B2 O2 O3 B4 B5 HS1 HZ1 HBL HXO HE2 HLA
  go_loopw [3, 4] (fun s i wr => ∃ L : List Pt, i = .int .i64 (flatF L) ∧ Hid (L.length ≤ n ∧ simP L = simP l) ∧ Hid (wr.ownsRow (w.heap.size + 1 + 1) 36 2 s L.length (L.flatMap encPt)) ∧ Hid (Blk wr (w.heap.size + 1) 42 #[.slice none 0 0]) ∧ ∃ y : Kin w, y.1 = wr) (fun s _ _ => lenS s)
  case atStart => exact ⟨l, rfl, Lib.hid ⟨by rw [HN.out]; exact Nat.le_refl _, rfl⟩, HO2, HB2, z1, rfl⟩
  case round =>
    clear HO2 HB2
    obtain ⟨L, rfl, HI, HO, HB, y, rfl⟩ := hrel
    obtain ⟨m, hm⟩ : ∃ m, L.length = m := ⟨_, rfl⟩
    have hmN := HI.out.1
    rw [hm] at hmN HO
    have HM := Lib.hid hm
    clear hm
    have hown := HO.out
    rcases flatF_cases L with ⟨hf, hall⟩ | ⟨k, hk, hf, hfl, hbf⟩
    · have HR := Lib.hid (show simP l = L from by rw [← HI.out.2]; exact simP_none hall)
      rw [hf]
      have b_0 : y.1.cell? ⟨w.heap.size + 1, 0, none⟩ = some (.slice none 0 0) := HB.out.cell 0
      have bf_0 : y.1.frozen? ⟨w.heap.size + 1, 0, none⟩ = false := HB.out.frozen 0
      have bl := HB.out.lt
      clear hf hall
      rcases own_shape2 hown with ⟨rfl, h0⟩ | ⟨g, cap, rfl, hbase, hg, hTc⟩
      · subst h0
        go_wp2_with fail
        ((try simp only [Exit.inBlock, Exit.then]); refine bodyPost_ret (results_cell_row rfl _ _ _ _ _ (0, 0) _ rfl (HB.out.set_ 0 _) Try.underlying42 rfl (by kernel_rfl)) rfl ?_)
        refine ⟨⟨_, rfl, ?_⟩, (by repeat (first | with_reducible (first | exact blA | exact blB | refine blC _ ?_ | refine blD ?_ ?_ _ | refine blE ?_ | refine blF _ ?_ | refine blG ?_ _ | refine blH ?_ | refine blI ?_ ?_ _) | (simp only [World.size_alloc]; omega) | (simp <;> omega)))⟩
        have hr : resP l = [] := by unfold resP; rw [HR.out, HM.out]; rfl
        rw [hr]
        exact World.ownsRow_nil _ _ _ _
      · by_cases h3 : m < 3
        · go_wp2_with fail
          ((try simp only [Exit.inBlock, Exit.then]); refine bodyPost_ret (results_cell_row rfl _ _ _ _ _ (0, 0) _ rfl (HB.out.set_ 0 _) Try.underlying42 rfl (by kernel_rfl)) rfl ?_)
          refine ⟨⟨_, rfl, ?_⟩, (by repeat (first | with_reducible (first | exact blA | exact blB | refine blC _ ?_ | refine blD ?_ ?_ _ | refine blE ?_ | refine blF _ ?_ | refine blG ?_ _ | refine blH ?_ | refine blI ?_ ?_ _) | (simp only [World.size_alloc]; omega) | (simp <;> omega)))⟩
          have hr : resP l = [] := by unfold resP; rw [HR.out, HM.out, if_pos h3]
          rw [hr]
          exact World.ownsRow_nil _ _ _ _
        · go_wp2_with fail
          ((try simp only [Exit.inBlock, Exit.then]); refine bodyPost_ret (results_cell_row rfl _ _ _ _ _ (0, 0) _ rfl (HB.out.set_ 0 _) Try.underlying42 rfl (by kernel_rfl)) rfl ?_)
          refine ⟨⟨_, rfl, ?_⟩, (by repeat (first | with_reducible (first | exact blA | exact blB | refine blC _ ?_ | refine blD ?_ ?_ _ | refine blE ?_ | refine blF _ ?_ | refine blG ?_ _ | refine blH ?_ | refine blI ?_ ?_ _) | (simp only [World.size_alloc]; omega) | (simp <;> omega)))⟩
          have hr : resP l = L := by unfold resP; rw [HR.out, HM.out, if_neg h3]
          rw [hr, HM.out]
          exact own_grownBy HO.out (grownBy_set (p := ⟨w.heap.size + 1, 0, none⟩) _) (by intro e; injection e with e; simp only at e; omega)
    · have HE := Lib.hid (show simP (L.eraseIdx k) = simP l from (simP_step hk hfl hbf).symm.trans HI.out.2)
      rw [HM.out] at hk
      rw [hf]
      clear hf hfl hbf
      rcases own_shape2 hown with ⟨rfl, h0⟩ | ⟨g, cap, rfl, hbase, hg, hTc⟩
      · exact absurd h0 (by omega)
      have hR := Rd.own' encPt_len (by decide) hown
      have hRT := rd_cut hR k cap (by omega) (by omega)
      by_cases hcc : cap = k + 1
      · have hmk : m = k + 1 := by omega
        subst hcc hmk
        have hRD := Rd.drop2 hR (m := k + 1) (Nat.le_refl _) 0 (by omega) (some ⟨g, 0, none⟩) (fun b off e h => absurd h (Nat.lt_irrefl _))
        rw [Nat.sub_self] at hRD
        clear hR hown
        obtain ⟨T, hT⟩ : ∃ T, L.take k = T := ⟨_, rfl⟩
        obtain ⟨D, hD⟩ : ∃ D, L.drop (k + 1) = D := ⟨_, rfl⟩
        have hTl : T.length ≤ 1000000 := by rw [← hT, List.length_take]; omega
        have hDl : D.length ≤ 1000000 := by rw [← hD, List.length_drop, HM.out]; omega
        have HTD := Lib.hid (show T ++ D = L.eraseIdx k by rw [← hT, ← hD, List.eraseIdx_eq_take_drop_succ])
        have HTL := Lib.hid (show (T ++ D).length = (k + 1) - 1 by rw [HTD.out, List.length_eraseIdx, if_pos (by rw [HM.out]; exact hk), HM.out])
        rw [hT] at hRT
        rw [hD] at hRD
        have HRT := Lib.hid hRT
        have HRD := Lib.hid hRD
        clear hT hD hRT hRD
        go_wp2_with (first
          | (at_builtin; refine wpList_app _ rfl _ _ 40 rfl encPt_len (by decide) oneP y.1.heap.size 36 (.agg #[.int .i64 0, .int .i64 0]) 16 infoPt rfl Try.underlying40 _ _ _ _ rfl (own_made _ encPt_len y.1.heap.size _ [] #[] rfl (by repeat (first | with_reducible exact Nat.le_refl _ | assumption | with_reducible refine le_alloc ?_ _ | with_reducible refine le_drew ?_ | with_reducible refine Kin.le _ ?_ | assumption | omega | (simp only [World.size_alloc]; omega))) (by decide)) _ _ _ rfl (HRT.out.below (by repeat (first | with_reducible (first | exact blA | exact blB | refine blC _ ?_ | refine blD ?_ ?_ _ | refine blE ?_ | refine blF _ ?_ | refine blG ?_ _ | refine blH ?_ | refine blI ?_ ?_ _) | (simp only [World.size_alloc]; omega) | (simp <;> omega)))) ?c1 (by decide) ?c2 ?_; (case c1 => (first | (simp only [List.length_append, List.length_cons, List.length_nil]; omega) | omega | (simp; omega))); (case c2 => exact (by repeat (first | with_reducible exact Nat.le_refl _ | assumption | with_reducible refine le_alloc ?_ _ | with_reducible refine le_drew ?_ | with_reducible refine Kin.le _ ?_ | assumption | omega | (simp only [World.size_alloc]; omega)))); intro v' w1 hown' hg hbel hat'; (obtain ⟨y3, rfl⟩ : ∃ y : Kin y.1, y.1 = w1 := ⟨⟨w1, Below.trans (by repeat (first | with_reducible (first | exact blA | exact blB | refine blC _ ?_ | refine blD ?_ ?_ _ | refine blE ?_ | refine blF _ ?_ | refine blG ?_ _ | refine blH ?_ | refine blI ?_ ?_ _) | (simp only [World.size_alloc]; omega) | (simp <;> omega))) hbel⟩, rfl⟩); clear hbel hg hat'; (have HN1 := Lib.hid (show y3.1.ownsRow y.1.heap.size 36 2 v' T.length (T.flatMap encPt) by simpa using hown'); clear hown'))
          | (at_builtin; refine wpList_app _ rfl _ _ 40 rfl encPt_len (by decide) oneP y.1.heap.size 36 (.agg #[.int .i64 0, .int .i64 0]) 16 infoPt rfl Try.underlying40 _ _ _ _ rfl (HN1.out) _ _ _ rfl (HRD.out.below (by repeat (first | with_reducible (first | exact blA | exact blB | refine blC _ ?_ | refine blD ?_ ?_ _ | refine blE ?_ | refine blF _ ?_ | refine blG ?_ _ | refine blH ?_ | refine blI ?_ ?_ _) | (simp only [World.size_alloc]; omega) | (simp <;> omega)))) ?c1 (by decide) ?c2 ?_; (case c1 => (first | (simp only [List.length_append, List.length_cons, List.length_nil]; omega) | omega | (simp; omega))); (case c2 => exact (by repeat (first | with_reducible exact Nat.le_refl _ | assumption | with_reducible refine le_alloc ?_ _ | with_reducible refine le_drew ?_ | with_reducible refine Kin.le _ ?_ | assumption | omega | (simp only [World.size_alloc]; omega)))); intro v' w1 hown' hg hbel hat'; (obtain ⟨y4, rfl⟩ : ∃ y : Kin y.1, y.1 = w1 := ⟨⟨w1, Below.trans (by repeat (first | with_reducible (first | exact blA | exact blB | refine blC _ ?_ | refine blD ?_ ?_ _ | refine blE ?_ | refine blF _ ?_ | refine blG ?_ _ | refine blH ?_ | refine blI ?_ ?_ _) | (simp only [World.size_alloc]; omega) | (simp <;> omega))) hbel⟩, rfl⟩); clear hbel hg hat'; (have HN2 := Lib.hid hown'; clear hown'))
          | (go_at_call 49; (with_reducible refine (Kin.callK (W := (Kin.wd y)) (by repeat (first | with_reducible (first | exact blA | exact blB | refine blC _ ?_ | refine blD ?_ ?_ _ | refine blE ?_ | refine blF _ ?_ | refine blG ?_ _ | refine blH ?_ | refine blI ?_ ?_ _) | (simp only [World.size_alloc]; omega) | (simp <;> omega))) (flatR_any _ (T ++ D) _ (Rd.own' encPt_len (by decide) HN2.out) (by rw [HTL.out]; omega))).mono ?_); rintro e w' ⟨z, rfl, hz, rfl⟩; (have HZ := Lib.hid hz; clear hz)))
        go_roundw
        case rel => exact ⟨T ++ D, rfl, Lib.hid ⟨by rw [HTL.out]; omega, by rw [HTD.out]; exact HE.out⟩, Lib.hid (own_base (own_below HN2.out HZ.out) (by have := HB.out.lt; omega)), Lib.hid (HB.out.below z.2), ⟨z.1, y.2.trans (z.2.mono y.2.size)⟩, rfl⟩
        case measure =>
          rw [lenS_own HN2.out, HTL.out]
          simp [lenS]
      · have hRD := Rd.drop2 hR (m := k + 1) (by omega) (cap - (k + 1)) (by omega) (some ⟨g, (k + 1) * 2, none⟩) (fun b off e h => by injection e with e; injection e with e1 e2; subst e1 e2; rw [Nat.zero_add])
        clear hR hown
        obtain ⟨T, hT⟩ : ∃ T, L.take k = T := ⟨_, rfl⟩
        obtain ⟨D, hD⟩ : ∃ D, L.drop (k + 1) = D := ⟨_, rfl⟩
        have hTl : T.length ≤ 1000000 := by rw [← hT, List.length_take]; omega
        have hDl : D.length ≤ 1000000 := by rw [← hD, List.length_drop, HM.out]; omega
        have HTD := Lib.hid (show T ++ D = L.eraseIdx k by rw [← hT, ← hD, List.eraseIdx_eq_take_drop_succ])
        have HTL := Lib.hid (show (T ++ D).length = m - 1 by rw [HTD.out, List.length_eraseIdx, if_pos (by rw [HM.out]; exact hk), HM.out])
        rw [hT] at hRT
        rw [hD] at hRD
        have HRT := Lib.hid hRT
        have HRD := Lib.hid hRD
        clear hT hD hRT hRD
        go_wp2_with (first
          | (at_builtin; refine wpList_app _ rfl _ _ 40 rfl encPt_len (by decide) oneP y.1.heap.size 36 (.agg #[.int .i64 0, .int .i64 0]) 16 infoPt rfl Try.underlying40 _ _ _ _ rfl (own_made _ encPt_len y.1.heap.size _ [] #[] rfl (by repeat (first | with_reducible exact Nat.le_refl _ | assumption | with_reducible refine le_alloc ?_ _ | with_reducible refine le_drew ?_ | with_reducible refine Kin.le _ ?_ | assumption | omega | (simp only [World.size_alloc]; omega))) (by decide)) _ _ _ rfl (HRT.out.below (by repeat (first | with_reducible (first | exact blA | exact blB | refine blC _ ?_ | refine blD ?_ ?_ _ | refine blE ?_ | refine blF _ ?_ | refine blG ?_ _ | refine blH ?_ | refine blI ?_ ?_ _) | (simp only [World.size_alloc]; omega) | (simp <;> omega)))) ?c1 (by decide) ?c2 ?_; (case c1 => (first | (simp only [List.length_append, List.length_cons, List.length_nil]; omega) | omega | (simp; omega))); (case c2 => exact (by repeat (first | with_reducible exact Nat.le_refl _ | assumption | with_reducible refine le_alloc ?_ _ | with_reducible refine le_drew ?_ | with_reducible refine Kin.le _ ?_ | assumption | omega | (simp only [World.size_alloc]; omega)))); intro v' w1 hown' hg hbel hat'; (obtain ⟨y3, rfl⟩ : ∃ y : Kin y.1, y.1 = w1 := ⟨⟨w1, Below.trans (by repeat (first | with_reducible (first | exact blA | exact blB | refine blC _ ?_ | refine blD ?_ ?_ _ | refine blE ?_ | refine blF _ ?_ | refine blG ?_ _ | refine blH ?_ | refine blI ?_ ?_ _) | (simp only [World.size_alloc]; omega) | (simp <;> omega))) hbel⟩, rfl⟩); clear hbel hg hat'; (have HN1 := Lib.hid (show y3.1.ownsRow y.1.heap.size 36 2 v' T.length (T.flatMap encPt) by simpa using hown'); clear hown'))
          | (at_builtin; refine wpList_app _ rfl _ _ 40 rfl encPt_len (by decide) oneP y.1.heap.size 36 (.agg #[.int .i64 0, .int .i64 0]) 16 infoPt rfl Try.underlying40 _ _ _ _ rfl (HN1.out) _ _ _ rfl (HRD.out.below (by repeat (first | with_reducible (first | exact blA | exact blB | refine blC _ ?_ | refine blD ?_ ?_ _ | refine blE ?_ | refine blF _ ?_ | refine blG ?_ _ | refine blH ?_ | refine blI ?_ ?_ _) | (simp only [World.size_alloc]; omega) | (simp <;> omega)))) ?c1 (by decide) ?c2 ?_; (case c1 => (first | (simp only [List.length_append, List.length_cons, List.length_nil]; omega) | omega | (simp; omega))); (case c2 => exact (by repeat (first | with_reducible exact Nat.le_refl _ | assumption | with_reducible refine le_alloc ?_ _ | with_reducible refine le_drew ?_ | with_reducible refine Kin.le _ ?_ | assumption | omega | (simp only [World.size_alloc]; omega)))); intro v' w1 hown' hg hbel hat'; (obtain ⟨y4, rfl⟩ : ∃ y : Kin y.1, y.1 = w1 := ⟨⟨w1, Below.trans (by repeat (first | with_reducible (first | exact blA | exact blB | refine blC _ ?_ | refine blD ?_ ?_ _ | refine blE ?_ | refine blF _ ?_ | refine blG ?_ _ | refine blH ?_ | refine blI ?_ ?_ _) | (simp only [World.size_alloc]; omega) | (simp <;> omega))) hbel⟩, rfl⟩); clear hbel hg hat'; (have HN2 := Lib.hid hown'; clear hown'))
          | (go_at_call 49; (with_reducible refine (Kin.callK (W := (Kin.wd y)) (by repeat (first | with_reducible (first | exact blA | exact blB | refine blC _ ?_ | refine blD ?_ ?_ _ | refine blE ?_ | refine blF _ ?_ | refine blG ?_ _ | refine blH ?_ | refine blI ?_ ?_ _) | (simp only [World.size_alloc]; omega) | (simp <;> omega))) (flatR_any _ (T ++ D) _ (Rd.own' encPt_len (by decide) HN2.out) (by rw [HTL.out]; omega))).mono ?_); rintro e w' ⟨z, rfl, hz, rfl⟩; (have HZ := Lib.hid hz; clear hz)))
        go_roundw
        case rel => exact ⟨T ++ D, rfl, Lib.hid ⟨by rw [HTL.out]; omega, by rw [HTD.out]; exact HE.out⟩, Lib.hid (own_base (own_below HN2.out HZ.out) (by have := HB.out.lt; omega)), Lib.hid (HB.out.below z.2), ⟨z.1, y.2.trans (z.2.mono y.2.size)⟩, rfl⟩
        case measure =>
          rw [lenS_own HN2.out, HTL.out]
          simp [lenS]; omega
end Go.Proofs.Yteadnlodccnfcaa
