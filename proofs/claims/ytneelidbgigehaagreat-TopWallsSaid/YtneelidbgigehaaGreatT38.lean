/- Lemmas: TrkPcs. -/
import Derived.Test.YtneelidbgigehaaGreatT26
import Derived.Test.YtneelidbgigehaaGreatT37
/- pieces of the program, walked. -/
namespace Go.Proofs.YtneelidbgigehaaGreat
set_option linter.unusedSimpArgs false
set_option linter.unusedVariables false
set_option maxRecDepth 100000
open Go.RowKit Trk
attribute [local go_sem] Kin.cell Kin.frozen Kin.lt0 Kin.lt1 Kin.lt2 Kin.lt3
set_option maxHeartbeats 16000000 in
theorem pieces_any {n : Nat} (r : Int) (cl : Bool) (A AK : Option Addr) (cap capK : Nat) (l : List Cl) (ks : List Bool) (w : World) (hn : l.length = n) (hm : ks.length = n) (h : Rd 2 encPt w (.slice A n cap) l) (hk : Rd 1 encB w (.slice AK n capK) ks) (hlen : n ≤ 65536) :
    Calls Tryz.prog 73 #[tv r cl A n cap, .slice AK n capK] w fun e w' => (∃ u, e = .returned u ∧ OwnLow w.heap.size w' u (pcsTo r l ks n)) ∧ Below w.heap.size w w' := by
  have HL := Lib.hid hn
  have HKL := Lib.hid hm
  have HA := Lib.hid (Rd.op h)
  have HLA := Lib.hid h
  clear h
  have HK := Lib.hid (Rd.op hk)
  have HLK := Lib.hid hk
  clear hk
  clear hn hm
  obtain ⟨W1, hW1⟩ : ∃ W1, W1 = w.alloc (.cells #[.int .i64 r, .bool cl, .slice A n cap] 72) := ⟨_, rfl⟩
  have HB1 := Lib.hid (show Blk W1 w.heap.size 72 #[.int .i64 r, .bool cl, .slice A n cap] from hW1 ▸ Blk.new _ _ _)
  have HBW := Lib.hid (show Below w.heap.size w W1 from hW1 ▸ gRw)
  go_enter Tryz.func73, Tryz.ntmps73
  go_wp2
  rw [← hW1]
  clear hW1
  go_loopw [5, 12] (fun u i wr => ∃ k : Nat, k ≤ n ∧ i = .int .i64 k ∧ Hid (PcsAt W1.heap.size wr u (pcsTo r l ks k)) ∧ ∃ y : Kin W1, y.1 = wr) (fun _ i _ => n - (intOf i).toNat)
  case atStart => exact ⟨0, Nat.zero_le _, rfl, Lib.hid (.inl ⟨rfl, rfl⟩), ⟨W1, Below.refl _ _⟩, rfl⟩
  case round =>
    obtain ⟨k, hk, rfl, HPO, y, rfl⟩ := hrel
    have HB2 := Lib.hid (HB1.out.below y.2)
    have q0 : y.1.cell? ⟨w.heap.size, 0, none⟩ = some (.int .i64 r) := HB2.out.cell 0
    have q2 : y.1.cell? ⟨w.heap.size, 2, none⟩ = some (.slice A n cap) := HB2.out.cell 2
    have ql := HB2.out.lt
    have hyw : Below w.heap.size w y.1 := HBW.out.trans (y.2.mono HBW.out.size)
    have hpl := pcsTo_len r l ks k
    by_cases hlt : k < n
    · obtain ⟨c, hc⟩ : ∃ el_, (l)[k]? = some el_ := ⟨_, List.getElem?_eq_getElem (by first | exact (by rw [HL.out]; exact hlt) | omega)⟩
      obtain ⟨bA, offA, rfl, hbA, hcA⟩ := HA.out (k) _ hc
      have c_0 : w.cell? ⟨bA, offA + k * 2, none⟩ = some (.int .i64 c.1) := by exact hcA (k) _ hc 0 _ rfl
      have c_1 : w.cell? ⟨bA, offA + k * 2 + 1, none⟩ = some (.int .i64 c.2) := by exact hcA (k) _ hc 1 _ rfl
      have hbA2 : bA < w.heap.size + 1 := by omega
      have HAc := Lib.hid hcA
      have Hc := Lib.hid hc
      clear hc hcA
      obtain ⟨b, hb⟩ : ∃ b, ks[k]? = some b := ⟨_, List.getElem?_eq_getElem (by rw [HKL.out]; exact hlt)⟩
      obtain ⟨bK, offK, rfl, hbK, hcK⟩ := HK.out k b hb
      have d_0 : y.1.cell? ⟨bA, offA + k * 2, none⟩ = some (.int .i64 c.1) := (hyw.cell (p := ⟨bA, _, none⟩) hbA).trans c_0
      have d_1 : y.1.cell? ⟨bA, offA + k * 2 + 1, none⟩ = some (.int .i64 c.2) := (hyw.cell (p := ⟨bA, _, none⟩) hbA).trans c_1
      have hbA3 : bA < y.1.heap.size := Nat.lt_of_lt_of_le hbA hyw.size
      have e_0 : y.1.cell? ⟨bK, offK + k, none⟩ = some (.bool b) := (hyw.cell (p := ⟨bK, _, none⟩) hbK).trans (by have := hcK k b hb 0 _ rfl; simpa using this)
      have hbK3 : bK < y.1.heap.size := Nat.lt_of_lt_of_le hbK hyw.size
      have HKC := Lib.hid hcK
      have HBK := Lib.hid hb
      clear c_0 c_1 hbA2 hb hcK
      cases b
      · have HSK := Lib.hid (pcsTo_skip (r := r) (l := l) HBK.out)
        go_wp2
        go_roundw
        case rel => exact ⟨k + 1, by omega, by go_num, Lib.hid (by rw [HSK.out]; exact HPO.out.below (Below.alloc (Below.refl _ _) (Nat.le_refl _) _)), ⟨_, Below.alloc y.2 y.2.size _⟩, rfl⟩
        case measure => simp [intOf]; omega
      · by_cases h0 : k = 0 ∨ ks[k - 1]? = some false
        · have HPN := Lib.hid (pcsTo_new (r := r) Hc.out HBK.out h0)
          obtain ⟨N, hNe⟩ : ∃ N, (pcsTo r l ks k).length = N := ⟨_, rfl⟩
          have HPC := Lib.hid hNe
          rw [hNe] at hpl
          clear hNe
          obtain ⟨AU, cU, rfl⟩ : ∃ AU cU, u5 = .slice AU N cU := by
            obtain ⟨A', cap', e', _⟩ := RdN.open_ (OwnN.rd encTr_len HPO.out.own)
            exact ⟨A', cap', by rw [e', HPC.out]⟩
          have hw1 : IntKind.i64.wrap (((N + 1 : Nat) : Int) - 1) = (N : Int) := by rw [IntWalk.i64_in _ (by omega)]; omega
          have hw2 : IntKind.i64.wrap ((N : Int) + 1 - 1) = (N : Int) := by rw [IntWalk.i64_in _ (by omega)]; omega
          have hw3 : (N : Int) < (N : Int) + 1 := by omega
          have hw4 : N < N + 1 := by omega
          have hw5 : (N : Int) + 1 - 1 = (N : Int) := by omega
          rcases Nat.eq_zero_or_pos k with hz | hz
          · subst hz
            have e_1 : y.1.cell? ⟨bK, offK, none⟩ = some (.bool true) := by simpa using e_0
            have f_0 : y.1.cell? ⟨bA, offA, none⟩ = some (.int .i64 c.1) := by simpa using d_0
            have f_1 : y.1.cell? ⟨bA, offA + 1, none⟩ = some (.int .i64 c.2) := by simpa using d_1
            obtain ⟨hs, hown, hnest, hap, hlow9⟩ := HPO.out.low
            have HLW := Lib.hid hlow9
            have HOW := Lib.hid hown
            have HNE := Lib.hid hnest
            have HAP := Lib.hid hap
            have hhl : hs.length = N := by rw [hnest.1, HPC.out]
            clear hown hnest hap hlow9
            go_wp2_with (at_builtin; refine wpList_app _ rfl _ _ 35 rfl encTr_len (by decide) oneTr W1.heap.size 72 (.agg #[.int .i64 0, .bool false, .slice none 0 0]) 40 infoTr rfl Tryz.underlying35 _ _ _ _ rfl ((HOW.out.alloc _).alloc _) _ _ _ rfl (rd_one _ encTr_len _ ((r, false), (none, 0, 0)) _ rfl) ?c1 (by decide) ?c2 ?_; (case c1 => (first | (simp only [List.length_append, List.length_cons, List.length_nil]; omega) | omega | (simp; omega))); (case c2 => exact lEw); intro v' w1 hown' hg hbel hat'; (have HX := Lib.hid (show Below y.1.heap.size y.1 ((y.1.alloc (.cells #[.int .i64 c.1, .int .i64 c.2] 47)).alloc (.cells #[.int .i64 r, .bool false, .slice none 0 0] 72)) from Below.alloc (Below.alloc (Below.refl _ _) (Nat.le_refl _) _) (le_alloc (Nat.le_refl _) _) _); have HL1 := Lib.hid (OwnTrs.push0 (HNE.out.below HX.out) HAP.out hown' hg hat' (Nat.le_trans y.2.size HX.out.size)); (obtain ⟨g, cap, e9, _, _⟩ := HL1.out.shape); (obtain ⟨B9, hB9e⟩ : ∃ B, ((y.1.alloc (.cells #[.int .i64 c.1, .int .i64 c.2] 47)).alloc (.cells #[.int .i64 r, .bool false, .slice none 0 0] 72)).heap.size = B := ⟨_, rfl⟩); have hB9 : B9 ≤ w1.heap.size := (by rw [← hB9e]; exact hg.size); rw [hB9e] at HL1; clear hB9e; rw [HPC.out] at e9; subst e9; have HYW := Lib.hid (show Below W1.heap.size W1 w1 from ((y.2.trans (HX.out.mono y.2.size))).trans hbel); have HOX := Lib.hid (own_below HOW.out HX.out); have HCX := Lib.hid (show Blk ((y.1.alloc (.cells #[.int .i64 c.1, .int .i64 c.2] 47)).alloc (.cells #[.int .i64 r, .bool false, .slice none 0 0] 72)) y.1.heap.size 47 #[.int .i64 c.1, .int .i64 c.2] from (Blk.new y.1 47 #[.int .i64 c.1, .int .i64 c.2]).below (Below.alloc (Below.refl _ _) (Nat.le_refl _) _)); have HCB := Lib.hid (HCX.out.grown hg (Ne.symm (own_ne HOX.out HCX.out (by decide)))); have cc0 : w1.cell? ⟨y.1.heap.size, 0, none⟩ = some (.int .i64 c.1) := HCB.out.cell 0; have cc1 : w1.cell? ⟨y.1.heap.size, 1, none⟩ = some (.int .i64 c.2) := HCB.out.cell 1; have ccl := HCB.out.lt; clear hown' hg hbel hat'))
            obtain ⟨h9, hh9⟩ : ∃ h : TrH, ((r, false), (none, 0, 0)) = h := ⟨_, rfl⟩
            rw [hh9] at HL1
            obtain ⟨x9, hx9e⟩ : ∃ x : Tr, ((r, false), []) = x := ⟨_, rfl⟩
            have hx9 : x9.2.length ≤ 65536 := by rw [← hx9e]; simp
            have HNEW := Lib.hid (show pcsTo r l ks (0 + 1) = pcsTo r l ks 0 ++ [(x9.1, x9.2 ++ [c])] by rw [HPN.out, ← hx9e]; rfl)
            rw [hx9e] at HL1
            clear hh9 hx9e
            obtain ⟨E9, hE9⟩ : ∃ E, pcsTo r l ks 0 = E := ⟨_, rfl⟩
            rw [hE9] at HL1 HNEW HPC HLW
            have HNN := Lib.hid HPC.out
            have HL9 := Lib.hid HL1.out
            clear HL1 hE9
            have hgl9 := HL9.out.own.lt g rfl
            have gl : g < w1.heap.size := hgl9.2
            obtain ⟨⟨r9, cl9⟩, T, n9, c9⟩ := h9
            have k3 : w1.cell? ⟨g, N * 3 + 2, none⟩ = some (.slice T n9 c9) := by have := HL9.out.cell encTr_len (j := 2) rfl; rw [HNN.out] at this; exact this
            have hlow := HL9.out.low
            have hgb : W1.heap.size ≤ g := hgl9.1
            refine wp_region_floatT 5 6 (fun w' => w'.cell? ⟨g, N * 3 + 2, none⟩ = some (.slice T n9 c9)) (by kernel_rfl) (by kernel_rfl) (by kernel_rfl) (fun z_ => (z_.cell gl).trans k3) ?_
            simp only [List.take_succ_cons, List.take_zero, List.drop_succ_cons, List.drop_zero]
            refine @takeS_cons _ _ _ _ _ _ _ ?_ rfl (fun w' hSw => ?_) ?_
            rotate_left
            · ((try dsimp only at hSw); go_simp; try with_reducible rfl)
            try simp only [Act.put, List.setIfInBounds_toArray, List.set_cons_zero, List.set_cons_succ]
            refine @takeS_cons _ _ _ _ _ _ _ ?_ rfl (fun w' hSw => ?_) ?_
            rotate_left
            · ((try dsimp only at hSw); go_simp; try with_reducible rfl)
            try simp only [Act.put, List.setIfInBounds_toArray, List.set_cons_zero, List.set_cons_succ]
            refine @takeS_cons _ _ _ _ _ _ _ ?_ rfl (fun w' hSw => ?_) ?_
            rotate_left
            · ((try dsimp only at hSw); go_simp; try with_reducible rfl)
            try simp only [Act.put, List.setIfInBounds_toArray, List.set_cons_zero, List.set_cons_succ]
            refine @takeS_cons _ _ _ _ _ _ _ ?_ rfl (fun w' hSw => ?_) ?_
            rotate_left
            · ((try dsimp only at hSw); go_simp; try with_reducible rfl)
            try simp only [Act.put, List.setIfInBounds_toArray, List.set_cons_zero, List.set_cons_succ]
            refine @takeS_cons _ _ _ _ _ _ _ ?_ rfl (fun w' hSw => ?_) ?_
            rotate_left
            · ((try dsimp only at hSw); go_simp; try with_reducible rfl)
            try simp only [Act.put, List.setIfInBounds_toArray, List.set_cons_zero, List.set_cons_succ]
            refine takeS_nil ?_
            ((repeat' (first | go_big_quiet_step (fail) | ((refine wpQuiet_guard rfl rfl rfl rfl (fun hg => ?_) (fun hg => ?_)) <;> (fail_if_success (first | guard_hyp hg : true = true | guard_hyp hg : false = false)) <;> (try simp only [decide_eq_true_eq, decide_eq_false_iff_not] at hg) <;> simp only [Act.put, List.setIfInBounds_toArray, List.set_cons_zero, List.set_cons_succ]))); all_goals ((with_reducible refine wpQuiet_nil ?_); intro zq))
            have HB9 := Lib.hid (show Below w1.heap.size w1 (zq.1.alloc (.cells #[.int .i64 c.1, .int .i64 c.2] 47)) from Below.alloc zq.2 zq.2.size _)
            have HL8 := Lib.hid (HL9.out.below HB9.out)
            have HSR := Lib.hid (rd_one zq.1 encPt_len 47 c _ rfl rfl)
            have ht0 : (zq.1.alloc (.cells #[.int .i64 c.1, .int .i64 c.2] 47)).cell? ⟨g, N * 3 + 2, none⟩ = some (.slice T n9 c9) := (World.cell?_alloc_lt _ _ _ (zq.lt0 gl)).trans ((zq.cell gl).trans k3)
            have hBy : B9 ≤ (zq.1.alloc (.cells #[.int .i64 c.1, .int .i64 c.2] 47)).heap.size := Nat.le_trans hB9 HB9.out.size
            have HIN := Lib.hid (show (zq.1.alloc (.cells #[.int .i64 c.1, .int .i64 c.2] 47)).ownsRow B9 47 2 (.slice T n9 c9) x9.2.length (x9.2.flatMap encPt) from HL8.out.inner)
            have hn9 : n9 ≤ 65536 := by have := own_m HIN.out; omega
            intro K23 hK23
            go_simp
            refine hK23 _ _ (.inr ht0) ?_
            intro K24 hK24
            (skip; (refine step_app _ rfl _ _ 70 rfl encPt_len (by decide) oneP B9 47 (.agg #[.int .i64 0, .int .i64 0]) 16 infoCell rfl Tryz.underlying70 (.slice T n9 c9) _ _ _ (by first | rfl | simp [Act.eval, Act.put]) (HIN.out) _ _ _ (by first | rfl | simp [Act.eval, Act.put]) (HSR.out) ?c1 (by decide) ?c2 ?_; (case c1 => (first | (simp only [List.length_append, List.length_cons, List.length_nil]; omega) | omega | (simp; omega))); (case c2 => exact lEw); intro u9 w2 hown9 hg9 hbel9 hat9; ((obtain ⟨T', n', c', rfl⟩ := own_slice hown9); have HKP := HL8.out.keeps (by decide) hg9; have pz : w2.cell? ⟨g, N * 3 + 2, none⟩ = some (.slice T n9 c9) := (HKP.2 _).1.trans ht0; have pf : w2.frozen? ⟨g, N * 3 + 2, none⟩ = false := (HKP.2 _).2; have pl := HKP.1; have HST := Lib.hid (show OwnTL W1.heap.size B9 (w2.setCell ⟨g, E9.length * 3 + 2, none⟩ (.slice T' n' c')) (.slice (some ⟨g, 0, none⟩) (N + 1) cap) hs ((r9, cl9), (T', n', c')) E9 (x9.1, x9.2 ++ [c]) from HL8.out.store (u := .slice T' n' c') (x' := (x9.1, x9.2 ++ [c])) (h' := ((r9, cl9), (T', n', c'))) (j := 2) encTr_len (by decide) hg9 hown9 rfl HL8.out.tg rfl); rw [HNN.out] at HST; have HBF := Lib.hid (show Below W1.heap.size W1 w2 from (HYW.out.trans (HB9.out.mono HYW.out.size)).trans (hbel9.mono hlow)); clear hown9 hg9 hbel9 hat9 HKP)))
            refine hK24 _ _ (.inr pz) ?_
            intro K25 hK25
            go_simp
            refine hK25 _ _ (.inr pz) ?_
            intro K26 hK26
            go_simp
            refine hK26 _ _ (.inr pz) ?_
            intro K27 hK27
            go_simp
            refine hK27 _ _ (.inl rfl) ?_
            clear hK23 hK24 hK25 hK26 hK27 K23 K24 K25 K26 K27
            refine wpListT_nil ?_
            (try simp only [Exit.then])
            go_wp2
            go_roundw
            case rel => exact ⟨0 + 1, by omega, by go_num, Lib.hid (.inr ⟨E9, _, _, _, _, HNEW.out, HST.out, HLW.out⟩), ⟨_, Below.setCell HBF.out hgb _⟩, rfl⟩
            case measure => simp [intOf]; omega
          · have hp := h0.resolve_left (by omega)
            obtain ⟨m', rfl⟩ : ∃ m', k = m' + 1 := ⟨k - 1, by omega⟩
            rw [Nat.add_sub_cancel] at hp
            have e_1 : y.1.cell? ⟨bK, offK + m', none⟩ = some (.bool false) := (hyw.cell (p := ⟨bK, _, none⟩) hbK).trans (by have := HKC.out m' false hp 0 _ rfl; simpa using this)
            have hw6 : IntKind.i64.wrap (((m' + 1 : Nat) : Int) - 1) = (m' : Int) := by rw [IntWalk.i64_in _ (by omega)]; omega
            have hw7 : IntKind.i64.wrap ((m' : Int) + 1 - 1) = (m' : Int) := by rw [IntWalk.i64_in _ (by omega)]; omega
            have hw8 : (m' : Int) + 1 - 1 = (m' : Int) := by omega
            have hw9 : m' < n := by omega
            have hwa : ((m' : Int) + 1 == 0) = false := by simp; omega
            clear h0 hp
            obtain ⟨hs, hown, hnest, hap, hlow9⟩ := HPO.out.low
            have HLW := Lib.hid hlow9
            have HOW := Lib.hid hown
            have HNE := Lib.hid hnest
            have HAP := Lib.hid hap
            have hhl : hs.length = N := by rw [hnest.1, HPC.out]
            clear hown hnest hap hlow9
            go_wp2_with (at_builtin; refine wpList_app _ rfl _ _ 35 rfl encTr_len (by decide) oneTr W1.heap.size 72 (.agg #[.int .i64 0, .bool false, .slice none 0 0]) 40 infoTr rfl Tryz.underlying35 _ _ _ _ rfl ((HOW.out.alloc _).alloc _) _ _ _ rfl (rd_one _ encTr_len _ ((r, false), (none, 0, 0)) _ rfl) ?c1 (by decide) ?c2 ?_; (case c1 => (first | (simp only [List.length_append, List.length_cons, List.length_nil]; omega) | omega | (simp; omega))); (case c2 => exact lEw); intro v' w1 hown' hg hbel hat'; (have HX := Lib.hid (show Below y.1.heap.size y.1 ((y.1.alloc (.cells #[.int .i64 c.1, .int .i64 c.2] 47)).alloc (.cells #[.int .i64 r, .bool false, .slice none 0 0] 72)) from Below.alloc (Below.alloc (Below.refl _ _) (Nat.le_refl _) _) (le_alloc (Nat.le_refl _) _) _); have HL1 := Lib.hid (OwnTrs.push0 (HNE.out.below HX.out) HAP.out hown' hg hat' (Nat.le_trans y.2.size HX.out.size)); (obtain ⟨g, cap, e9, _, _⟩ := HL1.out.shape); (obtain ⟨B9, hB9e⟩ : ∃ B, ((y.1.alloc (.cells #[.int .i64 c.1, .int .i64 c.2] 47)).alloc (.cells #[.int .i64 r, .bool false, .slice none 0 0] 72)).heap.size = B := ⟨_, rfl⟩); have hB9 : B9 ≤ w1.heap.size := (by rw [← hB9e]; exact hg.size); rw [hB9e] at HL1; clear hB9e; rw [HPC.out] at e9; subst e9; have HYW := Lib.hid (show Below W1.heap.size W1 w1 from ((y.2.trans (HX.out.mono y.2.size))).trans hbel); have HOX := Lib.hid (own_below HOW.out HX.out); have HCX := Lib.hid (show Blk ((y.1.alloc (.cells #[.int .i64 c.1, .int .i64 c.2] 47)).alloc (.cells #[.int .i64 r, .bool false, .slice none 0 0] 72)) y.1.heap.size 47 #[.int .i64 c.1, .int .i64 c.2] from (Blk.new y.1 47 #[.int .i64 c.1, .int .i64 c.2]).below (Below.alloc (Below.refl _ _) (Nat.le_refl _) _)); have HCB := Lib.hid (HCX.out.grown hg (Ne.symm (own_ne HOX.out HCX.out (by decide)))); have cc0 : w1.cell? ⟨y.1.heap.size, 0, none⟩ = some (.int .i64 c.1) := HCB.out.cell 0; have cc1 : w1.cell? ⟨y.1.heap.size, 1, none⟩ = some (.int .i64 c.2) := HCB.out.cell 1; have ccl := HCB.out.lt; clear hown' hg hbel hat'))
            obtain ⟨h9, hh9⟩ : ∃ h : TrH, ((r, false), (none, 0, 0)) = h := ⟨_, rfl⟩
            rw [hh9] at HL1
            obtain ⟨x9, hx9e⟩ : ∃ x : Tr, ((r, false), []) = x := ⟨_, rfl⟩
            have hx9 : x9.2.length ≤ 65536 := by rw [← hx9e]; simp
            have HNEW := Lib.hid (show pcsTo r l ks (m' + 1 + 1) = pcsTo r l ks (m' + 1) ++ [(x9.1, x9.2 ++ [c])] by rw [HPN.out, ← hx9e]; rfl)
            rw [hx9e] at HL1
            clear hh9 hx9e
            obtain ⟨E9, hE9⟩ : ∃ E, pcsTo r l ks (m' + 1) = E := ⟨_, rfl⟩
            rw [hE9] at HL1 HNEW HPC HLW
            have HNN := Lib.hid HPC.out
            have HL9 := Lib.hid HL1.out
            clear HL1 hE9
            have hgl9 := HL9.out.own.lt g rfl
            have gl : g < w1.heap.size := hgl9.2
            obtain ⟨⟨r9, cl9⟩, T, n9, c9⟩ := h9
            have k3 : w1.cell? ⟨g, N * 3 + 2, none⟩ = some (.slice T n9 c9) := by have := HL9.out.cell encTr_len (j := 2) rfl; rw [HNN.out] at this; exact this
            have hlow := HL9.out.low
            have hgb : W1.heap.size ≤ g := hgl9.1
            refine wp_region_floatT 5 6 (fun w' => w'.cell? ⟨g, N * 3 + 2, none⟩ = some (.slice T n9 c9)) (by kernel_rfl) (by kernel_rfl) (by kernel_rfl) (fun z_ => (z_.cell gl).trans k3) ?_
            simp only [List.take_succ_cons, List.take_zero, List.drop_succ_cons, List.drop_zero]
            refine @takeS_cons _ _ _ _ _ _ _ ?_ rfl (fun w' hSw => ?_) ?_
            rotate_left
            · ((try dsimp only at hSw); go_simp; try with_reducible rfl)
            try simp only [Act.put, List.setIfInBounds_toArray, List.set_cons_zero, List.set_cons_succ]
            refine @takeS_cons _ _ _ _ _ _ _ ?_ rfl (fun w' hSw => ?_) ?_
            rotate_left
            · ((try dsimp only at hSw); go_simp; try with_reducible rfl)
            try simp only [Act.put, List.setIfInBounds_toArray, List.set_cons_zero, List.set_cons_succ]
            refine @takeS_cons _ _ _ _ _ _ _ ?_ rfl (fun w' hSw => ?_) ?_
            rotate_left
            · ((try dsimp only at hSw); go_simp; try with_reducible rfl)
            try simp only [Act.put, List.setIfInBounds_toArray, List.set_cons_zero, List.set_cons_succ]
            refine @takeS_cons _ _ _ _ _ _ _ ?_ rfl (fun w' hSw => ?_) ?_
            rotate_left
            · ((try dsimp only at hSw); go_simp; try with_reducible rfl)
            try simp only [Act.put, List.setIfInBounds_toArray, List.set_cons_zero, List.set_cons_succ]
            refine @takeS_cons _ _ _ _ _ _ _ ?_ rfl (fun w' hSw => ?_) ?_
            rotate_left
            · ((try dsimp only at hSw); go_simp; try with_reducible rfl)
            try simp only [Act.put, List.setIfInBounds_toArray, List.set_cons_zero, List.set_cons_succ]
            refine takeS_nil ?_
            ((repeat' (first | go_big_quiet_step (fail) | ((refine wpQuiet_guard rfl rfl rfl rfl (fun hg => ?_) (fun hg => ?_)) <;> (fail_if_success (first | guard_hyp hg : true = true | guard_hyp hg : false = false)) <;> (try simp only [decide_eq_true_eq, decide_eq_false_iff_not] at hg) <;> simp only [Act.put, List.setIfInBounds_toArray, List.set_cons_zero, List.set_cons_succ]))); all_goals ((with_reducible refine wpQuiet_nil ?_); intro zq))
            have HB9 := Lib.hid (show Below w1.heap.size w1 (zq.1.alloc (.cells #[.int .i64 c.1, .int .i64 c.2] 47)) from Below.alloc zq.2 zq.2.size _)
            have HL8 := Lib.hid (HL9.out.below HB9.out)
            have HSR := Lib.hid (rd_one zq.1 encPt_len 47 c _ rfl rfl)
            have ht0 : (zq.1.alloc (.cells #[.int .i64 c.1, .int .i64 c.2] 47)).cell? ⟨g, N * 3 + 2, none⟩ = some (.slice T n9 c9) := (World.cell?_alloc_lt _ _ _ (zq.lt0 gl)).trans ((zq.cell gl).trans k3)
            have hBy : B9 ≤ (zq.1.alloc (.cells #[.int .i64 c.1, .int .i64 c.2] 47)).heap.size := Nat.le_trans hB9 HB9.out.size
            have HIN := Lib.hid (show (zq.1.alloc (.cells #[.int .i64 c.1, .int .i64 c.2] 47)).ownsRow B9 47 2 (.slice T n9 c9) x9.2.length (x9.2.flatMap encPt) from HL8.out.inner)
            have hn9 : n9 ≤ 65536 := by have := own_m HIN.out; omega
            intro K23 hK23
            go_simp
            refine hK23 _ _ (.inr ht0) ?_
            intro K24 hK24
            (skip; (refine step_app _ rfl _ _ 70 rfl encPt_len (by decide) oneP B9 47 (.agg #[.int .i64 0, .int .i64 0]) 16 infoCell rfl Tryz.underlying70 (.slice T n9 c9) _ _ _ (by first | rfl | simp [Act.eval, Act.put]) (HIN.out) _ _ _ (by first | rfl | simp [Act.eval, Act.put]) (HSR.out) ?c1 (by decide) ?c2 ?_; (case c1 => (first | (simp only [List.length_append, List.length_cons, List.length_nil]; omega) | omega | (simp; omega))); (case c2 => exact lEw); intro u9 w2 hown9 hg9 hbel9 hat9; ((obtain ⟨T', n', c', rfl⟩ := own_slice hown9); have HKP := HL8.out.keeps (by decide) hg9; have pz : w2.cell? ⟨g, N * 3 + 2, none⟩ = some (.slice T n9 c9) := (HKP.2 _).1.trans ht0; have pf : w2.frozen? ⟨g, N * 3 + 2, none⟩ = false := (HKP.2 _).2; have pl := HKP.1; have HST := Lib.hid (show OwnTL W1.heap.size B9 (w2.setCell ⟨g, E9.length * 3 + 2, none⟩ (.slice T' n' c')) (.slice (some ⟨g, 0, none⟩) (N + 1) cap) hs ((r9, cl9), (T', n', c')) E9 (x9.1, x9.2 ++ [c]) from HL8.out.store (u := .slice T' n' c') (x' := (x9.1, x9.2 ++ [c])) (h' := ((r9, cl9), (T', n', c'))) (j := 2) encTr_len (by decide) hg9 hown9 rfl HL8.out.tg rfl); rw [HNN.out] at HST; have HBF := Lib.hid (show Below W1.heap.size W1 w2 from (HYW.out.trans (HB9.out.mono HYW.out.size)).trans (hbel9.mono hlow)); clear hown9 hg9 hbel9 hat9 HKP)))
            refine hK24 _ _ (.inr pz) ?_
            intro K25 hK25
            go_simp
            refine hK25 _ _ (.inr pz) ?_
            intro K26 hK26
            go_simp
            refine hK26 _ _ (.inr pz) ?_
            intro K27 hK27
            go_simp
            refine hK27 _ _ (.inl rfl) ?_
            clear hK23 hK24 hK25 hK26 hK27 K23 K24 K25 K26 K27
            refine wpListT_nil ?_
            (try simp only [Exit.then])
            go_wp2
            go_roundw
            case rel => exact ⟨m' + 1 + 1, by omega, by go_num, Lib.hid (.inr ⟨E9, _, _, _, _, HNEW.out, HST.out, HLW.out⟩), ⟨_, Below.setCell HBF.out hgb _⟩, rfl⟩
            case measure => simp [intOf]; omega
        · rw [not_or] at h0
          have hz : 0 < k := by omega
          obtain ⟨m', rfl⟩ : ∃ m', k = m' + 1 := ⟨k - 1, by omega⟩
          have hp : ks[m']? = some true := by
            have h1 := h0.2
            rw [Nat.add_sub_cancel] at h1
            cases hb : ks[m']? with
            | none => rw [List.getElem?_eq_none_iff, HKL.out] at hb; omega
            | some b => cases b; exact absurd hb h1; rfl
          have HPN := Lib.hid (pcsTo_more (r := r) Hc.out HBK.out (by rw [not_or]; exact h0))
          have hnz := pcsTo_ne (r := r) (l := l) (ks := ks) (i := m') (by rw [HL.out]; omega) hp
          rcases HPO.out with ⟨h1, _⟩ | ⟨E9, x9, hs, h9, B9, h1, HO, hlow9⟩
          · exact absurd h1 hnz
          have hx9 : x9.2.length ≤ 65536 := by have := pcsTo_cells r l ks (m' + 1) x9 (by rw [h1]; simp); omega
          have HNEW := Lib.hid (show pcsTo r l ks (m' + 1 + 1) = E9 ++ [(x9.1, x9.2 ++ [c])] by rw [HPN.out, h1, addLast_snoc])
          obtain ⟨g, cap, e9, _, _⟩ := HO.shape
          rw [h1, List.length_append, List.length_singleton] at hpl
          obtain ⟨N, hNe⟩ : ∃ N, E9.length = N := ⟨_, rfl⟩
          have HNN := Lib.hid hNe
          rw [hNe] at hpl e9
          subst e9
          have HO9 := Lib.hid HO
          have HLW := Lib.hid hlow9
          clear hNe HO h1 hnz HPO hlow9
          have e_1 : y.1.cell? ⟨bK, offK + m', none⟩ = some (.bool true) := (hyw.cell (p := ⟨bK, _, none⟩) hbK).trans (by have := HKC.out m' true hp 0 _ rfl; simpa using this)
          have hw1 : IntKind.i64.wrap (((N + 1 : Nat) : Int) - 1) = (N : Int) := by rw [IntWalk.i64_in _ (by omega)]; omega
          have hw2 : IntKind.i64.wrap ((N : Int) + 1 - 1) = (N : Int) := by rw [IntWalk.i64_in _ (by omega)]; omega
          have hw3 : (N : Int) < (N : Int) + 1 := by omega
          have hw4 : N < N + 1 := by omega
          have hw5 : (N : Int) + 1 - 1 = (N : Int) := by omega
          have hw6 : IntKind.i64.wrap (((m' + 1 : Nat) : Int) - 1) = (m' : Int) := by rw [IntWalk.i64_in _ (by omega)]; omega
          have hw7 : IntKind.i64.wrap ((m' : Int) + 1 - 1) = (m' : Int) := by rw [IntWalk.i64_in _ (by omega)]; omega
          have hw8 : (m' : Int) + 1 - 1 = (m' : Int) := by omega
          have hw9 : m' < n := by omega
          have hwa : ((m' : Int) + 1 == 0) = false := by simp; omega
          clear h0 hp
          go_wp2
          obtain ⟨y9, hy9⟩ : ∃ y9 : Kin W1, y9.1 = y.1.alloc (.cells #[.int .i64 c.1, .int .i64 c.2] 47) := ⟨⟨_, Below.alloc y.2 y.2.size _⟩, rfl⟩
          rw [← hy9]
          have HL9 := Lib.hid (show OwnTL W1.heap.size B9 y9.1 (.slice (some ⟨g, 0, none⟩) (N + 1) cap) hs h9 E9 x9 from hy9 ▸ HO9.out.below (Below.alloc (Below.refl _ _) (Nat.le_refl _) _))
          have HCB := Lib.hid (show Blk y9.1 y.1.heap.size 47 #[.int .i64 c.1, .int .i64 c.2] from hy9 ▸ Blk.new _ _ _)
          have cc0 : y9.1.cell? ⟨y.1.heap.size, 0, none⟩ = some (.int .i64 c.1) := HCB.out.cell 0
          have cc1 : y9.1.cell? ⟨y.1.heap.size, 1, none⟩ = some (.int .i64 c.2) := HCB.out.cell 1
          have ccl := HCB.out.lt
          have hB9 := HL9.out.top
          have HYW := Lib.hid y9.2
          clear hy9 HO9
          have hgl9 := HL9.out.own.lt g rfl
          have gl : g < y9.1.heap.size := hgl9.2
          obtain ⟨⟨r9, cl9⟩, T, n9, c9⟩ := h9
          have k3 : y9.1.cell? ⟨g, N * 3 + 2, none⟩ = some (.slice T n9 c9) := by have := HL9.out.cell encTr_len (j := 2) rfl; rw [HNN.out] at this; exact this
          have hlow := HL9.out.low
          have hgb : W1.heap.size ≤ g := hgl9.1
          refine wp_region_floatT 5 6 (fun w' => w'.cell? ⟨g, N * 3 + 2, none⟩ = some (.slice T n9 c9)) (by kernel_rfl) (by kernel_rfl) (by kernel_rfl) (fun z_ => (z_.cell gl).trans k3) ?_
          simp only [List.take_succ_cons, List.take_zero, List.drop_succ_cons, List.drop_zero]
          refine @takeS_cons _ _ _ _ _ _ _ ?_ rfl (fun w' hSw => ?_) ?_
          rotate_left
          · ((try dsimp only at hSw); go_simp; try with_reducible rfl)
          try simp only [Act.put, List.setIfInBounds_toArray, List.set_cons_zero, List.set_cons_succ]
          refine @takeS_cons _ _ _ _ _ _ _ ?_ rfl (fun w' hSw => ?_) ?_
          rotate_left
          · ((try dsimp only at hSw); go_simp; try with_reducible rfl)
          try simp only [Act.put, List.setIfInBounds_toArray, List.set_cons_zero, List.set_cons_succ]
          refine @takeS_cons _ _ _ _ _ _ _ ?_ rfl (fun w' hSw => ?_) ?_
          rotate_left
          · ((try dsimp only at hSw); go_simp; try with_reducible rfl)
          try simp only [Act.put, List.setIfInBounds_toArray, List.set_cons_zero, List.set_cons_succ]
          refine @takeS_cons _ _ _ _ _ _ _ ?_ rfl (fun w' hSw => ?_) ?_
          rotate_left
          · ((try dsimp only at hSw); go_simp; try with_reducible rfl)
          try simp only [Act.put, List.setIfInBounds_toArray, List.set_cons_zero, List.set_cons_succ]
          refine @takeS_cons _ _ _ _ _ _ _ ?_ rfl (fun w' hSw => ?_) ?_
          rotate_left
          · ((try dsimp only at hSw); go_simp; try with_reducible rfl)
          try simp only [Act.put, List.setIfInBounds_toArray, List.set_cons_zero, List.set_cons_succ]
          refine takeS_nil ?_
          ((repeat' (first | go_big_quiet_step (fail) | ((refine wpQuiet_guard rfl rfl rfl rfl (fun hg => ?_) (fun hg => ?_)) <;> (fail_if_success (first | guard_hyp hg : true = true | guard_hyp hg : false = false)) <;> (try simp only [decide_eq_true_eq, decide_eq_false_iff_not] at hg) <;> simp only [Act.put, List.setIfInBounds_toArray, List.set_cons_zero, List.set_cons_succ]))); all_goals ((with_reducible refine wpQuiet_nil ?_); intro zq))
          have HB9 := Lib.hid (show Below y9.1.heap.size y9.1 (zq.1.alloc (.cells #[.int .i64 c.1, .int .i64 c.2] 47)) from Below.alloc zq.2 zq.2.size _)
          have HL8 := Lib.hid (HL9.out.below HB9.out)
          have HSR := Lib.hid (rd_one zq.1 encPt_len 47 c _ rfl rfl)
          have ht0 : (zq.1.alloc (.cells #[.int .i64 c.1, .int .i64 c.2] 47)).cell? ⟨g, N * 3 + 2, none⟩ = some (.slice T n9 c9) := (World.cell?_alloc_lt _ _ _ (zq.lt0 gl)).trans ((zq.cell gl).trans k3)
          have hBy : B9 ≤ (zq.1.alloc (.cells #[.int .i64 c.1, .int .i64 c.2] 47)).heap.size := Nat.le_trans hB9 HB9.out.size
          have HIN := Lib.hid (show (zq.1.alloc (.cells #[.int .i64 c.1, .int .i64 c.2] 47)).ownsRow B9 47 2 (.slice T n9 c9) x9.2.length (x9.2.flatMap encPt) from HL8.out.inner)
          have hn9 : n9 ≤ 65536 := by have := own_m HIN.out; omega
          intro K23 hK23
          go_simp
          refine hK23 _ _ (.inr ht0) ?_
          intro K24 hK24
          (skip; (refine step_app _ rfl _ _ 70 rfl encPt_len (by decide) oneP B9 47 (.agg #[.int .i64 0, .int .i64 0]) 16 infoCell rfl Tryz.underlying70 (.slice T n9 c9) _ _ _ (by first | rfl | simp [Act.eval, Act.put]) (HIN.out) _ _ _ (by first | rfl | simp [Act.eval, Act.put]) (HSR.out) ?c1 (by decide) ?c2 ?_; (case c1 => (first | (simp only [List.length_append, List.length_cons, List.length_nil]; omega) | omega | (simp; omega))); (case c2 => exact lEw); intro u9 w2 hown9 hg9 hbel9 hat9; ((obtain ⟨T', n', c', rfl⟩ := own_slice hown9); have HKP := HL8.out.keeps (by decide) hg9; have pz : w2.cell? ⟨g, N * 3 + 2, none⟩ = some (.slice T n9 c9) := (HKP.2 _).1.trans ht0; have pf : w2.frozen? ⟨g, N * 3 + 2, none⟩ = false := (HKP.2 _).2; have pl := HKP.1; have HST := Lib.hid (show OwnTL W1.heap.size B9 (w2.setCell ⟨g, E9.length * 3 + 2, none⟩ (.slice T' n' c')) (.slice (some ⟨g, 0, none⟩) (N + 1) cap) hs ((r9, cl9), (T', n', c')) E9 (x9.1, x9.2 ++ [c]) from HL8.out.store (u := .slice T' n' c') (x' := (x9.1, x9.2 ++ [c])) (h' := ((r9, cl9), (T', n', c'))) (j := 2) encTr_len (by decide) hg9 hown9 rfl HL8.out.tg rfl); rw [HNN.out] at HST; have HBF := Lib.hid (show Below W1.heap.size W1 w2 from (HYW.out.trans (HB9.out.mono HYW.out.size)).trans (hbel9.mono hlow)); clear hown9 hg9 hbel9 hat9 HKP)))
          refine hK24 _ _ (.inr pz) ?_
          intro K25 hK25
          go_simp
          refine hK25 _ _ (.inr pz) ?_
          intro K26 hK26
          go_simp
          refine hK26 _ _ (.inr pz) ?_
          intro K27 hK27
          go_simp
          refine hK27 _ _ (.inl rfl) ?_
          clear hK23 hK24 hK25 hK26 hK27 K23 K24 K25 K26 K27
          refine wpListT_nil ?_
          (try simp only [Exit.then])
          go_wp2
          go_roundw
          case rel => exact ⟨m' + 1 + 1, by omega, by go_num, Lib.hid (.inr ⟨E9, _, _, _, _, HNEW.out, HST.out, HLW.out⟩), ⟨_, Below.setCell HBF.out hgb _⟩, rfl⟩
          case measure => simp [intOf]; omega
    · have hkn : k = n := by omega
      subst hkn
      go_wp2
      go_ret
      exact ⟨⟨_, rfl, HPO.out.low.base_ HBW.out.size⟩, hyw⟩
end Go.Proofs.YtneelidbgigehaaGreat
