/- Lemmas: TrkOfW. -/
import Derived.Test.YtneelidbgigehaaGreatT27
/- region.Of, walked. -/
namespace Go.Proofs.YtneelidbgigehaaGreat
set_option linter.unusedSimpArgs false
set_option linter.unusedVariables false
set_option maxRecDepth 100000
open Go.RowKit Runs Reg
attribute [local go_sem] Kin.cell Kin.frozen Kin.lt0 Kin.lt1 Kin.lt2 Kin.lt3 run_mkf
theorem okc_cell (c : Int × Int) : Trk.okc c = okCell c := by
  rw [Bool.eq_iff_iff, Trk.okc_iff, okCell_iff]
theorem sort_cellsB (base : Nat) (w : World) (v : Value) (xs : List (Int × Int)) (hf : ∀ r ∈ xs, okCell r = true) (hown : w.ownsRow base 47 2 v xs.length (xs.flatMap encPt)) (hlen : xs.length ≤ 1099511627776) (hB : base ≤ w.heap.size) :
    Calls Tryz.prog 81 #[v, .func (.func 82) #[] #[]] w fun e w' => (e = .returned (.tuple #[]) ∧ ∃ ys : List (Int × Int), ys.Perm xs ∧ (ys.map keyC).Pairwise (· ≤ ·) ∧
      w'.ownsRow base 47 2 v ys.length (ys.flatMap encPt)) ∧ Below base w w' :=
  (sort_cells base w v xs (fun r hr => by rw [okc_cell]; exact hf r hr) hown (by omega) hB).mono fun e w' ⟨he, ys, h1, h2, h3, h4⟩ => ⟨⟨he, ys, h1, by
    rw [List.pairwise_map]
    have hm : ∀ r ∈ ys, okCell r = true := fun r hr => hf r (h1.mem_iff.1 hr)
    refine List.Pairwise.imp_of_mem (fun {a b} ha hb hab => ?_) h2
    rw [← key_lt (sm_ok (hm b hb)) (sm_ok (hm a ha))] at hab
    omega, h3⟩, h4⟩
theorem own_form' {W : World} {base n size : Nat} {e : TypeId} {v : Value} {xs : List Value} (h : W.ownsRow base e size v n xs) : ∃ (A : Option Addr) (cap : Nat), v = .slice A n cap ∧ n ≤ cap := by
  rcases h.2 with ⟨rfl, rfl⟩ | ⟨g, cap, cur, rfl, _, _, h3, _⟩
  · exact ⟨_, _, rfl, Nat.le_refl _⟩
  · exact ⟨_, _, rfl, h3⟩
theorem own_mm {W : World} {base n size m c : Nat} {B : Option Addr} {e : TypeId} {y : Int} {xs : List Value} (h : W.ownsRow base e size (rsl (y, B, m, c)) n xs) : m = n := by
  rcases h.2 with ⟨h1, h2⟩ | ⟨g, cap, cur, h1, _⟩
  · injection h1 with _ h1 _; simp at h1; omega
  · injection h1
set_option maxHeartbeats 16000000 in
theorem of_any (v : Value) (l : List (Int × Int)) (w : World) (h : Rd 2 encPt w v l) (hlen : l.length ≤ 1099511627776) :
    Calls Tryz.prog 40 #[v] w fun e w' => (∃ A n c, e = .returned (.tuple #[.agg #[.slice A n c], .int .i64 (ofE l)]) ∧ RdReg w' (.agg #[.slice A n c]) (ofR l)) ∧ Below w.heap.size w w' := by
  have HV := Lib.hid h
  obtain ⟨A, capA, rfl, hcapA, hopA⟩ := h.open_
  have HA := Lib.hid hopA
  have HLA := Lib.hid h
  clear hopA h
  go_enter Tryz.func40, Tryz.ntmps40
  go_wp2
  go_loopw [15] (fun i wr => ∃ k : Nat, k ≤ l.length ∧ i = .int .i64 k ∧ Hid (∀ c ∈ l.take k, okCell c = true) ∧ ∃ z : Kin (w.alloc (.cells #[.slice none 0 0] 24)), z.1 = wr) (fun i _ => l.length - (intOf i).toNat)
  case atStart => exact ⟨0, Nat.zero_le _, rfl, Lib.hid (by simp), ⟨_, Below.refl _ _⟩, rfl⟩
  case round =>
    obtain ⟨k, hk, rfl, HK, z, rfl⟩ := hrel
    have hB := Lib.hid ((Blk.new w 24 #[.slice none 0 0]).below z.2)
    by_cases hlt : k < l.length
    · obtain ⟨c, hc⟩ : ∃ el_, (l)[k]? = some el_ := ⟨_, List.getElem?_eq_getElem (by first | exact hlt | omega)⟩
      obtain ⟨bA, offA, rfl, hbA, hcA⟩ := HA.out (k) _ hc
      have c_0 : w.cell? ⟨bA, offA + k * 2, none⟩ = some (.int .i64 c.1) := by exact hcA (k) _ hc 0 _ rfl
      have c_1 : w.cell? ⟨bA, offA + k * 2 + 1, none⟩ = some (.int .i64 c.2) := by exact hcA (k) _ hc 1 _ rfl
      have hbA2 : bA < w.heap.size + 1 := by omega
      have HAc := Lib.hid hcA
      have Hc := Lib.hid hc
      clear hc hcA
      cases hc1 : okC c.1
      · have hc : okCell c = false := by unfold okCell; rw [hc1]; rfl
        have HBAD := Lib.hid (ofE_bad (List.mem_of_getElem? Hc.out) hc)
        clear hc
        go_wp2_with (go_at_call 52; (with_reducible refine (Kin.callK (W := w.alloc (.cells #[.slice none 0 0] 24)) gRw (regOk_is c.1 _ hc1)).mono ?_); rintro e w' ⟨z2, rfl, hz2, rfl⟩; (have hB2 := Lib.hid ((hB.out.below (Below.alloc (Below.refl _ _) (Nat.le_refl _) _)).below hz2); have q0 : (Kin.wd z2).cell? ⟨w.heap.size, 0, none⟩ = some (.slice none 0 0) := hB2.out.cell 0; have qf : (Kin.wd z2).frozen? ⟨w.heap.size, 0, none⟩ = false := hB2.out.frozen 0; have ql := hB2.out.lt))
        ((try simp only [Exit.inBlock, Exit.then]); refine bodyPost_ret (results_cell_t rfl _ _ (0, 0) rfl (hB2.out.set_ 0 _) Tryz.underlying24 rfl (by kernel_rfl)) rfl ?_)
        exact ⟨⟨_, _, _, by rw [show ofE l = 8 by unfold ofE; rw [HBAD.out]; rfl]; rfl, by rw [show ofR l = [] by unfold ofR; rw [HBAD.out]; rfl]; exact RdReg.nil⟩, gRw⟩
      · cases hc2 : okC c.2
        · have hc : okCell c = false := by unfold okCell; rw [hc1, hc2]; rfl
          have HBAD := Lib.hid (ofE_bad (List.mem_of_getElem? Hc.out) hc)
          clear hc
          go_wp2_with (first
            | (go_at_call 52; (with_reducible refine (Kin.callK (W := w.alloc (.cells #[.slice none 0 0] 24)) gRw (regOk_is c.1 _ hc1)).mono ?_); rintro e w' ⟨z2, rfl, hz2, rfl⟩; (have hB2 := Lib.hid ((hB.out.below (Below.alloc (Below.refl _ _) (Nat.le_refl _) _)).below hz2); have HC2 := Lib.hid ((Blk.new (Kin.wd z) 47 #[.int .i64 c.1, .int .i64 c.2]).below hz2); have k0 : (Kin.wd z2).cell? ⟨(Kin.wd z).heap.size, 0, none⟩ = some (.int .i64 c.1) := HC2.out.cell 0; have k1 : (Kin.wd z2).cell? ⟨(Kin.wd z).heap.size, 1, none⟩ = some (.int .i64 c.2) := HC2.out.cell 1; have kl := HC2.out.lt))
            | (go_at_call 52; (with_reducible refine (Kin.callK (W := w.alloc (.cells #[.slice none 0 0] 24)) gRw (regOk_is c.2 _ hc2)).mono ?_); rintro e w' ⟨z3, rfl, hz3, rfl⟩; (have hB3 := Lib.hid (hB2.out.below hz3); have q0 : (Kin.wd z3).cell? ⟨w.heap.size, 0, none⟩ = some (.slice none 0 0) := hB3.out.cell 0; have qf : (Kin.wd z3).frozen? ⟨w.heap.size, 0, none⟩ = false := hB3.out.frozen 0; have ql := hB3.out.lt)))
          ((try simp only [Exit.inBlock, Exit.then]); refine bodyPost_ret (results_cell_t rfl _ _ (0, 0) rfl (hB3.out.set_ 0 _) Tryz.underlying24 rfl (by kernel_rfl)) rfl ?_)
          exact ⟨⟨_, _, _, by rw [show ofE l = 8 by unfold ofE; rw [HBAD.out]; rfl]; rfl, by rw [show ofR l = [] by unfold ofR; rw [HBAD.out]; rfl]; exact RdReg.nil⟩, gRw⟩
        · have hc : okCell c = true := by unfold okCell; rw [hc1, hc2]; rfl
          have HTK := Lib.hid (take_ok HK.out Hc.out hc)
          clear hc
          go_wp2_with (first
            | (go_at_call 52; (with_reducible refine (Kin.callK (W := w.alloc (.cells #[.slice none 0 0] 24)) gRw (regOk_is c.1 _ hc1)).mono ?_); rintro e w' ⟨z2, rfl, hz2, rfl⟩; (have HC2 := Lib.hid ((Blk.new (Kin.wd z) 47 #[.int .i64 c.1, .int .i64 c.2]).below hz2); have k0 : (Kin.wd z2).cell? ⟨(Kin.wd z).heap.size, 0, none⟩ = some (.int .i64 c.1) := HC2.out.cell 0; have k1 : (Kin.wd z2).cell? ⟨(Kin.wd z).heap.size, 1, none⟩ = some (.int .i64 c.2) := HC2.out.cell 1; have kl := HC2.out.lt))
            | (go_at_call 52; (with_reducible refine (Kin.callK (W := w.alloc (.cells #[.slice none 0 0] 24)) gRw (regOk_is c.2 _ hc2)).mono ?_); rintro e w' ⟨z3, rfl, hz3, rfl⟩; skip))
          go_roundw
          case rel => exact ⟨k + 1, by omega, by go_num, HTK, z3, rfl⟩
          case measure => simp [intOf]; omega
    · have HALL := Lib.hid (all_take HK.out (by omega))
      clear HK
      have hwz : (w.alloc (.cells #[.slice none 0 0] 24)).heap.size ≤ z.1.heap.size := z.2.size
      go_wp2_with (first
        | (go_at_call 80; (with_reducible refine (Kin.callK (W := w.alloc (.cells #[.slice none 0 0] 24)) gRw (clone_cells _ l _ (HV.out.below gRw) hlen)).mono ?_); rintro e w' ⟨z1, ⟨s1, rfl, hs1⟩, hz1, rfl⟩; (have HS1 := Lib.hid (own_base hs1 (base' := (w.alloc (.cells #[.slice none 0 0] 24)).heap.size) hwz); clear hs1))
        | (go_at_call 81; (with_reducible refine (Kin.callB (W := w.alloc (.cells #[.slice none 0 0] 24)) gRw (sort_cellsB (w.alloc (.cells #[.slice none 0 0] 24)).heap.size _ _ l (fun c hc => List.all_eq_true.1 HALL.out c hc) HS1.out hlen (Kin.le z1 (Nat.le_refl _)))).mono ?_); rintro e w' ⟨z2, ⟨rfl, L, hP, hS, hs2⟩, rfl⟩; (have HS2 := Lib.hid hs2; have HP := Lib.hid hP; have HS := Lib.hid hS; (obtain ⟨AL, cL, rfl, hcL⟩ := own_form' hs2); clear hs2 hP hS)))
      have HL2 := Lib.hid (Rd.own encPt_len HS2.out)
      have HLB := Lib.hid (show L.length ≤ 1099511627776 by rw [HP.out.length_eq]; exact hlen)
      have HOK := Lib.hid (show ∀ c ∈ L, okCell c = true from fun c hc => List.all_eq_true.1 HALL.out c (HP.out.mem_iff.1 hc))
      have HRES := Lib.hid (show ofTo L L.length = ofR l from ofR_is HALL.out (fun c => HP.out.mem_iff) HS.out)
      have HE0 := Lib.hid (show ofE l = 0 by unfold ofE; rw [HALL.out]; rfl)
      obtain ⟨n, hLn⟩ : ∃ n, L.length = n := ⟨_, rfl⟩
      have HLN := Lib.hid hLn
      rw [hLn] at HL2 HLB HRES hcL ⊢
      clear hLn hwz
      have HC := Lib.hid (Rd.op HL2.out)
      have HLC := Lib.hid HL2.out
      have ql2 : (w.alloc (.cells #[.slice none 0 0] 24)).heap.size ≤ z2.1.heap.size := z2.2.size
      go_loopw [37] (fun i wr => ∃ k : Nat, k ≤ n ∧ i = .int .i64 k ∧ ∃ S, Hid (RowsAt (z2.1.heap.size + 1) wr S (ofTo L k)) ∧ Hid (Blk wr z2.1.heap.size 24 #[S]) ∧ Hid (Below z2.1.heap.size z2.1 wr)) (fun i _ => n - (intOf i).toNat)
      case atStart => exact ⟨0, Nat.zero_le _, rfl, _, Lib.hid (.inl ⟨rfl, rfl⟩), Lib.hid (Blk.new _ _ _), Lib.hid gRw⟩
      case round =>
        obtain ⟨k, hk, rfl, S, HO, HP6, hyB⟩ := hrel
        obtain ⟨y6, rfl⟩ : ∃ y6 : Kin z2.1, y6.1 = wr := ⟨⟨wr, hyB.out⟩, rfl⟩
        clear hyB
        have hrl := vreg_len (ofTo_inv HOK.out HS.out k (by rw [HLN.out]; exact hk)).1
        by_cases hlt : k < n
        · obtain ⟨c, hc⟩ : ∃ el_, (L)[k]? = some el_ := ⟨_, List.getElem?_eq_getElem (by first | exact (by rw [HLN.out]; exact hlt) | omega)⟩
          obtain ⟨bC, offC, rfl, hbC, hcC⟩ := HC.out (k) _ hc
          have c_0 : z2.1.cell? ⟨bC, offC + k * 2, none⟩ = some (.int .i64 c.1) := by exact hcC (k) _ hc 0 _ rfl
          have c_1 : z2.1.cell? ⟨bC, offC + k * 2 + 1, none⟩ = some (.int .i64 c.2) := by exact hcC (k) _ hc 1 _ rfl
          have hbC2 : bC < z2.1.heap.size + 1 := by omega
          have HCc := Lib.hid hcC
          have Hc := Lib.hid hc
          clear hc hcC
          have HADD := Lib.hid (ofTo_succ Hc.out)
          have hinv := (ofTo_inv HOK.out HS.out k (by rw [HLN.out]; exact hk)).2.2
          have hnb : n ≤ 1099511627776 := HLB.out
          have d_0 : y6.1.cell? ⟨bC, offC + k * 2, none⟩ = some (.int .i64 c.1) := (y6.cell hbC).trans c_0
          have d_1 : y6.1.cell? ⟨bC, offC + k * 2 + 1, none⟩ = some (.int .i64 c.2) := (y6.cell hbC).trans c_1
          have hbC6 := y6.lt0 hbC
          have hcr := (okCell_iff.1 (HOK.out c (List.mem_of_getElem? Hc.out))).1
          have hw0 : IntKind.i64.wrap (c.1 + 1) = c.1 + 1 := IntWalk.i64_in _ (by omega)
          clear c_0 c_1 hbC2
          obtain ⟨R, hR⟩ : ∃ R, R = ofTo L k := ⟨_, rfl⟩
          rw [← hR] at HO hrl HADD hinv
          clear hR
          rcases hinv with ⟨_, hRn⟩ | ⟨pp, dd, E, rl, a, hpp, hRE⟩
          · subst hRn
            obtain ⟨AS, cS, rfl⟩ := HO.out.own.len
            have HADD := Lib.hid (show ofTo L (k + 1) = [] ++ [(c.2, [(c.1, c.1 + 1)])] by rw [HADD.out]; rfl)
            have p0 : y6.1.cell? ⟨z2.1.heap.size, 0, none⟩ = some (.slice AS 0 cS) := HP6.out.cell 0
            have pl := HP6.out.lt
            go_wp2
            ((refine wp_region_kinK (W := (Kin.wd z2)) (by kernel_rfl) (by kernel_rfl) gRw ?_); (repeat' (first | go_big_quiet_step (fail) | ((refine wpQuiet_guard rfl rfl rfl rfl (fun hg => ?_) (fun hg => ?_)) <;> (fail_if_success (first | guard_hyp hg : true = true | guard_hyp hg : false = false)) <;> (try simp only [decide_eq_true_eq, decide_eq_false_iff_not] at hg) <;> simp only [Act.put, List.setIfInBounds_toArray, List.set_cons_zero, List.set_cons_succ]))); all_goals ((with_reducible refine wpQuiet_nil ?_); intro zq hz))
            have HBQ := Lib.hid (show Below y6.1.heap.size y6.1 zq.1 from (Below.alloc (Below.refl y6.1.heap.size y6.1) (Nat.le_refl _) (.cells #[.int .i64 c.1, .int .i64 c.2] 47)).trans (hz.mono (le_alloc (Nat.le_refl _) _)))
            have PCQ := Lib.hid ((Blk.new y6.1 47 #[.int .i64 c.1, .int .i64 c.2]).below hz)
            have m0 : zq.1.cell? ⟨y6.1.heap.size, 0, none⟩ = some (.int .i64 c.1) := PCQ.out.cell 0
            have m1 : zq.1.cell? ⟨y6.1.heap.size, 1, none⟩ = some (.int .i64 c.2) := PCQ.out.cell 1
            have ml := PCQ.out.lt
            have PGQ := Lib.hid (HP6.out.below HBQ.out)
            have g0 : zq.1.cell? ⟨z2.1.heap.size, 0, none⟩ = some (.slice AS 0 cS) := PGQ.out.cell 0
            have gl := PGQ.out.lt
            obtain ⟨hs, hown, hnest, hap⟩ := HO.out.own
            have HOW := Lib.hid (own_below hown HBQ.out)
            have HNQ := Lib.hid (hnest.below HBQ.out)
            have HAP := Lib.hid hap
            have hhl : hs.length ≤ 8192 := by rw [hnest.1]; exact hrl.1
            have HXB := Lib.hid (show Below zq.1.heap.size zq.1 ((zq.1.alloc (.cells #[.int .i64 c.1, .int .i64 (c.1 + 1)] 69)).alloc (.cells #[.int .i64 c.2, .slice (some ⟨zq.1.heap.size, 0, none⟩) 1 1] 44)) from Below.alloc (Below.alloc (Below.refl _ _) (Nat.le_refl _) _) (le_alloc (Nat.le_refl _) _) _)
            have HOX := Lib.hid (own_below HOW.out HXB.out)
            have HNX := Lib.hid (HNQ.out.below HXB.out)
            have HI0 := Lib.hid ((own_made zq.1 encRun_len zq.1.heap.size 69 [(c.1, c.1 + 1)] #[.int .i64 c.1, .int .i64 (c.1 + 1)] rfl (Nat.le_refl _) (by unfold maxLen; simp)).alloc (.cells #[.int .i64 c.2, .slice (some ⟨zq.1.heap.size, 0, none⟩) 1 1] 44))
            have HGX := Lib.hid (PGQ.out.below HXB.out)
            have hlow : z2.1.heap.size + 1 ≤ zq.1.heap.size := gl
            have hbx : z2.1.heap.size + 1 ≤ ((zq.1.alloc (.cells #[.int .i64 c.1, .int .i64 (c.1 + 1)] 69)).alloc (.cells #[.int .i64 c.2, .slice (some ⟨zq.1.heap.size, 0, none⟩) 1 1] 44)).heap.size := Nat.le_trans hlow HXB.out.size
            clear hown hnest hap
            go_wp2_with (at_builtin; refine wpList_app _ rfl _ _ 22 rfl encRow_len (by decide) oneRow (z2.1.heap.size + 1) 44 (.agg #[.int .i64 0, .slice none 0 0]) 32 infoRow rfl Tryz.underlying22 _ _ _ _ rfl (HOX.out) _ _ _ rfl (rd_one _ encRow_len _ (hd c.2 (some ⟨zq.1.heap.size, 0, none⟩) 1 1) _ rfl) ?c1 (by decide) ?c2 ?_; (case c1 => (first | (simp only [List.length_append, List.length_cons, List.length_nil]; omega) | omega | (simp; omega))); (case c2 => exact lEw); intro v' w1 hown' hg hbel hat'; ((obtain ⟨AV, nV, cV, rfl⟩ := own_slice hown'); have PG1 := Lib.hid (HGX.out.grown hg (Ne.symm (own_ne HOX.out HGX.out (by decide)))); have k0 : w1.cell? ⟨z2.1.heap.size, 0, none⟩ = some (.slice AS 0 cS) := PG1.out.cell 0; have kf : w1.frozen? ⟨z2.1.heap.size, 0, none⟩ = false := PG1.out.frozen 0; have kl := PG1.out.lt; have HG := Lib.hid hg; have HOWN := Lib.hid hown'; have HBE := Lib.hid hbel; have HAT := Lib.hid hat'; clear hown' hg hbel hat'))
            have HIN := Lib.hid (HI0.out.kept HG.out (.inr (fun e => by
              rcases own_own_ne HOX.out HI0.out (by decide) with h1 | h1
              · exact absurd (e.trans h1) (by intro h2; cases h2)
              · exact h1 e.symm)))
            have HPS := Lib.hid (OwnN.push (x := (c.2, [(c.1, c.1 + 1)])) (h := hd c.2 (some ⟨zq.1.heap.size, 0, none⟩) 1 1) (sl := rsl) (tag := rtag) (B := zq.1.heap.size) hs HNX.out HNQ.out (Nat.le_refl _) hlow (Nat.le_trans HXB.out.size HG.out.size) HAP.out HOWN.out HG.out HAT.out rfl HIN.out)
            have HPT := Lib.hid (show OwnRL (z2.1.heap.size + 1) zq.1.heap.size (w1.setCell ⟨z2.1.heap.size, 0, none⟩ (.slice AV nV cV)) (.slice AV nV cV) hs (hd c.2 (some ⟨zq.1.heap.size, 0, none⟩) 1 1) ([] : List Reg.Row) (c.2, [(c.1, c.1 + 1)]) from OwnRL.set_ HPS.out PG1.out (by decide) (by decide))
            have HBF := Lib.hid (show Below z2.1.heap.size z2.1 w1 from ((y6.2.trans (HBQ.out.mono y6.2.size)).trans (HXB.out.mono (Nat.le_of_lt gl))).trans (HBE.out.mono (Nat.le_succ _)))
            first
            | (go_roundw; (case rel => exact ⟨k + 1, by omega, by go_num, _, Lib.hid (.inr ⟨([] : List Reg.Row), _, _, _, _, HADD.out, HPT.out⟩), Lib.hid (PG1.out.set_ 0 _), Lib.hid (Below.setCell HBF.out (Nat.le_refl _) _)⟩); (case measure => simp [intOf]; omega))
            | (refine ⟨⟨k + 1, by omega, by go_num, _, Lib.hid (.inr ⟨([] : List Reg.Row), _, _, _, _, HADD.out, HPT.out⟩), Lib.hid (PG1.out.set_ 0 _), Lib.hid (Below.setCell HBF.out (Nat.le_refl _) _)⟩, ?_⟩; simp [intOf]; omega)
          · obtain ⟨yr, hyr⟩ : ∃ y, dd.2 = y := ⟨_, rfl⟩
            obtain ⟨tq, htq⟩ : ∃ t, dd.1 + 1 = t := ⟨_, rfl⟩
            rw [hyr, htq] at hRE
            obtain ⟨r, hre⟩ : ∃ r : Reg.Row, r = (yr, rl ++ [(a, tq)]) := ⟨_, rfl⟩
            rw [← hre] at hRE
            have HRE := Lib.hid hre
            subst hRE
            clear hyr htq hpp hre
            obtain ⟨N, hNe⟩ : ∃ N, E.length = N := ⟨_, rfl⟩
            have HNN := Lib.hid hNe
            rcases HO.out with ⟨h1, _⟩ | ⟨E2, r2, hs0, h0, B0, h1, HL0⟩
            · simp at h1
            obtain ⟨rfl, rfl⟩ := List.append_inj' h1 rfl |>.imp id (fun h => List.singleton_inj.1 h)
            obtain ⟨g, cS, e9, hgb, _⟩ := HL0.shape
            rw [hNe] at e9
            subst e9
            have HL0 := Lib.hid HL0
            obtain ⟨⟨yh, T, n9, c9⟩, hh0⟩ : ∃ p : RowH, h0 = p := ⟨_, rfl⟩
            subst hh0
            have htg : yh = r.1 := HL0.out.tg
            subst htg
            have hr2 := hrl.2 r (by simp)
            have hNb : N ≤ 8192 := by have := hrl.1; simp at this; omega
            have p0 : y6.1.cell? ⟨z2.1.heap.size, 0, none⟩ = some (.slice (some ⟨g, 0, none⟩) (N + 1) cS) := HP6.out.cell 0
            have pl := HP6.out.lt
            have k0 : y6.1.cell? ⟨g, N * 2, none⟩ = some (.int .i64 r.1) := by have := HL0.out.cell encRow_len (j := 0) rfl; rw [HNN.out] at this; simpa using this
            have k1 : y6.1.cell? ⟨g, N * 2 + 1, none⟩ = some (.slice T n9 c9) := by have := HL0.out.cell encRow_len (j := 1) rfl; rw [HNN.out] at this; exact this
            have gl0 := (HL0.out.own.lt g rfl).2
            have hw1 : IntKind.i64.wrap (((N + 1 : Nat) : Int) - 1) = (N : Int) := by rw [IntWalk.i64_in _ (by omega)]; omega
            have hw2 : IntKind.i64.wrap ((N : Int) + 1 - 1) = (N : Int) := by rw [IntWalk.i64_in _ (by omega)]; omega
            have hw3 : (N : Int) < (N : Int) + 1 := by omega
            have hw4 : N < N + 1 := by omega
            have hw5 : (N : Int) + 1 - 1 = (N : Int) := by omega
            have hw6 : ((N : Int) + 1 == 0) = false := by simp; omega
            have hw7 : (((N + 1 : Nat) : Int) == 0) = false := by simp; omega
            by_cases hy : r.1 = c.2
            · have hyb : (r.1 != c.2) = false := by simpa using hy
              have HADD := Lib.hid (show ofTo L (k + 1) = E ++ [(r.1, withL r.2 c.1)] by rw [HADD.out, addC_last, if_pos hy])
              have hrq : r.2 = rl ++ [(a, tq)] := by rw [HRE.out]
              obtain ⟨M, hMe⟩ : ∃ M, rl.length = M := ⟨_, rfl⟩
              have HMM := Lib.hid hMe
              have HRQ := Lib.hid hrq
              have hn9 : n9 = M + 1 := by have := own_mm HL0.out.inner; rw [hrq] at this; simp at this; omega
              subst hn9
              have hMb : M ≤ 1048576 := by have := hr2; rw [hrq] at this; simp at this; omega
              obtain ⟨gr, c8, e8, hgr⟩ : ∃ gr c8, T = some ⟨gr, 0, none⟩ ∧ gr < y6.1.heap.size := by
                have hin : y6.1.ownsRow B0 69 2 (.slice T (M + 1) c9) r.2.length (r.2.flatMap encRun) := HL0.out.inner
                rcases hin.2 with ⟨e1, _⟩ | ⟨g', cap', cur', e1, _⟩
                · cases e1
                · injection e1 with e1 _ _
                  subst e1
                  exact ⟨g', 0, rfl, (hin.lt g' rfl).2⟩
              subst e8
              have hrdI := Rd.own encRun_len HL0.out.inner
              have r1 : y6.1.cell? ⟨gr, M * 2 + 1, none⟩ = some (.int .i64 tq) := by
                obtain ⟨A', c', e', _, ho⟩ := hrdI
                injection e' with e1 e2 e3
                rcases ho with ho | ⟨b, off, e4, _, hc⟩
                · rw [hrq] at ho; simp at ho
                · rw [e4] at e1; injection e1 with e1; injection e1 with e1 e5 _
                  subst e1 e5
                  have := hc M (a, tq) (by rw [hrq, ← hMe]; simp) 1 _ rfl
                  simpa using this
              have hv1 : IntKind.i64.wrap (((M + 1 : Nat) : Int) - 1) = (M : Int) := by rw [IntWalk.i64_in _ (by omega)]; omega
              have hv2 : IntKind.i64.wrap ((M : Int) + 1 - 1) = (M : Int) := by rw [IntWalk.i64_in _ (by omega)]; omega
              have hv3 : (M : Int) < (M : Int) + 1 := by omega
              have hv4 : M < M + 1 := by omega
              have hv5 : (M : Int) + 1 - 1 = (M : Int) := by omega
              clear hrdI hMe hrq hNe h1 hy
              by_cases hgt : tq < c.1
              · have HADD := Lib.hid (show ofTo L (k + 1) = E ++ [(r.1, rl ++ [(a, tq)] ++ [(c.1, c.1 + 1)])] by rw [HADD.out, HRQ.out, withL_last]; rw [if_neg (by simp only; omega), if_neg (by simp only; omega)])
                go_wp2
                ((refine wp_region_kinK (W := (Kin.wd z2)) (by kernel_rfl) (by kernel_rfl) gRw ?_); (repeat' (first | go_big_quiet_step (fail) | ((refine wpQuiet_guard rfl rfl rfl rfl (fun hg => ?_) (fun hg => ?_)) <;> (fail_if_success (first | guard_hyp hg : true = true | guard_hyp hg : false = false)) <;> (try simp only [decide_eq_true_eq, decide_eq_false_iff_not] at hg) <;> simp only [Act.put, List.setIfInBounds_toArray, List.set_cons_zero, List.set_cons_succ]))); all_goals ((with_reducible refine wpQuiet_nil ?_); intro zq hz))
                revert zq hz
                intro zA hzA
                have HBA := Lib.hid (show Below y6.1.heap.size y6.1 zA.1 from (Below.alloc (Below.refl y6.1.heap.size y6.1) (Nat.le_refl _) (.cells #[.int .i64 c.1, .int .i64 c.2] 47)).trans (hzA.mono (le_alloc (Nat.le_refl _) _)))
                have PCA := Lib.hid ((Blk.new y6.1 47 #[.int .i64 c.1, .int .i64 c.2]).below hzA)
                have m0 : zA.1.cell? ⟨y6.1.heap.size, 0, none⟩ = some (.int .i64 c.1) := PCA.out.cell 0
                have m1 : zA.1.cell? ⟨y6.1.heap.size, 1, none⟩ = some (.int .i64 c.2) := PCA.out.cell 1
                have ml := PCA.out.lt
                have PGA := Lib.hid (HP6.out.below HBA.out)
                have g0 : zA.1.cell? ⟨z2.1.heap.size, 0, none⟩ = some (.slice (some ⟨g, 0, none⟩) (N + 1) cS) := PGA.out.cell 0
                have gl := PGA.out.lt
                have HLA2 := Lib.hid (HL0.out.below HBA.out)
                have a0 : zA.1.cell? ⟨g, N * 2 + 1, none⟩ = some (.slice (some ⟨gr, 0, none⟩) (M + 1) c9) := (HBA.out.cell (p := ⟨g, _, none⟩) gl0).trans k1
                have al0 : g < zA.1.heap.size := Nat.lt_of_lt_of_le gl0 HBA.out.size
                have a1 : zA.1.cell? ⟨gr, M * 2 + 1, none⟩ = some (.int .i64 tq) := (HBA.out.cell (p := ⟨gr, _, none⟩) hgr).trans r1
                have al1 : gr < zA.1.heap.size := Nat.lt_of_lt_of_le hgr HBA.out.size
                clear p0 k0 k1 r1 d_0 d_1
                go_wp2
                ((refine wp_region_kinK (W := (Kin.wd zA)) (by kernel_rfl) (by kernel_rfl) gRw ?_); (repeat' (first | go_big_quiet_step (fail) | ((refine wpQuiet_guard rfl rfl rfl rfl (fun hg => ?_) (fun hg => ?_)) <;> (fail_if_success (first | guard_hyp hg : true = true | guard_hyp hg : false = false)) <;> (try simp only [decide_eq_true_eq, decide_eq_false_iff_not] at hg) <;> simp only [Act.put, List.setIfInBounds_toArray, List.set_cons_zero, List.set_cons_succ]))); all_goals ((with_reducible refine wpQuiet_nil ?_); intro zq hz))
                revert zq hz
                intro zB hzB
                go_wp2
                ((refine wp_region_kinK (W := (Kin.wd zA)) (by kernel_rfl) (by kernel_rfl) gRw ?_); (repeat' (first | go_big_quiet_step (fail) | ((refine wpQuiet_guard rfl rfl rfl rfl (fun hg => ?_) (fun hg => ?_)) <;> (fail_if_success (first | guard_hyp hg : true = true | guard_hyp hg : false = false)) <;> (try simp only [decide_eq_true_eq, decide_eq_false_iff_not] at hg) <;> simp only [Act.put, List.setIfInBounds_toArray, List.set_cons_zero, List.set_cons_succ]))); all_goals ((with_reducible refine wpQuiet_nil ?_); intro zq hz))
                revert zq hz
                intro zC hzC
                go_wp2
                have hgC : g < zC.1.heap.size := zC.lt0 al0
                have kC : zC.1.cell? ⟨g, N * 2 + 1, none⟩ = some (.slice (some ⟨gr, 0, none⟩) (M + 1) c9) := (zC.cell al0).trans a0
                have hlow := HL0.out.low
                refine wp_region_floatT 5 11 (fun w' => w'.cell? ⟨g, N * 2 + 1, none⟩ = some (.slice (some ⟨gr, 0, none⟩) (M + 1) c9)) (by kernel_rfl) (by kernel_rfl) (by kernel_rfl) (fun z_ => (z_.cell hgC).trans kC) ?_
                simp only [List.take_succ_cons, List.take_zero, List.drop_succ_cons, List.drop_zero]
                refine @takeS_cons _ _ _ _ _ _ _ ?_ rfl (fun w' hSw => ?_) ?_
                rotate_left
                · ((try dsimp only at hSw); go_simp; try with_reducible rfl)
                try simp only [Act.put, List.setIfInBounds_toArray, List.set_cons_zero, List.set_cons_succ]
                refine @takeS_cons _ _ _ _ _ _ _ ?_ rfl (fun w' hSw => ?_) ?_
                rotate_left
                · ((try dsimp only at hSw); go_simp; try with_reducible rfl)
                try simp only [Act.put, List.setIfInBounds_toArray, List.set_cons_zero, List.set_cons_succ]
                refine @takeS_cons _ _ _ _ _ _ _ ?_ rfl (fun w' hSw => ?_) ?_
                rotate_left
                · ((try dsimp only at hSw); go_simp; try with_reducible rfl)
                try simp only [Act.put, List.setIfInBounds_toArray, List.set_cons_zero, List.set_cons_succ]
                refine @takeS_cons _ _ _ _ _ _ _ ?_ rfl (fun w' hSw => ?_) ?_
                rotate_left
                · ((try dsimp only at hSw); go_simp; try with_reducible rfl)
                try simp only [Act.put, List.setIfInBounds_toArray, List.set_cons_zero, List.set_cons_succ]
                refine @takeS_cons _ _ _ _ _ _ _ ?_ rfl (fun w' hSw => ?_) ?_
                rotate_left
                · ((try dsimp only at hSw); go_simp; try with_reducible rfl)
                try simp only [Act.put, List.setIfInBounds_toArray, List.set_cons_zero, List.set_cons_succ]
                refine takeS_nil ?_
                ((repeat' (first | go_big_quiet_step (fail) | ((refine wpQuiet_guard rfl rfl rfl rfl (fun hg => ?_) (fun hg => ?_)) <;> (fail_if_success (first | guard_hyp hg : true = true | guard_hyp hg : false = false)) <;> (try simp only [decide_eq_true_eq, decide_eq_false_iff_not] at hg) <;> simp only [Act.put, List.setIfInBounds_toArray, List.set_cons_zero, List.set_cons_succ]))); all_goals ((with_reducible refine wpQuiet_nil ?_); intro zq))
                have HB9 := Lib.hid (show Below zC.1.heap.size zC.1 (zq.1.alloc (.cells #[.int .i64 c.1, .int .i64 (c.1 + 1)] 69)) from Below.alloc zq.2 zq.2.size _)
                have HL8 := Lib.hid ((HLA2.out.below zC.2).below HB9.out)
                have HSR := Lib.hid (rd_one zq.1 encRun_len 69 (c.1, c.1 + 1) _ rfl rfl)
                have ht0 : (zq.1.alloc (.cells #[.int .i64 c.1, .int .i64 (c.1 + 1)] 69)).cell? ⟨g, N * 2 + 1, none⟩ = some (.slice (some ⟨gr, 0, none⟩) (M + 1) c9) := (World.cell?_alloc_lt _ _ _ (zq.lt0 hgC)).trans ((zq.cell hgC).trans kC)
                have hB0 : B0 ≤ (zq.1.alloc (.cells #[.int .i64 c.1, .int .i64 (c.1 + 1)] 69)).heap.size := HL8.out.top
                have hIN : (zq.1.alloc (.cells #[.int .i64 c.1, .int .i64 (c.1 + 1)] 69)).ownsRow B0 69 2 (.slice (some ⟨gr, 0, none⟩) (M + 1) c9) r.2.length (r.2.flatMap encRun) := HL8.out.inner
                rw [HRQ.out] at hIN
                have HIN := Lib.hid hIN
                have PGX := Lib.hid ((PGA.out.below zC.2).below HB9.out)
                have hll9 : (rl ++ [(a, tq)]).length ≤ 1048577 := by rw [List.length_append, HMM.out]; simp; omega
                clear hIN
                intro K23 hK23
                go_simp
                refine hK23 _ _ (.inr ht0) ?_
                intro K24 hK24
                (skip; (refine step_app _ rfl _ _ 42 rfl encRun_len (by decide) oneR B0 69 (.agg #[.int .i64 0, .int .i64 0]) 16 infoRun rfl Tryz.underlying42 (.slice (some ⟨gr, 0, none⟩) (M + 1) c9) _ _ _ (by first | rfl | simp [Act.eval, Act.put]) (HIN.out) _ _ _ (by first | rfl | simp [Act.eval, Act.put]) (HSR.out) ?c1 (by decide) ?c2 ?_; (case c1 => (first | (simp only [List.length_append, List.length_cons, List.length_nil]; omega) | omega | (simp; omega))); (case c2 => exact lEw); intro u9 w2 hown9 hg9 hbel9 hat9; ((obtain ⟨T', n', c', rfl⟩ := own_slice hown9); have HKP := HL8.out.keeps (by decide) hg9; have pz : w2.cell? ⟨g, N * 2 + 1, none⟩ = some (.slice (some ⟨gr, 0, none⟩) (M + 1) c9) := (HKP.2 _).1.trans ht0; have pf : w2.frozen? ⟨g, N * 2 + 1, none⟩ = false := (HKP.2 _).2; have pl := HKP.1; have HST := Lib.hid (show OwnRL (z2.1.heap.size + 1) B0 (w2.setCell ⟨g, E.length * 2 + 1, none⟩ (.slice T' n' c')) (.slice (some ⟨g, 0, none⟩) (N + 1) cS) hs0 (r.1, T', n', c') E (r.1, rl ++ [(a, tq)] ++ [(c.1, c.1 + 1)]) from HL8.out.store (u := .slice T' n' c') (x' := (r.1, rl ++ [(a, tq)] ++ [(c.1, c.1 + 1)])) (h' := (r.1, T', n', c')) (j := 1) encRow_len (by decide) hg9 hown9 rfl HL8.out.tg rfl); rw [HNN.out] at HST; have PG2 := Lib.hid (PGX.out.grown hg9 (Ne.symm (own_ne HIN.out PGX.out (by decide)))); have HBF := Lib.hid (show Below z2.1.heap.size z2.1 w2 from (((y6.2.trans (HBA.out.mono y6.2.size)).trans (zC.2.mono (Nat.le_of_lt gl))).trans (HB9.out.mono (Nat.le_trans (Nat.le_of_lt gl) zC.2.size))).trans (hbel9.mono (Nat.le_of_succ_le hlow))); clear hown9 hg9 hbel9 hat9 HKP)))
                refine hK24 _ _ (.inr pz) ?_
                intro K25 hK25
                go_simp
                refine hK25 _ _ (.inr pz) ?_
                intro K26 hK26
                go_simp
                refine hK26 _ _ (.inr pz) ?_
                intro K27 hK27
                go_simp
                refine hK27 _ _ (.inl rfl) ?_
                clear hK23 hK24 hK25 hK26 hK27 K23 K24 K25 K26 K27
                refine wpListT_nil ?_
                (try simp only [Exit.then])
                go_wp2
                have hgg : z2.1.heap.size ≠ g := by omega
                have hgge : z2.1.heap.size ≤ g := by omega
                first
                | (go_roundw; (case rel => exact ⟨k + 1, by omega, by go_num, _, Lib.hid (.inr ⟨E, _, _, _, _, HADD.out, HST.out⟩), Lib.hid (PG2.out.far hgg _), Lib.hid (Below.setCell HBF.out hgge _)⟩); (case measure => simp [intOf]; omega))
                | (refine ⟨⟨k + 1, by omega, by go_num, _, Lib.hid (.inr ⟨E, _, _, _, _, HADD.out, HST.out⟩), Lib.hid (PG2.out.far hgg _), Lib.hid (Below.setCell HBF.out hgge _)⟩, ?_⟩; simp [intOf]; omega)
              · have hgt2 : ¬ c.1 > tq := hgt
                have HADD := Lib.hid (show ofTo L (k + 1) = E ++ [(r.1, rl ++ [(a, max tq (c.1 + 1))])] by
                  rw [HADD.out, HRQ.out, withL_last]
                  by_cases h3 : c.1 < tq
                  · rw [if_pos h3, Int.max_eq_left (by omega)]
                  · rw [if_neg h3, if_pos (by simp only; omega), Int.max_eq_right (by omega)])
                go_wp2
                ((refine wp_region_kinK (W := (Kin.wd z2)) (by kernel_rfl) (by kernel_rfl) gRw ?_); (repeat' (first | go_big_quiet_step (fail) | ((refine wpQuiet_guard rfl rfl rfl rfl (fun hg => ?_) (fun hg => ?_)) <;> (fail_if_success (first | guard_hyp hg : true = true | guard_hyp hg : false = false)) <;> (try simp only [decide_eq_true_eq, decide_eq_false_iff_not] at hg) <;> simp only [Act.put, List.setIfInBounds_toArray, List.set_cons_zero, List.set_cons_succ]))); all_goals ((with_reducible refine wpQuiet_nil ?_); intro zq hz))
                revert zq hz
                intro zA hzA
                have HBA := Lib.hid (show Below y6.1.heap.size y6.1 zA.1 from (Below.alloc (Below.refl y6.1.heap.size y6.1) (Nat.le_refl _) (.cells #[.int .i64 c.1, .int .i64 c.2] 47)).trans (hzA.mono (le_alloc (Nat.le_refl _) _)))
                have PCA := Lib.hid ((Blk.new y6.1 47 #[.int .i64 c.1, .int .i64 c.2]).below hzA)
                have m0 : zA.1.cell? ⟨y6.1.heap.size, 0, none⟩ = some (.int .i64 c.1) := PCA.out.cell 0
                have m1 : zA.1.cell? ⟨y6.1.heap.size, 1, none⟩ = some (.int .i64 c.2) := PCA.out.cell 1
                have ml := PCA.out.lt
                have PGA := Lib.hid (HP6.out.below HBA.out)
                have g0 : zA.1.cell? ⟨z2.1.heap.size, 0, none⟩ = some (.slice (some ⟨g, 0, none⟩) (N + 1) cS) := PGA.out.cell 0
                have gl := PGA.out.lt
                have HLA2 := Lib.hid (HL0.out.below HBA.out)
                have a0 : zA.1.cell? ⟨g, N * 2 + 1, none⟩ = some (.slice (some ⟨gr, 0, none⟩) (M + 1) c9) := (HBA.out.cell (p := ⟨g, _, none⟩) gl0).trans k1
                have al0 : g < zA.1.heap.size := Nat.lt_of_lt_of_le gl0 HBA.out.size
                have a1 : zA.1.cell? ⟨gr, M * 2 + 1, none⟩ = some (.int .i64 tq) := (HBA.out.cell (p := ⟨gr, _, none⟩) hgr).trans r1
                have al1 : gr < zA.1.heap.size := Nat.lt_of_lt_of_le hgr HBA.out.size
                clear p0 k0 k1 r1 d_0 d_1
                go_wp2
                ((refine wp_region_kinK (W := (Kin.wd zA)) (by kernel_rfl) (by kernel_rfl) gRw ?_); (repeat' (first | go_big_quiet_step (fail) | ((refine wpQuiet_guard rfl rfl rfl rfl (fun hg => ?_) (fun hg => ?_)) <;> (fail_if_success (first | guard_hyp hg : true = true | guard_hyp hg : false = false)) <;> (try simp only [decide_eq_true_eq, decide_eq_false_iff_not] at hg) <;> simp only [Act.put, List.setIfInBounds_toArray, List.set_cons_zero, List.set_cons_succ]))); all_goals ((with_reducible refine wpQuiet_nil ?_); intro zq hz))
                revert zq hz
                intro zB hzB
                go_wp2
                ((refine wp_region_kinK (W := (Kin.wd zA)) (by kernel_rfl) (by kernel_rfl) gRw ?_); (repeat' (first | go_big_quiet_step (fail) | ((refine wpQuiet_guard rfl rfl rfl rfl (fun hg => ?_) (fun hg => ?_)) <;> (fail_if_success (first | guard_hyp hg : true = true | guard_hyp hg : false = false)) <;> (try simp only [decide_eq_true_eq, decide_eq_false_iff_not] at hg) <;> simp only [Act.put, List.setIfInBounds_toArray, List.set_cons_zero, List.set_cons_succ]))); all_goals ((with_reducible refine wpQuiet_nil ?_); intro zq hz))
                revert zq hz
                intro zC hzC
                go_wp2
                have hlow := HL0.out.low
                ((refine wp_region_tailK (W := (Kin.wd zA)) 9 (by kernel_rfl) (by kernel_rfl) gRw ?_); simp only [List.take_succ_cons, List.take_zero, List.drop_succ_cons, List.drop_zero]; (repeat' (first | go_big_quiet_step (fail) | ((refine wpQuiet_guard rfl rfl rfl rfl (fun hg => ?_) (fun hg => ?_)) <;> (fail_if_success (first | guard_hyp hg : true = true | guard_hyp hg : false = false)) <;> (try simp only [decide_eq_true_eq, decide_eq_false_iff_not] at hg) <;> simp only [Act.put, List.setIfInBounds_toArray, List.set_cons_zero, List.set_cons_succ]))); all_goals ((with_reducible refine wpQuiet_nil ?_); intro zq hz))
                have HLQ := Lib.hid (HLA2.out.below zq.2)
                have hIN : zq.1.ownsRow B0 69 2 (.slice (some ⟨gr, 0, none⟩) (M + 1) c9) r.2.length (r.2.flatMap encRun) := HLQ.out.inner
                have hle9 : (rl ++ [(a, tq)]).length = M + 1 := by rw [List.length_append, HMM.out]; rfl
                rw [HRQ.out, hle9] at hIN
                have HIN := Lib.hid hIN
                have b1 : zq.1.cell? ⟨gr, M * 2 + 1, none⟩ = some (.int .i64 tq) := (zq.cell al1).trans a1
                have bf : zq.1.frozen? ⟨gr, M * 2 + 1, none⟩ = false := hIN.frozenAt _
                have bl := zq.lt0 al1
                have hst := (World.ownsRow.stored hIN (M * 2 + 1) (.int .i64 (max tq (c.1 + 1)))).1
                have hfl := flat_lastR rl a tq (max tq (c.1 + 1))
                rw [HMM.out] at hfl
                rw [hfl] at hst
                have hle8 : (rl ++ [(a, max tq (c.1 + 1))]).length = M + 1 := by rw [List.length_append, HMM.out]; rfl
                have hst' : (zq.1.setCell ⟨gr, M * 2 + 1, none⟩ (.int .i64 (max tq (c.1 + 1)))).ownsRow B0 69 2 (.slice (some ⟨gr, 0, none⟩) (M + 1) c9) (rl ++ [(a, max tq (c.1 + 1))]).length ((rl ++ [(a, max tq (c.1 + 1))]).flatMap encRun) := by rw [hle8]; exact hst
                have HTN := Lib.hid (HLQ.out.turn (x' := (r.1, rl ++ [(a, max tq (c.1 + 1))])) (b := gr) (by decide) rfl (grownBy_set (p := ⟨gr, M * 2 + 1, none⟩) (.int .i64 (max tq (c.1 + 1)))) hst' HLQ.out.tg)
                have PGQ := Lib.hid (PGA.out.below zq.2)
                have hgr2 := (hIN.lt gr rfl).1
                have hgg : z2.1.heap.size ≠ gr := by omega
                have hgge : z2.1.heap.size ≤ gr := by omega
                have HBF := Lib.hid (show Below z2.1.heap.size z2.1 zq.1 from (y6.2.trans (HBA.out.mono y6.2.size)).trans (zq.2.mono (Nat.le_of_lt gl)))
                clear hIN hle9 hst hst' hfl hle8
                go_wp2
                first
                | (go_roundw; (case rel => exact ⟨k + 1, by omega, by go_num, _, Lib.hid (.inr ⟨E, _, _, _, _, HADD.out, HTN.out⟩), Lib.hid (PGQ.out.far hgg _), Lib.hid (Below.setCell HBF.out hgge _)⟩); (case measure => simp [intOf]; omega))
                | (refine ⟨⟨k + 1, by omega, by go_num, _, Lib.hid (.inr ⟨E, _, _, _, _, HADD.out, HTN.out⟩), Lib.hid (PGQ.out.far hgg _), Lib.hid (Below.setCell HBF.out hgge _)⟩, ?_⟩; simp [intOf]; omega)
            · have hyb : (r.1 != c.2) = true := by simpa using hy
              have HADD := Lib.hid (show ofTo L (k + 1) = (E ++ [r]) ++ [(c.2, [(c.1, c.1 + 1)])] by rw [HADD.out, addC_last, if_neg hy])
              clear hy hNe h1
              go_wp2
              ((refine wp_region_kinK (W := (Kin.wd z2)) (by kernel_rfl) (by kernel_rfl) gRw ?_); (repeat' (first | go_big_quiet_step (fail) | ((refine wpQuiet_guard rfl rfl rfl rfl (fun hg => ?_) (fun hg => ?_)) <;> (fail_if_success (first | guard_hyp hg : true = true | guard_hyp hg : false = false)) <;> (try simp only [decide_eq_true_eq, decide_eq_false_iff_not] at hg) <;> simp only [Act.put, List.setIfInBounds_toArray, List.set_cons_zero, List.set_cons_succ]))); all_goals ((with_reducible refine wpQuiet_nil ?_); intro zq hz))
              have HBQ := Lib.hid (show Below y6.1.heap.size y6.1 zq.1 from (Below.alloc (Below.refl y6.1.heap.size y6.1) (Nat.le_refl _) (.cells #[.int .i64 c.1, .int .i64 c.2] 47)).trans (hz.mono (le_alloc (Nat.le_refl _) _)))
              have PCQ := Lib.hid ((Blk.new y6.1 47 #[.int .i64 c.1, .int .i64 c.2]).below hz)
              have m0 : zq.1.cell? ⟨y6.1.heap.size, 0, none⟩ = some (.int .i64 c.1) := PCQ.out.cell 0
              have m1 : zq.1.cell? ⟨y6.1.heap.size, 1, none⟩ = some (.int .i64 c.2) := PCQ.out.cell 1
              have ml := PCQ.out.lt
              have PGQ := Lib.hid (HP6.out.below HBQ.out)
              have g0 : zq.1.cell? ⟨z2.1.heap.size, 0, none⟩ = some (.slice (some ⟨g, 0, none⟩) (N + 1) cS) := PGQ.out.cell 0
              have gl := PGQ.out.lt
              obtain ⟨hs, hown, hnest, hap⟩ := HO.out.own
              have HOW := Lib.hid (own_below hown HBQ.out)
              have HNQ := Lib.hid (hnest.below HBQ.out)
              have HAP := Lib.hid hap
              have hhl : hs.length ≤ 8192 := by rw [hnest.1]; exact hrl.1
              have HXB := Lib.hid (show Below zq.1.heap.size zq.1 ((zq.1.alloc (.cells #[.int .i64 c.1, .int .i64 (c.1 + 1)] 69)).alloc (.cells #[.int .i64 c.2, .slice (some ⟨zq.1.heap.size, 0, none⟩) 1 1] 44)) from Below.alloc (Below.alloc (Below.refl _ _) (Nat.le_refl _) _) (le_alloc (Nat.le_refl _) _) _)
              have HOX := Lib.hid (own_below HOW.out HXB.out)
              have HNX := Lib.hid (HNQ.out.below HXB.out)
              have HI0 := Lib.hid ((own_made zq.1 encRun_len zq.1.heap.size 69 [(c.1, c.1 + 1)] #[.int .i64 c.1, .int .i64 (c.1 + 1)] rfl (Nat.le_refl _) (by unfold maxLen; simp)).alloc (.cells #[.int .i64 c.2, .slice (some ⟨zq.1.heap.size, 0, none⟩) 1 1] 44))
              have HGX := Lib.hid (PGQ.out.below HXB.out)
              have hlow : z2.1.heap.size + 1 ≤ zq.1.heap.size := gl
              have hbx : z2.1.heap.size + 1 ≤ ((zq.1.alloc (.cells #[.int .i64 c.1, .int .i64 (c.1 + 1)] 69)).alloc (.cells #[.int .i64 c.2, .slice (some ⟨zq.1.heap.size, 0, none⟩) 1 1] 44)).heap.size := Nat.le_trans hlow HXB.out.size
              clear hown hnest hap
              go_wp2_with (at_builtin; refine wpList_app _ rfl _ _ 22 rfl encRow_len (by decide) oneRow (z2.1.heap.size + 1) 44 (.agg #[.int .i64 0, .slice none 0 0]) 32 infoRow rfl Tryz.underlying22 _ _ _ _ rfl (HOX.out) _ _ _ rfl (rd_one _ encRow_len _ (hd c.2 (some ⟨zq.1.heap.size, 0, none⟩) 1 1) _ rfl) ?c1 (by decide) ?c2 ?_; (case c1 => (first | (simp only [List.length_append, List.length_cons, List.length_nil]; omega) | omega | (simp; omega))); (case c2 => exact lEw); intro v' w1 hown' hg hbel hat'; ((obtain ⟨AV, nV, cV, rfl⟩ := own_slice hown'); have PG1 := Lib.hid (HGX.out.grown hg (Ne.symm (own_ne HOX.out HGX.out (by decide)))); have k0 : w1.cell? ⟨z2.1.heap.size, 0, none⟩ = some (.slice (some ⟨g, 0, none⟩) (N + 1) cS) := PG1.out.cell 0; have kf : w1.frozen? ⟨z2.1.heap.size, 0, none⟩ = false := PG1.out.frozen 0; have kl := PG1.out.lt; have HG := Lib.hid hg; have HOWN := Lib.hid hown'; have HBE := Lib.hid hbel; have HAT := Lib.hid hat'; clear hown' hg hbel hat'))
              have HIN := Lib.hid (HI0.out.kept HG.out (.inr (fun e => by
                rcases own_own_ne HOX.out HI0.out (by decide) with h1 | h1
                · exact absurd (e.trans h1) (by intro h2; cases h2)
                · exact h1 e.symm)))
              have HPS := Lib.hid (OwnN.push (x := (c.2, [(c.1, c.1 + 1)])) (h := hd c.2 (some ⟨zq.1.heap.size, 0, none⟩) 1 1) (sl := rsl) (tag := rtag) (B := zq.1.heap.size) hs HNX.out HNQ.out (Nat.le_refl _) hlow (Nat.le_trans HXB.out.size HG.out.size) HAP.out HOWN.out HG.out HAT.out rfl HIN.out)
              have HPT := Lib.hid (show OwnRL (z2.1.heap.size + 1) zq.1.heap.size (w1.setCell ⟨z2.1.heap.size, 0, none⟩ (.slice AV nV cV)) (.slice AV nV cV) hs (hd c.2 (some ⟨zq.1.heap.size, 0, none⟩) 1 1) (E ++ [r]) (c.2, [(c.1, c.1 + 1)]) from OwnRL.set_ HPS.out PG1.out (by decide) (by decide))
              have HBF := Lib.hid (show Below z2.1.heap.size z2.1 w1 from ((y6.2.trans (HBQ.out.mono y6.2.size)).trans (HXB.out.mono (Nat.le_of_lt gl))).trans (HBE.out.mono (Nat.le_succ _)))
              first
              | (go_roundw; (case rel => exact ⟨k + 1, by omega, by go_num, _, Lib.hid (.inr ⟨(E ++ [r]), _, _, _, _, HADD.out, HPT.out⟩), Lib.hid (PG1.out.set_ 0 _), Lib.hid (Below.setCell HBF.out (Nat.le_refl _) _)⟩); (case measure => simp [intOf]; omega))
              | (refine ⟨⟨k + 1, by omega, by go_num, _, Lib.hid (.inr ⟨(E ++ [r]), _, _, _, _, HADD.out, HPT.out⟩), Lib.hid (PG1.out.set_ 0 _), Lib.hid (Below.setCell HBF.out (Nat.le_refl _) _)⟩, ?_⟩; simp [intOf]; omega)
        · have hkn : k = n := by omega
          subst hkn
          have HB6 := Lib.hid (((Blk.new w 24 #[.slice none 0 0]).below z2.2).below y6.2)
          have p0 : y6.1.cell? ⟨z2.1.heap.size, 0, none⟩ = some S := HP6.out.cell 0
          have pl := HP6.out.lt
          have q0 : y6.1.cell? ⟨w.heap.size, 0, none⟩ = some (.slice none 0 0) := HB6.out.cell 0
          have qf : y6.1.frozen? ⟨w.heap.size, 0, none⟩ = false := HB6.out.frozen 0
          have ql := HB6.out.lt
          obtain ⟨AS, cS, rfl⟩ := OwnRows.len HO.out.own
          have HRR := Lib.hid (OwnRows.reg HO.out.own)
          go_wp2
          ((try simp only [Exit.inBlock, Exit.then]); refine bodyPost_ret (results_cell_t rfl _ _ (0, 0) rfl (HB6.out.set_ 0 _) Tryz.underlying24 rfl (by kernel_rfl)) rfl ?_)
          exact ⟨⟨_, _, _, by rw [HE0.out]; rfl, by rw [← HRES.out]; exact HRR.out.set_ HB6.out⟩, gRw⟩
end Go.Proofs.YtneelidbgigehaaGreat
