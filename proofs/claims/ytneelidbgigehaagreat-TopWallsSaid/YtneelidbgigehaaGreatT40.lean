/- Lemmas: TrkOnceW. -/
import Derived.Test.YtneelidbgigehaaGreatT39
/- Once of the program returns what the plain law says. -/
namespace Go.Proofs.YtneelidbgigehaaGreat
set_option linter.unusedSimpArgs false
set_option linter.unusedVariables false
set_option maxRecDepth 100000
open Go Go.RowKit Trk
attribute [local go_sem] Kin.cell Kin.frozen Kin.lt0 Kin.lt1 Kin.lt2 Kin.lt3
set_option maxHeartbeats 16000000 in
theorem once_any (v : Value) (l : List Tr) (w : World) (h : RdTrs w v l) (hl : l.length ≤ 100000) :
    Calls Tryz.prog 36 #[v] w fun e w' => (∃ u, e = .returned u ∧ OwnTrs w.heap.size w' u (oncT l)) ∧ Below w.heap.size w w' := by
  obtain ⟨A, capA, rfl, hcapA, hopA⟩ := trks_open h
  have HA := Lib.hid hopA
  obtain ⟨n, hL⟩ : ∃ n, l.length = n := ⟨_, rfl⟩
  have HL := Lib.hid hL
  have HBD := Lib.hid (oncTo_bd l)
  rw [hL] at hcapA hl ⊢
  clear hL hopA h
  have hmm := @run_makeMap Tryz.prog
  go_enter Tryz.func36, Tryz.ntmps36
  go_wp2
  go_loopw [3, 14] (fun u i wr => ∃ k : Nat, k ≤ n ∧ i = .int .i64 k ∧ Hid (OwnTrs (w.heap.size + 1) wr u (oncTo l k).1) ∧ ∃ nm : Nat, nm ≤ 65536 * k ∧ Hid (OwnM Tryz.prog 47 wr w.heap.size nm (setF (oncTo l k).2)) ∧ Hid (w.heap.size + 1 ≤ wr.heap.size) ∧ ∃ y : Kin w, y.1 = wr) (fun _ i _ => n - (intOf i).toNat)
  case atStart => exact ⟨0, Nat.zero_le _, rfl, Lib.hid OwnN.nil, 0, by omega, Lib.hid ((OwnM.made w).ext (fun c _ => rfl)), Lib.hid (by simp), ⟨World.alloc _ _, gRw⟩, rfl⟩
  case round =>
    obtain ⟨k, hk, rfl, HO, nm, hnm, HM, HSZ, yo, rfl⟩ := hrel
    by_cases hlt : k < n
    · obtain ⟨t, ht⟩ : ∃ t, l[k]? = some t := ⟨_, List.getElem?_eq_getElem (by rw [HL.out]; exact hlt)⟩
      obtain ⟨bA, offA, rfl, hbA, hcA⟩ := HA.out k t ht
      obtain ⟨S, capS, t_0, t_1, t_2, hcapS, hrS⟩ := hcA k t ht
      have HSC := Lib.hid (oncTo_succ ht)
      have hbk := HBD.out k
      obtain ⟨⟨r, cl⟩, cs⟩ := t
      simp only at t_0 t_1 t_2 hcapS hrS
      obtain ⟨nt, hnt⟩ : ∃ nt, cs.length = nt := ⟨_, rfl⟩
      have HNT := Lib.hid hnt
      rw [hnt] at t_2 hcapS hrS
      have HLS := Lib.hid hrS
      have HHA := Lib.hid hcA
      clear hnt hrS hcA ht
      cases hv : tval ((r, cl), cs)
      · have HSS := Lib.hid (show oncTo l (k + 1) = oncTo l k by rw [HSC.out]; unfold oncS; rw [hv]; rfl)
        go_wp2_with (go_at_call 39; (with_reducible refine (Kin.callK (W := w) gRw (validT_is r cl S capS cs _ HNT.out (HLS.out.below gRw) hv)).mono ?_); rintro e w' ⟨z, rfl, hz, rfl⟩; (have HYZ := Lib.hid ((Below.alloc (Below.refl (Kin.wd yo).heap.size (Kin.wd yo)) (Nat.le_refl _) (.cells #[.int .i64 r, .bool cl, .slice S nt capS] 72)).trans (hz.mono (by rw [World.size_alloc]; exact Nat.le_succ _)))))
        go_roundw
        case rel => exact ⟨k + 1, by omega, by go_num, Lib.hid (by rw [HSS.out]; exact OwnN.below HO.out HYZ.out), nm, by omega, Lib.hid (by rw [HSS.out]; exact HM.out.below HYZ.out HM.out.lt), Lib.hid (Nat.le_trans HSZ.out HYZ.out.size), z, rfl⟩
        case measure => simp [intOf]; omega
      · have htl := (tval_len hv).2
        rw [HNT.out] at htl
        have HSS := Lib.hid (show oncTo l (k + 1) = ((oncTo l k).1 ++ (if (keptL (oncTo l k).2 cs).all id then [((r, cl), cs)] else pcsT ((r, cl), cs) (keptL (oncTo l k).2 cs)), cs.reverse ++ (oncTo l k).2) by rw [HSC.out]; unfold oncS; rw [hv]; rfl)
        obtain ⟨S0, hS0⟩ : ∃ S0, (oncTo l k).2 = S0 := ⟨_, rfl⟩
        obtain ⟨O0, hO0⟩ : ∃ O0, (oncTo l k).1 = O0 := ⟨_, rfl⟩
        rw [hS0, hO0] at HSS hbk
        rw [hS0] at HM
        rw [hO0] at HO
        have HOK := Lib.hid (fun c (hc : c ∈ cs) => tval_ok hv hc)
        clear hS0 hO0 HSC
        go_wp2_with (first
          | (go_at_call 39; (with_reducible refine (Kin.callK (W := w) gRw (validT_is r cl S capS cs _ HNT.out (HLS.out.below gRw) hv)).mono ?_); rintro e w' ⟨z, rfl, hz, rfl⟩; (have HYZ := Lib.hid ((Below.alloc (Below.refl (Kin.wd yo).heap.size (Kin.wd yo)) (Nat.le_refl _) (.cells #[.int .i64 r, .bool cl, .slice S nt capS] 72)).trans (hz.mono (by rw [World.size_alloc]; exact Nat.le_succ _))); have PT := Lib.hid ((Blk.new (Kin.wd yo) 72 #[.int .i64 r, .bool cl, .slice S nt capS]).below hz); have p0 : (Kin.wd z).cell? ⟨(Kin.wd yo).heap.size, 0, none⟩ = some (.int .i64 r) := PT.out.cell 0; have p1 : (Kin.wd z).cell? ⟨(Kin.wd yo).heap.size, 1, none⟩ = some (.bool cl) := PT.out.cell 1; have p2 : (Kin.wd z).cell? ⟨(Kin.wd yo).heap.size, 2, none⟩ = some (.slice S nt capS) := PT.out.cell 2; have pl := PT.out.lt))
          | (at_make; refine wpList_mk _ rfl _ _ 123 rfl encB_len (by decide) false w.heap.size 4 (.bool false) 1 rfl infoB Tryz.underlying123 .i64 .i64 _ _ (nt) rfl rfl (by omega) (by omega) (by omega) (by decide) lEw ?_; intro w1 hmk hmb hmlt; (obtain ⟨y, rfl⟩ : ∃ y : Kin w, y.1 = w1 := ⟨⟨w1, Below.trans gRw (hmb.mono lEw)⟩, rfl⟩); (have HMB := Lib.hid hmb; have QT := Lib.hid (PT.out.below hmb); have q2 : y.1.cell? ⟨yo.1.heap.size, 2, none⟩ = some (.slice S nt capS) := QT.out.cell 2; have ql := QT.out.lt; have HMK := Lib.hid hmk; clear hmk); clear hmb))
        have HYM := Lib.hid (HYZ.out.trans (HMB.out.mono HYZ.out.size))
        have hbm : w.heap.size < z.1.heap.size := Nat.lt_of_lt_of_le (show w.heap.size < yo.1.heap.size from HSZ.out) HYZ.out.size
        have hwz := z.2.size
        go_loopw [8, 28] (fun al i wr => ∃ j : Nat, j ≤ nt ∧ i = .int .i64 j ∧ al = .bool (allTo S0 cs j) ∧ Hid (wr.ownsRow w.heap.size 4 1 (.slice (some ⟨z.1.heap.size, 0, none⟩) nt nt) nt ((flg S0 cs j).flatMap encB)) ∧ Hid (OwnM Tryz.prog 47 wr w.heap.size (nm + j) (setF ((cs.take j).reverse ++ S0))) ∧ Hid (z.1.grownBy wr (some w.heap.size))) (fun _ i _ => nt - (intOf i).toNat)
        case atStart => exact ⟨0, Nat.zero_le _, rfl, rfl, Lib.hid (by have := HMK.out; unfold flg; rw [HNT.out]; exact this), Lib.hid (HM.out.below HYM.out HM.out.lt), Lib.hid (below_grownBy HMB.out)⟩
        case round =>
          obtain ⟨j, hj, rfl, rfl, HKO, HMM, HGB⟩ := hrel
          have hbw : Below w.heap.size w wr := z.2.trans (grownBy_below HGB.out hwz (Nat.le_refl _))
          obtain ⟨yi, rfl⟩ : ∃ yi : Kin w, yi.1 = wr := ⟨⟨wr, hbw⟩, rfl⟩
          clear hbw
          have hgk := (HKO.out.lt z.1.heap.size rfl).2
          by_cases hlt2 : j < nt
          · obtain ⟨c, hc⟩ : ∃ c, cs[j]? = some c := ⟨_, List.getElem?_eq_getElem (by rw [HNT.out]; exact hlt2)⟩
            obtain ⟨bS, offS, rfl, hbS, hcS⟩ := Rd.op HLS.out j c hc
            have c_0 : w.cell? ⟨bS, offS + j * 2, none⟩ = some (.int .i64 c.1) := hcS j c hc 0 _ rfl
            have c_1 : w.cell? ⟨bS, offS + j * 2 + 1, none⟩ = some (.int .i64 c.2) := hcS j c hc 1 _ rfl
            have HWF := Lib.hid (okc_wf (HOK.out c (List.mem_of_getElem? hc)))
            have HFS := Lib.hid (flg_step (S := S0) hc)
            have HAS := Lib.hid (allTo_step (S := S0) hc)
            have HRS := Lib.hid (rev_step (S := S0) hc)
            clear hc hcS
            obtain ⟨b, hb⟩ : ∃ b, ((cs.take j).reverse ++ S0).contains c = b := ⟨_, rfl⟩
            have HB := Lib.hid hb
            rw [hb] at HFS HAS
            clear hb
            obtain ⟨a0, ha0⟩ : ∃ a0, allTo S0 cs j = a0 := ⟨_, rfl⟩
            rw [ha0] at HAS ⊢
            clear ha0
            obtain ⟨u0, g0⟩ := own_some HKO.out j (by omega)
            have f0 : yi.1.frozen? ⟨z.1.heap.size, j, none⟩ = false := HKO.out.frozenAt _
            have hbg : w.heap.size ≠ z.1.heap.size := by omega
            have hmx : nm + j < maxLen := by unfold maxLen; omega
            cases a0
            · go_wp2_with (first
                | (at_lookup; refine wpList_look _ rfl _ _ 122 rfl 47 4 cellKey Tryz.underlying122 (.bool false) (zeroB _) w.heap.size (nm + j) _ rfl (HMM.out.alloc _) c rfl HWF.out ?_; rw [setF_get, HB.out])
                | (at_mapUpdate; refine wpList_upd _ rfl _ _ _ 122 rfl 47 4 cellKey Tryz.underlying122 w.heap.size (nm + j) _ rfl ((HMM.out.setCell (a := ⟨z.1.heap.size, j, none⟩) hbg _).alloc _) hmx c (.bool true) rfl rfl HWF.out ?_; intro w1 hM1 hg1 hs1))
              have HA0 := Lib.hid (show allTo S0 cs (j + 1) = false by rw [HAS.out]; rfl)
              have HK2 := Lib.hid ((own_setB HKO.out j (!b)).alloc (.cells #[.int .i64 c.1, .int .i64 c.2] 47))
              have HK3 := Lib.hid (own_grownBy HK2.out hg1 (fun e => hbg (by injection e with e; exact e.symm)))
              have HG2 := Lib.hid (((HGB.out.andThen (grownBy_set (p := ⟨z.1.heap.size, j, none⟩) (.bool (!b))) (fun q e => .inl (by injection e with e; exact Nat.le_of_eq e))).andThen (World.grownBy_alloc _ (.cells #[.int .i64 c.1, .int .i64 c.2] 47) none) (fun q e => by cases e)).andThen hg1 (fun q e => .inr e))
              go_roundw
              case rel => exact ⟨j + 1, by omega, by go_num, by rw [HA0.out], Lib.hid (by rw [HFS.out] at HK3; exact HK3.out), Lib.hid (by rw [HRS.out, ← setF_upd]; exact hM1), HG2⟩
              case measure => simp [intOf]; omega
            · go_wp2_with (first
                | (at_lookup; refine wpList_look _ rfl _ _ 122 rfl 47 4 cellKey Tryz.underlying122 (.bool false) (zeroB _) w.heap.size (nm + j) _ rfl (HMM.out.alloc _) c rfl HWF.out ?_; rw [setF_get, HB.out])
                | (at_mapUpdate; refine wpList_upd _ rfl _ _ _ 122 rfl 47 4 cellKey Tryz.underlying122 w.heap.size (nm + j) _ rfl ((HMM.out.setCell (a := ⟨z.1.heap.size, j, none⟩) hbg _).alloc _) hmx c (.bool true) rfl rfl HWF.out ?_; intro w1 hM1 hg1 hs1))
              have HA0 := Lib.hid (show allTo S0 cs (j + 1) = !b by rw [HAS.out]; rfl)
              have HK2 := Lib.hid ((own_setB HKO.out j (!b)).alloc (.cells #[.int .i64 c.1, .int .i64 c.2] 47))
              have HK3 := Lib.hid (own_grownBy HK2.out hg1 (fun e => hbg (by injection e with e; exact e.symm)))
              have HG2 := Lib.hid (((HGB.out.andThen (grownBy_set (p := ⟨z.1.heap.size, j, none⟩) (.bool (!b))) (fun q e => .inl (by injection e with e; exact Nat.le_of_eq e))).andThen (World.grownBy_alloc _ (.cells #[.int .i64 c.1, .int .i64 c.2] 47) none) (fun q e => by cases e)).andThen hg1 (fun q e => .inr e))
              go_roundw
              case rel => exact ⟨j + 1, by omega, by go_num, by rw [HA0.out], Lib.hid (by rw [HFS.out] at HK3; exact HK3.out), Lib.hid (by rw [HRS.out, ← setF_upd]; exact hM1), HG2⟩
              case measure => simp [intOf]; omega
          · have hjn : j = nt := by omega
            subst hjn
            have hft : flg S0 cs j = keptL S0 cs := by rw [← HNT.out]; exact flg_all
            have hrt : (cs.take j).reverse ++ S0 = cs.reverse ++ S0 := by rw [List.take_of_length_le (by rw [HNT.out]; exact Nat.le_refl _)]
            have hat : allTo S0 cs j = (keptL S0 cs).all id := by unfold allTo; rw [List.take_of_length_le (by rw [HNT.out]; exact Nat.le_refl _)]
            rw [hft] at HKO
            rw [hrt] at HMM
            obtain ⟨KS, hKS⟩ : ∃ KS, keptL S0 cs = KS := ⟨_, rfl⟩
            have HKL := Lib.hid (show KS.length = j by rw [← hKS, keptL_len, HNT.out])
            rw [hKS] at HKO HSS hat
            rw [hat]
            obtain ⟨es1, c1, hmap⟩ := (HM.out.below HYZ.out HM.out.lt).isMap
            have HOI := Lib.hid (OwnTrs.grownM (OwnN.below HO.out HYZ.out) HGB.out hmap)
            have PI := Lib.hid (PT.out.grown HGB.out (blk_ne_map PT.out hmap))
            have i0 : yi.1.cell? ⟨yo.1.heap.size, 0, none⟩ = some (.int .i64 r) := PI.out.cell 0
            have i1 : yi.1.cell? ⟨yo.1.heap.size, 1, none⟩ = some (.bool cl) := PI.out.cell 1
            have i2 : yi.1.cell? ⟨yo.1.heap.size, 2, none⟩ = some (.slice S j capS) := PI.out.cell 2
            have il := PI.out.lt
            have hsz2 : w.heap.size + 1 ≤ yi.1.heap.size := Nat.le_trans HSZ.out (Nat.le_trans HYZ.out.size HGB.out.size)
            clear hft hrt hKS hmap hat
            have hub : ∀ b, u3.ownBlock = some b → b < yo.1.heap.size := by
              obtain ⟨hs', hown', _⟩ := HO.out
              exact fun b hb => (hown'.lt b hb).2
            have HUB := Lib.hid hub
            clear hub
            obtain ⟨hs, hown, hnest, hap⟩ := HOI.out
            have HOW := Lib.hid hown
            have HNE := Lib.hid hnest
            have HAP := Lib.hid hap
            have hol : hs.length ≤ 65537 * k := by rw [hnest.1]; exact hbk.1
            clear hown hnest hap
            cases hall : KS.all id
            · have HSE := Lib.hid (show oncTo l (k + 1) = (O0 ++ pcsT ((r, cl), cs) KS, cs.reverse ++ S0) by rw [HSS.out, hall]; rfl)
              have hpl := pcsTo_len r cs KS j
              have HKR := Lib.hid (show Rd 1 encB yi.1 (.slice (some ⟨z.1.heap.size, 0, none⟩) j j) KS from Rd.own' encB_len (by decide) HKO.out)
              have HPJ := Lib.hid (show pcsT ((r, cl), cs) KS = pcsTo r cs KS j by unfold pcsT; rw [HNT.out])
              go_wp2_with (first
                | (go_at_call 73; (with_reducible refine (Kin.callK (W := w) gRw (pieces_any r cl S (some ⟨(Kin.wd z).heap.size, 0, none⟩) capS j cs KS _ HNT.out HKL.out (HLS.out.below gRw) (HKR.out.below gRw) (by omega))).mono ?_); rintro e w' ⟨zp, ⟨up, rfl, hup⟩, hzp, rfl⟩; ((obtain ⟨hs2, hown2, hnest2, hap2, hlow2⟩ := hup); have hr2 := Rd.own encTr_len hown2; (obtain ⟨A2, cap2, rfl, _, _⟩ := hr2.open_); have HR2 := Lib.hid hr2; have HN2 := Lib.hid hnest2; have HL2 := Lib.hid hlow2; have hl2 : hs2.length ≤ 65536 := (by rw [hnest2.1]; omega); have HOZ := Lib.hid (own_below HOW.out hzp); have hszp : w.heap.size + 1 ≤ (Kin.wd zp).heap.size := Nat.le_trans hsz2 hzp.size; have HZP := Lib.hid hzp; clear hown2 hnest2 hap2 hlow2 hr2 hzp))
                | (at_builtin; refine wpList_app _ rfl _ _ 35 rfl encTr_len (by decide) oneTr (w.heap.size + 1) 72 (.agg #[.int .i64 0, .bool false, .slice none 0 0]) 40 infoTr rfl Tryz.underlying35 _ _ _ _ rfl (HOZ.out) _ _ _ rfl (HR2.out) ?c1 (by decide) ?c2 ?_; (case c1 => (first | (simp only [List.length_append, List.length_cons, List.length_nil]; omega) | omega | (simp; omega))); (case c2 => exact lEw); intro v' w1 hown' hg hbel hat'; skip))
              have hap2 : ∀ (i : Nat) (h : TrH) (x : Tr), hs2[i]? = some h → (pcsTo r cs KS j)[i]? = some x → x.2 = [] ∨ (tsl h).ownBlock ≠ u3.ownBlock := fun i p y hp hy => by
                rcases HL2.out i p y hp hy with h0 | h0
                · exact .inl h0
                · rcases (HN2.out.2 i p y hp hy).2.blk_lt with h1 | ⟨b, hb, _⟩
                  · exact .inl h1
                  · right
                    intro e
                    have h2 : yi.1.heap.size ≤ b := h0 b hb
                    have h3 : b < yo.1.heap.size := HUB.out b (by rw [← e]; exact hb)
                    have h4 : yo.1.heap.size < yi.1.heap.size := il
                    omega
              have HON := Lib.hid (OwnN.append (HNE.out.below HZP.out) HAP.out HN2.out hap2 hown' hg hat')
              obtain ⟨es2, c2, hmap2⟩ := (HMM.out.below HZP.out HMM.out.lt).isMap
              have HMF := Lib.hid ((HMM.out.below HZP.out HMM.out.lt).kept hg (fun e => own_ne_map HOZ.out hmap2 e.symm))
              have HWB := Lib.hid (show Below w.heap.size w w1 from (yi.2.trans (HZP.out.mono yi.2.size)).trans (hbel.mono (Nat.le_succ _)))
              have hs11 : w.heap.size + 1 ≤ w1.heap.size := Nat.le_trans hszp hg.size
              go_roundw
              case rel => exact ⟨k + 1, by omega, by go_num, Lib.hid (by rw [HSE.out, HPJ.out]; exact HON.out), nm + j, by omega, Lib.hid (by rw [HSE.out]; exact HMF.out), Lib.hid hs11, ⟨_, HWB.out⟩, rfl⟩
              case measure => simp [intOf]; omega
            · have HSE := Lib.hid (show oncTo l (k + 1) = (O0 ++ [((r, cl), cs)], cs.reverse ++ S0) by rw [HSS.out, hall]; rfl)
              go_wp2
              refine wp_region_held_drew (S := fun w' => w'.cell? ⟨yo.1.heap.size, 0, none⟩ = some (.int .i64 r) ∧ w'.cell? ⟨yo.1.heap.size, 1, none⟩ = some (.bool cl) ∧ w'.cell? ⟨yo.1.heap.size, 2, none⟩ = some (.slice S j capS)) (by kernel_rfl) (⟨i0, i1, i2⟩) (fun hHeld => ?_)
              try simp only [List.size_toArray, List.length_cons, List.length_nil, Nat.zero_add, Nat.reduceAdd, List.replicate, Array.replicate]
              obtain ⟨yd, hyd⟩ : ∃ yd : Kin w, yd.1 = yi.1.drew := ⟨⟨_, yi.2.drew⟩, rfl⟩
              have HYD := Lib.hid (show Below yi.1.heap.size yi.1 yd.1 from hyd ▸ Below.drew (Below.refl _ _))
              rw [← hyd] at hHeld ⊢
              clear hyd
              have j0 : yd.1.cell? ⟨yo.1.heap.size, 0, none⟩ = some (.int .i64 r) := hHeld.1
              have j1 : yd.1.cell? ⟨yo.1.heap.size, 1, none⟩ = some (.bool cl) := hHeld.2.1
              have j2 : yd.1.cell? ⟨yo.1.heap.size, 2, none⟩ = some (.slice S j capS) := hHeld.2.2
              have jl : yo.1.heap.size < yd.1.heap.size := Nat.lt_of_lt_of_le il HYD.out.size
              refine wpAnyH_take (i := 0) (v := ?_) rfl (by kernel_rfl) (by kernel_rfl) (by kernel_rfl) (fun _ _ _ h => h) (Or.inl ⟨by kernel_rfl, ?_⟩) (by assumption) ?_
              rotate_left
              · (intro w' hSw; (try dsimp only at hSw); obtain ⟨s0, s1, s2⟩ := hSw; go_simp; try with_reducible rfl)
              try simp only [List.getElem_toArray, List.getElem_cons_succ, List.getElem_cons_zero, Act.put, List.setIfInBounds_toArray, List.set_cons_zero, List.set_cons_succ]
              refine wpAnyH_take (i := 1) (v := ?_) rfl (by kernel_rfl) (by kernel_rfl) (by kernel_rfl) (fun _ _ _ h => h) (Or.inl ⟨by kernel_rfl, ?_⟩) (by assumption) ?_
              rotate_left
              · (intro w' hSw; (try dsimp only at hSw); obtain ⟨s0, s1, s2⟩ := hSw; go_simp; try with_reducible rfl)
              try simp only [List.getElem_toArray, List.getElem_cons_succ, List.getElem_cons_zero, Act.put, List.setIfInBounds_toArray, List.set_cons_zero, List.set_cons_succ]
              refine wpAnyH_take (i := 2) (v := ?_) rfl (by kernel_rfl) (by kernel_rfl) (by kernel_rfl) (fun _ _ _ h => h) (Or.inl ⟨by kernel_rfl, ?_⟩) (by assumption) ?_
              rotate_left
              · (intro w' hSw; (try dsimp only at hSw); obtain ⟨s0, s1, s2⟩ := hSw; go_simp; try with_reducible rfl)
              try simp only [List.getElem_toArray, List.getElem_cons_succ, List.getElem_cons_zero, Act.put, List.setIfInBounds_toArray, List.set_cons_zero, List.set_cons_succ]
              refine wpAnyH_take (i := 3) (v := ?_) rfl (by kernel_rfl) (by kernel_rfl) (by kernel_rfl) (fun _ _ _ h => h) (Or.inl ⟨by kernel_rfl, ?_⟩) (by assumption) ?_
              rotate_left
              · (intro w' hSw; (try dsimp only at hSw); obtain ⟨s0, s1, s2⟩ := hSw; go_simp; try with_reducible rfl)
              try simp only [List.getElem_toArray, List.getElem_cons_succ, List.getElem_cons_zero, Act.put, List.setIfInBounds_toArray, List.set_cons_zero, List.set_cons_succ]
              refine wpAnyH_take (i := 4) (v := ?_) rfl (by kernel_rfl) (by kernel_rfl) (by kernel_rfl) (fun _ _ _ h => h) (Or.inl ⟨by kernel_rfl, ?_⟩) (by assumption) ?_
              rotate_left
              · (intro w' hSw; (try dsimp only at hSw); obtain ⟨s0, s1, s2⟩ := hSw; go_simp; try with_reducible rfl)
              try simp only [List.getElem_toArray, List.getElem_cons_succ, List.getElem_cons_zero, Act.put, List.setIfInBounds_toArray, List.set_cons_zero, List.set_cons_succ]
              refine wpAnyH_take (i := 6) (v := ?_) rfl (by kernel_rfl) (by kernel_rfl) (by kernel_rfl) (fun _ _ _ h => h) (Or.inl ⟨by kernel_rfl, ?_⟩) (by assumption) ?_
              rotate_left
              · (intro w' hSw; (try dsimp only at hSw); obtain ⟨s0, s1, s2⟩ := hSw; go_simp; try with_reducible rfl)
              try simp only [List.getElem_toArray, List.getElem_cons_succ, List.getElem_cons_zero, Act.put, List.setIfInBounds_toArray, List.set_cons_zero, List.set_cons_succ]
              refine wpAnyH_take (i := 7) (v := ?_) rfl (by kernel_rfl) (by kernel_rfl) (by kernel_rfl) (fun _ _ _ h => h) (Or.inl ⟨by kernel_rfl, ?_⟩) (by assumption) ?_
              rotate_left
              · (intro w' hSw; (try dsimp only at hSw); obtain ⟨s0, s1, s2⟩ := hSw; go_simp; try with_reducible rfl)
              try simp only [List.getElem_toArray, List.getElem_cons_succ, List.getElem_cons_zero, Act.put, List.setIfInBounds_toArray, List.set_cons_zero, List.set_cons_succ]
              refine wpAnyH_ready (rs := [5]) (by kernel_rfl) (by simp) (AllReadyH.cons rfl (fun K hK => ?_) AllReadyH.nil)
              go_simp
              refine hK.out _ _ (⟨(World.cell?_alloc_lt _ _ _ jl).trans j0, (World.cell?_alloc_lt _ _ _ jl).trans j1, (World.cell?_alloc_lt _ _ _ jl).trans j2⟩) (fun hHeld2 => ?_)
              clear hK hHeld
              have hHeld := hHeld2
              clear hHeld2 K
              try simp only [List.getElem_toArray, List.getElem_cons_succ, List.getElem_cons_zero, Act.put, List.setIfInBounds_toArray, List.set_cons_zero, List.set_cons_succ]
              have HB5 := Lib.hid (show Below yd.1.heap.size yd.1 (yd.1.alloc (.cells #[] 47)) from Below.alloc (Below.refl _ _) (Nat.le_refl _) _)
              have HO5 := Lib.hid (own_made yd.1 encPt_len yd.1.heap.size 47 ([] : List Cl) #[] rfl (Nat.le_refl _) (by unfold maxLen; simp))
              have HS5 := Lib.hid (HLS.out.below (yd.2.trans (HB5.out.mono yd.2.size)))
              have hle5 : yd.1.heap.size ≤ (yd.1.alloc (.cells #[] 47)).heap.size := HB5.out.size
              refine wpAnyH_ready (rs := [8]) (by kernel_rfl) (by simp) (AllReadyH.cons rfl (fun K hK => ?_) AllReadyH.nil)
              (skip; (refine step_app _ rfl _ _ 70 rfl encPt_len (by decide) oneP yd.1.heap.size 47 (.agg #[.int .i64 0, .int .i64 0]) 16 infoCell rfl Tryz.underlying70 ((.slice (some ⟨yd.1.heap.size, 0, none⟩) 0 0)) _ _ _ (by first | rfl | simp [Act.eval, Act.put]) (HO5.out) _ _ _ (by first | rfl | simp [Act.eval, Act.put]) (HS5.out) ?c1 (by decide) ?c2 ?_; (case c1 => (first | (simp only [List.length_append, List.length_cons, List.length_nil]; omega) | omega | (simp; omega))); (case c2 => exact lEw); intro u8 w8 hown8 hg8 hbel8 hat8; ((obtain ⟨T8, n8, c8, rfl⟩ := own_slice hown8); have HB8 := Lib.hid (HB5.out.trans hbel8); have HO8 := Lib.hid hown8; clear hown8 hg8 hbel8 hat8)))
              refine hK.out _ _ (⟨(HB8.out.cell (p := ⟨yo.1.heap.size, _, none⟩) jl).trans j0, (HB8.out.cell (p := ⟨yo.1.heap.size, _, none⟩) jl).trans j1, (HB8.out.cell (p := ⟨yo.1.heap.size, _, none⟩) jl).trans j2⟩) (fun hHeld2 => ?_)
              clear hK hHeld
              have hHeld := hHeld2
              clear hHeld2 K
              try simp only [List.getElem_toArray, List.getElem_cons_succ, List.getElem_cons_zero, Act.put, List.setIfInBounds_toArray, List.set_cons_zero, List.set_cons_succ]
              refine wpAnyH_take (i := 9) (v := ?_) rfl (by kernel_rfl) (by kernel_rfl) (by kernel_rfl) (fun _ _ _ h => h) (Or.inl ⟨by kernel_rfl, ?_⟩) (by assumption) ?_
              rotate_left
              · (intro w' hSw; (try dsimp only at hSw); obtain ⟨s0, s1, s2⟩ := hSw; go_simp; try with_reducible rfl)
              try simp only [List.getElem_toArray, List.getElem_cons_succ, List.getElem_cons_zero, Act.put, List.setIfInBounds_toArray, List.set_cons_zero, List.set_cons_succ]
              have hjl8 : yo.1.heap.size < w8.heap.size := Nat.lt_of_lt_of_le jl HB8.out.size
              refine wpAnyH_ready (rs := [10]) (by kernel_rfl) (by simp) (AllReadyH.cons rfl (fun K hK => ?_) AllReadyH.nil)
              go_simp
              refine hK.out _ _ (⟨(World.cell?_alloc_lt _ _ _ hjl8).trans hHeld.1, (World.cell?_alloc_lt _ _ _ hjl8).trans hHeld.2.1, (World.cell?_alloc_lt _ _ _ hjl8).trans hHeld.2.2⟩) (fun hHeld2 => ?_)
              clear hK hHeld
              have hHeld := hHeld2
              clear hHeld2 K
              try simp only [List.getElem_toArray, List.getElem_cons_succ, List.getElem_cons_zero, Act.put, List.setIfInBounds_toArray, List.set_cons_zero, List.set_cons_succ]
              have HBI := Lib.hid (HYD.out.trans (HB8.out.mono HYD.out.size))
              have HX8 := Lib.hid (show Below yi.1.heap.size yi.1 (w8.alloc (.cells #[.int .i64 r, .bool cl, .slice T8 n8 c8] 72)) from Below.alloc HBI.out HBI.out.size _)
              have hsx : w.heap.size + 1 ≤ (w8.alloc (.cells #[.int .i64 r, .bool cl, .slice T8 n8 c8] 72)).heap.size := Nat.le_trans hsz2 HX8.out.size
              have HOX := Lib.hid (own_below HOW.out HX8.out)
              have hjlx : yo.1.heap.size < (w8.alloc (.cells #[.int .i64 r, .bool cl, .slice T8 n8 c8] 72)).heap.size := Nat.lt_of_lt_of_le il HX8.out.size
              have HNG := Lib.hid (show some yo.1.heap.size ≠ u3.ownBlock from fun e => Nat.lt_irrefl _ (HUB.out _ e.symm))
              refine wpAnyH_ready (rs := [11]) (by kernel_rfl) (by simp) (AllReadyH.cons rfl (fun K hK => ?_) AllReadyH.nil)
              (skip; (refine step_app _ rfl _ _ 35 rfl encTr_len (by decide) oneTr (w.heap.size + 1) 72 (.agg #[.int .i64 0, .bool false, .slice none 0 0]) 40 infoTr rfl Tryz.underlying35 (u3) _ _ _ (by first | rfl | simp [Act.eval, Act.put]) (HOX.out) _ _ _ (by first | rfl | simp [Act.eval, Act.put]) (rd_one _ encTr_len _ ((r, cl), (T8, n8, c8)) _ rfl) ?c1 (by decide) ?c2 ?_; (case c1 => (first | (simp only [List.length_append, List.length_cons, List.length_nil]; omega) | omega | (simp; omega))); (case c2 => exact lEw); intro u11 w11 hown11 hg11 hbel11 hat11; (have HG := Lib.hid hg11)))
              refine hK.out _ _ (⟨(World.cell?_of_block (HG.out.block _ hjlx HNG.out)).trans hHeld.1, (World.cell?_of_block (HG.out.block _ hjlx HNG.out)).trans hHeld.2.1, (World.cell?_of_block (HG.out.block _ hjlx HNG.out)).trans hHeld.2.2⟩) (fun hHeld2 => ?_)
              clear hK hHeld
              have hHeld := hHeld2
              clear hHeld2 K
              try simp only [List.getElem_toArray, List.getElem_cons_succ, List.getElem_cons_zero, Act.put, List.setIfInBounds_toArray, List.set_cons_zero, List.set_cons_succ]
              refine wpAnyH_take (i := 12) (v := ?_) rfl (by kernel_rfl) (by kernel_rfl) (by kernel_rfl) (fun _ _ _ h => h) (Or.inl ⟨by kernel_rfl, ?_⟩) (by assumption) ?_
              rotate_left
              · (intro w' hSw; (try dsimp only at hSw); obtain ⟨s0, s1, s2⟩ := hSw; go_simp; try with_reducible rfl)
              try simp only [List.getElem_toArray, List.getElem_cons_succ, List.getElem_cons_zero, Act.put, List.setIfInBounds_toArray, List.set_cons_zero, List.set_cons_succ]
              refine wpAnyH_done (by kernel_rfl) ?_ _
              have hcs : cs ≠ [] := fun e => by have h1 := HNT.out; rw [e] at h1; simp at h1; omega
              have HR8 := Lib.hid (show Rd 2 encPt w8 (.slice T8 n8 c8) cs from Rd.own encPt_len HO8.out)
              have HRX := Lib.hid (HR8.out.below (Below.alloc (Below.refl _ _) (Nat.le_refl _) (.cells #[.int .i64 r, .bool cl, .slice T8 n8 c8] 72)))
              have hx : cs = [] ∨ (Value.slice T8 n8 c8).ownBlock ≠ u3.ownBlock := by
                right
                intro e
                rcases HR8.out.blk_lt with h0 | ⟨b, hb, _⟩
                · exact hcs h0
                · have h1 := (HO8.out.lt b hb).1
                  have h2 := HUB.out b (by rw [← e]; exact hb)
                  omega
              have HON := Lib.hid (OwnN.snoc (x := ((r, cl), cs)) (h := ((r, cl), (T8, n8, c8))) (tag := ttag) (sl := tsl) (HNE.out.below HX8.out) HAP.out hown11 HG.out hat11 rfl HRX.out hx)
              obtain ⟨es2, c2, hmap2⟩ := (HMM.out.below HX8.out HMM.out.lt).isMap
              have HMF := Lib.hid ((HMM.out.below HX8.out HMM.out.lt).kept HG.out (fun e => own_ne_map HOX.out hmap2 e.symm))
              have HWB := Lib.hid (show Below w.heap.size w w11 from (yi.2.trans (HX8.out.mono yi.2.size)).trans (hbel11.mono (Nat.le_succ _)))
              have hs11 : w.heap.size + 1 ≤ w11.heap.size := Nat.le_trans hsx HG.out.size
              go_wp2
              go_roundw
              case rel => exact ⟨k + 1, by omega, by go_num, Lib.hid (by rw [HSE.out]; exact HON.out), nm + j, by omega, Lib.hid (by rw [HSE.out]; exact HMF.out), Lib.hid hs11, ⟨_, HWB.out⟩, rfl⟩
              case measure => simp [intOf]; omega
    · have hkn : k = n := by omega
      subst hkn
      have HF := Lib.hid (show (oncTo l k).1 = oncT l by rw [← HL.out]; exact oncTo_all l)
      go_wp2
      go_ret
      exact ⟨⟨_, rfl, by rw [← HF.out]; exact OwnN.base_ HO.out (Nat.le_succ _)⟩, gRw⟩
end Go.Proofs.YtneelidbgigehaaGreat
