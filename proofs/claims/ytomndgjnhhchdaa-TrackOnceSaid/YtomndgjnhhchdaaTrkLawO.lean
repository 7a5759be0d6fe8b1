/- TrackOnce: for every input the law returns true. No condition. -/
import Derived.Test.YtomndgjnhhchdaaTrkAwk
import Derived.Test.YtomndgjnhhchdaaTrkPure
import Derived.Test.YtomndgjnhhchdaaTrkOncR
import Derived.Test.YtomndgjnhhchdaaTrkOpen
namespace Go.Proofs.Ytomndgjnhhchdaa
set_option linter.unusedSimpArgs false
set_option linter.unusedVariables false
set_option maxRecDepth 100000
open Go.ChangeShapes Go.WideShapes Go.ChangeAt Go.RowKit Go.Joins Trk Reg
attribute [local go_sem] Kin.cell Kin.frozen Kin.lt0 Kin.lt1 Kin.lt2 Kin.lt3
theorem oncT_short2 {l : List Tr} (h1 : l.length ≤ 40) (h : ∀ t ∈ l, t.2.length ≤ 300) : (oncT l).length ≤ 12040 ∧ ∀ t ∈ oncT l, t.2.length ≤ 300 := by
  have key : ∀ (l O : List Tr) (S : List Cl), (∀ t ∈ l, t.2.length ≤ 300) → (∀ t ∈ O, t.2.length ≤ 300) → (l.foldl oncS (O, S)).1.length ≤ O.length + 300 * l.length ∧ ∀ t ∈ (l.foldl oncS (O, S)).1, t.2.length ≤ 300 := by
    intro l
    induction l with
    | nil => intro O S _ h2; exact ⟨by simp, h2⟩
    | cons t l ih =>
      intro O S h1 h2
      have ht := h1 t (by simp)
      have hl := fun x hx => h1 x (List.mem_cons_of_mem _ hx)
      rw [List.foldl_cons]
      by_cases hv : tval t = true
      · have e : oncS (O, S) t = (O ++ (if (keptL S t.2).all id then [t] else pcsT t (keptL S t.2)), t.2.reverse ++ S) := by unfold oncS; rw [if_pos hv]
        rw [e]
        have hx : (if (keptL S t.2).all id then [t] else pcsT t (keptL S t.2)).length ≤ 300 ∧ ∀ x ∈ (if (keptL S t.2).all id then [t] else pcsT t (keptL S t.2)), x.2.length ≤ 300 := by
          split
          · exact ⟨by simp, fun x hx => by rw [List.mem_singleton] at hx; rw [hx]; exact ht⟩
          · exact ⟨Nat.le_trans (pcsTo_len _ _ _ _) ht, fun x hx => Nat.le_trans (pcsTo_cells _ _ _ _ x hx) ht⟩
        obtain ⟨r1, r2⟩ := ih _ (t.2.reverse ++ S) hl (fun x hx' => (List.mem_append.1 hx').elim (h2 x) (hx.2 x))
        refine ⟨?_, r2⟩
        have := hx.1
        rw [List.length_append] at r1
        simp only [List.length_cons]
        omega
      · have e : oncS (O, S) t = (O, S) := by unfold oncS; rw [if_neg hv]
        rw [e]
        obtain ⟨r1, r2⟩ := ih O S hl h2
        exact ⟨by simp only [List.length_cons]; omega, r2⟩
  obtain ⟨r1, r2⟩ := key l [] [] h (fun t ht => by cases ht)
  exact ⟨by unfold oncT; simp only [List.length_nil] at r1; omega, r2⟩
theorem trks_op2 {W : World} {A : Option Addr} {n cap : Nat} {l : List Tr} (h : RdTrs W (.slice A n cap) l) :
    ∀ (i : Nat) (t : Tr), l[i]? = some t → ∃ b off, A = some ⟨b, off, none⟩ ∧ b < W.heap.size ∧
      ∀ (i : Nat) (t : Tr), l[i]? = some t → ∃ (S : Option Addr) (c : Nat), W.cell? ⟨b, off + i * 3, none⟩ = some (.int .i64 t.1.1) ∧ W.cell? ⟨b, off + i * 3 + 1, none⟩ = some (.bool t.1.2) ∧ W.cell? ⟨b, off + i * 3 + 2, none⟩ = some (.slice S t.2.length c) ∧ t.2.length ≤ c ∧ Rd 2 encPt W (.slice S t.2.length c) t.2 := by
  obtain ⟨A', cap', hv, _, ho⟩ := trks_open h
  injection hv with h1
  subst h1
  exact ho
def sumT (o : List Tr) (k : Nat) : Nat := ((o.take k).flatMap fun t => t.2).length
theorem sumT_succ {o : List Tr} {k : Nat} {t : Tr} (h : o[k]? = some t) : sumT o (k + 1) = sumT o k + t.2.length := by
  unfold sumT
  rw [List.take_add_one, h]; simp
theorem sumT_bd {o : List Tr} (h : ∀ t ∈ o, t.2.length ≤ 300) : ∀ k, sumT o k ≤ 300 * k
  | 0 => by simp [sumT]
  | k + 1 => by
    have ih := sumT_bd h k
    cases hk : o[k]? with
    | none => unfold sumT at ih ⊢; rw [List.take_add_one, hk]; simp only [Option.toList_none, List.append_nil]; omega
    | some t => rw [sumT_succ hk]; have := h t (List.mem_of_getElem? hk); omega
set_option maxHeartbeats 8000000 in
theorem onceL_walk (W : World) (v : Value) (h : IsTrks W v) : Calls Try.prog 6 #[v] W fun e W' => e = .returned (.bool true) ∧ Below W.heap.size W W' := by
  obtain ⟨l0, h0⟩ := h
  have H0 := Lib.hid h0
  clear h0
  obtain ⟨l, hl⟩ : ∃ l, fewT l0 = l := ⟨_, rfl⟩
  have hlen : l.length ≤ 40 := hl ▸ few_len l0
  have HSH := Lib.hid (fun (t : Tr) (ht : t ∈ l) => few_short (l := l0) (t := t) (hl ▸ ht))
  have HLL := Lib.hid hl
  clear hl
  obtain ⟨ho1, ho2⟩ := oncT_short2 hlen HSH.out
  have hcl : (cellsT l).length ≤ 1099511627776 := by
    have := cellsT_len (l := l) (m := 300) (fun t ht => HSH.out t ht)
    omega
  have HCO := Lib.hid (cover_onc l)
  have HVO := Lib.hid (fun (t : Tr) (ht : t ∈ oncT l) => onc_val ht)
  have HCN := Lib.hid (cnt_onc l)
  obtain ⟨o, ho⟩ : ∃ o, oncT l = o := ⟨_, rfl⟩
  have HOO := Lib.hid ho
  rw [ho] at ho1 ho2 HCO HVO HCN
  have HO2 := Lib.hid ho2
  obtain ⟨n, hn⟩ : ∃ n, l.length = n := ⟨_, rfl⟩
  have HLN := Lib.hid hn
  rw [hn] at hlen
  obtain ⟨no, hno⟩ : ∃ no, o.length = no := ⟨_, rfl⟩
  have HNO := Lib.hid hno
  rw [hno] at ho1
  have hco : (cellsT o).length ≤ 1099511627776 := by
    have := cellsT_len (l := o) (m := 300) (fun t ht => HO2.out t ht)
    rw [HNO.out] at this; omega
  clear ho ho2 hn hno
  go_enter Try.func6, Try.ntmps6
  go_wp2_with fail
  (go_at_call 19; (with_reducible refine (Kin.callK (W := W) (by repeat (first | with_reducible (first | exact blA | exact blB | refine blC _ ?_ | refine blD ?_ ?_ _ | refine blE ?_ | refine blF _ ?_ | refine blG ?_ _ | refine blH ?_ | refine blI ?_ ?_ _) | (simp only [World.size_alloc]; omega) | (simp <;> omega))) (fewT_any _ _ _ H0.out)).mono ?_); rintro e w' ⟨z1, ⟨u1, rfl, hu1⟩, hz1, rfl⟩; skip)
  rw [HLL.out] at hu1
  obtain ⟨A, capA, rfl, hcapA, hopA⟩ := trks_open hu1
  have HL := Lib.hid hu1
  rw [HLN.out] at HL hcapA ⊢
  clear hz1 hu1 hopA
  go_wp2_with fail
  (go_at_call 24; (with_reducible refine (Kin.callK (W := (Kin.wd z1)) (by repeat (first | with_reducible (first | exact blA | exact blB | refine blC _ ?_ | refine blD ?_ ?_ _ | refine blE ?_ | refine blF _ ?_ | refine blG ?_ _ | refine blH ?_ | refine blI ?_ ?_ _) | (simp only [World.size_alloc]; omega) | (simp <;> omega))) (once_is _ l no _ HL.out (by rw [HLN.out]; omega) HOO.out HNO.out)).mono ?_); rintro e w' ⟨z2, ⟨BO, cO, rfl, hO⟩, hz2, rfl⟩; skip)
  have H2 := Lib.hid hO
  replace HL := Lib.hid (HL.out.below z2.2)
  clear hO hz2
  go_wp2_with fail
  (go_at_call 26; (with_reducible refine (Kin.callK (W := (Kin.wd z2)) (by repeat (first | with_reducible (first | exact blA | exact blB | refine blC _ ?_ | refine blD ?_ ?_ _ | refine blE ?_ | refine blF _ ?_ | refine blG ?_ _ | refine blH ?_ | refine blI ?_ ?_ _) | (simp only [World.size_alloc]; omega) | (simp <;> omega))) (onceR_any _ l _ HL.out (by rw [HLN.out]; exact hlen))).mono ?_); rintro e w' ⟨z3, ⟨uR, rfl, hR⟩, hz3, rfl⟩; skip)
  have H3 := Lib.hid (show RdTrs z3.1 uR o by rw [← HOO.out]; exact hR)
  replace H2 := Lib.hid (H2.out.below z3.2)
  replace HL := Lib.hid (HL.out.below z3.2)
  clear hR hz3
  go_wp2_with fail
  (go_at_call 25; (with_reducible refine (Kin.callK (W := (Kin.wd z3)) (by repeat (first | with_reducible (first | exact blA | exact blB | refine blC _ ?_ | refine blD ?_ ?_ _ | refine blE ?_ | refine blF _ ?_ | refine blG ?_ _ | refine blH ?_ | refine blI ?_ ?_ _) | (simp only [World.size_alloc]; omega) | (simp <;> omega))) (sameAll_true _ _ o _ H2.out H3.out (by rw [HNO.out]; omega) (fun t ht => Nat.le_trans (HO2.out t ht) (by decide)))).mono ?_); rintro e w' ⟨z4, rfl, hz4, rfl⟩; skip)
  replace H2 := Lib.hid (H2.out.below z4.2)
  replace HL := Lib.hid (HL.out.below z4.2)
  have HOP := Lib.hid (trks_op2 H2.out)
  have HZ := Lib.hid (show Below W.heap.size W z4.1 from ((z1.2.trans (z2.2.mono z1.2.size)).trans (z3.2.mono (Nat.le_trans z1.2.size z2.2.size))).trans (z4.2.mono (Nat.le_trans z1.2.size (Nat.le_trans z2.2.size z3.2.size))))
  clear hz4 H3
  go_wp2_with fail
  go_loopw [4, 19] (fun s i wr => ∃ k : Nat, k ≤ no ∧ i = .int .i64 k ∧ s = .int .i64 (sumT o k : Nat) ∧ ∃ y : Kin z4.1, y.1 = wr) (fun _ i _ => no - (intOf i).toNat)
  case atStart => exact ⟨0, Nat.zero_le _, rfl, rfl, ⟨_, Below.refl _ _⟩, rfl⟩
  case round =>
    obtain ⟨k, hk, rfl, rfl, y, rfl⟩ := hrel
    have hsb := sumT_bd HO2.out k
    by_cases hlt : k < no
    · obtain ⟨⟨⟨r, cl⟩, cs⟩, ht⟩ : ∃ t, o[k]? = some t := ⟨_, List.getElem?_eq_getElem (by rw [HNO.out]; exact hlt)⟩
      obtain ⟨bA, offA, rfl, hbA, hcA⟩ := HOP.out k _ ht
      obtain ⟨S, cS, t_0, t_1, t_2, hcS, hrS⟩ := hcA k _ ht
      have hv := HVO.out _ (List.mem_of_getElem? ht)
      have hs3 := HO2.out _ (List.mem_of_getElem? ht)
      have HSU := Lib.hid (sumT_succ ht)
      simp only at t_0 t_1 t_2 hcS hrS hs3
      obtain ⟨nt, hnt⟩ : ∃ nt, cs.length = nt := ⟨_, rfl⟩
      rw [hnt] at t_2 hcS hrS hs3
      have HNT := Lib.hid hnt
      have HRS := Lib.hid hrS
      have w1 : IntKind.i64.wrap ((sumT o k : Int) + (nt : Int)) = (sumT o k : Int) + (nt : Int) := IntWalk.i64_in _ (by omega)
      have HSV := Lib.hid (show ((sumT o (k + 1) : Nat) : Int) = (sumT o k : Int) + (nt : Int) by rw [HSU.out]; simp only [HNT.out]; omega)
      clear hcA ht hnt hrS
      go_wp2_with fail
      (go_at_call 11; (with_reducible refine (Kin.callK (W := (Kin.wd z4)) (by repeat (first | with_reducible (first | exact blA | exact blB | refine blC _ ?_ | refine blD ?_ ?_ _ | refine blE ?_ | refine blF _ ?_ | refine blG ?_ _ | refine blH ?_ | refine blI ?_ ?_ _) | (simp only [World.size_alloc]; omega) | (simp <;> omega))) (validT_is (b := true) (n := nt) r cl _ _ cs _ HNT.out (HRS.out.below (by repeat (first | with_reducible (first | exact blA | exact blB | refine blC _ ?_ | refine blD ?_ ?_ _ | refine blE ?_ | refine blF _ ?_ | refine blG ?_ _ | refine blH ?_ | refine blI ?_ ?_ _) | (simp only [World.size_alloc]; omega) | (simp <;> omega)))) hv)).mono ?_); rintro e w' ⟨z, rfl, hz, rfl⟩; skip)
      have B5 := (Blk.new y.1 24 #[.int .i64 r, .bool cl, .slice S nt cS]).below hz
      have q2 : z.1.cell? ⟨y.1.heap.size, 2, none⟩ = some (.slice S nt cS) := B5.cell 2
      have q3 := B5.lt
      go_wp2_with fail
      exact ⟨⟨k + 1, by omega, by go_num, by rw [HSV.out], z, rfl⟩, by simp [intOf]; omega⟩
    · have hkn : k = no := by omega
      subst hkn
      have HSN := Lib.hid (show cntR (ofR (cellsT o)) = (sumT o k : Nat) by rw [HCN.out]; unfold sumT; rw [List.take_of_length_le (by rw [HNO.out]; exact Nat.le_refl _)])
      have hsb2 : k ≤ 12040 := ho1
      go_wp2_with fail
      (go_at_call 20; (with_reducible refine (Kin.callK (W := (Kin.wd z4)) (by repeat (first | with_reducible (first | exact blA | exact blB | refine blC _ ?_ | refine blD ?_ ?_ _ | refine blE ?_ | refine blF _ ?_ | refine blG ?_ _ | refine blH ?_ | refine blI ?_ ?_ _) | (simp only [World.size_alloc]; omega) | (simp <;> omega))) (cover_any _ o _ (H2.out.below (by repeat (first | with_reducible (first | exact blA | exact blB | refine blC _ ?_ | refine blD ?_ ?_ _ | refine blE ?_ | refine blF _ ?_ | refine blG ?_ _ | refine blH ?_ | refine blI ?_ ?_ _) | (simp only [World.size_alloc]; omega) | (simp <;> omega)))) (by rw [HNO.out]; omega) hco)).mono ?_); rintro e w' ⟨z5, ⟨AR, nR, cR, rfl, hR⟩, hz5, rfl⟩; skip)
      have HR := Lib.hid hR
      go_wp2_with fail
      have mixed : Try.prog.follows .mixedOrders = true := by kernel_rfl
      obtain ⟨y0, hy0⟩ : ∃ y0 : Kin z4.1, y0.1 = z5.1.alloc (.cells #[.slice AR nR cR] 37) := ⟨⟨z5.1.alloc _, (by repeat (first | with_reducible (first | exact blA | exact blB | refine blC _ ?_ | refine blD ?_ ?_ _ | refine blE ?_ | refine blF _ ?_ | refine blG ?_ _ | refine blH ?_ | refine blI ?_ ?_ _) | (simp only [World.size_alloc]; omega) | (simp <;> omega)))⟩, rfl⟩
      obtain ⟨g, hg⟩ : ∃ g, z5.1.heap.size = g := ⟨_, rfl⟩
      have hby : Below z5.1.heap.size z5.1 y0.1 := hy0 ▸ Below.alloc (Below.refl _ _) (Nat.le_refl _) _
      have B0 := Blk.new z5.1 37 #[.slice AR nR cR]
      rw [← hy0, hg] at B0
      rw [← hy0, hg]
      replace HR := Lib.hid (HR.out.below hby)
      replace HL := Lib.hid (HL.out.below y0.2)
      have b0 : y0.1.cell? ⟨g, 0, none⟩ = some (.slice AR nR cR) := B0.cell 0
      have lg := B0.lt
      clear hy0 hg hby B0 hR hz5
      refine wp_region_held_drew (S := fun w' => Below y0.1.heap.size y0.1 w') (by kernel_rfl) (by repeat (first | with_reducible (first | exact blA | exact blB | refine blC _ ?_ | refine blD ?_ ?_ _ | refine blE ?_ | refine blF _ ?_ | refine blG ?_ _ | refine blH ?_ | refine blI ?_ ?_ _) | (simp only [World.size_alloc]; omega) | (simp <;> omega))) (fun hHeld => ?_)
      try simp only [List.size_toArray, List.length_cons, List.length_nil, Nat.zero_add, Nat.reduceAdd, List.replicate, Array.replicate]
      refine wpAnyH_take (i := 0) (v := ?_) rfl (by kernel_rfl) (by kernel_rfl) (by kernel_rfl) (fun _ _ _ h => h) (Or.inl ⟨by kernel_rfl, ?_⟩) (by assumption) ?_
      rotate_left
      · (intro w' hSw; have s0 := (hSw.cell (p := ⟨g, 0, none⟩) lg).trans (b0); go_simp; try with_reducible rfl)
      try simp only [List.getElem_toArray, List.getElem_cons_succ, List.getElem_cons_zero, Act.put, List.setIfInBounds_toArray, List.set_cons_zero, List.set_cons_succ]
      refine wpAnyH_take (i := 1) (v := ?_) rfl (by kernel_rfl) (by kernel_rfl) (by kernel_rfl) (fun _ _ _ h => h) (Or.inl ⟨by kernel_rfl, ?_⟩) (by assumption) ?_
      rotate_left
      · (intro w' hSw; have s0 := (hSw.cell (p := ⟨g, 0, none⟩) lg).trans (b0); go_simp; try with_reducible rfl)
      try simp only [List.getElem_toArray, List.getElem_cons_succ, List.getElem_cons_zero, Act.put, List.setIfInBounds_toArray, List.set_cons_zero, List.set_cons_succ]
      refine wpAnyH_ready (rs := [2]) (by kernel_rfl) (by simp) (AllReadyH.cons rfl (fun K hK => ?_) AllReadyH.nil)
      go_simp
      (go_at_call 20; (with_reducible refine (Kin.callK (W := (Kin.wd y0)) (by repeat (first | with_reducible (first | exact blA | exact blB | refine blC _ ?_ | refine blD ?_ ?_ _ | refine blE ?_ | refine blF _ ?_ | refine blG ?_ _ | refine blH ?_ | refine blI ?_ ?_ _) | (simp only [World.size_alloc]; omega) | (simp <;> omega))) (cover_any _ l _ (HL.out.below (by repeat (first | with_reducible (first | exact blA | exact blB | refine blC _ ?_ | refine blD ?_ ?_ _ | refine blE ?_ | refine blF _ ?_ | refine blG ?_ _ | refine blH ?_ | refine blI ?_ ?_ _) | (simp only [World.size_alloc]; omega) | (simp <;> omega)))) (by rw [HLN.out]; omega) hcl)).mono ?_); rintro e w' ⟨z6, ⟨AS, nS, cS, rfl, hS⟩, hz6, rfl⟩; skip)
      refine hK.out _ _ (by repeat (first | with_reducible (first | exact blA | exact blB | refine blC _ ?_ | refine blD ?_ ?_ _ | refine blE ?_ | refine blF _ ?_ | refine blG ?_ _ | refine blH ?_ | refine blI ?_ ?_ _) | (simp only [World.size_alloc]; omega) | (simp <;> omega))) (fun hHeld2 => ?_)
      clear hK hHeld
      have hHeld := hHeld2
      clear hHeld2 K
      try simp only [List.getElem_toArray, List.getElem_cons_succ, List.getElem_cons_zero, Act.put, List.setIfInBounds_toArray, List.set_cons_zero, List.set_cons_succ]
      have HR3 := HR.out.below z6.2
      refine wpAnyH_ready (rs := [3]) (by kernel_rfl) (by simp) (AllReadyH.cons rfl (fun K hK => ?_) AllReadyH.nil)
      go_simp
      (go_at_call 21; (with_reducible refine (Kin.callK (W := (Kin.wd y0)) (by repeat (first | with_reducible (first | exact blA | exact blB | refine blC _ ?_ | refine blD ?_ ?_ _ | refine blE ?_ | refine blF _ ?_ | refine blG ?_ _ | refine blH ?_ | refine blI ?_ ?_ _) | (simp only [World.size_alloc]; omega) | (simp <;> omega))) (same18_t _ _ _ HR3 hS (rvalid_bd (ofR_valid _)) (rvalid_bd (ofR_valid _)) HCO.out)).mono ?_); rintro e w' ⟨z7, rfl, hz7, rfl⟩; skip)
      refine hK.out _ _ (by repeat (first | with_reducible (first | exact blA | exact blB | refine blC _ ?_ | refine blD ?_ ?_ _ | refine blE ?_ | refine blF _ ?_ | refine blG ?_ _ | refine blH ?_ | refine blI ?_ ?_ _) | (simp only [World.size_alloc]; omega) | (simp <;> omega))) (fun hHeld2 => ?_)
      clear hK hHeld
      have hHeld := hHeld2
      clear hHeld2 K
      try simp only [List.getElem_toArray, List.getElem_cons_succ, List.getElem_cons_zero, Act.put, List.setIfInBounds_toArray, List.set_cons_zero, List.set_cons_succ]
      have HR4 := HR.out.below z7.2
      refine wpAnyH_take (i := 4) (v := ?_) rfl (by kernel_rfl) (by kernel_rfl) (by kernel_rfl) (fun _ _ _ h => h) (Or.inl ⟨by kernel_rfl, ?_⟩) (by assumption) ?_
      rotate_left
      · (intro w' hSw; have s0 := (hSw.cell (p := ⟨g, 0, none⟩) lg).trans (b0); go_simp; try with_reducible rfl)
      try simp only [List.getElem_toArray, List.getElem_cons_succ, List.getElem_cons_zero, Act.put, List.setIfInBounds_toArray, List.set_cons_zero, List.set_cons_succ]
      refine wpAnyH_take (i := 5) (v := ?_) rfl (by kernel_rfl) (by kernel_rfl) (by kernel_rfl) (fun _ _ _ h => h) (Or.inl ⟨by kernel_rfl, ?_⟩) (by assumption) ?_
      rotate_left
      · (intro w' hSw; have s0 := (hSw.cell (p := ⟨g, 0, none⟩) lg).trans (b0); go_simp; try with_reducible rfl)
      try simp only [List.getElem_toArray, List.getElem_cons_succ, List.getElem_cons_zero, Act.put, List.setIfInBounds_toArray, List.set_cons_zero, List.set_cons_succ]
      refine wpAnyH_take (i := 7) (v := ?_) rfl (by kernel_rfl) (by kernel_rfl) (by kernel_rfl) (fun _ _ _ h => h) (Or.inl ⟨by kernel_rfl, ?_⟩) (by assumption) ?_
      rotate_left
      · (intro w' hSw; have s0 := (hSw.cell (p := ⟨g, 0, none⟩) lg).trans (b0); go_simp; try with_reducible rfl)
      try simp only [List.getElem_toArray, List.getElem_cons_succ, List.getElem_cons_zero, Act.put, List.setIfInBounds_toArray, List.set_cons_zero, List.set_cons_succ]
      refine wpAnyH_ready (rs := [6]) (by kernel_rfl) (by simp) (AllReadyH.cons rfl (fun K hK => ?_) AllReadyH.nil)
      go_simp
      (go_at_call 27; (with_reducible refine (Kin.callK (W := (Kin.wd y0)) (by repeat (first | with_reducible (first | exact blA | exact blB | refine blC _ ?_ | refine blD ?_ ?_ _ | refine blE ?_ | refine blF _ ?_ | refine blG ?_ _ | refine blH ?_ | refine blI ?_ ?_ _) | (simp only [World.size_alloc]; omega) | (simp <;> omega))) (cnt18_is (n := ((sumT o k : Nat) : Int)) _ _ _ HR4 (rvalid_bd (ofR_valid _)) HSN.out)).mono ?_); rintro e w' ⟨z8, rfl, hz8, rfl⟩; skip)
      refine hK.out _ _ (by repeat (first | with_reducible (first | exact blA | exact blB | refine blC _ ?_ | refine blD ?_ ?_ _ | refine blE ?_ | refine blF _ ?_ | refine blG ?_ _ | refine blH ?_ | refine blI ?_ ?_ _) | (simp only [World.size_alloc]; omega) | (simp <;> omega))) (fun hHeld2 => ?_)
      clear hK hHeld
      have hHeld := hHeld2
      clear hHeld2 K
      try simp only [List.getElem_toArray, List.getElem_cons_succ, List.getElem_cons_zero, Act.put, List.setIfInBounds_toArray, List.set_cons_zero, List.set_cons_succ]
      refine wpAnyH_take (i := 8) (v := ?_) rfl (by kernel_rfl) (by kernel_rfl) (by kernel_rfl) (fun _ _ _ h => h) (Or.inl ⟨by kernel_rfl, ?_⟩) (by assumption) ?_
      rotate_left
      · (intro w' hSw; have s0 := (hSw.cell (p := ⟨g, 0, none⟩) lg).trans (b0); go_simp; try with_reducible rfl)
      try simp only [List.getElem_toArray, List.getElem_cons_succ, List.getElem_cons_zero, Act.put, List.setIfInBounds_toArray, List.set_cons_zero, List.set_cons_succ]
      refine wpAnyH_take (i := 9) (v := ?_) rfl (by kernel_rfl) (by kernel_rfl) (by kernel_rfl) (fun _ _ _ h => h) (Or.inl ⟨by kernel_rfl, ?_⟩) (by assumption) ?_
      rotate_left
      · (intro w' hSw; have s0 := (hSw.cell (p := ⟨g, 0, none⟩) lg).trans (b0); go_simp; try with_reducible rfl)
      try simp only [List.getElem_toArray, List.getElem_cons_succ, List.getElem_cons_zero, Act.put, List.setIfInBounds_toArray, List.set_cons_zero, List.set_cons_succ]
      refine wpAnyH_take (i := 10) (v := ?_) rfl (by kernel_rfl) (by kernel_rfl) (by kernel_rfl) (fun _ _ _ h => h) (Or.inl ⟨by kernel_rfl, ?_⟩) (by assumption) ?_
      rotate_left
      · (intro w' hSw; have s0 := (hSw.cell (p := ⟨g, 0, none⟩) lg).trans (b0); go_simp; try with_reducible rfl)
      try simp only [List.getElem_toArray, List.getElem_cons_succ, List.getElem_cons_zero, Act.put, List.setIfInBounds_toArray, List.set_cons_zero, List.set_cons_succ]
      refine wpAnyH_ready (rs := [11]) (by kernel_rfl) (by simp) (AllReadyH.cons rfl (fun K hK => ?_) AllReadyH.nil)
      go_simp
      (go_at_call 10; (with_reducible refine (Kin.callK (W := (Kin.wd y0)) (by repeat (first | with_reducible (first | exact blA | exact blB | refine blC _ ?_ | refine blD ?_ ?_ _ | refine blE ?_ | refine blF _ ?_ | refine blG ?_ _ | refine blH ?_ | refine blI ?_ ?_ _) | (simp only [World.size_alloc]; omega) | (simp <;> omega))) (awake23_any _)).mono ?_); rintro e w' ⟨z9, rfl, hz9, rfl⟩; skip)
      refine hK.out _ _ (by repeat (first | with_reducible (first | exact blA | exact blB | refine blC _ ?_ | refine blD ?_ ?_ _ | refine blE ?_ | refine blF _ ?_ | refine blG ?_ _ | refine blH ?_ | refine blI ?_ ?_ _) | (simp only [World.size_alloc]; omega) | (simp <;> omega))) (fun hHeld2 => ?_)
      clear hK hHeld
      have hHeld := hHeld2
      clear hHeld2 K
      try simp only [List.getElem_toArray, List.getElem_cons_succ, List.getElem_cons_zero, Act.put, List.setIfInBounds_toArray, List.set_cons_zero, List.set_cons_succ]
      refine wpAnyH_take (i := 12) (v := ?_) rfl (by kernel_rfl) (by kernel_rfl) (by kernel_rfl) (fun _ _ _ h => h) (Or.inl ⟨by kernel_rfl, ?_⟩) (by assumption) ?_
      rotate_left
      · (intro w' hSw; have s0 := (hSw.cell (p := ⟨g, 0, none⟩) lg).trans (b0); go_simp; try with_reducible rfl)
      try simp only [List.getElem_toArray, List.getElem_cons_succ, List.getElem_cons_zero, Act.put, List.setIfInBounds_toArray, List.set_cons_zero, List.set_cons_succ]
      refine wpAnyH_take (i := 13) (v := ?_) rfl (by kernel_rfl) (by kernel_rfl) (by kernel_rfl) (fun _ _ _ h => h) (Or.inl ⟨by kernel_rfl, ?_⟩) (by assumption) ?_
      rotate_left
      · (intro w' hSw; have s0 := (hSw.cell (p := ⟨g, 0, none⟩) lg).trans (b0); go_simp; try with_reducible rfl)
      try simp only [List.getElem_toArray, List.getElem_cons_succ, List.getElem_cons_zero, Act.put, List.setIfInBounds_toArray, List.set_cons_zero, List.set_cons_succ]
      refine wpAnyH_done (by kernel_rfl) ?_ _
      go_wp2_with fail
      go_ret
      exact ⟨rfl, HZ.out.trans ((y0.2.trans (z9.2.mono y0.2.size)).mono HZ.out.size)⟩
set_option maxRecDepth 100000 in
theorem trackOnce_lifted (os : Os) (started : os.Started) (H : Type) (enc : TypeId × Value → H) :
    ReturnsInHanded {} Try.checked os 6 .any (Rows.trackOnceSpec.pre6 enc Try.prog Try.f6 Rows.trackOnceRow.domain false) (Rows.trackOnceSpec.post enc Try.prog Try.f6 false true false false) := by
  refine returnsInHanded_of_change (C := Try.checked) own started (by kernel_rfl) Try.func6
    (ChangeSpec.witness6 (enc := enc) (C := Try.checked) false ⟨#[], #[.slice none 0 0], []⟩ 8 (by kernel_rfl) (by kernel_rfl) (by kernel_rfl) (by kernel_rfl)) ?_
  intro W base args ds gs before hval0 hW hcnd _
  have hval : ∀ (j : Nat) t v, Try.f6.params[j]? = some t → args[j]? = some v → Value.okWide Try.prog W .any base t v := hval0
  have hW' := hW
  obtain ⟨p, q, hA0, hV, rfl, hfz, hnd⟩ := hW
  have hA : DataW.TrodAll enc Try.prog W 0 (fun _ => true) true Try.f6.params.toList args.toList ds p := hA0
  rw [Try.params6] at hA hval
  have hAA := hA
  obtain ⟨v0, vs0, d0, ds0, p0, q0, hargs, rfl, rfl, h0, r0⟩ := trodAll_cons hA
  obtain ⟨rfl, rfl, rfl⟩ := trodAll_nil r0
  obtain rfl : args = #[v0] := by cases args; simp_all
  obtain ⟨rfl, rfl⟩ := trodVars_none hV
  have o0 := open_trks (hval 0 33 v0 rfl rfl) h0
  have hlt : ∀ x ∈ p0 ++ [], x.block < W.heap.size := fun x hx => hW'.lt x (by simpa using hx)
  refine (onceL_walk W _ o0).mono fun e W' ⟨he, bel⟩ => ?_
  subst he
  exact ⟨_, rfl, _, _, _, [], _, [], hW', trodAll_mk1 (shut_bool Try.underlying4 _), below_trodAll laidOut bel _ _ _ _ (by
    intro t ht
    have hcl : ([33] : List TypeId).all (fun t => Try.prog.readableRec t && decide (t < Try.prog.types.size)) = true := by kernel_rfl
    have := List.all_eq_true.1 hcl t ht
    simpa using this) hlt hAA, rfl, bel.frame _, fun h => by cases h⟩
theorem trackOnce_heard : (Try.checked.prog.stopsHeard = true ∧ Try.checked.prog.mayEnter = true) ∧ Try.checked.prog.liftsFinal = Rows.trackOnceRow.lifted := ⟨⟨by kernel_rfl, by kernel_rfl⟩, by kernel_rfl⟩
theorem trackOnce_calls : (Try.checked.prog.inPlace 6 = Rows.trackOnceRow.inPlace ∧ Try.checked.prog.unfollowed 6 = Rows.trackOnceRow.unfollowed) ∧ (Try.checked.prog.recurses 6 = Rows.trackOnceRow.recurses ∧ Try.checked.prog.varsNamed 6 = Rows.trackOnceRow.named) := ⟨⟨by kernel_rfl, by kernel_rfl⟩, ⟨by kernel_rfl, by kernel_rfl⟩⟩
theorem trackOnce_closed : joinedFacts Try.checked.prog 6 Try.f6 Rows.trackOnceSpec Rows.trackOnceRow = true := by
  unfold joinedFacts
  rw [trackOnce_calls.1.1, trackOnce_calls.1.2, trackOnce_calls.2.1, trackOnce_calls.2.2, trackOnce_heard.1.1, trackOnce_heard.1.2, trackOnce_heard.2]
  kernel_rfl
/-- TrackOnce: for every input the call returns true, and the arguments read behind it as before. No condition. -/
theorem trackOnce_holds : Rows.TrackOnceSaid :=
  OpenClaim.holds_of_wide 6 Try.f6 rfl rfl rfl rfl rfl rfl rfl ⟨rfl, rfl, rfl, rfl, rfl⟩ rfl rfl rfl rfl rfl (by kernel_rfl) Try.func6 trackOnce_closed
    (of_decide_eq_true (by kernel_rfl)) (by unfold Func.isWrapper; rw [if_neg (of_decide_eq_false (by kernel_rfl))]; exact ⟨rfl, rfl⟩)
    (fun os started H enc _ => trackOnce_lifted os started H enc)

end Go.Proofs.Ytomndgjnhhchdaa
