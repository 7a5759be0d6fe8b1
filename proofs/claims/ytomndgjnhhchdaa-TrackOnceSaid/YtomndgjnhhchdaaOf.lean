/- The chapter's region of a list of cells. -/
import Derived.Test.YtomndgjnhhchdaaOfWalk
import Derived.Test.YtomndgjnhhchdaaFloatH
import Derived.Test.YtomndgjnhhchdaaRegGen
namespace Go.Proofs.Ytomndgjnhhchdaa
set_option linter.unusedSimpArgs false
set_option linter.unusedVariables false
open Go.RowKit Runs Reg
attribute [local go_sem] Kin.cell Kin.frozen Kin.lt0 Kin.lt1 Kin.lt2 Kin.lt3 run_mkf
/-- the last row of rows that the call has built -/
theorem OwnRows.last {base : Nat} {W : World} {v : Value} {E : List Reg.Row} {r : Reg.Row} (h : OwnRows base W v (E ++ [r])) : ∃ (g cap : Nat) (T : Option Addr) (cT : Nat), v = .slice (some ⟨g, 0, none⟩) (E.length + 1) cap ∧ base ≤ g ∧ g < W.heap.size ∧
    W.cell? ⟨g, E.length * 2, none⟩ = some (.int .i64 r.1) ∧ W.cell? ⟨g, E.length * 2 + 1, none⟩ = some (.slice T r.2.length cT) ∧ Rd 2 encRun W (.slice T r.2.length cT) r.2 ∧ (r.2 = [] ∨ (Value.slice T r.2.length cT).ownBlock ≠ some g) ∧ W.frozen? ⟨g, E.length * 2 + 1, none⟩ = false := by
  obtain ⟨hs, h1, h2, h3⟩ := h
  have hl := h2.1
  rw [List.length_append, List.length_singleton] at hl
  have hrd := Rd.own encRow_len h1
  have hlt := h1.lt
  rw [hl] at h1
  obtain ⟨g, cap, rfl, hb⟩ := own_at h1 (by omega)
  obtain ⟨p, hp⟩ : ∃ p, hs[E.length]? = some p := ⟨_, List.getElem?_eq_getElem (by omega)⟩
  have hx : (E ++ [r])[E.length]? = some r := by simp
  obtain ⟨ht, hr⟩ := h2.2 _ p r hp hx
  have hap := h3 _ p r hp hx
  obtain ⟨y, T, n, c⟩ := p
  obtain ⟨A', c', e, hle, _⟩ := hr.open_
  unfold rsl at e hr hap
  injection e with e1 e2 e3
  simp only at e1 e2 e3 hr hap
  subst e1 e2 e3
  obtain ⟨A', cap', hv, _, ho⟩ := hrd
  injection hv with e1 e2 e3
  rcases ho with ho | ⟨b, off, e, _, hc⟩
  · rw [ho] at hp; simp at hp
  · rw [e] at e1
    injection e1 with e1
    injection e1 with e1 e4 _
    subst e1 e4
    have c0 := hc _ _ hp 0 _ rfl
    have c1 := hc _ _ hp 1 _ rfl
    have ht2 : y = r.1 := ht
    subst ht2
    simp at c0 c1
    exact ⟨g, cap, T, c, rfl, hb, (hlt g rfl).2, c0, c1, hr, hap, h1.frozenAt _⟩
theorem flat_set2 (hs : List RowH) (k : Nat) (y : Int) (A A' : Option Addr) (n n' c c' : Nat) (h : hs[k]? = some (y, A, n, c)) : (hs.flatMap encRow).set (k * 2 + 1) (.slice A' n' c') = (hs.set k (y, A', n', c')).flatMap encRow := by
  have hk := (List.getElem?_eq_some_iff.1 h).1
  have h1 := flat_set (enc := encRow) (y := (y, A', n', c')) encRow_len rfl hs k hk
  have h2 : (hs.flatMap encRow)[k * 2]? = some (.int .i64 y) := by
    have := flat_get (enc := encRow) encRow_len hs k _ h 0 _ rfl
    simpa using this
  obtain ⟨h3, h4⟩ := List.getElem?_eq_some_iff.1 h2
  have h5 : (hs.flatMap encRow).set (k * 2) (.int .i64 y) = hs.flatMap encRow := by rw [← h4]; exact List.set_getElem_self h3
  rw [show (y, A', n', c').fst = y from rfl, h5] at h1
  exact h1
/-- the last row gets other runs -/
theorem OwnRows.relast {base g cap n' c' : Nat} {W : World} {E : List Reg.Row} {y : Int} {l l' : List Run} {A' : Option Addr} (h : OwnRows base W (.slice (some ⟨g, 0, none⟩) (E.length + 1) cap) (E ++ [(y, l)]))
    (hr : Rd 2 encRun W (.slice A' n' c') l') (hf : l' = [] ∨ (Value.slice A' n' c').ownBlock ≠ some g) :
    OwnRows base (W.setCell ⟨g, E.length * 2 + 1, none⟩ (.slice A' n' c')) (.slice (some ⟨g, 0, none⟩) (E.length + 1) cap) (E ++ [(y, l')]) := by
  obtain ⟨hs, h1, h2, h3⟩ := h
  have hl := h2.1
  rw [List.length_append, List.length_singleton] at hl
  obtain ⟨p, hp⟩ : ∃ p, hs[E.length]? = some p := ⟨_, List.getElem?_eq_getElem (by omega)⟩
  have hx : (E ++ [(y, l)])[E.length]? = some (y, l) := by simp
  have ht := (h2.2 _ p _ hp hx).1
  obtain ⟨y0, T, n, c⟩ := p
  have ht2 : y0 = y := ht
  subst ht2
  have hg : W.grownBy (W.setCell ⟨g, E.length * 2 + 1, none⟩ (.slice A' n' c')) (some g) := grownBy_set _
  have hst := (World.ownsRow.stored (hl ▸ h1) (E.length * 2 + 1) (.slice A' n' c')).1
  rw [flat_set2 hs E.length y0 T A' n n' c c' hp] at hst
  have hget : ∀ i q x, (hs.set E.length (y0, A', n', c'))[i]? = some q → (E ++ [(y0, l')])[i]? = some x → (hs[i]? = some q ∧ (E ++ [(y0, l)])[i]? = some x) ∨ (q = (y0, A', n', c') ∧ x = (y0, l')) := fun i q x hq hx => by
    by_cases hi : i = E.length
    · subst hi
      right
      rw [List.getElem?_set_self (by omega)] at hq
      rw [show (E ++ [(y0, l')])[E.length]? = some (y0, l') by simp] at hx
      exact ⟨(Option.some.inj hq).symm, (Option.some.inj hx).symm⟩
    · left
      rw [List.getElem?_set_ne (Ne.symm hi)] at hq
      refine ⟨hq, ?_⟩
      have hi2 : i < E.length := by
        have := (List.getElem?_eq_some_iff.1 hx).1
        rw [List.length_append, List.length_singleton] at this
        omega
      rw [List.getElem?_append_left hi2] at hx ⊢
      exact hx
  refine ⟨hs.set E.length (y0, A', n', c'), by rw [List.length_set, hl]; exact hst, ⟨by simp [hl], fun i q x hq hx => ?_⟩, fun i q x hq hx => ?_⟩
  · rcases hget i q x hq hx with ⟨h4, h5⟩ | ⟨rfl, rfl⟩
    · exact ⟨(h2.2 i q x h4 h5).1, (h2.2 i q x h4 h5).2.grown hg (h3 i q x h4 h5)⟩
    · exact ⟨rfl, hr.grown hg hf⟩
  · rcases hget i q x hq hx with ⟨h4, h5⟩ | ⟨rfl, rfl⟩
    · exact h3 i q x h4 h5
    · exact hf
theorem ofE_bad {l : List (Int × Int)} {c : Int × Int} (hc : c ∈ l) (h : okCell c = false) : l.all okCell = false := by
  cases h2 : l.all okCell
  · rfl
  · rw [List.all_eq_true.1 h2 c hc] at h; cases h
theorem all_take {l : List (Int × Int)} {k : Nat} (h : ∀ c ∈ l.take k, okCell c = true) (hk : l.length ≤ k) : l.all okCell = true := by
  rw [List.take_of_length_le hk] at h; exact List.all_eq_true.2 h
theorem take_ok {l : List (Int × Int)} {k : Nat} {c : Int × Int} (h : ∀ c ∈ l.take k, okCell c = true) (hc : l[k]? = some c) (h2 : okCell c = true) : ∀ c ∈ l.take (k + 1), okCell c = true := by
  intro d hd
  rw [List.take_add_one, hc] at hd
  rcases List.mem_append.1 hd with hd | hd
  · exact h d hd
  · have e : d = c := by simpa using hd
    subst e; exact h2
theorem sm_ok {c : Int × Int} (h : okCell c = true) : smC c := by
  have := okCell_iff.1 h
  unfold smC; omega
theorem OwnRows.len {base : Nat} {W : World} {v : Value} {rows : List Reg.Row} (h : OwnRows base W v rows) : ∃ A cap, v = .slice A rows.length cap := by
  obtain ⟨A, cap, hv, _⟩ := rows_open (OwnN.rd encRow_len h)
  exact ⟨A, cap, hv⟩
theorem with_far {l0 : List Run} {x : Int} {T A9 : Option Addr} {cT c9 g size : Nat} (hg : g < size) (a9 : Value.slice T l0.length cT = .slice A9 (withL l0 x).length c9 ∨ ∃ b, A9 = some ⟨b, 0, none⟩ ∧ size ≤ b) (hap : l0 = [] ∨ (Value.slice T l0.length cT).ownBlock ≠ some g) :
    withL l0 x = [] ∨ (Value.slice A9 (withL l0 x).length c9).ownBlock ≠ some g := by
  right
  rcases a9 with e | ⟨b, rfl, hb⟩
  · rw [← e]
    rcases hap with rfl | h
    · injection e with _ e _
      simp [withL_nil] at e
    · exact h
  · intro e
    have : b = g := by simpa [Value.ownBlock] using e
    omega
theorem OwnRows.lastG {M base : Nat} {W : World} {v : Value} {E : List Reg.Row} {r : Reg.Row} (hM : M = E.length) (h : OwnRows base W v (E ++ [r])) : ∃ (g cap : Nat) (T : Option Addr) (cT : Nat), v = .slice (some ⟨g, 0, none⟩) (M + 1) cap ∧ base ≤ g ∧ g < W.heap.size ∧
    W.cell? ⟨g, M * 2, none⟩ = some (.int .i64 r.1) ∧ W.cell? ⟨g, M * 2 + 1, none⟩ = some (.slice T r.2.length cT) ∧ Rd 2 encRun W (.slice T r.2.length cT) r.2 ∧ (r.2 = [] ∨ (Value.slice T r.2.length cT).ownBlock ≠ some g) ∧ W.frozen? ⟨g, M * 2 + 1, none⟩ = false := by
  subst hM; exact h.last
theorem OwnRows.relastG {base g cap n' c' M n1 : Nat} {W : World} {E : List Reg.Row} {y : Int} {l l' : List Run} {A' : Option Addr} (hM : M = E.length) (hn : n1 = E.length + 1) (h : OwnRows base W (.slice (some ⟨g, 0, none⟩) n1 cap) (E ++ [(y, l)]))
    (hr : Rd 2 encRun W (.slice A' n' c') l') (hf : l' = [] ∨ (Value.slice A' n' c').ownBlock ≠ some g) :
    OwnRows base (W.setCell ⟨g, M * 2 + 1, none⟩ (.slice A' n' c')) (.slice (some ⟨g, 0, none⟩) n1 cap) (E ++ [(y, l')]) := by
  subst hM hn; exact h.relast hr hf
set_option maxRecDepth 100000 in
set_option maxHeartbeats 16000000 in
theorem of18_any (v : Value) (l : List (Int × Int)) (w : World) (h : Rd 2 encPt w v l) (hlen : l.length ≤ 1099511627776) :
    Calls Try.prog 39 #[v] w fun e w' => (∃ A n c, e = .returned (.tuple #[.agg #[.slice A n c], .int .i64 (ofE l)]) ∧ RdReg w' (.agg #[.slice A n c]) (ofR l)) ∧ Below w.heap.size w w' := by
  have HV := Lib.hid h
  obtain ⟨A, capA, rfl, hcapA, hopA⟩ := h.open_
  have HA := Lib.hid hopA
  have HLA := Lib.hid h
  clear hopA h
  go_enter Try.func39, Try.ntmps39
  go_wp2
  go_loopw [4] (fun i wr => ∃ k : Nat, k ≤ l.length ∧ i = .int .i64 k ∧ Hid (∀ c ∈ l.take k, okCell c = true) ∧ ∃ z : Kin (w.alloc (.cells #[.slice none 0 0] 37)), z.1 = wr) (fun i _ => l.length - (intOf i).toNat)
  case atStart => exact ⟨0, Nat.zero_le _, rfl, Lib.hid (by simp), ⟨_, Below.refl _ _⟩, rfl⟩
  case round =>
    obtain ⟨k, hk, rfl, HK, z, rfl⟩ := hrel
    have hB := Lib.hid ((Blk.new w 37 #[.slice none 0 0]).below z.2)
    by_cases hlt : k < l.length
    · obtain ⟨c, hc⟩ : ∃ el_, (l)[k]? = some el_ := ⟨_, List.getElem?_eq_getElem (by first | exact hlt | omega)⟩
      obtain ⟨bA, offA, rfl, hbA, hcA⟩ := HA.out (k) _ hc
      have c_0 : w.cell? ⟨bA, offA + k * 2, none⟩ = some (.int .i64 c.1) := by exact hcA (k) _ hc 0 _ rfl
      have c_1 : w.cell? ⟨bA, offA + k * 2 + 1, none⟩ = some (.int .i64 c.2) := by exact hcA (k) _ hc 1 _ rfl
      have hbA2 : bA < w.heap.size + 1 := by omega
      have HAc := Lib.hid hcA
      have Hc := Lib.hid hc
      clear hc hcA
      cases hc : okCell c
      · have HBAD := Lib.hid (ofE_bad (List.mem_of_getElem? Hc.out) hc)
        go_wp2_with (go_at_call 55; (with_reducible refine (Kin.callK (W := w.alloc (.cells #[.slice none 0 0] 37)) (by repeat (first | with_reducible (first | exact blA | exact blB | refine blC _ ?_ | refine blD ?_ ?_ _ | refine blE ?_ | refine blF _ ?_ | refine blG ?_ _ | refine blH ?_ | refine blI ?_ ?_ _) | (simp only [World.size_alloc]; omega) | (simp <;> omega))) (inRange18_is c _ hc)).mono ?_); rintro e w' ⟨z2, rfl, hz2, rfl⟩; (have hB2 := Lib.hid (hB.out.below hz2); have q0 : (Kin.wd z2).cell? ⟨w.heap.size, 0, none⟩ = some (.slice none 0 0) := hB2.out.cell 0; have qf : (Kin.wd z2).frozen? ⟨w.heap.size, 0, none⟩ = false := hB2.out.frozen 0; have ql := hB2.out.lt))
        ((try simp only [Exit.inBlock, Exit.then]); refine bodyPost_ret (results_cell_t rfl _ _ (0, 0) rfl (hB2.out.set_ 0 _) Try.underlying37 rfl (by kernel_rfl)) rfl ?_)
        exact ⟨⟨_, _, _, by rw [show ofE l = 8 by unfold ofE; rw [HBAD.out]; rfl]; rfl, by rw [show ofR l = [] by unfold ofR; rw [HBAD.out]; rfl]; exact RdReg.nil⟩, (by repeat (first | with_reducible (first | exact blA | exact blB | refine blC _ ?_ | refine blD ?_ ?_ _ | refine blE ?_ | refine blF _ ?_ | refine blG ?_ _ | refine blH ?_ | refine blI ?_ ?_ _) | (simp only [World.size_alloc]; omega) | (simp <;> omega)))⟩
      · go_wp2_with (go_at_call 55; (with_reducible refine (Kin.callK (W := w.alloc (.cells #[.slice none 0 0] 37)) (by repeat (first | with_reducible (first | exact blA | exact blB | refine blC _ ?_ | refine blD ?_ ?_ _ | refine blE ?_ | refine blF _ ?_ | refine blG ?_ _ | refine blH ?_ | refine blI ?_ ?_ _) | (simp only [World.size_alloc]; omega) | (simp <;> omega))) (inRange18_is c _ hc)).mono ?_); rintro e w' ⟨z2, rfl, hz2, rfl⟩; skip)
        go_roundw
        case rel => exact ⟨k + 1, by omega, by go_num, Lib.hid (take_ok HK.out Hc.out hc), z2, rfl⟩
        case measure => simp [intOf]; omega
    · have HALL := Lib.hid (all_take HK.out (by omega))
      clear HK
      go_wp2_with (go_at_call 56; (with_reducible refine (Kin.callK (W := w.alloc (.cells #[.slice none 0 0] 37)) (by repeat (first | with_reducible (first | exact blA | exact blB | refine blC _ ?_ | refine blD ?_ ?_ _ | refine blE ?_ | refine blF _ ?_ | refine blG ?_ _ | refine blH ?_ | refine blI ?_ ?_ _) | (simp only [World.size_alloc]; omega) | (simp <;> omega))) (sorted18_any _ l _ (HV.out.below (by repeat (first | with_reducible (first | exact blA | exact blB | refine blC _ ?_ | refine blD ?_ ?_ _ | refine blE ?_ | refine blF _ ?_ | refine blG ?_ _ | refine blH ?_ | refine blI ?_ ?_ _) | (simp only [World.size_alloc]; omega) | (simp <;> omega)))) (fun c hc => sm_ok (List.all_eq_true.1 HALL.out c hc)) hlen)).mono ?_); rintro e w' ⟨z2, ⟨sv, L, rfl, hL, hP, hS⟩, hz2, rfl⟩; skip)
      have HP := Lib.hid hP
      have HS := Lib.hid hS
      have hLb : L.length ≤ 1099511627776 := by rw [hP.length_eq]; exact hlen
      have HOK := Lib.hid (show ∀ c ∈ L, okCell c = true from fun c hc => List.all_eq_true.1 HALL.out c (hP.mem_iff.1 hc))
      have hB2 := Lib.hid (hB.out.below hz2)
      clear hP hS
      obtain ⟨C, capC, rfl, hcapC, hopC⟩ := hL.open_
      have HC := Lib.hid hopC
      have HLC := Lib.hid hL
      clear hopC hL
      have hB2 := Lib.hid (hB.out.below hz2)
      have ql2 := hB2.out.lt
      go_loopw [6, 7] (fun i nn wr => ∃ k : Nat, k ≤ L.length ∧ i = .int .i64 k ∧ ∃ S, Hid (OwnRows (z2.1.heap.size + 1) wr S (ofTo L k)) ∧ Hid (Blk wr z2.1.heap.size 37 #[S]) ∧ Hid (Below z2.1.heap.size z2.1 wr)) (fun i _ _ => L.length - (intOf i).toNat)
      case atStart => exact ⟨0, Nat.zero_le _, rfl, _, Lib.hid OwnN.nil, Lib.hid (Blk.new _ _ _), Lib.hid (by repeat (first | with_reducible (first | exact blA | exact blB | refine blC _ ?_ | refine blD ?_ ?_ _ | refine blE ?_ | refine blF _ ?_ | refine blG ?_ _ | refine blH ?_ | refine blI ?_ ?_ _) | (simp only [World.size_alloc]; omega) | (simp <;> omega)))⟩
      case round =>
        obtain ⟨k, hk, rfl, S, HO, HP6, hyB⟩ := hrel
        obtain ⟨y6, rfl⟩ : ∃ y6 : Kin z2.1, y6.1 = wr := ⟨⟨wr, hyB.out⟩, rfl⟩
        clear hyB
        have hrl := vreg_len (ofTo_inv HOK.out HS.out k hk).1
        by_cases hlt : k < L.length
        · obtain ⟨c, hc⟩ : ∃ el_, (L)[k]? = some el_ := ⟨_, List.getElem?_eq_getElem (by first | exact hlt | omega)⟩
          obtain ⟨bC, offC, rfl, hbC, hcC⟩ := HC.out (k) _ hc
          have c_0 : z2.1.cell? ⟨bC, offC + k * 2, none⟩ = some (.int .i64 c.1) := by exact hcC (k) _ hc 0 _ rfl
          have c_1 : z2.1.cell? ⟨bC, offC + k * 2 + 1, none⟩ = some (.int .i64 c.2) := by exact hcC (k) _ hc 1 _ rfl
          have hbC2 : bC < z2.1.heap.size + 1 := by omega
          have HCc := Lib.hid hcC
          have Hc := Lib.hid hc
          clear hc hcC
          have HADD := Lib.hid (ofTo_succ Hc.out)
          have d_0 : y6.1.cell? ⟨bC, offC + k * 2, none⟩ = some (.int .i64 c.1) := (y6.cell hbC).trans c_0
          have d_1 : y6.1.cell? ⟨bC, offC + k * 2 + 1, none⟩ = some (.int .i64 c.2) := (y6.cell hbC).trans c_1
          have hbC6 := y6.lt0 hbC
          clear c_1
          have hcr := (okCell_iff.1 (HOK.out c (List.mem_of_getElem? Hc.out))).1
          obtain ⟨R, hR⟩ : ∃ R, R = ofTo L k := ⟨_, rfl⟩
          rw [← hR] at HO hrl HADD
          clear hR
          obtain ⟨AS, cS, rfl⟩ := HO.out.len
          obtain ⟨N, hN⟩ : ∃ N, N = R.length := ⟨_, rfl⟩
          have p0 : y6.1.cell? ⟨z2.1.heap.size, 0, none⟩ = some (.slice AS R.length cS) := HP6.out.cell 0
          have pf := HP6.out.frozen 0
          have pl := HP6.out.lt
          rw [← hN] at HO HP6 p0
          have hNb : N ≤ 8192 := by rw [hN]; exact hrl.1
          rcases List.eq_nil_or_concat R with hRn | ⟨E, r, hRE⟩
          · have hN0 : N = 0 := by rw [hN, hRn]; rfl
            subst hRn
            clear hN
            subst hN0
            obtain ⟨hs, hown, hnest, hap⟩ := HO.out
            have HOW := Lib.hid hown
            have HNE := Lib.hid hnest
            have HAP := Lib.hid hap
            have hhl : hs.length ≤ 8192 := by have := hnest.1; have := hrl.1; omega
            clear hown hnest hap
            go_wp2
            ((refine wp_region_kinK (W := (Kin.wd y6)) (by kernel_rfl) (by kernel_rfl) (by repeat (first | with_reducible (first | exact blA | exact blB | refine blC _ ?_ | refine blD ?_ ?_ _ | refine blE ?_ | refine blF _ ?_ | refine blG ?_ _ | refine blH ?_ | refine blI ?_ ?_ _) | (simp only [World.size_alloc]; omega) | (simp <;> omega))) ?_); (repeat' (first | go_big_quiet_step (fail) | ((refine wpQuiet_guard rfl rfl rfl rfl (fun hg => ?_) (fun hg => ?_)) <;> (fail_if_success (first | guard_hyp hg : true = true | guard_hyp hg : false = false)) <;> (try simp only [decide_eq_true_eq, decide_eq_false_iff_not] at hg) <;> simp only [Act.put, List.setIfInBounds_toArray, List.set_cons_zero, List.set_cons_succ]))); all_goals ((with_reducible refine wpQuiet_nil ?_); intro zq hz))
            go_wp2
            have hzq : Below z2.1.heap.size z2.1 zq.1 := y6.2.trans (zq.2.mono y6.2.size)
            have hA : Below y6.1.heap.size y6.1 (zq.1.alloc (.cells #[.int .i64 c.2, .slice none 0 0] 58)).drew := Below.drew (Below.alloc zq.2 zq.2.size _)
            have HBA := Lib.hid hA
            have HWA := Lib.hid (own_below HOW.out hA)
            have HSR := Lib.hid (show Rd 2 encRow (zq.1.alloc (.cells #[.int .i64 c.2, .slice none 0 0] 58)).drew (.slice (some ⟨zq.1.heap.size, 0, none⟩) 1 1) [hd c.2 none 0 0] from (rd_one zq.1 encRow_len 58 (hd c.2 none 0 0) _ rfl rfl).below (Below.drew (Below.refl _ _)))
            clear hA
            go_region_law (first | (skip; (refine step_app _ rfl _ _ 35 rfl encRow_len (by decide) oneRow (z2.1.heap.size + 1) 58 (.agg #[.int .i64 0, .slice none 0 0]) 32 infoRow rfl Try.underlying35 (.slice AS (0) cS) _ _ _ (by first | rfl | simp [Act.eval, Act.put]) (HWA.out) _ _ _ (by first | rfl | simp [Act.eval, Act.put]) (HSR.out) ?c1 (by decide) ?c2 ?_; (case c1 => (first | (simp only [List.length_append, List.length_cons, List.length_nil]; omega) | omega | (simp; omega))); (case c2 => exact (by repeat (first | with_reducible exact Nat.le_refl _ | assumption | with_reducible refine le_alloc ?_ _ | with_reducible refine le_drew ?_ | with_reducible refine Kin.le _ ?_ | assumption | omega | (simp only [World.size_alloc]; omega)))); intro v' w1 hown' hg hbel hat'; ((obtain ⟨AV, nV, cV, rfl⟩ := own_slice hown'); have hPn : Blk (zq.1.alloc (.cells #[.int .i64 c.2, .slice none 0 0] 58)).drew z2.1.heap.size 37 #[.slice AS (0) cS] := HP6.out.below HBA.out; have HP1 := Lib.hid (hPn.grown hg (Ne.symm (own_ne HWA.out hPn (by decide)))); have p1 : w1.cell? ⟨z2.1.heap.size, 0, none⟩ = some (.slice AS (0) cS) := HP1.out.cell 0; have pf1 : w1.frozen? ⟨z2.1.heap.size, 0, none⟩ = false := HP1.out.frozen 0; have pl1 := HP1.out.lt; have HPU := Lib.hid (OwnRows.push (l := []) HWA.out (HNE.out.below HBA.out) HAP.out hown' hg hat' Rd.nil (.inl rfl) hPn); have HBE := Lib.hid hbel; clear hown' hg hbel hat'))))
            all_goals
              obtain ⟨y9, hX⟩ : ∃ y9 : Kin z2.1, y9.1 = w1.setCell ⟨z2.1.heap.size, 0, none⟩ (.slice AV nV cV) := ⟨⟨_, Below.setCell ((y6.2.trans (HBA.out.mono y6.2.size)).trans (HBE.out.mono (Nat.le_succ _))) (Nat.le_refl _) _⟩, rfl⟩
              rw [← hX] at HPU ⊢
              clear hX
              have HO9 := Lib.hid HPU.out.1
              have HP9 := Lib.hid HPU.out.2
              obtain ⟨g, cap, T, cT, eS, hgb9, hg9l, k0, k1, hRT, hAPT, kf⟩ := HO9.out.last
              injection eS with eS1 eS2 eS3
              subst eS1 eS2 eS3
              have HRT := Lib.hid hRT
              have HAPT := Lib.hid hAPT
              clear hRT hAPT HPU
              have k1 : y9.1.cell? ⟨g, 1, none⟩ = some (.slice T 0 cT) := k1
              have kf : y9.1.frozen? ⟨g, 1, none⟩ = false := kf
              have HRT : Hid (Rd 2 encRun y9.1 (.slice T 0 cT) []) := HRT
              have hl0b : ([] : List Run).length ≤ 1048576 := by simp
              have hne9 : z2.1.heap.size ≠ g := by omega
              have hgle9 : z2.1.heap.size ≤ g := by omega
              have hg9 : g < y9.1.heap.size + 1 := Nat.lt_succ_of_lt hg9l
              have p9 : y9.1.cell? ⟨z2.1.heap.size, 0, none⟩ = some (.slice (some ⟨g, 0, none⟩) (1) cV) := HP9.out.cell 0
              have pl9 := HP9.out.lt
              have e_0 : y9.1.cell? ⟨bC, offC + k * 2, none⟩ = some (.int .i64 c.1) := by have := y9.2.cell (p := ⟨bC, offC + k * 2, none⟩) hbC; exact this.trans c_0
              have hbC9 : bC < y9.1.heap.size := y9.lt0 hbC
              go_wp2
              refine wp_region_floatH 4 16 (fun w' => w'.cell? ⟨z2.1.heap.size, 0, none⟩ = some (.slice (some ⟨g, 0, none⟩) (1) cV)) (by kernel_rfl) (by kernel_rfl) (fun z => (z.cell pl9).trans p9) ?_
              simp only [List.take_succ_cons, List.take_zero, List.drop_succ_cons, List.drop_zero]
              refine @takeS_cons _ _ _ _ _ _ _ ?_ rfl (fun w' hSw => ?_) ?_
              rotate_left
              · ((try dsimp only at hSw); go_simp; try with_reducible rfl)
              try simp only [Act.put, List.setIfInBounds_toArray, List.set_cons_zero, List.set_cons_succ]
              refine @takeS_cons _ _ _ _ _ _ _ ?_ rfl (fun w' hSw => ?_) ?_
              rotate_left
              · ((try dsimp only at hSw); go_simp; try with_reducible rfl)
              try simp only [Act.put, List.setIfInBounds_toArray, List.set_cons_zero, List.set_cons_succ]
              refine @takeS_cons _ _ _ _ _ _ _ ?_ rfl (fun w' hSw => ?_) ?_
              rotate_left
              · ((try dsimp only at hSw); go_simp; try with_reducible rfl)
              try simp only [Act.put, List.setIfInBounds_toArray, List.set_cons_zero, List.set_cons_succ]
              refine takeS_cons (v := .int .i64 ((0 : Nat) : Int)) rfl (fun w' hSw => ?_) ?_
              · ((try dsimp only at hSw); go_simp; all_goals (first | assumption | simp [*]; done | exact (IntWalk.i64_in _ (by omega)).trans (by omega)))
              try simp only [Act.put, List.setIfInBounds_toArray, List.set_cons_zero, List.set_cons_succ]
              refine takeS_nil ?_
              ((repeat' (first | go_big_quiet_step (fail) | ((refine wpQuiet_guard rfl rfl rfl rfl (fun hg => ?_) (fun hg => ?_)) <;> (fail_if_success (first | guard_hyp hg : true = true | guard_hyp hg : false = false)) <;> (try simp only [decide_eq_true_eq, decide_eq_false_iff_not] at hg) <;> simp only [Act.put, List.setIfInBounds_toArray, List.set_cons_zero, List.set_cons_succ]))); all_goals ((with_reducible refine wpQuiet_nil ?_); intro zq))
              intro K16 hK16
              go_simp
              (go_at_call 57; (with_reducible refine (Kin.callK (W := (Kin.wd y9)) (by repeat (first | with_reducible (first | exact blA | exact blB | refine blC _ ?_ | refine blD ?_ ?_ _ | refine blE ?_ | refine blF _ ?_ | refine blG ?_ _ | refine blH ?_ | refine blI ?_ ?_ _) | (simp only [World.size_alloc]; omega) | (simp <;> omega))) (with18_any _ ([]) c.1 _ (HRT.out.below (by repeat (first | with_reducible (first | exact blA | exact blB | refine blC _ ?_ | refine blD ?_ ?_ _ | refine blE ?_ | refine blF _ ?_ | refine blG ?_ _ | refine blH ?_ | refine blI ?_ ?_ _) | (simp only [World.size_alloc]; omega) | (simp <;> omega)))) hcr hl0b)).mono ?_); rintro e w' ⟨z9, ⟨A9, c9, rfl, h9, a9⟩, hz9, rfl⟩; (have H9 := Lib.hid h9; have A9F := Lib.hid a9; have t1 : ((Kin.wd z9).setCell ⟨g, 0 * 2 + 1, none⟩ (.slice A9 (withL ([]) c.1).length c9)).cell? ⟨(Kin.wd z2).heap.size, 0, none⟩ = some (.slice (some ⟨g, 0, none⟩) (1) cV) := (World.cell?_setCell_far _ _ _ _ (fun e => hne9 e.symm)).trans ((z9.cell pl9).trans p9); have t0 : (Kin.wd z9).cell? ⟨(Kin.wd z2).heap.size, 0, none⟩ = some (.slice (some ⟨g, 0, none⟩) (1) cV) := (z9.cell pl9).trans p9; clear h9 a9))
              refine hK16 _ _ t0 ?_
              intro K17 hK17
              go_simp
              refine hK17 _ _ t0 ?_
              intro K18 hK18
              go_simp
              refine hK18 _ _ t0 ?_
              intro K19 hK19
              go_simp
              refine hK19 _ _ ?_ ?_
              · (try dsimp only); refine (World.cell?_setCell_far _ _ _ _ ?_).trans t0; exact Ne.symm hne9
              clear hK16 hK17 hK18 hK19 K16 K17 K18 K19; refine wpListS_nil ?_; (try simp only [Exit.then])
              all_goals
                go_wp2
                go_roundw
                case rel => exact ⟨k + 1, by omega, by go_num, _, Lib.hid (by rw [HADD.out, show addC [] c = [] ++ [(c.2, withL [] c.1)] from rfl]; exact OwnRows.relastG rfl rfl (HO9.out.below z9.2) H9.out (with_far (Nat.lt_of_lt_of_le hg9l zq.2.size) A9F.out (.inl rfl))), Lib.hid (Blk.far (HP9.out.below z9.2) hne9 _), Lib.hid (Below.setCell (p := ⟨g, 0 * 2 + 1, none⟩) (y9.2.trans (z9.2.mono y9.2.size)) hgle9 _)⟩
                case measure => simp [intOf]; omega
          · rw [List.concat_eq_append] at hRE
            obtain ⟨M, hM⟩ : ∃ M, M = E.length := ⟨_, rfl⟩
            have hNM : N = M + 1 := by rw [hN, hRE, hM]; simp
            have hq : ((N : Int) == 0) = false := by simp; omega
            have hw1 : IntKind.i64.wrap ((N : Int) - 1) = (N : Int) - 1 := IntWalk.i64_in _ (by omega)
            have hw2 : ((N : Int) - 1).toNat = M := by omega
            have hw3 : 0 ≤ (N : Int) - 1 := by omega
            have hw4 : M < N := by omega
            have hw8 : (N : Int) - 1 < (N : Int) := by omega
            have hw9 : (1 : Int) ≤ (N : Int) := by omega
            have HRE := Lib.hid hRE
            have HNL := Lib.hid hN
            have HME := Lib.hid hM
            have HNM := Lib.hid (show N = E.length + 1 by omega)
            have hrlr : r.2.length ≤ 8192 := hrl.2 r (by rw [hRE]; simp)
            obtain ⟨g, cap0, T, cT, eS, hgb9, hg9l, k0, k1, hRT, hAPT, kf⟩ := (show OwnRows (z2.1.heap.size + 1) y6.1 _ (E ++ [r]) from hRE ▸ HO.out).lastG hM
            injection eS with eS1 eS2 eS3
            subst eS1
            subst eS3
            clear eS2 hNM hN hM hRE
            have HRT := Lib.hid hRT
            have HAPT := Lib.hid hAPT
            clear hRT hAPT
            by_cases hrc : r.1 = c.2
            · have HRC := Lib.hid hrc
              have hqq : (r.1 != c.2) = false := by simpa using hrc
              clear hrc
              go_wp2
              ((refine wp_region_kinK (W := (Kin.wd y6)) (by kernel_rfl) (by kernel_rfl) (by repeat (first | with_reducible (first | exact blA | exact blB | refine blC _ ?_ | refine blD ?_ ?_ _ | refine blE ?_ | refine blF _ ?_ | refine blG ?_ _ | refine blH ?_ | refine blI ?_ ?_ _) | (simp only [World.size_alloc]; omega) | (simp <;> omega))) ?_); (repeat' (first | go_big_quiet_step (fail) | ((refine wpQuiet_guard rfl rfl rfl rfl (fun hg => ?_) (fun hg => ?_)) <;> (fail_if_success (first | guard_hyp hg : true = true | guard_hyp hg : false = false)) <;> (try simp only [decide_eq_true_eq, decide_eq_false_iff_not] at hg) <;> simp only [Act.put, List.setIfInBounds_toArray, List.set_cons_zero, List.set_cons_succ]))); all_goals ((with_reducible refine wpQuiet_nil ?_); intro zq hz))
              all_goals
                obtain ⟨y9, hX⟩ : ∃ y9 : Kin z2.1, y9.1 = zq.1 := ⟨⟨zq.1, y6.2.trans (zq.2.mono y6.2.size)⟩, rfl⟩
                have hB69 : Below y6.1.heap.size y6.1 y9.1 := hX ▸ zq.2
                rw [← hX]
                clear hX
                have HO9 := Lib.hid (show OwnRows (z2.1.heap.size + 1) y9.1 _ (E ++ [(c.2, r.2)]) from by
                  have h := HO.out.below hB69
                  rw [HRE.out, show r = (c.2, r.2) by rw [← HRC.out]] at h
                  exact h)
                have HP9 := Lib.hid (HP6.out.below hB69)
                have k1 : y9.1.cell? ⟨g, M * 2 + 1, none⟩ = some (.slice T r.2.length cT) := (hB69.cell (p := ⟨g, M * 2 + 1, none⟩) hg9l).trans k1
                have kf : y9.1.frozen? ⟨g, M * 2 + 1, none⟩ = false := (hB69.frozen (p := ⟨g, M * 2 + 1, none⟩) hg9l).trans kf
                have HRT := Lib.hid (HRT.out.below hB69)
                have hg9l : g < y9.1.heap.size := Nat.lt_of_lt_of_le hg9l hB69.size
                have HAE := Lib.hid (show addC R c = E ++ [(c.2, withL r.2 c.1)] by rw [HRE.out, addC_last, if_pos HRC.out, HRC.out])
                have hl0b : r.2.length ≤ 1048576 := by omega
                have hne9 : z2.1.heap.size ≠ g := by omega
                have hgle9 : z2.1.heap.size ≤ g := by omega
                have hg9 : g < y9.1.heap.size + 1 := Nat.lt_succ_of_lt hg9l
                have p9 : y9.1.cell? ⟨z2.1.heap.size, 0, none⟩ = some (.slice (some ⟨g, 0, none⟩) (N) cS) := HP9.out.cell 0
                have pl9 := HP9.out.lt
                have e_0 : y9.1.cell? ⟨bC, offC + k * 2, none⟩ = some (.int .i64 c.1) := by have := y9.2.cell (p := ⟨bC, offC + k * 2, none⟩) hbC; exact this.trans c_0
                have hbC9 : bC < y9.1.heap.size := y9.lt0 hbC
                go_wp2
                refine wp_region_floatH 4 16 (fun w' => w'.cell? ⟨z2.1.heap.size, 0, none⟩ = some (.slice (some ⟨g, 0, none⟩) (N) cS)) (by kernel_rfl) (by kernel_rfl) (fun z => (z.cell pl9).trans p9) ?_
                simp only [List.take_succ_cons, List.take_zero, List.drop_succ_cons, List.drop_zero]
                refine @takeS_cons _ _ _ _ _ _ _ ?_ rfl (fun w' hSw => ?_) ?_
                rotate_left
                · ((try dsimp only at hSw); go_simp; try with_reducible rfl)
                try simp only [Act.put, List.setIfInBounds_toArray, List.set_cons_zero, List.set_cons_succ]
                refine @takeS_cons _ _ _ _ _ _ _ ?_ rfl (fun w' hSw => ?_) ?_
                rotate_left
                · ((try dsimp only at hSw); go_simp; try with_reducible rfl)
                try simp only [Act.put, List.setIfInBounds_toArray, List.set_cons_zero, List.set_cons_succ]
                refine @takeS_cons _ _ _ _ _ _ _ ?_ rfl (fun w' hSw => ?_) ?_
                rotate_left
                · ((try dsimp only at hSw); go_simp; try with_reducible rfl)
                try simp only [Act.put, List.setIfInBounds_toArray, List.set_cons_zero, List.set_cons_succ]
                refine takeS_cons (v := .int .i64 ((N : Int) - 1)) rfl (fun w' hSw => ?_) ?_
                · ((try dsimp only at hSw); go_simp; all_goals (first | assumption | simp [*]; done | exact (IntWalk.i64_in _ (by omega)).trans (by omega)))
                try simp only [Act.put, List.setIfInBounds_toArray, List.set_cons_zero, List.set_cons_succ]
                refine takeS_nil ?_
                ((repeat' (first | go_big_quiet_step (fail) | ((refine wpQuiet_guard rfl rfl rfl rfl (fun hg => ?_) (fun hg => ?_)) <;> (fail_if_success (first | guard_hyp hg : true = true | guard_hyp hg : false = false)) <;> (try simp only [decide_eq_true_eq, decide_eq_false_iff_not] at hg) <;> simp only [Act.put, List.setIfInBounds_toArray, List.set_cons_zero, List.set_cons_succ]))); all_goals ((with_reducible refine wpQuiet_nil ?_); intro zq))
                intro K16 hK16
                go_simp
                (go_at_call 57; (with_reducible refine (Kin.callK (W := (Kin.wd y9)) (by repeat (first | with_reducible (first | exact blA | exact blB | refine blC _ ?_ | refine blD ?_ ?_ _ | refine blE ?_ | refine blF _ ?_ | refine blG ?_ _ | refine blH ?_ | refine blI ?_ ?_ _) | (simp only [World.size_alloc]; omega) | (simp <;> omega))) (with18_any _ (r.2) c.1 _ (HRT.out.below (by repeat (first | with_reducible (first | exact blA | exact blB | refine blC _ ?_ | refine blD ?_ ?_ _ | refine blE ?_ | refine blF _ ?_ | refine blG ?_ _ | refine blH ?_ | refine blI ?_ ?_ _) | (simp only [World.size_alloc]; omega) | (simp <;> omega)))) hcr hl0b)).mono ?_); rintro e w' ⟨z9, ⟨A9, c9, rfl, h9, a9⟩, hz9, rfl⟩; (have H9 := Lib.hid h9; have A9F := Lib.hid a9; have t1 : ((Kin.wd z9).setCell ⟨g, M * 2 + 1, none⟩ (.slice A9 (withL (r.2) c.1).length c9)).cell? ⟨(Kin.wd z2).heap.size, 0, none⟩ = some (.slice (some ⟨g, 0, none⟩) (N) cS) := (World.cell?_setCell_far _ _ _ _ (fun e => hne9 e.symm)).trans ((z9.cell pl9).trans p9); have t0 : (Kin.wd z9).cell? ⟨(Kin.wd z2).heap.size, 0, none⟩ = some (.slice (some ⟨g, 0, none⟩) (N) cS) := (z9.cell pl9).trans p9; clear h9 a9))
                refine hK16 _ _ t0 ?_
                intro K17 hK17
                go_simp
                refine hK17 _ _ t0 ?_
                intro K18 hK18
                go_simp
                refine hK18 _ _ t0 ?_
                intro K19 hK19
                go_simp
                refine hK19 _ _ ?_ ?_
                · (try dsimp only); refine (World.cell?_setCell_far _ _ _ _ ?_).trans t0; exact Ne.symm hne9
                clear hK16 hK17 hK18 hK19 K16 K17 K18 K19; refine wpListS_nil ?_; (try simp only [Exit.then])
                all_goals
                  go_wp2
                  go_roundw
                  case rel => exact ⟨k + 1, by omega, by go_num, _, Lib.hid (by rw [HADD.out, HAE.out]; exact OwnRows.relastG HME.out HNM.out (HO9.out.below z9.2) H9.out (with_far (Nat.lt_of_lt_of_le hg9l zq.2.size) A9F.out HAPT.out)), Lib.hid (Blk.far (HP9.out.below z9.2) hne9 _), Lib.hid (Below.setCell (p := ⟨g, M * 2 + 1, none⟩) (y9.2.trans (z9.2.mono y9.2.size)) hgle9 _)⟩
                  case measure => simp [intOf]; omega
            · have hqq : (r.1 != c.2) = true := by simpa using hrc
              have HRC := Lib.hid hrc
              clear hrc
              have hwN : IntKind.i64.wrap ((N : Int) + 1) = (N : Int) + 1 := IntWalk.i64_in _ (by omega)
              have hwN2 : IntKind.i64.wrap ((N : Int) + 1 - 1) = (N : Int) := by rw [show (N : Int) + 1 - 1 = (N : Int) by omega]; exact IntWalk.i64_in _ (by omega)
              have hwN3 : IntKind.i64.wrap (N : Int) = (N : Int) := IntWalk.i64_in _ (by omega)
              have hwN4 : (N : Int) < (N : Int) + 1 := by omega
              have hwN5 : N < N + 1 := Nat.lt_succ_self _
              obtain ⟨hs, hown, hnest, hap⟩ := HO.out
              have HOW := Lib.hid hown
              have HNE := Lib.hid hnest
              have HAP := Lib.hid hap
              have hhl : hs.length ≤ 8192 := by have := hnest.1; have := hrl.1; omega
              clear hown hnest hap
              go_wp2
              ((refine wp_region_kinK (W := (Kin.wd y6)) (by kernel_rfl) (by kernel_rfl) (by repeat (first | with_reducible (first | exact blA | exact blB | refine blC _ ?_ | refine blD ?_ ?_ _ | refine blE ?_ | refine blF _ ?_ | refine blG ?_ _ | refine blH ?_ | refine blI ?_ ?_ _) | (simp only [World.size_alloc]; omega) | (simp <;> omega))) ?_); (repeat' (first | go_big_quiet_step (fail) | ((refine wpQuiet_guard rfl rfl rfl rfl (fun hg => ?_) (fun hg => ?_)) <;> (fail_if_success (first | guard_hyp hg : true = true | guard_hyp hg : false = false)) <;> (try simp only [decide_eq_true_eq, decide_eq_false_iff_not] at hg) <;> simp only [Act.put, List.setIfInBounds_toArray, List.set_cons_zero, List.set_cons_succ]))); all_goals ((with_reducible refine wpQuiet_nil ?_); intro zq hz))
              all_goals
                go_wp2
                have hzq : Below z2.1.heap.size z2.1 zq.1 := y6.2.trans (zq.2.mono y6.2.size)
                have hA : Below y6.1.heap.size y6.1 (zq.1.alloc (.cells #[.int .i64 c.2, .slice none 0 0] 58)).drew := Below.drew (Below.alloc zq.2 zq.2.size _)
                have HBA := Lib.hid hA
                have HWA := Lib.hid (own_below HOW.out hA)
                have HSR := Lib.hid (show Rd 2 encRow (zq.1.alloc (.cells #[.int .i64 c.2, .slice none 0 0] 58)).drew (.slice (some ⟨zq.1.heap.size, 0, none⟩) 1 1) [hd c.2 none 0 0] from (rd_one zq.1 encRow_len 58 (hd c.2 none 0 0) _ rfl rfl).below (Below.drew (Below.refl _ _)))
                clear hA
                go_region_law (first | (skip; (refine step_app _ rfl _ _ 35 rfl encRow_len (by decide) oneRow (z2.1.heap.size + 1) 58 (.agg #[.int .i64 0, .slice none 0 0]) 32 infoRow rfl Try.underlying35 (.slice (some ⟨g, 0, none⟩) (N) cS) _ _ _ (by first | rfl | simp [Act.eval, Act.put]) (HWA.out) _ _ _ (by first | rfl | simp [Act.eval, Act.put]) (HSR.out) ?c1 (by decide) ?c2 ?_; (case c1 => (first | (simp only [List.length_append, List.length_cons, List.length_nil]; omega) | omega | (simp; omega))); (case c2 => exact (by repeat (first | with_reducible exact Nat.le_refl _ | assumption | with_reducible refine le_alloc ?_ _ | with_reducible refine le_drew ?_ | with_reducible refine Kin.le _ ?_ | assumption | omega | (simp only [World.size_alloc]; omega)))); intro v' w1 hown' hg hbel hat'; ((obtain ⟨AV, nV, cV, rfl⟩ := own_slice hown'); have hPn : Blk (zq.1.alloc (.cells #[.int .i64 c.2, .slice none 0 0] 58)).drew z2.1.heap.size 37 #[.slice (some ⟨g, 0, none⟩) (N) cS] := HP6.out.below HBA.out; have HP1 := Lib.hid (hPn.grown hg (Ne.symm (own_ne HWA.out hPn (by decide)))); have p1 : w1.cell? ⟨z2.1.heap.size, 0, none⟩ = some (.slice (some ⟨g, 0, none⟩) (N) cS) := HP1.out.cell 0; have pf1 : w1.frozen? ⟨z2.1.heap.size, 0, none⟩ = false := HP1.out.frozen 0; have pl1 := HP1.out.lt; have HPU := Lib.hid (OwnRows.push (l := []) HWA.out (HNE.out.below HBA.out) HAP.out hown' hg hat' Rd.nil (.inl rfl) hPn); have HBE := Lib.hid hbel; clear hown' hg hbel hat'))))
              all_goals
                clear k1 kf HRT HAPT hg9l hgb9
                obtain ⟨y9, hX⟩ : ∃ y9 : Kin z2.1, y9.1 = w1.setCell ⟨z2.1.heap.size, 0, none⟩ (.slice AV nV cV) := ⟨⟨_, Below.setCell ((y6.2.trans (HBA.out.mono y6.2.size)).trans (HBE.out.mono (Nat.le_succ _))) (Nat.le_refl _) _⟩, rfl⟩
                rw [← hX] at HPU ⊢
                clear hX
                have HO9 := Lib.hid HPU.out.1
                have HP9 := Lib.hid HPU.out.2
                obtain ⟨g2, cap, T, cT, eS, hgb9, hg9l, k0, k1, hRT, hAPT, kf⟩ := HO9.out.lastG HNL.out
                injection eS with eS1 eS2 eS3
                subst eS1 eS2 eS3
                have HRT := Lib.hid hRT
                have HAPT := Lib.hid hAPT
                clear hRT hAPT HPU
                have k1 : y9.1.cell? ⟨g2, N * 2 + 1, none⟩ = some (.slice T 0 cT) := k1
                have HRT : Hid (Rd 2 encRun y9.1 (.slice T 0 cT) []) := HRT
                have hl0b : ([] : List Run).length ≤ 1048576 := by simp
                have HAE := Lib.hid (show addC R c = R ++ [(c.2, withL [] c.1)] by rw [HRE.out, addC_last, if_neg HRC.out]; rfl)
                have hne9 : z2.1.heap.size ≠ g2 := by omega
                have hgle9 : z2.1.heap.size ≤ g2 := by omega
                have hg9 : g2 < y9.1.heap.size + 1 := Nat.lt_succ_of_lt hg9l
                have p9 : y9.1.cell? ⟨z2.1.heap.size, 0, none⟩ = some (.slice (some ⟨g2, 0, none⟩) (N + 1) cV) := HP9.out.cell 0
                have pl9 := HP9.out.lt
                have e_0 : y9.1.cell? ⟨bC, offC + k * 2, none⟩ = some (.int .i64 c.1) := by have := y9.2.cell (p := ⟨bC, offC + k * 2, none⟩) hbC; exact this.trans c_0
                have hbC9 : bC < y9.1.heap.size := y9.lt0 hbC
                go_wp2
                refine wp_region_floatH 4 16 (fun w' => w'.cell? ⟨z2.1.heap.size, 0, none⟩ = some (.slice (some ⟨g2, 0, none⟩) (N + 1) cV)) (by kernel_rfl) (by kernel_rfl) (fun z => (z.cell pl9).trans p9) ?_
                simp only [List.take_succ_cons, List.take_zero, List.drop_succ_cons, List.drop_zero]
                refine @takeS_cons _ _ _ _ _ _ _ ?_ rfl (fun w' hSw => ?_) ?_
                rotate_left
                · ((try dsimp only at hSw); go_simp; try with_reducible rfl)
                try simp only [Act.put, List.setIfInBounds_toArray, List.set_cons_zero, List.set_cons_succ]
                refine @takeS_cons _ _ _ _ _ _ _ ?_ rfl (fun w' hSw => ?_) ?_
                rotate_left
                · ((try dsimp only at hSw); go_simp; try with_reducible rfl)
                try simp only [Act.put, List.setIfInBounds_toArray, List.set_cons_zero, List.set_cons_succ]
                refine @takeS_cons _ _ _ _ _ _ _ ?_ rfl (fun w' hSw => ?_) ?_
                rotate_left
                · ((try dsimp only at hSw); go_simp; try with_reducible rfl)
                try simp only [Act.put, List.setIfInBounds_toArray, List.set_cons_zero, List.set_cons_succ]
                refine takeS_cons (v := .int .i64 ((N : Nat) : Int)) rfl (fun w' hSw => ?_) ?_
                · ((try dsimp only at hSw); go_simp; all_goals (first | assumption | simp [*]; done | exact (IntWalk.i64_in _ (by omega)).trans (by omega)))
                try simp only [Act.put, List.setIfInBounds_toArray, List.set_cons_zero, List.set_cons_succ]
                refine takeS_nil ?_
                ((repeat' (first | go_big_quiet_step (fail) | ((refine wpQuiet_guard rfl rfl rfl rfl (fun hg => ?_) (fun hg => ?_)) <;> (fail_if_success (first | guard_hyp hg : true = true | guard_hyp hg : false = false)) <;> (try simp only [decide_eq_true_eq, decide_eq_false_iff_not] at hg) <;> simp only [Act.put, List.setIfInBounds_toArray, List.set_cons_zero, List.set_cons_succ]))); all_goals ((with_reducible refine wpQuiet_nil ?_); intro zq))
                intro K16 hK16
                go_simp
                (go_at_call 57; (with_reducible refine (Kin.callK (W := (Kin.wd y9)) (by repeat (first | with_reducible (first | exact blA | exact blB | refine blC _ ?_ | refine blD ?_ ?_ _ | refine blE ?_ | refine blF _ ?_ | refine blG ?_ _ | refine blH ?_ | refine blI ?_ ?_ _) | (simp only [World.size_alloc]; omega) | (simp <;> omega))) (with18_any _ ([]) c.1 _ (HRT.out.below (by repeat (first | with_reducible (first | exact blA | exact blB | refine blC _ ?_ | refine blD ?_ ?_ _ | refine blE ?_ | refine blF _ ?_ | refine blG ?_ _ | refine blH ?_ | refine blI ?_ ?_ _) | (simp only [World.size_alloc]; omega) | (simp <;> omega)))) hcr hl0b)).mono ?_); rintro e w' ⟨z9, ⟨A9, c9, rfl, h9, a9⟩, hz9, rfl⟩; (have H9 := Lib.hid h9; have A9F := Lib.hid a9; have t1 : ((Kin.wd z9).setCell ⟨g2, N * 2 + 1, none⟩ (.slice A9 (withL ([]) c.1).length c9)).cell? ⟨(Kin.wd z2).heap.size, 0, none⟩ = some (.slice (some ⟨g2, 0, none⟩) (N + 1) cV) := (World.cell?_setCell_far _ _ _ _ (fun e => hne9 e.symm)).trans ((z9.cell pl9).trans p9); have t0 : (Kin.wd z9).cell? ⟨(Kin.wd z2).heap.size, 0, none⟩ = some (.slice (some ⟨g2, 0, none⟩) (N + 1) cV) := (z9.cell pl9).trans p9; clear h9 a9))
                refine hK16 _ _ t0 ?_
                intro K17 hK17
                go_simp
                refine hK17 _ _ t0 ?_
                intro K18 hK18
                go_simp
                refine hK18 _ _ t0 ?_
                intro K19 hK19
                go_simp
                refine hK19 _ _ ?_ ?_
                · (try dsimp only); refine (World.cell?_setCell_far _ _ _ _ ?_).trans t0; exact Ne.symm hne9
                clear hK16 hK17 hK18 hK19 K16 K17 K18 K19; refine wpListS_nil ?_; (try simp only [Exit.then])
                all_goals
                  go_wp2
                  go_roundw
                  case rel => exact ⟨k + 1, by omega, by go_num, _, Lib.hid (by rw [HADD.out, HAE.out]; exact OwnRows.relastG HNL.out (by rw [HNL.out]) (HO9.out.below z9.2) H9.out (with_far (Nat.lt_of_lt_of_le hg9l zq.2.size) A9F.out (.inl rfl))), Lib.hid (Blk.far (HP9.out.below z9.2) hne9 _), Lib.hid (Below.setCell (p := ⟨g2, N * 2 + 1, none⟩) (y9.2.trans (z9.2.mono y9.2.size)) hgle9 _)⟩
                  case measure => simp [intOf]; omega
        · have ek : k = L.length := by omega
          have HPM := Lib.hid (show ofTo L k = ofR l from by rw [ek]; exact ofR_is HALL.out (fun c => HP.out.mem_iff) HS.out)
          have HE := Lib.hid (show ofE l = 0 by unfold ofE; rw [HALL.out]; rfl)
          clear ek
          obtain ⟨AS, cS, rfl⟩ := HO.out.len
          obtain ⟨N, hN⟩ : ∃ N, N = (ofTo L k).length := ⟨_, rfl⟩
          rw [← hN] at HO HP6
          clear hN
          have p0 : y6.1.cell? ⟨z2.1.heap.size, 0, none⟩ = some (.slice AS N cS) := HP6.out.cell 0
          have pl := HP6.out.lt
          have B36 := Lib.hid (hB2.out.below y6.2)
          have q0 : y6.1.cell? ⟨w.heap.size, 0, none⟩ = some (.slice none 0 0) := B36.out.cell 0
          have qf : y6.1.frozen? ⟨w.heap.size, 0, none⟩ = false := B36.out.frozen 0
          have ql := B36.out.lt
          go_wp2
          ((try simp only [Exit.inBlock, Exit.then]); refine bodyPost_ret (results_cell_t rfl _ _ (0, 0) rfl (B36.out.set_ 0 _) Try.underlying37 rfl (by kernel_rfl)) rfl ?_)
          refine ⟨⟨_, _, _, by rw [HE.out]; rfl, ?_⟩, (by repeat (first | with_reducible (first | exact blA | exact blB | refine blC _ ?_ | refine blD ?_ ?_ _ | refine blE ?_ | refine blF _ ?_ | refine blG ?_ _ | refine blH ?_ | refine blI ?_ ?_ _) | (simp only [World.size_alloc]; omega) | (simp <;> omega)))⟩
          rw [← HPM.out]
          exact (HO.out.set_ (i := 0) (u := .slice AS N cS) B36.out (by decide)).reg
theorem of18_is {E : Int} {R : List Reg.Row} (v : Value) (l : List (Int × Int)) (w : World) (h : Rd 2 encPt w v l) (hlen : l.length ≤ 1099511627776) (hE : ofE l = E) (hR : ofR l = R) :
    Calls Try.prog 39 #[v] w fun e w' => (∃ A n c, e = .returned (.tuple #[.agg #[.slice A n c], .int .i64 E]) ∧ RdReg w' (.agg #[.slice A n c]) R) ∧ Below w.heap.size w w' := by
  subst hE hR; exact of18_any v l w h hlen
end Go.Proofs.Ytomndgjnhhchdaa
