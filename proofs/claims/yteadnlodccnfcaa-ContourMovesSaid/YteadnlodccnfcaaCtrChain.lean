/- Chain of the program, walked. -/
import Derived.Test.YteadnlodccnfcaaCtrChP
import Derived.Test.YteadnlodccnfcaaCtrBal
namespace Go.Proofs.Yteadnlodccnfcaa
set_option linter.unusedSimpArgs false
set_option linter.unusedVariables false
set_option maxRecDepth 100000
open Go Go.Maps Go.RowKit Planar
attribute [local go_sem] Kin.cell Kin.frozen Kin.lt0 Kin.lt1 Kin.lt2 Kin.lt3
attribute [local go_sem] run_mkmap57
def validS (l : List Sg) : Bool := l.all fun s => vld s.1 && vld s.2
def chErr (l : List Sg) : Int := if l.length > 8192 then 2 else if validS l = false then 8 else if balB l = false then 12 else 0
def chLst (l : List Sg) : List (List Pt) := if chErr l = 0 then chainP (sortS l) else []
theorem vld_is {b : Bool} (p : Pt) (w : World) (h : vld p = b) : Calls Try.prog 34 #[.agg #[.int .i64 p.1, .int .i64 p.2]] w fun e w' => e = .returned (.bool b) ∧ Below w.heap.size w w' := by subst h; exact valid_any p w
theorem bal_is {b : Bool} (v : Value) (l : List Sg) (w : World) (h : Rd 4 encSg w v l) (hw : ∀ s ∈ l, wfS s) (hl : l.length ≤ 1000000000) (hb : balB l = b) :
    Calls Try.prog 17 #[v] w fun e w' => e = .returned (.bool b) ∧ Below w.heap.size w w' := by subst hb; exact balanced_any v l w h hw hl
theorem validS_take {l : List Sg} {k : Nat} {s : Sg} (h : l[k]? = some s) : validS (l.take (k + 1)) = (validS (l.take k) && (vld s.1 && vld s.2)) := by
  unfold validS; rw [List.take_add_one, h]; simp
theorem validS_not {l : List Sg} {k : Nat} (h : validS (l.take k) = false) : validS l = false := by
  unfold validS at *
  rw [List.all_eq_false] at *
  obtain ⟨x, hx, h⟩ := h
  exact ⟨x, List.mem_of_mem_take hx, h⟩
theorem full_take {l : List Sg} {k : Nat} {s : Sg} (h : l[k]? = some s) : (l.take (k + 1)).filter full = (l.take k).filter full ++ (if full s then [s] else []) := by
  rw [List.take_add_one, h, List.filter_append]
  by_cases hf : full s = true
  · simp [hf]
  · simp [hf]
theorem ends_snoc (R : List Sg) (s : Sg) (p : Pt) : ends (R ++ [s]) p = if p = s.1 then ends R s.1 ++ [s.2] else ends R p := by
  unfold ends
  rw [List.filter_append, List.map_append]
  by_cases h : p = s.1
  · subst h; simp
  · have : ¬ s.1 = p := fun e => h e.symm
    simp [h, this]
def StP (k : Nat) (S : List Pt) (U : Pt → List Pt) : Prop := S.Nodup ∧ (∀ p, p ∈ S ↔ U p ≠ []) ∧ S.length ≤ k
theorem stp_new {k : Nat} {S : List Pt} {R : List Sg} {s : Sg} (h : StP k S (fun p => ends R p)) (he : ends R s.1 = []) : StP (k + 1) (S ++ [s.1]) (fun p => ends (R ++ [s]) p) := by
  obtain ⟨h1, h2, h3⟩ := h
  have hn : s.1 ∉ S := fun hm => (h2 s.1).1 hm he
  refine ⟨?_, fun p => ?_, by rw [List.length_append, List.length_singleton]; omega⟩
  · rw [List.nodup_append]
    refine ⟨h1, by simp, fun a ha b hb e => ?_⟩
    simp at hb
    subst e
    exact hn (by rw [← hb]; exact ha)
  · show _ ↔ ends (R ++ [s]) p ≠ []
    rw [ends_snoc]
    by_cases e : p = s.1
    · subst e; simp
    · rw [if_neg e, List.mem_append, List.mem_singleton]
      constructor
      · rintro (hm | hm)
        · exact (h2 p).1 hm
        · exact absurd hm e
      · intro hm; exact .inl ((h2 p).2 hm)
theorem stp_old {k : Nat} {S : List Pt} {R : List Sg} {s : Sg} (h : StP k S (fun p => ends R p)) (he : ends R s.1 ≠ []) : StP (k + 1) S (fun p => ends (R ++ [s]) p) := by
  obtain ⟨h1, h2, h3⟩ := h
  refine ⟨h1, fun p => ?_, by omega⟩
  show _ ↔ ends (R ++ [s]) p ≠ []
  rw [ends_snoc]
  by_cases e : p = s.1
  · subst e; simp [(h2 s.1).2 he]
  · rw [if_neg e]; exact h2 p
theorem srtU {S2 : List Pt} {R0 : List Sg} {k : Nat} {p : Pt} (hp : S2[k]? = some p) (hne : ends R0 p ≠ []) {ys : List Pt} (hper : ys.Perm (if p ∈ S2.take k then sortX (ends R0 p) else ends R0 p)) (hs : SrtX ys) :
    ys ≠ [] ∧ (fun q => if q = p then ys else if q ∈ S2.take k then sortX (ends R0 q) else ends R0 q) = fun q => if q ∈ S2.take (k + 1) then sortX (ends R0 q) else ends R0 q := by
  have e : ys = sortX (ends R0 p) := by
    refine srtX_uniq ?_ hs (sortX_srt _)
    split at hper
    · exact hper
    · exact hper.trans (sortX_perm _).symm
  refine ⟨fun h => hne ?_, ?_⟩
  · rw [e] at h
    have := (sortX_perm (ends R0 p)).length_eq
    rw [h] at this
    exact List.eq_nil_of_length_eq_zero this.symm
  · funext q
    rw [List.take_add_one, hp, Option.toList_some]
    by_cases e2 : q = p
    · subst e2; simp [e]
    · simp [e2]
theorem uSort {S2 : List Pt} {l R0 : List Sg} (hR : l.filter full = R0) (h : ∀ p, p ∈ S2 ↔ ends R0 p ≠ []) (p : Pt) : (if p ∈ S2.take S2.length then sortX (ends R0 p) else ends R0 p) = ends (sortS l) p := by
  rw [ends_sort, hR, List.take_length]
  by_cases e : p ∈ S2
  · rw [if_pos e]
  · rw [if_neg e]
    have : ends R0 p = [] := by
      by_cases h0 : ends R0 p = []
      · exact h0
      · exact absurd ((h p).2 h0) e
    rw [this]; simp [sortX]
set_option maxHeartbeats 8000000 in
theorem chain_any (v : Value) (l : List Sg) (w : World) (h : Rd 4 encSg w v l) (hw : ∀ s ∈ l, wfS s) :
    Calls Try.prog 14 #[v] w fun e w' => (∃ u, e = .returned (.tuple #[u, .int .i64 (chErr l)]) ∧ OwnPols w.heap.size w' u (chLst l)) ∧ Below w.heap.size w w' := by
  have HWF := Lib.hid hw
  obtain ⟨A, capA, rfl, hcapA, hopA⟩ := h.open_
  have HA := Lib.hid hopA
  have HLA := Lib.hid h
  clear hopA h
  obtain ⟨n, hL⟩ : ∃ n, l.length = n := ⟨_, rfl⟩
  have HL := Lib.hid hL
  by_cases hlim : n ≤ 8192
  · rw [hL] at hcapA ⊢
    have HRL := Lib.hid (show Rd 4 encSg w (.slice A n capA) l by have := HLA.out; rwa [hL] at this)
    clear hL hw HLA
    go_enter Try.func14, Try.ntmps14
    go_wp2_with fail
    go_loopw [20] (fun i wr => ∃ k : Nat, k ≤ n ∧ i = .int .i64 k ∧ Hid (validS (l.take k) = true) ∧ ∃ y : Kin w, y.1 = wr) (fun i _ => n - (intOf i).toNat)
    case atStart => exact ⟨0, Nat.zero_le _, rfl, Lib.hid rfl, ⟨w, Below.refl _ _⟩, rfl⟩
    case round =>
      obtain ⟨k, hk, rfl, HV, y, rfl⟩ := hrel
      by_cases hlt : k < n
      · obtain ⟨s, hs⟩ : ∃ el_, (l)[k]? = some el_ := ⟨_, List.getElem?_eq_getElem (by first | exact (by rw [HL.out]; exact hlt) | omega)⟩
        obtain ⟨bA, offA, rfl, hbA, hcA⟩ := HA.out (k) _ hs
        have s_0 : w.cell? ⟨bA, offA + k * 4, none⟩ = some (.int .i64 s.1.1) := by exact hcA (k) _ hs 0 _ rfl
        have s_1 : w.cell? ⟨bA, offA + k * 4 + 1, none⟩ = some (.int .i64 s.1.2) := by exact hcA (k) _ hs 1 _ rfl
        have s_2 : w.cell? ⟨bA, offA + k * 4 + 2, none⟩ = some (.int .i64 s.2.1) := by exact hcA (k) _ hs 2 _ rfl
        have s_3 : w.cell? ⟨bA, offA + k * 4 + 3, none⟩ = some (.int .i64 s.2.2) := by exact hcA (k) _ hs 3 _ rfl
        have hbA2 : bA < w.heap.size + 1 := by omega
        have HAc := Lib.hid hcA
        have Hs := Lib.hid hs
        clear hs hcA
        have HVT := Lib.hid (validS_take Hs.out)
        have hsz := y.2.size
        go_wp2_with fail
        obtain ⟨y5, hy5⟩ : ∃ y5 : Kin w, y5.1 = y.1.alloc (.cells #[.int .i64 s.1.1, .int .i64 s.1.2, .int .i64 s.2.1, .int .i64 s.2.2] 38) := ⟨⟨y.1.alloc _, (by repeat (first | with_reducible (first | exact blA | exact blB | refine blC _ ?_ | refine blD ?_ ?_ _ | refine blE ?_ | refine blF _ ?_ | refine blG ?_ _ | refine blH ?_ | refine blI ?_ ?_ _) | (simp only [World.size_alloc]; omega) | (simp <;> omega)))⟩, rfl⟩
        obtain ⟨g5, hg5⟩ : ∃ g, y.1.heap.size = g := ⟨_, rfl⟩
        have B5 := Blk.new y.1 38 #[.int .i64 s.1.1, .int .i64 s.1.2, .int .i64 s.2.1, .int .i64 s.2.2]
        rw [← hy5, hg5] at B5
        rw [← hy5, hg5]
        have HB5 := Lib.hid B5
        clear hy5 hg5 B5
        rcases hv1 : vld s.1 with _ | _
        · have HB1 := Lib.hid (validS_not (l := l) (k := k + 1) (by rw [HVT.out, hv1]; simp))
          (go_at_call 34; (with_reducible refine (Kin.callK (W := w) (by repeat (first | with_reducible (first | exact blA | exact blB | refine blC _ ?_ | refine blD ?_ ?_ _ | refine blE ?_ | refine blF _ ?_ | refine blG ?_ _ | refine blH ?_ | refine blI ?_ ?_ _) | (simp only [World.size_alloc]; omega) | (simp <;> omega))) (vld_is s.1 _ hv1)).mono ?_); rintro e w' ⟨z1, rfl, hz1, rfl⟩; skip)
          clear hv1
          have e1 : chErr l = 8 := by unfold chErr; rw [if_neg (by have := HL.out; omega), HB1.out]; rfl
          have e2 : chLst l = [] := by unfold chLst; rw [e1]; rfl
          have HE1 := Lib.hid e1
          have HE2 := Lib.hid e2
          clear e1 e2
          go_wp2_with fail
          go_ret2
          rw [HE1.out, HE2.out]
          exact ⟨⟨_, rfl, OwnN.nil⟩, z1.2⟩
        · (go_at_call 34; (with_reducible refine (Kin.callK (W := w) (by repeat (first | with_reducible (first | exact blA | exact blB | refine blC _ ?_ | refine blD ?_ ?_ _ | refine blE ?_ | refine blF _ ?_ | refine blG ?_ _ | refine blH ?_ | refine blI ?_ ?_ _) | (simp only [World.size_alloc]; omega) | (simp <;> omega))) (vld_is s.1 _ hv1)).mono ?_); rintro e w' ⟨z1, rfl, hz1, rfl⟩; skip)
          have B6 := HB5.out.below hz1
          have q_2 : z1.1.cell? ⟨g5, 2, none⟩ = some (.int .i64 s.2.1) := B6.cell 2
          have q_3 : z1.1.cell? ⟨g5, 3, none⟩ = some (.int .i64 s.2.2) := B6.cell 3
          have ql := B6.lt
          have HV1 := Lib.hid hv1
          clear hv1 hz1 B6
          go_wp2_with fail
          rcases hv2 : vld s.2 with _ | _
          · have HB1 := Lib.hid (validS_not (l := l) (k := k + 1) (by rw [HVT.out, hv2]; simp))
            (go_at_call 34; (with_reducible refine (Kin.callK (W := w) (by repeat (first | with_reducible (first | exact blA | exact blB | refine blC _ ?_ | refine blD ?_ ?_ _ | refine blE ?_ | refine blF _ ?_ | refine blG ?_ _ | refine blH ?_ | refine blI ?_ ?_ _) | (simp only [World.size_alloc]; omega) | (simp <;> omega))) (vld_is s.2 _ hv2)).mono ?_); rintro e w' ⟨z2, rfl, hz2, rfl⟩; skip)
            clear hv2
            have e1 : chErr l = 8 := by unfold chErr; rw [if_neg (by have := HL.out; omega), HB1.out]; rfl
            have e2 : chLst l = [] := by unfold chLst; rw [e1]; rfl
            have HE1 := Lib.hid e1
            have HE2 := Lib.hid e2
            clear e1 e2
            go_wp2_with fail
            go_ret2
            rw [HE1.out, HE2.out]
            exact ⟨⟨_, rfl, OwnN.nil⟩, z2.2⟩
          · have HV2 := Lib.hid (show validS (l.take (k + 1)) = true by rw [HVT.out, HV.out, HV1.out, hv2]; rfl)
            (go_at_call 34; (with_reducible refine (Kin.callK (W := w) (by repeat (first | with_reducible (first | exact blA | exact blB | refine blC _ ?_ | refine blD ?_ ?_ _ | refine blE ?_ | refine blF _ ?_ | refine blG ?_ _ | refine blH ?_ | refine blI ?_ ?_ _) | (simp only [World.size_alloc]; omega) | (simp <;> omega))) (vld_is s.2 _ hv2)).mono ?_); rintro e w' ⟨z2, rfl, hz2, rfl⟩; skip)
            clear hv2
            go_wp2_with fail
            go_roundw
            case rel => exact ⟨k + 1, by omega, by go_num, HV2, z2, rfl⟩
            case measure => simp [intOf]; omega
      · have hkn : n = k := by omega
        subst hkn
        have HVA := Lib.hid (show validS l = true by have := HV.out; rwa [List.take_of_length_le (by rw [HL.out]; exact Nat.le_refl _)] at this)
        go_wp2_with fail
        rcases hbal : balB l with _ | _
        · (go_at_call 17; (with_reducible refine (Kin.callK (W := w) (by repeat (first | with_reducible (first | exact blA | exact blB | refine blC _ ?_ | refine blD ?_ ?_ _ | refine blE ?_ | refine blF _ ?_ | refine blG ?_ _ | refine blH ?_ | refine blI ?_ ?_ _) | (simp only [World.size_alloc]; omega) | (simp <;> omega))) (bal_is _ l _ (HRL.out.below (by repeat (first | with_reducible (first | exact blA | exact blB | refine blC _ ?_ | refine blD ?_ ?_ _ | refine blE ?_ | refine blF _ ?_ | refine blG ?_ _ | refine blH ?_ | refine blI ?_ ?_ _) | (simp only [World.size_alloc]; omega) | (simp <;> omega)))) HWF.out (by rw [HL.out]; omega) hbal)).mono ?_); rintro e w' ⟨z1, rfl, hz1, rfl⟩; skip)
          have e1 : chErr l = 12 := by unfold chErr; rw [if_neg (by have := HL.out; omega), HVA.out, hbal]; rfl
          have e2 : chLst l = [] := by unfold chLst; rw [e1]; rfl
          have HE1 := Lib.hid e1
          have HE2 := Lib.hid e2
          clear e1 e2 hbal
          go_wp2_with fail
          go_ret2
          rw [HE1.out, HE2.out]
          exact ⟨⟨_, rfl, OwnN.nil⟩, z1.2⟩
        · (go_at_call 17; (with_reducible refine (Kin.callK (W := w) (by repeat (first | with_reducible (first | exact blA | exact blB | refine blC _ ?_ | refine blD ?_ ?_ _ | refine blE ?_ | refine blF _ ?_ | refine blG ?_ _ | refine blH ?_ | refine blI ?_ ?_ _) | (simp only [World.size_alloc]; omega) | (simp <;> omega))) (bal_is _ l _ (HRL.out.below (by repeat (first | with_reducible (first | exact blA | exact blB | refine blC _ ?_ | refine blD ?_ ?_ _ | refine blE ?_ | refine blF _ ?_ | refine blG ?_ _ | refine blH ?_ | refine blI ?_ ?_ _) | (simp only [World.size_alloc]; omega) | (simp <;> omega)))) HWF.out (by rw [HL.out]; omega) hbal)).mono ?_); rintro e w' ⟨z1, rfl, hz1, rfl⟩; skip)
          have e1 : chErr l = 0 := by unfold chErr; rw [if_neg (by have := HL.out; omega), HVA.out, hbal]; rfl
          have e2 : chLst l = chainP (sortS l) := by unfold chLst; rw [e1]; rfl
          have HE1 := Lib.hid e1
          have HE2 := Lib.hid e2
          have HBA := Lib.hid hbal
          clear e1 e2 hbal hz1
          go_wp2_with fail
          obtain ⟨b, hb⟩ : ∃ b, z1.1.heap.size = b := ⟨_, rfl⟩
          have hbw : w.heap.size ≤ b := by rw [← hb]; exact z1.2.size
          have HPS := Lib.hid (PoolO.start (base := w.heap.size) z1.1)
          rw [hb] at HPS ⊢
          obtain ⟨y0, hy0⟩ : ∃ y0 : Kin w, y0.1 = z1.1.alloc (.map #[] 0) := ⟨⟨z1.1.alloc _, (by repeat (first | with_reducible (first | exact blA | exact blB | refine blC _ ?_ | refine blD ?_ ?_ _ | refine blE ?_ | refine blF _ ?_ | refine blG ?_ _ | refine blH ?_ | refine blI ?_ ?_ _) | (simp only [World.size_alloc]; omega) | (simp <;> omega)))⟩, rfl⟩
          rw [← hy0] at HPS ⊢
          clear hb hy0
          go_loopw [7, 41] (fun sv i wr => ∃ (k : Nat) (S : List Pt) (F : Key → Option Value), k ≤ n ∧ i = .int .i64 k ∧ Hid (PoolO w.heap.size wr b k S sv F (fun p => ends ((l.take k).filter full) p)) ∧ Hid (StP k S (fun p => ends ((l.take k).filter full) p)) ∧ ∃ y : Kin w, y.1 = wr) (fun _ i _ => n - (intOf i).toNat)
          case atStart => exact ⟨0, _, _, Nat.zero_le _, rfl, HPS, Lib.hid ⟨List.nodup_nil, fun p => by simp [ends], Nat.zero_le _⟩, y0, rfl⟩
          case round =>
            clear HPS
            obtain ⟨k, S, F, hk, rfl, HP, HST, y, rfl⟩ := hrel
            obtain ⟨R, hR⟩ : ∃ R, (l.take k).filter full = R := ⟨_, rfl⟩
            have HR := Lib.hid hR
            rw [hR] at HP HST
            clear hR
            by_cases hlt : k < n
            · obtain ⟨s, hs⟩ : ∃ el_, (l)[k]? = some el_ := ⟨_, List.getElem?_eq_getElem (by first | exact (by rw [HL.out]; exact hlt) | omega)⟩
              obtain ⟨bA, offA, rfl, hbA, hcA⟩ := HA.out (k) _ hs
              have s_0 : w.cell? ⟨bA, offA + k * 4, none⟩ = some (.int .i64 s.1.1) := by exact hcA (k) _ hs 0 _ rfl
              have s_1 : w.cell? ⟨bA, offA + k * 4 + 1, none⟩ = some (.int .i64 s.1.2) := by exact hcA (k) _ hs 1 _ rfl
              have s_2 : w.cell? ⟨bA, offA + k * 4 + 2, none⟩ = some (.int .i64 s.2.1) := by exact hcA (k) _ hs 2 _ rfl
              have s_3 : w.cell? ⟨bA, offA + k * 4 + 3, none⟩ = some (.int .i64 s.2.2) := by exact hcA (k) _ hs 3 _ rfl
              have hbA2 : bA < w.heap.size + 1 := by omega
              have HAc := Lib.hid hcA
              have Hs := Lib.hid hs
              clear hs hcA
              have HWS := Lib.hid (HWF.out s (List.mem_of_getElem? Hs.out))
              have HFT := Lib.hid (show (l.take (k + 1)).filter full = R ++ (if full s then [s] else []) by rw [full_take Hs.out, HR.out])
              have HRL2 := Lib.hid (show R.length ≤ 8192 by
                rw [← HR.out]
                have h1 := List.length_filter_le full (l.take k)
                have h2 := List.length_take_le k l
                omega)
              rcases hes : eqP s.1 s.2 with _ | _
              · have hrun := eqP_run hes
                have HFS := Lib.hid (show full s = true by unfold full; rw [decide_eq_true_eq]; intro e; rw [eqP_iff.2 e] at hes; cases hes)
                clear hes
                go_wp2_with fail
                obtain ⟨y5, hy5⟩ : ∃ y5 : Kin w, y5.1 = y.1.alloc (.cells #[.int .i64 s.1.1, .int .i64 s.1.2, .int .i64 s.2.1, .int .i64 s.2.2] 38) := ⟨⟨y.1.alloc _, (by repeat (first | with_reducible (first | exact blA | exact blB | refine blC _ ?_ | refine blD ?_ ?_ _ | refine blE ?_ | refine blF _ ?_ | refine blG ?_ _ | refine blH ?_ | refine blI ?_ ?_ _) | (simp only [World.size_alloc]; omega) | (simp <;> omega)))⟩, rfl⟩
                obtain ⟨g5, hg5⟩ : ∃ g, y.1.heap.size = g := ⟨_, rfl⟩
                have B5 := Blk.new y.1 38 #[.int .i64 s.1.1, .int .i64 s.1.2, .int .i64 s.2.1, .int .i64 s.2.2]
                have P5 := HP.out.below ((Below.refl _ _).alloc (Nat.le_refl _) (.cells #[.int .i64 s.1.1, .int .i64 s.1.2, .int .i64 s.2.1, .int .i64 s.2.2] 38))
                rw [← hy5, hg5] at B5
                rw [← hy5] at P5
                rw [← hy5, hg5]
                have HB5 := Lib.hid B5
                have HP5 := Lib.hid P5
                have s_0 : y5.1.cell? ⟨g5, 0, none⟩ = some (.int .i64 s.1.1) := B5.cell 0
                have s_1 : y5.1.cell? ⟨g5, 1, none⟩ = some (.int .i64 s.1.2) := B5.cell 1
                have s_2 : y5.1.cell? ⟨g5, 2, none⟩ = some (.int .i64 s.2.1) := B5.cell 2
                have s_3 : y5.1.cell? ⟨g5, 3, none⟩ = some (.int .i64 s.2.2) := B5.cell 3
                have sl := B5.lt
                obtain ⟨A5, cap5, hgd, hlk0⟩ := P5.look HWS.out.1
                obtain ⟨len5, hlen⟩ : ∃ len5, (ends R s.1).length = len5 := ⟨_, rfl⟩
                have hlen5 : len5 ≤ 8192 := by
                  rw [← hlen]
                  have h1 : (ends R s.1).length ≤ R.length := by unfold ends; rw [List.length_map]; exact List.length_filter_le _ _
                  have := HRL2.out
                  omega
                have hlb : (ends R s.1).length ≤ 8192 := by omega
                rw [hlen] at hgd hlk0
                have hlk : (Instr.lookup 57 (.map (some b)) (.agg #[.int .i64 s.1.1, .int .i64 s.1.2]) false).run Try.prog y5.1 = .ok (.slice A5 len5 cap5) y5.1 := hlk0
                have HLN := Lib.hid hlen
                have HGD := Lib.hid hgd
                have hmb := P5.map.lt
                clear hlk0 hy5 hg5 B5 P5 hlen hgd HP
                rw [hlk]
                go_simp
                by_cases hl0 : len5 = 0
                · subst hl0
                  have hsl := HST.out.2.2
                  go_wp2_with (at_builtin; refine wpList_app _ rfl _ _ 40 rfl encPt_len (by decide) oneP w.heap.size 36 (.agg #[.int .i64 0, .int .i64 0]) 16 infoPt2 rfl Try.underlying40 _ _ _ _ rfl (HP5.out.st.alloc _) _ _ _ rfl (rd_one _ encPt_len _ s.1 _ rfl) ?c1 (by decide) ?c2 ?_; (case c1 => (first | (simp only [List.length_append, List.length_cons, List.length_nil]; omega) | omega | (simp; omega))); (case c2 => exact (by repeat (first | with_reducible exact Nat.le_refl _ | assumption | with_reducible refine le_alloc ?_ _ | with_reducible refine le_drew ?_ | with_reducible refine Kin.le _ ?_ | assumption | omega | (simp only [World.size_alloc]; omega)))); intro v' w1 hown' hg hbel hat'; ((obtain ⟨y7, rfl⟩ : ∃ y7 : Kin w, y7.1 = w1 := ⟨⟨w1, Below.trans (by repeat (first | with_reducible (first | exact blA | exact blB | refine blC _ ?_ | refine blD ?_ ?_ _ | refine blE ?_ | refine blF _ ?_ | refine blG ?_ _ | refine blH ?_ | refine blI ?_ ?_ _) | (simp only [World.size_alloc]; omega) | (simp <;> omega))) hbel⟩, rfl⟩); have HP7 := Lib.hid ((HP5.out.below ((Below.refl _ _).alloc (Nat.le_refl _) _)).push hg hown' hat'); have B7 := (HB5.out.up _).grown hg (fun e => own_ne HP5.out.st HB5.out (by decide) e.symm); have s7_0 : y7.1.cell? ⟨g5, 0, none⟩ = some (.int .i64 s.1.1) := B7.cell 0; have s7_1 : y7.1.cell? ⟨g5, 1, none⟩ = some (.int .i64 s.1.2) := B7.cell 1; have s7_2 : y7.1.cell? ⟨g5, 2, none⟩ = some (.int .i64 s.2.1) := B7.cell 2; have s7_3 : y7.1.cell? ⟨g5, 3, none⟩ = some (.int .i64 s.2.2) := B7.cell 3; have sl7 := B7.lt; have hmb7 := HP7.out.map.lt; clear hown' hg hbel hat' B7))
                  obtain ⟨st, w1, hent, hg1, hs1, hE⟩ := (HP7.out.map.alloc (.cells #[.int .i64 s.2.1, .int .i64 s.2.2] 36)).entry ptKey ptLaw Try.underlying57 zero_pts (by unfold maxLen; omega) HWS.out.1
                  rw [HGD.out] at hent
                  have hent' : (Instr.mapEntry 57 (.map (some b)) (.agg #[.int .i64 s.1.1, .int .i64 s.1.2])).run Try.prog (y7.1.alloc (.cells #[.int .i64 s.2.1, .int .i64 s.2.2] 36)) = .ok (.tuple #[.slice A5 0 cap5, goInt st]) w1 := hent
                  clear hent
                  rw [hent']
                  go_simp
                  have ow0 := ((HP7.out.get HWS.out.1).alloc (.cells #[.int .i64 s.2.1, .int .i64 s.2.2] 36))
                  rw [HGD.out] at ow0
                  have ow1 := own_grownBy ow0 hg1 ((HP7.out.map.alloc _).not_own ow0)
                  have hnm := fun e : some b = _ => (HP7.out.map.alloc _).not_own ow0 e.symm
                  have hbb : b < w1.heap.size := by rw [hs1, World.size_alloc]; omega
                  have HO1 := Lib.hid ow1
                  have HSR := Lib.hid ((rd_one y7.1 encPt_len 36 s.2 _ rfl rfl).grown hg1 (.inr (by intro e; injection e with e; simp only at e; omega)))
                  have hw1 : w.heap.size ≤ w1.heap.size := by rw [hs1, World.size_alloc]; have := y7.2.size; omega
                  have HG1 := Lib.hid hg1
                  have HS1 := Lib.hid hs1
                  have HE1 := Lib.hid hE
                  clear ow0 ow1 hent' hg1 hs1 hE
                  go_wp2_with (at_builtin; refine wpList_app _ rfl _ _ 40 rfl encPt_len (by decide) oneP w.heap.size 36 (.agg #[.int .i64 0, .int .i64 0]) 16 infoPt2 rfl Try.underlying40 _ _ _ _ rfl (HO1.out) _ _ _ rfl (HSR.out) ?c1 (by decide) ?c2 ?_; (case c1 => (first | (simp only [List.length_append, List.length_cons, List.length_nil]; omega) | omega | (simp; omega))); (case c2 => exact (by repeat (first | with_reducible exact Nat.le_refl _ | assumption | with_reducible refine le_alloc ?_ _ | with_reducible refine le_drew ?_ | with_reducible refine Kin.le _ ?_ | assumption | omega | (simp only [World.size_alloc]; omega)))); intro v' w2 hown' hg2 hbel hat'; (have HO2 := Lib.hid hown'; have HG2 := Lib.hid hg2; have HBL := Lib.hid hbel; have HAT := Lib.hid hat'; (obtain ⟨w3, hst, hM3, hg3, hs3⟩ := HE1.out w2 v' (HG2.out.block b hbb hnm)); have hst' : (Instr.entryStore 57 (.map (some b)) (.int .i64 st) v').run Try.prog w2 = .ok () w3 := hst; have HM3 := Lib.hid hM3; have HG3 := Lib.hid hg3; clear hown' hg2 hbel hat' hst hM3 hg3 hs3))
                  have hP3 := (HP7.out.below ((Below.refl _ _).alloc (Nat.le_refl _) (.cells #[.int .i64 s.2.1, .int .i64 s.2.2] 36))).turn HWS.out.1 (L := ends R s.1 ++ [s.2]) (by simp) HGD.out HG1.out HG2.out HG3.out (.inl HS1.out) HO2.out HAT.out HM3.out (by
                    rcases HAT.out with e | e
                    · rw [e]; exact fun e2 => hnm e2.symm
                    · rw [e]; intro e2; injection e2 with e2; omega)
                  have hU : (fun q => if q = s.1 then ends R s.1 ++ [s.2] else ends R q) = fun p => ends ((l.take (k + 1)).filter full) p := by
                    funext p; rw [HFT.out, HFS.out, if_pos rfl, ends_snoc]
                  rw [hU] at hP3
                  have bw1 : Below w.heap.size w w1 := (show Below w.heap.size w (y7.1.alloc (.cells #[.int .i64 s.2.1, .int .i64 s.2.2] 36)) from (by repeat (first | with_reducible (first | exact blA | exact blB | refine blC _ ?_ | refine blD ?_ ?_ _ | refine blE ?_ | refine blF _ ?_ | refine blG ?_ _ | refine blH ?_ | refine blI ?_ ?_ _) | (simp only [World.size_alloc]; omega) | (simp <;> omega)))).grown HG1.out (by rw [World.size_alloc]; have := y7.2.size; omega) (fun q e => by injection e with e; omega)
                  have bw3 := (bw1.trans HBL.out).grown HG3.out (Nat.le_trans hw1 HBL.out.size) (fun q e => by injection e with e; omega)
                  have hST : StP (k + 1) (S ++ [s.1]) fun p => ends ((l.take (k + 1)).filter full) p := by
                    rw [HFT.out, HFS.out, if_pos rfl]
                    exact stp_new HST.out (List.eq_nil_of_length_eq_zero HLN.out)
                  exact ⟨⟨k + 1, _, _, by omega, by go_num, Lib.hid hP3, Lib.hid hST, ⟨w3, bw3⟩, rfl⟩, by simp [intOf]; omega⟩
                · have hl1 : ((len5 : Int) == 0) = false := by rw [beq_eq_false_iff_ne]; omega
                  go_wp2_with fail
                  obtain ⟨st, w1, hent, hg1, hs1, hE⟩ := (HP5.out.map.alloc (.cells #[.int .i64 s.2.1, .int .i64 s.2.2] 36)).entry ptKey ptLaw Try.underlying57 zero_pts (by unfold maxLen; omega) HWS.out.1
                  rw [HGD.out] at hent
                  have hent' : (Instr.mapEntry 57 (.map (some b)) (.agg #[.int .i64 s.1.1, .int .i64 s.1.2])).run Try.prog (y5.1.alloc (.cells #[.int .i64 s.2.1, .int .i64 s.2.2] 36)) = .ok (.tuple #[.slice A5 len5 cap5, goInt st]) w1 := hent
                  clear hent
                  rw [hent']
                  go_simp
                  have ow0 := ((HP5.out.get HWS.out.1).alloc (.cells #[.int .i64 s.2.1, .int .i64 s.2.2] 36))
                  rw [HGD.out] at ow0
                  have ow1 := own_grownBy ow0 hg1 ((HP5.out.map.alloc _).not_own ow0)
                  have hnm := fun e : some b = _ => (HP5.out.map.alloc _).not_own ow0 e.symm
                  have hbb : b < w1.heap.size := by rw [hs1, World.size_alloc]; omega
                  have HO1 := Lib.hid ow1
                  have HSR := Lib.hid ((rd_one y5.1 encPt_len 36 s.2 _ rfl rfl).grown hg1 (.inr (by intro e; injection e with e; simp only at e; omega)))
                  have hw1 : w.heap.size ≤ w1.heap.size := by rw [hs1, World.size_alloc]; have := y5.2.size; omega
                  have HG1 := Lib.hid hg1
                  have HS1 := Lib.hid hs1
                  have HE1 := Lib.hid hE
                  clear ow0 ow1 hent' hg1 hs1 hE
                  go_wp2_with (at_builtin; refine wpList_app _ rfl _ _ 40 rfl encPt_len (by decide) oneP w.heap.size 36 (.agg #[.int .i64 0, .int .i64 0]) 16 infoPt2 rfl Try.underlying40 _ _ _ _ rfl (HO1.out) _ _ _ rfl (HSR.out) ?c1 (by decide) ?c2 ?_; (case c1 => (first | (simp only [List.length_append, List.length_cons, List.length_nil]; omega) | omega | (simp; omega))); (case c2 => exact (by repeat (first | with_reducible exact Nat.le_refl _ | assumption | with_reducible refine le_alloc ?_ _ | with_reducible refine le_drew ?_ | with_reducible refine Kin.le _ ?_ | assumption | omega | (simp only [World.size_alloc]; omega)))); intro v' w2 hown' hg2 hbel hat'; (have HO2 := Lib.hid hown'; have HG2 := Lib.hid hg2; have HBL := Lib.hid hbel; have HAT := Lib.hid hat'; (obtain ⟨w3, hst, hM3, hg3, hs3⟩ := HE1.out w2 v' (HG2.out.block b hbb hnm)); have hst' : (Instr.entryStore 57 (.map (some b)) (.int .i64 st) v').run Try.prog w2 = .ok () w3 := hst; have HM3 := Lib.hid hM3; have HG3 := Lib.hid hg3; clear hown' hg2 hbel hat' hst hM3 hg3 hs3))
                  have hP3 := (HP5.out.below ((Below.refl _ _).alloc (Nat.le_refl _) (.cells #[.int .i64 s.2.1, .int .i64 s.2.2] 36))).turn HWS.out.1 (L := ends R s.1 ++ [s.2]) (by simp) HGD.out HG1.out HG2.out HG3.out (.inl HS1.out) HO2.out HAT.out HM3.out (by
                    rcases HAT.out with e | e
                    · rw [e]; exact fun e2 => hnm e2.symm
                    · rw [e]; intro e2; injection e2 with e2; omega)
                  have hU : (fun q => if q = s.1 then ends R s.1 ++ [s.2] else ends R q) = fun p => ends ((l.take (k + 1)).filter full) p := by
                    funext p; rw [HFT.out, HFS.out, if_pos rfl, ends_snoc]
                  rw [hU] at hP3
                  have bw1 : Below w.heap.size w w1 := (show Below w.heap.size w (y5.1.alloc (.cells #[.int .i64 s.2.1, .int .i64 s.2.2] 36)) from (by repeat (first | with_reducible (first | exact blA | exact blB | refine blC _ ?_ | refine blD ?_ ?_ _ | refine blE ?_ | refine blF _ ?_ | refine blG ?_ _ | refine blH ?_ | refine blI ?_ ?_ _) | (simp only [World.size_alloc]; omega) | (simp <;> omega)))).grown HG1.out (by rw [World.size_alloc]; have := y5.2.size; omega) (fun q e => by injection e with e; omega)
                  have bw3 := (bw1.trans HBL.out).grown HG3.out (Nat.le_trans hw1 HBL.out.size) (fun q e => by injection e with e; omega)
                  have hST : StP (k + 1) S fun p => ends ((l.take (k + 1)).filter full) p := by
                    rw [HFT.out, HFS.out, if_pos rfl]
                    exact stp_old HST.out (fun e => hl0 (by rw [← HLN.out, e]; rfl))
                  exact ⟨⟨k + 1, _, _, by omega, by go_num, Lib.hid hP3, Lib.hid hST, ⟨w3, bw3⟩, rfl⟩, by simp [intOf]; omega⟩
              · have hrun := eqP_run hes
                have HFS := Lib.hid (show full s = false by unfold full; rw [decide_eq_false_iff_not]; intro e; exact e (eqP_iff.1 hes))
                clear hes
                go_wp2_with fail
                go_roundw
                case rel => exact ⟨k + 1, S, F, by omega, by go_num, Lib.hid (by rw [HFT.out, HFS.out]; simp only [Bool.false_eq_true, if_false, List.append_nil]; exact (HP.out.below ((Below.refl _ _).alloc (Nat.le_refl _) _)).mono (Nat.le_succ _)), Lib.hid (by rw [HFT.out, HFS.out]; simp only [Bool.false_eq_true, if_false, List.append_nil]; exact ⟨HST.out.1, HST.out.2.1, Nat.le_succ_of_le HST.out.2.2⟩), ⟨y.1.alloc _, (by repeat (first | with_reducible (first | exact blA | exact blB | refine blC _ ?_ | refine blD ?_ ?_ _ | refine blE ?_ | refine blF _ ?_ | refine blG ?_ _ | refine blH ?_ | refine blI ?_ ?_ _) | (simp only [World.size_alloc]; omega) | (simp <;> omega)))⟩, rfl⟩
                case measure => simp [intOf]; omega
            · have hkn : n = k := by omega
              subst hkn
              go_wp2_with fail
              have HE0 := Lib.hid (show PoolO w.heap.size y.1 b n S u7 F (ends (l.filter full)) by
                have h := HP.out
                rw [← HR.out, List.take_of_length_le (by rw [HL.out]; exact Nat.le_refl _)] at h
                exact h)
              have HST0 := Lib.hid (show StP n S (ends (l.filter full)) by
                have h := HST.out
                rw [← HR.out, List.take_of_length_le (by rw [HL.out]; exact Nat.le_refl _)] at h
                exact h)
              clear HP HST HR
              obtain ⟨R0, hR0⟩ : ∃ R0, l.filter full = R0 := ⟨_, rfl⟩
              have HR0 := Lib.hid hR0
              rw [hR0] at HE0 HST0
              clear hR0
              obtain ⟨A7, cap7, rfl⟩ := own_slc HE0.out.st
              have hsl := HST0.out.2.2
              go_at_call 35
              refine (sort_ptsG w.heap.size y.1 _ S HE0.out.st (by omega) y.2.size).mono ?_
              rintro e w2 ⟨rfl, S2, hperm, hsrt, hown2, hg2⟩
              obtain ⟨y2, rfl⟩ : ∃ y2 : Kin w, y2.1 = w2 := ⟨⟨w2, own_grown y.2 HE0.out.st hg2 (Nat.le_refl _) y.2.size⟩, rfl⟩
              have HPA := Lib.hid (HE0.out.push hg2 hown2 (.inl rfl))
              have HSP := Lib.hid hperm
              have HSS := Lib.hid (show SrtX S2 from hsrt)
              have hl2 : S.length = S2.length := hperm.length_eq.symm
              rw [hl2] at HPA hsl ⊢
              clear hperm hsrt hown2 hg2 HE0 hl2
              go_wp2_with fail
              go_loopw [76] (fun i wr => ∃ k : Nat, k ≤ S2.length ∧ i = .int .i64 k ∧ Hid (PoolO w.heap.size wr b n S2 (.slice A7 S2.length cap7) F (fun p => if p ∈ S2.take k then sortX (ends R0 p) else ends R0 p)) ∧ ∃ y : Kin w, y.1 = wr) (fun i _ => S2.length - (intOf i).toNat)
              case atStart => exact ⟨0, Nat.zero_le _, rfl, by simpa using HPA, y2, rfl⟩
              case round =>
                clear HPA
                obtain ⟨k, hk, rfl, HP, y3, rfl⟩ := hrel
                by_cases hlt : k < S2.length
                · obtain ⟨p, hp⟩ : ∃ p, S2[k]? = some p := ⟨_, List.getElem?_eq_getElem hlt⟩
                  obtain ⟨bS, offS, rfl, hbS, hcc⟩ := Rd.op (Rd.own encPt_len HP.out.st) k p hp
                  have p_0 : y3.1.cell? ⟨bS, offS + k * 2, none⟩ = some (.int .i64 p.1) := hcc k p hp 0 _ rfl
                  have p_1 : y3.1.cell? ⟨bS, offS + k * 2 + 1, none⟩ = some (.int .i64 p.2) := hcc k p hp 1 _ rfl
                  have HPK := Lib.hid hp
                  have HWP := Lib.hid (show wfK p by
                    have h1 : ends R0 p ≠ [] := (HST0.out.2.1 p).1 (HSP.out.mem_iff.1 (List.mem_of_getElem? hp))
                    obtain ⟨q, hq⟩ := List.exists_mem_of_ne_nil _ h1
                    have h2 := mem_ends.1 hq
                    rw [← HR0.out] at h2
                    exact (HWF.out _ ((List.mem_filter.1 h2).1)).1)
                  have HNE := Lib.hid (show ends R0 p ≠ [] from (HST0.out.2.1 p).1 (HSP.out.mem_iff.1 (List.mem_of_getElem? hp)))
                  clear hcc hp
                  go_wp2_with fail
                  obtain ⟨y5, hy5⟩ : ∃ y5 : Kin w, y5.1 = y3.1.alloc (.cells #[.int .i64 p.1, .int .i64 p.2] 36) := ⟨⟨y3.1.alloc _, (by repeat (first | with_reducible (first | exact blA | exact blB | refine blC _ ?_ | refine blD ?_ ?_ _ | refine blE ?_ | refine blF _ ?_ | refine blG ?_ _ | refine blH ?_ | refine blI ?_ ?_ _) | (simp only [World.size_alloc]; omega) | (simp <;> omega)))⟩, rfl⟩
                  have P5 := HP.out.below ((Below.refl _ _).alloc (Nat.le_refl _) (.cells #[.int .i64 p.1, .int .i64 p.2] 36))
                  rw [← hy5] at P5 ⊢
                  have HP5 := Lib.hid P5
                  clear hy5 P5 HP
                  obtain ⟨A5, cap5, hgd, hlk0⟩ := HP5.out.look HWP.out
                  have ho5 := HP5.out.get HWP.out
                  rw [hgd] at ho5
                  obtain ⟨LL, hLL⟩ : ∃ LL, (if p ∈ S2.take k then sortX (ends R0 p) else ends R0 p) = LL := ⟨_, rfl⟩
                  have hlen : LL.length ≤ 8192 := by
                    have h1 : (ends R0 p).length ≤ R0.length := by unfold ends; rw [List.length_map]; exact List.length_filter_le _ _
                    have h2 : R0.length ≤ l.length := by rw [← HR0.out]; exact List.length_filter_le _ _
                    have h3 := HL.out
                    rw [← hLL]
                    split
                    · rw [(sortX_perm _).length_eq]; omega
                    · omega
                  rw [hLL] at hgd hlk0 ho5
                  have hlk : (Instr.lookup 57 (.map (some b)) (.agg #[.int .i64 p.1, .int .i64 p.2]) false).run Try.prog y5.1 = .ok (.slice A5 LL.length cap5) y5.1 := hlk0
                  rw [hlk]
                  have HGD := Lib.hid hgd
                  have HO5 := Lib.hid (show OwnQ w.heap.size y5.1 (.slice A5 LL.length cap5) LL from ho5)
                  have HLL := Lib.hid hLL
                  clear hlk hlk0 hgd ho5 hLL
                  go_simp
                  go_wp2_with fail
                  go_at_call 35
                  refine (sort_ptsG w.heap.size y5.1 _ _ HO5.out (by omega) y5.2.size).mono ?_
                  rintro e w2 ⟨rfl, ys, hperm, hsrt, hown2, hg2⟩
                  obtain ⟨h8, h9⟩ := srtU HPK.out HNE.out (by rw [HLL.out]; exact hperm) hsrt
                  have hFp : F p = some (.slice A5 LL.length cap5) := by
                    cases hF : F p with
                    | none =>
                      have h1 := HP5.out.el p HWP.out
                      rw [hF] at h1
                      simp only at h1
                      rw [HLL.out] at h1
                      rw [h1] at hperm
                      exact absurd (List.Perm.eq_nil hperm) h8
                    | some u => have h1 := HGD.out; rw [hF] at h1; exact congrArg some h1
                  have h7 := HP5.out.sorted HWP.out h8 hFp hg2 hown2
                  rw [h9] at h7
                  have HP7 := Lib.hid h7
                  obtain ⟨y6, rfl⟩ : ∃ y6 : Kin w, y6.1 = w2 := ⟨⟨w2, own_grown y5.2 HO5.out hg2 (Nat.le_refl _) y5.2.size⟩, rfl⟩
                  clear hperm hsrt hown2 hg2 h8 h9 h7 hFp
                  go_wp2_with fail
                  go_roundw
                  case rel => exact ⟨k + 1, by omega, by go_num, HP7, y6, rfl⟩
                  case measure => simp [intOf]; omega
                · have hkn : k = S2.length := by omega
                  subst hkn
                  obtain ⟨R1, hR1⟩ : ∃ R1, sortS l = R1 := ⟨_, rfl⟩
                  have HR1 := Lib.hid hR1
                  have hl1 := sortS_len l
                  rw [hR1] at hl1
                  have HL1 := Lib.hid (show R1.length ≤ 8192 by have := HL.out; omega)
                  have HMI := Lib.hid (show MemI y3.1 y3.1 b (.slice none 0 0) R1 [] from ⟨OwnN.nil, HP.out.done (R := R1) (c := R1.length) (by have := HL1.out; omega) (fun p hp => by rw [← hR1]; exact uSort HR0.out (fun p => ⟨fun h => (HST0.out.2.1 p).1 (HSP.out.mem_iff.1 h), fun h => HSP.out.mem_iff.2 ((HST0.out.2.1 p).2 h)⟩) p), ⟨rfl, rfl, rfl, Nat.le_refl _, fun _ _ _ => rfl⟩⟩)
                  have HSO := Lib.hid (show SrtS R1 from hR1 ▸ sortS_srt l)
                  have HRD := Lib.hid (Rd.own encPt_len HP.out.st)
                  have HMEM := Lib.hid (show ∀ s ∈ R1, s.1 ∈ S2 ∧ wfS s from fun s hs => by
                    rw [← hR1] at hs
                    have h1 := (sortS_perm l).mem_iff.1 hs
                    refine ⟨HSP.out.mem_iff.2 ((HST0.out.2.1 s.1).2 fun h0 => ?_), HWF.out _ ((List.mem_filter.1 h1).1)⟩
                    rw [HR0.out] at h1
                    exact ends_nil.1 h0 s h1 rfl)
                  have hbw := HP.out.map.lt
                  have HST9 := Lib.hid (show ∀ p, p ∈ S2 ↔ ends R1 p ≠ [] from fun p => by
                    rw [← hR1, ends_sort, HR0.out]
                    have h1 : p ∈ S2 ↔ ends R0 p ≠ [] := ⟨fun h => (HST0.out.2.1 p).1 (HSP.out.mem_iff.1 h), fun h => HSP.out.mem_iff.2 ((HST0.out.2.1 p).2 h)⟩
                    rw [h1]
                    have h2 := (sortX_perm (ends R0 p)).length_eq
                    constructor
                    · intro h3 h4; rw [h4] at h2; exact h3 (List.eq_nil_of_length_eq_zero h2.symm)
                    · intro h3 h4; apply h3; rw [h4]; simp [sortX])
                  clear hR1 hl1 HP HST0 HSP
                  go_wp2_with fail
                  go_loopw [12, 87] (fun u i wr => ∃ (k : Nat) (Rk : List Sg) (dn : List (List Pt)), k ≤ S2.length ∧ i = .int .i64 k ∧ Hid (PhP S2 R1 Rk k dn) ∧ Hid (MemI y3.1 wr b u Rk dn)) (fun _ i _ => S2.length - (intOf i).toNat)
                  case atStart => exact ⟨0, _, _, Nat.zero_le _, rfl, Lib.hid (PhP.start S2 R1), HMI⟩
                  case round =>
                    obtain ⟨k, Rk, dn, hk, rfl, HPH, HM⟩ := hrel
                    by_cases hlt : k < S2.length
                    · obtain ⟨p, hp⟩ : ∃ p, S2[k]? = some p := ⟨_, List.getElem?_eq_getElem hlt⟩
                      obtain ⟨bS, offS, rfl, hbS, hcc⟩ := Rd.op (Rd.grown HRD.out HM.out.grown (HMI.out.pool.rd HRD.out)) k p hp
                      have p_0 : wr.cell? ⟨bS, offS + k * 2, none⟩ = some (.int .i64 p.1) := hcc k p hp 0 _ rfl
                      have p_1 : wr.cell? ⟨bS, offS + k * 2 + 1, none⟩ = some (.int .i64 p.2) := hcc k p hp 1 _ rfl
                      have HPK := Lib.hid hp
                      clear hcc hp
                      go_wp2_with fail
                      obtain ⟨g, hg⟩ : ∃ g, wr.heap.size = g := ⟨_, rfl⟩
                      have HB0 := Lib.hid (Blk.new wr 36 #[.int .i64 p.1, .int .i64 p.2])
                      have HM0 := Lib.hid (HM.out.below ((Below.refl _ _).alloc (Nat.le_refl _) (.cells #[.int .i64 p.1, .int .i64 p.2] 36)))
                      rw [hg] at HB0 ⊢
                      clear hg
                      go_loopw [12] (fun u wr => ∃ (Rk : List Sg) (dn : List (List Pt)), Hid (PhP S2 R1 Rk k dn) ∧ Hid (MemI y3.1 wr b u Rk dn) ∧ Hid (Blk wr g 36 #[.int .i64 p.1, .int .i64 p.2])) (fun u _ => R1.length + 1 - lenS u)
                      case atStart => exact ⟨_, _, HPH, HM0, HB0⟩
                      case round =>
                        clear HPH HM HM0 HB0 p_0 p_1
                        obtain ⟨Rk, dn, HPH, HM, HB⟩ := hrel
                        have q_0 : wr.cell? ⟨g, 0, none⟩ = some (.int .i64 p.1) := HB.out.cell 0
                        have q_1 : wr.cell? ⟨g, 1, none⟩ = some (.int .i64 p.2) := HB.out.cell 1
                        have ql := HB.out.lt
                        have HWP := Lib.hid (show wfK p from (by
                          obtain ⟨q, hq⟩ : ∃ q ∈ R1, q.1 = p := by
                            have h1 := (HST9.out p).1 (List.mem_of_getElem? HPK.out)
                            obtain ⟨q, hq⟩ := List.exists_mem_of_ne_nil _ h1
                            exact ⟨_, mem_ends.1 hq, rfl⟩
                          rw [← hq.2]; exact (HMEM.out q hq.1).2.1))
                        obtain ⟨A5, cap5, hlk0, _⟩ := HM.out.pool.look HWP.out
                        have hlk : (Instr.lookup 57 (.map (some b)) (.agg #[.int .i64 p.1, .int .i64 p.2]) false).run Try.prog wr = .ok (.slice A5 (ends Rk p).length cap5) wr := hlk0
                        clear hlk0
                        rcases hes : ends Rk p with _ | ⟨b', t'⟩
                        · rw [hes] at hlk
                          simp only [List.length_nil] at hlk
                          have HNX := Lib.hid (HPH.out.next hes HPK.out)
                          clear hes
                          go_wp2_with fail
                          go_roundw
                          case rel => exact ⟨k + 1, Rk, dn, by omega, by go_num, HNX, HM⟩
                          case measure => simp [intOf]; omega
                        · rw [hes] at hlk
                          simp only [List.length_cons] at hlk
                          have HES := Lib.hid hes
                          clear hes
                          go_wp2_with fail
                          have hcl := walk_lt (f := p) HES.out
                          have HPW := Lib.hid (HPH.out.step HES.out HPK.out HSS.out HSO.out (fun s hs => (HMEM.out s hs).1))
                          have hbl := HPH.out.len
                          have HL8 := HL1.out
                          go_at_call 37
                          refine (contour_any wr b Rk p b' t' HM.out.pool HM.out.grown.size (fun s hs => (HMEM.out s (HPH.out.sub.subset hs)).2) (by omega) HES.out).mono ?_
                          rintro e w5 ⟨⟨Sx, nx, cx, rfl, hown5⟩, hp5, hg5⟩
                          obtain ⟨o, ho⟩ : ∃ o, (walkP Rk p p).1 = o := ⟨_, rfl⟩
                          obtain ⟨R', hR'⟩ : ∃ R', (walkP Rk p p).2 = R' := ⟨_, rfl⟩
                          rw [ho, hR'] at HPW
                          rw [hR'] at hp5
                          rw [ho] at hown5
                          have hnx := lenS_own hown5
                          obtain ⟨hs, h1, hlen, hn, hap, hr, hx⟩ := HM.out.more hg5 hown5
                          have h2 : nx = o.length := hnx
                          subst h2
                          have h3 : hs.length ≤ 8192 := by omega
                          have hB5 := HB.out.grown hg5 (by intro e; injection e with e; exact HM.out.pool.blk HB.out e)
                          have HG5 := Lib.hid hg5
                          have HP5 := Lib.hid hp5
                          have HO1 := Lib.hid h1
                          have HN5 := Lib.hid hn
                          have HAP := Lib.hid hap
                          have HR5 := Lib.hid hr
                          have HX5 := Lib.hid hx
                          have HB5 := Lib.hid hB5
                          have hs5 : y3.1.heap.size ≤ w5.heap.size := Nat.le_trans HM.out.grown.size hg5.size
                          clear ho hR' hnx hlen hown5 hg5 hp5 h1 hn hap hr hx hB5 hcl hbl
                          go_wp2_with (at_builtin; refine wpList_app _ rfl _ _ 24 rfl encPol_len (by decide) onePol y3.1.heap.size 42 (.agg #[.slice none 0 0]) 24 infoPol rfl Try.underlying24 _ _ _ _ rfl (HO1.out.alloc _) _ _ _ rfl (rd_one _ encPol_len _ ((Sx, o.length, cx) : PolH) _ rfl) ?c1 (by decide) ?c2 ?_; (case c1 => (first | (simp only [List.length_append, List.length_cons, List.length_nil]; omega) | omega | (simp; omega))); (case c2 => exact (by repeat (first | with_reducible exact Nat.le_refl _ | assumption | with_reducible refine le_alloc ?_ _ | with_reducible refine le_drew ?_ | with_reducible refine Kin.le _ ?_ | assumption | omega | (simp only [World.size_alloc]; omega)))); intro v' w7 hown' hg hbel hat'; (have HM7 := Lib.hid (MemI.push HM.out HG5.out HP5.out HO1.out HN5.out HAP.out HR5.out HX5.out ((Below.refl _ _).alloc (Nat.le_refl _) _) hown' hg hat'); have HB7 := Lib.hid ((HB5.out.up _).grown hg (fun e => own_ne HO1.out HB5.out (by decide) e.symm)); clear hown' hg hbel hat'))
                          refine ⟨⟨_, _, HPW, HM7, HB7⟩, ?_⟩
                          rw [lenS_mem HM7.out, lenS_mem HM.out, List.length_append, List.length_singleton]
                          have := HPW.out.len
                          rw [List.length_append, List.length_singleton] at this
                          omega
                    · have hkn : k = S2.length := by omega
                      subst hkn
                      have HFIN := Lib.hid (HPH.out.fin fun s hs => (HMEM.out s hs).1)
                      go_wp2_with fail
                      go_ret2
                      rw [HE1.out, HE2.out, HR1.out, ← HFIN.out]
                      exact ⟨⟨_, rfl, HM.out.low y3.2.size⟩, y3.2.grown HM.out.grown y3.2.size (fun k e => by injection e with e; omega)⟩
  · have e1 : chErr l = 2 := by unfold chErr; rw [hL, if_pos (by omega)]
    have e2 : chLst l = [] := by unfold chLst; rw [e1]; rfl
    rw [e1, e2]
    rw [hL] at hcapA ⊢
    clear e1 e2 hL hw HLA
    go_enter Try.func14, Try.ntmps14
    go_wp2_with fail
    go_ret2
    exact ⟨⟨_, rfl, OwnN.nil⟩, Below.refl _ _⟩
end Go.Proofs.Yteadnlodccnfcaa
