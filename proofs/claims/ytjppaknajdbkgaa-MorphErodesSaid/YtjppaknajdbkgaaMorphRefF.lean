/- What the chapter's Erode returns. (joined: MorphRefF MorphRefG) -/
import Derived.Test.YtjppaknajdbkgaaMorphRefE
import Derived.Test.YtjppaknajdbkgaaSupA
/- What the chapter's Erode returns. -/
namespace Go.Proofs.Ytjppaknajdbkgaa
set_option linter.unusedSimpArgs false
set_option linter.unusedVariables false
open Go.RowKit Runs Reg
attribute [local go_sem] Kin.cell Kin.frozen Kin.lt0 Kin.lt1 Kin.lt2 Kin.lt3 run_mkf
/-- the neighbours of the row n up to the distance m are there -/
def Nb (rows : List Reg.Row) (n : Nat) (y : Int) (m : Nat) : Prop := ∀ e : Nat, e ≤ m → ∃ p q : Reg.Row, e ≤ n ∧ rows[n - e]? = some p ∧ p.1 = y - (e : Int) ∧ rows[n + e]? = some q ∧ q.1 = y + (e : Int)
theorem ero_gap {rows : List Reg.Row} (h : VReg rows) {k y y' : Int} (h0 : 0 ≤ k) (h1 : k ≤ 64) (hy : y - k ≤ y' ∧ y' ≤ y + k) (hn : ∀ w ∈ rows, w.1 ≠ y') : eroW rows k y = [] := by
  refine (empty_iff (eroW_valid rows k y)).2 fun x => ?_
  cases hm : mem (eroW rows k y) x
  · rfl
  · have := (eroW_mem h h0 h1 y x).1 hm y' x hy.1 hy.2 (by omega) (by omega)
    obtain ⟨w, hw, h2, _⟩ := memC_iff.1 this
    exact absurd h2 (hn w hw)
theorem nb_low {rows : List Reg.Row} (h : VReg rows) {n m : Nat} {k y : Int} (hb : Nb rows n y m) (hk : (m : Int) + 1 ≤ k) (hc : n < m + 1 ∨ ∃ p, m + 1 ≤ n ∧ rows[n - (m + 1)]? = some p ∧ p.1 ≠ y - ((m : Int) + 1)) : k ≤ 64 → eroW rows k y = [] := fun h64 => by
  obtain ⟨a, _, ha1, ha2, ha3, _⟩ := hb m (Nat.le_refl _)
  refine ero_gap h (by omega) h64 (y' := y - ((m : Int) + 1)) (by omega) fun w hw hwy => ?_
  obtain ⟨t, ht, rfl⟩ := List.getElem_of_mem hw
  have ht2 : rows[t]? = some rows[t] := List.getElem?_eq_getElem ht
  have hlt : t < n - m := by
    apply Classical.byContradiction
    intro hc
    rcases Nat.lt_or_ge (n - m) t with h2 | h2
    · have := row_lt h ha2 ht2 h2; omega
    · have e : t = n - m := by omega
      subst e
      rw [ha2] at ht2; injection ht2 with ht2
      rw [← ht2] at hwy; omega
  rcases hc with hc | ⟨p, hp1, hp2, hp3⟩
  · omega
  · rcases Nat.lt_or_ge t (n - (m + 1)) with h2 | h2
    · have h3 := row_lt h ht2 hp2 h2
      have h4 := row_lt h hp2 ha2 (by omega)
      omega
    · have e : t = n - (m + 1) := by omega
      subst e
      rw [hp2] at ht2; injection ht2 with ht2
      rw [← ht2] at hwy; exact hp3 hwy
theorem nb_high {rows : List Reg.Row} (h : VReg rows) {n m : Nat} {k y : Int} (hb : Nb rows n y m) (hk : (m : Int) + 1 ≤ k) (hc : rows.length ≤ n + (m + 1) ∨ ∃ q, rows[n + (m + 1)]? = some q ∧ q.1 ≠ y + ((m : Int) + 1)) : k ≤ 64 → eroW rows k y = [] := fun h64 => by
  obtain ⟨_, a, _, _, _, ha2, ha3⟩ := hb m (Nat.le_refl _)
  refine ero_gap h (by omega) h64 (y' := y + ((m : Int) + 1)) (by omega) fun w hw hwy => ?_
  obtain ⟨t, ht, rfl⟩ := List.getElem_of_mem hw
  have ht2 : rows[t]? = some rows[t] := List.getElem?_eq_getElem ht
  have hlt : n + m < t := by
    apply Classical.byContradiction
    intro hc
    rcases Nat.lt_or_ge t (n + m) with h2 | h2
    · have := row_lt h ht2 ha2 h2; omega
    · have e : t = n + m := by omega
      subst e
      rw [ha2] at ht2; injection ht2 with ht2
      rw [← ht2] at hwy; omega
  rcases hc with hc | ⟨q, hq2, hq3⟩
  · omega
  · rcases Nat.lt_or_ge (n + (m + 1)) t with h2 | h2
    · have h3 := row_lt h hq2 ht2 h2
      have h4 := row_lt h ha2 hq2 (by omega)
      omega
    · have e : t = n + (m + 1) := by omega
      subst e
      rw [hq2] at ht2; injection ht2 with ht2
      rw [← ht2] at hwy; exact hq3 hwy
theorem dia_ero {rows : List Reg.Row} (h : VReg rows) {k y : Int} (h0 : 0 ≤ k) (h1 : k ≤ 64) : diaTo 1 (fun l _ => shrinkL l k) (rwAt rows) y k k.toNat = eroW rows k y := by
  refine eroW_is h h0 h1 (dia_valid (fun _ _ => shrink_valid) y k _) fun x => ?_
  rw [diaI_mem (fun _ _ => shrink_valid)]
  constructor
  · intro h2 j i h3 h4 h5 h6
    rw [memC_rwAt h]
    exact (mem_shrink (rwAt_valid h j) h0 (by omega) x).1 (h2 j (by omega) (by omega)) i h5 h6
  · intro h2 j h3 h4
    refine (mem_shrink (rwAt_valid h j) h0 (by omega) x).2 fun i h5 h6 => ?_
    rw [← memC_rwAt h]
    exact h2 j i (by omega) (by omega) h5 h6
theorem diaF_in {rows : List Reg.Row} (h : VReg rows) {k : Int} (h0 : 0 ≤ k) (h1 : k ≤ 64) (y : Int) (m : Nat) : SepIn (diaTo 1 (fun l _ => shrinkL l k) (rwAt rows) y k m) := by
  refine sepIn_of_mem (valid_iff.1 (dia_valid (fun _ _ => shrink_valid) y k m)).1 fun x hx => ?_
  have h3 := (diaI_mem (fun _ _ => shrink_valid) y k x m).1 hx y (by omega) (by omega)
  exact sepIn_mem (rwAt_in h y) ((mem_shrink (rwAt_valid h y) h0 (by omega) x).1 h3 x (by omega) (by omega))
theorem diaF_in1 {rows : List Reg.Row} (h : VReg rows) {k : Int} (h0 : 0 ≤ k) (h1 : k ≤ 64) (y : Int) (m : Nat) (l : List Run) : SepIn (setop (opf 1) (diaTo 1 (fun l _ => shrinkL l k) (rwAt rows) y k m) (shrinkL l k)) := by
  have hs := setop_spec 1 (dia_valid (n := 1) (g := rwAt rows) (c := fun l _ => shrinkL l k) (fun _ _ => shrink_valid) y k m) (shrink_valid (b := l) (k := k))
  refine sepIn_of_mem (valid_iff.1 hs.1).1 fun x hx => ?_
  rw [hs.2 x] at hx
  have hx : (mem (diaTo 1 (fun l _ => shrinkL l k) (rwAt rows) y k m) x && mem (shrinkL l k) x) = true := hx
  rw [Bool.and_eq_true] at hx
  exact sepIn_mem (diaF_in h h0 h1 y m) hx.1
set_option maxRecDepth 100000 in
set_option maxHeartbeats 16000000 in
theorem rero_any (v : Value) (rows : List Reg.Row) (k : Int) (w : World) (h : RdReg w v rows) (hbd : RBd rows) :
    Calls Try.prog 22 #[v, .int .i64 k] w fun e w' => (∃ A n c, e = .returned (.agg #[.slice A n c]) ∧ RdReg w' (.agg #[.slice A n c]) (eroR rows k)) ∧ Below w.heap.size w w' := by
  have H := Lib.hid h
  have Hbd := Lib.hid hbd
  obtain ⟨A, capA, rfl⟩ := h.slice_
  clear h hbd
  cases hv : rvalid rows
  · rw [ero_no (by rw [hv, Bool.and_false])]
    go_enter Try.func22, Try.ntmps22
    go_wp2_with (go_at_call 31; (with_reducible refine (Kin.callK (W := (w.alloc (.cells #[.slice A rows.length capA] 24)).alloc (.cells #[.slice none 0 0] 24)) (by repeat (first | with_reducible (first | exact blA | exact blB | refine blC _ ?_ | refine blD ?_ ?_ _ | refine blE ?_ | refine blF _ ?_ | refine blG ?_ _ | refine blH ?_ | refine blI ?_ ?_ _) | (simp only [World.size_alloc]; omega) | (simp <;> omega))) (valid18_is _ rows _ (H.out.below (by repeat (first | with_reducible (first | exact blA | exact blB | refine blC _ ?_ | refine blD ?_ ?_ _ | refine blE ?_ | refine blF _ ?_ | refine blG ?_ _ | refine blH ?_ | refine blI ?_ ?_ _) | (simp only [World.size_alloc]; omega) | (simp <;> omega)))) Hbd.out hv)).mono ?_); rintro e w' ⟨z, rfl, hz, rfl⟩)
    ((try simp only [Exit.inBlock, Exit.then]); refine bodyPost_ret (results_cell_row rfl _ _ _ _ _ (0, 0) _ rfl (z.boxes2.2.set_ 0 _) Try.underlying24 rfl (by kernel_rfl)) rfl ?_)
    exact ⟨⟨_, _, _, rfl, RdReg.nil⟩, (by repeat (first | with_reducible (first | exact blA | exact blB | refine blC _ ?_ | refine blD ?_ ?_ _ | refine blE ?_ | refine blF _ ?_ | refine blG ?_ _ | refine blH ?_ | refine blI ?_ ?_ _) | (simp only [World.size_alloc]; omega) | (simp <;> omega)))⟩
  cases hk : reachOk k
  · rw [ero_no (by rw [hk]; rfl)]
    go_enter Try.func22, Try.ntmps22
    go_wp2_with (first | (go_at_call 31; (with_reducible refine (Kin.callK (W := (w.alloc (.cells #[.slice A rows.length capA] 24)).alloc (.cells #[.slice none 0 0] 24)) (by repeat (first | with_reducible (first | exact blA | exact blB | refine blC _ ?_ | refine blD ?_ ?_ _ | refine blE ?_ | refine blF _ ?_ | refine blG ?_ _ | refine blH ?_ | refine blI ?_ ?_ _) | (simp only [World.size_alloc]; omega) | (simp <;> omega))) (valid18_is _ rows _ (H.out.below (by repeat (first | with_reducible (first | exact blA | exact blB | refine blC _ ?_ | refine blD ?_ ?_ _ | refine blE ?_ | refine blF _ ?_ | refine blG ?_ _ | refine blH ?_ | refine blI ?_ ?_ _) | (simp only [World.size_alloc]; omega) | (simp <;> omega)))) Hbd.out hv)).mono ?_); rintro e w' ⟨z, rfl, hz, rfl⟩) | (go_at_call 46; (with_reducible refine (Kin.callK (W := (w.alloc (.cells #[.slice A rows.length capA] 24)).alloc (.cells #[.slice none 0 0] 24)) (by repeat (first | with_reducible (first | exact blA | exact blB | refine blC _ ?_ | refine blD ?_ ?_ _ | refine blE ?_ | refine blF _ ?_ | refine blG ?_ _ | refine blH ?_ | refine blI ?_ ?_ _) | (simp only [World.size_alloc]; omega) | (simp <;> omega))) (reach20_is k _ hk)).mono ?_); rintro e w' ⟨z, rfl, hz, rfl⟩))
    ((try simp only [Exit.inBlock, Exit.then]); refine bodyPost_ret (results_cell_row rfl _ _ _ _ _ (0, 0) _ rfl (z.boxes2.2.set_ 0 _) Try.underlying24 rfl (by kernel_rfl)) rfl ?_)
    exact ⟨⟨_, _, _, rfl, RdReg.nil⟩, (by repeat (first | with_reducible (first | exact blA | exact blB | refine blC _ ?_ | refine blD ?_ ?_ _ | refine blE ?_ | refine blF _ ?_ | refine blG ?_ _ | refine blH ?_ | refine blI ?_ ?_ _) | (simp only [World.size_alloc]; omega) | (simp <;> omega)))⟩
  have HE := Lib.hid (show eroR rows k = rowsOn (eroW rows k) (rows.map (·.1)) from by unfold eroR; rw [hk, hv]; rfl)
  obtain ⟨k0, k1⟩ := reach_iff.1 hk
  have HVR := Lib.hid (rvalid_iff.1 hv)
  have hlr := (vreg_len (rvalid_iff.1 hv)).1
  go_enter Try.func22, Try.ntmps22
  go_wp2_with (first
    | (go_at_call 31; (with_reducible refine (Kin.callK (W := (w.alloc (.cells #[.slice A rows.length capA] 24)).alloc (.cells #[.slice none 0 0] 24)) (by repeat (first | with_reducible (first | exact blA | exact blB | refine blC _ ?_ | refine blD ?_ ?_ _ | refine blE ?_ | refine blF _ ?_ | refine blG ?_ _ | refine blH ?_ | refine blI ?_ ?_ _) | (simp only [World.size_alloc]; omega) | (simp <;> omega))) (valid18_is _ rows _ (H.out.below (by repeat (first | with_reducible (first | exact blA | exact blB | refine blC _ ?_ | refine blD ?_ ?_ _ | refine blE ?_ | refine blF _ ?_ | refine blG ?_ _ | refine blH ?_ | refine blI ?_ ?_ _) | (simp only [World.size_alloc]; omega) | (simp <;> omega)))) Hbd.out hv)).mono ?_); rintro e w' ⟨z, rfl, hz, rfl⟩)
    | (go_at_call 46; (with_reducible refine (Kin.callK (W := (w.alloc (.cells #[.slice A rows.length capA] 24)).alloc (.cells #[.slice none 0 0] 24)) (by repeat (first | with_reducible (first | exact blA | exact blB | refine blC _ ?_ | refine blD ?_ ?_ _ | refine blE ?_ | refine blF _ ?_ | refine blG ?_ _ | refine blH ?_ | refine blI ?_ ?_ _) | (simp only [World.size_alloc]; omega) | (simp <;> omega))) (reach20_is k _ hk)).mono ?_); rintro e w' ⟨z, rfl, hz, rfl⟩; (have hA := Lib.hid z.boxes2.1; have hB := Lib.hid z.boxes2.2; have ql2 := hA.out.lt; have c0 : (Kin.wd z).cell? ⟨w.heap.size, 0, none⟩ = some (.slice A rows.length capA) := z.boxes2.1.cell 0; have d1 : w.heap.size < (Kin.wd z).heap.size + 1 := Nat.lt_succ_of_lt ql2)))
  have HA0 := Lib.hid (H.out.below (show Below w.heap.size w z.1 from (by repeat (first | with_reducible (first | exact blA | exact blB | refine blC _ ?_ | refine blD ?_ ?_ _ | refine blE ?_ | refine blF _ ?_ | refine blG ?_ _ | refine blH ?_ | refine blI ?_ ?_ _) | (simp only [World.size_alloc]; omega) | (simp <;> omega)))))
  have HZr := Lib.hid (rows_op (by have := HA0.out; obtain ⟨s, e, h⟩ := this; cases e; exact h : RdRows z.1 (.slice A rows.length capA) rows))
  have hwz : Below w.heap.size w z.1 := (by repeat (first | with_reducible (first | exact blA | exact blB | refine blC _ ?_ | refine blD ?_ ?_ _ | refine blE ?_ | refine blF _ ?_ | refine blG ?_ _ | refine blH ?_ | refine blI ?_ ?_ _) | (simp only [World.size_alloc]; omega) | (simp <;> omega)))
  have ql := hB.out.lt
  go_loopw [22] (fun i wr => ∃ n : Nat, n ≤ rows.length ∧ i = .int .i64 n ∧ ∃ S, Hid (OwnRows (z.1.heap.size + 1) wr S (rowsOn (eroW rows k) ((rows.map (·.1)).take n))) ∧ Hid (Blk wr z.1.heap.size 24 #[S]) ∧ Hid (Below z.1.heap.size z.1 wr)) (fun i _ => rows.length - (intOf i).toNat)
  case atStart => exact ⟨0, Nat.zero_le _, rfl, _, Lib.hid OwnN.nil, Lib.hid (Blk.new _ _ _), Lib.hid (by repeat (first | with_reducible (first | exact blA | exact blB | refine blC _ ?_ | refine blD ?_ ?_ _ | refine blE ?_ | refine blF _ ?_ | refine blG ?_ _ | refine blH ?_ | refine blI ?_ ?_ _) | (simp only [World.size_alloc]; omega) | (simp <;> omega)))⟩
  case round =>
    obtain ⟨n, hn, rfl, S, HO, HP6, hyB⟩ := hrel
    obtain ⟨y6, rfl⟩ : ∃ y6 : Kin z.1, y6.1 = wr := ⟨⟨wr, hyB.out⟩, rfl⟩
    clear hyB
    by_cases hlt : n < rows.length
    · obtain ⟨hs, hown, hnest, hap⟩ := HO.out
      obtain ⟨AS, nS, cS, rfl⟩ := own_slice hown
      have HOW := Lib.hid hown
      have HNE := Lib.hid hnest
      have HAP := Lib.hid hap
      have hhl := hnest.1
      have hrl := rowsOn_len (eroW rows k) ((rows.map (·.1)).take n)
      have htl : ((rows.map (·.1)).take n).length ≤ n := by simp; omega
      obtain ⟨r, hr⟩ : ∃ el_, rows[n]? = some el_ := ⟨_, List.getElem?_eq_getElem hlt⟩
      obtain ⟨bA, offA, rfl, hbA, hcA⟩ := HZr.out n _ hr
      obtain ⟨T, capT, r_0, r_1, hcapT, hrT⟩ := hcA n r hr
      have HRT := Lib.hid hrT
      have Hr := Lib.hid hr
      have HRA := Lib.hid (rwAt_of HVR.out hr)
      have hrm := HVR.out.1 r (List.mem_of_getElem? hr)
      have hry : -4096 ≤ r.1 ∧ r.1 < 4096 := by have := hrm.1; unfold okC at this; simpa using this
      have hrl2 := sepIn_len (fine_sepIn.1 hrm.2).1
      have lch : (eroW rows k r.1).length ≤ 8192 := sepIn_len (winI_in HVR.out k0 k1 r.1 (2 * k).toNat)
      have pl := HP6.out.lt
      have hbA2 : bA < z.1.heap.size + 1 := by omega
      have HCA := Lib.hid hcA
      clear hown hnest hap hr hcA hrT hrm
      go_wp2_with (go_at_call 51; (with_reducible refine (Kin.callK (W := ((Kin.wd y6).alloc (.cells #[.int .i64 r.1, .slice T r.2.length capT] 47))) (by repeat (first | with_reducible (first | exact blA | exact blB | refine blC _ ?_ | refine blD ?_ ?_ _ | refine blE ?_ | refine blF _ ?_ | refine blG ?_ _ | refine blH ?_ | refine blI ?_ ?_ _) | (simp only [World.size_alloc]; omega) | (simp <;> omega))) (shrinkR_from _ r.2 k _ (HRT.out.below (by repeat (first | with_reducible (first | exact blA | exact blB | refine blC _ ?_ | refine blD ?_ ?_ _ | refine blE ?_ | refine blF _ ?_ | refine blG ?_ _ | refine blH ?_ | refine blI ?_ ?_ _) | (simp only [World.size_alloc]; omega) | (simp <;> omega)))) (by omega))).mono ?_); rintro e w' ⟨z7, ⟨u0, rfl, h0⟩, hz7, rfl⟩; (have H0 := Lib.hid h0; clear h0))
      have hy7 : Below y6.1.heap.size y6.1 z7.1 := (Below.alloc (Below.refl _ _) (Nat.le_refl _) _).trans (z7.2.mono (le_alloc (Nat.le_refl _) _))
      have hz7z : Below z.1.heap.size z.1 z7.1 := y6.2.trans (hy7.mono y6.2.size)
      have HRV := Lib.hid ((Blk.new y6.1 47 #[.int .i64 r.1, .slice T r.2.length capT]).below z7.2)
      have g0 : z7.1.cell? ⟨y6.1.heap.size, 0, none⟩ = some (.int .i64 r.1) := HRV.out.cell 0
      have gl := HRV.out.lt
      have cz : z7.1.cell? ⟨w.heap.size, 0, none⟩ = some (.slice (some ⟨bA, offA, none⟩) rows.length capA) := (hz7z.cell (p := ⟨w.heap.size, 0, none⟩) ql2).trans c0
      have czl : w.heap.size < z7.1.heap.size := Nat.lt_of_lt_of_le ql2 hz7z.size
      have HA7 := Lib.hid (HA0.out.below hz7z)
      have HL0 := Lib.hid (show OwnFrom y6.1.heap.size z7.1 u0 (diaTo 1 (fun l _ => shrinkL l k) (rwAt rows) r.1 k 0) from by
        show OwnFrom _ _ _ (shrinkL (rwAt rows r.1) k)
        rw [HRA.out]; exact H0.out.less (by simp))
      have HYZ := Lib.hid hy7
      have HNB0 := Lib.hid (show Nb rows n r.1 0 from fun e he => by
        have e0 : e = 0 := by omega
        subst e0
        exact ⟨r, r, Nat.zero_le _, Hr.out, by simp, Hr.out, by simp⟩)
      clear H0 hy7 hz7z
      go_loopw [8, 9] (fun l d wr => ∃ m : Nat, m ≤ k.toNat ∧ d = .int .i64 ((m : Int) + 1) ∧ Hid (OwnFrom y6.1.heap.size wr l (diaTo 1 (fun l _ => shrinkL l k) (rwAt rows) r.1 k m)) ∧ Hid (Nb rows n r.1 m) ∧ ∃ z : Kin z7.1, z.1 = wr) (fun _ d _ => (k + 1 - intOf d).toNat)
      case atStart => exact ⟨0, Nat.zero_le _, by simp, HL0, HNB0, ⟨_, Below.refl _ _⟩, rfl⟩
      case round =>
        clear HL0 HNB0
        obtain ⟨m, hm, rfl, HL, HNB, z8, rfl⟩ := hrel
        by_cases hlt2 : (m : Int) + 1 ≤ k
        · have hwm : IntKind.i64.wrap ((m : Int) + 1 + 1) = (m : Int) + 1 + 1 := IntWalk.i64_in _ (by omega)
          have hw1 : IntKind.i64.wrap (r.1 - ((m : Int) + 1)) = r.1 - ((m : Int) + 1) := IntWalk.i64_in _ (by omega)
          have hw2 : IntKind.i64.wrap (r.1 + ((m : Int) + 1)) = r.1 + ((m : Int) + 1) := IntWalk.i64_in _ (by omega)
          have hw3 : IntKind.i64.wrap ((n : Int) - ((m : Int) + 1)) = (n : Int) - ((m : Int) + 1) := IntWalk.i64_in _ (by omega)
          have hw4 : IntKind.i64.wrap ((n : Int) + ((m : Int) + 1)) = (n : Int) + ((m : Int) + 1) := IntWalk.i64_in _ (by omega)
          have c8 : z8.1.cell? ⟨w.heap.size, 0, none⟩ = some (.slice (some ⟨bA, offA, none⟩) rows.length capA) := (z8.cell czl).trans cz
          have c8l := z8.lt0 czl
          have g8 : z8.1.cell? ⟨y6.1.heap.size, 0, none⟩ = some (.int .i64 r.1) := (z8.cell gl).trans g0
          have g8l := z8.lt0 gl
          have HZ8 := Lib.hid (show Below z.1.heap.size z.1 z8.1 from y6.2.trans ((HYZ.out.trans (z8.2.mono HYZ.out.size)).mono y6.2.size))
          have h86 : y6.1.heap.size ≤ z8.1.heap.size := Nat.le_trans HYZ.out.size z8.2.size
          by_cases q1 : (n : Int) - ((m : Int) + 1) < 0
          · have HEM := Lib.hid (nb_low HVR.out HNB.out hlt2 (.inl (by omega)))
            go_wp2
            ((refine wp_region_kinK (W := (Kin.wd z8)) (by kernel_rfl) (by kernel_rfl) (by repeat (first | with_reducible (first | exact blA | exact blB | refine blC _ ?_ | refine blD ?_ ?_ _ | refine blE ?_ | refine blF _ ?_ | refine blG ?_ _ | refine blH ?_ | refine blI ?_ ?_ _) | (simp only [World.size_alloc]; omega) | (simp <;> omega))) ?_); (repeat' (first | go_big_quiet_step (fail) | ((refine wpQuiet_guard rfl rfl rfl rfl (fun hg => ?_) (fun hg => ?_)) <;> (fail_if_success (first | guard_hyp hg : true = true | guard_hyp hg : false = false)) <;> (try simp only [decide_eq_true_eq, decide_eq_false_iff_not] at hg) <;> simp only [Act.put, List.setIfInBounds_toArray, List.set_cons_zero, List.set_cons_succ]))); all_goals ((with_reducible refine wpQuiet_nil ?_); intro zq hz))
            all_goals
              have hBq : Below y6.1.heap.size y6.1 zq.1 := HYZ.out.trans ((z8.2.trans (zq.2.mono z8.2.size)).mono HYZ.out.size)
              have hne := HEM.out k1
              go_wp2
              go_roundw
              case rel => exact ⟨n + 1, by omega, by go_num, _, Lib.hid (by rw [map_take_snoc Hr.out, rowsOn_snoc, hne]; simpa using HO.out.below hBq), Lib.hid (HP6.out.below hBq), Lib.hid (y6.2.trans (hBq.mono y6.2.size))⟩
              case measure => simp [intOf]; omega
          · have hml : m + 1 ≤ n := by omega
            obtain ⟨a, ha⟩ : ∃ a, a = n - (m + 1) := ⟨_, rfl⟩
            have han : a < rows.length := by omega
            obtain ⟨p, hp⟩ : ∃ el_, rows[a]? = some el_ := ⟨_, List.getElem?_eq_getElem han⟩
            obtain ⟨PS, pc, p_0, p_1, hpc, hpr⟩ := HCA.out a p hp
            have HPR := Lib.hid hpr
            have HPA := Lib.hid hp
            have HAE := Lib.hid ha
            have ht1 : ((n : Int) - ((m : Int) + 1)).toNat = a := by omega
            have ht2 : 0 ≤ (n : Int) - ((m : Int) + 1) := by omega
            have p0' : z8.1.cell? ⟨bA, offA + a * 2, none⟩ = some (.int .i64 p.1) := (HZ8.out.cell (p := ⟨bA, _, none⟩) hbA).trans p_0
            have p1' : z8.1.cell? ⟨bA, offA + a * 2 + 1, none⟩ = some (.slice PS p.2.length pc) := (HZ8.out.cell (p := ⟨bA, _, none⟩) hbA).trans p_1
            have hb8 : bA < z8.1.heap.size := Nat.lt_of_lt_of_le hbA HZ8.out.size
            have hpm := HVR.out.1 p (List.mem_of_getElem? hp)
            have hpl := sepIn_len (fine_sepIn.1 hpm.2).1
            clear hp hpr ha hpm p_0 p_1
            by_cases q2 : p.1 = r.1 - ((m : Int) + 1)
            · by_cases q3 : (rows.length : Int) ≤ (n : Int) + ((m : Int) + 1)
              · have HEM := Lib.hid (nb_high HVR.out HNB.out hlt2 (.inl (by omega)))
                have hq1 : decide ((n : Int) - ((m : Int) + 1) < 0) = false := decide_eq_false q1
                have hq2 : (p.1 == r.1 - ((m : Int) + 1)) = true := by rw [q2]; exact beq_self_eq_true _
                go_wp2
                ((refine wp_region_kinK (W := (Kin.wd z8)) (by kernel_rfl) (by kernel_rfl) (by repeat (first | with_reducible (first | exact blA | exact blB | refine blC _ ?_ | refine blD ?_ ?_ _ | refine blE ?_ | refine blF _ ?_ | refine blG ?_ _ | refine blH ?_ | refine blI ?_ ?_ _) | (simp only [World.size_alloc]; omega) | (simp <;> omega))) ?_); (repeat' (first | go_big_quiet_step (fail) | ((refine wpQuiet_guard rfl rfl rfl rfl (fun hg => ?_) (fun hg => ?_)) <;> (fail_if_success (first | guard_hyp hg : true = true | guard_hyp hg : false = false)) <;> (try simp only [decide_eq_true_eq, decide_eq_false_iff_not] at hg) <;> simp only [Act.put, List.setIfInBounds_toArray, List.set_cons_zero, List.set_cons_succ]))); all_goals ((with_reducible refine wpQuiet_nil ?_); intro zq hz))
                all_goals
                  have hBq : Below y6.1.heap.size y6.1 zq.1 := HYZ.out.trans ((z8.2.trans (zq.2.mono z8.2.size)).mono HYZ.out.size)
                  have hne := HEM.out k1
                  go_wp2
                  go_roundw
                  case rel => exact ⟨n + 1, by omega, by go_num, _, Lib.hid (by rw [map_take_snoc Hr.out, rowsOn_snoc, hne]; simpa using HO.out.below hBq), Lib.hid (HP6.out.below hBq), Lib.hid (y6.2.trans (hBq.mono y6.2.size))⟩
                  case measure => simp [intOf]; omega
              · have hbn : n + (m + 1) < rows.length := by omega
                obtain ⟨q, hq⟩ : ∃ el_, rows[n + (m + 1)]? = some el_ := ⟨_, List.getElem?_eq_getElem hbn⟩
                obtain ⟨QS, qc, q_0, q_1, hqc, hqr⟩ := HCA.out (n + (m + 1)) q hq
                have HQR := Lib.hid hqr
                have HQA := Lib.hid hq
                have ht3 : ((n : Int) + ((m : Int) + 1)).toNat = n + (m + 1) := by omega
                have ht4 : 0 ≤ (n : Int) + ((m : Int) + 1) := by omega
                have ht5 : (n : Int) + ((m : Int) + 1) < (rows.length : Int) := by omega
                clear q3
                have q3 : ¬ (rows.length : Int) ≤ (n : Int) + ((m : Int) + 1) := by omega
                have q0' : z8.1.cell? ⟨bA, offA + (n + (m + 1)) * 2, none⟩ = some (.int .i64 q.1) := (HZ8.out.cell (p := ⟨bA, _, none⟩) hbA).trans q_0
                have q1' : z8.1.cell? ⟨bA, offA + (n + (m + 1)) * 2 + 1, none⟩ = some (.slice QS q.2.length qc) := (HZ8.out.cell (p := ⟨bA, _, none⟩) hbA).trans q_1
                have hqm := HVR.out.1 q (List.mem_of_getElem? hq)
                have hql := sepIn_len (fine_sepIn.1 hqm.2).1
                clear hq hqr hqm q_0 q_1
                by_cases q4 : q.1 = r.1 + ((m : Int) + 1)
                · have HNB2 := Lib.hid (show Nb rows n r.1 (m + 1) from fun e he => by
                    rcases Nat.lt_or_ge m e with h5 | h5
                    · have e5 : e = m + 1 := by omega
                      subst e5
                      exact ⟨p, q, hml, by rw [← HAE.out]; exact HPA.out, by omega, HQA.out, by omega⟩
                    · exact HNB.out e h5)
                  have HPX := Lib.hid (show rwAt rows (r.1 - ((m : Int) + 1)) = p.2 from by rw [← q2]; exact rwAt_of HVR.out HPA.out)
                  have HQX := Lib.hid (show rwAt rows (r.1 + ((m : Int) + 1)) = q.2 from by rw [← q4]; exact rwAt_of HVR.out HQA.out)
                  have hq2 : (p.1 == r.1 - ((m : Int) + 1)) = true := by rw [q2]; exact beq_self_eq_true _
                  have hq4 : (q.1 == r.1 + ((m : Int) + 1)) = true := by rw [q4]; exact beq_self_eq_true _
                  have hq1 : decide ((n : Int) - ((m : Int) + 1) < 0) = false := decide_eq_false q1
                  have hq3 : decide ((rows.length : Int) ≤ (n : Int) + ((m : Int) + 1)) = false := decide_eq_false q3
                  have HP8 := Lib.hid (HPR.out.below HZ8.out)
                  have HQ8 := Lib.hid (HQR.out.below HZ8.out)
                  have l3 := Nat.le_trans (shrinkL_len p.2 k) hpl
                  have l4 := Nat.le_trans (shrinkL_len q.2 k) hql
                  have l5 := sepIn_len (diaF_in HVR.out k0 k1 r.1 m)
                  have l6 := sepIn_len (diaF_in1 HVR.out k0 k1 r.1 m p.2)
                  have HDI := Lib.hid (show diaTo 1 (fun l _ => shrinkL l k) (rwAt rows) r.1 k (m + 1) = setop (opf 1) (setop (opf 1) (diaTo 1 (fun l _ => shrinkL l k) (rwAt rows) r.1 k m) (shrinkL p.2 k)) (shrinkL q.2 k) from by rw [← HPX.out, ← HQX.out]; rfl)
                  go_wp2
                  ((refine wp_region_kinK (W := (Kin.wd z8)) (by kernel_rfl) (by kernel_rfl) (by repeat (first | with_reducible (first | exact blA | exact blB | refine blC _ ?_ | refine blD ?_ ?_ _ | refine blE ?_ | refine blF _ ?_ | refine blG ?_ _ | refine blH ?_ | refine blI ?_ ?_ _) | (simp only [World.size_alloc]; omega) | (simp <;> omega))) ?_); (repeat' (first | go_big_quiet_step (fail) | ((refine wpQuiet_guard rfl rfl rfl rfl (fun hg => ?_) (fun hg => ?_)) <;> (fail_if_success (first | guard_hyp hg : true = true | guard_hyp hg : false = false)) <;> (try simp only [decide_eq_true_eq, decide_eq_false_iff_not] at hg) <;> simp only [Act.put, List.setIfInBounds_toArray, List.set_cons_zero, List.set_cons_succ]))); all_goals ((with_reducible refine wpQuiet_nil ?_); intro zq hz))
                  go_wp2_with (first
                    | (go_at_call 51; (with_reducible refine (Kin.callK (W := (Kin.wd z8)) (by repeat (first | with_reducible (first | exact blA | exact blB | refine blC _ ?_ | refine blD ?_ ?_ _ | refine blE ?_ | refine blF _ ?_ | refine blG ?_ _ | refine blH ?_ | refine blI ?_ ?_ _) | (simp only [World.size_alloc]; omega) | (simp <;> omega))) (shrinkR_from _ p.2 k _ (HP8.out.below (by repeat (first | with_reducible (first | exact blA | exact blB | refine blC _ ?_ | refine blD ?_ ?_ _ | refine blE ?_ | refine blF _ ?_ | refine blG ?_ _ | refine blH ?_ | refine blI ?_ ?_ _) | (simp only [World.size_alloc]; omega) | (simp <;> omega)))) (by omega))).mono ?_); rintro e w' ⟨z9, ⟨s1, rfl, hs1⟩, hz9, rfl⟩; (have HS1 := Lib.hid hs1; clear hs1))
                    | (go_at_call 52; (with_reducible refine (Kin.callK (W := (Kin.wd z8)) (by repeat (first | with_reducible (first | exact blA | exact blB | refine blC _ ?_ | refine blD ?_ ?_ _ | refine blE ?_ | refine blF _ ?_ | refine blG ?_ _ | refine blH ?_ | refine blI ?_ ?_ _) | (simp only [World.size_alloc]; omega) | (simp <;> omega))) (intersectR_from _ _ (diaTo 1 (fun l _ => shrinkL l k) (rwAt rows) r.1 k m) (shrinkL p.2 k) _ (HL.out.rd.below (by repeat (first | with_reducible (first | exact blA | exact blB | refine blC _ ?_ | refine blD ?_ ?_ _ | refine blE ?_ | refine blF _ ?_ | refine blG ?_ _ | refine blH ?_ | refine blI ?_ ?_ _) | (simp only [World.size_alloc]; omega) | (simp <;> omega)))) (HS1.out.rd.below (by repeat (first | with_reducible (first | exact blA | exact blB | refine blC _ ?_ | refine blD ?_ ?_ _ | refine blE ?_ | refine blF _ ?_ | refine blG ?_ _ | refine blH ?_ | refine blI ?_ ?_ _) | (simp only [World.size_alloc]; omega) | (simp <;> omega)))) (by omega) (by omega))).mono ?_); rintro e w' ⟨z10, ⟨s2, rfl, hs2⟩, hz10, rfl⟩; (have HS2 := Lib.hid hs2; clear hs2))
                    | (go_at_call 51; (with_reducible refine (Kin.callK (W := (Kin.wd z8)) (by repeat (first | with_reducible (first | exact blA | exact blB | refine blC _ ?_ | refine blD ?_ ?_ _ | refine blE ?_ | refine blF _ ?_ | refine blG ?_ _ | refine blH ?_ | refine blI ?_ ?_ _) | (simp only [World.size_alloc]; omega) | (simp <;> omega))) (shrinkR_from _ q.2 k _ (HQ8.out.below (by repeat (first | with_reducible (first | exact blA | exact blB | refine blC _ ?_ | refine blD ?_ ?_ _ | refine blE ?_ | refine blF _ ?_ | refine blG ?_ _ | refine blH ?_ | refine blI ?_ ?_ _) | (simp only [World.size_alloc]; omega) | (simp <;> omega)))) (by omega))).mono ?_); rintro e w' ⟨z12, ⟨s3, rfl, hs3⟩, hz12, rfl⟩; (have HS3 := Lib.hid hs3; have HS2 := Lib.hid (HS2.out.below hz12); clear hs3))
                    | (go_at_call 52; (with_reducible refine (Kin.callK (W := (Kin.wd z8)) (by repeat (first | with_reducible (first | exact blA | exact blB | refine blC _ ?_ | refine blD ?_ ?_ _ | refine blE ?_ | refine blF _ ?_ | refine blG ?_ _ | refine blH ?_ | refine blI ?_ ?_ _) | (simp only [World.size_alloc]; omega) | (simp <;> omega))) (intersectR_from _ _ (setop (opf 1) (diaTo 1 (fun l _ => shrinkL l k) (rwAt rows) r.1 k m) (shrinkL p.2 k)) (shrinkL q.2 k) _ (HS2.out.rd.below (by repeat (first | with_reducible (first | exact blA | exact blB | refine blC _ ?_ | refine blD ?_ ?_ _ | refine blE ?_ | refine blF _ ?_ | refine blG ?_ _ | refine blH ?_ | refine blI ?_ ?_ _) | (simp only [World.size_alloc]; omega) | (simp <;> omega)))) (HS3.out.rd.below (by repeat (first | with_reducible (first | exact blA | exact blB | refine blC _ ?_ | refine blD ?_ ?_ _ | refine blE ?_ | refine blF _ ?_ | refine blG ?_ _ | refine blH ?_ | refine blI ?_ ?_ _) | (simp only [World.size_alloc]; omega) | (simp <;> omega)))) (by omega) (by omega))).mono ?_); rintro e w' ⟨z13, ⟨s4, rfl, hs4⟩, hz13, rfl⟩; (have HS4 := Lib.hid hs4; clear hs4)))
                  go_roundw
                  case rel => exact ⟨m + 1, by omega, by go_num, Lib.hid (by rw [HDI.out]; exact HS4.out.less (by have := h86; exact Nat.le_trans this (Nat.le_trans z12.2.size (Nat.le_refl _)))), HNB2, ⟨z13.1, z8.2.trans (z13.2.mono z8.2.size)⟩, rfl⟩
                  case measure => simp [intOf]; omega
                · have HEM := Lib.hid (nb_high HVR.out HNB.out hlt2 (.inr ⟨q, HQA.out, q4⟩))
                  have hq2 : (p.1 == r.1 - ((m : Int) + 1)) = true := by rw [q2]; exact beq_self_eq_true _
                  have hq4 : (q.1 == r.1 + ((m : Int) + 1)) = false := by simpa using q4
                  have hq1 : decide ((n : Int) - ((m : Int) + 1) < 0) = false := decide_eq_false q1
                  have hq3 : decide ((rows.length : Int) ≤ (n : Int) + ((m : Int) + 1)) = false := decide_eq_false q3
                  go_wp2
                  ((refine wp_region_kinK (W := (Kin.wd z8)) (by kernel_rfl) (by kernel_rfl) (by repeat (first | with_reducible (first | exact blA | exact blB | refine blC _ ?_ | refine blD ?_ ?_ _ | refine blE ?_ | refine blF _ ?_ | refine blG ?_ _ | refine blH ?_ | refine blI ?_ ?_ _) | (simp only [World.size_alloc]; omega) | (simp <;> omega))) ?_); (repeat' (first | go_big_quiet_step (fail) | ((refine wpQuiet_guard rfl rfl rfl rfl (fun hg => ?_) (fun hg => ?_)) <;> (fail_if_success (first | guard_hyp hg : true = true | guard_hyp hg : false = false)) <;> (try simp only [decide_eq_true_eq, decide_eq_false_iff_not] at hg) <;> simp only [Act.put, List.setIfInBounds_toArray, List.set_cons_zero, List.set_cons_succ]))); all_goals ((with_reducible refine wpQuiet_nil ?_); intro zq hz))
                  all_goals
                    have hBq : Below y6.1.heap.size y6.1 zq.1 := HYZ.out.trans ((z8.2.trans (zq.2.mono z8.2.size)).mono HYZ.out.size)
                    have hne := HEM.out k1
                    go_wp2
                    go_roundw
                    case rel => exact ⟨n + 1, by omega, by go_num, _, Lib.hid (by rw [map_take_snoc Hr.out, rowsOn_snoc, hne]; simpa using HO.out.below hBq), Lib.hid (HP6.out.below hBq), Lib.hid (y6.2.trans (hBq.mono y6.2.size))⟩
                    case measure => simp [intOf]; omega
            · have HEM := Lib.hid (nb_low HVR.out HNB.out hlt2 (.inr ⟨p, hml, by rw [← HAE.out]; exact HPA.out, q2⟩))
              have hq1 : decide ((n : Int) - ((m : Int) + 1) < 0) = false := decide_eq_false q1
              have hq2 : (p.1 != r.1 - ((m : Int) + 1)) = true := by simpa using q2
              go_wp2
              ((refine wp_region_kinK (W := (Kin.wd z8)) (by kernel_rfl) (by kernel_rfl) (by repeat (first | with_reducible (first | exact blA | exact blB | refine blC _ ?_ | refine blD ?_ ?_ _ | refine blE ?_ | refine blF _ ?_ | refine blG ?_ _ | refine blH ?_ | refine blI ?_ ?_ _) | (simp only [World.size_alloc]; omega) | (simp <;> omega))) ?_); (repeat' (first | go_big_quiet_step (fail) | ((refine wpQuiet_guard rfl rfl rfl rfl (fun hg => ?_) (fun hg => ?_)) <;> (fail_if_success (first | guard_hyp hg : true = true | guard_hyp hg : false = false)) <;> (try simp only [decide_eq_true_eq, decide_eq_false_iff_not] at hg) <;> simp only [Act.put, List.setIfInBounds_toArray, List.set_cons_zero, List.set_cons_succ]))); all_goals ((with_reducible refine wpQuiet_nil ?_); intro zq hz))
              all_goals
                have hBq : Below y6.1.heap.size y6.1 zq.1 := HYZ.out.trans ((z8.2.trans (zq.2.mono z8.2.size)).mono HYZ.out.size)
                have hne := HEM.out k1
                go_wp2
                go_roundw
                case rel => exact ⟨n + 1, by omega, by go_num, _, Lib.hid (by rw [map_take_snoc Hr.out, rowsOn_snoc, hne]; simpa using HO.out.below hBq), Lib.hid (HP6.out.below hBq), Lib.hid (y6.2.trans (hBq.mono y6.2.size))⟩
                case measure => simp [intOf]; omega
        · have em : m = k.toNat := by omega
          have hM2 := HL.out
          rw [em] at hM2
          rw [dia_ero HVR.out k0 k1] at hM2
          have HM2 := Lib.hid hM2
          have hrd := hM2.rd
          have hrd2 : Rd 2 encRun z8.1 _ (eroW rows k r.1) := hrd
          obtain ⟨L, capL, rfl, hcapL, _⟩ := hrd2.open_
          have HRC := Lib.hid hrd2
          have hb68 : Below y6.1.heap.size y6.1 z8.1 := HYZ.out.trans (z8.2.mono HYZ.out.size)
          have HB8 := Lib.hid hb68
          have HP8 := Lib.hid (HP6.out.below hb68)
          have p0 : z8.1.cell? ⟨z.1.heap.size, 0, none⟩ = some (.slice AS nS cS) := HP8.out.cell 0
          have pl8 := HP8.out.lt
          have g8 : z8.1.cell? ⟨y6.1.heap.size, 0, none⟩ = some (.int .i64 r.1) := (z8.cell gl).trans g0
          have g8l := z8.lt0 gl
          have hbz : z.1.heap.size + 1 ≤ z8.1.heap.size := pl8
          clear hM2 hrd hrd2 em hb68
          go_wp2_with (at_builtin; refine wpList_app _ rfl _ _ 22 rfl encRow_len (by decide) oneRow (z.1.heap.size + 1) 47 (.agg #[.int .i64 0, .slice none 0 0]) 32 infoRow rfl Try.underlying22 _ _ _ _ rfl ((own_below HOW.out HB8.out).alloc _) _ _ _ rfl (rd_one _ encRow_len _ (hd r.1 L (eroW rows k r.1).length capL) _ rfl) ?c1 (by decide) ?c2 ?_; (case c1 => (first | (simp only [List.length_append, List.length_cons, List.length_nil]; omega) | omega | (simp; omega))); (case c2 => exact (by repeat (first | with_reducible exact Nat.le_refl _ | assumption | with_reducible refine le_alloc ?_ _ | with_reducible refine le_drew ?_ | with_reducible refine Kin.le _ ?_ | assumption | omega | (simp only [World.size_alloc]; omega)))); intro v' w1 hown' hg hbel hat'; ((obtain ⟨AV, nV, cV, rfl⟩ := own_slice hown'); have hPn : Blk (z8.1.alloc (.cells #[.int .i64 r.1, .slice L (eroW rows k r.1).length capL] 47)) z.1.heap.size 24 #[.slice AS nS cS] := HP8.out.below (Below.alloc (Below.refl _ _) (Nat.le_refl _) _); have HP1 := Lib.hid (hPn.grown hg (Ne.symm (own_ne ((own_below HOW.out HB8.out).alloc _) hPn (by decide)))); have p1 : w1.cell? ⟨z.1.heap.size, 0, none⟩ = some (.slice AS nS cS) := HP1.out.cell 0; have pf1 : w1.frozen? ⟨z.1.heap.size, 0, none⟩ = false := HP1.out.frozen 0; have pl1 := HP1.out.lt; have HFR := HM2.out.new_ (v2 := .slice AS nS cS) (Nat.le_refl _) (fun q e => (HOW.out.lt q e).2); have HPU := Lib.hid (OwnRows.push ((own_below HOW.out HB8.out).alloc _) ((HNE.out.below HB8.out).below (Below.alloc (Below.refl _ _) (Nat.le_refl _) _)) HAP.out hown' hg hat' (HRC.out.below (by repeat (first | with_reducible (first | exact blA | exact blB | refine blC _ ?_ | refine blD ?_ ?_ _ | refine blE ?_ | refine blF _ ?_ | refine blG ?_ _ | refine blH ?_ | refine blI ?_ ?_ _) | (simp only [World.size_alloc]; omega) | (simp <;> omega)))) HFR hPn); have HBE := Lib.hid hbel; clear hown' hg hbel hat' HFR))
          · have hne : (eroW rows k r.1).isEmpty = false := by
              rw [List.isEmpty_eq_false_iff]; intro e; have : (eroW rows k r.1).length = 0 := (by rw [e]; rfl); omega
            have hb5 : Below z.1.heap.size z.1 w1 := (Below.alloc (y6.2.trans (HB8.out.mono y6.2.size)) (Nat.le_of_succ_le hbz) _).trans (HBE.out.mono (Nat.le_succ _))
            go_roundw
            case rel => exact ⟨n + 1, by omega, by go_num, _, Lib.hid (by rw [map_take_snoc Hr.out, rowsOn_snoc, hne]; exact HPU.out.1), Lib.hid HPU.out.2, Lib.hid (Below.setCell hb5 (Nat.le_refl _) _)⟩
            case measure => simp [intOf]; omega
          · rename_i h0
            have hne : (eroW rows k r.1).isEmpty = true := by
              rw [List.isEmpty_iff]; exact List.eq_nil_of_length_eq_zero (by omega)
            go_roundw
            case rel => exact ⟨n + 1, by omega, by go_num, _, Lib.hid (by rw [map_take_snoc Hr.out, rowsOn_snoc, hne]; simpa using HO.out.below HB8.out), HP8, Lib.hid (y6.2.trans (HB8.out.mono y6.2.size))⟩
            case measure => simp [intOf]; omega
    · have en : n = rows.length := by omega
      obtain ⟨hs, hown, _⟩ := HO.out
      obtain ⟨AS, nS, cS, rfl⟩ := own_slice hown
      have p0 : y6.1.cell? ⟨z.1.heap.size, 0, none⟩ = some (.slice AS nS cS) := HP6.out.cell 0
      have pl := HP6.out.lt
      have B36 := Lib.hid (hB.out.below y6.2)
      have q0 : y6.1.cell? ⟨w.heap.size + 1, 0, none⟩ = some (.slice none 0 0) := B36.out.cell 0
      have qf : y6.1.frozen? ⟨w.heap.size + 1, 0, none⟩ = false := B36.out.frozen 0
      have ql := B36.out.lt
      have HEN := Lib.hid (show (rows.map (·.1)).take n = rows.map (·.1) from by rw [en]; exact List.take_of_length_le (by simp))
      clear hown en
      go_wp2
      ((try simp only [Exit.inBlock, Exit.then]); refine bodyPost_ret (results_cell_row rfl _ _ _ _ _ (0, 0) _ rfl (B36.out.set_ 0 _) Try.underlying24 rfl (by kernel_rfl)) rfl ?_)
      refine ⟨⟨_, _, _, rfl, ?_⟩, (by repeat (first | with_reducible (first | exact blA | exact blB | refine blC _ ?_ | refine blD ?_ ?_ _ | refine blE ?_ | refine blF _ ?_ | refine blG ?_ _ | refine blH ?_ | refine blI ?_ ?_ _) | (simp only [World.size_alloc]; omega) | (simp <;> omega)))⟩
      rw [HE.out, ← HEN.out]
      exact (HO.out.set_ (i := 0) (u := .slice AS nS cS) B36.out (by decide)).reg
end Go.Proofs.Ytjppaknajdbkgaa
/- What the chapter's Open, Close and Ring return. -/
namespace Go.Proofs.Ytjppaknajdbkgaa
set_option linter.unusedSimpArgs false
set_option linter.unusedVariables false
open Go.RowKit Runs Reg
attribute [local go_sem] Kin.cell Kin.frozen Kin.lt0 Kin.lt1 Kin.lt2 Kin.lt3 run_mkf
set_option maxRecDepth 100000 in
set_option maxHeartbeats 8000000 in
theorem ropen_any (v : Value) (rows : List Reg.Row) (k : Int) (w : World) (h : RdReg w v rows) (hbd : RBd rows) :
    Calls Try.prog 24 #[v, .int .i64 k] w fun e w' => (∃ A n c, e = .returned (.agg #[.slice A n c]) ∧ RdReg w' (.agg #[.slice A n c]) (opnR rows k)) ∧ Below w.heap.size w w' := by
  have H := Lib.hid h
  have Hbd := Lib.hid hbd
  obtain ⟨A, capA, rfl⟩ := h.slice_
  clear h hbd
  go_enter Try.func24, Try.ntmps24
  go_wp2_with (first
    | (go_at_call 22; (with_reducible refine (Kin.callK (W := (w.alloc (.cells #[.slice A rows.length capA] 24)).alloc (.cells #[.slice none 0 0] 24)) (by repeat (first | with_reducible (first | exact blA | exact blB | refine blC _ ?_ | refine blD ?_ ?_ _ | refine blE ?_ | refine blF _ ?_ | refine blG ?_ _ | refine blH ?_ | refine blI ?_ ?_ _) | (simp only [World.size_alloc]; omega) | (simp <;> omega))) (rero_any _ rows k _ (H.out.below (by repeat (first | with_reducible (first | exact blA | exact blB | refine blC _ ?_ | refine blD ?_ ?_ _ | refine blE ?_ | refine blF _ ?_ | refine blG ?_ _ | refine blH ?_ | refine blI ?_ ?_ _) | (simp only [World.size_alloc]; omega) | (simp <;> omega)))) Hbd.out)).mono ?_); rintro e w' ⟨z, ⟨E, nE, cE, rfl, he⟩, hz, rfl⟩; (have HE := Lib.hid he; clear he))
    | (go_at_call 17; (with_reducible refine (Kin.callK (W := (w.alloc (.cells #[.slice A rows.length capA] 24)).alloc (.cells #[.slice none 0 0] 24)) (by repeat (first | with_reducible (first | exact blA | exact blB | refine blC _ ?_ | refine blD ?_ ?_ _ | refine blE ?_ | refine blF _ ?_ | refine blG ?_ _ | refine blH ?_ | refine blI ?_ ?_ _) | (simp only [World.size_alloc]; omega) | (simp <;> omega))) (rdil_any _ (eroR rows k) k _ (HE.out.below (by repeat (first | with_reducible (first | exact blA | exact blB | refine blC _ ?_ | refine blD ?_ ?_ _ | refine blE ?_ | refine blF _ ?_ | refine blG ?_ _ | refine blH ?_ | refine blI ?_ ?_ _) | (simp only [World.size_alloc]; omega) | (simp <;> omega)))) (rvalid_bd (eroR_valid rows k)))).mono ?_); rintro e w' ⟨z2, ⟨D, nD, cD, rfl, hd⟩, hz2, rfl⟩; (have HD := Lib.hid hd; have hB := Lib.hid z2.boxes2.2; have q0 : (Kin.wd z2).cell? ⟨w.heap.size + 1, 0, none⟩ = some (.slice none 0 0) := hB.out.cell 0; have qf : (Kin.wd z2).frozen? ⟨w.heap.size + 1, 0, none⟩ = false := hB.out.frozen 0; have ql := hB.out.lt; have ql1 := Nat.lt_succ_of_lt ql; clear hd)))
  ((try simp only [Exit.inBlock, Exit.then]); refine bodyPost_ret (results_cell_row rfl _ _ _ _ _ (0, 0) _ rfl (((hB.out.set_ 0 _).below (Below.alloc (Below.refl _ _) (Nat.le_refl _) _))) Try.underlying24 rfl (by kernel_rfl)) rfl ?_)
  exact ⟨⟨_, _, _, rfl, (HD.out.set_ hB.out).below (Below.alloc (Below.refl _ _) (Nat.le_refl _) _)⟩, (by repeat (first | with_reducible (first | exact blA | exact blB | refine blC _ ?_ | refine blD ?_ ?_ _ | refine blE ?_ | refine blF _ ?_ | refine blG ?_ _ | refine blH ?_ | refine blI ?_ ?_ _) | (simp only [World.size_alloc]; omega) | (simp <;> omega)))⟩
set_option maxRecDepth 100000 in
set_option maxHeartbeats 8000000 in
theorem rclose_any (v : Value) (rows : List Reg.Row) (k : Int) (w : World) (h : RdReg w v rows) (hbd : RBd rows) :
    Calls Try.prog 19 #[v, .int .i64 k] w fun e w' => (∃ A n c, e = .returned (.tuple #[.agg #[.slice A n c], .int .i64 (dilE rows k)]) ∧ RdReg w' (.agg #[.slice A n c]) (cloR rows k)) ∧ Below w.heap.size w w' := by
  have H := Lib.hid h
  have Hbd := Lib.hid hbd
  obtain ⟨A, capA, rfl⟩ := h.slice_
  clear h hbd
  rcases dilE_three rows k with hE | hE | hE
  · have e2 : cloR rows k = eroR (dilR rows k) k := by unfold cloR; rw [if_pos hE]
    rw [hE, e2]
    clear e2
    go_enter Try.func19, Try.ntmps19
    go_wp2_with (first
      | (go_at_call 17; (with_reducible refine (Kin.callK (W := (w.alloc (.cells #[.slice A rows.length capA] 24)).alloc (.cells #[.slice none 0 0] 24)) (by repeat (first | with_reducible (first | exact blA | exact blB | refine blC _ ?_ | refine blD ?_ ?_ _ | refine blE ?_ | refine blF _ ?_ | refine blG ?_ _ | refine blH ?_ | refine blI ?_ ?_ _) | (simp only [World.size_alloc]; omega) | (simp <;> omega))) (rdil_is _ rows k _ (H.out.below (by repeat (first | with_reducible (first | exact blA | exact blB | refine blC _ ?_ | refine blD ?_ ?_ _ | refine blE ?_ | refine blF _ ?_ | refine blG ?_ _ | refine blH ?_ | refine blI ?_ ?_ _) | (simp only [World.size_alloc]; omega) | (simp <;> omega)))) Hbd.out hE)).mono ?_); rintro e w' ⟨z, ⟨D, nD, cD, rfl, hd⟩, hz, rfl⟩; (have HD := Lib.hid hd; clear hd))
      | (go_at_call 22; (with_reducible refine (Kin.callK (W := (w.alloc (.cells #[.slice A rows.length capA] 24)).alloc (.cells #[.slice none 0 0] 24)) (by repeat (first | with_reducible (first | exact blA | exact blB | refine blC _ ?_ | refine blD ?_ ?_ _ | refine blE ?_ | refine blF _ ?_ | refine blG ?_ _ | refine blH ?_ | refine blI ?_ ?_ _) | (simp only [World.size_alloc]; omega) | (simp <;> omega))) (rero_any _ (dilR rows k) k _ (HD.out.below (by repeat (first | with_reducible (first | exact blA | exact blB | refine blC _ ?_ | refine blD ?_ ?_ _ | refine blE ?_ | refine blF _ ?_ | refine blG ?_ _ | refine blH ?_ | refine blI ?_ ?_ _) | (simp only [World.size_alloc]; omega) | (simp <;> omega)))) (rvalid_bd (dilR_valid rows k)))).mono ?_); rintro e w' ⟨z2, ⟨E, nE, cE, rfl, he⟩, hz2, rfl⟩; (have HEE := Lib.hid he; have hB := Lib.hid z2.boxes2.2; have q0 : (Kin.wd z2).cell? ⟨w.heap.size + 1, 0, none⟩ = some (.slice none 0 0) := hB.out.cell 0; have qf : (Kin.wd z2).frozen? ⟨w.heap.size + 1, 0, none⟩ = false := hB.out.frozen 0; have ql := hB.out.lt; clear he)))
    ((try simp only [Exit.inBlock, Exit.then]); refine bodyPost_ret (results_cell_t rfl _ _ (0, 0) rfl (hB.out.set_ 0 _) Try.underlying24 rfl (by kernel_rfl)) rfl ?_)
    exact ⟨⟨_, _, _, rfl, HEE.out.set_ hB.out⟩, (by repeat (first | with_reducible (first | exact blA | exact blB | refine blC _ ?_ | refine blD ?_ ?_ _ | refine blE ?_ | refine blF _ ?_ | refine blG ?_ _ | refine blH ?_ | refine blI ?_ ?_ _) | (simp only [World.size_alloc]; omega) | (simp <;> omega)))⟩
  all_goals
    have e2 : cloR rows k = [] := by unfold cloR; rw [if_neg (by rw [hE]; decide)]
    rw [hE, e2]
    clear e2
    go_enter Try.func19, Try.ntmps19
    go_wp2_with (go_at_call 17; (with_reducible refine (Kin.callK (W := (w.alloc (.cells #[.slice A rows.length capA] 24)).alloc (.cells #[.slice none 0 0] 24)) (by repeat (first | with_reducible (first | exact blA | exact blB | refine blC _ ?_ | refine blD ?_ ?_ _ | refine blE ?_ | refine blF _ ?_ | refine blG ?_ _ | refine blH ?_ | refine blI ?_ ?_ _) | (simp only [World.size_alloc]; omega) | (simp <;> omega))) (rdil_is _ rows k _ (H.out.below (by repeat (first | with_reducible (first | exact blA | exact blB | refine blC _ ?_ | refine blD ?_ ?_ _ | refine blE ?_ | refine blF _ ?_ | refine blG ?_ _ | refine blH ?_ | refine blI ?_ ?_ _) | (simp only [World.size_alloc]; omega) | (simp <;> omega)))) Hbd.out hE)).mono ?_); rintro e w' ⟨z, ⟨D, nD, cD, rfl, hd⟩, hz, rfl⟩; (have hB := Lib.hid z.boxes2.2; have q0 : (Kin.wd z).cell? ⟨w.heap.size + 1, 0, none⟩ = some (.slice none 0 0) := hB.out.cell 0; have qf : (Kin.wd z).frozen? ⟨w.heap.size + 1, 0, none⟩ = false := hB.out.frozen 0; have ql := hB.out.lt; have ql1 := Nat.lt_succ_of_lt ql; clear hd))
    ((try simp only [Exit.inBlock, Exit.then]); refine bodyPost_ret (results_cell_t rfl _ _ (0, 0) rfl ((hB.out.set_ 0 _).below (Below.alloc (Below.refl _ _) (Nat.le_refl _) _)) Try.underlying24 rfl (by kernel_rfl)) rfl ?_)
    exact ⟨⟨_, _, _, rfl, RdReg.nil⟩, (by repeat (first | with_reducible (first | exact blA | exact blB | refine blC _ ?_ | refine blD ?_ ?_ _ | refine blE ?_ | refine blF _ ?_ | refine blG ?_ _ | refine blH ?_ | refine blI ?_ ?_ _) | (simp only [World.size_alloc]; omega) | (simp <;> omega)))⟩
set_option maxRecDepth 100000 in
set_option maxHeartbeats 8000000 in
theorem rring_any (v : Value) (rows : List Reg.Row) (w : World) (h : RdReg w v rows) (hbd : RBd rows) :
    Calls Try.prog 26 #[v] w fun e w' => (∃ A n c, e = .returned (.agg #[.slice A n c]) ∧ RdReg w' (.agg #[.slice A n c]) (rop (opf 0) rows (eroR rows 1))) ∧ Below w.heap.size w w' := by
  have H := Lib.hid h
  have Hbd := Lib.hid hbd
  obtain ⟨A, capA, rfl⟩ := h.slice_
  clear h hbd
  go_enter Try.func26, Try.ntmps26
  go_wp2
  obtain ⟨yb, hX⟩ : ∃ yb : Kin w, yb.1 = (w.alloc (.cells #[.slice A rows.length capA] 24)).alloc (.cells #[.slice none 0 0] 24) := ⟨⟨(w.alloc (.cells #[.slice A rows.length capA] 24)).alloc (.cells #[.slice none 0 0] 24), (by repeat (first | with_reducible (first | exact blA | exact blB | refine blC _ ?_ | refine blD ?_ ?_ _ | refine blE ?_ | refine blF _ ?_ | refine blG ?_ _ | refine blH ?_ | refine blI ?_ ?_ _) | (simp only [World.size_alloc]; omega) | (simp <;> omega)))⟩, rfl⟩
  rw [← hX]
  have HA := Lib.hid (show Blk yb.1 w.heap.size 24 #[.slice A rows.length capA] from hX ▸ (Blk.new w _ _).below (Below.alloc (Below.refl _ _) (Nat.le_refl _) _))
  have HB := Lib.hid (show Blk yb.1 (w.heap.size + 1) 24 #[.slice none 0 0] from hX ▸ (by have h := Blk.new (w.alloc (.cells #[.slice A rows.length capA] 24)) 24 #[.slice none 0 0]; simpa using h))
  have k0 : yb.1.cell? ⟨w.heap.size, 0, none⟩ = some (.slice A rows.length capA) := HA.out.cell 0
  have kl := HA.out.lt
  have kb := HB.out.lt
  clear hX
  go_region_held (fun w' => w'.cell? ⟨w.heap.size, 0, none⟩ = some (.slice A rows.length capA)) (first | assumption | (refine (Kin.cell (W := (Kin.wd yb)) _ ?_).trans ?_ <;> assumption) | simp [*, World.cell?_alloc_some, World.cell?_setCell_far] | ((refine (World.cell?_setCell_other (by simp)).trans ?_); first | assumption | simp [*])) (first
    | (go_at_call 22; (with_reducible refine (Kin.callK (W := (Kin.wd yb)) (by repeat (first | with_reducible (first | exact blA | exact blB | refine blC _ ?_ | refine blD ?_ ?_ _ | refine blE ?_ | refine blF _ ?_ | refine blG ?_ _ | refine blH ?_ | refine blI ?_ ?_ _) | (simp only [World.size_alloc]; omega) | (simp <;> omega))) (rero_any _ rows 1 _ (H.out.below (by repeat (first | with_reducible (first | exact blA | exact blB | refine blC _ ?_ | refine blD ?_ ?_ _ | refine blE ?_ | refine blF _ ?_ | refine blG ?_ _ | refine blH ?_ | refine blI ?_ ?_ _) | (simp only [World.size_alloc]; omega) | (simp <;> omega)))) Hbd.out)).mono ?_); rintro e w' ⟨z, ⟨E, nE, cE, rfl, he⟩, hz, rfl⟩; (have HE := Lib.hid he; clear he))
    | (go_at_call 54; (with_reducible refine (Kin.callK (W := (Kin.wd yb)) (by repeat (first | with_reducible (first | exact blA | exact blB | refine blC _ ?_ | refine blD ?_ ?_ _ | refine blE ?_ | refine blF _ ?_ | refine blG ?_ _ | refine blH ?_ | refine blI ?_ ?_ _) | (simp only [World.size_alloc]; omega) | (simp <;> omega))) (subtract18_two _ _ rows (eroR rows 1) _ (H.out.below (by repeat (first | with_reducible (first | exact blA | exact blB | refine blC _ ?_ | refine blD ?_ ?_ _ | refine blE ?_ | refine blF _ ?_ | refine blG ?_ _ | refine blH ?_ | refine blI ?_ ?_ _) | (simp only [World.size_alloc]; omega) | (simp <;> omega)))) (HE.out.below (by repeat (first | with_reducible (first | exact blA | exact blB | refine blC _ ?_ | refine blD ?_ ?_ _ | refine blE ?_ | refine blF _ ?_ | refine blG ?_ _ | refine blH ?_ | refine blI ?_ ?_ _) | (simp only [World.size_alloc]; omega) | (simp <;> omega)))) Hbd.out (rvalid_bd (eroR_valid rows 1)))).mono ?_); rintro e w' ⟨z2, ⟨R, nR, cR, rfl, hn, hr⟩, hz2, rfl⟩; (have HR := Lib.hid hr; have hB2 := Lib.hid (HB.out.below z2.2); have q0 : (Kin.wd z2).cell? ⟨w.heap.size + 1, 0, none⟩ = some (.slice none 0 0) := hB2.out.cell 0; have qf : (Kin.wd z2).frozen? ⟨w.heap.size + 1, 0, none⟩ = false := hB2.out.frozen 0; have ql := hB2.out.lt; have t1 : ((Kin.wd z2).setCell ⟨w.heap.size + 1, 0, none⟩ (.slice R nR cR)).cell? ⟨w.heap.size, 0, none⟩ = some (.slice A rows.length capA) := ((World.cell?_setCell_far _ _ _ _ (Nat.succ_ne_self _))).trans ((z2.cell kl).trans k0); clear hr hn)))
  all_goals
    go_wp2
    ((try simp only [Exit.inBlock, Exit.then]); refine bodyPost_ret (results_cell_row rfl _ _ _ _ _ (0, 0) _ rfl (hB2.out.set_ 0 _) Try.underlying24 rfl (by kernel_rfl)) rfl ?_)
    exact ⟨⟨_, _, _, rfl, HR.out.set_ hB2.out⟩, Below.setCell (yb.2.trans (z2.2.mono yb.2.size)) (Nat.le_succ _) _⟩
end Go.Proofs.Ytjppaknajdbkgaa
