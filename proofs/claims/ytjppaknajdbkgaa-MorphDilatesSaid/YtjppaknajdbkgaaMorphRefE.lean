/- What the chapter's ErodeCross returns. -/
import Derived.Test.YtjppaknajdbkgaaMorphEcr
import Derived.Test.YtjppaknajdbkgaaMorphRefD
namespace Go.Proofs.Ytjppaknajdbkgaa
set_option linter.unusedSimpArgs false
set_option linter.unusedVariables false
open Go.RowKit Runs Reg
attribute [local go_sem] Kin.cell Kin.frozen Kin.lt0 Kin.lt1 Kin.lt2 Kin.lt3 run_mkf
/-- a list that the call owns from B on, at least from a given block on -/
def OwnFrom (n : Nat) (W : World) (v : Value) (l : List Run) : Prop := ∃ B, n ≤ B ∧ W.ownsRow B 61 2 v l.length (l.flatMap encRun)
theorem OwnFrom.below {n : Nat} {W W' : World} {v : Value} {l : List Run} (h : OwnFrom n W v l) (hb : Below W.heap.size W W') : OwnFrom n W' v l := by
  obtain ⟨B, h1, h2⟩ := h
  exact ⟨B, h1, own_below h2 hb⟩
theorem OwnFrom.rd {n : Nat} {W : World} {v : Value} {l : List Run} (h : OwnFrom n W v l) : Rd 2 encRun W v l := by
  obtain ⟨B, _, h2⟩ := h
  exact Rd.own encRun_len h2
theorem OwnFrom.less {n m : Nat} {W : World} {v : Value} {l : List Run} (h : OwnFrom n W v l) (hm : m ≤ n) : OwnFrom m W v l := by
  obtain ⟨B, h1, h2⟩ := h
  exact ⟨B, Nat.le_trans hm h1, h2⟩
theorem OwnFrom.new_ {n m : Nat} {W : World} {v v2 : Value} {l : List Run} (h : OwnFrom n W v l) (hm : m ≤ n) (hlt : ∀ b, v2.ownBlock = some b → b < m) : l = [] ∨ v.ownBlock ≠ v2.ownBlock := by
  obtain ⟨B, h1, h2⟩ := h
  exact (own_new h2 (Nat.le_trans hm h1) hlt).imp List.eq_nil_of_length_eq_zero id
theorem shrinkR_from (v : Value) (l : List Run) (k : Int) (w : World) (h : Rd 2 encRun w v l) (hlen : l.length ≤ 68719476736) :
    Calls Try.prog 51 #[v, .int .i64 k] w fun e w' => (∃ u, e = .returned u ∧ OwnFrom w.heap.size w' u (shrinkL l k)) ∧ Below w.heap.size w w' :=
  (shrinkR_any v l k w h hlen).mono fun e w' ⟨⟨u, he, hu⟩, hb⟩ => ⟨⟨u, he, _, Nat.le_refl _, hu⟩, hb⟩
theorem intersectR_from (v u : Value) (a b : List Run) (w : World) (h : Rd 2 encRun w v a) (h' : Rd 2 encRun w u b) (hlen : a.length ≤ 17179869184) (hlen' : b.length ≤ 17179869184) :
    Calls Try.prog 52 #[v, u] w fun e w' => (∃ u, e = .returned u ∧ OwnFrom w.heap.size w' u (setop (opf 1) a b)) ∧ Below w.heap.size w w' :=
  (intersectR_own v u a b w h h' hlen hlen').mono fun e w' ⟨⟨u, B, he, hB, hu⟩, hb⟩ => ⟨⟨u, he, B, hB, hu⟩, hb⟩
set_option maxRecDepth 100000 in
set_option maxHeartbeats 16000000 in
theorem recr_any (v : Value) (rows : List Reg.Row) (k : Int) (w : World) (h : RdReg w v rows) (hbd : RBd rows) :
    Calls Try.prog 30 #[v, .int .i64 k] w fun e w' => (∃ A n c, e = .returned (.agg #[.slice A n c]) ∧ RdReg w' (.agg #[.slice A n c]) (ecrR rows k)) ∧ Below w.heap.size w w' := by
  have H := Lib.hid h
  have Hbd := Lib.hid hbd
  obtain ⟨A, capA, rfl⟩ := h.slice_
  clear h hbd
  cases hv : rvalid rows
  · rw [ecr_no (by rw [hv, Bool.and_false])]
    go_enter Try.func30, Try.ntmps30
    go_wp2_with (go_at_call 31; (with_reducible refine (Kin.callK (W := (w.alloc (.cells #[.slice A rows.length capA] 24)).alloc (.cells #[.slice none 0 0] 24)) (by repeat (first | with_reducible (first | exact blA | exact blB | refine blC _ ?_ | refine blD ?_ ?_ _ | refine blE ?_ | refine blF _ ?_ | refine blG ?_ _ | refine blH ?_ | refine blI ?_ ?_ _) | (simp only [World.size_alloc]; omega) | (simp <;> omega))) (valid18_is _ rows _ (H.out.below (by repeat (first | with_reducible (first | exact blA | exact blB | refine blC _ ?_ | refine blD ?_ ?_ _ | refine blE ?_ | refine blF _ ?_ | refine blG ?_ _ | refine blH ?_ | refine blI ?_ ?_ _) | (simp only [World.size_alloc]; omega) | (simp <;> omega)))) Hbd.out hv)).mono ?_); rintro e w' ⟨z, rfl, hz, rfl⟩)
    ((try simp only [Exit.inBlock, Exit.then]); refine bodyPost_ret (results_cell_row rfl _ _ _ _ _ (0, 0) _ rfl (z.boxes2.2.set_ 0 _) Try.underlying24 rfl (by kernel_rfl)) rfl ?_)
    exact ⟨⟨_, _, _, rfl, RdReg.nil⟩, (by repeat (first | with_reducible (first | exact blA | exact blB | refine blC _ ?_ | refine blD ?_ ?_ _ | refine blE ?_ | refine blF _ ?_ | refine blG ?_ _ | refine blH ?_ | refine blI ?_ ?_ _) | (simp only [World.size_alloc]; omega) | (simp <;> omega)))⟩
  cases hk : reachOk k
  · rw [ecr_no (by rw [hk]; rfl)]
    go_enter Try.func30, Try.ntmps30
    go_wp2_with (first | (go_at_call 31; (with_reducible refine (Kin.callK (W := (w.alloc (.cells #[.slice A rows.length capA] 24)).alloc (.cells #[.slice none 0 0] 24)) (by repeat (first | with_reducible (first | exact blA | exact blB | refine blC _ ?_ | refine blD ?_ ?_ _ | refine blE ?_ | refine blF _ ?_ | refine blG ?_ _ | refine blH ?_ | refine blI ?_ ?_ _) | (simp only [World.size_alloc]; omega) | (simp <;> omega))) (valid18_is _ rows _ (H.out.below (by repeat (first | with_reducible (first | exact blA | exact blB | refine blC _ ?_ | refine blD ?_ ?_ _ | refine blE ?_ | refine blF _ ?_ | refine blG ?_ _ | refine blH ?_ | refine blI ?_ ?_ _) | (simp only [World.size_alloc]; omega) | (simp <;> omega)))) Hbd.out hv)).mono ?_); rintro e w' ⟨z, rfl, hz, rfl⟩) | (go_at_call 46; (with_reducible refine (Kin.callK (W := (w.alloc (.cells #[.slice A rows.length capA] 24)).alloc (.cells #[.slice none 0 0] 24)) (by repeat (first | with_reducible (first | exact blA | exact blB | refine blC _ ?_ | refine blD ?_ ?_ _ | refine blE ?_ | refine blF _ ?_ | refine blG ?_ _ | refine blH ?_ | refine blI ?_ ?_ _) | (simp only [World.size_alloc]; omega) | (simp <;> omega))) (reach20_is k _ hk)).mono ?_); rintro e w' ⟨z, rfl, hz, rfl⟩))
    ((try simp only [Exit.inBlock, Exit.then]); refine bodyPost_ret (results_cell_row rfl _ _ _ _ _ (0, 0) _ rfl (z.boxes2.2.set_ 0 _) Try.underlying24 rfl (by kernel_rfl)) rfl ?_)
    exact ⟨⟨_, _, _, rfl, RdReg.nil⟩, (by repeat (first | with_reducible (first | exact blA | exact blB | refine blC _ ?_ | refine blD ?_ ?_ _ | refine blE ?_ | refine blF _ ?_ | refine blG ?_ _ | refine blH ?_ | refine blI ?_ ?_ _) | (simp only [World.size_alloc]; omega) | (simp <;> omega)))⟩
  have HE := Lib.hid (show ecrR rows k = rowsOn (ecrW rows k) (rows.map (·.1)) from by unfold ecrR; rw [hk, hv]; rfl)
  obtain ⟨k0, k1⟩ := reach_iff.1 hk
  have HVR := Lib.hid (rvalid_iff.1 hv)
  have hlr := (vreg_len (rvalid_iff.1 hv)).1
  go_enter Try.func30, Try.ntmps30
  go_wp2_with (first
    | (go_at_call 31; (with_reducible refine (Kin.callK (W := (w.alloc (.cells #[.slice A rows.length capA] 24)).alloc (.cells #[.slice none 0 0] 24)) (by repeat (first | with_reducible (first | exact blA | exact blB | refine blC _ ?_ | refine blD ?_ ?_ _ | refine blE ?_ | refine blF _ ?_ | refine blG ?_ _ | refine blH ?_ | refine blI ?_ ?_ _) | (simp only [World.size_alloc]; omega) | (simp <;> omega))) (valid18_is _ rows _ (H.out.below (by repeat (first | with_reducible (first | exact blA | exact blB | refine blC _ ?_ | refine blD ?_ ?_ _ | refine blE ?_ | refine blF _ ?_ | refine blG ?_ _ | refine blH ?_ | refine blI ?_ ?_ _) | (simp only [World.size_alloc]; omega) | (simp <;> omega)))) Hbd.out hv)).mono ?_); rintro e w' ⟨z, rfl, hz, rfl⟩)
    | (go_at_call 46; (with_reducible refine (Kin.callK (W := (w.alloc (.cells #[.slice A rows.length capA] 24)).alloc (.cells #[.slice none 0 0] 24)) (by repeat (first | with_reducible (first | exact blA | exact blB | refine blC _ ?_ | refine blD ?_ ?_ _ | refine blE ?_ | refine blF _ ?_ | refine blG ?_ _ | refine blH ?_ | refine blI ?_ ?_ _) | (simp only [World.size_alloc]; omega) | (simp <;> omega))) (reach20_is k _ hk)).mono ?_); rintro e w' ⟨z, rfl, hz, rfl⟩; (have hA := Lib.hid z.boxes2.1; have hB := Lib.hid z.boxes2.2; have ql2 := hA.out.lt; have c0 : (Kin.wd z).cell? ⟨w.heap.size, 0, none⟩ = some (.slice A rows.length capA) := z.boxes2.1.cell 0; have d1 : w.heap.size < (Kin.wd z).heap.size + 1 := Nat.lt_succ_of_lt ql2)))
  have HA0 := Lib.hid (H.out.below (show Below w.heap.size w z.1 from (by repeat (first | with_reducible (first | exact blA | exact blB | refine blC _ ?_ | refine blD ?_ ?_ _ | refine blE ?_ | refine blF _ ?_ | refine blG ?_ _ | refine blH ?_ | refine blI ?_ ?_ _) | (simp only [World.size_alloc]; omega) | (simp <;> omega)))))
  have HZr := Lib.hid (rows_op (by have := HA0.out; obtain ⟨s, e, h⟩ := this; cases e; exact h : RdRows z.1 (.slice A rows.length capA) rows))
  have hwz : Below w.heap.size w z.1 := (by repeat (first | with_reducible (first | exact blA | exact blB | refine blC _ ?_ | refine blD ?_ ?_ _ | refine blE ?_ | refine blF _ ?_ | refine blG ?_ _ | refine blH ?_ | refine blI ?_ ?_ _) | (simp only [World.size_alloc]; omega) | (simp <;> omega)))
  have ql := hB.out.lt
  go_loopw [22] (fun i wr => ∃ n : Nat, n ≤ rows.length ∧ i = .int .i64 n ∧ ∃ S, Hid (OwnRows (z.1.heap.size + 1) wr S (rowsOn (ecrW rows k) ((rows.map (·.1)).take n))) ∧ Hid (Blk wr z.1.heap.size 24 #[S]) ∧ Hid (Below z.1.heap.size z.1 wr)) (fun i _ => rows.length - (intOf i).toNat)
  case atStart => exact ⟨0, Nat.zero_le _, rfl, _, Lib.hid OwnN.nil, Lib.hid (Blk.new _ _ _), Lib.hid (by repeat (first | with_reducible (first | exact blA | exact blB | refine blC _ ?_ | refine blD ?_ ?_ _ | refine blE ?_ | refine blF _ ?_ | refine blG ?_ _ | refine blH ?_ | refine blI ?_ ?_ _) | (simp only [World.size_alloc]; omega) | (simp <;> omega)))⟩
  case round =>
    obtain ⟨n, hn, rfl, S, HO, HP6, hyB⟩ := hrel
    obtain ⟨y6, rfl⟩ : ∃ y6 : Kin z.1, y6.1 = wr := ⟨⟨wr, hyB.out⟩, rfl⟩
    clear hyB
    by_cases hlt : n < rows.length
    · obtain ⟨hs, hown, hnest, hap⟩ := HO.out
      obtain ⟨AS, nS, cS, rfl⟩ := own_slice hown
      have HOW := Lib.hid hown
      have HNE := Lib.hid hnest
      have HAP := Lib.hid hap
      have hhl := hnest.1
      have hrl := rowsOn_len (ecrW rows k) ((rows.map (·.1)).take n)
      have htl : ((rows.map (·.1)).take n).length ≤ n := by simp; omega
      obtain ⟨r, hr⟩ : ∃ el_, rows[n]? = some el_ := ⟨_, List.getElem?_eq_getElem hlt⟩
      obtain ⟨bA, offA, rfl, hbA, hcA⟩ := HZr.out n _ hr
      obtain ⟨T, capT, r_0, r_1, hcapT, hrT⟩ := hcA n r hr
      have HRT := Lib.hid hrT
      have Hr := Lib.hid hr
      have HRA := Lib.hid (rwAt_of HVR.out hr)
      have hrm := HVR.out.1 r (List.mem_of_getElem? hr)
      have hry : -4096 ≤ r.1 ∧ r.1 < 4096 := by have := hrm.1; unfold okC at this; simpa using this
      have hrl2 := sepIn_len (fine_sepIn.1 hrm.2).1
      have lch : (ecrW rows k r.1).length ≤ 8192 := sepIn_len (diaI_in HVR.out k0 k1 r.1 k.toNat)
      have pl := HP6.out.lt
      have hbA2 : bA < z.1.heap.size + 1 := by omega
      clear hown hnest hap hr hcA hrT hrm
      go_wp2_with (go_at_call 51; (with_reducible refine (Kin.callK (W := ((Kin.wd y6).alloc (.cells #[.int .i64 r.1, .slice T r.2.length capT] 47))) (by repeat (first | with_reducible (first | exact blA | exact blB | refine blC _ ?_ | refine blD ?_ ?_ _ | refine blE ?_ | refine blF _ ?_ | refine blG ?_ _ | refine blH ?_ | refine blI ?_ ?_ _) | (simp only [World.size_alloc]; omega) | (simp <;> omega))) (shrinkR_from _ r.2 k _ (HRT.out.below (by repeat (first | with_reducible (first | exact blA | exact blB | refine blC _ ?_ | refine blD ?_ ?_ _ | refine blE ?_ | refine blF _ ?_ | refine blG ?_ _ | refine blH ?_ | refine blI ?_ ?_ _) | (simp only [World.size_alloc]; omega) | (simp <;> omega)))) (by omega))).mono ?_); rintro e w' ⟨z7, ⟨u0, rfl, h0⟩, hz7, rfl⟩; (have H0 := Lib.hid h0; clear h0))
      have hy7 : Below y6.1.heap.size y6.1 z7.1 := (Below.alloc (Below.refl _ _) (Nat.le_refl _) _).trans (z7.2.mono (le_alloc (Nat.le_refl _) _))
      have hz7z : Below z.1.heap.size z.1 z7.1 := y6.2.trans (hy7.mono y6.2.size)
      have HRV := Lib.hid ((Blk.new y6.1 47 #[.int .i64 r.1, .slice T r.2.length capT]).below z7.2)
      have g0 : z7.1.cell? ⟨y6.1.heap.size, 0, none⟩ = some (.int .i64 r.1) := HRV.out.cell 0
      have gl := HRV.out.lt
      have cz : z7.1.cell? ⟨w.heap.size, 0, none⟩ = some (.slice (some ⟨bA, offA, none⟩) rows.length capA) := (hz7z.cell (p := ⟨w.heap.size, 0, none⟩) ql2).trans c0
      have czl : w.heap.size < z7.1.heap.size := Nat.lt_of_lt_of_le ql2 hz7z.size
      have HA7 := Lib.hid (HA0.out.below hz7z)
      have HL0 := Lib.hid (show OwnFrom y6.1.heap.size z7.1 u0 (diaTo 1 shrinkL (rwAt rows) r.1 k 0) from by
        show OwnFrom _ _ _ (shrinkL (rwAt rows r.1) k)
        rw [HRA.out]; exact H0.out.less (by simp))
      have hlen9 : rows.length ≤ 9223372036854775807 := Nat.le_trans hlr (by decide)
      have HYZ := Lib.hid hy7
      clear H0 hy7 hz7z
      go_loopw [8, 9] (fun l d wr => ∃ m : Nat, m ≤ k.toNat ∧ d = .int .i64 ((m : Int) + 1) ∧ Hid (OwnFrom y6.1.heap.size wr l (diaTo 1 shrinkL (rwAt rows) r.1 k m)) ∧ ∃ z : Kin z7.1, z.1 = wr) (fun _ d _ => (k + 1 - intOf d).toNat)
      case atStart => exact ⟨0, Nat.zero_le _, by simp, HL0, ⟨_, Below.refl _ _⟩, rfl⟩
      case round =>
        clear HL0
        obtain ⟨m, hm, rfl, HL, z8, rfl⟩ := hrel
        by_cases hlt2 : (m : Int) + 1 ≤ k
        · have hwm : IntKind.i64.wrap ((m : Int) + 1 + 1) = (m : Int) + 1 + 1 := IntWalk.i64_in _ (by omega)
          have hw1 : IntKind.i64.wrap (r.1 - ((m : Int) + 1)) = r.1 - ((m : Int) + 1) := IntWalk.i64_in _ (by omega)
          have hw2 : IntKind.i64.wrap (r.1 + ((m : Int) + 1)) = r.1 + ((m : Int) + 1) := IntWalk.i64_in _ (by omega)
          have hw3 : IntKind.i64.wrap (k - ((m : Int) + 1)) = k - ((m : Int) + 1) := IntWalk.i64_in _ (by omega)
          obtain ⟨u1, hu1, hr1⟩ := rowIs_some HA7.out (r.1 - ((m : Int) + 1))
          obtain ⟨u2, hu2, hr2⟩ := rowIs_some HA7.out (r.1 + ((m : Int) + 1))
          have HU1 := Lib.hid hu1
          have HR1 := Lib.hid hr1
          have HU2 := Lib.hid hu2
          have HR2 := Lib.hid hr2
          have l1 := sepIn_len (rwAt_in HVR.out (r.1 - ((m : Int) + 1)))
          have l2 := sepIn_len (rwAt_in HVR.out (r.1 + ((m : Int) + 1)))
          have l3 := Nat.le_trans (shrinkL_len (rwAt rows (r.1 - ((m : Int) + 1))) (k - ((m : Int) + 1))) l1
          have l4 := Nat.le_trans (shrinkL_len (rwAt rows (r.1 + ((m : Int) + 1))) (k - ((m : Int) + 1))) l2
          have l5 := sepIn_len (diaI_in HVR.out k0 k1 r.1 m)
          have l6 := sepIn_len (diaI_in1 HVR.out k0 k1 r.1 m)
          have h86 : y6.1.heap.size ≤ z8.1.heap.size := Nat.le_trans HYZ.out.size z8.2.size
          clear hu1 hr1 hu2 hr2
          have c8 : z8.1.cell? ⟨w.heap.size, 0, none⟩ = some (.slice (some ⟨bA, offA, none⟩) rows.length capA) := (z8.cell czl).trans cz
          have c8l := z8.lt0 czl
          have g8 : z8.1.cell? ⟨y6.1.heap.size, 0, none⟩ = some (.int .i64 r.1) := (z8.cell gl).trans g0
          have g8l := z8.lt0 gl
          have h80 : Below z7.1.heap.size z7.1 z8.1 := z8.2
          go_wp2_with (first
            | (go_at_call 58; (with_reducible refine (Kin.callK (W := (Kin.wd z8)) (by repeat (first | with_reducible (first | exact blA | exact blB | refine blC _ ?_ | refine blD ?_ ?_ _ | refine blE ?_ | refine blF _ ?_ | refine blG ?_ _ | refine blH ?_ | refine blI ?_ ?_ _) | (simp only [World.size_alloc]; omega) | (simp <;> omega))) (row18_any _ rows (r.1 - ((m : Int) + 1)) u1 _ (HA7.out.below (by repeat (first | with_reducible (first | exact blA | exact blB | refine blC _ ?_ | refine blD ?_ ?_ _ | refine blE ?_ | refine blF _ ?_ | refine blG ?_ _ | refine blH ?_ | refine blI ?_ ?_ _) | (simp only [World.size_alloc]; omega) | (simp <;> omega)))) hlen9 (HU1.out.below (by repeat (first | with_reducible (first | exact blA | exact blB | refine blC _ ?_ | refine blD ?_ ?_ _ | refine blE ?_ | refine blF _ ?_ | refine blG ?_ _ | refine blH ?_ | refine blI ?_ ?_ _) | (simp only [World.size_alloc]; omega) | (simp <;> omega)))))).mono ?_); rintro e w' ⟨z, rfl, hz, rfl⟩)
            | (go_at_call 51; (with_reducible refine (Kin.callK (W := (Kin.wd z8)) (by repeat (first | with_reducible (first | exact blA | exact blB | refine blC _ ?_ | refine blD ?_ ?_ _ | refine blE ?_ | refine blF _ ?_ | refine blG ?_ _ | refine blH ?_ | refine blI ?_ ?_ _) | (simp only [World.size_alloc]; omega) | (simp <;> omega))) (shrinkR_from u1 (rwAt rows (r.1 - ((m : Int) + 1))) (k - ((m : Int) + 1)) _ (HR1.out.below (by repeat (first | with_reducible (first | exact blA | exact blB | refine blC _ ?_ | refine blD ?_ ?_ _ | refine blE ?_ | refine blF _ ?_ | refine blG ?_ _ | refine blH ?_ | refine blI ?_ ?_ _) | (simp only [World.size_alloc]; omega) | (simp <;> omega)))) (by omega))).mono ?_); rintro e w' ⟨z9, ⟨s1, rfl, hs1⟩, hz9, rfl⟩; (have HS1 := Lib.hid hs1; clear hs1))
            | (go_at_call 52; (with_reducible refine (Kin.callK (W := (Kin.wd z8)) (by repeat (first | with_reducible (first | exact blA | exact blB | refine blC _ ?_ | refine blD ?_ ?_ _ | refine blE ?_ | refine blF _ ?_ | refine blG ?_ _ | refine blH ?_ | refine blI ?_ ?_ _) | (simp only [World.size_alloc]; omega) | (simp <;> omega))) (intersectR_from _ _ (diaTo 1 shrinkL (rwAt rows) r.1 k m) (shrinkL (rwAt rows (r.1 - ((m : Int) + 1))) (k - ((m : Int) + 1))) _ (HL.out.rd.below (by repeat (first | with_reducible (first | exact blA | exact blB | refine blC _ ?_ | refine blD ?_ ?_ _ | refine blE ?_ | refine blF _ ?_ | refine blG ?_ _ | refine blH ?_ | refine blI ?_ ?_ _) | (simp only [World.size_alloc]; omega) | (simp <;> omega)))) (HS1.out.rd.below (by repeat (first | with_reducible (first | exact blA | exact blB | refine blC _ ?_ | refine blD ?_ ?_ _ | refine blE ?_ | refine blF _ ?_ | refine blG ?_ _ | refine blH ?_ | refine blI ?_ ?_ _) | (simp only [World.size_alloc]; omega) | (simp <;> omega)))) (by omega) (by omega))).mono ?_); rintro e w' ⟨z10, ⟨s2, rfl, hs2⟩, hz10, rfl⟩; (have HS2 := Lib.hid hs2; clear hs2))
            | (go_at_call 58; (with_reducible refine (Kin.callK (W := (Kin.wd z8)) (by repeat (first | with_reducible (first | exact blA | exact blB | refine blC _ ?_ | refine blD ?_ ?_ _ | refine blE ?_ | refine blF _ ?_ | refine blG ?_ _ | refine blH ?_ | refine blI ?_ ?_ _) | (simp only [World.size_alloc]; omega) | (simp <;> omega))) (row18_any _ rows (r.1 + ((m : Int) + 1)) u2 _ (HA7.out.below (by repeat (first | with_reducible (first | exact blA | exact blB | refine blC _ ?_ | refine blD ?_ ?_ _ | refine blE ?_ | refine blF _ ?_ | refine blG ?_ _ | refine blH ?_ | refine blI ?_ ?_ _) | (simp only [World.size_alloc]; omega) | (simp <;> omega)))) hlen9 (HU2.out.below (by repeat (first | with_reducible (first | exact blA | exact blB | refine blC _ ?_ | refine blD ?_ ?_ _ | refine blE ?_ | refine blF _ ?_ | refine blG ?_ _ | refine blH ?_ | refine blI ?_ ?_ _) | (simp only [World.size_alloc]; omega) | (simp <;> omega)))))).mono ?_); rintro e w' ⟨z11, rfl, hz11, rfl⟩; (have HS2 := Lib.hid (HS2.out.below hz11)))
            | (go_at_call 51; (with_reducible refine (Kin.callK (W := (Kin.wd z8)) (by repeat (first | with_reducible (first | exact blA | exact blB | refine blC _ ?_ | refine blD ?_ ?_ _ | refine blE ?_ | refine blF _ ?_ | refine blG ?_ _ | refine blH ?_ | refine blI ?_ ?_ _) | (simp only [World.size_alloc]; omega) | (simp <;> omega))) (shrinkR_from u2 (rwAt rows (r.1 + ((m : Int) + 1))) (k - ((m : Int) + 1)) _ (HR2.out.below (by repeat (first | with_reducible (first | exact blA | exact blB | refine blC _ ?_ | refine blD ?_ ?_ _ | refine blE ?_ | refine blF _ ?_ | refine blG ?_ _ | refine blH ?_ | refine blI ?_ ?_ _) | (simp only [World.size_alloc]; omega) | (simp <;> omega)))) (by omega))).mono ?_); rintro e w' ⟨z12, ⟨s3, rfl, hs3⟩, hz12, rfl⟩; (have HS3 := Lib.hid hs3; have HS2 := Lib.hid (HS2.out.below hz12); clear hs3))
            | (go_at_call 52; (with_reducible refine (Kin.callK (W := (Kin.wd z8)) (by repeat (first | with_reducible (first | exact blA | exact blB | refine blC _ ?_ | refine blD ?_ ?_ _ | refine blE ?_ | refine blF _ ?_ | refine blG ?_ _ | refine blH ?_ | refine blI ?_ ?_ _) | (simp only [World.size_alloc]; omega) | (simp <;> omega))) (intersectR_from _ _ (setop (opf 1) (diaTo 1 shrinkL (rwAt rows) r.1 k m) (shrinkL (rwAt rows (r.1 - ((m : Int) + 1))) (k - ((m : Int) + 1)))) (shrinkL (rwAt rows (r.1 + ((m : Int) + 1))) (k - ((m : Int) + 1))) _ (HS2.out.rd.below (by repeat (first | with_reducible (first | exact blA | exact blB | refine blC _ ?_ | refine blD ?_ ?_ _ | refine blE ?_ | refine blF _ ?_ | refine blG ?_ _ | refine blH ?_ | refine blI ?_ ?_ _) | (simp only [World.size_alloc]; omega) | (simp <;> omega)))) (HS3.out.rd.below (by repeat (first | with_reducible (first | exact blA | exact blB | refine blC _ ?_ | refine blD ?_ ?_ _ | refine blE ?_ | refine blF _ ?_ | refine blG ?_ _ | refine blH ?_ | refine blI ?_ ?_ _) | (simp only [World.size_alloc]; omega) | (simp <;> omega)))) (by omega) (by omega))).mono ?_); rintro e w' ⟨z13, ⟨s4, rfl, hs4⟩, hz13, rfl⟩; (have HS4 := Lib.hid hs4; clear hs4)))
          go_roundw
          case rel => exact ⟨m + 1, by omega, by go_num, Lib.hid (HS4.out.less (by have := h86; exact Nat.le_trans this (Nat.le_trans z12.2.size (Nat.le_refl _)))), ⟨z13.1, z8.2.trans (z13.2.mono z8.2.size)⟩, rfl⟩
          case measure => simp [intOf]; omega
        · have em : m = k.toNat := by omega
          have hM2 := HL.out
          rw [em] at hM2
          have HM2 := Lib.hid (show OwnFrom y6.1.heap.size z8.1 _ (ecrW rows k r.1) from hM2)
          have hrd := hM2.rd
          have hrd2 : Rd 2 encRun z8.1 _ (ecrW rows k r.1) := hrd
          obtain ⟨L, capL, rfl, hcapL, _⟩ := hrd2.open_
          have HRC := Lib.hid hrd2
          have hb68 : Below y6.1.heap.size y6.1 z8.1 := HYZ.out.trans (z8.2.mono HYZ.out.size)
          have HB8 := Lib.hid hb68
          have HP8 := Lib.hid (HP6.out.below hb68)
          have p0 : z8.1.cell? ⟨z.1.heap.size, 0, none⟩ = some (.slice AS nS cS) := HP8.out.cell 0
          have pl8 := HP8.out.lt
          have g8 : z8.1.cell? ⟨y6.1.heap.size, 0, none⟩ = some (.int .i64 r.1) := (z8.cell gl).trans g0
          have g8l := z8.lt0 gl
          have hbz : z.1.heap.size + 1 ≤ z8.1.heap.size := pl8
          clear hM2 hrd hrd2 em hb68
          go_wp2_with (at_builtin; refine wpList_app _ rfl _ _ 22 rfl encRow_len (by decide) oneRow (z.1.heap.size + 1) 47 (.agg #[.int .i64 0, .slice none 0 0]) 32 infoRow rfl Try.underlying22 _ _ _ _ rfl ((own_below HOW.out HB8.out).alloc _) _ _ _ rfl (rd_one _ encRow_len _ (hd r.1 L (ecrW rows k r.1).length capL) _ rfl) ?c1 (by decide) ?c2 ?_; (case c1 => (first | (simp only [List.length_append, List.length_cons, List.length_nil]; omega) | omega | (simp; omega))); (case c2 => exact (by repeat (first | with_reducible exact Nat.le_refl _ | assumption | with_reducible refine le_alloc ?_ _ | with_reducible refine le_drew ?_ | with_reducible refine Kin.le _ ?_ | assumption | omega | (simp only [World.size_alloc]; omega)))); intro v' w1 hown' hg hbel hat'; ((obtain ⟨AV, nV, cV, rfl⟩ := own_slice hown'); have hPn : Blk (z8.1.alloc (.cells #[.int .i64 r.1, .slice L (ecrW rows k r.1).length capL] 47)) z.1.heap.size 24 #[.slice AS nS cS] := HP8.out.below (Below.alloc (Below.refl _ _) (Nat.le_refl _) _); have HP1 := Lib.hid (hPn.grown hg (Ne.symm (own_ne ((own_below HOW.out HB8.out).alloc _) hPn (by decide)))); have p1 : w1.cell? ⟨z.1.heap.size, 0, none⟩ = some (.slice AS nS cS) := HP1.out.cell 0; have pf1 : w1.frozen? ⟨z.1.heap.size, 0, none⟩ = false := HP1.out.frozen 0; have pl1 := HP1.out.lt; have HFR := HM2.out.new_ (v2 := .slice AS nS cS) (Nat.le_refl _) (fun q e => (HOW.out.lt q e).2); have HPU := Lib.hid (OwnRows.push ((own_below HOW.out HB8.out).alloc _) ((HNE.out.below HB8.out).below (Below.alloc (Below.refl _ _) (Nat.le_refl _) _)) HAP.out hown' hg hat' (HRC.out.below (by repeat (first | with_reducible (first | exact blA | exact blB | refine blC _ ?_ | refine blD ?_ ?_ _ | refine blE ?_ | refine blF _ ?_ | refine blG ?_ _ | refine blH ?_ | refine blI ?_ ?_ _) | (simp only [World.size_alloc]; omega) | (simp <;> omega)))) HFR hPn); have HBE := Lib.hid hbel; clear hown' hg hbel hat' HFR))
          · have hne : (ecrW rows k r.1).isEmpty = false := by
              rw [List.isEmpty_eq_false_iff]; intro e; have : (ecrW rows k r.1).length = 0 := (by rw [e]; rfl); omega
            have hb5 : Below z.1.heap.size z.1 w1 := (Below.alloc (y6.2.trans (HB8.out.mono y6.2.size)) (Nat.le_of_succ_le hbz) _).trans (HBE.out.mono (Nat.le_succ _))
            go_roundw
            case rel => exact ⟨n + 1, by omega, by go_num, _, Lib.hid (by rw [map_take_snoc Hr.out, rowsOn_snoc, hne]; exact HPU.out.1), Lib.hid HPU.out.2, Lib.hid (Below.setCell hb5 (Nat.le_refl _) _)⟩
            case measure => simp [intOf]; omega
          · rename_i h0
            have hne : (ecrW rows k r.1).isEmpty = true := by
              rw [List.isEmpty_iff]; exact List.eq_nil_of_length_eq_zero (by omega)
            go_roundw
            case rel => exact ⟨n + 1, by omega, by go_num, _, Lib.hid (by rw [map_take_snoc Hr.out, rowsOn_snoc, hne]; simpa using HO.out.below HB8.out), HP8, Lib.hid (y6.2.trans (HB8.out.mono y6.2.size))⟩
            case measure => simp [intOf]; omega
    · have en : n = rows.length := by omega
      obtain ⟨hs, hown, _⟩ := HO.out
      obtain ⟨AS, nS, cS, rfl⟩ := own_slice hown
      have p0 : y6.1.cell? ⟨z.1.heap.size, 0, none⟩ = some (.slice AS nS cS) := HP6.out.cell 0
      have pl := HP6.out.lt
      have B36 := Lib.hid (hB.out.below y6.2)
      have q0 : y6.1.cell? ⟨w.heap.size + 1, 0, none⟩ = some (.slice none 0 0) := B36.out.cell 0
      have qf : y6.1.frozen? ⟨w.heap.size + 1, 0, none⟩ = false := B36.out.frozen 0
      have ql := B36.out.lt
      have HEN := Lib.hid (show (rows.map (·.1)).take n = rows.map (·.1) from by rw [en]; exact List.take_of_length_le (by simp))
      clear hown en
      go_wp2
      ((try simp only [Exit.inBlock, Exit.then]); refine bodyPost_ret (results_cell_row rfl _ _ _ _ _ (0, 0) _ rfl (B36.out.set_ 0 _) Try.underlying24 rfl (by kernel_rfl)) rfl ?_)
      refine ⟨⟨_, _, _, rfl, ?_⟩, (by repeat (first | with_reducible (first | exact blA | exact blB | refine blC _ ?_ | refine blD ?_ ?_ _ | refine blE ?_ | refine blF _ ?_ | refine blG ?_ _ | refine blH ?_ | refine blI ?_ ?_ _) | (simp only [World.size_alloc]; omega) | (simp <;> omega)))⟩
      rw [HE.out, ← HEN.out]
      exact (HO.out.set_ (i := 0) (u := .slice AS nS cS) B36.out (by decide)).reg
end Go.Proofs.Ytjppaknajdbkgaa
