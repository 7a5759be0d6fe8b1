/- What the laws cut off: some, few; comparisons of equal segments; segments of polygons are balanced. -/
import Derived.Test.YteadnlodccnfcaaCtrAwk
namespace Go.Proofs.Yteadnlodccnfcaa
set_option linter.unusedSimpArgs false
set_option linter.unusedVariables false
set_option maxRecDepth 100000
open Go.RowKit Planar Go.Sort
attribute [local go_sem] Kin.cell Kin.frozen Kin.lt0 Kin.lt1 Kin.lt2 Kin.lt3 run_mkf
def someTo (l : List (List Pt)) (k : Nat) : List (List Pt) := (l.take k).map (·.take 20)
def someP (l : List (List Pt)) : List (List Pt) := someTo l 8
theorem someTo_succ {l : List (List Pt)} {k : Nat} {o : List Pt} (h : l[k]? = some o) : someTo l (k + 1) = someTo l k ++ [o.take 20] := by
  unfold someTo; rw [List.take_add_one, h]; simp
theorem someTo_len (l : List (List Pt)) (k : Nat) : (someTo l k).length ≤ k := by unfold someTo; rw [List.length_map]; exact List.length_take_le _ _
theorem someP_len (l : List (List Pt)) : (someP l).length ≤ 8 := someTo_len l 8
theorem someP_each {l : List (List Pt)} {o : List Pt} (h : o ∈ someP l) : o.length ≤ 20 := by
  obtain ⟨q, _, rfl⟩ := List.mem_map.1 h; exact List.length_take_le _ _
theorem someP_wf {l : List (List Pt)} (hw : ∀ o ∈ l, wfO o) : ∀ o ∈ someP l, wfO o := by
  intro o ho p hp
  obtain ⟨q, hq, rfl⟩ := List.mem_map.1 ho
  exact hw q (List.mem_of_mem_take hq) p (List.mem_of_mem_take hp)
theorem rd_cut {α : Type} {k : Nat} {enc : α → List Value} {w : World} {A : Option Addr} {n cap : Nat} {o : List α} (h : Rd k enc w (.slice A n cap) o) (m cap' : Nat) (hm : m ≤ n) (hc : m ≤ cap') : Rd k enc w (.slice A m cap') (o.take m) := by
  obtain ⟨A', c', hv, hc', hr⟩ := h
  injection hv with e1 e2 e3
  subst e1 e2
  have hl : (o.take m).length = m := by rw [List.length_take]; omega
  refine ⟨A, cap', by rw [hl], by rw [hl]; exact hc, ?_⟩
  rcases hr with hr | ⟨b, off, hA, hb, hcell⟩
  · left; rw [hr]; simp
  · exact .inr ⟨b, off, hA, hb, fun i x hx j u hu => hcell i x (by
      rw [List.getElem?_take] at hx
      split at hx
      · exact hx
      · cases hx) j u hu⟩
theorem old_apart {α : Type} {k : Nat} {enc : α → List Value} {w w' : World} {v u : Value} {xs : List α} (h : Rd k enc w v xs) {e : TypeId} {size n : Nat} {ys : List Value} (ho : w'.ownsRow w.heap.size e size u n ys) : xs = [] ∨ v.ownBlock ≠ u.ownBlock := by
  rcases h.blk_lt with h0 | ⟨b, hb, hlt⟩
  · exact .inl h0
  · right; rw [hb]; intro e; have := (ho.lt b e.symm).1; omega
set_option maxHeartbeats 8000000 in
theorem some16_any (v : Value) (l : List (List Pt)) (w : World) (h : RdPols w v l) :
    Calls Try.prog 20 #[v] w fun e w' => (∃ u, e = .returned u ∧ RdPols w' u (someP l)) ∧ Below w.heap.size w w' := by
  obtain ⟨A, capA, rfl, hcapA, hopA⟩ := pols_open h
  have HA := Lib.hid hopA
  have HLA := Lib.hid h
  clear hopA h
  go_enter Try.func20, Try.ntmps20
  go_wp2_with fail
  go_loopw [3, 4] (fun u i wr => ∃ k : Nat, k ≤ l.length ∧ k ≤ 8 ∧ i = .int .i64 k ∧ Hid (OwnPols w.heap.size wr u (someTo l k)) ∧ ∃ z : Kin w, z.1 = wr) (fun _ i _ => 8 - (intOf i).toNat)
  case atStart => exact ⟨0, Nat.zero_le _, by omega, rfl, Lib.hid OwnN.nil, ⟨w, Below.refl _ _⟩, rfl⟩
  case round =>
    obtain ⟨k, hk, hk8, rfl, HO, z, rfl⟩ := hrel
    by_cases hlt : k < l.length
    · by_cases hlt8 : k < 8
      · have h8 : (k : Int) < 8 := by omega
        obtain ⟨o, ho⟩ : ∃ el_, (l)[k]? = some el_ := ⟨_, List.getElem?_eq_getElem (by first | exact hlt | omega)⟩
        obtain ⟨bA, offA, rfl, hbA, hcA⟩ := HA.out (k) _ ho
        have hbA2 : bA < w.heap.size + 1 := by omega
        obtain ⟨S, capS, o_0, hcapS, hrS⟩ := hcA (k) o ho
        have HLS := Lib.hid hrS
        have HAc := Lib.hid hcA
        have Ho := Lib.hid ho
        clear ho hrS hcA
        have hstl := someTo_len l k
        have HSS := Lib.hid (someTo_succ Ho.out)
        obtain ⟨hs, hown, hnest, hap⟩ := HO.out
        have HOW := Lib.hid hown
        have HNE := Lib.hid hnest
        have HAP := Lib.hid hap
        have hhl := hnest.1
        have hhl2 : hs.length ≤ 8 := by omega
        clear hown hnest hap HO hhl
        by_cases h20 : o.length > 20
        · have HRC := Lib.hid (rd_cut HLS.out 20 capS (by omega) (by omega))
          go_wp2_with (at_builtin; refine wpList_app _ rfl _ _ 24 rfl encPol_len (by decide) onePol w.heap.size 42 (.agg #[.slice none 0 0]) 24 infoPol rfl Try.underlying24 _ _ _ _ rfl ((HOW.out.alloc _).alloc _) _ _ _ rfl (rd_one _ encPol_len _ ((S, 20, capS) : PolH) _ rfl) ?c1 (by decide) ?c2 ?_; (case c1 => (first | (simp only [List.length_append, List.length_cons, List.length_nil]; omega) | omega | (simp; omega))); (case c2 => exact (by repeat (first | with_reducible exact Nat.le_refl _ | assumption | with_reducible refine le_alloc ?_ _ | with_reducible refine le_drew ?_ | with_reducible refine Kin.le _ ?_ | assumption | omega | (simp only [World.size_alloc]; omega)))); intro v' w1 hown' hg hbel hat'; ((obtain ⟨y, rfl⟩ : ∃ y : Kin w, y.1 = w1 := ⟨⟨w1, Below.trans (by repeat (first | with_reducible (first | exact blA | exact blB | refine blC _ ?_ | refine blD ?_ ?_ _ | refine blE ?_ | refine blF _ ?_ | refine blG ?_ _ | refine blH ?_ | refine blI ?_ ?_ _) | (simp only [World.size_alloc]; omega) | (simp <;> omega))) hbel⟩, rfl⟩); have HPU := Lib.hid (OwnN.snoc (e := 42) (h := ((S, 20, capS) : PolH)) (x := o.take 20) (HNE.out.below (by repeat (first | with_reducible (first | exact blA | exact blB | refine blC _ ?_ | refine blD ?_ ?_ _ | refine blE ?_ | refine blF _ ?_ | refine blG ?_ _ | refine blH ?_ | refine blI ?_ ?_ _) | (simp only [World.size_alloc]; omega) | (simp <;> omega)))) HAP.out hown' hg hat' trivial (Rd.below HRC.out (by repeat (first | with_reducible (first | exact blA | exact blB | refine blC _ ?_ | refine blD ?_ ?_ _ | refine blE ?_ | refine blF _ ?_ | refine blG ?_ _ | refine blH ?_ | refine blI ?_ ?_ _) | (simp only [World.size_alloc]; omega) | (simp <;> omega)))) (old_apart HRC.out HOW.out)); clear hown' hg hbel hat'))
          refine ⟨⟨k + 1, by omega, by omega, by go_num, Lib.hid (by rw [HSS.out]; exact HPU.out), y, rfl⟩, by simp [intOf]; omega⟩
        · have HTK := Lib.hid (show o.take 20 = o from List.take_of_length_le (by omega))
          have HRC := Lib.hid (show Rd 2 encPt w (.slice S o.length capS) (o.take 20) by rw [HTK.out]; exact HLS.out)
          go_wp2_with (at_builtin; refine wpList_app _ rfl _ _ 24 rfl encPol_len (by decide) onePol w.heap.size 42 (.agg #[.slice none 0 0]) 24 infoPol rfl Try.underlying24 _ _ _ _ rfl ((HOW.out.alloc _).alloc _) _ _ _ rfl (rd_one _ encPol_len _ ((S, o.length, capS) : PolH) _ rfl) ?c1 (by decide) ?c2 ?_; (case c1 => (first | (simp only [List.length_append, List.length_cons, List.length_nil]; omega) | omega | (simp; omega))); (case c2 => exact (by repeat (first | with_reducible exact Nat.le_refl _ | assumption | with_reducible refine le_alloc ?_ _ | with_reducible refine le_drew ?_ | with_reducible refine Kin.le _ ?_ | assumption | omega | (simp only [World.size_alloc]; omega)))); intro v' w1 hown' hg hbel hat'; ((obtain ⟨y, rfl⟩ : ∃ y : Kin w, y.1 = w1 := ⟨⟨w1, Below.trans (by repeat (first | with_reducible (first | exact blA | exact blB | refine blC _ ?_ | refine blD ?_ ?_ _ | refine blE ?_ | refine blF _ ?_ | refine blG ?_ _ | refine blH ?_ | refine blI ?_ ?_ _) | (simp only [World.size_alloc]; omega) | (simp <;> omega))) hbel⟩, rfl⟩); have HPU := Lib.hid (OwnN.snoc (e := 42) (h := ((S, o.length, capS) : PolH)) (x := o.take 20) (HNE.out.below (by repeat (first | with_reducible (first | exact blA | exact blB | refine blC _ ?_ | refine blD ?_ ?_ _ | refine blE ?_ | refine blF _ ?_ | refine blG ?_ _ | refine blH ?_ | refine blI ?_ ?_ _) | (simp only [World.size_alloc]; omega) | (simp <;> omega)))) HAP.out hown' hg hat' trivial (Rd.below HRC.out (by repeat (first | with_reducible (first | exact blA | exact blB | refine blC _ ?_ | refine blD ?_ ?_ _ | refine blE ?_ | refine blF _ ?_ | refine blG ?_ _ | refine blH ?_ | refine blI ?_ ?_ _) | (simp only [World.size_alloc]; omega) | (simp <;> omega)))) (old_apart HRC.out HOW.out)); clear hown' hg hbel hat'))
          refine ⟨⟨k + 1, by omega, by omega, by go_num, Lib.hid (by rw [HSS.out]; exact HPU.out), y, rfl⟩, by simp [intOf]; omega⟩
      · have HEK := Lib.hid (show someTo l k = someP l by unfold someP; rw [show k = 8 by omega])
        have h8 : ¬ (k : Int) < 8 := by omega
        go_wp2_with fail
        go_ret
        exact ⟨⟨_, rfl, by rw [← HEK.out]; exact OwnN.rd encPol_len HO.out⟩, z.2⟩
    · have HEK := Lib.hid (show someTo l k = someP l by unfold someP someTo; rw [List.take_of_length_le (show l.length ≤ k by omega), List.take_of_length_le (show l.length ≤ 8 by omega)])
      go_wp2_with fail
      go_ret
      exact ⟨⟨_, rfl, by rw [← HEK.out]; exact OwnN.rd encPol_len HO.out⟩, z.2⟩
def fewL (l : List Sg) : List Sg := l.take 40
theorem fewL_len (l : List Sg) : (fewL l).length ≤ 40 := List.length_take_le _ _
theorem fewL_wf {l : List Sg} (h : ∀ s ∈ l, wfS s) : ∀ s ∈ fewL l, wfS s := fun s hs => h s (List.mem_of_mem_take hs)
theorem few16_any (v : Value) (l : List Sg) (w : World) (h : Rd 4 encSg w v l) :
    Calls Try.prog 13 #[v] w fun e w' => (∃ u, e = .returned u ∧ Rd 4 encSg w' u (fewL l)) ∧ Below w.heap.size w w' := by
  obtain ⟨A, capA, rfl, hcapA, hopA⟩ := h.open_
  have HA := Lib.hid hopA
  have HLA := Lib.hid h
  clear hopA h
  by_cases h40 : l.length > 40
  · have HRC := Lib.hid (rd_cut HLA.out 40 capA (by omega) (by omega))
    go_enter Try.func13, Try.ntmps13
    go_wp2_with fail
    go_ret
    exact ⟨⟨_, rfl, HRC.out⟩, Below.refl _ _⟩
  · have HTK := Lib.hid (show fewL l = l from List.take_of_length_le (by omega))
    go_enter Try.func13, Try.ntmps13
    go_wp2_with fail
    go_ret
    exact ⟨⟨_, rfl, by rw [HTK.out]; exact HLA.out⟩, Below.refl _ _⟩
theorem neS_run (s : Sg) (w : World) : (binOp .neq 38 (.agg #[.int .i64 s.1.1, .int .i64 s.1.2, .int .i64 s.2.1, .int .i64 s.2.2]) (.agg #[.int .i64 s.1.1, .int .i64 s.1.2, .int .i64 s.2.1, .int .i64 s.2.2])).run Try.prog w = .ok (.bool false) w := by
  simp [go_sem]
set_option maxHeartbeats 4000000 in
theorem sameSegs_true (v u : Value) (l : List Sg) (w : World) (h : Rd 4 encSg w v l) (h2 : Rd 4 encSg w u l) (hl : l.length ≤ 1000000000) :
    Calls Try.prog 22 #[v, u] w fun e w' => e = .returned (.bool true) ∧ Below w.heap.size w w' := by
  obtain ⟨A, capA, rfl, hcapA, hopA⟩ := h.open_
  have HA := Lib.hid hopA
  have HLA := Lib.hid h
  clear hopA h
  obtain ⟨B, capB, rfl, hcapB, hopB⟩ := h2.open_
  have HB := Lib.hid hopB
  have HLB := Lib.hid h2
  clear hopB h2
  go_enter Try.func22, Try.ntmps22
  go_wp2_with fail
  go_loopw [5] (fun i wr => ∃ k : Nat, k ≤ l.length ∧ i = .int .i64 k ∧ ∃ y : Kin w, y.1 = wr) (fun i _ => l.length - (intOf i).toNat)
  case atStart => exact ⟨0, Nat.zero_le _, rfl, ⟨w, Below.refl _ _⟩, rfl⟩
  case round =>
    obtain ⟨k, hk, rfl, y, rfl⟩ := hrel
    by_cases hlt : k < l.length
    · obtain ⟨s, hx⟩ : ∃ x, l[k]? = some x := ⟨_, List.getElem?_eq_getElem hlt⟩
      obtain ⟨bA, offA, rfl, hbA, hcA⟩ := HA.out k s hx
      obtain ⟨bB, offB, rfl, hbB, hcB⟩ := HB.out k s hx
      have x_0 : w.cell? ⟨bA, offA + k * 4, none⟩ = some (.int .i64 s.1.1) := hcA k s hx 0 _ rfl
      have x_1 : w.cell? ⟨bA, offA + k * 4 + 1, none⟩ = some (.int .i64 s.1.2) := hcA k s hx 1 _ rfl
      have x_2 : w.cell? ⟨bA, offA + k * 4 + 2, none⟩ = some (.int .i64 s.2.1) := hcA k s hx 2 _ rfl
      have x_3 : w.cell? ⟨bA, offA + k * 4 + 3, none⟩ = some (.int .i64 s.2.2) := hcA k s hx 3 _ rfl
      have y_0 : w.cell? ⟨bB, offB + k * 4, none⟩ = some (.int .i64 s.1.1) := hcB k s hx 0 _ rfl
      have y_1 : w.cell? ⟨bB, offB + k * 4 + 1, none⟩ = some (.int .i64 s.1.2) := hcB k s hx 1 _ rfl
      have y_2 : w.cell? ⟨bB, offB + k * 4 + 2, none⟩ = some (.int .i64 s.2.1) := hcB k s hx 2 _ rfl
      have y_3 : w.cell? ⟨bB, offB + k * 4 + 3, none⟩ = some (.int .i64 s.2.2) := hcB k s hx 3 _ rfl
      have hrun := neS_run s
      clear hcA hcB hx
      go_wp2_with fail
      ((refine wp_region_kinK (W := w) (by kernel_rfl) (by kernel_rfl) (by repeat (first | with_reducible (first | exact blA | exact blB | refine blC _ ?_ | refine blD ?_ ?_ _ | refine blE ?_ | refine blF _ ?_ | refine blG ?_ _ | refine blH ?_ | refine blI ?_ ?_ _) | (simp only [World.size_alloc]; omega) | (simp <;> omega))) ?_); (repeat' (first | go_big_quiet_step (fail) | ((refine wpQuiet_guard rfl rfl rfl rfl (fun hg => ?_) (fun hg => ?_)) <;> (fail_if_success (first | guard_hyp hg : true = true | guard_hyp hg : false = false)) <;> (try simp only [decide_eq_true_eq, decide_eq_false_iff_not] at hg) <;> simp only [Act.put, List.setIfInBounds_toArray, List.set_cons_zero, List.set_cons_succ]))); all_goals ((with_reducible refine wpQuiet_nil ?_); intro zq hz))
      go_wp2_with fail
      refine ⟨⟨k + 1, by omega, by go_num, zq, rfl⟩, by simp [intOf]; omega⟩
    · go_wp2_with fail
      go_ret
      exact ⟨rfl, y.2⟩
/-- the segments of polygons are balanced -/
theorem cnt_rot (g : Nat → Bool) (n : Nat) : (List.range n).countP (fun i => g ((i + 1) % n)) = (List.range n).countP g := by
  cases n with
  | zero => rfl
  | succ m =>
    have e1 : (List.range (m + 1)).countP g = (if g 0 then 1 else 0) + (List.range m).countP (fun i => g (i + 1)) := by
      rw [List.range_succ_eq_map, List.countP_cons, List.countP_map]
      rw [Nat.add_comm]
      rfl
    rw [e1, List.range_succ, List.countP_append]
    have e2 : (List.range m).countP (fun i => g ((i + 1) % (m + 1))) = (List.range m).countP (fun i => g (i + 1)) := by
      apply List.countP_congr
      intro i hi
      have := List.mem_range.1 hi
      rw [Nat.mod_eq_of_lt (by omega)]
    rw [e2, List.countP_cons, List.countP_nil, Nat.mod_self, Nat.zero_add, Nat.add_comm]
theorem balP_app (a b : List Sg) (p : Pt) : balP (a ++ b) p = balP a p + balP b p := by
  unfold balP
  rw [List.countP_append, List.countP_append]
  omega
theorem balP_segsO (o : List Pt) (p : Pt) : balP (segsO o) p = 0 := by
  unfold balP segsO segsTo
  rw [List.countP_map, List.countP_map]
  have e1 : ((fun s : Sg => decide (s.1 = p)) ∘ segAt o) = fun i => (fun j => decide (o.getD j (0, 0) = p)) i := rfl
  have e2 : ((fun s : Sg => decide (s.2 = p)) ∘ segAt o) = fun i => (fun j => decide (o.getD j (0, 0) = p)) ((i + 1) % o.length) := rfl
  rw [e1, e2, cnt_rot (fun j => decide (o.getD j (0, 0) = p)) o.length]
  exact Int.sub_self _
theorem balP_segsL (l : List (List Pt)) (p : Pt) : balP (segsL l) p = 0 := by
  induction l with
  | nil => rfl
  | cons o l ih =>
    have e : segsL (o :: l) = segsO o ++ segsL l := by simp [segsL]
    rw [e, balP_app, balP_segsO, ih]; rfl
theorem balB_of {l : List Sg} (h : ∀ p, balP l p = 0) : balB l = true := by
  unfold balB
  rw [List.all_eq_true]
  intro s _
  rw [h, h]; rfl
theorem balB_segsL (l : List (List Pt)) : balB (segsL l) = true := balB_of (balP_segsL l)
theorem segsL_wf {l : List (List Pt)} (hw : ∀ o ∈ l, wfO o) : ∀ s ∈ segsL l, wfS s := by
  intro s hs
  unfold segsL at hs
  obtain ⟨o, ho, hs⟩ := List.mem_flatMap.1 hs
  unfold segsO segsTo at hs
  obtain ⟨i, hi, rfl⟩ := List.mem_map.1 hs
  have hi := List.mem_range.1 hi
  have g : ∀ j, j < o.length → wfK (o.getD j (0, 0)) := fun j hj => by
    rw [List.getD_eq_getElem?_getD, List.getElem?_eq_getElem hj]
    exact hw o ho _ (List.getElem_mem hj)
  exact ⟨g i hi, g _ (Nat.mod_lt _ (by omega))⟩
theorem segsL_bd {l : List (List Pt)} {a b : Nat} (ha : l.length ≤ a) (hb : ∀ o ∈ l, o.length ≤ b) : (segsL l).length ≤ a * b := by
  have e : (segsL l).length = sumN l := by
    induction l with
    | nil => rfl
    | cons o l ih =>
      have e : segsL (o :: l) = segsO o ++ segsL l := by simp [segsL]
      rw [e, List.length_append, ih (by simp at ha; omega) (fun q hq => hb q (by simp [hq]))]
      unfold sumN segsO
      rw [segsTo_len]; simp
  rw [e]
  exact Nat.le_trans (sumN_mul hb) (Nat.mul_le_mul_right b ha)
end Go.Proofs.Yteadnlodccnfcaa
