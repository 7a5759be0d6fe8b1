/- Lemmas: RegBox RasSort RasMathC. -/
import Derived.Lib.MinMax
import Derived.Test.YtneelidbgigehaaGreatT07
import Derived.Test.YtneelidbgigehaaGreatT18
import Derived.Test.YtneelidbgigehaaGreatShelf
import Derived.Test.YtneelidbgigehaaGreatT09
import Derived.Test.YtneelidbgigehaaGreatT03
/- What Box returns. -/
namespace Go.Proofs.YtneelidbgigehaaGreat
set_option linter.unusedSimpArgs false
set_option linter.unusedVariables false
open Go.RowKit Runs Reg
attribute [local go_sem] Kin.cell Kin.frozen Kin.lt0 Kin.lt1 Kin.lt2 Kin.lt3 run_mkf
theorem results_cells2t {P : Program} {fn : Func} {p q r : Tmp} {ty : TypeId} (h : fn.results = #[.cell p ty, .cell q ty, .tmp r]) (tmps : Array Value) (w : World) {g g' : Nat} {t t' : TypeId} {cs cs' : Array Value} (fr fr' : Nat × Nat) {d : TypeDesc}
    (hp : tmps.getD p undef = .pointer (some ⟨g, 0, none⟩)) (hg : w.heap[g]? = some (.cells cs t fr)) (hq : tmps.getD q undef = .pointer (some ⟨g', 0, none⟩)) (hg' : w.heap[g']? = some (.cells cs' t' fr'))
    (hu : P.underlying ty = some d) (hd : (match d with | .struct _ | .array _ _ => true | _ => false) = true) (hi : (P.info? ty).map (·.size) = some cs.size) (hi' : cs'.size = cs.size := by rfl) :
    (results fn tmps).run P w = .ok (.tuple #[.agg cs, .agg cs', tmps.getD r undef]) w := by
  have hp' : tmps[p]?.getD undef = .pointer (some ⟨g, 0, none⟩) := by simpa using hp
  have hq' : tmps[q]?.getD undef = .pointer (some ⟨g', 0, none⟩) := by simpa using hq
  simp [results, h, hp', hq', asAddr, run_loadVar_row w g t ty cs fr d hg hu hd hi, run_loadVar_row w g' t' ty cs' fr' d hg' hu hd (by rw [hi, hi'])]
theorem two_stores {W : World} {g g' : Nat} {t t' : TypeId} {x y x' y' : Value} (h : Blk W g t #[x, y]) (h' : Blk W g' t' #[x', y']) (hne : g ≠ g') (a b c d : Value) :
    Blk ((((W.setCell ⟨g, 0, none⟩ a).setCell ⟨g, 1, none⟩ b).setCell ⟨g', 0, none⟩ c).setCell ⟨g', 1, none⟩ d) g t #[a, b] ∧ Blk ((((W.setCell ⟨g, 0, none⟩ a).setCell ⟨g, 1, none⟩ b).setCell ⟨g', 0, none⟩ c).setCell ⟨g', 1, none⟩ d) g' t' #[c, d] :=
  ⟨((((h.set_ 0 a).set_ 1 b).far (p := ⟨g', 0, none⟩) hne c).far (p := ⟨g', 1, none⟩) hne d), ((((h'.far (p := ⟨g, 0, none⟩) (Ne.symm hne) a).far (p := ⟨g, 1, none⟩) (Ne.symm hne) b).set_ 0 c).set_ 1 d)⟩
namespace Reg
def fstF (w : Row) : Int := (w.2[0]?.map (·.1)).getD 0
def lstT (w : Row) : Int := (w.2[w.2.length - 1]?.map (·.2)).getD 0
def bxLo (rows : List Row) : Nat → Int
  | 0 => 4096
  | k + 1 => min (bxLo rows k) ((rows[k]?.map fstF).getD 4096)
def bxHi (rows : List Row) : Nat → Int
  | 0 => -4096
  | k + 1 => max (bxHi rows k) ((rows[k]?.map fun w => lstT w - 1).getD (-4096))
/-- the bounds: least X, least Y, greatest X, greatest Y -/
def boxR (rows : List Row) : (Int × Int) × (Int × Int) :=
  if rvalid rows = true ∧ rows ≠ [] then ((bxLo rows rows.length, (rows[0]?.map (·.1)).getD 0), (bxHi rows rows.length, (rows[rows.length - 1]?.map (·.1)).getD 0)) else ((0, 0), (0, 0))
def boxOk (rows : List Row) : Bool := rvalid rows && !rows.isEmpty
theorem bxLo_succ {rows : List Row} {k : Nat} {w : Row} {e : Run} (h : rows[k]? = some w) (he : w.2[0]? = some e) : bxLo rows (k + 1) = min (bxLo rows k) e.1 := by
  rw [bxLo, h]; simp [fstF, he]
theorem bxHi_succ {rows : List Row} {k : Nat} {w : Row} {e : Run} (h : rows[k]? = some w) (he : w.2[w.2.length - 1]? = some e) : bxHi rows (k + 1) = max (bxHi rows k) (e.2 - 1) := by
  rw [bxHi, h]; simp [lstT, he]
theorem bxLo_bd {rows : List Row} (h : VReg rows) : ∀ k, k ≤ rows.length → -4096 ≤ bxLo rows k ∧ bxLo rows k ≤ 4096
  | 0, _ => by simp [bxLo]
  | k + 1, hk => by
    have ih := bxLo_bd h k (by omega)
    have hr : rows[k]? = some rows[k] := List.getElem?_eq_getElem (by omega)
    have hf := fine_sepIn.1 (h.1 _ (List.mem_of_getElem? hr)).2
    have hp : 0 < rows[k].2.length := List.length_pos_iff.2 hf.2
    have h0 : rows[k].2[0]? = some rows[k].2[0] := List.getElem?_eq_getElem hp
    have h1 := hf.1.2 _ (List.mem_of_getElem? h0)
    rw [bxLo_succ hr h0]
    omega
theorem bxHi_bd {rows : List Row} (h : VReg rows) : ∀ k, k ≤ rows.length → -4096 ≤ bxHi rows k ∧ bxHi rows k ≤ 4096
  | 0, _ => by simp [bxHi]
  | k + 1, hk => by
    have ih := bxHi_bd h k (by omega)
    have hr : rows[k]? = some rows[k] := List.getElem?_eq_getElem (by omega)
    have hf := fine_sepIn.1 (h.1 _ (List.mem_of_getElem? hr)).2
    have hp : 0 < rows[k].2.length := List.length_pos_iff.2 hf.2
    have h0 : rows[k].2[rows[k].2.length - 1]? = some rows[k].2[rows[k].2.length - 1] := List.getElem?_eq_getElem (by omega)
    have h1 := hf.1.2 _ (List.mem_of_getElem? h0)
    rw [bxHi_succ hr h0]
    omega
end Reg
set_option maxRecDepth 100000 in
set_option maxHeartbeats 8000000 in
theorem box18_any (v : Value) (rows : List Reg.Row) (w : World) (h : RdReg w v rows) (hbd : RBd rows) :
    Calls Tryz.prog 20 #[v] w fun e w' => e = .returned (.tuple #[.agg #[.int .i64 (boxR rows).1.1, .int .i64 (boxR rows).1.2], .agg #[.int .i64 (boxR rows).2.1, .int .i64 (boxR rows).2.2], .bool (boxOk rows)]) ∧ Below w.heap.size w w' := by
  have H := Lib.hid h
  have Hbd := Lib.hid hbd
  obtain ⟨s, rfl, h⟩ := h
  obtain ⟨A, capA, rfl, hcapA, hopA⟩ := rows_open h
  have HA := Lib.hid hopA
  have HLA := Lib.hid h
  clear hopA h
  clear hbd
  cases hv : rvalid rows
  · have e1 : boxR rows = ((0, 0), (0, 0)) := by unfold boxR; rw [if_neg (by simp [hv])]
    have e2 : boxOk rows = false := by simp [boxOk, hv]
    rw [e1, e2]
    clear e1 e2
    go_enter Tryz.func20, Tryz.ntmps20
    go_wp2_with (go_at_call 5; (with_reducible refine (Kin.callK (W := ((w.alloc (.cells #[.slice A rows.length capA] 24)).alloc (.cells #[.int .i64 0, .int .i64 0] 47)).alloc (.cells #[.int .i64 0, .int .i64 0] 47)) gRw (valid18_is _ rows _ (H.out.below gRw) Hbd.out hv)).mono ?_); rintro e w' ⟨z, rfl, hz, rfl⟩)
    have hB := two_stores z.boxes3.2.1 z.boxes3.2.2 (by omega) (.int .i64 0) (.int .i64 0) (.int .i64 0) (.int .i64 0)
    ((try simp only [Exit.inBlock, Exit.then]); refine bodyPost_ret (results_cells2t rfl _ _ (0, 0) (0, 0) rfl (hB.1) rfl (hB.2) Tryz.underlying47 rfl (by kernel_rfl)) rfl ?_)
    exact ⟨rfl, gRw⟩
  · have HV := Lib.hid (rvalid_iff.1 hv)
    have hlen : rows.length ≤ 8192 := (vreg_len HV.out).1
    by_cases hl0 : 0 < rows.length
    · obtain ⟨m, hm⟩ : ∃ m, m = rows.length - 1 := ⟨_, rfl⟩
      obtain ⟨ra, hra⟩ : ∃ el_, (rows)[0]? = some el_ := ⟨_, List.getElem?_eq_getElem (by first | exact hl0 | omega)⟩
      obtain ⟨bA, offA, ⟨⟩, hbA, hcA⟩ := HA.out (0) _ hra
      have hbA2 : bA < w.heap.size + 1 := by omega
      have HAc := Lib.hid hcA
      clear hcA
      obtain ⟨SA, capSA, ra_0, ra_1, hcapSA, hrSA⟩ := HAc.out (0) ra hra
      have HLSA := Lib.hid hrSA
      have Hra := Lib.hid hra
      clear hra hrSA
      obtain ⟨rb, hrb⟩ : ∃ el_, (rows)[rows.length - 1]? = some el_ := ⟨_, List.getElem?_eq_getElem (by first | exact (by omega) | omega)⟩
      obtain ⟨SB, capSB, rb_0, rb_1, hcapSB, hrSB⟩ := HAc.out (rows.length - 1) rb hrb
      have HLSB := Lib.hid hrSB
      have Hrb := Lib.hid hrb
      clear hrb hrSB
      rw [show offA + 0 * 2 = offA from by omega] at ra_0 ra_1
      have e1 : boxR rows = ((bxLo rows rows.length, ra.1), (bxHi rows rows.length, rb.1)) := by unfold boxR; rw [if_pos ⟨hv, by intro e; rw [e] at hl0; exact absurd hl0 (by decide)⟩, Hra.out, Hrb.out]; rfl
      have e2 : boxOk rows = true := by cases rows <;> simp_all [boxOk]
      rw [e1, e2]
      clear e1 e2
      have hbA3 : bA < w.heap.size + 1 + 1 := by omega
      have hbA4 : bA < w.heap.size + 1 + 1 + 1 := by omega
      have hb0 : ((rows.length : Int) == 0) = false := by rw [beq_eq_false_iff_ne]; omega
      go_enter Tryz.func20, Tryz.ntmps20
      go_wp2_with (go_at_call 5; (with_reducible refine (Kin.callK (W := ((w.alloc (.cells #[.slice (some ⟨bA, offA, none⟩) rows.length capA] 24)).alloc (.cells #[.int .i64 0, .int .i64 0] 47)).alloc (.cells #[.int .i64 0, .int .i64 0] 47)) gRw (valid18_is _ rows _ (H.out.below gRw) Hbd.out hv)).mono ?_); rintro e w' ⟨z, rfl, hz, rfl⟩; (have l1 := z.boxes3.1.lt; have c0 : (Kin.wd z).cell? ⟨w.heap.size, 0, none⟩ = some (.slice (some ⟨bA, offA, none⟩) rows.length capA) := z.boxes3.1.cell 0; have zA := z.lt0 (b := bA) (by simp; omega); have hzw : Below w.heap.size w (Kin.wd z) := gRw; have za0 : (Kin.wd z).cell? ⟨bA, offA, none⟩ = some (.int .i64 ra.1) := (hzw.cell (p := ⟨bA, _, none⟩) hbA).trans ra_0; have zb0 : (Kin.wd z).cell? ⟨bA, offA + (rows.length - 1) * 2, none⟩ = some (.int .i64 rb.1) := (hzw.cell (p := ⟨bA, _, none⟩) hbA).trans rb_0))
      have HB2 := Lib.hid z.boxes3.2.1
      have HB3 := Lib.hid z.boxes3.2.2
      have hzw : Below w.heap.size w z.1 := hzw
      have l1 : w.heap.size < z.1.heap.size := l1
      have c0 : z.1.cell? ⟨w.heap.size, 0, none⟩ = some (.slice (some ⟨bA, offA, none⟩) rows.length capA) := c0
      have HRW := Lib.hid (rows_op (HLA.out.below hzw))
      have HZW := Lib.hid hzw
      clear za0 zb0 ra_0 ra_1 rb_0 rb_1 hzw hbA hbA2 hbA3 hbA4
      go_loopw [7] (fun i wr => ∃ k : Nat, k ≤ rows.length ∧ i = .int .i64 k ∧ Hid (Blk wr z.1.heap.size 47 #[.int .i64 (bxLo rows k), .int .i64 ra.1]) ∧ Hid (Blk wr (z.1.heap.size + 1) 47 #[.int .i64 (bxHi rows k), .int .i64 rb.1]) ∧ Hid (Below z.1.heap.size z.1 wr)) (fun i _ => rows.length - (intOf i).toNat)
      case atStart => exact ⟨0, Nat.zero_le _, rfl, Lib.hid ((Blk.new _ _ _).below (Below.alloc (Below.refl _ _) (Nat.le_refl _) _)), Lib.hid (blk_alloc2 _ _ _ _), Lib.hid gRw⟩
      case round =>
        obtain ⟨k, hk, rfl, HLO, HHI, hyB⟩ := hrel
        obtain ⟨y, rfl⟩ : ∃ y : Kin z.1, y.1 = wr := ⟨⟨wr, hyB.out⟩, rfl⟩
        clear hyB
        by_cases hlt : k < rows.length
        · obtain ⟨r, hr⟩ : ∃ el_, rows[k]? = some el_ := ⟨_, List.getElem?_eq_getElem hlt⟩
          obtain ⟨b', off', eb, hbA, hc⟩ := HRW.out k _ hr
          cases eb
          obtain ⟨S, capS, r_0, r_1, hcapS, hrS⟩ := hc k r hr
          have hf := fine_sepIn.1 (HV.out.1 r (List.mem_of_getElem? hr)).2
          have hne : 0 < r.2.length := List.length_pos_iff.2 hf.2
          have HIN := Lib.hid hf.1
          have hll := sepIn_len hf.1
          have Hr := Lib.hid hr
          clear hr hc hf
          have HS := Lib.hid (Rd.op hrS)
          have HLS := Lib.hid hrS
          clear hrS
          obtain ⟨e, he⟩ : ∃ el_, (r.2)[0]? = some el_ := ⟨_, List.getElem?_eq_getElem (by first | exact hne | omega)⟩
          obtain ⟨bS, offS, rfl, hbS, hcS⟩ := HS.out (0) _ he
          have e_0 : z.1.cell? ⟨bS, offS + 0 * 2, none⟩ = some (.int .i64 e.1) := by exact hcS (0) _ he 0 _ rfl
          have e_1 : z.1.cell? ⟨bS, offS + 0 * 2 + 1, none⟩ = some (.int .i64 e.2) := by exact hcS (0) _ he 1 _ rfl
          have hbS2 : bS < z.1.heap.size + 1 := by omega
          have HSc := Lib.hid hcS
          have He := Lib.hid he
          clear he hcS
          rw [show offS + 0 * 2 = offS from by omega] at e_0
          obtain ⟨f, hf⟩ : ∃ el_, (r.2)[r.2.length - 1]? = some el_ := ⟨_, List.getElem?_eq_getElem (by first | exact (by omega) | omega)⟩
          have f_0 : z.1.cell? ⟨bS, offS + (r.2.length - 1) * 2, none⟩ = some (.int .i64 f.1) := by exact HSc.out (r.2.length - 1) _ hf 0 _ rfl
          have f_1 : z.1.cell? ⟨bS, offS + (r.2.length - 1) * 2 + 1, none⟩ = some (.int .i64 f.2) := by exact HSc.out (r.2.length - 1) _ hf 1 _ rfl
          have Hf := Lib.hid hf
          clear hf
          have hbe := HIN.out.2 e (List.mem_of_getElem? He.out)
          have hbf := HIN.out.2 f (List.mem_of_getElem? Hf.out)
          have hlo := bxLo_bd HV.out k hk
          have hhi := bxHi_bd HV.out k hk
          have hwl : IntKind.i64.wrap ((r.2.length : Int) - 1) = (r.2.length : Int) - 1 := IntWalk.i64_in _ (by omega)
          have hsf : f.1 < f.2 := HIN.out.1.1 f (List.mem_of_getElem? Hf.out)
          have hwf : IntKind.i64.wrap (f.2 - 1) = f.2 - 1 := IntWalk.i64_in _ (by omega)
          have c1 : y.1.cell? ⟨w.heap.size, 0, none⟩ = some (.slice (some ⟨bA, offA, none⟩) rows.length capA) := (y.cell l1).trans c0
          have l1' := y.lt0 l1
          have r_0' : y.1.cell? ⟨bA, offA + k * 2, none⟩ = some (.int .i64 r.1) := (y.cell hbA).trans r_0
          have r_1' : y.1.cell? ⟨bA, offA + k * 2 + 1, none⟩ = some (.slice (some ⟨bS, offS, none⟩) r.2.length capS) := (y.cell hbA).trans r_1
          have lA' := y.lt0 hbA
          have e_0' : y.1.cell? ⟨bS, offS, none⟩ = some (.int .i64 e.1) := (y.cell hbS).trans e_0
          have f_1' : y.1.cell? ⟨bS, offS + (r.2.length - 1) * 2 + 1, none⟩ = some (.int .i64 f.2) := (y.cell hbS).trans f_1
          have lS' := y.lt0 hbS
          have p0 : y.1.cell? ⟨z.1.heap.size, 0, none⟩ = some (.int .i64 (bxLo rows k)) := HLO.out.cell 0
          have pf0 : y.1.frozen? ⟨z.1.heap.size, 0, none⟩ = false := HLO.out.frozen 0
          have pl0 := HLO.out.lt
          have p1 : y.1.cell? ⟨z.1.heap.size + 1, 0, none⟩ = some (.int .i64 (bxHi rows k)) := HHI.out.cell 0
          have pf1 : y.1.frozen? ⟨z.1.heap.size + 1, 0, none⟩ = false := HHI.out.frozen 0
          have pl1 := HHI.out.lt
          go_wp2
          ((refine wp_region_tailK (W := (Kin.wd y)) 8 (by kernel_rfl) (by kernel_rfl) gRw ?_); simp only [List.take_succ_cons, List.take_zero, List.drop_succ_cons, List.drop_zero]; (repeat' (first | go_big_quiet_step (fail) | ((refine wpQuiet_guard rfl rfl rfl rfl (fun hg => ?_) (fun hg => ?_)) <;> (fail_if_success (first | guard_hyp hg : true = true | guard_hyp hg : false = false)) <;> (try simp only [decide_eq_true_eq, decide_eq_false_iff_not] at hg) <;> simp only [Act.put, List.setIfInBounds_toArray, List.set_cons_zero, List.set_cons_succ]))); all_goals ((with_reducible refine wpQuiet_nil ?_); intro zq hz))
          go_wp2
          obtain ⟨y5, hX⟩ : ∃ y5 : Kin z.1, y5.1 = zq.1.setCell ⟨z.1.heap.size, 0, none⟩ (.int .i64 (min (bxLo rows k) e.1)) := ⟨⟨zq.1.setCell ⟨z.1.heap.size, 0, none⟩ (.int .i64 (min (bxLo rows k) e.1)), Below.setCell (y.2.trans (zq.2.mono y.2.size)) (Nat.le_refl _) _⟩, rfl⟩
          rw [← hX]
          have HLO5 : Blk y5.1 z.1.heap.size 47 #[.int .i64 (min (bxLo rows k) e.1), .int .i64 ra.1] := by rw [hX]; exact (HLO.out.below zq.2).set_ 0 _
          have HHI5 : Blk y5.1 (z.1.heap.size + 1) 47 #[.int .i64 (bxHi rows k), .int .i64 rb.1] := by rw [hX]; exact (HHI.out.below zq.2).far (by simp) _
          clear hX c1 l1' r_0' r_1' lA' e_0' f_1' lS' p0 pf0 pl0 p1 pf1 pl1 HLO HHI
          have HLO := Lib.hid HLO5
          have HHI := Lib.hid HHI5
          clear HLO5 HHI5
          have c1 : y5.1.cell? ⟨w.heap.size, 0, none⟩ = some (.slice (some ⟨bA, offA, none⟩) rows.length capA) := (y5.cell l1).trans c0
          have l1' := y5.lt0 l1
          have r_0' : y5.1.cell? ⟨bA, offA + k * 2, none⟩ = some (.int .i64 r.1) := (y5.cell hbA).trans r_0
          have r_1' : y5.1.cell? ⟨bA, offA + k * 2 + 1, none⟩ = some (.slice (some ⟨bS, offS, none⟩) r.2.length capS) := (y5.cell hbA).trans r_1
          have lA' := y5.lt0 hbA
          have e_0' : y5.1.cell? ⟨bS, offS, none⟩ = some (.int .i64 e.1) := (y5.cell hbS).trans e_0
          have f_1' : y5.1.cell? ⟨bS, offS + (r.2.length - 1) * 2 + 1, none⟩ = some (.int .i64 f.2) := (y5.cell hbS).trans f_1
          have lS' := y5.lt0 hbS
          have p0 : y5.1.cell? ⟨z.1.heap.size, 0, none⟩ = some (.int .i64 (min (bxLo rows k) e.1)) := HLO.out.cell 0
          have pf0 : y5.1.frozen? ⟨z.1.heap.size, 0, none⟩ = false := HLO.out.frozen 0
          have pl0 := HLO.out.lt
          have p1 : y5.1.cell? ⟨z.1.heap.size + 1, 0, none⟩ = some (.int .i64 (bxHi rows k)) := HHI.out.cell 0
          have pf1 : y5.1.frozen? ⟨z.1.heap.size + 1, 0, none⟩ = false := HHI.out.frozen 0
          have pl1 := HHI.out.lt
          ((refine wp_region_tailK (W := (Kin.wd y5)) 12 (by kernel_rfl) (by kernel_rfl) gRw ?_); simp only [List.take_succ_cons, List.take_zero, List.drop_succ_cons, List.drop_zero]; (repeat' (first | go_big_quiet_step (fail) | ((refine wpQuiet_guard rfl rfl rfl rfl (fun hg => ?_) (fun hg => ?_)) <;> (fail_if_success (first | guard_hyp hg : true = true | guard_hyp hg : false = false)) <;> (try simp only [decide_eq_true_eq, decide_eq_false_iff_not] at hg) <;> simp only [Act.put, List.setIfInBounds_toArray, List.set_cons_zero, List.set_cons_succ]))); all_goals ((with_reducible refine wpQuiet_nil ?_); intro zq hz))
          go_wp2
          go_roundw
          case rel => exact ⟨k + 1, by omega, by go_num, Lib.hid (by rw [bxLo_succ Hr.out He.out]; exact (HLO.out.below zq.2).far (by simp) _), Lib.hid (by rw [bxHi_succ Hr.out Hf.out]; exact (HHI.out.below zq.2).set_ 0 _), Lib.hid (Below.setCell (y5.2.trans (zq.2.mono y5.2.size)) (Nat.le_succ _) _)⟩
          case measure => simp [intOf]; omega
        · have ek : k = rows.length := by omega
          rw [ek] at HLO HHI
          clear ek
          have p0 : y.1.cell? ⟨z.1.heap.size, 0, none⟩ = some (.int .i64 (bxLo rows rows.length)) := HLO.out.cell 0
          have p0' : y.1.cell? ⟨z.1.heap.size, 1, none⟩ = some (.int .i64 ra.1) := HLO.out.cell 1
          have pl0 := HLO.out.lt
          have p1 : y.1.cell? ⟨z.1.heap.size + 1, 0, none⟩ = some (.int .i64 (bxHi rows rows.length)) := HHI.out.cell 0
          have p1' : y.1.cell? ⟨z.1.heap.size + 1, 1, none⟩ = some (.int .i64 rb.1) := HHI.out.cell 1
          have pl1 := HHI.out.lt
          have D2 := Lib.hid (HB2.out.below y.2)
          have D3 := Lib.hid (HB3.out.below y.2)
          have t0 : y.1.cell? ⟨w.heap.size + 1, 0, none⟩ = some (.int .i64 0) := D2.out.cell 0
          have t1 : y.1.cell? ⟨w.heap.size + 1, 1, none⟩ = some (.int .i64 0) := D2.out.cell 1
          have tf0 : y.1.frozen? ⟨w.heap.size + 1, 0, none⟩ = false := D2.out.frozen 0
          have tf1 : y.1.frozen? ⟨w.heap.size + 1, 1, none⟩ = false := D2.out.frozen 1
          have tl := D2.out.lt
          have u0 : y.1.cell? ⟨w.heap.size + 2, 0, none⟩ = some (.int .i64 0) := D3.out.cell 0
          have u1 : y.1.cell? ⟨w.heap.size + 2, 1, none⟩ = some (.int .i64 0) := D3.out.cell 1
          have uf0 : y.1.frozen? ⟨w.heap.size + 2, 0, none⟩ = false := D3.out.frozen 0
          have uf1 : y.1.frozen? ⟨w.heap.size + 2, 1, none⟩ = false := D3.out.frozen 1
          have ul := D3.out.lt
          have hsz : w.heap.size + 2 < z.1.heap.size := HB3.out.lt
          have hn1 : ¬ w.heap.size + 1 = z.1.heap.size := by omega
          have hn2 : ¬ w.heap.size + 1 = z.1.heap.size + 1 := by omega
          have hn3 : ¬ w.heap.size + 2 = z.1.heap.size := by omega
          have hn4 : ¬ w.heap.size + 2 = z.1.heap.size + 1 := by omega
          have hn5 : ¬ w.heap.size = z.1.heap.size := by omega
          have hn6 : ¬ w.heap.size + 1 = w.heap.size + 2 := by omega
          have hn7 : ¬ w.heap.size = z.1.heap.size + 1 := by omega
          have c1 : y.1.cell? ⟨w.heap.size, 0, none⟩ = some (.slice (some ⟨bA, offA, none⟩) rows.length capA) := (y.cell l1).trans c0
          have l1' := y.lt0 l1
          go_wp2
          go_region_with (fail)
          all_goals
            go_wp2
            have hB := two_stores D2.out D3.out (by omega) (.int .i64 (bxLo rows rows.length)) (.int .i64 ra.1) (.int .i64 (bxHi rows rows.length)) (.int .i64 rb.1)
            ((try simp only [Exit.inBlock, Exit.then]); refine bodyPost_ret (results_cells2t rfl _ _ (0, 0) (0, 0) rfl (hB.1) rfl (hB.2) Tryz.underlying47 rfl (by kernel_rfl)) rfl ?_)
            exact ⟨rfl, gRw⟩
    · have hr : rows = [] := List.eq_nil_of_length_eq_zero (by omega)
      subst hr
      go_enter Tryz.func20, Tryz.ntmps20
      have H0 := Lib.hid (show RdReg w (.agg #[.slice A 0 capA]) [] from H.out)
      go_wp2_with (go_at_call 5; (with_reducible refine (Kin.callK (W := ((w.alloc (.cells #[.slice A 0 capA] 24)).alloc (.cells #[.int .i64 0, .int .i64 0] 47)).alloc (.cells #[.int .i64 0, .int .i64 0] 47)) gRw (valid18_is _ [] _ (H0.out.below gRw) Hbd.out hv)).mono ?_); rintro e w' ⟨z, rfl, hz, rfl⟩)
      have hB := two_stores z.boxes3.2.1 z.boxes3.2.2 (by omega) (.int .i64 0) (.int .i64 0) (.int .i64 0) (.int .i64 0)
      ((try simp only [Exit.inBlock, Exit.then]); refine bodyPost_ret (results_cells2t rfl _ _ (0, 0) (0, 0) rfl (hB.1) rfl (hB.2) Tryz.underlying47 rfl (by kernel_rfl)) rfl ?_)
      exact ⟨rfl, gRw⟩
end Go.Proofs.YtneelidbgigehaaGreat

/- slices.SortFunc at edges and at steps. -/
namespace Go.Sort
end Go.Sort
namespace Go.Shelf
end Go.Shelf
namespace Go.Proofs.YtneelidbgigehaaGreat
set_option linter.unusedSimpArgs false
set_option linter.unusedVariables false
open Go.Shelf Go.RowKit Go.Lib Go.Sort Go.Proofs Runs Ras
abbrev FEd := { e : Ed // okEd e }
instance : Inhabited FEd := ⟨⟨(((0, 0), (0, 1)), 1), by unfold okEd; decide⟩⟩
/-- a step within bounds -/
def okSt (s : Int × Int) : Prop := -1152921504606846976 ≤ s.1 ∧ s.1 ≤ 1152921504606846976
abbrev FSt := { s : Int × Int // okSt s }
instance : Inhabited FSt := ⟨⟨(0, 0), by unfold okSt; decide⟩⟩
end Go.Proofs.YtneelidbgigehaaGreat

/- Chapter 19 in plain words: what the chapter's own loops build, and what the program's loops build. -/
namespace Go.Proofs.YtneelidbgigehaaGreat
set_option linter.unusedSimpArgs false
set_option linter.unusedVariables false
namespace Ras
open Runs Reg
def oneRow (l : List (List P2)) (pitch N y : Int) (k : Nat) : List Run := (upFrom (-N) k).filterMap fun x => if inP l pitch x y then some (x, x + 1) else none
def cellRow (l : List (List P2)) (pitch N y : Int) (k : Nat) : List (Int × Int) := (upFrom (-N) k).filterMap fun x => if inP l pitch x y then some (x, y) else none
end Ras
end Go.Proofs.YtneelidbgigehaaGreat
