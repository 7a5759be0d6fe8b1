/- Corners of the chapter, walked (printed by tools/mkcorn.py). -/
import Derived.Test.YtomndgjnhhchdaaTrkCorn
namespace Go.Proofs.Ytomndgjnhhchdaa
set_option linter.unusedSimpArgs false
set_option linter.unusedVariables false
set_option maxRecDepth 100000
open Go.RowKit Trk
attribute [local go_sem] Kin.cell Kin.frozen Kin.lt0 Kin.lt1 Kin.lt2 Kin.lt3
/-- three blocks that are new, distinct, and hold nothing -/
def Fresh3 (w y0 : World) (Gc Ga Gb : Nat) (y : Kin w) : Prop :=
  Blk y.1 Gc 31 #[.int .i64 0, .int .i64 0] ∧ Blk y.1 Ga 31 #[.int .i64 0, .int .i64 0] ∧ Blk y.1 Gb 31 #[.int .i64 0, .int .i64 0] ∧ (Gc ≠ Ga ∧ Gc ≠ Gb ∧ Ga ≠ Gb) ∧ (y0.heap.size ≤ Gc ∧ y0.heap.size ≤ Ga ∧ y0.heap.size ≤ Gb) ∧ Below y0.heap.size y0 y.1
theorem fresh3 (w : World) (t : TypeId) (o : Array Value) : Blk (((w.alloc (.cells o t)).alloc (.cells o t)).alloc (.cells o t)).drew w.heap.size t o ∧ Blk (((w.alloc (.cells o t)).alloc (.cells o t)).alloc (.cells o t)).drew (w.heap.size + 1) t o ∧ Blk (((w.alloc (.cells o t)).alloc (.cells o t)).alloc (.cells o t)).drew (w.heap.size + 1 + 1) t o ∧ Below w.heap.size w (((w.alloc (.cells o t)).alloc (.cells o t)).alloc (.cells o t)).drew := by
  have h0 := Blk.new w t o
  have h1 := Blk.new (w.alloc (.cells o t)) t o
  have h2 := Blk.new ((w.alloc (.cells o t)).alloc (.cells o t)) t o
  rw [World.size_alloc] at h1 h2
  rw [World.size_alloc] at h2
  refine ⟨?_, ?_, ?_, below3 _ _ _ _⟩
  · exact h0.below ((Below.alloc (Below.alloc (Below.refl _ _) (Nat.le_refl _) _) (by simp [World.size_alloc]) _).drew)
  · exact h1.below ((Below.alloc (Below.refl _ _) (Nat.le_refl _) _).drew)
  · exact h2.below (Below.drew (Below.refl _ _))
theorem blk_set2 {w : World} {g : Nat} {t : TypeId} {u0 u1 : Value} (h : Blk w g t #[u0, u1]) (a b : Value) : Blk ((w.setCell ⟨g, 0, none⟩ a).setCell ⟨g, 1, none⟩ b) g t #[a, b] := (h.set_ 0 a).set_ 1 b
theorem blk_far2 {w : World} {g p : Nat} {t : TypeId} {cs : Array Value} (h : Blk w g t cs) (hne : g ≠ p) (a b : Value) : Blk ((w.setCell ⟨p, 0, none⟩ a).setCell ⟨p, 1, none⟩ b) g t cs := (h.far (p := ⟨p, 0, none⟩) hne a).far (p := ⟨p, 1, none⟩) hne b
theorem blk_set2B {w0 w : World} {B p : Nat} (h : Below B w0 w) (hp : B ≤ p) (a b : Value) : Below B w0 ((w.setCell ⟨p, 0, none⟩ a).setCell ⟨p, 1, none⟩ b) := (h.setCell (p := ⟨p, 0, none⟩) hp a).setCell (p := ⟨p, 1, none⟩) hp b
set_option maxHeartbeats 8000000 in
theorem cornersR_any (r : Int) (cl : Bool) (A : Option Addr) (cap : Nat) (l : List Cl) {n : Nat} (w : World) (hn : l.length = n) (h : Rd 2 encPt w (.slice A n cap) l) :
    Calls Try.prog 17 #[tv r cl A n cap] w fun e w' => (∃ u, e = .returned u ∧ Rd 2 encPt w' u (cornT ((r, cl), l))) ∧ Below w.heap.size w w' := by
  have HL := Lib.hid hn
  have HA := Lib.hid h
  clear h hn
  cases hv : tval ((r, cl), l)
  · have HR := Lib.hid (show cornT ((r, cl), l) = [] by unfold cornT; rw [hv]; rfl)
    go_enter Try.func17, Try.ntmps17
    go_wp2_with (go_at_call 12; (with_reducible refine (Kin.callK (W := (w.alloc (.cells #[.int .i64 r, .bool cl, .slice A n cap] 24))) (by repeat (first | with_reducible (first | exact blA | exact blB | refine blC _ ?_ | refine blD ?_ ?_ _ | refine blE ?_ | refine blF _ ?_ | refine blG ?_ _ | refine blH ?_ | refine blI ?_ ?_ _) | (simp only [World.size_alloc]; omega) | (simp <;> omega))) (validR_is r cl A cap l _ HL.out (HA.out.below (by repeat (first | with_reducible (first | exact blA | exact blB | refine blC _ ?_ | refine blD ?_ ?_ _ | refine blE ?_ | refine blF _ ?_ | refine blG ?_ _ | refine blH ?_ | refine blI ?_ ?_ _) | (simp only [World.size_alloc]; omega) | (simp <;> omega)))) hv)).mono ?_); rintro e w' ⟨z, rfl, hz, rfl⟩; skip)
    go_ret
    exact ⟨⟨_, rfl, by rw [HR.out]; exact Rd.nil⟩, (by repeat (first | with_reducible (first | exact blA | exact blB | refine blC _ ?_ | refine blD ?_ ?_ _ | refine blE ?_ | refine blF _ ?_ | refine blG ?_ _ | refine blH ?_ | refine blI ?_ ?_ _) | (simp only [World.size_alloc]; omega) | (simp <;> omega)))⟩
  · have HR := Lib.hid (show cornT ((r, cl), l) = cornTo l n by unfold cornT; rw [hv, HL.out]; rfl)
    have hn1 : n ≤ 65536 := by have := (tval_len hv).2.2; have := HL.out; simp at *; omega
    have hn0 : 1 ≤ n := by have := (tval_len hv).2.1; have := HL.out; simp at *; omega
    have HOK := Lib.hid (fun c (hc : c ∈ l) => okc_iff.1 (tval_ok hv hc))
    obtain ⟨x0, hx0⟩ : ∃ x0, l[0]? = some x0 := ⟨_, List.getElem?_eq_getElem (by rw [HL.out]; omega)⟩
    have HX0 := Lib.hid hx0
    have H1 := Lib.hid (show cornTo l 1 = [x0] by rw [show (1 : Nat) = 0 + 1 from rfl, cornTo_succ hx0, keep_first]; rfl)
    have hwn : IntKind.i64.wrap ((n : Int) - 1) = (n : Int) - 1 := IntWalk.i64_in _ (by omega)
    have hpn : (0 : Int) < (n : Int) := by omega
    have hpn2 : 0 < n := by omega
    clear hx0
    go_enter Try.func17, Try.ntmps17
    go_wp2_with (go_at_call 12; (with_reducible refine (Kin.callK (W := (w.alloc (.cells #[.int .i64 r, .bool cl, .slice A n cap] 24))) (by repeat (first | with_reducible (first | exact blA | exact blB | refine blC _ ?_ | refine blD ?_ ?_ _ | refine blE ?_ | refine blF _ ?_ | refine blG ?_ _ | refine blH ?_ | refine blI ?_ ?_ _) | (simp only [World.size_alloc]; omega) | (simp <;> omega))) (validR_is r cl A cap l _ HL.out (HA.out.below (by repeat (first | with_reducible (first | exact blA | exact blB | refine blC _ ?_ | refine blD ?_ ?_ _ | refine blE ?_ | refine blF _ ?_ | refine blG ?_ _ | refine blH ?_ | refine blI ?_ ?_ _) | (simp only [World.size_alloc]; omega) | (simp <;> omega)))) hv)).mono ?_); rintro e w' ⟨z, rfl, hz, rfl⟩; (have B1 := Lib.hid ((Blk.new w 24 #[.int .i64 r, .bool cl, .slice A n cap]).below z.2); have q2 : (Kin.wd z).cell? ⟨w.heap.size, 2, none⟩ = some (.slice A n cap) := B1.out.cell 2; have ql := B1.out.lt; have HZW := Lib.hid (show Below w.heap.size w (Kin.wd z) from (by repeat (first | with_reducible (first | exact blA | exact blB | refine blC _ ?_ | refine blD ?_ ?_ _ | refine blE ?_ | refine blF _ ?_ | refine blG ?_ _ | refine blH ?_ | refine blI ?_ ?_ _) | (simp only [World.size_alloc]; omega) | (simp <;> omega)))); obtain ⟨bA, offA, rfl, hbA, hcA⟩ := Rd.op (Lib.hid (HA.out.below HZW.out)) 0 x0 HX0.out; have x_0 : (Kin.wd z).cell? ⟨bA, offA, none⟩ = some (.int .i64 x0.1) := (by have := hcA 0 x0 HX0.out 0 _ rfl; simpa using this); have x_1 : (Kin.wd z).cell? ⟨bA, offA + 1, none⟩ = some (.int .i64 x0.2) := (by have := hcA 0 x0 HX0.out 1 _ rfl; simpa using this); have hbA2 : bA < (Kin.wd z).heap.size + 1 := Nat.lt_succ_of_lt hbA; have HAc := Lib.hid hcA; clear hcA))
    clear hv
    go_loopw [4, 5] (fun o i wr => ∃ k : Nat, 1 ≤ k ∧ (k + 1 ≤ n ∨ k = 1) ∧ i = .int .i64 k ∧ Hid (OwnC z.1.heap.size wr o (cornTo l k)) ∧ ∃ y : Kin z.1, y.1 = wr) (fun _ i _ => n - (intOf i).toNat)
    case atStart => exact ⟨1, Nat.le_refl _, .inr rfl, rfl, Lib.hid (by rw [H1.out]; exact own_made z.1 encPt_len z.1.heap.size 31 [x0] #[.int .i64 x0.1, .int .i64 x0.2] rfl (Nat.le_refl _) (by unfold maxLen; simp)), ⟨World.alloc _ _, (by repeat (first | with_reducible (first | exact blA | exact blB | refine blC _ ?_ | refine blD ?_ ?_ _ | refine blE ?_ | refine blF _ ?_ | refine blG ?_ _ | refine blH ?_ | refine blI ?_ ?_ _) | (simp only [World.size_alloc]; omega) | (simp <;> omega)))⟩, rfl⟩
    case round =>
      obtain ⟨k, hk1, hk2, rfl, HO, y, rfl⟩ := hrel
      have hcl : (cornTo l k).length ≤ 65536 := Nat.le_trans (cornTo_len l k) (by omega)
      obtain ⟨m, rfl⟩ : ∃ m, k = m + 1 := ⟨k - 1, by omega⟩
      by_cases hlt : m + 2 < n
      · have hlt2 : (m : Int) + 1 < (n : Int) - 1 := by omega
        have hw1 : IntKind.i64.wrap (((m + 1 : Nat) : Int) - 1) = (m : Int) := by rw [IntWalk.i64_in _ (by omega)]; omega
        have hw2 : ((m : Int) + 1) - 1 = (m : Int) := by omega
        have hw3 : IntKind.i64.wrap ((m : Int) + 1 - 1) = (m : Int) := by rw [IntWalk.i64_in _ (by omega)]; omega
        have hmn : m < n := by omega
        have hmn1 : m + 1 < n := by omega
        have hw5 : IntKind.i64.wrap (m : Int) = (m : Int) := IntWalk.i64_in _ (by omega)
        have hmI : (m : Int) < (n : Int) := by omega
        have hm0 : (0 : Int) ≤ (m : Int) := by omega
        have hm1 : (m : Int) + 1 < (n : Int) := by omega
        have hm2 : (0 : Int) ≤ (m : Int) + 1 := by omega
        have hm3 : ((m : Int) + 1).toNat = m + 1 := by omega
        have hp1 : IntKind.i64.wrap ((m : Int) + 1 + 1) = (m : Int) + 1 + 1 := IntWalk.i64_in _ (by omega)
        have hp2 : (m : Int) + 1 + 1 < (n : Int) := by omega
        have hp3 : (0 : Int) ≤ (m : Int) + 1 + 1 := by omega
        have hp4 : ((m : Int) + 1 + 1).toNat = m + 2 := by omega
        obtain ⟨a, ha⟩ : ∃ el_, (l)[m]? = some el_ := ⟨_, List.getElem?_eq_getElem (by first | exact (by rw [HL.out]; exact hmn) | omega)⟩
        have a_0 : z.1.cell? ⟨bA, offA + m * 2, none⟩ = some (.int .i64 a.1) := by exact HAc.out (m) _ ha 0 _ rfl
        have a_1 : z.1.cell? ⟨bA, offA + m * 2 + 1, none⟩ = some (.int .i64 a.2) := by exact HAc.out (m) _ ha 1 _ rfl
        have Ha := Lib.hid ha
        clear ha
        obtain ⟨c, hc⟩ : ∃ el_, (l)[m + 1]? = some el_ := ⟨_, List.getElem?_eq_getElem (by first | exact (by rw [HL.out]; omega) | omega)⟩
        have c_0 : z.1.cell? ⟨bA, offA + (m + 1) * 2, none⟩ = some (.int .i64 c.1) := by exact HAc.out (m + 1) _ hc 0 _ rfl
        have c_1 : z.1.cell? ⟨bA, offA + (m + 1) * 2 + 1, none⟩ = some (.int .i64 c.2) := by exact HAc.out (m + 1) _ hc 1 _ rfl
        have Hc := Lib.hid hc
        clear hc
        obtain ⟨b, hb⟩ : ∃ el_, (l)[m + 2]? = some el_ := ⟨_, List.getElem?_eq_getElem (by first | exact (by rw [HL.out]; omega) | omega)⟩
        have b_0 : z.1.cell? ⟨bA, offA + (m + 2) * 2, none⟩ = some (.int .i64 b.1) := by exact HAc.out (m + 2) _ hb 0 _ rfl
        have b_1 : z.1.cell? ⟨bA, offA + (m + 2) * 2 + 1, none⟩ = some (.int .i64 b.2) := by exact HAc.out (m + 2) _ hb 1 _ rfl
        have Hb := Lib.hid hb
        clear hb
        have HSC := Lib.hid (cornTo_succ Hc.out)
        have HKP := Lib.hid (keep_in Ha.out Hc.out Hb.out)
        have oc := HOK.out c (List.mem_of_getElem? Hc.out)
        have oa := HOK.out a (List.mem_of_getElem? Ha.out)
        have ob := HOK.out b (List.mem_of_getElem? Hb.out)
        have s1 : IntKind.i64.wrap (c.1 - a.1) = c.1 - a.1 := IntWalk.i64_in _ (by omega)
        have s2 : IntKind.i64.wrap (b.1 - c.1) = b.1 - c.1 := IntWalk.i64_in _ (by omega)
        have s3 : IntKind.i64.wrap (c.2 - a.2) = c.2 - a.2 := IntWalk.i64_in _ (by omega)
        have s4 : IntKind.i64.wrap (b.2 - c.2) = b.2 - c.2 := IntWalk.i64_in _ (by omega)
        clear oc oa ob
        have mixed : Try.prog.follows .mixedOrders = true := by kernel_rfl
        go_wp2_with fail
        have la : bA < y.1.heap.size := Nat.lt_of_lt_of_le hbA y.2.size
        have lq : w.heap.size < y.1.heap.size := Nat.lt_of_lt_of_le ql y.2.size
        refine wp_region_held_drew (S := fun w' => Below z.1.heap.size z.1 w') (by kernel_rfl) (by repeat (first | with_reducible (first | exact blA | exact blB | refine blC _ ?_ | refine blD ?_ ?_ _ | refine blE ?_ | refine blF _ ?_ | refine blG ?_ _ | refine blH ?_ | refine blI ?_ ?_ _) | (simp only [World.size_alloc]; omega) | (simp <;> omega))) (fun hHeld => ?_)
        try simp only [List.size_toArray, List.length_cons, List.length_nil, Nat.zero_add, Nat.reduceAdd, List.replicate, Array.replicate]
        refine wpAnyH_take (i := 0) (v := ?_) rfl (by kernel_rfl) (by kernel_rfl) (by kernel_rfl) (fun _ _ _ h => h) (Or.inl ⟨by kernel_rfl, ?_⟩) (by assumption) ?_
        rotate_left
        · (intro w' hSw; have s0 := (hSw.cell (p := ⟨w.heap.size, 2, none⟩) ql).trans (q2); have s1 := (hSw.cell (p := ⟨bA, offA + m * 2, none⟩) hbA).trans (a_0); have s2 := (hSw.cell (p := ⟨bA, offA + m * 2 + 1, none⟩) hbA).trans (a_1); have s3 := (hSw.cell (p := ⟨bA, offA + (m + 1) * 2, none⟩) hbA).trans (c_0); have s4 := (hSw.cell (p := ⟨bA, offA + (m + 1) * 2 + 1, none⟩) hbA).trans (c_1); have s5 := (hSw.cell (p := ⟨bA, offA + (m + 2) * 2, none⟩) hbA).trans (b_0); have s6 := (hSw.cell (p := ⟨bA, offA + (m + 2) * 2 + 1, none⟩) hbA).trans (b_1); go_simp; try with_reducible rfl)
        try simp only [List.getElem_toArray, List.getElem_cons_succ, List.getElem_cons_zero, Act.put, List.setIfInBounds_toArray, List.set_cons_zero, List.set_cons_succ]
        refine wpAnyH_take (i := 1) (v := ?_) rfl (by kernel_rfl) (by kernel_rfl) (by kernel_rfl) (fun _ _ _ h => h) (Or.inl ⟨by kernel_rfl, ?_⟩) (by assumption) ?_
        rotate_left
        · (intro w' hSw; have s0 := (hSw.cell (p := ⟨w.heap.size, 2, none⟩) ql).trans (q2); have s1 := (hSw.cell (p := ⟨bA, offA + m * 2, none⟩) hbA).trans (a_0); have s2 := (hSw.cell (p := ⟨bA, offA + m * 2 + 1, none⟩) hbA).trans (a_1); have s3 := (hSw.cell (p := ⟨bA, offA + (m + 1) * 2, none⟩) hbA).trans (c_0); have s4 := (hSw.cell (p := ⟨bA, offA + (m + 1) * 2 + 1, none⟩) hbA).trans (c_1); have s5 := (hSw.cell (p := ⟨bA, offA + (m + 2) * 2, none⟩) hbA).trans (b_0); have s6 := (hSw.cell (p := ⟨bA, offA + (m + 2) * 2 + 1, none⟩) hbA).trans (b_1); go_simp; try with_reducible rfl)
        try simp only [List.getElem_toArray, List.getElem_cons_succ, List.getElem_cons_zero, Act.put, List.setIfInBounds_toArray, List.set_cons_zero, List.set_cons_succ]
        refine wpAnyH_take (i := 2) (v := ?_) rfl (by kernel_rfl) (by kernel_rfl) (by kernel_rfl) (fun _ _ _ h => h) (Or.inl ⟨by kernel_rfl, ?_⟩) (by assumption) ?_
        rotate_left
        · (intro w' hSw; have s0 := (hSw.cell (p := ⟨w.heap.size, 2, none⟩) ql).trans (q2); have s1 := (hSw.cell (p := ⟨bA, offA + m * 2, none⟩) hbA).trans (a_0); have s2 := (hSw.cell (p := ⟨bA, offA + m * 2 + 1, none⟩) hbA).trans (a_1); have s3 := (hSw.cell (p := ⟨bA, offA + (m + 1) * 2, none⟩) hbA).trans (c_0); have s4 := (hSw.cell (p := ⟨bA, offA + (m + 1) * 2 + 1, none⟩) hbA).trans (c_1); have s5 := (hSw.cell (p := ⟨bA, offA + (m + 2) * 2, none⟩) hbA).trans (b_0); have s6 := (hSw.cell (p := ⟨bA, offA + (m + 2) * 2 + 1, none⟩) hbA).trans (b_1); go_simp; try with_reducible rfl)
        try simp only [List.getElem_toArray, List.getElem_cons_succ, List.getElem_cons_zero, Act.put, List.setIfInBounds_toArray, List.set_cons_zero, List.set_cons_succ]
        refine wpAnyH_take (i := 3) (v := ?_) rfl (by kernel_rfl) (by kernel_rfl) (by kernel_rfl) (fun _ _ _ h => h) (Or.inl ⟨by kernel_rfl, ?_⟩) (by assumption) ?_
        rotate_left
        · (intro w' hSw; have s0 := (hSw.cell (p := ⟨w.heap.size, 2, none⟩) ql).trans (q2); have s1 := (hSw.cell (p := ⟨bA, offA + m * 2, none⟩) hbA).trans (a_0); have s2 := (hSw.cell (p := ⟨bA, offA + m * 2 + 1, none⟩) hbA).trans (a_1); have s3 := (hSw.cell (p := ⟨bA, offA + (m + 1) * 2, none⟩) hbA).trans (c_0); have s4 := (hSw.cell (p := ⟨bA, offA + (m + 1) * 2 + 1, none⟩) hbA).trans (c_1); have s5 := (hSw.cell (p := ⟨bA, offA + (m + 2) * 2, none⟩) hbA).trans (b_0); have s6 := (hSw.cell (p := ⟨bA, offA + (m + 2) * 2 + 1, none⟩) hbA).trans (b_1); go_simp; try with_reducible rfl)
        try simp only [List.getElem_toArray, List.getElem_cons_succ, List.getElem_cons_zero, Act.put, List.setIfInBounds_toArray, List.set_cons_zero, List.set_cons_succ]
        refine wpAnyH_take (i := 4) (v := ?_) rfl (by kernel_rfl) (by kernel_rfl) (by kernel_rfl) (fun _ _ _ h => h) (Or.inl ⟨by kernel_rfl, ?_⟩) (by assumption) ?_
        rotate_left
        · (intro w' hSw; have s0 := (hSw.cell (p := ⟨w.heap.size, 2, none⟩) ql).trans (q2); have s1 := (hSw.cell (p := ⟨bA, offA + m * 2, none⟩) hbA).trans (a_0); have s2 := (hSw.cell (p := ⟨bA, offA + m * 2 + 1, none⟩) hbA).trans (a_1); have s3 := (hSw.cell (p := ⟨bA, offA + (m + 1) * 2, none⟩) hbA).trans (c_0); have s4 := (hSw.cell (p := ⟨bA, offA + (m + 1) * 2 + 1, none⟩) hbA).trans (c_1); have s5 := (hSw.cell (p := ⟨bA, offA + (m + 2) * 2, none⟩) hbA).trans (b_0); have s6 := (hSw.cell (p := ⟨bA, offA + (m + 2) * 2 + 1, none⟩) hbA).trans (b_1); go_simp; try with_reducible rfl)
        try simp only [List.getElem_toArray, List.getElem_cons_succ, List.getElem_cons_zero, Act.put, List.setIfInBounds_toArray, List.set_cons_zero, List.set_cons_succ]
        refine wpAnyH_take (i := 5) (v := ?_) rfl (by kernel_rfl) (by kernel_rfl) (by kernel_rfl) (fun _ _ _ h => h) (Or.inl ⟨by kernel_rfl, ?_⟩) (by assumption) ?_
        rotate_left
        · (intro w' hSw; have s0 := (hSw.cell (p := ⟨w.heap.size, 2, none⟩) ql).trans (q2); have s1 := (hSw.cell (p := ⟨bA, offA + m * 2, none⟩) hbA).trans (a_0); have s2 := (hSw.cell (p := ⟨bA, offA + m * 2 + 1, none⟩) hbA).trans (a_1); have s3 := (hSw.cell (p := ⟨bA, offA + (m + 1) * 2, none⟩) hbA).trans (c_0); have s4 := (hSw.cell (p := ⟨bA, offA + (m + 1) * 2 + 1, none⟩) hbA).trans (c_1); have s5 := (hSw.cell (p := ⟨bA, offA + (m + 2) * 2, none⟩) hbA).trans (b_0); have s6 := (hSw.cell (p := ⟨bA, offA + (m + 2) * 2 + 1, none⟩) hbA).trans (b_1); go_simp; try with_reducible rfl)
        try simp only [List.getElem_toArray, List.getElem_cons_succ, List.getElem_cons_zero, Act.put, List.setIfInBounds_toArray, List.set_cons_zero, List.set_cons_succ]
        refine wpAnyH_take (i := 6) (v := ?_) rfl (by kernel_rfl) (by kernel_rfl) (by kernel_rfl) (fun _ _ _ h => h) (Or.inl ⟨by kernel_rfl, ?_⟩) (by assumption) ?_
        rotate_left
        · (intro w' hSw; have s0 := (hSw.cell (p := ⟨w.heap.size, 2, none⟩) ql).trans (q2); have s1 := (hSw.cell (p := ⟨bA, offA + m * 2, none⟩) hbA).trans (a_0); have s2 := (hSw.cell (p := ⟨bA, offA + m * 2 + 1, none⟩) hbA).trans (a_1); have s3 := (hSw.cell (p := ⟨bA, offA + (m + 1) * 2, none⟩) hbA).trans (c_0); have s4 := (hSw.cell (p := ⟨bA, offA + (m + 1) * 2 + 1, none⟩) hbA).trans (c_1); have s5 := (hSw.cell (p := ⟨bA, offA + (m + 2) * 2, none⟩) hbA).trans (b_0); have s6 := (hSw.cell (p := ⟨bA, offA + (m + 2) * 2 + 1, none⟩) hbA).trans (b_1); go_simp; try with_reducible rfl)
        try simp only [List.getElem_toArray, List.getElem_cons_succ, List.getElem_cons_zero, Act.put, List.setIfInBounds_toArray, List.set_cons_zero, List.set_cons_succ]
        refine wpAnyH_take (i := 7) (v := ?_) rfl (by kernel_rfl) (by kernel_rfl) (by kernel_rfl) (fun _ _ _ h => h) (Or.inl ⟨by kernel_rfl, ?_⟩) (by assumption) ?_
        rotate_left
        · (intro w' hSw; have s0 := (hSw.cell (p := ⟨w.heap.size, 2, none⟩) ql).trans (q2); have s1 := (hSw.cell (p := ⟨bA, offA + m * 2, none⟩) hbA).trans (a_0); have s2 := (hSw.cell (p := ⟨bA, offA + m * 2 + 1, none⟩) hbA).trans (a_1); have s3 := (hSw.cell (p := ⟨bA, offA + (m + 1) * 2, none⟩) hbA).trans (c_0); have s4 := (hSw.cell (p := ⟨bA, offA + (m + 1) * 2 + 1, none⟩) hbA).trans (c_1); have s5 := (hSw.cell (p := ⟨bA, offA + (m + 2) * 2, none⟩) hbA).trans (b_0); have s6 := (hSw.cell (p := ⟨bA, offA + (m + 2) * 2 + 1, none⟩) hbA).trans (b_1); go_simp; try with_reducible rfl)
        try simp only [List.getElem_toArray, List.getElem_cons_succ, List.getElem_cons_zero, Act.put, List.setIfInBounds_toArray, List.set_cons_zero, List.set_cons_succ]
        refine wpAnyH_take (i := 8) (v := ?_) rfl (by kernel_rfl) (by kernel_rfl) (by kernel_rfl) (fun _ _ _ h => h) (Or.inl ⟨by kernel_rfl, ?_⟩) (by assumption) ?_
        rotate_left
        · (intro w' hSw; have s0 := (hSw.cell (p := ⟨w.heap.size, 2, none⟩) ql).trans (q2); have s1 := (hSw.cell (p := ⟨bA, offA + m * 2, none⟩) hbA).trans (a_0); have s2 := (hSw.cell (p := ⟨bA, offA + m * 2 + 1, none⟩) hbA).trans (a_1); have s3 := (hSw.cell (p := ⟨bA, offA + (m + 1) * 2, none⟩) hbA).trans (c_0); have s4 := (hSw.cell (p := ⟨bA, offA + (m + 1) * 2 + 1, none⟩) hbA).trans (c_1); have s5 := (hSw.cell (p := ⟨bA, offA + (m + 2) * 2, none⟩) hbA).trans (b_0); have s6 := (hSw.cell (p := ⟨bA, offA + (m + 2) * 2 + 1, none⟩) hbA).trans (b_1); go_simp; try with_reducible rfl)
        try simp only [List.getElem_toArray, List.getElem_cons_succ, List.getElem_cons_zero, Act.put, List.setIfInBounds_toArray, List.set_cons_zero, List.set_cons_succ]
        refine wpAnyH_take (i := 9) (v := ?_) rfl (by kernel_rfl) (by kernel_rfl) (by kernel_rfl) (fun _ _ _ h => h) (Or.inl ⟨by kernel_rfl, ?_⟩) (by assumption) ?_
        rotate_left
        · (intro w' hSw; have s0 := (hSw.cell (p := ⟨w.heap.size, 2, none⟩) ql).trans (q2); have s1 := (hSw.cell (p := ⟨bA, offA + m * 2, none⟩) hbA).trans (a_0); have s2 := (hSw.cell (p := ⟨bA, offA + m * 2 + 1, none⟩) hbA).trans (a_1); have s3 := (hSw.cell (p := ⟨bA, offA + (m + 1) * 2, none⟩) hbA).trans (c_0); have s4 := (hSw.cell (p := ⟨bA, offA + (m + 1) * 2 + 1, none⟩) hbA).trans (c_1); have s5 := (hSw.cell (p := ⟨bA, offA + (m + 2) * 2, none⟩) hbA).trans (b_0); have s6 := (hSw.cell (p := ⟨bA, offA + (m + 2) * 2 + 1, none⟩) hbA).trans (b_1); go_simp; try with_reducible rfl)
        try simp only [List.getElem_toArray, List.getElem_cons_succ, List.getElem_cons_zero, Act.put, List.setIfInBounds_toArray, List.set_cons_zero, List.set_cons_succ]
        refine wpAnyH_take (i := 10) (v := ?_) rfl (by kernel_rfl) (by kernel_rfl) (by kernel_rfl) (fun _ _ _ h => h) (Or.inl ⟨by kernel_rfl, ?_⟩) (by assumption) ?_
        rotate_left
        · (intro w' hSw; have s0 := (hSw.cell (p := ⟨w.heap.size, 2, none⟩) ql).trans (q2); have s1 := (hSw.cell (p := ⟨bA, offA + m * 2, none⟩) hbA).trans (a_0); have s2 := (hSw.cell (p := ⟨bA, offA + m * 2 + 1, none⟩) hbA).trans (a_1); have s3 := (hSw.cell (p := ⟨bA, offA + (m + 1) * 2, none⟩) hbA).trans (c_0); have s4 := (hSw.cell (p := ⟨bA, offA + (m + 1) * 2 + 1, none⟩) hbA).trans (c_1); have s5 := (hSw.cell (p := ⟨bA, offA + (m + 2) * 2, none⟩) hbA).trans (b_0); have s6 := (hSw.cell (p := ⟨bA, offA + (m + 2) * 2 + 1, none⟩) hbA).trans (b_1); go_simp; try with_reducible rfl)
        try simp only [List.getElem_toArray, List.getElem_cons_succ, List.getElem_cons_zero, Act.put, List.setIfInBounds_toArray, List.set_cons_zero, List.set_cons_succ]
        refine wpAnyH_take (i := 11) (v := ?_) rfl (by kernel_rfl) (by kernel_rfl) (by kernel_rfl) (fun _ _ _ h => h) (Or.inl ⟨by kernel_rfl, ?_⟩) (by assumption) ?_
        rotate_left
        · (intro w' hSw; have s0 := (hSw.cell (p := ⟨w.heap.size, 2, none⟩) ql).trans (q2); have s1 := (hSw.cell (p := ⟨bA, offA + m * 2, none⟩) hbA).trans (a_0); have s2 := (hSw.cell (p := ⟨bA, offA + m * 2 + 1, none⟩) hbA).trans (a_1); have s3 := (hSw.cell (p := ⟨bA, offA + (m + 1) * 2, none⟩) hbA).trans (c_0); have s4 := (hSw.cell (p := ⟨bA, offA + (m + 1) * 2 + 1, none⟩) hbA).trans (c_1); have s5 := (hSw.cell (p := ⟨bA, offA + (m + 2) * 2, none⟩) hbA).trans (b_0); have s6 := (hSw.cell (p := ⟨bA, offA + (m + 2) * 2 + 1, none⟩) hbA).trans (b_1); go_simp; try with_reducible rfl)
        try simp only [List.getElem_toArray, List.getElem_cons_succ, List.getElem_cons_zero, Act.put, List.setIfInBounds_toArray, List.set_cons_zero, List.set_cons_succ]
        refine wpAnyH_take (i := 12) (v := ?_) rfl (by kernel_rfl) (by kernel_rfl) (by kernel_rfl) (fun _ _ _ h => h) (Or.inl ⟨by kernel_rfl, ?_⟩) (by assumption) ?_
        rotate_left
        · (intro w' hSw; have s0 := (hSw.cell (p := ⟨w.heap.size, 2, none⟩) ql).trans (q2); have s1 := (hSw.cell (p := ⟨bA, offA + m * 2, none⟩) hbA).trans (a_0); have s2 := (hSw.cell (p := ⟨bA, offA + m * 2 + 1, none⟩) hbA).trans (a_1); have s3 := (hSw.cell (p := ⟨bA, offA + (m + 1) * 2, none⟩) hbA).trans (c_0); have s4 := (hSw.cell (p := ⟨bA, offA + (m + 1) * 2 + 1, none⟩) hbA).trans (c_1); have s5 := (hSw.cell (p := ⟨bA, offA + (m + 2) * 2, none⟩) hbA).trans (b_0); have s6 := (hSw.cell (p := ⟨bA, offA + (m + 2) * 2 + 1, none⟩) hbA).trans (b_1); go_simp; try with_reducible rfl)
        try simp only [List.getElem_toArray, List.getElem_cons_succ, List.getElem_cons_zero, Act.put, List.setIfInBounds_toArray, List.set_cons_zero, List.set_cons_succ]
        refine wpAnyH_take (i := 13) (v := ?_) rfl (by kernel_rfl) (by kernel_rfl) (by kernel_rfl) (fun _ _ _ h => h) (Or.inl ⟨by kernel_rfl, ?_⟩) (by assumption) ?_
        rotate_left
        · (intro w' hSw; have s0 := (hSw.cell (p := ⟨w.heap.size, 2, none⟩) ql).trans (q2); have s1 := (hSw.cell (p := ⟨bA, offA + m * 2, none⟩) hbA).trans (a_0); have s2 := (hSw.cell (p := ⟨bA, offA + m * 2 + 1, none⟩) hbA).trans (a_1); have s3 := (hSw.cell (p := ⟨bA, offA + (m + 1) * 2, none⟩) hbA).trans (c_0); have s4 := (hSw.cell (p := ⟨bA, offA + (m + 1) * 2 + 1, none⟩) hbA).trans (c_1); have s5 := (hSw.cell (p := ⟨bA, offA + (m + 2) * 2, none⟩) hbA).trans (b_0); have s6 := (hSw.cell (p := ⟨bA, offA + (m + 2) * 2 + 1, none⟩) hbA).trans (b_1); go_simp; try with_reducible rfl)
        try simp only [List.getElem_toArray, List.getElem_cons_succ, List.getElem_cons_zero, Act.put, List.setIfInBounds_toArray, List.set_cons_zero, List.set_cons_succ]
        refine wpAnyH_take (i := 14) (v := ?_) rfl (by kernel_rfl) (by kernel_rfl) (by kernel_rfl) (fun _ _ _ h => h) (Or.inl ⟨by kernel_rfl, ?_⟩) (by assumption) ?_
        rotate_left
        · (intro w' hSw; have s0 := (hSw.cell (p := ⟨w.heap.size, 2, none⟩) ql).trans (q2); have s1 := (hSw.cell (p := ⟨bA, offA + m * 2, none⟩) hbA).trans (a_0); have s2 := (hSw.cell (p := ⟨bA, offA + m * 2 + 1, none⟩) hbA).trans (a_1); have s3 := (hSw.cell (p := ⟨bA, offA + (m + 1) * 2, none⟩) hbA).trans (c_0); have s4 := (hSw.cell (p := ⟨bA, offA + (m + 1) * 2 + 1, none⟩) hbA).trans (c_1); have s5 := (hSw.cell (p := ⟨bA, offA + (m + 2) * 2, none⟩) hbA).trans (b_0); have s6 := (hSw.cell (p := ⟨bA, offA + (m + 2) * 2 + 1, none⟩) hbA).trans (b_1); go_simp; try with_reducible rfl)
        try simp only [List.getElem_toArray, List.getElem_cons_succ, List.getElem_cons_zero, Act.put, List.setIfInBounds_toArray, List.set_cons_zero, List.set_cons_succ]
        refine wpAnyH_take (i := 15) (v := ?_) rfl (by kernel_rfl) (by kernel_rfl) (by kernel_rfl) (fun _ _ _ h => h) (Or.inl ⟨by kernel_rfl, ?_⟩) (by assumption) ?_
        rotate_left
        · (intro w' hSw; have s0 := (hSw.cell (p := ⟨w.heap.size, 2, none⟩) ql).trans (q2); have s1 := (hSw.cell (p := ⟨bA, offA + m * 2, none⟩) hbA).trans (a_0); have s2 := (hSw.cell (p := ⟨bA, offA + m * 2 + 1, none⟩) hbA).trans (a_1); have s3 := (hSw.cell (p := ⟨bA, offA + (m + 1) * 2, none⟩) hbA).trans (c_0); have s4 := (hSw.cell (p := ⟨bA, offA + (m + 1) * 2 + 1, none⟩) hbA).trans (c_1); have s5 := (hSw.cell (p := ⟨bA, offA + (m + 2) * 2, none⟩) hbA).trans (b_0); have s6 := (hSw.cell (p := ⟨bA, offA + (m + 2) * 2 + 1, none⟩) hbA).trans (b_1); go_simp; try with_reducible rfl)
        try simp only [List.getElem_toArray, List.getElem_cons_succ, List.getElem_cons_zero, Act.put, List.setIfInBounds_toArray, List.set_cons_zero, List.set_cons_succ]
        refine wpAnyH_take (i := 16) (v := ?_) rfl (by kernel_rfl) (by kernel_rfl) (by kernel_rfl) (fun _ _ _ h => h) (Or.inl ⟨by kernel_rfl, ?_⟩) (by assumption) ?_
        rotate_left
        · (intro w' hSw; have s0 := (hSw.cell (p := ⟨w.heap.size, 2, none⟩) ql).trans (q2); have s1 := (hSw.cell (p := ⟨bA, offA + m * 2, none⟩) hbA).trans (a_0); have s2 := (hSw.cell (p := ⟨bA, offA + m * 2 + 1, none⟩) hbA).trans (a_1); have s3 := (hSw.cell (p := ⟨bA, offA + (m + 1) * 2, none⟩) hbA).trans (c_0); have s4 := (hSw.cell (p := ⟨bA, offA + (m + 1) * 2 + 1, none⟩) hbA).trans (c_1); have s5 := (hSw.cell (p := ⟨bA, offA + (m + 2) * 2, none⟩) hbA).trans (b_0); have s6 := (hSw.cell (p := ⟨bA, offA + (m + 2) * 2 + 1, none⟩) hbA).trans (b_1); go_simp; try with_reducible rfl)
        try simp only [List.getElem_toArray, List.getElem_cons_succ, List.getElem_cons_zero, Act.put, List.setIfInBounds_toArray, List.set_cons_zero, List.set_cons_succ]
        clear hHeld
        apply cut3 (F := Fresh3 z.1 y.1)
        case main =>
          intro key
          have hHeld : True := trivial
          ((first | refine wpAnyH_ready (rs := [17, 18, 19]) (by kernel_rfl) (by simp) (AllReadyH.cons rfl (fun K hK => ?_) (AllReadyH.cons rfl (fun K hK => ?_) (AllReadyH.cons rfl (fun K hK => ?_) AllReadyH.nil)))) <;> (go_simp; refine hK.out _ _ (by repeat (first | with_reducible (first | exact blA | exact blB | refine blC _ ?_ | refine blD ?_ ?_ _ | refine blE ?_ | refine blF _ ?_ | refine blG ?_ _ | refine blH ?_ | refine blI ?_ ?_ _) | (simp only [World.size_alloc]; omega) | (simp <;> omega))) (fun hHeld2 => ?_); clear hK hHeld; have hHeld := hHeld2; clear hHeld2 K; try simp only [List.getElem_toArray, List.getElem_cons_succ, List.getElem_cons_zero, Act.put, List.setIfInBounds_toArray, List.set_cons_zero, List.set_cons_succ]))
          · ((first | refine wpAnyH_ready (rs := [18, 19]) (by kernel_rfl) (by simp) (AllReadyH.cons rfl (fun K hK => ?_) (AllReadyH.cons rfl (fun K hK => ?_) AllReadyH.nil))) <;> (go_simp; refine hK.out _ _ (by repeat (first | with_reducible (first | exact blA | exact blB | refine blC _ ?_ | refine blD ?_ ?_ _ | refine blE ?_ | refine blF _ ?_ | refine blG ?_ _ | refine blH ?_ | refine blI ?_ ?_ _) | (simp only [World.size_alloc]; omega) | (simp <;> omega))) (fun hHeld2 => ?_); clear hK hHeld; have hHeld := hHeld2; clear hHeld2 K; try simp only [List.getElem_toArray, List.getElem_cons_succ, List.getElem_cons_zero, Act.put, List.setIfInBounds_toArray, List.set_cons_zero, List.set_cons_succ]))
            · ((first | refine wpAnyH_ready (rs := [19]) (by kernel_rfl) (by simp) (AllReadyH.cons rfl (fun K hK => ?_) AllReadyH.nil)) <;> (go_simp; refine hK.out _ _ (by repeat (first | with_reducible (first | exact blA | exact blB | refine blC _ ?_ | refine blD ?_ ?_ _ | refine blE ?_ | refine blF _ ?_ | refine blG ?_ _ | refine blH ?_ | refine blI ?_ ?_ _) | (simp only [World.size_alloc]; omega) | (simp <;> omega))) (fun hHeld2 => ?_); clear hK hHeld; have hHeld := hHeld2; clear hHeld2 K; try simp only [List.getElem_toArray, List.getElem_cons_succ, List.getElem_cons_zero, Act.put, List.setIfInBounds_toArray, List.set_cons_zero, List.set_cons_succ]))
              have h3 := fresh3 y.1 31 #[.int .i64 0, .int .i64 0]
              obtain ⟨y2, hy2⟩ : ∃ y2 : Kin z.1, y2.1 = (((y.1.alloc (.cells #[.int .i64 0, .int .i64 0] 31)).alloc (.cells #[.int .i64 0, .int .i64 0] 31)).alloc (.cells #[.int .i64 0, .int .i64 0] 31)).drew := ⟨⟨_, (((y.2.alloc y.2.size _).alloc (by repeat (first | with_reducible exact Nat.le_refl _ | assumption | with_reducible refine le_alloc ?_ _ | with_reducible refine le_drew ?_ | with_reducible refine Kin.le _ ?_ | assumption | omega | (simp only [World.size_alloc]; omega))) _).alloc (by repeat (first | with_reducible exact Nat.le_refl _ | assumption | with_reducible refine le_alloc ?_ _ | with_reducible refine le_drew ?_ | with_reducible refine Kin.le _ ?_ | assumption | omega | (simp only [World.size_alloc]; omega))) _).drew⟩, rfl⟩
              rw [← hy2] at h3
              rw [← hy2]
              obtain ⟨G2, hG2⟩ : ∃ G, y.1.heap.size + 1 + 1 = G := ⟨_, rfl⟩
              obtain ⟨G1, hG1⟩ : ∃ G, y.1.heap.size + 1 = G := ⟨_, rfl⟩
              obtain ⟨G0, hG0⟩ : ∃ G, y.1.heap.size = G := ⟨_, rfl⟩
              obtain ⟨h31, h32, h33, h34⟩ := id h3
              obtain ⟨l0, l1, l2, d01, d02, d12⟩ : y.1.heap.size ≤ G0 ∧ y.1.heap.size ≤ G1 ∧ y.1.heap.size ≤ G2 ∧ G0 ≠ G1 ∧ G0 ≠ G2 ∧ G1 ≠ G2 := by omega
              rw [hG0] at h31
              rw [hG1] at h32
              rw [hG2] at h33
              rw [hG2, hG1, hG0]
              exact key G2 G0 G1 y2 ⟨h33, h31, h32, ⟨(Ne.symm d02), (Ne.symm d12), d01⟩, ⟨l2, l0, l1⟩, h34⟩
            · ((first | refine wpAnyH_ready (rs := [18]) (by kernel_rfl) (by simp) (AllReadyH.cons rfl (fun K hK => ?_) AllReadyH.nil)) <;> (go_simp; refine hK.out _ _ (by repeat (first | with_reducible (first | exact blA | exact blB | refine blC _ ?_ | refine blD ?_ ?_ _ | refine blE ?_ | refine blF _ ?_ | refine blG ?_ _ | refine blH ?_ | refine blI ?_ ?_ _) | (simp only [World.size_alloc]; omega) | (simp <;> omega))) (fun hHeld2 => ?_); clear hK hHeld; have hHeld := hHeld2; clear hHeld2 K; try simp only [List.getElem_toArray, List.getElem_cons_succ, List.getElem_cons_zero, Act.put, List.setIfInBounds_toArray, List.set_cons_zero, List.set_cons_succ]))
              have h3 := fresh3 y.1 31 #[.int .i64 0, .int .i64 0]
              obtain ⟨y2, hy2⟩ : ∃ y2 : Kin z.1, y2.1 = (((y.1.alloc (.cells #[.int .i64 0, .int .i64 0] 31)).alloc (.cells #[.int .i64 0, .int .i64 0] 31)).alloc (.cells #[.int .i64 0, .int .i64 0] 31)).drew := ⟨⟨_, (((y.2.alloc y.2.size _).alloc (by repeat (first | with_reducible exact Nat.le_refl _ | assumption | with_reducible refine le_alloc ?_ _ | with_reducible refine le_drew ?_ | with_reducible refine Kin.le _ ?_ | assumption | omega | (simp only [World.size_alloc]; omega))) _).alloc (by repeat (first | with_reducible exact Nat.le_refl _ | assumption | with_reducible refine le_alloc ?_ _ | with_reducible refine le_drew ?_ | with_reducible refine Kin.le _ ?_ | assumption | omega | (simp only [World.size_alloc]; omega))) _).drew⟩, rfl⟩
              rw [← hy2] at h3
              rw [← hy2]
              obtain ⟨G2, hG2⟩ : ∃ G, y.1.heap.size + 1 + 1 = G := ⟨_, rfl⟩
              obtain ⟨G1, hG1⟩ : ∃ G, y.1.heap.size + 1 = G := ⟨_, rfl⟩
              obtain ⟨G0, hG0⟩ : ∃ G, y.1.heap.size = G := ⟨_, rfl⟩
              obtain ⟨h31, h32, h33, h34⟩ := id h3
              obtain ⟨l0, l1, l2, d01, d02, d12⟩ : y.1.heap.size ≤ G0 ∧ y.1.heap.size ≤ G1 ∧ y.1.heap.size ≤ G2 ∧ G0 ≠ G1 ∧ G0 ≠ G2 ∧ G1 ≠ G2 := by omega
              rw [hG0] at h31
              rw [hG1] at h32
              rw [hG2] at h33
              rw [hG2, hG1, hG0]
              exact key G1 G0 G2 y2 ⟨h32, h31, h33, ⟨(Ne.symm d01), d12, d02⟩, ⟨l1, l0, l2⟩, h34⟩
          · ((first | refine wpAnyH_ready (rs := [17, 19]) (by kernel_rfl) (by simp) (AllReadyH.cons rfl (fun K hK => ?_) (AllReadyH.cons rfl (fun K hK => ?_) AllReadyH.nil))) <;> (go_simp; refine hK.out _ _ (by repeat (first | with_reducible (first | exact blA | exact blB | refine blC _ ?_ | refine blD ?_ ?_ _ | refine blE ?_ | refine blF _ ?_ | refine blG ?_ _ | refine blH ?_ | refine blI ?_ ?_ _) | (simp only [World.size_alloc]; omega) | (simp <;> omega))) (fun hHeld2 => ?_); clear hK hHeld; have hHeld := hHeld2; clear hHeld2 K; try simp only [List.getElem_toArray, List.getElem_cons_succ, List.getElem_cons_zero, Act.put, List.setIfInBounds_toArray, List.set_cons_zero, List.set_cons_succ]))
            · ((first | refine wpAnyH_ready (rs := [19]) (by kernel_rfl) (by simp) (AllReadyH.cons rfl (fun K hK => ?_) AllReadyH.nil)) <;> (go_simp; refine hK.out _ _ (by repeat (first | with_reducible (first | exact blA | exact blB | refine blC _ ?_ | refine blD ?_ ?_ _ | refine blE ?_ | refine blF _ ?_ | refine blG ?_ _ | refine blH ?_ | refine blI ?_ ?_ _) | (simp only [World.size_alloc]; omega) | (simp <;> omega))) (fun hHeld2 => ?_); clear hK hHeld; have hHeld := hHeld2; clear hHeld2 K; try simp only [List.getElem_toArray, List.getElem_cons_succ, List.getElem_cons_zero, Act.put, List.setIfInBounds_toArray, List.set_cons_zero, List.set_cons_succ]))
              have h3 := fresh3 y.1 31 #[.int .i64 0, .int .i64 0]
              obtain ⟨y2, hy2⟩ : ∃ y2 : Kin z.1, y2.1 = (((y.1.alloc (.cells #[.int .i64 0, .int .i64 0] 31)).alloc (.cells #[.int .i64 0, .int .i64 0] 31)).alloc (.cells #[.int .i64 0, .int .i64 0] 31)).drew := ⟨⟨_, (((y.2.alloc y.2.size _).alloc (by repeat (first | with_reducible exact Nat.le_refl _ | assumption | with_reducible refine le_alloc ?_ _ | with_reducible refine le_drew ?_ | with_reducible refine Kin.le _ ?_ | assumption | omega | (simp only [World.size_alloc]; omega))) _).alloc (by repeat (first | with_reducible exact Nat.le_refl _ | assumption | with_reducible refine le_alloc ?_ _ | with_reducible refine le_drew ?_ | with_reducible refine Kin.le _ ?_ | assumption | omega | (simp only [World.size_alloc]; omega))) _).drew⟩, rfl⟩
              rw [← hy2] at h3
              rw [← hy2]
              obtain ⟨G2, hG2⟩ : ∃ G, y.1.heap.size + 1 + 1 = G := ⟨_, rfl⟩
              obtain ⟨G1, hG1⟩ : ∃ G, y.1.heap.size + 1 = G := ⟨_, rfl⟩
              obtain ⟨G0, hG0⟩ : ∃ G, y.1.heap.size = G := ⟨_, rfl⟩
              obtain ⟨h31, h32, h33, h34⟩ := id h3
              obtain ⟨l0, l1, l2, d01, d02, d12⟩ : y.1.heap.size ≤ G0 ∧ y.1.heap.size ≤ G1 ∧ y.1.heap.size ≤ G2 ∧ G0 ≠ G1 ∧ G0 ≠ G2 ∧ G1 ≠ G2 := by omega
              rw [hG0] at h31
              rw [hG1] at h32
              rw [hG2] at h33
              rw [hG2, hG1, hG0]
              exact key G2 G1 G0 y2 ⟨h33, h32, h31, ⟨(Ne.symm d12), (Ne.symm d02), (Ne.symm d01)⟩, ⟨l2, l1, l0⟩, h34⟩
            · ((first | refine wpAnyH_ready (rs := [17]) (by kernel_rfl) (by simp) (AllReadyH.cons rfl (fun K hK => ?_) AllReadyH.nil)) <;> (go_simp; refine hK.out _ _ (by repeat (first | with_reducible (first | exact blA | exact blB | refine blC _ ?_ | refine blD ?_ ?_ _ | refine blE ?_ | refine blF _ ?_ | refine blG ?_ _ | refine blH ?_ | refine blI ?_ ?_ _) | (simp only [World.size_alloc]; omega) | (simp <;> omega))) (fun hHeld2 => ?_); clear hK hHeld; have hHeld := hHeld2; clear hHeld2 K; try simp only [List.getElem_toArray, List.getElem_cons_succ, List.getElem_cons_zero, Act.put, List.setIfInBounds_toArray, List.set_cons_zero, List.set_cons_succ]))
              have h3 := fresh3 y.1 31 #[.int .i64 0, .int .i64 0]
              obtain ⟨y2, hy2⟩ : ∃ y2 : Kin z.1, y2.1 = (((y.1.alloc (.cells #[.int .i64 0, .int .i64 0] 31)).alloc (.cells #[.int .i64 0, .int .i64 0] 31)).alloc (.cells #[.int .i64 0, .int .i64 0] 31)).drew := ⟨⟨_, (((y.2.alloc y.2.size _).alloc (by repeat (first | with_reducible exact Nat.le_refl _ | assumption | with_reducible refine le_alloc ?_ _ | with_reducible refine le_drew ?_ | with_reducible refine Kin.le _ ?_ | assumption | omega | (simp only [World.size_alloc]; omega))) _).alloc (by repeat (first | with_reducible exact Nat.le_refl _ | assumption | with_reducible refine le_alloc ?_ _ | with_reducible refine le_drew ?_ | with_reducible refine Kin.le _ ?_ | assumption | omega | (simp only [World.size_alloc]; omega))) _).drew⟩, rfl⟩
              rw [← hy2] at h3
              rw [← hy2]
              obtain ⟨G2, hG2⟩ : ∃ G, y.1.heap.size + 1 + 1 = G := ⟨_, rfl⟩
              obtain ⟨G1, hG1⟩ : ∃ G, y.1.heap.size + 1 = G := ⟨_, rfl⟩
              obtain ⟨G0, hG0⟩ : ∃ G, y.1.heap.size = G := ⟨_, rfl⟩
              obtain ⟨h31, h32, h33, h34⟩ := id h3
              obtain ⟨l0, l1, l2, d01, d02, d12⟩ : y.1.heap.size ≤ G0 ∧ y.1.heap.size ≤ G1 ∧ y.1.heap.size ≤ G2 ∧ G0 ≠ G1 ∧ G0 ≠ G2 ∧ G1 ≠ G2 := by omega
              rw [hG0] at h31
              rw [hG1] at h32
              rw [hG2] at h33
              rw [hG2, hG1, hG0]
              exact key G1 G2 G0 y2 ⟨h32, h33, h31, ⟨d12, (Ne.symm d01), (Ne.symm d02)⟩, ⟨l1, l2, l0⟩, h34⟩
          · ((first | refine wpAnyH_ready (rs := [17, 18]) (by kernel_rfl) (by simp) (AllReadyH.cons rfl (fun K hK => ?_) (AllReadyH.cons rfl (fun K hK => ?_) AllReadyH.nil))) <;> (go_simp; refine hK.out _ _ (by repeat (first | with_reducible (first | exact blA | exact blB | refine blC _ ?_ | refine blD ?_ ?_ _ | refine blE ?_ | refine blF _ ?_ | refine blG ?_ _ | refine blH ?_ | refine blI ?_ ?_ _) | (simp only [World.size_alloc]; omega) | (simp <;> omega))) (fun hHeld2 => ?_); clear hK hHeld; have hHeld := hHeld2; clear hHeld2 K; try simp only [List.getElem_toArray, List.getElem_cons_succ, List.getElem_cons_zero, Act.put, List.setIfInBounds_toArray, List.set_cons_zero, List.set_cons_succ]))
            · ((first | refine wpAnyH_ready (rs := [18]) (by kernel_rfl) (by simp) (AllReadyH.cons rfl (fun K hK => ?_) AllReadyH.nil)) <;> (go_simp; refine hK.out _ _ (by repeat (first | with_reducible (first | exact blA | exact blB | refine blC _ ?_ | refine blD ?_ ?_ _ | refine blE ?_ | refine blF _ ?_ | refine blG ?_ _ | refine blH ?_ | refine blI ?_ ?_ _) | (simp only [World.size_alloc]; omega) | (simp <;> omega))) (fun hHeld2 => ?_); clear hK hHeld; have hHeld := hHeld2; clear hHeld2 K; try simp only [List.getElem_toArray, List.getElem_cons_succ, List.getElem_cons_zero, Act.put, List.setIfInBounds_toArray, List.set_cons_zero, List.set_cons_succ]))
              have h3 := fresh3 y.1 31 #[.int .i64 0, .int .i64 0]
              obtain ⟨y2, hy2⟩ : ∃ y2 : Kin z.1, y2.1 = (((y.1.alloc (.cells #[.int .i64 0, .int .i64 0] 31)).alloc (.cells #[.int .i64 0, .int .i64 0] 31)).alloc (.cells #[.int .i64 0, .int .i64 0] 31)).drew := ⟨⟨_, (((y.2.alloc y.2.size _).alloc (by repeat (first | with_reducible exact Nat.le_refl _ | assumption | with_reducible refine le_alloc ?_ _ | with_reducible refine le_drew ?_ | with_reducible refine Kin.le _ ?_ | assumption | omega | (simp only [World.size_alloc]; omega))) _).alloc (by repeat (first | with_reducible exact Nat.le_refl _ | assumption | with_reducible refine le_alloc ?_ _ | with_reducible refine le_drew ?_ | with_reducible refine Kin.le _ ?_ | assumption | omega | (simp only [World.size_alloc]; omega))) _).drew⟩, rfl⟩
              rw [← hy2] at h3
              rw [← hy2]
              obtain ⟨G2, hG2⟩ : ∃ G, y.1.heap.size + 1 + 1 = G := ⟨_, rfl⟩
              obtain ⟨G1, hG1⟩ : ∃ G, y.1.heap.size + 1 = G := ⟨_, rfl⟩
              obtain ⟨G0, hG0⟩ : ∃ G, y.1.heap.size = G := ⟨_, rfl⟩
              obtain ⟨h31, h32, h33, h34⟩ := id h3
              obtain ⟨l0, l1, l2, d01, d02, d12⟩ : y.1.heap.size ≤ G0 ∧ y.1.heap.size ≤ G1 ∧ y.1.heap.size ≤ G2 ∧ G0 ≠ G1 ∧ G0 ≠ G2 ∧ G1 ≠ G2 := by omega
              rw [hG0] at h31
              rw [hG1] at h32
              rw [hG2] at h33
              rw [hG2, hG1, hG0]
              exact key G0 G1 G2 y2 ⟨h31, h32, h33, ⟨d01, d02, d12⟩, ⟨l0, l1, l2⟩, h34⟩
            · ((first | refine wpAnyH_ready (rs := [17]) (by kernel_rfl) (by simp) (AllReadyH.cons rfl (fun K hK => ?_) AllReadyH.nil)) <;> (go_simp; refine hK.out _ _ (by repeat (first | with_reducible (first | exact blA | exact blB | refine blC _ ?_ | refine blD ?_ ?_ _ | refine blE ?_ | refine blF _ ?_ | refine blG ?_ _ | refine blH ?_ | refine blI ?_ ?_ _) | (simp only [World.size_alloc]; omega) | (simp <;> omega))) (fun hHeld2 => ?_); clear hK hHeld; have hHeld := hHeld2; clear hHeld2 K; try simp only [List.getElem_toArray, List.getElem_cons_succ, List.getElem_cons_zero, Act.put, List.setIfInBounds_toArray, List.set_cons_zero, List.set_cons_succ]))
              have h3 := fresh3 y.1 31 #[.int .i64 0, .int .i64 0]
              obtain ⟨y2, hy2⟩ : ∃ y2 : Kin z.1, y2.1 = (((y.1.alloc (.cells #[.int .i64 0, .int .i64 0] 31)).alloc (.cells #[.int .i64 0, .int .i64 0] 31)).alloc (.cells #[.int .i64 0, .int .i64 0] 31)).drew := ⟨⟨_, (((y.2.alloc y.2.size _).alloc (by repeat (first | with_reducible exact Nat.le_refl _ | assumption | with_reducible refine le_alloc ?_ _ | with_reducible refine le_drew ?_ | with_reducible refine Kin.le _ ?_ | assumption | omega | (simp only [World.size_alloc]; omega))) _).alloc (by repeat (first | with_reducible exact Nat.le_refl _ | assumption | with_reducible refine le_alloc ?_ _ | with_reducible refine le_drew ?_ | with_reducible refine Kin.le _ ?_ | assumption | omega | (simp only [World.size_alloc]; omega))) _).drew⟩, rfl⟩
              rw [← hy2] at h3
              rw [← hy2]
              obtain ⟨G2, hG2⟩ : ∃ G, y.1.heap.size + 1 + 1 = G := ⟨_, rfl⟩
              obtain ⟨G1, hG1⟩ : ∃ G, y.1.heap.size + 1 = G := ⟨_, rfl⟩
              obtain ⟨G0, hG0⟩ : ∃ G, y.1.heap.size = G := ⟨_, rfl⟩
              obtain ⟨h31, h32, h33, h34⟩ := id h3
              obtain ⟨l0, l1, l2, d01, d02, d12⟩ : y.1.heap.size ≤ G0 ∧ y.1.heap.size ≤ G1 ∧ y.1.heap.size ≤ G2 ∧ G0 ≠ G1 ∧ G0 ≠ G2 ∧ G1 ≠ G2 := by omega
              rw [hG0] at h31
              rw [hG1] at h32
              rw [hG2] at h33
              rw [hG2, hG1, hG0]
              exact key G0 G2 G1 y2 ⟨h31, h33, h32, ⟨d02, d01, (Ne.symm d12)⟩, ⟨l0, l2, l1⟩, h34⟩
        case pf =>
          rintro Gc Ga Gb y2 ⟨hGc, hGa, hGb, ⟨d1, d2, d3⟩, ⟨l1, l2, l3⟩, hbely2⟩
          have hzy : z.1.heap.size ≤ y.1.heap.size := y.2.size
          have hHeld := hbely2
          have e0 : y2.1.cell? ⟨Ga, 0, none⟩ = some (.int .i64 0) := hGa.cell 0
          have e1 : y2.1.cell? ⟨Ga, 1, none⟩ = some (.int .i64 0) := hGa.cell 1
          have f0 : y2.1.frozen? ⟨Ga, 0, none⟩ = false := hGa.frozen 0
          have f1 : y2.1.frozen? ⟨Ga, 1, none⟩ = false := hGa.frozen 1
          have lt0 := hGa.lt
          ((first | refine wpAnyH_ready (rs := [20]) (by kernel_rfl) (by simp) (AllReadyH.cons rfl (fun K hK => ?_) AllReadyH.nil)) <;> (go_simp; refine hK.out _ _ (by repeat (first | with_reducible (first | exact blA | exact blB | refine blC _ ?_ | refine blD ?_ ?_ _ | refine blE ?_ | refine blF _ ?_ | refine blG ?_ _ | refine blH ?_ | refine blI ?_ ?_ _) | (simp only [World.size_alloc]; omega) | (simp <;> omega))) (fun hHeld2 => ?_); clear hK hHeld; have hHeld := hHeld2; clear hHeld2 K; try simp only [List.getElem_toArray, List.getElem_cons_succ, List.getElem_cons_zero, Act.put, List.setIfInBounds_toArray, List.set_cons_zero, List.set_cons_succ]))
          obtain ⟨y3, hy⟩ : ∃ y_ : Kin z.1, y_.1 = ((y2.1.setCell ⟨Ga, 0, none⟩ (.int .i64 a.1)).setCell ⟨Ga, 1, none⟩ (.int .i64 a.2)) := ⟨⟨_, blk_set2B (Kin.below y2 (Below.refl _ _)) (by omega) _ _⟩, rfl⟩
          have hbely3 : Below y.1.heap.size y.1 y3.1 := hy ▸ blk_set2B hbely2 (by omega) _ _
          have kGa := blk_set2 hGa (.int .i64 a.1) (.int .i64 a.2)
          have kGb := blk_far2 hGb (show Gb ≠ Ga by omega) (.int .i64 a.1) (.int .i64 a.2)
          have kGc := blk_far2 hGc (show Gc ≠ Ga by omega) (.int .i64 a.1) (.int .i64 a.2)
          rw [← hy] at kGa kGb kGc ⊢
          clear hHeld hy e0 e1 f0 f1 lt0 hGa hGb hGc hbely2
          have hHeld := hbely3
          have hGa := kGa
          have hGb := kGb
          have hGc := kGc
          clear kGa kGb kGc
          have e0 : y3.1.cell? ⟨Gb, 0, none⟩ = some (.int .i64 0) := hGb.cell 0
          have e1 : y3.1.cell? ⟨Gb, 1, none⟩ = some (.int .i64 0) := hGb.cell 1
          have f0 : y3.1.frozen? ⟨Gb, 0, none⟩ = false := hGb.frozen 0
          have f1 : y3.1.frozen? ⟨Gb, 1, none⟩ = false := hGb.frozen 1
          have lt0 := hGb.lt
          ((first | refine wpAnyH_ready (rs := [21]) (by kernel_rfl) (by simp) (AllReadyH.cons rfl (fun K hK => ?_) AllReadyH.nil)) <;> (go_simp; refine hK.out _ _ (by repeat (first | with_reducible (first | exact blA | exact blB | refine blC _ ?_ | refine blD ?_ ?_ _ | refine blE ?_ | refine blF _ ?_ | refine blG ?_ _ | refine blH ?_ | refine blI ?_ ?_ _) | (simp only [World.size_alloc]; omega) | (simp <;> omega))) (fun hHeld2 => ?_); clear hK hHeld; have hHeld := hHeld2; clear hHeld2 K; try simp only [List.getElem_toArray, List.getElem_cons_succ, List.getElem_cons_zero, Act.put, List.setIfInBounds_toArray, List.set_cons_zero, List.set_cons_succ]))
          obtain ⟨y4, hy⟩ : ∃ y_ : Kin z.1, y_.1 = ((y3.1.setCell ⟨Gb, 0, none⟩ (.int .i64 c.1)).setCell ⟨Gb, 1, none⟩ (.int .i64 c.2)) := ⟨⟨_, blk_set2B (Kin.below y3 (Below.refl _ _)) (by omega) _ _⟩, rfl⟩
          have hbely4 : Below y.1.heap.size y.1 y4.1 := hy ▸ blk_set2B hbely3 (by omega) _ _
          have kGb := blk_set2 hGb (.int .i64 c.1) (.int .i64 c.2)
          have kGa := blk_far2 hGa (show Ga ≠ Gb by omega) (.int .i64 c.1) (.int .i64 c.2)
          have kGc := blk_far2 hGc (show Gc ≠ Gb by omega) (.int .i64 c.1) (.int .i64 c.2)
          rw [← hy] at kGb kGa kGc ⊢
          clear hHeld hy e0 e1 f0 f1 lt0 hGb hGa hGc hbely3
          have hHeld := hbely4
          have hGb := kGb
          have hGa := kGa
          have hGc := kGc
          clear kGb kGa kGc
          have e0 : y4.1.cell? ⟨Gc, 0, none⟩ = some (.int .i64 0) := hGc.cell 0
          have e1 : y4.1.cell? ⟨Gc, 1, none⟩ = some (.int .i64 0) := hGc.cell 1
          have f0 : y4.1.frozen? ⟨Gc, 0, none⟩ = false := hGc.frozen 0
          have f1 : y4.1.frozen? ⟨Gc, 1, none⟩ = false := hGc.frozen 1
          have lt0 := hGc.lt
          ((first | refine wpAnyH_ready (rs := [22]) (by kernel_rfl) (by simp) (AllReadyH.cons rfl (fun K hK => ?_) AllReadyH.nil)) <;> (go_simp; refine hK.out _ _ (by repeat (first | with_reducible (first | exact blA | exact blB | refine blC _ ?_ | refine blD ?_ ?_ _ | refine blE ?_ | refine blF _ ?_ | refine blG ?_ _ | refine blH ?_ | refine blI ?_ ?_ _) | (simp only [World.size_alloc]; omega) | (simp <;> omega))) (fun hHeld2 => ?_); clear hK hHeld; have hHeld := hHeld2; clear hHeld2 K; try simp only [List.getElem_toArray, List.getElem_cons_succ, List.getElem_cons_zero, Act.put, List.setIfInBounds_toArray, List.set_cons_zero, List.set_cons_succ]))
          obtain ⟨y5, hy⟩ : ∃ y_ : Kin z.1, y_.1 = ((y4.1.setCell ⟨Gc, 0, none⟩ (.int .i64 b.1)).setCell ⟨Gc, 1, none⟩ (.int .i64 b.2)) := ⟨⟨_, blk_set2B (Kin.below y4 (Below.refl _ _)) (by omega) _ _⟩, rfl⟩
          have hbely5 : Below y.1.heap.size y.1 y5.1 := hy ▸ blk_set2B hbely4 (by omega) _ _
          have kGc := blk_set2 hGc (.int .i64 b.1) (.int .i64 b.2)
          have kGa := blk_far2 hGa (show Ga ≠ Gc by omega) (.int .i64 b.1) (.int .i64 b.2)
          have kGb := blk_far2 hGb (show Gb ≠ Gc by omega) (.int .i64 b.1) (.int .i64 b.2)
          rw [← hy] at kGc kGa kGb ⊢
          clear hHeld hy e0 e1 f0 f1 lt0 hGc hGa hGb hbely4
          have hHeld := hbely5
          have hGc := kGc
          have hGa := kGa
          have hGb := kGb
          clear kGc kGa kGb
          refine wpAnyH_done (by kernel_rfl) ?_ _
          have hbel := hbely5
          have a0 : y5.1.cell? ⟨Ga, 0, none⟩ = some (.int .i64 a.1) := hGa.cell 0
          have a1 : y5.1.cell? ⟨Ga, 1, none⟩ = some (.int .i64 a.2) := hGa.cell 1
          have c0 : y5.1.cell? ⟨Gb, 0, none⟩ = some (.int .i64 c.1) := hGb.cell 0
          have c1 : y5.1.cell? ⟨Gb, 1, none⟩ = some (.int .i64 c.2) := hGb.cell 1
          have b0 : y5.1.cell? ⟨Gc, 0, none⟩ = some (.int .i64 b.1) := hGc.cell 0
          have b1 : y5.1.cell? ⟨Gc, 1, none⟩ = some (.int .i64 b.2) := hGc.cell 1
          have hla := hGa.lt
          have hlb := hGb.lt
          have hlc := hGc.lt
          clear hGa hGb hGc hHeld
          have HOY := Lib.hid (own_below HO.out.own hbel)
          clear c_0 c_1 a_0 a_1 b_0 b_1 HO hbel hbely5 mixed
          cases g1 : (c.1 - a.1 == b.1 - c.1)
          · have HS := Lib.hid (show cornTo l (m + 1 + 1) = cornTo l (m + 1) ++ [c] by rw [HSC.out, HKP.out, g1]; rfl)
            go_wp2_with (at_builtin; refine wpList_app _ rfl _ _ 22 rfl encPt_len (by decide) oneP z.1.heap.size 31 (.agg #[.int .i64 0, .int .i64 0]) 16 infoCell rfl Try.underlying22 _ _ _ _ rfl (HOY.out.alloc _) _ _ _ rfl (rd_one _ encPt_len _ c _ rfl) ?c1 (by decide) ?c2 ?_; (case c1 => (first | (simp only [List.length_append, List.length_cons, List.length_nil]; omega) | omega | (simp; omega))); (case c2 => exact (by repeat (first | with_reducible exact Nat.le_refl _ | assumption | with_reducible refine le_alloc ?_ _ | with_reducible refine le_drew ?_ | with_reducible refine Kin.le _ ?_ | assumption | omega | (simp only [World.size_alloc]; omega)))); intro v' w1 hown' hg hbel hat'; (obtain ⟨y3, rfl⟩ : ∃ y : Kin z.1, y.1 = w1 := ⟨⟨w1, Below.trans (by repeat (first | with_reducible (first | exact blA | exact blB | refine blC _ ?_ | refine blD ?_ ?_ _ | refine blE ?_ | refine blF _ ?_ | refine blG ?_ _ | refine blH ?_ | refine blI ?_ ?_ _) | (simp only [World.size_alloc]; omega) | (simp <;> omega))) hbel⟩, rfl⟩); clear hbel hg hat')
            exact ⟨⟨m + 1 + 1, by omega, by omega, by go_num, Lib.hid (by rw [HS.out]; exact hown'), y3, rfl⟩, by simp [intOf]; omega⟩
          · cases g2 : (c.2 - a.2 == b.2 - c.2)
            · have HS := Lib.hid (show cornTo l (m + 1 + 1) = cornTo l (m + 1) ++ [c] by rw [HSC.out, HKP.out, g1, g2]; rfl)
              go_wp2_with (at_builtin; refine wpList_app _ rfl _ _ 22 rfl encPt_len (by decide) oneP z.1.heap.size 31 (.agg #[.int .i64 0, .int .i64 0]) 16 infoCell rfl Try.underlying22 _ _ _ _ rfl (HOY.out.alloc _) _ _ _ rfl (rd_one _ encPt_len _ c _ rfl) ?c1 (by decide) ?c2 ?_; (case c1 => (first | (simp only [List.length_append, List.length_cons, List.length_nil]; omega) | omega | (simp; omega))); (case c2 => exact (by repeat (first | with_reducible exact Nat.le_refl _ | assumption | with_reducible refine le_alloc ?_ _ | with_reducible refine le_drew ?_ | with_reducible refine Kin.le _ ?_ | assumption | omega | (simp only [World.size_alloc]; omega)))); intro v' w1 hown' hg hbel hat'; (obtain ⟨y3, rfl⟩ : ∃ y : Kin z.1, y.1 = w1 := ⟨⟨w1, Below.trans (by repeat (first | with_reducible (first | exact blA | exact blB | refine blC _ ?_ | refine blD ?_ ?_ _ | refine blE ?_ | refine blF _ ?_ | refine blG ?_ _ | refine blH ?_ | refine blI ?_ ?_ _) | (simp only [World.size_alloc]; omega) | (simp <;> omega))) hbel⟩, rfl⟩); clear hbel hg hat')
              all_goals exact ⟨⟨m + 1 + 1, by omega, by omega, by go_num, Lib.hid (by rw [HS.out]; exact hown'), y3, rfl⟩, by simp [intOf]; omega⟩
            · have HS := Lib.hid (show cornTo l (m + 1 + 1) = cornTo l (m + 1) by rw [HSC.out, HKP.out, g1, g2]; simp)
              have n1 : (c.1 - a.1 != b.1 - c.1) = false := by simp at g1 ⊢; exact g1
              have n2 : (c.2 - a.2 != b.2 - c.2) = false := by simp at g2 ⊢; exact g2
              clear g1 g2
              go_wp2
              go_roundw
              case rel => exact ⟨m + 1 + 1, by omega, by omega, by go_num, Lib.hid (by rw [HS.out]; exact HOY.out), y5, rfl⟩
              case measure => simp [intOf]; omega
      · have hlt2 : ¬ (m : Int) + 1 < (n : Int) - 1 := by omega
        by_cases hn2 : 1 < n
        · have hmn : m + 2 = n := by omega
          have hi1 : (1 : Int) < (n : Int) := by omega
          have hi2 : (0 : Int) ≤ (n : Int) - 1 := by omega
          have hi3 : ((n : Int) - 1).toNat = m + 1 := by omega
          have hi4 : (n : Int) - 1 < (n : Int) := by omega
          have hi5 : m + 1 < n := by omega
          obtain ⟨c, hc⟩ : ∃ el_, (l)[m + 1]? = some el_ := ⟨_, List.getElem?_eq_getElem (by first | exact (by rw [HL.out]; omega) | omega)⟩
          have c_0 : z.1.cell? ⟨bA, offA + (m + 1) * 2, none⟩ = some (.int .i64 c.1) := by exact HAc.out (m + 1) _ hc 0 _ rfl
          have c_1 : z.1.cell? ⟨bA, offA + (m + 1) * 2 + 1, none⟩ = some (.int .i64 c.2) := by exact HAc.out (m + 1) _ hc 1 _ rfl
          have Hc := Lib.hid hc
          clear hc
          have HS := Lib.hid (show cornTo l n = cornTo l (m + 1) ++ [c] by rw [← hmn, cornTo_succ Hc.out, keep_last (by rw [HL.out]; omega)]; rfl)
          go_wp2_with (at_builtin; refine wpList_app _ rfl _ _ 22 rfl encPt_len (by decide) oneP z.1.heap.size 31 (.agg #[.int .i64 0, .int .i64 0]) 16 infoCell rfl Try.underlying22 _ _ _ _ rfl (HO.out.own.alloc _) _ _ _ rfl (rd_one _ encPt_len _ c _ rfl) ?c1 (by decide) ?c2 ?_; (case c1 => (first | (simp only [List.length_append, List.length_cons, List.length_nil]; omega) | omega | (simp; omega))); (case c2 => exact (by repeat (first | with_reducible exact Nat.le_refl _ | assumption | with_reducible refine le_alloc ?_ _ | with_reducible refine le_drew ?_ | with_reducible refine Kin.le _ ?_ | assumption | omega | (simp only [World.size_alloc]; omega)))); intro v' w1 hown' hg hbel hat'; (obtain ⟨y2, rfl⟩ : ∃ y : Kin z.1, y.1 = w1 := ⟨⟨w1, Below.trans (by repeat (first | with_reducible (first | exact blA | exact blB | refine blC _ ?_ | refine blD ?_ ?_ _ | refine blE ?_ | refine blF _ ?_ | refine blG ?_ _ | refine blH ?_ | refine blI ?_ ?_ _) | (simp only [World.size_alloc]; omega) | (simp <;> omega))) hbel⟩, rfl⟩); clear hbel hg hat')
          obtain ⟨yy, hyy⟩ : ∃ yy : Kin w, yy.1 = y2.1 := ⟨⟨y2.1, HZW.out.trans (y2.2.mono HZW.out.size)⟩, rfl⟩
          have HE := Lib.hid (show OwnC z.1.heap.size y2.1 v' (cornTo l n) by rw [HS.out]; exact hown')
          go_ret
          exact ⟨⟨_, rfl, by rw [HR.out]; exact Rd.own encPt_len HE.out.own⟩, by rw [← hyy]; exact yy.2⟩
        · have hn3 : n = 1 := by omega
          have hm0 : m = 0 := by omega
          subst hm0
          have hi1 : ¬ (1 : Int) < (n : Int) := by omega
          obtain ⟨yy, hyy⟩ : ∃ yy : Kin w, yy.1 = y.1 := ⟨⟨y.1, HZW.out.trans (y.2.mono HZW.out.size)⟩, rfl⟩
          have HE := Lib.hid (Rd.own encPt_len HO.out.own)
          have HR1 := Lib.hid (show cornT ((r, cl), l) = cornTo l (0 + 1) by rw [HR.out, hn3])
          clear hn3
          go_wp2
          go_ret
          exact ⟨⟨_, rfl, by rw [HR1.out]; exact HE.out⟩, by rw [← hyy]; exact yy.2⟩
end Go.Proofs.Ytomndgjnhhchdaa
