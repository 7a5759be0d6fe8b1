/- What a reach must be. (joined: MorphKit MapKit MorphRow) -/
import Derived.Test.YtjppaknajdbkgaaRegBox
import Derived.Maps.OwnSet
import Derived.Maps.Views
/- What a reach must be. -/
namespace Go.Proofs.Ytjppaknajdbkgaa
set_option linter.unusedSimpArgs false
set_option linter.unusedVariables false
open Go.RowKit Runs Reg
attribute [local go_sem] Kin.cell Kin.frozen Kin.lt0 Kin.lt1 Kin.lt2 Kin.lt3 run_mkf
def reachOk (k : Int) : Bool := decide (0 ≤ k) && decide (k ≤ 64)
set_option maxRecDepth 100000 in
theorem reach20_any (k : Int) (w : World) : Calls Try.prog 46 #[.int .i64 k] w fun e w' => e = .returned (.bool (reachOk k)) ∧ Below w.heap.size w w' := by
  by_cases h0 : 0 ≤ k
  · by_cases h1 : k ≤ 64
    · have e : reachOk k = true := by simp [reachOk, h0, h1]
      rw [e]
      go_enter Try.func46, Try.ntmps46
      go_wp2
      try ((refine wp_region_kinK (W := w) (by kernel_rfl) (by kernel_rfl) (by repeat (first | with_reducible (first | exact blA | exact blB | refine blC _ ?_ | refine blD ?_ ?_ _ | refine blE ?_ | refine blF _ ?_ | refine blG ?_ _ | refine blH ?_ | refine blI ?_ ?_ _) | (simp only [World.size_alloc]; omega) | (simp <;> omega))) ?_); (repeat' (first | go_big_quiet_step (fail) | ((refine wpQuiet_guard rfl rfl rfl rfl (fun hg => ?_) (fun hg => ?_)) <;> (fail_if_success (first | guard_hyp hg : true = true | guard_hyp hg : false = false)) <;> (try simp only [decide_eq_true_eq, decide_eq_false_iff_not] at hg) <;> simp only [Act.put, List.setIfInBounds_toArray, List.set_cons_zero, List.set_cons_succ]))); all_goals ((with_reducible refine wpQuiet_nil ?_); intro zq hz))
      try go_wp2
      go_ret
      exact ⟨rfl, (by repeat (first | with_reducible (first | exact blA | exact blB | refine blC _ ?_ | refine blD ?_ ?_ _ | refine blE ?_ | refine blF _ ?_ | refine blG ?_ _ | refine blH ?_ | refine blI ?_ ?_ _) | (simp only [World.size_alloc]; omega) | (simp <;> omega)))⟩
    · have e : reachOk k = false := by simp [reachOk, h0, h1]
      rw [e]
      have h2 : 64 < k := by omega
      go_enter Try.func46, Try.ntmps46
      go_wp2
      try ((refine wp_region_kinK (W := w) (by kernel_rfl) (by kernel_rfl) (by repeat (first | with_reducible (first | exact blA | exact blB | refine blC _ ?_ | refine blD ?_ ?_ _ | refine blE ?_ | refine blF _ ?_ | refine blG ?_ _ | refine blH ?_ | refine blI ?_ ?_ _) | (simp only [World.size_alloc]; omega) | (simp <;> omega))) ?_); (repeat' (first | go_big_quiet_step (fail) | ((refine wpQuiet_guard rfl rfl rfl rfl (fun hg => ?_) (fun hg => ?_)) <;> (fail_if_success (first | guard_hyp hg : true = true | guard_hyp hg : false = false)) <;> (try simp only [decide_eq_true_eq, decide_eq_false_iff_not] at hg) <;> simp only [Act.put, List.setIfInBounds_toArray, List.set_cons_zero, List.set_cons_succ]))); all_goals ((with_reducible refine wpQuiet_nil ?_); intro zq hz))
      try go_wp2
      go_ret
      exact ⟨rfl, (by repeat (first | with_reducible (first | exact blA | exact blB | refine blC _ ?_ | refine blD ?_ ?_ _ | refine blE ?_ | refine blF _ ?_ | refine blG ?_ _ | refine blH ?_ | refine blI ?_ ?_ _) | (simp only [World.size_alloc]; omega) | (simp <;> omega)))⟩
  · have e : reachOk k = false := by simp [reachOk, h0]
    rw [e]
    have h2 : k < 0 := by omega
    go_enter Try.func46, Try.ntmps46
    go_wp2
    try ((refine wp_region_kinK (W := w) (by kernel_rfl) (by kernel_rfl) (by repeat (first | with_reducible (first | exact blA | exact blB | refine blC _ ?_ | refine blD ?_ ?_ _ | refine blE ?_ | refine blF _ ?_ | refine blG ?_ _ | refine blH ?_ | refine blI ?_ ?_ _) | (simp only [World.size_alloc]; omega) | (simp <;> omega))) ?_); (repeat' (first | go_big_quiet_step (fail) | ((refine wpQuiet_guard rfl rfl rfl rfl (fun hg => ?_) (fun hg => ?_)) <;> (fail_if_success (first | guard_hyp hg : true = true | guard_hyp hg : false = false)) <;> (try simp only [decide_eq_true_eq, decide_eq_false_iff_not] at hg) <;> simp only [Act.put, List.setIfInBounds_toArray, List.set_cons_zero, List.set_cons_succ]))); all_goals ((with_reducible refine wpQuiet_nil ?_); intro zq hz))
    try go_wp2
    go_ret
    exact ⟨rfl, (by repeat (first | with_reducible (first | exact blA | exact blB | refine blC _ ?_ | refine blD ?_ ?_ _ | refine blE ?_ | refine blF _ ?_ | refine blG ?_ _ | refine blH ?_ | refine blI ?_ ?_ _) | (simp only [World.size_alloc]; omega) | (simp <;> omega)))⟩
set_option maxRecDepth 100000 in
set_option maxHeartbeats 4000000 in
theorem validM_any (v : Value) (rows : List Reg.Row) (k : Int) (w : World) (h : RdReg w v rows) (hbd : RBd rows) :
    Calls Try.prog 41 #[v, .int .i64 k] w fun e w' => e = .returned (.bool (reachOk k && rvalid rows)) ∧ Below w.heap.size w w' := by
  have H := Lib.hid h
  obtain ⟨A, capA, rfl⟩ := h.slice_
  clear h
  by_cases h0 : 0 ≤ k
  · by_cases h1 : k ≤ 64
    · cases hv : rvalid rows
      all_goals
        have e : reachOk k = true := by simp [reachOk, h0, h1]
        rw [e]
        go_enter Try.func41, Try.ntmps41
        go_wp2_with (go_at_call 60; (with_reducible refine (Kin.callK (W := w.alloc (.cells #[.slice A rows.length capA] 24)) (by repeat (first | with_reducible (first | exact blA | exact blB | refine blC _ ?_ | refine blD ?_ ?_ _ | refine blE ?_ | refine blF _ ?_ | refine blG ?_ _ | refine blH ?_ | refine blI ?_ ?_ _) | (simp only [World.size_alloc]; omega) | (simp <;> omega))) (rvalid_is _ rows _ (H.out.below (by repeat (first | with_reducible (first | exact blA | exact blB | refine blC _ ?_ | refine blD ?_ ?_ _ | refine blE ?_ | refine blF _ ?_ | refine blG ?_ _ | refine blH ?_ | refine blI ?_ ?_ _) | (simp only [World.size_alloc]; omega) | (simp <;> omega)))) hbd hv)).mono ?_); rintro e w' ⟨z, rfl, hz, rfl⟩)
        go_ret
        exact ⟨rfl, (by repeat (first | with_reducible (first | exact blA | exact blB | refine blC _ ?_ | refine blD ?_ ?_ _ | refine blE ?_ | refine blF _ ?_ | refine blG ?_ _ | refine blH ?_ | refine blI ?_ ?_ _) | (simp only [World.size_alloc]; omega) | (simp <;> omega)))⟩
    · have e : reachOk k = false := by simp [reachOk, h0, h1]
      rw [e]
      have h2 : 64 < k := by omega
      go_enter Try.func41, Try.ntmps41
      go_wp2
      go_ret
      exact ⟨rfl, (by repeat (first | with_reducible (first | exact blA | exact blB | refine blC _ ?_ | refine blD ?_ ?_ _ | refine blE ?_ | refine blF _ ?_ | refine blG ?_ _ | refine blH ?_ | refine blI ?_ ?_ _) | (simp only [World.size_alloc]; omega) | (simp <;> omega)))⟩
  · have e : reachOk k = false := by simp [reachOk, h0]
    rw [e]
    have h2 : k < 0 := by omega
    go_enter Try.func41, Try.ntmps41
    go_wp2
    go_ret
    exact ⟨rfl, (by repeat (first | with_reducible (first | exact blA | exact blB | refine blC _ ?_ | refine blD ?_ ?_ _ | refine blE ?_ | refine blF _ ?_ | refine blG ?_ _ | refine blH ?_ | refine blI ?_ ?_ _) | (simp only [World.size_alloc]; omega) | (simp <;> omega)))⟩
end Go.Proofs.Ytjppaknajdbkgaa
/- A map from ints that the call has made: a function from keys to values. -/
namespace Go.Proofs.Ytjppaknajdbkgaa
set_option linter.unusedSimpArgs false
set_option linter.unusedVariables false
open Go.RowKit Runs Reg
/-- an element reads as itself -/
def RV (v : Value) : Option (DataW Value × List MemPlace) := some (.held v, [])
/-- block b is a map of at most n entries whose value at y is f y (the zero slice where there is none) -/
def MapF (w : World) (b n : Nat) (f : Int → Value) : Prop :=
  ∃ D, w.ownsMap (H := Value) Try.prog 3 RV b n D ∧ ∀ y, (Lit.int .i64 y).wf = true → D.atKey (.int .i64 y) (.held (.slice none 0 0)) = .held (f y)
theorem MapF.made (w : World) : MapF (w.alloc (.map #[] 0)) w.heap.size 0 (fun _ => .slice none 0 0) := ⟨_, World.ownsMap_made w _ _ _, fun y _ => rfl⟩
theorem MapF.lt {w : World} {b n : Nat} {f : Int → Value} (h : MapF w b n f) : b < w.heap.size := by obtain ⟨D, h, _⟩ := h; exact h.lt
theorem MapF.kept {w w' : World} {b n : Nat} {f : Int → Value} {row : Option Nat} (h : MapF w b n f) (hg : w.grownBy w' row) (hne : some b ≠ row) : MapF w' b n f := by
  obtain ⟨D, h, hf⟩ := h
  exact ⟨D, h.kept hg hne, hf⟩
theorem MapF.below {w w' : World} {b n : Nat} {f : Int → Value} (h : MapF w b n f) (hb : Below w.heap.size w w') : MapF w' b n f := h.kept (row := none) (below_grownBy hb) (by simp)
theorem int_key : Maps.Keyed Try.prog 3 := Maps.int_keyed Try.underlying3
theorem MapF.lookup {w : World} {b n : Nat} {f : Int → Value} (h : MapF w b n f) {y : Int} (hy : (Lit.int .i64 y).wf = true) (hz : (zeroValue 45).run Try.prog w = .ok (.slice none 0 0) w) :
    (Instr.lookup 52 (.map (some b)) (.int .i64 y) false).run Try.prog w = .ok (f y) w := by
  obtain ⟨D, h, hf⟩ := h
  obtain ⟨v, ps, hr, hv⟩ := h.lookup (t := 52) (e := 45) int_key Try.underlying52 hz (zd := .held (.slice none 0 0)) (zp := []) rfl (Maps.keyOf_int_mk Try.underlying3 hy)
  rw [hf y hy] at hv
  simp only [RV, Option.some.injEq, Prod.mk.injEq, DataW.held.injEq] at hv
  rw [hr, hv.1]
theorem MapF.update {w : World} {b n : Nat} {f : Int → Value} (h : MapF w b n f) {y : Int} (hy : (Lit.int .i64 y).wf = true) (hn : n < maxLen) (v : Value) :
    ∃ w', (Instr.mapUpdate 52 (.map (some b)) (.int .i64 y) v).run Try.prog w = .ok () w' ∧ MapF w' b (n + 1) (fun x => if x = y then v else f x) ∧ w.grownBy w' (some b) := by
  obtain ⟨D, h, hf⟩ := h
  obtain ⟨w', hr, h', hg⟩ := h.update (t := 52) (e := 45) int_key Try.underlying52 hn (Maps.keyOf_int_mk Try.underlying3 hy) (d := .held v) (ps := []) rfl
  refine ⟨w', hr, ⟨_, h', fun x hx => ?_⟩, hg⟩
  by_cases e : x = y
  · subst e
    show _ = DataW.held (if x = x then v else f x)
    rw [if_pos rfl]
    exact Maps.atKey_put_same h.isMap (by simp [WideAt.IsKeyLit]) _ _
  · show _ = DataW.held (if x = y then v else f x)
    rw [if_neg e, Maps.atKey_put_other (by intro h; injection h with _ h; exact e h)]
    exact hf x hx
theorem i64_wf {y : Int} (h : -9223372036854775808 ≤ y ∧ y ≤ 9223372036854775807) : (Lit.int .i64 y).wf = true := by
  have e1 : IntKind.min .i64 = -9223372036854775808 := by decide
  have e2 : IntKind.max .i64 = 9223372036854775807 := by decide
  show (decide (IntKind.min .i64 ≤ y) && decide (y ≤ IntKind.max .i64)) = true
  rw [e1, e2]
  simp [h.1, h.2]
theorem zero_runs (w : World) : (zeroValue 45).run Try.prog w = .ok (.slice none 0 0) w := by
  have h : (Try.prog.info? 45).bind (·.zero) = some (.slice none 0 0) := by kernel_rfl
  have h2 : Try.t45.zero = some (.slice none 0 0) := by kernel_rfl
  simp [zeroValue, go_sem, h2]
end Go.Proofs.Ytjppaknajdbkgaa
/- The joined runs of the rows within reach. -/
namespace Go.Proofs.Ytjppaknajdbkgaa
set_option linter.unusedSimpArgs false
set_option linter.unusedVariables false
open Go.RowKit Runs Reg
attribute [local go_sem] Kin.cell Kin.frozen Kin.lt0 Kin.lt1 Kin.lt2 Kin.lt3 run_mkf
/-- the union of the rows y - k, .., y - k + m -/
def winTo (g : Int → List Run) (y k : Int) : Nat → List Run
  | 0 => g (y - k)
  | m + 1 => setop (opf 2) (winTo g y k m) (g (y - k + 1 + m))
set_option maxRecDepth 100000 in
set_option maxHeartbeats 8000000 in
theorem winrow_any (b n : Nat) (f : Int → Value) (g : Int → List Run) (y k : Int) (w : World) (h : MapF w b n f) (hg : ∀ j, Rd 2 encRun w (f j) (g j)) (hk : 0 ≤ k ∧ k ≤ 64) (hy : -10000 ≤ y ∧ y ≤ 10000)
    (hl : ∀ m, (winTo g y k m).length ≤ 16384) (hgl : ∀ j, (g j).length ≤ 16384) :
    Calls Try.prog 45 #[.agg #[.map (some b), .func (.func 43) #[] #[]], .int .i64 y, .int .i64 k] w fun e w' => (∃ u, e = .returned u ∧ Rd 2 encRun w' u (winTo g y k (2 * k).toNat)) ∧ Below w.heap.size w w' := by
  have H := Lib.hid h
  have HG := Lib.hid hg
  have HL := Lib.hid hl
  have HGL := Lib.hid hgl
  obtain ⟨hk1, hk2⟩ := hk
  obtain ⟨hy1, hy2⟩ := hy
  have hl1 := (MapF.below h (Below.alloc (Below.refl _ _) (Nat.le_refl _) (.cells #[.map (some b), .func (.func 43) #[] #[]] 55))).lookup (y := y - k) (i64_wf (by omega)) (zero_runs _)
  have hw1 : IntKind.i64.wrap (y - k) = y - k := IntWalk.i64_in _ (by omega)
  have hw2 : IntKind.i64.wrap (y - k + 1) = y - k + 1 := IntWalk.i64_in _ (by omega)
  have hw3 : IntKind.i64.wrap (y + k) = y + k := IntWalk.i64_in _ (by omega)
  clear h hg hl hgl
  go_enter Try.func45, Try.ntmps45
  go_wp2
  go_loopw [7, 8] (fun o i wr => ∃ m : Nat, m ≤ (2 * k).toNat ∧ i = .int .i64 (y - k + 1 + m) ∧ Hid (Rd 2 encRun wr o (winTo g y k m)) ∧ ∃ z : Kin (w.alloc (.cells #[.map (some b), .func (.func 43) #[] #[]] 55)), z.1 = wr) (fun _ i _ => (y + k + 1 - intOf i).toNat)
  case atStart => exact ⟨0, Nat.zero_le _, by simp, Lib.hid ((HG.out (y - k)).below (by repeat (first | with_reducible (first | exact blA | exact blB | refine blC _ ?_ | refine blD ?_ ?_ _ | refine blE ?_ | refine blF _ ?_ | refine blG ?_ _ | refine blH ?_ | refine blI ?_ ?_ _) | (simp only [World.size_alloc]; omega) | (simp <;> omega)))), ⟨_, Below.refl _ _⟩, rfl⟩
  case round =>
    obtain ⟨m, hm, rfl, HO, z, rfl⟩ := hrel
    by_cases hlt : y - k + 1 + (m : Int) ≤ y + k
    · have hb : Below w.heap.size w z.1 := (by repeat (first | with_reducible (first | exact blA | exact blB | refine blC _ ?_ | refine blD ?_ ?_ _ | refine blE ?_ | refine blF _ ?_ | refine blG ?_ _ | refine blH ?_ | refine blI ?_ ?_ _) | (simp only [World.size_alloc]; omega) | (simp <;> omega)))
      have hlk := (MapF.below H.out hb).lookup (y := y - k + 1 + (m : Int)) (i64_wf (by omega)) (zero_runs _)
      have hw4 : IntKind.i64.wrap (y - k + 1 + (m : Int) + 1) = y - k + 1 + (m : Int) + 1 := IntWalk.i64_in _ (by omega)
      have l1 := HL.out m
      have l2 := HGL.out (y - k + 1 + m)
      go_wp2_with (go_at_call 43; (with_reducible refine (Kin.callK (W := w.alloc (.cells #[.map (some b), .func (.func 43) #[] #[]] 55)) (by repeat (first | with_reducible (first | exact blA | exact blB | refine blC _ ?_ | refine blD ?_ ?_ _ | refine blE ?_ | refine blF _ ?_ | refine blG ?_ _ | refine blH ?_ | refine blI ?_ ?_ _) | (simp only [World.size_alloc]; omega) | (simp <;> omega))) (union_any _ _ (winTo g y k m) (g (y - k + 1 + m)) _ (HO.out.below (by repeat (first | with_reducible (first | exact blA | exact blB | refine blC _ ?_ | refine blD ?_ ?_ _ | refine blE ?_ | refine blF _ ?_ | refine blG ?_ _ | refine blH ?_ | refine blI ?_ ?_ _) | (simp only [World.size_alloc]; omega) | (simp <;> omega)))) ((HG.out _).below (by repeat (first | with_reducible (first | exact blA | exact blB | refine blC _ ?_ | refine blD ?_ ?_ _ | refine blE ?_ | refine blF _ ?_ | refine blG ?_ _ | refine blH ?_ | refine blI ?_ ?_ _) | (simp only [World.size_alloc]; omega) | (simp <;> omega)))) (by omega) (by omega))).mono ?_); rintro e w' ⟨z1, ⟨u, rfl, hu⟩, hz1, rfl⟩; (have HU := Lib.hid hu; clear hu))
      go_roundw
      case rel => exact ⟨m + 1, by omega, by go_num, Lib.hid HU.out, z1, rfl⟩
      case measure => simp [intOf]; omega
    · have em : m = (2 * k).toNat := by omega
      go_wp2
      go_ret
      exact ⟨⟨_, rfl, by rw [← em]; exact HO.out⟩, (by repeat (first | with_reducible (first | exact blA | exact blB | refine blC _ ?_ | refine blD ?_ ?_ _ | refine blE ?_ | refine blF _ ?_ | refine blG ?_ _ | refine blH ?_ | refine blI ?_ ?_ _) | (simp only [World.size_alloc]; omega) | (simp <;> omega)))⟩
end Go.Proofs.Ytjppaknajdbkgaa
