/- slices.SortFunc at cells, as region.Of calls it: by Y, then X. -/
import Derived.Test.YtomndgjnhhchdaaSortOwn
import Derived.Test.YtomndgjnhhchdaaShelf
import Derived.Test.YtomndgjnhhchdaaRegCells
import Derived.Test.YtomndgjnhhchdaaTrkMath
namespace Go.Sort
end Go.Sort
namespace Go.Shelf
end Go.Shelf
namespace Go.Proofs.Ytomndgjnhhchdaa
set_option linter.unusedSimpArgs false
set_option linter.unusedVariables false
set_option maxRecDepth 100000
open Go.Shelf Go.RowKit Go.Lib Go.Sort Go.Proofs Trk
attribute [local go_sem] Kin.cell Kin.frozen Kin.lt0 Kin.lt1 Kin.lt2 Kin.lt3 run_mkf
def cmpJ (a b : Int) : Int := if a < b then -1 else if b < a then 1 else 0
theorem isNaN_atJ (x : Int) (w : World) : Calls Try.prog 62 #[.int .i64 x] w fun e w' => e = .returned (.bool false) ∧ w' = w := by
  go_enter Try.func62, Try.ntmps62
  go_wp2
  go_ret
  exact ⟨ret_bool (by simp), rfl⟩
theorem compare_atJ (x y : Int) (w : World) : Calls Try.prog 54 #[.int .i64 x, .int .i64 y] w fun e w' => e = .returned (.int .i64 (cmpJ x y)) ∧ w' = w := by
  rcases Int.lt_trichotomy x y with h | h | h
  · have e0 : cmpJ x y = -1 := by unfold cmpJ; rw [if_pos h]
    rw [e0]
    go_enter Try.func54, Try.ntmps54
    go_wp2_with (go_at_call 62; refine (isNaN_atJ _ _).mono ?_; rintro e w' ⟨rfl, rfl⟩)
    go_ret
    exact ⟨rfl, rfl⟩
  · have e0 : cmpJ x y = 0 := by unfold cmpJ; rw [if_neg (by omega), if_neg (by omega)]
    have h1 : ¬ x < y := by omega
    have h2 : ¬ y < x := by omega
    rw [e0]
    clear h
    go_enter Try.func54, Try.ntmps54
    go_wp2_with (go_at_call 62; refine (isNaN_atJ _ _).mono ?_; rintro e w' ⟨rfl, rfl⟩)
    go_ret
    exact ⟨rfl, rfl⟩
  · have e0 : cmpJ x y = 1 := by unfold cmpJ; rw [if_neg (by omega), if_pos h]
    have h1 : ¬ x < y := by omega
    rw [e0]
    go_enter Try.func54, Try.ntmps54
    go_wp2_with (go_at_call 62; refine (isNaN_atJ _ _).mono ?_; rintro e w' ⟨rfl, rfl⟩)
    go_ret
    exact ⟨rfl, rfl⟩
def orI (a b : Int) : Int := if a ≠ 0 then a else b
/-- cmp.Or of two numbers -/
theorem or_at (v : Value) (a b : Int) (w : World) (h : Rd 1 encI w v [a, b]) : Calls Try.prog 53 #[v] w fun e w' => e = .returned (.int .i64 (orI a b)) ∧ w' = w := by
  obtain ⟨A, capA, rfl, hcapA, hopA⟩ := h.open_
  have HA := Lib.hid hopA
  have HLA := Lib.hid h
  clear hopA h
  have hn : (2 : Int) = ([a, b] : List Int).length := rfl
  obtain ⟨bA, offA, rfl, hbA, hc⟩ := HA.out 0 a rfl
  have c0 : w.cell? ⟨bA, offA, none⟩ = some (.int .i64 a) := by have := hc 0 a rfl 0 _ rfl; simpa using this
  have c1 : w.cell? ⟨bA, offA + 1, none⟩ = some (.int .i64 b) := by have := hc 1 b rfl 0 _ rfl; simpa using this
  clear hc
  change 2 ≤ capA at hcapA
  have HL2 := Lib.hid (show Rd 1 encI w (.slice (some ⟨bA, offA, none⟩) 2 capA) [a, b] from HLA.out)
  clear HLA
  show Calls Try.prog 53 #[.slice (some ⟨bA, offA, none⟩) 2 capA] w _
  clear hn
  by_cases ha : a = 0
  · have hz : (a != 0) = false := by simpa using ha
    by_cases hb : b = 0
    · have hz2 : (b != 0) = false := by simpa using hb
      have e0 : orI a b = 0 := by unfold orI; rw [if_neg (by omega)]; exact hb
      rw [e0]
      go_enter Try.func53, Try.ntmps53
      go_wp2
      go_loopw [8] (fun i wr => ∃ k : Nat, k ≤ 2 ∧ i = .int .i64 k ∧ wr = w) (fun i _ => 2 - (intOf i).toNat)
      case atStart => exact ⟨0, by omega, rfl, rfl⟩
      case round =>
        obtain ⟨k, hk, rfl, rfl⟩ := hrel
        have hk3 : k = 0 ∨ k = 1 ∨ k = 2 := by omega
        rcases hk3 with rfl | rfl | rfl
        · go_wp2
          go_roundw
          case rel => exact ⟨1, by omega, by go_num, by first | trivial | rfl⟩
          case measure => simp [intOf]
        · go_wp2
          go_roundw
          case rel => exact ⟨2, by omega, by go_num, by first | trivial | rfl⟩
          case measure => simp [intOf]
        · go_wp2
          go_ret
          exact ⟨rfl, rfl⟩
    · have hz2 : (b != 0) = true := by simpa using hb
      have e0 : orI a b = b := by unfold orI; rw [if_neg (by omega)]
      rw [e0]
      go_enter Try.func53, Try.ntmps53
      go_wp2
      go_loopw [8] (fun i wr => ∃ k : Nat, k ≤ 1 ∧ i = .int .i64 k ∧ wr = w) (fun i _ => 2 - (intOf i).toNat)
      case atStart => exact ⟨0, by omega, rfl, rfl⟩
      case round =>
        obtain ⟨k, hk, rfl, rfl⟩ := hrel
        have hk3 : k = 0 ∨ k = 1 := by omega
        rcases hk3 with rfl | rfl
        · go_wp2
          go_roundw
          case rel => exact ⟨1, by omega, by go_num, by first | trivial | rfl⟩
          case measure => simp [intOf]
        · go_wp2
          go_ret
          exact ⟨rfl, rfl⟩
  · have hz : (a != 0) = true := by simpa using ha
    have e0 : orI a b = a := by unfold orI; rw [if_pos ha]
    rw [e0]
    go_enter Try.func53, Try.ntmps53
    go_wp2
    go_loopw [8] (fun i wr => i = .int .i64 0 ∧ wr = w) (fun i _ => 2 - (intOf i).toNat)
    case atStart => exact ⟨rfl, rfl⟩
    case round =>
      obtain ⟨rfl, rfl⟩ := hrel
      go_wp2
      go_ret
      exact ⟨rfl, rfl⟩
/-- a cell on the grid -/
abbrev FPt := { p : Cl // okc p = true }
instance : Inhabited FPt := ⟨⟨(0, 0), by decide⟩⟩
def encFP (p : FPt) : List Value := encPt p.1
def cfP (x y : FPt) : Int := orI (cmpJ x.1.2 y.1.2) (cmpJ x.1.1 y.1.1)
theorem ltP (x y : FPt) : ltOf cfP x y = decide (x.1.2 < y.1.2 ∨ x.1.2 = y.1.2 ∧ x.1.1 < y.1.1) := by
  unfold ltOf cfP orI cmpJ
  rw [decide_eq_decide]
  by_cases h1 : x.1.2 < y.1.2
  · rw [if_pos h1]; simp [h1]
  · rw [if_neg h1]
    by_cases h2 : y.1.2 < x.1.2
    · rw [if_pos h2]; simp; omega
    · rw [if_neg h2]
      simp only [ne_eq, not_true_eq_false, if_false]
      by_cases h3 : x.1.1 < y.1.1
      · rw [if_pos h3]; simp; omega
      · rw [if_neg h3]
        by_cases h4 : y.1.1 < x.1.1
        · rw [if_pos h4]; simp; omega
        · rw [if_neg h4]; simp; omega
theorem swoP : SWO (ltOf cfP) where
  irrefl x := by rw [ltP]; simp
  trans x y z h1 h2 := by rw [ltP] at *; simp at *; omega
  ntrans x y z h1 h2 := by rw [ltP] at *; simp at *; omega
theorem drewN_grow (w : World) (os : Array Obj) (n : Nat) : (grow w os).drewN n = grow (w.drewN n) os := rfl
set_option maxHeartbeats 1000000 in
theorem of_cmp (x y : FPt) (W : World) : Calls Try.prog 52 #[.agg (encFP x).toArray, .agg (encFP y).toArray] W fun e w' => e = .returned (.int .i64 (cfP x y)) ∧ ∃ q os', w' = grow (W.drewN q) os' := by
  obtain ⟨⟨a, a'⟩, ha⟩ := x
  obtain ⟨⟨b, b'⟩, hb⟩ := y
  show Calls Try.prog 52 #[.agg #[.int .i64 a, .int .i64 a'], .agg #[.int .i64 b, .int .i64 b']] W fun e w' => e = .returned (.int .i64 (orI (cmpJ a' b') (cmpJ a b))) ∧ ∃ q os', w' = grow (W.drewN q) os'
  go_enter Try.func52, Try.ntmps52
  go_wp2
  refine wp_region_quiet_tail (C := fun w' => ∃ n, w' = ((W.alloc (.cells #[.int .i64 a, .int .i64 a'] 31)).alloc (.cells #[.int .i64 b, .int .i64 b'] 31)).drewN n) 10 (by kernel_rfl) (by kernel_rfl) ⟨1, rfl⟩ ?_
  simp only [List.take_succ_cons, List.take_zero, List.drop_succ_cons, List.drop_zero]
  (repeat' (go_big_quiet_step ((go_at_call 54; exact (compare_atJ _ _ _).mono fun e w' ⟨he, hw⟩ => ⟨he, _, hw⟩))))
  refine wpQuiet_nil ?_
  rintro _ ⟨n, rfl⟩
  go_wp2_with (go_at_call 53; refine (or_at _ (cmpJ a' b') (cmpJ a b) _ (rd_lit _ encI_len 3 [cmpJ a' b', cmpJ a b] rfl (by simp [maxLen]) (by simp) rfl)).mono ?_; rintro e w' ⟨rfl, rfl⟩)
  go_ret
  exact ⟨rfl, n, _, by rw [alloc_eq_grow, alloc_eq_grow, alloc_eq_grow, grow_grow, drewN_grow, grow_grow]⟩
theorem attachH {α : Type} {p : α → Prop} : ∀ (xs : List α), (∀ r ∈ xs, p r) → ∃ ys : List {x : α // p x}, ys.map Subtype.val = xs
  | [], _ => ⟨[], rfl⟩
  | x :: xs, h => by
    obtain ⟨ys, hy⟩ := attachH xs (fun r hr => h r (by simp [hr]))
    exact ⟨⟨x, h x (by simp)⟩ :: ys, by simp [hy]⟩
theorem flatH {α : Type} {p : α → Prop} (enc : α → List Value) (ys : List {x : α // p x}) : ys.flatMap (fun x => enc x.1) = (ys.map Subtype.val).flatMap enc := by
  induction ys with
  | nil => rfl
  | cons y ys ih => simp [ih]
theorem sort_cells (base : Nat) (w : World) (v : Value) (xs : List Cl) (hf : ∀ r ∈ xs, okc r = true) (hown : w.ownsRow base 31 2 v xs.length (xs.flatMap encPt)) (hlen : xs.length < 4611686018427387904) (hB : base ≤ w.heap.size) :
    Calls Try.prog 51 #[v, .func (.func 52) #[] #[]] w fun e w' => e = .returned (.tuple #[]) ∧ ∃ ys : List Cl, ys.Perm xs ∧ ys.Pairwise (fun a b => ¬ (b.2 < a.2 ∨ b.2 = a.2 ∧ b.1 < a.1)) ∧
      w'.ownsRow base 31 2 v ys.length (ys.flatMap encPt) ∧ Below base w w' := by
  obtain ⟨zs, rfl⟩ := attachH xs hf
  have eg : ∀ args w, (callFunc 52 args).run Try.prog w = .ok (.enter 52 args) w := enters_of Try.func52 (by kernel_rfl) rfl
  have hown' : w.ownsRow base 31 2 v zs.length (zs.flatMap encFP) := by
    have := flatH encPt zs
    rw [show zs.flatMap encFP = zs.flatMap (fun x => encPt x.1) from rfl, this]; simpa using hown
  have h := sort_own (enc := encFP) (k := 2) Try.sortCell Try.isAgg31 Try.sizeOf31 (by decide) (fun _ => rfl) (fun x u hu => by simp [encFP, encPt] at hu; rcases hu with rfl | rfl <;> rfl) cfP swoP 52 #[] eg (fun W x y => of_cmp x y W) base _ w v zs hown' (by simpa using hlen)
  refine Calls.mono h fun e w' ⟨he, ys, hp, hs, ho, hg⟩ => ⟨he, ys.map Subtype.val, hp.map _, ?_, ?_, ?_⟩
  · rw [List.pairwise_map]
    refine hs.imp fun {a b} hab => ?_
    rw [ltP] at hab
    simpa using hab
  · rw [show ys.flatMap encFP = ys.flatMap (fun x => encPt x.1) from rfl, flatH encPt ys] at ho; simpa using ho
  · exact own_grown (Below.refl _ _) hown' hg (Nat.le_refl _) hB
end Go.Proofs.Ytomndgjnhhchdaa
