/- Lemmas: TrkSort TrkOfK Of. -/
import Derived.Lib.MinMax
import Derived.Lib.SliceRun
import Derived.Test.YtneelidbgigehaaGreatT07
import Derived.Test.YtneelidbgigehaaGreatShelf
import Derived.Test.YtneelidbgigehaaGreatT21
import Derived.Test.YtneelidbgigehaaGreatT26
import Derived.Test.YtneelidbgigehaaGreatT11
import Derived.Test.YtneelidbgigehaaGreatT18
import Derived.Test.YtneelidbgigehaaGreatT09
import Derived.Test.YtneelidbgigehaaGreatT10
/- slices.SortFunc at cells, as region.Of calls it: by Y, then X. -/
namespace Go.Sort
end Go.Sort
namespace Go.Shelf
end Go.Shelf
namespace Go.Proofs.YtneelidbgigehaaGreat
set_option linter.unusedSimpArgs false
set_option linter.unusedVariables false
set_option maxRecDepth 100000
open Go.Shelf Go.RowKit Go.Lib Go.Sort Go.Proofs Trk
attribute [local go_sem] Kin.cell Kin.frozen Kin.lt0 Kin.lt1 Kin.lt2 Kin.lt3 run_mkf
def cmpJ (a b : Int) : Int := if a < b then -1 else if b < a then 1 else 0
theorem isNaN_atJ (x : Int) (w : World) : Calls Tryz.prog 119 #[.int .i64 x] w fun e w' => e = .returned (.bool false) ∧ w' = w := by
  go_enter Tryz.func119, Tryz.ntmps119
  go_wp2
  go_ret
  exact ⟨ret_bool (by simp), rfl⟩
theorem compare_atJ (x y : Int) (w : World) : Calls Tryz.prog 84 #[.int .i64 x, .int .i64 y] w fun e w' => e = .returned (.int .i64 (cmpJ x y)) ∧ w' = w := by
  rcases Int.lt_trichotomy x y with h | h | h
  · have e0 : cmpJ x y = -1 := by unfold cmpJ; rw [if_pos h]
    rw [e0]
    go_enter Tryz.func84, Tryz.ntmps84
    go_wp2_with (go_at_call 119; refine (isNaN_atJ _ _).mono ?_; rintro e w' ⟨rfl, rfl⟩)
    go_ret
    exact ⟨rfl, rfl⟩
  · have e0 : cmpJ x y = 0 := by unfold cmpJ; rw [if_neg (by omega), if_neg (by omega)]
    have h1 : ¬ x < y := by omega
    have h2 : ¬ y < x := by omega
    rw [e0]
    clear h
    go_enter Tryz.func84, Tryz.ntmps84
    go_wp2_with (go_at_call 119; refine (isNaN_atJ _ _).mono ?_; rintro e w' ⟨rfl, rfl⟩)
    go_ret
    exact ⟨rfl, rfl⟩
  · have e0 : cmpJ x y = 1 := by unfold cmpJ; rw [if_neg (by omega), if_pos h]
    have h1 : ¬ x < y := by omega
    rw [e0]
    go_enter Tryz.func84, Tryz.ntmps84
    go_wp2_with (go_at_call 119; refine (isNaN_atJ _ _).mono ?_; rintro e w' ⟨rfl, rfl⟩)
    go_ret
    exact ⟨rfl, rfl⟩
def orI (a b : Int) : Int := if a ≠ 0 then a else b
/-- cmp.Or of two numbers -/
theorem or_at (v : Value) (a b : Int) (w : World) (h : Rd 1 encI w v [a, b]) : Calls Tryz.prog 83 #[v] w fun e w' => e = .returned (.int .i64 (orI a b)) ∧ w' = w := by
  obtain ⟨A, capA, rfl, hcapA, hopA⟩ := h.open_
  have HA := Lib.hid hopA
  have HLA := Lib.hid h
  clear hopA h
  have hn : (2 : Int) = ([a, b] : List Int).length := rfl
  obtain ⟨bA, offA, rfl, hbA, hc⟩ := HA.out 0 a rfl
  have c0 : w.cell? ⟨bA, offA, none⟩ = some (.int .i64 a) := by have := hc 0 a rfl 0 _ rfl; simpa using this
  have c1 : w.cell? ⟨bA, offA + 1, none⟩ = some (.int .i64 b) := by have := hc 1 b rfl 0 _ rfl; simpa using this
  clear hc
  change 2 ≤ capA at hcapA
  have HL2 := Lib.hid (show Rd 1 encI w (.slice (some ⟨bA, offA, none⟩) 2 capA) [a, b] from HLA.out)
  clear HLA
  show Calls Tryz.prog 83 #[.slice (some ⟨bA, offA, none⟩) 2 capA] w _
  clear hn
  by_cases ha : a = 0
  · have hz : (a != 0) = false := by simpa using ha
    by_cases hb : b = 0
    · have hz2 : (b != 0) = false := by simpa using hb
      have e0 : orI a b = 0 := by unfold orI; rw [if_neg (by omega)]; exact hb
      rw [e0]
      go_enter Tryz.func83, Tryz.ntmps83
      go_wp2
      go_loopw [8] (fun i wr => ∃ k : Nat, k ≤ 2 ∧ i = .int .i64 k ∧ wr = w) (fun i _ => 2 - (intOf i).toNat)
      case atStart => exact ⟨0, by omega, rfl, rfl⟩
      case round =>
        obtain ⟨k, hk, rfl, rfl⟩ := hrel
        have hk3 : k = 0 ∨ k = 1 ∨ k = 2 := by omega
        rcases hk3 with rfl | rfl | rfl
        · go_wp2
          go_roundw
          case rel => exact ⟨1, by omega, by go_num, by first | trivial | rfl⟩
          case measure => simp [intOf]
        · go_wp2
          go_roundw
          case rel => exact ⟨2, by omega, by go_num, by first | trivial | rfl⟩
          case measure => simp [intOf]
        · go_wp2
          go_ret
          exact ⟨rfl, rfl⟩
    · have hz2 : (b != 0) = true := by simpa using hb
      have e0 : orI a b = b := by unfold orI; rw [if_neg (by omega)]
      rw [e0]
      go_enter Tryz.func83, Tryz.ntmps83
      go_wp2
      go_loopw [8] (fun i wr => ∃ k : Nat, k ≤ 1 ∧ i = .int .i64 k ∧ wr = w) (fun i _ => 2 - (intOf i).toNat)
      case atStart => exact ⟨0, by omega, rfl, rfl⟩
      case round =>
        obtain ⟨k, hk, rfl, rfl⟩ := hrel
        have hk3 : k = 0 ∨ k = 1 := by omega
        rcases hk3 with rfl | rfl
        · go_wp2
          go_roundw
          case rel => exact ⟨1, by omega, by go_num, by first | trivial | rfl⟩
          case measure => simp [intOf]
        · go_wp2
          go_ret
          exact ⟨rfl, rfl⟩
  · have hz : (a != 0) = true := by simpa using ha
    have e0 : orI a b = a := by unfold orI; rw [if_pos ha]
    rw [e0]
    go_enter Tryz.func83, Tryz.ntmps83
    go_wp2
    go_loopw [8] (fun i wr => i = .int .i64 0 ∧ wr = w) (fun i _ => 2 - (intOf i).toNat)
    case atStart => exact ⟨rfl, rfl⟩
    case round =>
      obtain ⟨rfl, rfl⟩ := hrel
      go_wp2
      go_ret
      exact ⟨rfl, rfl⟩
/-- a cell on the grid -/
abbrev FPt := { p : Cl // okc p = true }
instance : Inhabited FPt := ⟨⟨(0, 0), by decide⟩⟩
def encFP (p : FPt) : List Value := encPt p.1
def cfP (x y : FPt) : Int := orI (cmpJ x.1.2 y.1.2) (cmpJ x.1.1 y.1.1)
theorem ltP (x y : FPt) : ltOf cfP x y = decide (x.1.2 < y.1.2 ∨ x.1.2 = y.1.2 ∧ x.1.1 < y.1.1) := by
  unfold ltOf cfP orI cmpJ
  rw [decide_eq_decide]
  by_cases h1 : x.1.2 < y.1.2
  · rw [if_pos h1]; simp [h1]
  · rw [if_neg h1]
    by_cases h2 : y.1.2 < x.1.2
    · rw [if_pos h2]; simp; omega
    · rw [if_neg h2]
      simp only [ne_eq, not_true_eq_false, if_false]
      by_cases h3 : x.1.1 < y.1.1
      · rw [if_pos h3]; simp; omega
      · rw [if_neg h3]
        by_cases h4 : y.1.1 < x.1.1
        · rw [if_pos h4]; simp; omega
        · rw [if_neg h4]; simp; omega
theorem swoP : SWO (ltOf cfP) where
  irrefl x := by rw [ltP]; simp
  trans x y z h1 h2 := by rw [ltP] at *; simp at *; omega
  ntrans x y z h1 h2 := by rw [ltP] at *; simp at *; omega
theorem drewN_grow (w : World) (os : Array Obj) (n : Nat) : (grow w os).drewN n = grow (w.drewN n) os := rfl
set_option maxHeartbeats 1000000 in
theorem of_cmp (x y : FPt) (W : World) : Calls Tryz.prog 82 #[.agg (encFP x).toArray, .agg (encFP y).toArray] W fun e w' => e = .returned (.int .i64 (cfP x y)) ∧ ∃ q os', w' = grow (W.drewN q) os' := by
  obtain ⟨⟨a, a'⟩, ha⟩ := x
  obtain ⟨⟨b, b'⟩, hb⟩ := y
  show Calls Tryz.prog 82 #[.agg #[.int .i64 a, .int .i64 a'], .agg #[.int .i64 b, .int .i64 b']] W fun e w' => e = .returned (.int .i64 (orI (cmpJ a' b') (cmpJ a b))) ∧ ∃ q os', w' = grow (W.drewN q) os'
  go_enter Tryz.func82, Tryz.ntmps82
  go_wp2
  refine wp_region_quiet_tail (C := fun w' => ∃ n, w' = ((W.alloc (.cells #[.int .i64 a, .int .i64 a'] 47)).alloc (.cells #[.int .i64 b, .int .i64 b'] 47)).drewN n) 10 (by kernel_rfl) (by kernel_rfl) ⟨1, rfl⟩ ?_
  simp only [List.take_succ_cons, List.take_zero, List.drop_succ_cons, List.drop_zero]
  (repeat' (go_big_quiet_step ((go_at_call 84; exact (compare_atJ _ _ _).mono fun e w' ⟨he, hw⟩ => ⟨he, _, hw⟩))))
  refine wpQuiet_nil ?_
  rintro _ ⟨n, rfl⟩
  go_wp2_with (go_at_call 83; refine (or_at _ (cmpJ a' b') (cmpJ a b) _ (rd_lit _ encI_len 3 [cmpJ a' b', cmpJ a b] rfl (by simp [maxLen]) (by simp) rfl)).mono ?_; rintro e w' ⟨rfl, rfl⟩)
  go_ret
  exact ⟨rfl, n, _, by rw [alloc_eq_grow, alloc_eq_grow, alloc_eq_grow, grow_grow, drewN_grow, grow_grow]⟩
theorem attachH {α : Type} {p : α → Prop} : ∀ (xs : List α), (∀ r ∈ xs, p r) → ∃ ys : List {x : α // p x}, ys.map Subtype.val = xs
  | [], _ => ⟨[], rfl⟩
  | x :: xs, h => by
    obtain ⟨ys, hy⟩ := attachH xs (fun r hr => h r (by simp [hr]))
    exact ⟨⟨x, h x (by simp)⟩ :: ys, by simp [hy]⟩
theorem flatH {α : Type} {p : α → Prop} (enc : α → List Value) (ys : List {x : α // p x}) : ys.flatMap (fun x => enc x.1) = (ys.map Subtype.val).flatMap enc := by
  induction ys with
  | nil => rfl
  | cons y ys ih => simp [ih]
theorem sort_cells (base : Nat) (w : World) (v : Value) (xs : List Cl) (hf : ∀ r ∈ xs, okc r = true) (hown : w.ownsRow base 47 2 v xs.length (xs.flatMap encPt)) (hlen : xs.length < 4611686018427387904) (hB : base ≤ w.heap.size) :
    Calls Tryz.prog 81 #[v, .func (.func 82) #[] #[]] w fun e w' => e = .returned (.tuple #[]) ∧ ∃ ys : List Cl, ys.Perm xs ∧ ys.Pairwise (fun a b => ¬ (b.2 < a.2 ∨ b.2 = a.2 ∧ b.1 < a.1)) ∧
      w'.ownsRow base 47 2 v ys.length (ys.flatMap encPt) ∧ Below base w w' := by
  obtain ⟨zs, rfl⟩ := attachH xs hf
  have eg : ∀ args w, (callFunc 82 args).run Tryz.prog w = .ok (.enter 82 args) w := enters_of Tryz.func82 (by kernel_rfl) rfl
  have hown' : w.ownsRow base 47 2 v zs.length (zs.flatMap encFP) := by
    have := flatH encPt zs
    rw [show zs.flatMap encFP = zs.flatMap (fun x => encPt x.1) from rfl, this]; simpa using hown
  have h := sort_own (enc := encFP) (k := 2) Tryz.sortCell Tryz.isAgg47 Tryz.sizeOf47 (by decide) (fun _ => rfl) (fun x u hu => by simp [encFP, encPt] at hu; rcases hu with rfl | rfl <;> rfl) cfP swoP 82 #[] eg (fun W x y => of_cmp x y W) base _ w v zs hown' (by simpa using hlen)
  refine Calls.mono h fun e w' ⟨he, ys, hp, hs, ho, hg⟩ => ⟨he, ys.map Subtype.val, hp.map _, ?_, ?_, ?_⟩
  · rw [List.pairwise_map]
    refine hs.imp fun {a b} hab => ?_
    rw [ltP] at hab
    simpa using hab
  · rw [show ys.flatMap encFP = ys.flatMap (fun x => encPt x.1) from rfl, flatH encPt ys] at ho; simpa using ho
  · exact own_grown (Below.refl _ _) hown' hg (Nat.le_refl _) hB
end Go.Proofs.YtneelidbgigehaaGreat

/- region.Of: words for its walk. -/
namespace Go.Proofs.YtneelidbgigehaaGreat
set_option linter.unusedSimpArgs false
set_option linter.unusedVariables false
set_option maxRecDepth 100000
open Go.RowKit Runs Reg
attribute [local go_sem] Kin.cell Kin.frozen Kin.lt0 Kin.lt1 Kin.lt2 Kin.lt3 run_mkf
theorem regOk_is {b : Bool} (x : Int) (w : World) (h : okC x = b) : Calls Tryz.prog 52 #[.int .i64 x] w fun e w' => e = .returned (.bool b) ∧ Below w.heap.size w w' := by
  subst h
  go_enter Tryz.func52, Tryz.ntmps52
  go_wp2
  all_goals
    go_ret
    exact ⟨ret_bool (by first | (simp [okC]; done) | (simp [okC, *]; done) | (rw [Bool.eq_iff_iff]; simp [okC]; omega)), gRw⟩
theorem run_eql_nilC (a : Option Addr) (l c : Nat) (w : World) : (binOp .eql 70 (.slice a l c) (.slice none 0 0)).run Tryz.prog w = .ok (.bool a.isNone) w :=
  Lib.run_eql_slice_nil w _ 47 a l c 0 0 (by kernel_rfl)
set_option maxHeartbeats 4000000 in
theorem clone_cells (v : Value) (l : List (Int × Int)) (w : World) (h : Rd 2 encPt w v l) (hlen : l.length ≤ 1099511627776) :
    Calls Tryz.prog 80 #[v] w fun e w' => (∃ u, e = .returned u ∧ w'.ownsRow w.heap.size 47 2 u l.length (l.flatMap encPt)) ∧ Below w.heap.size w w' := by
  obtain ⟨A, capA, rfl, hcapA, hopA⟩ := h.open_
  have HA := Lib.hid hopA
  have HLA := Lib.hid h
  clear hopA h
  have hnl := run_eql_nilC
  cases A with
  | none =>
    have hl : l = [] := by
      rcases l with _ | ⟨r, l⟩
      · rfl
      · obtain ⟨b, off, e, _⟩ := HA.out 0 r rfl
        cases e
    subst hl
    go_enter Tryz.func80, Tryz.ntmps80
    go_wp2
    go_ret
    exact ⟨⟨_, rfl, World.ownsRow_nil _ _ _ _⟩, gRw⟩
  | some p =>
    go_enter Tryz.func80, Tryz.ntmps80
    go_wp2_with (at_builtin; refine wpList_app _ rfl _ _ 70 rfl encPt_len (by decide) oneP w.heap.size 47 (.agg #[.int .i64 0, .int .i64 0]) 16 infoCell rfl Tryz.underlying70 _ _ _ _ rfl (own_made w encPt_len w.heap.size _ [] #[] rfl (Nat.le_refl _) (by decide)) _ _ _ rfl (HLA.out.below gRw) ?c1 (by decide) ?c2 ?_; (case c1 => (first | (simp only [List.length_append, List.length_cons, List.length_nil]; omega) | omega | (simp; omega))); (case c2 => exact lEw); intro v' w1 hown' hg hbel hat'; (obtain ⟨y, rfl⟩ : ∃ y : Kin w, y.1 = w1 := ⟨⟨w1, Below.trans gRw hbel⟩, rfl⟩); clear hbel hg hat')
    go_ret
    exact ⟨⟨_, rfl, by simpa using hown'⟩, gRw⟩
abbrev OwnRL (base B : Nat) (W : World) (v : Value) (hs : List RowH) (h : RowH) (E : List Reg.Row) (x : Reg.Row) : Prop := OwnL base B 44 69 2 encRow rsl rtag 2 encRun (fun w : Reg.Row => w.2) W v hs h E x
def RowsAt (base : Nat) (W : World) (u : Value) (rows : List Reg.Row) : Prop :=
  (rows = [] ∧ u = .slice none 0 0) ∨ ∃ E x hs h B, rows = E ++ [x] ∧ OwnRL base B W u hs h E x
theorem RowsAt.below {base : Nat} {W W' : World} {u : Value} {rows : List Reg.Row} (h : RowsAt base W u rows) (hb : Below W.heap.size W W') : RowsAt base W' u rows := by
  rcases h with h | ⟨E, x, hs, h, B, h1, h2⟩
  · exact .inl h
  · exact .inr ⟨E, x, hs, h, B, h1, h2.below hb⟩
theorem RowsAt.own {base : Nat} {W : World} {u : Value} {rows : List Reg.Row} (h : RowsAt base W u rows) : OwnRows base W u rows := by
  rcases h with ⟨rfl, rfl⟩ | ⟨E, x, hs, h, B, rfl, h2⟩
  · exact OwnN.nil
  · exact h2.close encRun_len (by decide)
theorem OwnL.grown {H α β : Type} {k k2 : Nat} {encH : H → List Value} {sl : H → Value} {tag : H → α → Prop} {enc2 : β → List Value} {sub : α → List β} {base B : Nat} {e e2 : TypeId} {W W' : World} {v : Value} {hs : List H} {h : H} {xs : List α} {x : α} {p : Nat}
    (o : OwnL base B e e2 k encH sl tag k2 enc2 sub W v hs h xs x) (hg : W.grownBy W' (some p)) (h1 : v.ownBlock ≠ some p) (h2 : ∀ (i : Nat) (q : H) (y : α), hs[i]? = some q → xs[i]? = some y → sub y = [] ∨ (sl q).ownBlock ≠ some p) (h3 : (sl h).ownBlock ≠ some p) :
    OwnL base B e e2 k encH sl tag k2 enc2 sub W' v hs h xs x :=
  ⟨own_grownBy o.own hg h1, ⟨o.nest.1, fun i q y hq hy => ⟨(o.nest.2 i q y hq hy).1, (o.nest.2 i q y hq hy).2.grown hg (h2 i q y hq hy)⟩⟩, o.far, o.tg, own_grownBy o.inner hg h3, o.low, Nat.le_trans o.top hg.size⟩
theorem OwnRL.set_ {base B p i : Nat} {W : World} {v u : Value} {hs : List RowH} {h : RowH} {E : List Reg.Row} {x : Reg.Row} {t : TypeId} {A : Option Addr} {n c : Nat} (o : OwnRL base B W v hs h E x) (hB : Blk W p t #[.slice A n c]) (h1 : 44 ≠ t) (h2 : 69 ≠ t) : OwnRL base B (W.setCell ⟨p, i, none⟩ u) v hs h E x :=
  OwnL.grown o (grownBy_set _) (own_ne o.own hB h1) (fun i q y hq hy => runs_far (o.nest.2 i q y hq hy).2 hB) (own_ne o.inner hB h2)
theorem flat_lastR (l : List Run) (a b b' : Int) : ((l ++ [(a, b)]).flatMap encRun).set (l.length * 2 + 1) (.int .i64 b') = (l ++ [(a, b')]).flatMap encRun := by
  have hl : (l.flatMap encRun).length = l.length * 2 := by
    induction l with
    | nil => rfl
    | cons x r ih => rw [List.flatMap_cons, List.length_append, ih, encRun_len, List.length_cons]; omega
  rw [List.flatMap_append, List.flatMap_append, List.set_append_right _ _ (by omega), hl, Nat.add_sub_cancel_left]
  rfl
end Go.Proofs.YtneelidbgigehaaGreat

/- The chapter's region of a list of cells. -/
namespace Go.Proofs.YtneelidbgigehaaGreat
set_option linter.unusedSimpArgs false
set_option linter.unusedVariables false
open Go.RowKit Runs Reg
attribute [local go_sem] Kin.cell Kin.frozen Kin.lt0 Kin.lt1 Kin.lt2 Kin.lt3 run_mkf
theorem ofE_bad {l : List (Int × Int)} {c : Int × Int} (hc : c ∈ l) (h : okCell c = false) : l.all okCell = false := by
  cases h2 : l.all okCell
  · rfl
  · rw [List.all_eq_true.1 h2 c hc] at h; cases h
theorem all_take {l : List (Int × Int)} {k : Nat} (h : ∀ c ∈ l.take k, okCell c = true) (hk : l.length ≤ k) : l.all okCell = true := by
  rw [List.take_of_length_le hk] at h; exact List.all_eq_true.2 h
theorem take_ok {l : List (Int × Int)} {k : Nat} {c : Int × Int} (h : ∀ c ∈ l.take k, okCell c = true) (hc : l[k]? = some c) (h2 : okCell c = true) : ∀ c ∈ l.take (k + 1), okCell c = true := by
  intro d hd
  rw [List.take_add_one, hc] at hd
  rcases List.mem_append.1 hd with hd | hd
  · exact h d hd
  · have e : d = c := by simpa using hd
    subst e; exact h2
theorem sm_ok {c : Int × Int} (h : okCell c = true) : smC c := by
  have := okCell_iff.1 h
  unfold smC; omega
theorem OwnRows.len {base : Nat} {W : World} {v : Value} {rows : List Reg.Row} (h : OwnRows base W v rows) : ∃ A cap, v = .slice A rows.length cap := by
  obtain ⟨A, cap, hv, _⟩ := rows_open (OwnN.rd encRow_len h)
  exact ⟨A, cap, hv⟩
end Go.Proofs.YtneelidbgigehaaGreat
