/- Lemmas: TopSc. -/
import Derived.Test.YtneelidbgigehaaGreatT20
/- The small functions of the top statements, walked: scaled. (joined: TopScale TopSq) -/
/- The small functions of the top statements, walked: scaled. -/
namespace Go.Proofs.YtneelidbgigehaaGreat
set_option linter.unusedSimpArgs false
set_option linter.unusedVariables false
set_option maxRecDepth 100000
open Go.RowKit Trc Runs Reg Ras
attribute [local go_sem] Kin.cell Kin.frozen Kin.lt0 Kin.lt1 Kin.lt2 Kin.lt3 run_mkf
theorem Blk.al_ {w : World} {g : Nat} {t : TypeId} {cs : Array Value} (h : Blk w g t cs) (o : Obj) : Blk (w.alloc o) g t cs := h.below (Below.alloc (Below.refl _ _) (Nat.le_refl _) _)
end Go.Proofs.YtneelidbgigehaaGreat
/- The small functions of the top statements, walked: square, nearby. -/
namespace Go.Proofs.YtneelidbgigehaaGreat
set_option linter.unusedSimpArgs false
set_option linter.unusedVariables false
set_option maxRecDepth 100000
open Go.RowKit Trc Runs Reg Ras
attribute [local go_sem] Kin.cell Kin.frozen Kin.lt0 Kin.lt1 Kin.lt2 Kin.lt3 run_mkf
def sqR (x y : Int) (n : Nat) (k : Nat) : List Reg.Row := (upFrom y k).map fun v => (v, [(x, x + (n : Int))])
theorem sqR_succ (x y : Int) (n k : Nat) : sqR x y n (k + 1) = sqR x y n k ++ [(y + (k : Int), [(x, x + (n : Int))])] := by
  unfold sqR; rw [upFrom_succ]; simp
set_option maxHeartbeats 8000000 in
theorem square_any (x y : Int) (n : Nat) (w : World) (hx : -1000 ≤ x ∧ x ≤ 1000) (hy : -1000 ≤ y ∧ y ≤ 1000) (hn : n ≤ 1000) :
    Calls Tryz.prog 21 #[.int .i64 x, .int .i64 y, .int .i64 n] w fun e w' => (∃ S, e = .returned (.agg #[S]) ∧ RdReg w' (.agg #[S]) (sqR x y n n)) ∧ Below w.heap.size w w' := by
  have e1 : IntKind.i64.wrap (x + (n : Int)) = x + (n : Int) := IntWalk.i64_in _ (by omega)
  go_enter Tryz.func21, Tryz.ntmps21
  go_wp2_with fail
  obtain ⟨W2, hW2⟩ : ∃ W2, (w.alloc (.cells #[.slice none 0 0] 24)).alloc (.cells #[.slice none 0 0] 24) = W2 := ⟨_, rfl⟩
  obtain ⟨g, hg⟩ : ∃ g, w.heap.size = g := ⟨_, rfl⟩
  have hb2 : Below w.heap.size w W2 := hW2 ▸ ((Below.refl _ _).alloc (Nat.le_refl _) _).alloc (le_alloc (Nat.le_refl _) _) _
  have b0 : Blk W2 g 24 #[.slice none 0 0] := by rw [← hW2, ← hg]; exact Blk.al_ (Blk.new _ _ _) _
  have b1 : Blk W2 (g + 1) 24 #[.slice none 0 0] := by
    have := Blk.new (w.alloc (.cells #[.slice none 0 0] 24)) 24 #[.slice none 0 0]
    rw [World.size_alloc, hW2, hg] at this
    exact this
  have HB0 := Lib.hid b0
  have HB1 := Lib.hid b1
  have HB2 := Lib.hid hb2
  have HG := Lib.hid hg
  rw [hW2, hg]
  clear hW2 hg hb2 b0 b1
  go_loopw [8] (fun i wr => ∃ (k : Nat) (S : Value), k ≤ n ∧ i = .int .i64 k ∧ Hid (OwnRows (g + 1 + 1) wr S (sqR x y n k)) ∧ Hid (Blk wr (g + 1) 24 #[S]) ∧ Hid (Blk wr g 24 #[.slice none 0 0]) ∧ Hid (Below w.heap.size w wr)) (fun i _ => n - (intOf i).toNat)
  case atStart => exact ⟨0, _, Nat.zero_le _, rfl, Lib.hid OwnN.nil, HB1, HB0, HB2⟩
  case round =>
    clear HB0 HB1 HB2
    obtain ⟨k, S, hk, rfl, HO, HB1, HB0, HB2⟩ := hrel
    obtain ⟨hs, hown, hnest, hap⟩ := HO.out
    obtain ⟨AS, nS, cS, rfl⟩ := own_slice hown
    have HOW := Lib.hid hown
    have HNE := Lib.hid hnest
    have HAP := Lib.hid hap
    have hhl : hs.length ≤ 1000 := by have := hnest.1; unfold sqR at this; rw [List.length_map, upFrom_len] at this; omega
    have p0 : wr.cell? ⟨g + 1, 0, none⟩ = some (.slice AS nS cS) := HB1.out.cell 0
    have pl := HB1.out.lt
    clear hown hnest hap
    by_cases hlt : k < n
    · have e2 : IntKind.i64.wrap (y + (k : Int)) = y + (k : Int) := IntWalk.i64_in _ (by omega)
      have hgs : g + 1 + 1 ≤ wr.heap.size := HB1.out.lt
      go_wp2_with (at_builtin; refine Shut.out ?_)
      unfold Shut
      refine wpList_app _ rfl _ _ 22 rfl encRow_len (by decide) oneRow (g + 1 + 1) 44 (.agg #[.int .i64 0, .slice none 0 0]) 32 infoRow rfl Tryz.underlying22 _ _ _ _ rfl ((HOW.out.alloc _).alloc _) _ _ _ rfl (rd_one _ encRow_len _ (hd (y + (k : Int)) (some ⟨wr.heap.size, 0, none⟩) 1 1) _ rfl) ?c1 (by decide) ?c2 ?_
      case c1 => (first | (simp only [List.length_append, List.length_cons, List.length_nil]; omega) | omega | (simp; omega))
      case c2 => exact lEw
      intro v1 w1 hown1 hg1 hbel1 hat1
      obtain ⟨Wn, hWn⟩ : ∃ Wn, (wr.alloc (.cells #[.int .i64 x, .int .i64 (x + (n : Int))] 69)).alloc (.cells #[.int .i64 (y + (k : Int)), .slice (some ⟨wr.heap.size, 0, none⟩) 1 1] 44) = Wn := ⟨_, rfl⟩
      have hown1' := hown1
      obtain ⟨A1, n1, c1, rfl⟩ := own_slice hown1
      have hbn : Below wr.heap.size wr Wn := hWn ▸ ((Below.refl _ _).alloc (Nat.le_refl _) _).alloc (le_alloc (Nat.le_refl _) _) _
      have hr0 : Rd 2 encRun Wn (.slice (some ⟨wr.heap.size, 0, none⟩) 1 1) [(x, x + (n : Int))] := by
        have h1 := rd_one wr encRun_len 69 (x, x + (n : Int)) #[.int .i64 x, .int .i64 (x + (n : Int))] rfl rfl
        rw [← hWn]
        exact h1.below ((Below.refl _ _).alloc (Nat.le_refl _) _)
      have hwn : Wn.ownsRow (g + 1 + 1) 44 2 (.slice AS nS cS) hs.length (hs.flatMap encRow) := own_below HOW.out hbn
      rw [hWn] at hg1 hat1 hbel1
      have hP := HB1.out.below hbn
      have hpush := OwnRows.push (base := g + 1 + 1) (p := g + 1) hwn (HNE.out.below hbn) HAP.out hown1 hg1 hat1 hr0 (.inr (fun e => by
        have h1 := (HOW.out.lt wr.heap.size (e.symm.trans rfl)).2
        exact Nat.lt_irrefl _ h1)) hP
      have hP1 := hP.grown hg1 (Ne.symm (own_ne hwn hP (by decide)))
      have p1_0 : w1.cell? ⟨g + 1, 0, none⟩ = some (.slice AS nS cS) := hP1.cell 0
      have p1_f : w1.frozen? ⟨g + 1, 0, none⟩ = false := hP1.frozen 0
      have p1_l := hP1.lt
      have hB0 := (HB0.out.below hbn).grown hg1 (Ne.symm (own_ne hwn (HB0.out.below hbn) (by decide)))
      have hB0' := hB0.far (p := ⟨g + 1, 0, none⟩) (by show g ≠ g + 1; omega) (.slice A1 n1 c1)
      have hbw : Below w.heap.size w (w1.setCell ⟨g + 1, 0, none⟩ (.slice A1 n1 c1)) := by
        have q1 := HB2.out.trans (hbn.mono HB2.out.size)
        have q2 := q1.trans (hbel1.mono (by rw [HG.out]; omega))
        exact q2.setCell (by rw [HG.out]; exact Nat.le_succ _) _
      have HPU := Lib.hid hpush
      have HB0F := Lib.hid hB0'
      have HBW := Lib.hid hbw
      clear hWn hbn hr0 hwn hP hpush hP1 hB0 hB0' hbw hown1 hown1' hg1 hat1 hbel1
      go_wp2_with fail
      refine ⟨⟨k + 1, _, by omega, by go_num, Lib.hid (by rw [sqR_succ]; exact HPU.out.1), Lib.hid HPU.out.2, HB0F, HBW⟩, by simp [intOf]; omega⟩
    · have hkn : k = n := by omega
      subst hkn
      have q0 : wr.cell? ⟨g, 0, none⟩ = some (.slice none 0 0) := HB0.out.cell 0
      have qf : wr.frozen? ⟨g, 0, none⟩ = false := HB0.out.frozen 0
      have ql := HB0.out.lt
      go_wp2_with fail
      ((try simp only [Exit.inBlock, Exit.then]); refine bodyPost_ret (results_cell_row rfl _ _ _ _ _ (0, 0) _ rfl (HB0.out.set_ 0 _) Tryz.underlying24 rfl (by kernel_rfl)) rfl ?_)
      refine ⟨⟨_, rfl, ?_⟩, HB2.out.setCell (by rw [HG.out]; exact Nat.le_refl _) _⟩
      exact OwnRows.reg (OwnRows.set_ HO.out HB0.out (by decide))
set_option maxHeartbeats 4000000 in
theorem nearby_is {b : Bool} (v : Value) (rows : List Reg.Row) (w : World) (h : RdReg w v rows) (hbd : RBd rows) (hv : rvalid rows = true) (hb : nearR rows = b) :
    Calls Tryz.prog 6 #[v] w fun e w' => e = .returned (.bool b) ∧ Below w.heap.size w w' := by
  obtain ⟨s, rfl, hr⟩ := h
  have H := Lib.hid (show RdReg w (.agg #[s]) rows from ⟨s, rfl, hr⟩)
  have HBD := Lib.hid hbd
  obtain ⟨⟨⟨a, a'⟩, ⟨c, c'⟩⟩, hp⟩ : ∃ p, boxR rows = p := ⟨_, rfl⟩
  obtain ⟨cn, hcn⟩ : ∃ cn, cntR rows = cn := ⟨_, rfl⟩
  have HP := Lib.hid hp
  have HCN := Lib.hid hcn
  have hbc : b = (decide (cn ≤ 200) && decide (-1000 ≤ a) && decide (-1000 ≤ a') && decide (c ≤ 1000) && decide (c' ≤ 1000)) := by rw [← hb]; unfold nearR; rw [hp, hcn]
  subst hbc
  have hbx := box18_any (.agg #[s]) rows
  rw [hp] at hbx
  have hct := count18_any (.agg #[s]) rows
  rw [hcn] at hct
  have HBX := Lib.hid hbx
  have HCT := Lib.hid hct
  clear hr hbd hb hp hcn hbx hct
  have hcs : (¬ cn ≤ 200) ∨ (cn ≤ 200 ∧ ¬ -1000 ≤ a) ∨ (cn ≤ 200 ∧ -1000 ≤ a ∧ ¬ -1000 ≤ a') ∨ (cn ≤ 200 ∧ -1000 ≤ a ∧ -1000 ≤ a' ∧ ¬ c ≤ 1000) ∨ (cn ≤ 200 ∧ -1000 ≤ a ∧ -1000 ≤ a' ∧ c ≤ 1000 ∧ ¬ c' ≤ 1000) ∨ (cn ≤ 200 ∧ -1000 ≤ a ∧ -1000 ≤ a' ∧ c ≤ 1000 ∧ c' ≤ 1000) := by omega
  rcases hcs with h1 | ⟨h1, h2⟩ | ⟨h1, h2, h3⟩ | ⟨h1, h2, h3, h4⟩ | ⟨h1, h2, h3, h4, h5⟩ | ⟨h1, h2, h3, h4, h5⟩
  all_goals
    go_enter Tryz.func6, Tryz.ntmps6
    go_wp2_with fail
    (go_at_call 20; (with_reducible refine (Kin.callK (W := w.alloc (.cells #[s] 24)) gRw (HBX.out _ (H.out.below gRw) HBD.out)).mono ?_); rintro e w' ⟨z1, rfl, hz1, rfl⟩; skip)
    go_wp2_with fail
    (go_at_call 18; (with_reducible refine (Kin.callK (W := ((Kin.wd z1).alloc (.cells #[.int .i64 a, .int .i64 a'] 47)).alloc (.cells #[.int .i64 c, .int .i64 c'] 47)) gRw (HCT.out _ (H.out.below gRw) HBD.out)).mono ?_); rintro e w' ⟨z2, rfl, hz2, rfl⟩; skip)
    go_wp2_with fail
    go_ret
    exact ⟨ret_bool (by first | (simp [*]; done) | (simp [*]; intros; omega)), gRw⟩
end Go.Proofs.YtneelidbgigehaaGreat
