/- The chapter's examples, walked. -/
import Derived.Test.YtomndgjnhhchdaaTrkCorn
import Derived.Test.YtomndgjnhhchdaaTrkCov
import Derived.Test.YtomndgjnhhchdaaTrkFew
import Derived.Test.YtomndgjnhhchdaaTrkPure
import Derived.Test.YtomndgjnhhchdaaTrkRefs
import Derived.Test.YtomndgjnhhchdaaTrkKit
import Derived.Test.YtomndgjnhhchdaaTrkRot
import Derived.Test.YtomndgjnhhchdaaTrkOnceW
import Derived.Test.YtomndgjnhhchdaaTrkSame
import Derived.Test.YtomndgjnhhchdaaRegCount
namespace Go.Proofs.Ytomndgjnhhchdaa
set_option linter.unusedSimpArgs false
set_option linter.unusedVariables false
set_option maxRecDepth 100000
open Go.RowKit Trk Reg
attribute [local go_sem] Kin.cell Kin.frozen Kin.lt0 Kin.lt1 Kin.lt2 Kin.lt3
abbrev sqL : List Cl := [(0, 0), (1, 0), (1, 1), (0, 1)]
abbrev rwL : List Cl := [(0, 0), (1, 0), (2, 0)]
abbrev clL : List Cl := [(1, 1), (1, 0), (1, -1)]
theorem lit_cells (w : World) (l : List Cl) (n b : Nat) (hn : l.length = n) (hm : n ≤ maxLen) (hb : b = w.heap.size) : Rd 2 encPt (w.alloc (.cells (l.flatMap encPt).toArray 31)) (.slice (some ⟨b, 0, none⟩) n n) l := by
  subst hn hb
  exact rd_lit w encPt_len 31 l rfl hm rfl rfl
theorem lit_trs (w : World) (hs : List TrH) (l : List Tr) (n b : Nat) (h : NestAt tsl ttag 2 encPt (fun t : Tr => t.2) w hs l) (hn : hs.length = n) (hm : n ≤ maxLen) (hb : b = w.heap.size) : RdTrs (w.alloc (.cells (hs.flatMap encTr).toArray 24)) (.slice (some ⟨b, 0, none⟩) n n) l := by
  subst hn hb
  exact ⟨hs, rd_lit w encTr_len 24 hs rfl hm rfl rfl, h.below (Below.alloc (Below.refl _ _) (Nat.le_refl _) _)⟩
theorem nest0 (W : World) : NestAt tsl ttag 2 encPt (fun t : Tr => t.2) W [] [] := ⟨rfl, fun i h x hh => by simp at hh⟩
theorem nest2 {W : World} {p q : TrH} {t u : Tr} (ht : ttag p t) (hr : Rd 2 encPt W (tsl p) t.2) (ht2 : ttag q u) (hr2 : Rd 2 encPt W (tsl q) u.2) : NestAt tsl ttag 2 encPt (fun t : Tr => t.2) W [p, q] [t, u] := nest_snoc (nest_snoc (nest0 W) ht hr) ht2 hr2
theorem nest3 {W : World} {p q r : TrH} {t u v : Tr} (ht : ttag p t) (hr : Rd 2 encPt W (tsl p) t.2) (ht2 : ttag q u) (hr2 : Rd 2 encPt W (tsl q) u.2) (ht3 : ttag r v) (hr3 : Rd 2 encPt W (tsl r) v.2) : NestAt tsl ttag 2 encPt (fun t : Tr => t.2) W [p, q, r] [t, u, v] := nest_snoc (nest2 ht hr ht2 hr2) ht3 hr3
theorem Blk.al {w : World} {g : Nat} {t : TypeId} {cs : Array Value} (h : Blk w g t cs) (o : Obj) : Blk (w.alloc o) g t cs := h.below (Below.alloc (Below.refl _ _) (Nat.le_refl _) _)
theorem Blk.at_ (w : World) (t : TypeId) (cs : Array Value) (g : Nat) (hg : g = w.heap.size) : Blk (w.alloc (.cells cs t)) g t cs := by subst hg; exact Blk.new w t cs
theorem cutG {α β γ A : Type} {F : α → β → γ → A → Prop} {R : α → β → γ → A → Prop} {P : Prop} (main : (∀ a b c y, F a b c y → R a b c y) → P) (pf : ∀ a b c y, F a b c y → R a b c y) : P := main pf
theorem cutH {α β A : Type} {F : α → β → A → Prop} {R : α → β → A → Prop} {P : Prop} (main : (∀ a b y, F a b y → R a b y) → P) (pf : ∀ a b y, F a b y → R a b y) : P := main pf
def Two1 (w : World) (k : Nat) (l m : List Cl) (A B : Nat) (y : Kin w) : Prop := Rd 2 encPt y.1 (.slice (some ⟨A, 0, none⟩) k k) l ∧ Rd 2 encPt y.1 (.slice (some ⟨B, 0, none⟩) k k) m
def Two2 (w : World) (k : Nat) (l m : List Cl) (A : Option Addr) (c : Nat) (B : Nat) (y : Kin w) : Prop := Rd 2 encPt y.1 (.slice A k c) l ∧ Rd 2 encPt y.1 (.slice (some ⟨B, 0, none⟩) k k) m
theorem turned_is {l' : List Cl} {n : Nat} (r : Int) (cl : Bool) (A : Option Addr) (cap : Nat) (l : List Cl) (i : Int) (w : World) (hi : -1099511627776 ≤ i ∧ i ≤ 1099511627776) (hn : l.length = n) (h : Rd 2 encPt w (.slice A n cap) l) (ht : turnT ((r, cl), l) i = ((r, cl), l')) (hn' : l'.length = n) :
    Calls Try.prog 29 #[tv r cl A n cap, .int .i64 i] w fun e w' => (∃ B c, e = .returned (tv r cl B n c) ∧ Rd 2 encPt w' (.slice B n c) l') ∧ Below w.heap.size w w' := by
  subst hn
  refine (turned_any r cl A cap l i w hi h).mono fun e w' ⟨⟨u, he, hu⟩, hb⟩ => ?_
  rw [ht] at hu
  obtain ⟨B, c, rfl, hr⟩ := hu
  simp only [hn'] at he hr
  exact ⟨⟨B, c, he, hr⟩, hb⟩
abbrev onL : List Tr := [((1, false), rwL), ((1, false), [(1, 1)]), ((1, false), [(1, -1)])]
theorem cnt18_is {n : Int} (v : Value) (rows : List Reg.Row) (w : World) (h : RdReg w v rows) (hbd : RBd rows) (hn : cntR rows = n) :
    Calls Try.prog 27 #[v] w fun e w' => e = .returned (.int .i64 n) ∧ Below w.heap.size w w' := by subst hn; exact count18_any v rows w h hbd
theorem onL_cnt : cntR (ofR (cellsT [((1, false), [(0, 0), (1, 0), (2, 0)]), ((1, false), [(1, 1)]), ((1, false), [(1, -1)])])) = 5 := by
  have h : oncT [((1, false), [(0, 0), (1, 0), (2, 0)]), ((1, false), [(1, 1), (1, 0), (1, -1)])] = [((1, false), [(0, 0), (1, 0), (2, 0)]), ((1, false), [(1, 1)]), ((1, false), [(1, -1)])] := by decide
  rw [← h, cnt_onc, h]
  rfl
theorem onL_is : oncT [((1, false), rwL), ((1, false), clL)] = onL := by decide
theorem steps_is {E : Int} {n : Nat} (r : Int) (cl : Bool) (A : Option Addr) (cap : Nat) (l : List Cl) (w : World) (hn : l.length = n) (h : Rd 2 encPt w (.slice A n cap) l) (hE : stepsT ((r, cl), l) = E) :
    Calls Try.prog 13 #[tv r cl A n cap] w fun e w' => e = .returned (.int .i64 E) ∧ Below w.heap.size w w' := by subst hn hE; exact stepsT_any r cl A cap l w h
theorem stepsR_is {E : Int} {n : Nat} (r : Int) (cl : Bool) (A : Option Addr) (cap : Nat) (l : List Cl) (w : World) (hn : l.length = n) (h : Rd 2 encPt w (.slice A n cap) l) (hE : stepsT ((r, cl), l) = E) :
    Calls Try.prog 14 #[tv r cl A n cap] w fun e w' => e = .returned (.int .i64 E) ∧ Below w.heap.size w w' := by subst hn hE; exact stepsR_any r cl A cap l w h
theorem corn_is {cs : List Cl} (r : Int) (cl : Bool) (A : Option Addr) (cap : Nat) (l : List Cl) {n : Nat} (m : Nat) (w : World) (hn : l.length = n) (h : Rd 2 encPt w (.slice A n cap) l) (hc : cornT ((r, cl), l) = cs) (hm : cs.length = m) :
    Calls Try.prog 16 #[tv r cl A n cap] w fun e w' => (∃ B c, e = .returned (.slice B m c) ∧ Rd 2 encPt w' (.slice B m c) cs) ∧ Below w.heap.size w w' := by
  refine (corners_any r cl A cap l w hn h).mono fun e w' ⟨⟨u, he, hu⟩, hb⟩ => ?_
  subst hc
  obtain ⟨B, c, rfl, _, _⟩ := hu.open_
  rw [hm] at he hu
  exact ⟨⟨B, c, he, hu⟩, hb⟩
theorem once_is {cs : List Tr} (v : Value) (l : List Tr) (m : Nat) (w : World) (h : RdTrs w v l) (hl : l.length ≤ 100000) (hc : oncT l = cs) (hm : cs.length = m) :
    Calls Try.prog 24 #[v] w fun e w' => (∃ B c, e = .returned (.slice B m c) ∧ RdTrs w' (.slice B m c) cs) ∧ Below w.heap.size w w' := by
  refine (once_any v l w h hl).mono fun e w' ⟨⟨u, he, hu⟩, hb⟩ => ?_
  subst hc
  have hr := hu.rd encTr_len
  obtain ⟨B, c, rfl, _, _⟩ := trks_open hr
  rw [hm] at he hr
  exact ⟨⟨B, c, he, hr⟩, hb⟩
set_option maxHeartbeats 8000000 in
theorem awake23_any (w : World) : Calls Try.prog 10 #[] w fun e w' => e = .returned (.bool true) ∧ Below w.heap.size w w' := by
  go_enter Try.func10, Try.ntmps10
  go_wp2_with fail
  (go_at_call 33; (with_reducible refine (Kin.callK (W := w) (by repeat (first | with_reducible (first | exact blA | exact blB | refine blC _ ?_ | refine blD ?_ ?_ _ | refine blE ?_ | refine blF _ ?_ | refine blG ?_ _ | refine blH ?_ | refine blI ?_ ?_ _) | (simp only [World.size_alloc]; omega) | (simp <;> omega))) (path_is _ _ _ _ _)).mono ?_); rintro e w' ⟨z1, rfl, hz1, rfl⟩; (have HSQ := Lib.hid ((lit_cells w sqL 4 w.heap.size rfl (by decide) rfl).below hz1); clear hz1))
  go_wp2_with fail
  (go_at_call 33; (with_reducible refine (Kin.callK (W := (Kin.wd z1)) (by repeat (first | with_reducible (first | exact blA | exact blB | refine blC _ ?_ | refine blD ?_ ?_ _ | refine blE ?_ | refine blF _ ?_ | refine blG ?_ _ | refine blH ?_ | refine blI ?_ ?_ _) | (simp only [World.size_alloc]; omega) | (simp <;> omega))) (path_is _ _ _ _ _)).mono ?_); rintro e w' ⟨z2, rfl, hz2, rfl⟩; skip)
  obtain ⟨S0, hS0⟩ : ∃ S : Value, S = .slice (some ⟨w.heap.size, 0, none⟩) 4 4 := ⟨_, rfl⟩
  have BSQ := Lib.hid ((((Blk.new z1.1 24 #[.int .i64 1, .bool false, .slice (some ⟨w.heap.size, 0, none⟩) 4 4]).al _).al _).below hz2)
  have BRI := Lib.hid (((Blk.at_ (z1.1.alloc _) 24 #[.int .i64 1, .bool true, .slice (some ⟨w.heap.size, 0, none⟩) 4 4] (z1.1.heap.size + 1) (by rw [World.size_alloc])).al _).below hz2)
  have HRW := Lib.hid ((lit_cells _ rwL 3 (z1.1.heap.size + 1 + 1) rfl (by decide) (by rw [World.size_alloc, World.size_alloc])).below hz2)
  replace HSQ := Lib.hid (HSQ.out.below z2.2)
  have l12 : z1.1.heap.size + 1 + 1 + 1 ≤ z2.1.heap.size := by have := hz2.size; rw [World.size_alloc, World.size_alloc, World.size_alloc] at this; exact this
  clear hz2
  go_wp2_with fail
  (go_at_call 33; (with_reducible refine (Kin.callK (W := (Kin.wd z2)) (by repeat (first | with_reducible (first | exact blA | exact blB | refine blC _ ?_ | refine blD ?_ ?_ _ | refine blE ?_ | refine blF _ ?_ | refine blG ?_ _ | refine blH ?_ | refine blI ?_ ?_ _) | (simp only [World.size_alloc]; omega) | (simp <;> omega))) (path_is _ _ _ _ _)).mono ?_); rintro e w' ⟨z3, rfl, hz3, rfl⟩; skip)
  have BRW := Lib.hid (((Blk.new z2.1 24 #[.int .i64 1, .bool false, .slice (some ⟨z1.1.heap.size + 1 + 1, 0, none⟩) 3 3]).al _).below hz3)
  have HCL := Lib.hid ((lit_cells _ clL 3 (z2.1.heap.size + 1) rfl (by decide) (by rw [World.size_alloc])).below hz3)
  replace HSQ := Lib.hid (HSQ.out.below z3.2)
  replace HRW := Lib.hid (HRW.out.below z3.2)
  replace BSQ := Lib.hid (BSQ.out.below z3.2)
  replace BRI := Lib.hid (BRI.out.below z3.2)
  have l23 : z2.1.heap.size + 1 + 1 ≤ z3.1.heap.size := by have := hz3.size; rw [World.size_alloc, World.size_alloc] at this; exact this
  clear hz3
  have r0 : z3.1.cell? ⟨z2.1.heap.size, 0, none⟩ = some (.int .i64 1) := BRW.out.cell 0
  have r1 : z3.1.cell? ⟨z2.1.heap.size, 1, none⟩ = some (.bool false) := BRW.out.cell 1
  have r2 : z3.1.cell? ⟨z2.1.heap.size, 2, none⟩ = some (.slice (some ⟨z1.1.heap.size + 1 + 1, 0, none⟩) 3 3) := BRW.out.cell 2
  have lrw := BRW.out.lt
  go_wp2_with fail
  have HT := Lib.hid (show RdTrs ((z3.1.alloc (.cells #[.int .i64 1, .bool false, .slice (some ⟨z2.1.heap.size + 1, 0, none⟩) 3 3] 24)).alloc (.cells #[.int .i64 1, .bool false, .slice (some ⟨z1.1.heap.size + 1 + 1, 0, none⟩) 3 3, .int .i64 1, .bool false, .slice (some ⟨z2.1.heap.size + 1, 0, none⟩) 3 3] 24)) _ _ from lit_trs (z3.1.alloc (.cells #[.int .i64 1, .bool false, .slice (some ⟨z2.1.heap.size + 1, 0, none⟩) 3 3] 24)) [((1, false), (some ⟨z1.1.heap.size + 1 + 1, 0, none⟩, 3, 3)), ((1, false), (some ⟨z2.1.heap.size + 1, 0, none⟩, 3, 3))] [((1, false), rwL), ((1, false), clL)] 2 (z3.1.heap.size + 1) (nest2 rfl (HRW.out.below (by repeat (first | with_reducible (first | exact blA | exact blB | refine blC _ ?_ | refine blD ?_ ?_ _ | refine blE ?_ | refine blF _ ?_ | refine blG ?_ _ | refine blH ?_ | refine blI ?_ ?_ _) | (simp only [World.size_alloc]; omega) | (simp <;> omega)))) rfl (HCL.out.below (by repeat (first | with_reducible (first | exact blA | exact blB | refine blC _ ?_ | refine blD ?_ ?_ _ | refine blE ?_ | refine blF _ ?_ | refine blG ?_ _ | refine blH ?_ | refine blI ?_ ?_ _) | (simp only [World.size_alloc]; omega) | (simp <;> omega))))) rfl (by decide) (by rw [World.size_alloc]))
  (go_at_call 24; (with_reducible refine (Kin.callK (W := (Kin.wd z3)) (by repeat (first | with_reducible (first | exact blA | exact blB | refine blC _ ?_ | refine blD ?_ ?_ _ | refine blE ?_ | refine blF _ ?_ | refine blG ?_ _ | refine blH ?_ | refine blI ?_ ?_ _) | (simp only [World.size_alloc]; omega) | (simp <;> omega))) (once_is (cs := onL) _ [((1, false), rwL), ((1, false), clL)] 3 _ HT.out (by decide) onL_is rfl)).mono ?_); rintro e w' ⟨z4, ⟨BO, cO, rfl, hO⟩, hz4, rfl⟩; skip)
  have HOL := Lib.hid hO
  replace HSQ := Lib.hid (HSQ.out.below z4.2)
  replace HRW := Lib.hid (HRW.out.below z4.2)
  replace BSQ := Lib.hid (BSQ.out.below z4.2)
  replace BRI := Lib.hid (BRI.out.below z4.2)
  replace BRW := Lib.hid (BRW.out.below z4.2)
  have l34 : z3.1.heap.size ≤ z4.1.heap.size := z4.2.size
  clear hz4 hO r0 r1 r2 lrw HCL HT
  have s0 : z4.1.cell? ⟨z1.1.heap.size, 0, none⟩ = some (.int .i64 1) := BSQ.out.cell 0
  have s1 : z4.1.cell? ⟨z1.1.heap.size, 1, none⟩ = some (.bool false) := BSQ.out.cell 1
  have s2 : z4.1.cell? ⟨z1.1.heap.size, 2, none⟩ = some (.slice (some ⟨w.heap.size, 0, none⟩) 4 4) := BSQ.out.cell 2
  have g0 : z4.1.cell? ⟨z1.1.heap.size + 1, 0, none⟩ = some (.int .i64 1) := BRI.out.cell 0
  have g1 : z4.1.cell? ⟨z1.1.heap.size + 1, 1, none⟩ = some (.bool true) := BRI.out.cell 1
  have g2 : z4.1.cell? ⟨z1.1.heap.size + 1, 2, none⟩ = some (.slice (some ⟨w.heap.size, 0, none⟩) 4 4) := BRI.out.cell 2
  have r0 : z4.1.cell? ⟨z2.1.heap.size, 0, none⟩ = some (.int .i64 1) := BRW.out.cell 0
  have r1 : z4.1.cell? ⟨z2.1.heap.size, 1, none⟩ = some (.bool false) := BRW.out.cell 1
  have r2 : z4.1.cell? ⟨z2.1.heap.size, 2, none⟩ = some (.slice (some ⟨z1.1.heap.size + 1 + 1, 0, none⟩) 3 3) := BRW.out.cell 2
  have lsq := BSQ.out.lt
  have lri := BRI.out.lt
  have lrw := BRW.out.lt
  obtain ⟨zz, hzz⟩ : ∃ zz : Kin w, zz.1 = z4.1 := ⟨⟨z4.1, (z1.2.trans (z2.2.mono z1.2.size)).trans ((z3.2.trans (z4.2.mono z3.2.size)).mono (Nat.le_trans z1.2.size z2.2.size))⟩, rfl⟩
  have HZ := Lib.hid (show Below w.heap.size w z4.1 from hzz ▸ zz.2)
  clear zz hzz
  go_wp2_with (first
    | (go_at_call 11; (with_reducible refine (Kin.callK (W := (Kin.wd z4)) (by repeat (first | with_reducible (first | exact blA | exact blB | refine blC _ ?_ | refine blD ?_ ?_ _ | refine blE ?_ | refine blF _ ?_ | refine blG ?_ _ | refine blH ?_ | refine blI ?_ ?_ _) | (simp only [World.size_alloc]; omega) | (simp <;> omega))) (validT_is (b := true) (n := 4) 1 false _ _ sqL _ rfl (HSQ.out.below (by repeat (first | with_reducible (first | exact blA | exact blB | refine blC _ ?_ | refine blD ?_ ?_ _ | refine blE ?_ | refine blF _ ?_ | refine blG ?_ _ | refine blH ?_ | refine blI ?_ ?_ _) | (simp only [World.size_alloc]; omega) | (simp <;> omega)))) (by decide))).mono ?_); rintro e w' ⟨z, rfl, hz, rfl⟩)
    | (go_at_call 11; (with_reducible refine (Kin.callK (W := (Kin.wd z4)) (by repeat (first | with_reducible (first | exact blA | exact blB | refine blC _ ?_ | refine blD ?_ ?_ _ | refine blE ?_ | refine blF _ ?_ | refine blG ?_ _ | refine blH ?_ | refine blI ?_ ?_ _) | (simp only [World.size_alloc]; omega) | (simp <;> omega))) (validT_is (b := true) (n := 4) 1 true _ _ sqL _ rfl (HSQ.out.below (by repeat (first | with_reducible (first | exact blA | exact blB | refine blC _ ?_ | refine blD ?_ ?_ _ | refine blE ?_ | refine blF _ ?_ | refine blG ?_ _ | refine blH ?_ | refine blI ?_ ?_ _) | (simp only [World.size_alloc]; omega) | (simp <;> omega)))) (by decide))).mono ?_); rintro e w' ⟨z, rfl, hz, rfl⟩)
    | (go_at_call 13; (with_reducible refine (Kin.callK (W := (Kin.wd z4)) (by repeat (first | with_reducible (first | exact blA | exact blB | refine blC _ ?_ | refine blD ?_ ?_ _ | refine blE ?_ | refine blF _ ?_ | refine blG ?_ _ | refine blH ?_ | refine blI ?_ ?_ _) | (simp only [World.size_alloc]; omega) | (simp <;> omega))) (steps_is (E := 3) (n := 4) 1 false _ _ sqL _ rfl (HSQ.out.below (by repeat (first | with_reducible (first | exact blA | exact blB | refine blC _ ?_ | refine blD ?_ ?_ _ | refine blE ?_ | refine blF _ ?_ | refine blG ?_ _ | refine blH ?_ | refine blI ?_ ?_ _) | (simp only [World.size_alloc]; omega) | (simp <;> omega)))) (by decide))).mono ?_); rintro e w' ⟨z, rfl, hz, rfl⟩)
    | (go_at_call 13; (with_reducible refine (Kin.callK (W := (Kin.wd z4)) (by repeat (first | with_reducible (first | exact blA | exact blB | refine blC _ ?_ | refine blD ?_ ?_ _ | refine blE ?_ | refine blF _ ?_ | refine blG ?_ _ | refine blH ?_ | refine blI ?_ ?_ _) | (simp only [World.size_alloc]; omega) | (simp <;> omega))) (steps_is (E := 4) (n := 4) 1 true _ _ sqL _ rfl (HSQ.out.below (by repeat (first | with_reducible (first | exact blA | exact blB | refine blC _ ?_ | refine blD ?_ ?_ _ | refine blE ?_ | refine blF _ ?_ | refine blG ?_ _ | refine blH ?_ | refine blI ?_ ?_ _) | (simp only [World.size_alloc]; omega) | (simp <;> omega)))) (by decide))).mono ?_); rintro e w' ⟨z, rfl, hz, rfl⟩)
    | (go_at_call 16; (with_reducible refine (Kin.callK (W := (Kin.wd z4)) (by repeat (first | with_reducible (first | exact blA | exact blB | refine blC _ ?_ | refine blD ?_ ?_ _ | refine blE ?_ | refine blF _ ?_ | refine blG ?_ _ | refine blH ?_ | refine blI ?_ ?_ _) | (simp only [World.size_alloc]; omega) | (simp <;> omega))) (corn_is (cs := sqL) 1 false _ _ sqL (n := 4) 4 _ rfl (HSQ.out.below (by repeat (first | with_reducible (first | exact blA | exact blB | refine blC _ ?_ | refine blD ?_ ?_ _ | refine blE ?_ | refine blF _ ?_ | refine blG ?_ _ | refine blH ?_ | refine blI ?_ ?_ _) | (simp only [World.size_alloc]; omega) | (simp <;> omega)))) (by decide) rfl)).mono ?_); rintro e w' ⟨z, ⟨B5, c5, rfl, h5⟩, hz, rfl⟩; skip)
    | (go_at_call 16; (with_reducible refine (Kin.callK (W := (Kin.wd z4)) (by repeat (first | with_reducible (first | exact blA | exact blB | refine blC _ ?_ | refine blD ?_ ?_ _ | refine blE ?_ | refine blF _ ?_ | refine blG ?_ _ | refine blH ?_ | refine blI ?_ ?_ _) | (simp only [World.size_alloc]; omega) | (simp <;> omega))) (corn_is (cs := [(0, 0), (2, 0)]) 1 false _ _ rwL (n := 3) 2 _ rfl (HRW.out.below (by repeat (first | with_reducible (first | exact blA | exact blB | refine blC _ ?_ | refine blD ?_ ?_ _ | refine blE ?_ | refine blF _ ?_ | refine blG ?_ _ | refine blH ?_ | refine blI ?_ ?_ _) | (simp only [World.size_alloc]; omega) | (simp <;> omega)))) (by decide) rfl)).mono ?_); rintro e w' ⟨z, ⟨B6, c6, rfl, h6⟩, hz, rfl⟩; (have H6 := Lib.hid h6))
    | (go_at_call 15; (with_reducible refine (Kin.callK (W := (Kin.wd z4)) (by repeat (first | with_reducible (first | exact blA | exact blB | refine blC _ ?_ | refine blD ?_ ?_ _ | refine blE ?_ | refine blF _ ?_ | refine blG ?_ _ | refine blH ?_ | refine blI ?_ ?_ _) | (simp only [World.size_alloc]; omega) | (simp <;> omega))) (cells_true _ _ [(0, 0), (2, 0)] _ (H6.out.below (by repeat (first | with_reducible (first | exact blA | exact blB | refine blC _ ?_ | refine blD ?_ ?_ _ | refine blE ?_ | refine blF _ ?_ | refine blG ?_ _ | refine blH ?_ | refine blI ?_ ?_ _) | (simp only [World.size_alloc]; omega) | (simp <;> omega)))) (rd_lit _ encPt_len 31 [(0, 0), (2, 0)]) (by decide))).mono ?_); rintro e w' ⟨z, rfl, hz, rfl⟩))
  obtain ⟨z5, rfl⟩ : ∃ z5 : Kin z4.1, z5 = z := ⟨_, rfl⟩
  have mixed : Try.prog.follows .mixedOrders = true := by kernel_rfl
  refine wp_region_held_drew (S := fun w' => Below z4.1.heap.size z4.1 w') (by kernel_rfl) (by repeat (first | with_reducible (first | exact blA | exact blB | refine blC _ ?_ | refine blD ?_ ?_ _ | refine blE ?_ | refine blF _ ?_ | refine blG ?_ _ | refine blH ?_ | refine blI ?_ ?_ _) | (simp only [World.size_alloc]; omega) | (simp <;> omega))) (fun hHeld => ?_)
  try simp only [List.size_toArray, List.length_cons, List.length_nil, Nat.zero_add, Nat.reduceAdd, List.replicate, Array.replicate]
  refine wpAnyH_take (i := 0) (v := ?_) rfl (by kernel_rfl) (by kernel_rfl) (by kernel_rfl) (fun _ _ _ h => h) (Or.inl ⟨by kernel_rfl, ?_⟩) (by assumption) ?_
  rotate_left
  · (intro w' hSw; have s0 := (hSw.cell (p := ⟨z1.1.heap.size + 1, 0, none⟩) lri).trans (g0); have s1 := (hSw.cell (p := ⟨z1.1.heap.size + 1, 1, none⟩) lri).trans (g1); have s2 := (hSw.cell (p := ⟨z1.1.heap.size + 1, 2, none⟩) lri).trans (g2); have s3 := (hSw.cell (p := ⟨z2.1.heap.size, 0, none⟩) lrw).trans (r0); have s4 := (hSw.cell (p := ⟨z2.1.heap.size, 1, none⟩) lrw).trans (r1); have s5 := (hSw.cell (p := ⟨z2.1.heap.size, 2, none⟩) lrw).trans (r2); go_simp; try with_reducible rfl)
  try simp only [List.getElem_toArray, List.getElem_cons_succ, List.getElem_cons_zero, Act.put, List.setIfInBounds_toArray, List.set_cons_zero, List.set_cons_succ]
  refine wpAnyH_take (i := 1) (v := ?_) rfl (by kernel_rfl) (by kernel_rfl) (by kernel_rfl) (fun _ _ _ h => h) (Or.inl ⟨by kernel_rfl, ?_⟩) (by assumption) ?_
  rotate_left
  · (intro w' hSw; have s0 := (hSw.cell (p := ⟨z1.1.heap.size + 1, 0, none⟩) lri).trans (g0); have s1 := (hSw.cell (p := ⟨z1.1.heap.size + 1, 1, none⟩) lri).trans (g1); have s2 := (hSw.cell (p := ⟨z1.1.heap.size + 1, 2, none⟩) lri).trans (g2); have s3 := (hSw.cell (p := ⟨z2.1.heap.size, 0, none⟩) lrw).trans (r0); have s4 := (hSw.cell (p := ⟨z2.1.heap.size, 1, none⟩) lrw).trans (r1); have s5 := (hSw.cell (p := ⟨z2.1.heap.size, 2, none⟩) lrw).trans (r2); go_simp; try with_reducible rfl)
  try simp only [List.getElem_toArray, List.getElem_cons_succ, List.getElem_cons_zero, Act.put, List.setIfInBounds_toArray, List.set_cons_zero, List.set_cons_succ]
  refine wpAnyH_take (i := 2) (v := ?_) rfl (by kernel_rfl) (by kernel_rfl) (by kernel_rfl) (fun _ _ _ h => h) (Or.inl ⟨by kernel_rfl, ?_⟩) (by assumption) ?_
  rotate_left
  · (intro w' hSw; have s0 := (hSw.cell (p := ⟨z1.1.heap.size + 1, 0, none⟩) lri).trans (g0); have s1 := (hSw.cell (p := ⟨z1.1.heap.size + 1, 1, none⟩) lri).trans (g1); have s2 := (hSw.cell (p := ⟨z1.1.heap.size + 1, 2, none⟩) lri).trans (g2); have s3 := (hSw.cell (p := ⟨z2.1.heap.size, 0, none⟩) lrw).trans (r0); have s4 := (hSw.cell (p := ⟨z2.1.heap.size, 1, none⟩) lrw).trans (r1); have s5 := (hSw.cell (p := ⟨z2.1.heap.size, 2, none⟩) lrw).trans (r2); go_simp; try with_reducible rfl)
  try simp only [List.getElem_toArray, List.getElem_cons_succ, List.getElem_cons_zero, Act.put, List.setIfInBounds_toArray, List.set_cons_zero, List.set_cons_succ]
  refine wpAnyH_take (i := 5) (v := ?_) rfl (by kernel_rfl) (by kernel_rfl) (by kernel_rfl) (fun _ _ _ h => h) (Or.inl ⟨by kernel_rfl, ?_⟩) (by assumption) ?_
  rotate_left
  · (intro w' hSw; have s0 := (hSw.cell (p := ⟨z1.1.heap.size + 1, 0, none⟩) lri).trans (g0); have s1 := (hSw.cell (p := ⟨z1.1.heap.size + 1, 1, none⟩) lri).trans (g1); have s2 := (hSw.cell (p := ⟨z1.1.heap.size + 1, 2, none⟩) lri).trans (g2); have s3 := (hSw.cell (p := ⟨z2.1.heap.size, 0, none⟩) lrw).trans (r0); have s4 := (hSw.cell (p := ⟨z2.1.heap.size, 1, none⟩) lrw).trans (r1); have s5 := (hSw.cell (p := ⟨z2.1.heap.size, 2, none⟩) lrw).trans (r2); go_simp; try with_reducible rfl)
  try simp only [List.getElem_toArray, List.getElem_cons_succ, List.getElem_cons_zero, Act.put, List.setIfInBounds_toArray, List.set_cons_zero, List.set_cons_succ]
  clear hHeld
  apply cutH (F := Two1 z4.1 1 [(1, 1)] [(1, -1)])
  case main =>
    intro key
    have hHeld : True := trivial
    refine wpAnyH_ready (rs := [3, 6]) (by kernel_rfl) (by simp) (AllReadyH.cons rfl (fun K hK => ?_) (AllReadyH.cons rfl (fun K hK => ?_) AllReadyH.nil))
    · go_simp
      refine hK.out _ _ (by repeat (first | with_reducible (first | exact blA | exact blB | refine blC _ ?_ | refine blD ?_ ?_ _ | refine blE ?_ | refine blF _ ?_ | refine blG ?_ _ | refine blH ?_ | refine blI ?_ ?_ _) | (simp only [World.size_alloc]; omega) | (simp <;> omega))) (fun hHeld2 => ?_)
      clear hK hHeld
      have hHeld := hHeld2
      clear hHeld2 K
      try simp only [List.getElem_toArray, List.getElem_cons_succ, List.getElem_cons_zero, Act.put, List.setIfInBounds_toArray, List.set_cons_zero, List.set_cons_succ]
      refine wpAnyH_ready (rs := [4, 6]) (by kernel_rfl) (by simp) (AllReadyH.cons rfl (fun K hK => ?_) (AllReadyH.cons rfl (fun K hK => ?_) AllReadyH.nil))
      · go_simp
        (go_at_call 33; (with_reducible refine (Kin.callK (W := (Kin.wd z4)) (by repeat (first | with_reducible (first | exact blA | exact blB | refine blC _ ?_ | refine blD ?_ ?_ _ | refine blE ?_ | refine blF _ ?_ | refine blG ?_ _ | refine blH ?_ | refine blI ?_ ?_ _) | (simp only [World.size_alloc]; omega) | (simp <;> omega))) (path_is _ _ _ _ _)).mono ?_); rintro e w' ⟨z6, rfl, hz6, rfl⟩; skip)
        have H1 := ((lit_cells z5.1 [(1, 1)] 1 z5.1.heap.size rfl (by decide) rfl).below (Below.drew (Below.refl _ _))).below hz6
        refine hK.out _ _ (by repeat (first | with_reducible (first | exact blA | exact blB | refine blC _ ?_ | refine blD ?_ ?_ _ | refine blE ?_ | refine blF _ ?_ | refine blG ?_ _ | refine blH ?_ | refine blI ?_ ?_ _) | (simp only [World.size_alloc]; omega) | (simp <;> omega))) (fun hHeld2 => ?_)
        clear hK hHeld
        have hHeld := hHeld2
        clear hHeld2 K
        try simp only [List.getElem_toArray, List.getElem_cons_succ, List.getElem_cons_zero, Act.put, List.setIfInBounds_toArray, List.set_cons_zero, List.set_cons_succ]
        ((first | refine wpAnyH_ready (rs := [6]) (by kernel_rfl) (by simp) (AllReadyH.cons rfl (fun K hK => ?_) AllReadyH.nil)) <;> (go_simp; refine hK.out _ _ (by repeat (first | with_reducible (first | exact blA | exact blB | refine blC _ ?_ | refine blD ?_ ?_ _ | refine blE ?_ | refine blF _ ?_ | refine blG ?_ _ | refine blH ?_ | refine blI ?_ ?_ _) | (simp only [World.size_alloc]; omega) | (simp <;> omega))) (fun hHeld2 => ?_); clear hK hHeld; have hHeld := hHeld2; clear hHeld2 K; try simp only [List.getElem_toArray, List.getElem_cons_succ, List.getElem_cons_zero, Act.put, List.setIfInBounds_toArray, List.set_cons_zero, List.set_cons_succ]))
        refine wpAnyH_ready (rs := [7]) (by kernel_rfl) (by simp) (AllReadyH.cons rfl (fun K hK => ?_) AllReadyH.nil)
        go_simp
        (go_at_call 33; (with_reducible refine (Kin.callK (W := (Kin.wd z4)) (by repeat (first | with_reducible (first | exact blA | exact blB | refine blC _ ?_ | refine blD ?_ ?_ _ | refine blE ?_ | refine blF _ ?_ | refine blG ?_ _ | refine blH ?_ | refine blI ?_ ?_ _) | (simp only [World.size_alloc]; omega) | (simp <;> omega))) (path_is _ _ _ _ _)).mono ?_); rintro e w' ⟨z7, rfl, hz7, rfl⟩; skip)
        replace H1 := (H1.below (Below.alloc (Below.refl _ _) (Nat.le_refl _) _)).below hz7
        have H2 := (lit_cells z6.1 [(1, -1)] 1 z6.1.heap.size rfl (by decide) rfl).below hz7
        refine hK.out _ _ (by repeat (first | with_reducible (first | exact blA | exact blB | refine blC _ ?_ | refine blD ?_ ?_ _ | refine blE ?_ | refine blF _ ?_ | refine blG ?_ _ | refine blH ?_ | refine blI ?_ ?_ _) | (simp only [World.size_alloc]; omega) | (simp <;> omega))) (fun hHeld2 => ?_)
        clear hK hHeld
        have hHeld := hHeld2
        clear hHeld2 K
        try simp only [List.getElem_toArray, List.getElem_cons_succ, List.getElem_cons_zero, Act.put, List.setIfInBounds_toArray, List.set_cons_zero, List.set_cons_succ]
        obtain ⟨G1, hG1⟩ : ∃ G, z5.1.heap.size = G := ⟨_, rfl⟩
        obtain ⟨G2, hG2⟩ : ∃ G, z6.1.heap.size = G := ⟨_, rfl⟩
        rw [hG2] at H2
        rw [hG1] at H1
        rw [hG1, hG2]
        exact key G1 G2 z7 ⟨H1, H2⟩
      · go_simp
        refine hK.out _ _ (by repeat (first | with_reducible (first | exact blA | exact blB | refine blC _ ?_ | refine blD ?_ ?_ _ | refine blE ?_ | refine blF _ ?_ | refine blG ?_ _ | refine blH ?_ | refine blI ?_ ?_ _) | (simp only [World.size_alloc]; omega) | (simp <;> omega))) (fun hHeld2 => ?_)
        clear hK hHeld
        have hHeld := hHeld2
        clear hHeld2 K
        try simp only [List.getElem_toArray, List.getElem_cons_succ, List.getElem_cons_zero, Act.put, List.setIfInBounds_toArray, List.set_cons_zero, List.set_cons_succ]
        refine wpAnyH_ready (rs := [4]) (by kernel_rfl) (by simp) (AllReadyH.cons rfl (fun K hK => ?_) AllReadyH.nil)
        go_simp
        (go_at_call 33; (with_reducible refine (Kin.callK (W := (Kin.wd z4)) (by repeat (first | with_reducible (first | exact blA | exact blB | refine blC _ ?_ | refine blD ?_ ?_ _ | refine blE ?_ | refine blF _ ?_ | refine blG ?_ _ | refine blH ?_ | refine blI ?_ ?_ _) | (simp only [World.size_alloc]; omega) | (simp <;> omega))) (path_is _ _ _ _ _)).mono ?_); rintro e w' ⟨z6, rfl, hz6, rfl⟩; skip)
        have H1 := (((lit_cells z5.1 [(1, 1)] 1 z5.1.heap.size rfl (by decide) rfl).below (Below.alloc (Below.refl _ _) (Nat.le_refl _) _)).below (Below.drew (Below.refl _ _))).below hz6
        have H2 := ((lit_cells (z5.1.alloc _) [(1, -1)] 1 (z5.1.heap.size + 1) rfl (by decide) (by rw [World.size_alloc])).below (Below.drew (Below.refl _ _))).below hz6
        refine hK.out _ _ (by repeat (first | with_reducible (first | exact blA | exact blB | refine blC _ ?_ | refine blD ?_ ?_ _ | refine blE ?_ | refine blF _ ?_ | refine blG ?_ _ | refine blH ?_ | refine blI ?_ ?_ _) | (simp only [World.size_alloc]; omega) | (simp <;> omega))) (fun hHeld2 => ?_)
        clear hK hHeld
        have hHeld := hHeld2
        clear hHeld2 K
        try simp only [List.getElem_toArray, List.getElem_cons_succ, List.getElem_cons_zero, Act.put, List.setIfInBounds_toArray, List.set_cons_zero, List.set_cons_succ]
        refine wpAnyH_ready (rs := [7]) (by kernel_rfl) (by simp) (AllReadyH.cons rfl (fun K hK => ?_) AllReadyH.nil)
        go_simp
        (go_at_call 33; (with_reducible refine (Kin.callK (W := (Kin.wd z4)) (by repeat (first | with_reducible (first | exact blA | exact blB | refine blC _ ?_ | refine blD ?_ ?_ _ | refine blE ?_ | refine blF _ ?_ | refine blG ?_ _ | refine blH ?_ | refine blI ?_ ?_ _) | (simp only [World.size_alloc]; omega) | (simp <;> omega))) (path_is _ _ _ _ _)).mono ?_); rintro e w' ⟨z7, rfl, hz7, rfl⟩; skip)
        replace H1 := H1.below hz7
        replace H2 := H2.below hz7
        refine hK.out _ _ (by repeat (first | with_reducible (first | exact blA | exact blB | refine blC _ ?_ | refine blD ?_ ?_ _ | refine blE ?_ | refine blF _ ?_ | refine blG ?_ _ | refine blH ?_ | refine blI ?_ ?_ _) | (simp only [World.size_alloc]; omega) | (simp <;> omega))) (fun hHeld2 => ?_)
        clear hK hHeld
        have hHeld := hHeld2
        clear hHeld2 K
        try simp only [List.getElem_toArray, List.getElem_cons_succ, List.getElem_cons_zero, Act.put, List.setIfInBounds_toArray, List.set_cons_zero, List.set_cons_succ]
        obtain ⟨G1, hG1⟩ : ∃ G, z5.1.heap.size = G := ⟨_, rfl⟩
        obtain ⟨G2, hG2⟩ : ∃ G, z5.1.heap.size + 1 = G := ⟨_, rfl⟩
        rw [hG2] at H2
        rw [hG1] at H1
        rw [hG2, hG1]
        exact key G1 G2 z7 ⟨H1, H2⟩
    · go_simp
      refine hK.out _ _ (by repeat (first | with_reducible (first | exact blA | exact blB | refine blC _ ?_ | refine blD ?_ ?_ _ | refine blE ?_ | refine blF _ ?_ | refine blG ?_ _ | refine blH ?_ | refine blI ?_ ?_ _) | (simp only [World.size_alloc]; omega) | (simp <;> omega))) (fun hHeld2 => ?_)
      clear hK hHeld
      have hHeld := hHeld2
      clear hHeld2 K
      try simp only [List.getElem_toArray, List.getElem_cons_succ, List.getElem_cons_zero, Act.put, List.setIfInBounds_toArray, List.set_cons_zero, List.set_cons_succ]
      ((first | refine wpAnyH_ready (rs := [3]) (by kernel_rfl) (by simp) (AllReadyH.cons rfl (fun K hK => ?_) AllReadyH.nil)) <;> (go_simp; refine hK.out _ _ (by repeat (first | with_reducible (first | exact blA | exact blB | refine blC _ ?_ | refine blD ?_ ?_ _ | refine blE ?_ | refine blF _ ?_ | refine blG ?_ _ | refine blH ?_ | refine blI ?_ ?_ _) | (simp only [World.size_alloc]; omega) | (simp <;> omega))) (fun hHeld2 => ?_); clear hK hHeld; have hHeld := hHeld2; clear hHeld2 K; try simp only [List.getElem_toArray, List.getElem_cons_succ, List.getElem_cons_zero, Act.put, List.setIfInBounds_toArray, List.set_cons_zero, List.set_cons_succ]))
      refine wpAnyH_ready (rs := [4]) (by kernel_rfl) (by simp) (AllReadyH.cons rfl (fun K hK => ?_) AllReadyH.nil)
      go_simp
      (go_at_call 33; (with_reducible refine (Kin.callK (W := (Kin.wd z4)) (by repeat (first | with_reducible (first | exact blA | exact blB | refine blC _ ?_ | refine blD ?_ ?_ _ | refine blE ?_ | refine blF _ ?_ | refine blG ?_ _ | refine blH ?_ | refine blI ?_ ?_ _) | (simp only [World.size_alloc]; omega) | (simp <;> omega))) (path_is _ _ _ _ _)).mono ?_); rintro e w' ⟨z6, rfl, hz6, rfl⟩; skip)
      have H2 := (((lit_cells z5.1 [(1, -1)] 1 z5.1.heap.size rfl (by decide) rfl).below (Below.alloc (Below.refl _ _) (Nat.le_refl _) _)).below (Below.drew (Below.refl _ _))).below hz6
      have H1 := ((lit_cells (z5.1.alloc _) [(1, 1)] 1 (z5.1.heap.size + 1) rfl (by decide) (by rw [World.size_alloc])).below (Below.drew (Below.refl _ _))).below hz6
      refine hK.out _ _ (by repeat (first | with_reducible (first | exact blA | exact blB | refine blC _ ?_ | refine blD ?_ ?_ _ | refine blE ?_ | refine blF _ ?_ | refine blG ?_ _ | refine blH ?_ | refine blI ?_ ?_ _) | (simp only [World.size_alloc]; omega) | (simp <;> omega))) (fun hHeld2 => ?_)
      clear hK hHeld
      have hHeld := hHeld2
      clear hHeld2 K
      try simp only [List.getElem_toArray, List.getElem_cons_succ, List.getElem_cons_zero, Act.put, List.setIfInBounds_toArray, List.set_cons_zero, List.set_cons_succ]
      refine wpAnyH_ready (rs := [7]) (by kernel_rfl) (by simp) (AllReadyH.cons rfl (fun K hK => ?_) AllReadyH.nil)
      go_simp
      (go_at_call 33; (with_reducible refine (Kin.callK (W := (Kin.wd z4)) (by repeat (first | with_reducible (first | exact blA | exact blB | refine blC _ ?_ | refine blD ?_ ?_ _ | refine blE ?_ | refine blF _ ?_ | refine blG ?_ _ | refine blH ?_ | refine blI ?_ ?_ _) | (simp only [World.size_alloc]; omega) | (simp <;> omega))) (path_is _ _ _ _ _)).mono ?_); rintro e w' ⟨z7, rfl, hz7, rfl⟩; skip)
      replace H1 := H1.below hz7
      replace H2 := H2.below hz7
      refine hK.out _ _ (by repeat (first | with_reducible (first | exact blA | exact blB | refine blC _ ?_ | refine blD ?_ ?_ _ | refine blE ?_ | refine blF _ ?_ | refine blG ?_ _ | refine blH ?_ | refine blI ?_ ?_ _) | (simp only [World.size_alloc]; omega) | (simp <;> omega))) (fun hHeld2 => ?_)
      clear hK hHeld
      have hHeld := hHeld2
      clear hHeld2 K
      try simp only [List.getElem_toArray, List.getElem_cons_succ, List.getElem_cons_zero, Act.put, List.setIfInBounds_toArray, List.set_cons_zero, List.set_cons_succ]
      obtain ⟨G1, hG1⟩ : ∃ G, z5.1.heap.size + 1 = G := ⟨_, rfl⟩
      obtain ⟨G2, hG2⟩ : ∃ G, z5.1.heap.size = G := ⟨_, rfl⟩
      rw [hG2] at H2
      rw [hG1] at H1
      rw [hG1, hG2]
      exact key G1 G2 z7 ⟨H1, H2⟩
  case pf =>
    rintro G1 G2 y ⟨H1, H2⟩
    have hHeld := y.2
    ((first | refine wpAnyH_ready (rs := [8]) (by kernel_rfl) (by simp) (AllReadyH.cons rfl (fun K hK => ?_) AllReadyH.nil)) <;> (go_simp; refine hK.out _ _ (by repeat (first | with_reducible (first | exact blA | exact blB | refine blC _ ?_ | refine blD ?_ ?_ _ | refine blE ?_ | refine blF _ ?_ | refine blG ?_ _ | refine blH ?_ | refine blI ?_ ?_ _) | (simp only [World.size_alloc]; omega) | (simp <;> omega))) (fun hHeld2 => ?_); clear hK hHeld; have hHeld := hHeld2; clear hHeld2 K; try simp only [List.getElem_toArray, List.getElem_cons_succ, List.getElem_cons_zero, Act.put, List.setIfInBounds_toArray, List.set_cons_zero, List.set_cons_succ]))
    have HT3 := Lib.hid (show RdTrs (y.1.alloc (.cells #[.int .i64 1, .bool false, .slice (some ⟨z1.1.heap.size + 1 + 1, 0, none⟩) 3 3, .int .i64 1, .bool false, .slice (some ⟨G1, 0, none⟩) 1 1, .int .i64 1, .bool false, .slice (some ⟨G2, 0, none⟩) 1 1] 24)) (.slice (some ⟨y.1.heap.size, 0, none⟩) 3 3) onL from lit_trs y.1 [((1, false), (some ⟨z1.1.heap.size + 1 + 1, 0, none⟩, 3, 3)), ((1, false), (some ⟨G1, 0, none⟩, 1, 1)), ((1, false), (some ⟨G2, 0, none⟩, 1, 1))] onL 3 y.1.heap.size (nest3 rfl (HRW.out.below y.2) rfl H1 rfl H2) rfl (by decide) rfl)
    refine wpAnyH_ready (rs := [9]) (by kernel_rfl) (by simp) (AllReadyH.cons rfl (fun K hK => ?_) AllReadyH.nil)
    go_simp
    (go_at_call 25; (with_reducible refine (Kin.callK (W := (Kin.wd z4)) (by repeat (first | with_reducible (first | exact blA | exact blB | refine blC _ ?_ | refine blD ?_ ?_ _ | refine blE ?_ | refine blF _ ?_ | refine blG ?_ _ | refine blH ?_ | refine blI ?_ ?_ _) | (simp only [World.size_alloc]; omega) | (simp <;> omega))) (sameAll_true _ _ onL _ (HOL.out.below (by repeat (first | with_reducible (first | exact blA | exact blB | refine blC _ ?_ | refine blD ?_ ?_ _ | refine blE ?_ | refine blF _ ?_ | refine blG ?_ _ | refine blH ?_ | refine blI ?_ ?_ _) | (simp only [World.size_alloc]; omega) | (simp <;> omega)))) HT3.out (by decide) (by decide))).mono ?_); rintro e w' ⟨z8, rfl, hz8, rfl⟩; clear hz8)
    refine hK.out _ _ (by repeat (first | with_reducible (first | exact blA | exact blB | refine blC _ ?_ | refine blD ?_ ?_ _ | refine blE ?_ | refine blF _ ?_ | refine blG ?_ _ | refine blH ?_ | refine blI ?_ ?_ _) | (simp only [World.size_alloc]; omega) | (simp <;> omega))) (fun hHeld2 => ?_)
    clear hK hHeld
    have hHeld := hHeld2
    clear hHeld2 K
    try simp only [List.getElem_toArray, List.getElem_cons_succ, List.getElem_cons_zero, Act.put, List.setIfInBounds_toArray, List.set_cons_zero, List.set_cons_succ]
    refine wpAnyH_take (i := 10) (v := ?_) rfl (by kernel_rfl) (by kernel_rfl) (by kernel_rfl) (fun _ _ _ h => h) (Or.inl ⟨by kernel_rfl, ?_⟩) (by assumption) ?_
    rotate_left
    · (intro w' hSw; have s0 := (hSw.cell (p := ⟨z1.1.heap.size + 1, 0, none⟩) lri).trans (g0); have s1 := (hSw.cell (p := ⟨z1.1.heap.size + 1, 1, none⟩) lri).trans (g1); have s2 := (hSw.cell (p := ⟨z1.1.heap.size + 1, 2, none⟩) lri).trans (g2); have s3 := (hSw.cell (p := ⟨z2.1.heap.size, 0, none⟩) lrw).trans (r0); have s4 := (hSw.cell (p := ⟨z2.1.heap.size, 1, none⟩) lrw).trans (r1); have s5 := (hSw.cell (p := ⟨z2.1.heap.size, 2, none⟩) lrw).trans (r2); go_simp; try with_reducible rfl)
    try simp only [List.getElem_toArray, List.getElem_cons_succ, List.getElem_cons_zero, Act.put, List.setIfInBounds_toArray, List.set_cons_zero, List.set_cons_succ]
    refine wpAnyH_take (i := 11) (v := ?_) rfl (by kernel_rfl) (by kernel_rfl) (by kernel_rfl) (fun _ _ _ h => h) (Or.inl ⟨by kernel_rfl, ?_⟩) (by assumption) ?_
    rotate_left
    · (intro w' hSw; have s0 := (hSw.cell (p := ⟨z1.1.heap.size + 1, 0, none⟩) lri).trans (g0); have s1 := (hSw.cell (p := ⟨z1.1.heap.size + 1, 1, none⟩) lri).trans (g1); have s2 := (hSw.cell (p := ⟨z1.1.heap.size + 1, 2, none⟩) lri).trans (g2); have s3 := (hSw.cell (p := ⟨z2.1.heap.size, 0, none⟩) lrw).trans (r0); have s4 := (hSw.cell (p := ⟨z2.1.heap.size, 1, none⟩) lrw).trans (r1); have s5 := (hSw.cell (p := ⟨z2.1.heap.size, 2, none⟩) lrw).trans (r2); go_simp; try with_reducible rfl)
    try simp only [List.getElem_toArray, List.getElem_cons_succ, List.getElem_cons_zero, Act.put, List.setIfInBounds_toArray, List.set_cons_zero, List.set_cons_succ]
    refine wpAnyH_take (i := 13) (v := ?_) rfl (by kernel_rfl) (by kernel_rfl) (by kernel_rfl) (fun _ _ _ h => h) (Or.inl ⟨by kernel_rfl, ?_⟩) (by assumption) ?_
    rotate_left
    · (intro w' hSw; have s0 := (hSw.cell (p := ⟨z1.1.heap.size + 1, 0, none⟩) lri).trans (g0); have s1 := (hSw.cell (p := ⟨z1.1.heap.size + 1, 1, none⟩) lri).trans (g1); have s2 := (hSw.cell (p := ⟨z1.1.heap.size + 1, 2, none⟩) lri).trans (g2); have s3 := (hSw.cell (p := ⟨z2.1.heap.size, 0, none⟩) lrw).trans (r0); have s4 := (hSw.cell (p := ⟨z2.1.heap.size, 1, none⟩) lrw).trans (r1); have s5 := (hSw.cell (p := ⟨z2.1.heap.size, 2, none⟩) lrw).trans (r2); go_simp; try with_reducible rfl)
    try simp only [List.getElem_toArray, List.getElem_cons_succ, List.getElem_cons_zero, Act.put, List.setIfInBounds_toArray, List.set_cons_zero, List.set_cons_succ]
    refine wpAnyH_take (i := 14) (v := ?_) rfl (by kernel_rfl) (by kernel_rfl) (by kernel_rfl) (fun _ _ _ h => h) (Or.inl ⟨by kernel_rfl, ?_⟩) (by assumption) ?_
    rotate_left
    · (intro w' hSw; have s0 := (hSw.cell (p := ⟨z1.1.heap.size + 1, 0, none⟩) lri).trans (g0); have s1 := (hSw.cell (p := ⟨z1.1.heap.size + 1, 1, none⟩) lri).trans (g1); have s2 := (hSw.cell (p := ⟨z1.1.heap.size + 1, 2, none⟩) lri).trans (g2); have s3 := (hSw.cell (p := ⟨z2.1.heap.size, 0, none⟩) lrw).trans (r0); have s4 := (hSw.cell (p := ⟨z2.1.heap.size, 1, none⟩) lrw).trans (r1); have s5 := (hSw.cell (p := ⟨z2.1.heap.size, 2, none⟩) lrw).trans (r2); go_simp; try with_reducible rfl)
    try simp only [List.getElem_toArray, List.getElem_cons_succ, List.getElem_cons_zero, Act.put, List.setIfInBounds_toArray, List.set_cons_zero, List.set_cons_succ]
    refine wpAnyH_take (i := 15) (v := ?_) rfl (by kernel_rfl) (by kernel_rfl) (by kernel_rfl) (fun _ _ _ h => h) (Or.inl ⟨by kernel_rfl, ?_⟩) (by assumption) ?_
    rotate_left
    · (intro w' hSw; have s0 := (hSw.cell (p := ⟨z1.1.heap.size + 1, 0, none⟩) lri).trans (g0); have s1 := (hSw.cell (p := ⟨z1.1.heap.size + 1, 1, none⟩) lri).trans (g1); have s2 := (hSw.cell (p := ⟨z1.1.heap.size + 1, 2, none⟩) lri).trans (g2); have s3 := (hSw.cell (p := ⟨z2.1.heap.size, 0, none⟩) lrw).trans (r0); have s4 := (hSw.cell (p := ⟨z2.1.heap.size, 1, none⟩) lrw).trans (r1); have s5 := (hSw.cell (p := ⟨z2.1.heap.size, 2, none⟩) lrw).trans (r2); go_simp; try with_reducible rfl)
    try simp only [List.getElem_toArray, List.getElem_cons_succ, List.getElem_cons_zero, Act.put, List.setIfInBounds_toArray, List.set_cons_zero, List.set_cons_succ]
    refine wpAnyH_take (i := 16) (v := ?_) rfl (by kernel_rfl) (by kernel_rfl) (by kernel_rfl) (fun _ _ _ h => h) (Or.inl ⟨by kernel_rfl, ?_⟩) (by assumption) ?_
    rotate_left
    · (intro w' hSw; have s0 := (hSw.cell (p := ⟨z1.1.heap.size + 1, 0, none⟩) lri).trans (g0); have s1 := (hSw.cell (p := ⟨z1.1.heap.size + 1, 1, none⟩) lri).trans (g1); have s2 := (hSw.cell (p := ⟨z1.1.heap.size + 1, 2, none⟩) lri).trans (g2); have s3 := (hSw.cell (p := ⟨z2.1.heap.size, 0, none⟩) lrw).trans (r0); have s4 := (hSw.cell (p := ⟨z2.1.heap.size, 1, none⟩) lrw).trans (r1); have s5 := (hSw.cell (p := ⟨z2.1.heap.size, 2, none⟩) lrw).trans (r2); go_simp; try with_reducible rfl)
    try simp only [List.getElem_toArray, List.getElem_cons_succ, List.getElem_cons_zero, Act.put, List.setIfInBounds_toArray, List.set_cons_zero, List.set_cons_succ]
    clear hHeld
    apply cutG (F := Two2 z4.1 4 [(1, 0), (1, 1), (0, 1), (0, 0)] [(1, 0), (1, 1), (0, 1), (0, 0)])
    case main =>
      intro key
      have hHeld : True := trivial
      refine wpAnyH_ready (rs := [12, 17]) (by kernel_rfl) (by simp) (AllReadyH.cons rfl (fun K hK => ?_) (AllReadyH.cons rfl (fun K hK => ?_) AllReadyH.nil))
      · go_simp
        (go_at_call 29; (with_reducible refine (Kin.callK (W := (Kin.wd z4)) (by repeat (first | with_reducible (first | exact blA | exact blB | refine blC _ ?_ | refine blD ?_ ?_ _ | refine blE ?_ | refine blF _ ?_ | refine blG ?_ _ | refine blH ?_ | refine blI ?_ ?_ _) | (simp only [World.size_alloc]; omega) | (simp <;> omega))) (turned_is (l' := [(1, 0), (1, 1), (0, 1), (0, 0)]) (n := 4) 1 true _ _ sqL 1 _ (by decide) rfl (HSQ.out.below (by repeat (first | with_reducible (first | exact blA | exact blB | refine blC _ ?_ | refine blD ?_ ?_ _ | refine blE ?_ | refine blF _ ?_ | refine blG ?_ _ | refine blH ?_ | refine blI ?_ ?_ _) | (simp only [World.size_alloc]; omega) | (simp <;> omega)))) (by decide) rfl)).mono ?_); rintro e w' ⟨z9, ⟨BT, cT, rfl, hT⟩, hz9, rfl⟩; skip)
        refine hK.out _ _ (by repeat (first | with_reducible (first | exact blA | exact blB | refine blC _ ?_ | refine blD ?_ ?_ _ | refine blE ?_ | refine blF _ ?_ | refine blG ?_ _ | refine blH ?_ | refine blI ?_ ?_ _) | (simp only [World.size_alloc]; omega) | (simp <;> omega))) (fun hHeld2 => ?_)
        clear hK hHeld
        have hHeld := hHeld2
        clear hHeld2 K
        try simp only [List.getElem_toArray, List.getElem_cons_succ, List.getElem_cons_zero, Act.put, List.setIfInBounds_toArray, List.set_cons_zero, List.set_cons_succ]
        ((first | refine wpAnyH_ready (rs := [17]) (by kernel_rfl) (by simp) (AllReadyH.cons rfl (fun K hK => ?_) AllReadyH.nil)) <;> (go_simp; refine hK.out _ _ (by repeat (first | with_reducible (first | exact blA | exact blB | refine blC _ ?_ | refine blD ?_ ?_ _ | refine blE ?_ | refine blF _ ?_ | refine blG ?_ _ | refine blH ?_ | refine blI ?_ ?_ _) | (simp only [World.size_alloc]; omega) | (simp <;> omega))) (fun hHeld2 => ?_); clear hK hHeld; have hHeld := hHeld2; clear hHeld2 K; try simp only [List.getElem_toArray, List.getElem_cons_succ, List.getElem_cons_zero, Act.put, List.setIfInBounds_toArray, List.set_cons_zero, List.set_cons_succ]))
        have H3 := lit_cells z9.1 [(1, 0), (1, 1), (0, 1), (0, 0)] 4 z9.1.heap.size rfl (by decide) rfl
        replace hT := hT.below (Below.alloc (Below.refl _ _) (Nat.le_refl _) (.cells (List.flatMap encPt [(1, 0), (1, 1), (0, 1), (0, 0)]).toArray 31))
        obtain ⟨za, hza⟩ : ∃ za : Kin z4.1, za.1 = z9.1.alloc (.cells #[.int .i64 1, .int .i64 0, .int .i64 1, .int .i64 1, .int .i64 0, .int .i64 1, .int .i64 0, .int .i64 0] 31) := ⟨⟨_, (by repeat (first | with_reducible (first | exact blA | exact blB | refine blC _ ?_ | refine blD ?_ ?_ _ | refine blE ?_ | refine blF _ ?_ | refine blG ?_ _ | refine blH ?_ | refine blI ?_ ?_ _) | (simp only [World.size_alloc]; omega) | (simp <;> omega)))⟩, rfl⟩
        rw [← hza]
        obtain ⟨G4, hG4⟩ : ∃ G, z9.1.heap.size = G := ⟨_, rfl⟩
        rw [hG4] at H3 ⊢
        exact key BT cT G4 za ⟨by rw [hza]; exact hT, by rw [hza]; exact H3⟩
      · go_simp
        refine hK.out _ _ (by repeat (first | with_reducible (first | exact blA | exact blB | refine blC _ ?_ | refine blD ?_ ?_ _ | refine blE ?_ | refine blF _ ?_ | refine blG ?_ _ | refine blH ?_ | refine blI ?_ ?_ _) | (simp only [World.size_alloc]; omega) | (simp <;> omega))) (fun hHeld2 => ?_)
        clear hK hHeld
        have hHeld := hHeld2
        clear hHeld2 K
        try simp only [List.getElem_toArray, List.getElem_cons_succ, List.getElem_cons_zero, Act.put, List.setIfInBounds_toArray, List.set_cons_zero, List.set_cons_succ]
        refine wpAnyH_ready (rs := [12]) (by kernel_rfl) (by simp) (AllReadyH.cons rfl (fun K hK => ?_) AllReadyH.nil)
        go_simp
        (go_at_call 29; (with_reducible refine (Kin.callK (W := (Kin.wd z4)) (by repeat (first | with_reducible (first | exact blA | exact blB | refine blC _ ?_ | refine blD ?_ ?_ _ | refine blE ?_ | refine blF _ ?_ | refine blG ?_ _ | refine blH ?_ | refine blI ?_ ?_ _) | (simp only [World.size_alloc]; omega) | (simp <;> omega))) (turned_is (l' := [(1, 0), (1, 1), (0, 1), (0, 0)]) (n := 4) 1 true _ _ sqL 1 _ (by decide) rfl (HSQ.out.below (by repeat (first | with_reducible (first | exact blA | exact blB | refine blC _ ?_ | refine blD ?_ ?_ _ | refine blE ?_ | refine blF _ ?_ | refine blG ?_ _ | refine blH ?_ | refine blI ?_ ?_ _) | (simp only [World.size_alloc]; omega) | (simp <;> omega)))) (by decide) rfl)).mono ?_); rintro e w' ⟨z9, ⟨BT, cT, rfl, hT⟩, hz9, rfl⟩; skip)
        have H3 := (lit_cells z8.1 [(1, 0), (1, 1), (0, 1), (0, 0)] 4 z8.1.heap.size rfl (by decide) rfl).below hz9
        refine hK.out _ _ (by repeat (first | with_reducible (first | exact blA | exact blB | refine blC _ ?_ | refine blD ?_ ?_ _ | refine blE ?_ | refine blF _ ?_ | refine blG ?_ _ | refine blH ?_ | refine blI ?_ ?_ _) | (simp only [World.size_alloc]; omega) | (simp <;> omega))) (fun hHeld2 => ?_)
        clear hK hHeld
        have hHeld := hHeld2
        clear hHeld2 K
        try simp only [List.getElem_toArray, List.getElem_cons_succ, List.getElem_cons_zero, Act.put, List.setIfInBounds_toArray, List.set_cons_zero, List.set_cons_succ]
        obtain ⟨G4, hG4⟩ : ∃ G, z8.1.heap.size = G := ⟨_, rfl⟩
        rw [hG4] at H3 ⊢
        exact key BT cT G4 z9 ⟨hT, H3⟩
    case pf =>
      rintro BT cT G4 y4 ⟨H3, H4⟩
      have hHeld := y4.2
      refine wpAnyH_ready (rs := [18]) (by kernel_rfl) (by simp) (AllReadyH.cons rfl (fun K hK => ?_) AllReadyH.nil)
      go_simp
      (go_at_call 33; (with_reducible refine (Kin.callK (W := (Kin.wd z4)) (by repeat (first | with_reducible (first | exact blA | exact blB | refine blC _ ?_ | refine blD ?_ ?_ _ | refine blE ?_ | refine blF _ ?_ | refine blG ?_ _ | refine blH ?_ | refine blI ?_ ?_ _) | (simp only [World.size_alloc]; omega) | (simp <;> omega))) (path_is _ _ _ _ _)).mono ?_); rintro e w' ⟨z9, rfl, hz9, rfl⟩; skip)
      refine hK.out _ _ (by repeat (first | with_reducible (first | exact blA | exact blB | refine blC _ ?_ | refine blD ?_ ?_ _ | refine blE ?_ | refine blF _ ?_ | refine blG ?_ _ | refine blH ?_ | refine blI ?_ ?_ _) | (simp only [World.size_alloc]; omega) | (simp <;> omega))) (fun hHeld2 => ?_)
      clear hK hHeld
      have hHeld := hHeld2
      clear hHeld2 K
      try simp only [List.getElem_toArray, List.getElem_cons_succ, List.getElem_cons_zero, Act.put, List.setIfInBounds_toArray, List.set_cons_zero, List.set_cons_succ]
      refine wpAnyH_ready (rs := [19]) (by kernel_rfl) (by simp) (AllReadyH.cons rfl (fun K hK => ?_) AllReadyH.nil)
      go_simp
      (go_at_call 30; (with_reducible refine (Kin.callK (W := (Kin.wd z4)) (by repeat (first | with_reducible (first | exact blA | exact blB | refine blC _ ?_ | refine blD ?_ ?_ _ | refine blE ?_ | refine blF _ ?_ | refine blG ?_ _ | refine blH ?_ | refine blI ?_ ?_ _) | (simp only [World.size_alloc]; omega) | (simp <;> omega))) (same_true 1 true _ _ _ _ [(1, 0), (1, 1), (0, 1), (0, 0)] (n := 4) _ rfl (H3.below hz9) (H4.below hz9) (by decide))).mono ?_); rintro e w' ⟨za, rfl, hza, rfl⟩; skip)
      refine hK.out _ _ (by repeat (first | with_reducible (first | exact blA | exact blB | refine blC _ ?_ | refine blD ?_ ?_ _ | refine blE ?_ | refine blF _ ?_ | refine blG ?_ _ | refine blH ?_ | refine blI ?_ ?_ _) | (simp only [World.size_alloc]; omega) | (simp <;> omega))) (fun hHeld2 => ?_)
      clear hK hHeld
      have hHeld := hHeld2
      clear hHeld2 K
      try simp only [List.getElem_toArray, List.getElem_cons_succ, List.getElem_cons_zero, Act.put, List.setIfInBounds_toArray, List.set_cons_zero, List.set_cons_succ]
      refine wpAnyH_take (i := 20) (v := ?_) rfl (by kernel_rfl) (by kernel_rfl) (by kernel_rfl) (fun _ _ _ h => h) (Or.inl ⟨by kernel_rfl, ?_⟩) (by assumption) ?_
      rotate_left
      · (intro w' hSw; have s0 := (hSw.cell (p := ⟨z1.1.heap.size + 1, 0, none⟩) lri).trans (g0); have s1 := (hSw.cell (p := ⟨z1.1.heap.size + 1, 1, none⟩) lri).trans (g1); have s2 := (hSw.cell (p := ⟨z1.1.heap.size + 1, 2, none⟩) lri).trans (g2); have s3 := (hSw.cell (p := ⟨z2.1.heap.size, 0, none⟩) lrw).trans (r0); have s4 := (hSw.cell (p := ⟨z2.1.heap.size, 1, none⟩) lrw).trans (r1); have s5 := (hSw.cell (p := ⟨z2.1.heap.size, 2, none⟩) lrw).trans (r2); go_simp; try with_reducible rfl)
      try simp only [List.getElem_toArray, List.getElem_cons_succ, List.getElem_cons_zero, Act.put, List.setIfInBounds_toArray, List.set_cons_zero, List.set_cons_succ]
      refine wpAnyH_take (i := 21) (v := ?_) rfl (by kernel_rfl) (by kernel_rfl) (by kernel_rfl) (fun _ _ _ h => h) (Or.inl ⟨by kernel_rfl, ?_⟩) (by assumption) ?_
      rotate_left
      · (intro w' hSw; have s0 := (hSw.cell (p := ⟨z1.1.heap.size + 1, 0, none⟩) lri).trans (g0); have s1 := (hSw.cell (p := ⟨z1.1.heap.size + 1, 1, none⟩) lri).trans (g1); have s2 := (hSw.cell (p := ⟨z1.1.heap.size + 1, 2, none⟩) lri).trans (g2); have s3 := (hSw.cell (p := ⟨z2.1.heap.size, 0, none⟩) lrw).trans (r0); have s4 := (hSw.cell (p := ⟨z2.1.heap.size, 1, none⟩) lrw).trans (r1); have s5 := (hSw.cell (p := ⟨z2.1.heap.size, 2, none⟩) lrw).trans (r2); go_simp; try with_reducible rfl)
      try simp only [List.getElem_toArray, List.getElem_cons_succ, List.getElem_cons_zero, Act.put, List.setIfInBounds_toArray, List.set_cons_zero, List.set_cons_succ]
      refine wpAnyH_take (i := 22) (v := ?_) rfl (by kernel_rfl) (by kernel_rfl) (by kernel_rfl) (fun _ _ _ h => h) (Or.inl ⟨by kernel_rfl, ?_⟩) (by assumption) ?_
      rotate_left
      · (intro w' hSw; have s0 := (hSw.cell (p := ⟨z1.1.heap.size + 1, 0, none⟩) lri).trans (g0); have s1 := (hSw.cell (p := ⟨z1.1.heap.size + 1, 1, none⟩) lri).trans (g1); have s2 := (hSw.cell (p := ⟨z1.1.heap.size + 1, 2, none⟩) lri).trans (g2); have s3 := (hSw.cell (p := ⟨z2.1.heap.size, 0, none⟩) lrw).trans (r0); have s4 := (hSw.cell (p := ⟨z2.1.heap.size, 1, none⟩) lrw).trans (r1); have s5 := (hSw.cell (p := ⟨z2.1.heap.size, 2, none⟩) lrw).trans (r2); go_simp; try with_reducible rfl)
      try simp only [List.getElem_toArray, List.getElem_cons_succ, List.getElem_cons_zero, Act.put, List.setIfInBounds_toArray, List.set_cons_zero, List.set_cons_succ]
      have HO2 := HOL.out.below za.2
      refine wpAnyH_ready (rs := [23]) (by kernel_rfl) (by simp) (AllReadyH.cons rfl (fun K hK => ?_) AllReadyH.nil)
      go_simp
      (go_at_call 20; (with_reducible refine (Kin.callK (W := (Kin.wd z4)) (by repeat (first | with_reducible (first | exact blA | exact blB | refine blC _ ?_ | refine blD ?_ ?_ _ | refine blE ?_ | refine blF _ ?_ | refine blG ?_ _ | refine blH ?_ | refine blI ?_ ?_ _) | (simp only [World.size_alloc]; omega) | (simp <;> omega))) (cover_any _ [((1, false), [(0, 0), (1, 0), (2, 0)]), ((1, false), [(1, 1)]), ((1, false), [(1, -1)])] _ HO2 (by decide) (by decide))).mono ?_); rintro e w' ⟨zb, ⟨AR, nR, cR, rfl, hR⟩, hzb, rfl⟩; skip)
      refine hK.out _ _ (by repeat (first | with_reducible (first | exact blA | exact blB | refine blC _ ?_ | refine blD ?_ ?_ _ | refine blE ?_ | refine blF _ ?_ | refine blG ?_ _ | refine blH ?_ | refine blI ?_ ?_ _) | (simp only [World.size_alloc]; omega) | (simp <;> omega))) (fun hHeld2 => ?_)
      clear hK hHeld
      have hHeld := hHeld2
      clear hHeld2 K
      try simp only [List.getElem_toArray, List.getElem_cons_succ, List.getElem_cons_zero, Act.put, List.setIfInBounds_toArray, List.set_cons_zero, List.set_cons_succ]
      refine wpAnyH_ready (rs := [24]) (by kernel_rfl) (by simp) (AllReadyH.cons rfl (fun K hK => ?_) AllReadyH.nil)
      go_simp
      (go_at_call 27; (with_reducible refine (Kin.callK (W := (Kin.wd z4)) (by repeat (first | with_reducible (first | exact blA | exact blB | refine blC _ ?_ | refine blD ?_ ?_ _ | refine blE ?_ | refine blF _ ?_ | refine blG ?_ _ | refine blH ?_ | refine blI ?_ ?_ _) | (simp only [World.size_alloc]; omega) | (simp <;> omega))) (cnt18_is (n := 5) _ _ _ hR (rvalid_bd (ofR_valid _)) onL_cnt)).mono ?_); rintro e w' ⟨zc, rfl, hzc, rfl⟩; skip)
      refine hK.out _ _ (by repeat (first | with_reducible (first | exact blA | exact blB | refine blC _ ?_ | refine blD ?_ ?_ _ | refine blE ?_ | refine blF _ ?_ | refine blG ?_ _ | refine blH ?_ | refine blI ?_ ?_ _) | (simp only [World.size_alloc]; omega) | (simp <;> omega))) (fun hHeld2 => ?_)
      clear hK hHeld
      have hHeld := hHeld2
      clear hHeld2 K
      try simp only [List.getElem_toArray, List.getElem_cons_succ, List.getElem_cons_zero, Act.put, List.setIfInBounds_toArray, List.set_cons_zero, List.set_cons_succ]
      refine wpAnyH_take (i := 25) (v := ?_) rfl (by kernel_rfl) (by kernel_rfl) (by kernel_rfl) (fun _ _ _ h => h) (Or.inl ⟨by kernel_rfl, ?_⟩) (by assumption) ?_
      rotate_left
      · (intro w' hSw; have s0 := (hSw.cell (p := ⟨z1.1.heap.size + 1, 0, none⟩) lri).trans (g0); have s1 := (hSw.cell (p := ⟨z1.1.heap.size + 1, 1, none⟩) lri).trans (g1); have s2 := (hSw.cell (p := ⟨z1.1.heap.size + 1, 2, none⟩) lri).trans (g2); have s3 := (hSw.cell (p := ⟨z2.1.heap.size, 0, none⟩) lrw).trans (r0); have s4 := (hSw.cell (p := ⟨z2.1.heap.size, 1, none⟩) lrw).trans (r1); have s5 := (hSw.cell (p := ⟨z2.1.heap.size, 2, none⟩) lrw).trans (r2); go_simp; try with_reducible rfl)
      try simp only [List.getElem_toArray, List.getElem_cons_succ, List.getElem_cons_zero, Act.put, List.setIfInBounds_toArray, List.set_cons_zero, List.set_cons_succ]
      refine wpAnyH_take (i := 26) (v := ?_) rfl (by kernel_rfl) (by kernel_rfl) (by kernel_rfl) (fun _ _ _ h => h) (Or.inl ⟨by kernel_rfl, ?_⟩) (by assumption) ?_
      rotate_left
      · (intro w' hSw; have s0 := (hSw.cell (p := ⟨z1.1.heap.size + 1, 0, none⟩) lri).trans (g0); have s1 := (hSw.cell (p := ⟨z1.1.heap.size + 1, 1, none⟩) lri).trans (g1); have s2 := (hSw.cell (p := ⟨z1.1.heap.size + 1, 2, none⟩) lri).trans (g2); have s3 := (hSw.cell (p := ⟨z2.1.heap.size, 0, none⟩) lrw).trans (r0); have s4 := (hSw.cell (p := ⟨z2.1.heap.size, 1, none⟩) lrw).trans (r1); have s5 := (hSw.cell (p := ⟨z2.1.heap.size, 2, none⟩) lrw).trans (r2); go_simp; try with_reducible rfl)
      try simp only [List.getElem_toArray, List.getElem_cons_succ, List.getElem_cons_zero, Act.put, List.setIfInBounds_toArray, List.set_cons_zero, List.set_cons_succ]
      refine wpAnyH_take (i := 27) (v := ?_) rfl (by kernel_rfl) (by kernel_rfl) (by kernel_rfl) (fun _ _ _ h => h) (Or.inl ⟨by kernel_rfl, ?_⟩) (by assumption) ?_
      rotate_left
      · (intro w' hSw; have s0 := (hSw.cell (p := ⟨z1.1.heap.size + 1, 0, none⟩) lri).trans (g0); have s1 := (hSw.cell (p := ⟨z1.1.heap.size + 1, 1, none⟩) lri).trans (g1); have s2 := (hSw.cell (p := ⟨z1.1.heap.size + 1, 2, none⟩) lri).trans (g2); have s3 := (hSw.cell (p := ⟨z2.1.heap.size, 0, none⟩) lrw).trans (r0); have s4 := (hSw.cell (p := ⟨z2.1.heap.size, 1, none⟩) lrw).trans (r1); have s5 := (hSw.cell (p := ⟨z2.1.heap.size, 2, none⟩) lrw).trans (r2); go_simp; try with_reducible rfl)
      try simp only [List.getElem_toArray, List.getElem_cons_succ, List.getElem_cons_zero, Act.put, List.setIfInBounds_toArray, List.set_cons_zero, List.set_cons_succ]
      refine wpAnyH_take (i := 28) (v := ?_) rfl (by kernel_rfl) (by kernel_rfl) (by kernel_rfl) (fun _ _ _ h => h) (Or.inl ⟨by kernel_rfl, ?_⟩) (by assumption) ?_
      rotate_left
      · (intro w' hSw; have s0 := (hSw.cell (p := ⟨z1.1.heap.size + 1, 0, none⟩) lri).trans (g0); have s1 := (hSw.cell (p := ⟨z1.1.heap.size + 1, 1, none⟩) lri).trans (g1); have s2 := (hSw.cell (p := ⟨z1.1.heap.size + 1, 2, none⟩) lri).trans (g2); have s3 := (hSw.cell (p := ⟨z2.1.heap.size, 0, none⟩) lrw).trans (r0); have s4 := (hSw.cell (p := ⟨z2.1.heap.size, 1, none⟩) lrw).trans (r1); have s5 := (hSw.cell (p := ⟨z2.1.heap.size, 2, none⟩) lrw).trans (r2); go_simp; try with_reducible rfl)
      try simp only [List.getElem_toArray, List.getElem_cons_succ, List.getElem_cons_zero, Act.put, List.setIfInBounds_toArray, List.set_cons_zero, List.set_cons_succ]
      refine wpAnyH_take (i := 29) (v := ?_) rfl (by kernel_rfl) (by kernel_rfl) (by kernel_rfl) (fun _ _ _ h => h) (Or.inl ⟨by kernel_rfl, ?_⟩) (by assumption) ?_
      rotate_left
      · (intro w' hSw; have s0 := (hSw.cell (p := ⟨z1.1.heap.size + 1, 0, none⟩) lri).trans (g0); have s1 := (hSw.cell (p := ⟨z1.1.heap.size + 1, 1, none⟩) lri).trans (g1); have s2 := (hSw.cell (p := ⟨z1.1.heap.size + 1, 2, none⟩) lri).trans (g2); have s3 := (hSw.cell (p := ⟨z2.1.heap.size, 0, none⟩) lrw).trans (r0); have s4 := (hSw.cell (p := ⟨z2.1.heap.size, 1, none⟩) lrw).trans (r1); have s5 := (hSw.cell (p := ⟨z2.1.heap.size, 2, none⟩) lrw).trans (r2); go_simp; try with_reducible rfl)
      try simp only [List.getElem_toArray, List.getElem_cons_succ, List.getElem_cons_zero, Act.put, List.setIfInBounds_toArray, List.set_cons_zero, List.set_cons_succ]
      refine wpAnyH_take (i := 30) (v := ?_) rfl (by kernel_rfl) (by kernel_rfl) (by kernel_rfl) (fun _ _ _ h => h) (Or.inl ⟨by kernel_rfl, ?_⟩) (by assumption) ?_
      rotate_left
      · (intro w' hSw; have s0 := (hSw.cell (p := ⟨z1.1.heap.size + 1, 0, none⟩) lri).trans (g0); have s1 := (hSw.cell (p := ⟨z1.1.heap.size + 1, 1, none⟩) lri).trans (g1); have s2 := (hSw.cell (p := ⟨z1.1.heap.size + 1, 2, none⟩) lri).trans (g2); have s3 := (hSw.cell (p := ⟨z2.1.heap.size, 0, none⟩) lrw).trans (r0); have s4 := (hSw.cell (p := ⟨z2.1.heap.size, 1, none⟩) lrw).trans (r1); have s5 := (hSw.cell (p := ⟨z2.1.heap.size, 2, none⟩) lrw).trans (r2); go_simp; try with_reducible rfl)
      try simp only [List.getElem_toArray, List.getElem_cons_succ, List.getElem_cons_zero, Act.put, List.setIfInBounds_toArray, List.set_cons_zero, List.set_cons_succ]
      ((first | refine wpAnyH_ready (rs := [31]) (by kernel_rfl) (by simp) (AllReadyH.cons rfl (fun K hK => ?_) AllReadyH.nil)) <;> (go_simp; refine hK.out _ _ (by repeat (first | with_reducible (first | exact blA | exact blB | refine blC _ ?_ | refine blD ?_ ?_ _ | refine blE ?_ | refine blF _ ?_ | refine blG ?_ _ | refine blH ?_ | refine blI ?_ ?_ _) | (simp only [World.size_alloc]; omega) | (simp <;> omega))) (fun hHeld2 => ?_); clear hK hHeld; have hHeld := hHeld2; clear hHeld2 K; try simp only [List.getElem_toArray, List.getElem_cons_succ, List.getElem_cons_zero, Act.put, List.setIfInBounds_toArray, List.set_cons_zero, List.set_cons_succ]))
      have H5 := lit_cells zc.1 rwL 3 zc.1.heap.size rfl (by decide) rfl
      refine wpAnyH_ready (rs := [32]) (by kernel_rfl) (by simp) (AllReadyH.cons rfl (fun K hK => ?_) AllReadyH.nil)
      go_simp
      (go_at_call 33; (with_reducible refine (Kin.callK (W := (Kin.wd z4)) (by repeat (first | with_reducible (first | exact blA | exact blB | refine blC _ ?_ | refine blD ?_ ?_ _ | refine blE ?_ | refine blF _ ?_ | refine blG ?_ _ | refine blH ?_ | refine blI ?_ ?_ _) | (simp only [World.size_alloc]; omega) | (simp <;> omega))) (path_is _ _ _ _ _)).mono ?_); rintro e w' ⟨zd, rfl, hzd, rfl⟩; skip)
      have H6 := H5.below hzd
      refine hK.out _ _ (by repeat (first | with_reducible (first | exact blA | exact blB | refine blC _ ?_ | refine blD ?_ ?_ _ | refine blE ?_ | refine blF _ ?_ | refine blG ?_ _ | refine blH ?_ | refine blI ?_ ?_ _) | (simp only [World.size_alloc]; omega) | (simp <;> omega))) (fun hHeld2 => ?_)
      clear hK hHeld
      have hHeld := hHeld2
      clear hHeld2 K
      try simp only [List.getElem_toArray, List.getElem_cons_succ, List.getElem_cons_zero, Act.put, List.setIfInBounds_toArray, List.set_cons_zero, List.set_cons_succ]
      refine wpAnyH_ready (rs := [33]) (by kernel_rfl) (by simp) (AllReadyH.cons rfl (fun K hK => ?_) AllReadyH.nil)
      go_simp
      (go_at_call 11; (with_reducible refine (Kin.callK (W := (Kin.wd z4)) (by repeat (first | with_reducible (first | exact blA | exact blB | refine blC _ ?_ | refine blD ?_ ?_ _ | refine blE ?_ | refine blF _ ?_ | refine blG ?_ _ | refine blH ?_ | refine blI ?_ ?_ _) | (simp only [World.size_alloc]; omega) | (simp <;> omega))) (validT_is (b := false) (n := 3) 1 true _ _ rwL _ rfl H6 (by decide))).mono ?_); rintro e w' ⟨ze, rfl, hze, rfl⟩; skip)
      refine hK.out _ _ (by repeat (first | with_reducible (first | exact blA | exact blB | refine blC _ ?_ | refine blD ?_ ?_ _ | refine blE ?_ | refine blF _ ?_ | refine blG ?_ _ | refine blH ?_ | refine blI ?_ ?_ _) | (simp only [World.size_alloc]; omega) | (simp <;> omega))) (fun hHeld2 => ?_)
      clear hK hHeld
      have hHeld := hHeld2
      clear hHeld2 K
      try simp only [List.getElem_toArray, List.getElem_cons_succ, List.getElem_cons_zero, Act.put, List.setIfInBounds_toArray, List.set_cons_zero, List.set_cons_succ]
      refine wpAnyH_take (i := 34) (v := ?_) rfl (by kernel_rfl) (by kernel_rfl) (by kernel_rfl) (fun _ _ _ h => h) (Or.inl ⟨by kernel_rfl, ?_⟩) (by assumption) ?_
      rotate_left
      · (intro w' hSw; have s0 := (hSw.cell (p := ⟨z1.1.heap.size + 1, 0, none⟩) lri).trans (g0); have s1 := (hSw.cell (p := ⟨z1.1.heap.size + 1, 1, none⟩) lri).trans (g1); have s2 := (hSw.cell (p := ⟨z1.1.heap.size + 1, 2, none⟩) lri).trans (g2); have s3 := (hSw.cell (p := ⟨z2.1.heap.size, 0, none⟩) lrw).trans (r0); have s4 := (hSw.cell (p := ⟨z2.1.heap.size, 1, none⟩) lrw).trans (r1); have s5 := (hSw.cell (p := ⟨z2.1.heap.size, 2, none⟩) lrw).trans (r2); go_simp; try with_reducible rfl)
      try simp only [List.getElem_toArray, List.getElem_cons_succ, List.getElem_cons_zero, Act.put, List.setIfInBounds_toArray, List.set_cons_zero, List.set_cons_succ]
      refine wpAnyH_take (i := 35) (v := ?_) rfl (by kernel_rfl) (by kernel_rfl) (by kernel_rfl) (fun _ _ _ h => h) (Or.inl ⟨by kernel_rfl, ?_⟩) (by assumption) ?_
      rotate_left
      · (intro w' hSw; have s0 := (hSw.cell (p := ⟨z1.1.heap.size + 1, 0, none⟩) lri).trans (g0); have s1 := (hSw.cell (p := ⟨z1.1.heap.size + 1, 1, none⟩) lri).trans (g1); have s2 := (hSw.cell (p := ⟨z1.1.heap.size + 1, 2, none⟩) lri).trans (g2); have s3 := (hSw.cell (p := ⟨z2.1.heap.size, 0, none⟩) lrw).trans (r0); have s4 := (hSw.cell (p := ⟨z2.1.heap.size, 1, none⟩) lrw).trans (r1); have s5 := (hSw.cell (p := ⟨z2.1.heap.size, 2, none⟩) lrw).trans (r2); go_simp; try with_reducible rfl)
      try simp only [List.getElem_toArray, List.getElem_cons_succ, List.getElem_cons_zero, Act.put, List.setIfInBounds_toArray, List.set_cons_zero, List.set_cons_succ]
      refine wpAnyH_take (i := 36) (v := ?_) rfl (by kernel_rfl) (by kernel_rfl) (by kernel_rfl) (fun _ _ _ h => h) (Or.inl ⟨by kernel_rfl, ?_⟩) (by assumption) ?_
      rotate_left
      · (intro w' hSw; have s0 := (hSw.cell (p := ⟨z1.1.heap.size + 1, 0, none⟩) lri).trans (g0); have s1 := (hSw.cell (p := ⟨z1.1.heap.size + 1, 1, none⟩) lri).trans (g1); have s2 := (hSw.cell (p := ⟨z1.1.heap.size + 1, 2, none⟩) lri).trans (g2); have s3 := (hSw.cell (p := ⟨z2.1.heap.size, 0, none⟩) lrw).trans (r0); have s4 := (hSw.cell (p := ⟨z2.1.heap.size, 1, none⟩) lrw).trans (r1); have s5 := (hSw.cell (p := ⟨z2.1.heap.size, 2, none⟩) lrw).trans (r2); go_simp; try with_reducible rfl)
      try simp only [List.getElem_toArray, List.getElem_cons_succ, List.getElem_cons_zero, Act.put, List.setIfInBounds_toArray, List.set_cons_zero, List.set_cons_succ]
      refine wpAnyH_done (by kernel_rfl) ?_ _
      go_wp2_with fail
      go_ret
      exact ⟨rfl, HZ.out.trans (ze.2.mono HZ.out.size)⟩
end Go.Proofs.Ytomndgjnhhchdaa
