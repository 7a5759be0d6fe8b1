/- TrackTurns: for every input the law returns true. No condition. (printed by tools/mkturn.py) -/
import Derived.Test.YtomndgjnhhchdaaTrkAwk
import Derived.Test.YtomndgjnhhchdaaTrkPure
import Derived.Test.YtomndgjnhhchdaaTrkRefs
import Derived.Test.YtomndgjnhhchdaaTrkOpen
namespace Go.Proofs.Ytomndgjnhhchdaa
set_option linter.unusedSimpArgs false
set_option linter.unusedVariables false
set_option maxRecDepth 100000
open Go.ChangeShapes Go.WideShapes Go.ChangeAt Go.RowKit Go.Joins Trk Reg
attribute [local go_sem] Kin.cell Kin.frozen Kin.lt0 Kin.lt1 Kin.lt2 Kin.lt3
theorem rev_is {r' : Int} {cl' : Bool} {l' : List Cl} {n n' : Nat} (r : Int) (cl : Bool) (A : Option Addr) (cap : Nat) (l : List Cl) (w : World) (hn : l.length = n) (h : Rd 2 encPt w (.slice A n cap) l) (ht : revT ((r, cl), l) = ((r', cl'), l')) (hn' : l'.length = n') :
    Calls Try.prog 28 #[tv r cl A n cap] w fun e w' => (∃ B c, e = .returned (tv r' cl' B n' c) ∧ Rd 2 encPt w' (.slice B n' c) l') ∧ Below w.heap.size w w' := by
  subst hn
  refine (reverse_any r cl A cap l w h).mono fun e w' ⟨⟨u, he, hu⟩, hb⟩ => ?_
  rw [ht] at hu
  obtain ⟨B, c, rfl, hr⟩ := hu
  simp only [hn'] at he hr
  exact ⟨⟨B, c, he, hr⟩, hb⟩
theorem turn_is {r' : Int} {cl' : Bool} {l' : List Cl} {n n' : Nat} (r : Int) (cl : Bool) (A : Option Addr) (cap : Nat) (l : List Cl) (i : Int) (w : World) (hi : -1099511627776 ≤ i ∧ i ≤ 1099511627776) (hn : l.length = n) (h : Rd 2 encPt w (.slice A n cap) l) (ht : turnT ((r, cl), l) i = ((r', cl'), l')) (hn' : l'.length = n') :
    Calls Try.prog 29 #[tv r cl A n cap, .int .i64 i] w fun e w' => (∃ B c, e = .returned (tv r' cl' B n' c) ∧ Rd 2 encPt w' (.slice B n' c) l') ∧ Below w.heap.size w w' := by
  subst hn
  refine (turned_any r cl A cap l i w hi h).mono fun e w' ⟨⟨u, he, hu⟩, hb⟩ => ?_
  rw [ht] at hu
  obtain ⟨B, c, rfl, hr⟩ := hu
  simp only [hn'] at he hr
  exact ⟨⟨B, c, he, hr⟩, hb⟩
theorem revR_is {r' : Int} {cl' : Bool} {l' : List Cl} {n n' : Nat} (r : Int) (cl : Bool) (A : Option Addr) (cap : Nat) (l : List Cl) (w : World) (hn : l.length = n) (h : Rd 2 encPt w (.slice A n cap) l) (ht : revT ((r, cl), l) = ((r', cl'), l')) (hn' : l'.length = n') :
    Calls Try.prog 31 #[tv r cl A n cap] w fun e w' => (∃ B c, e = .returned (tv r' cl' B n' c) ∧ Rd 2 encPt w' (.slice B n' c) l') ∧ Below w.heap.size w w' := by
  subst hn
  refine (reverse_ref r cl A cap l w h).mono fun e w' ⟨⟨u, he, hu⟩, hb⟩ => ?_
  rw [ht] at hu
  obtain ⟨B, c, rfl, hr⟩ := hu
  simp only [hn'] at he hr
  exact ⟨⟨B, c, he, hr⟩, hb⟩
theorem turnR_is {r' : Int} {cl' : Bool} {l' : List Cl} {n n' : Nat} (r : Int) (cl : Bool) (A : Option Addr) (cap : Nat) (l : List Cl) (i : Int) (w : World) (hi : -1099511627776 ≤ i ∧ i ≤ 1099511627776) (hn : l.length = n) (h : Rd 2 encPt w (.slice A n cap) l) (ht : turnT ((r, cl), l) i = ((r', cl'), l')) (hn' : l'.length = n') :
    Calls Try.prog 32 #[tv r cl A n cap, .int .i64 i] w fun e w' => (∃ B c, e = .returned (tv r' cl' B n' c) ∧ Rd 2 encPt w' (.slice B n' c) l') ∧ Below w.heap.size w w' := by
  subst hn
  refine (turned_ref r cl A cap l w i hi h).mono fun e w' ⟨⟨u, he, hu⟩, hb⟩ => ?_
  rw [ht] at hu
  obtain ⟨B, c, rfl, hr⟩ := hu
  simp only [hn'] at he hr
  exact ⟨⟨B, c, he, hr⟩, hb⟩
theorem cutT {A : Type} {F : Option Addr → Nat → Option Addr → Nat → Nat → Nat → A → Prop} {R : Option Addr → Nat → Option Addr → Nat → Nat → Nat → A → Prop} {P : Prop} (main : (∀ A1 c1 A2 c2 g5 g6 y, F A1 c1 A2 c2 g5 g6 y → R A1 c1 A2 c2 g5 g6 y) → P) (pf : ∀ A1 c1 A2 c2 g5 g6 y, F A1 c1 A2 c2 g5 g6 y → R A1 c1 A2 c2 g5 g6 y) : P := main pf
def AB (w : World) (la lb : List Cl) (na nb : Nat) (A1 : Option Addr) (c1 : Nat) (A2 : Option Addr) (c2 g5 g6 : Nat) (y : Kin w) : Prop :=
  Rd 2 encPt y.1 (.slice A1 na c1) la ∧ Rd 2 encPt y.1 (.slice A2 nb c2) lb ∧ Blk y.1 g5 24 #[.int .i64 0, .bool false, .slice none 0 0] ∧ Blk y.1 g6 24 #[.int .i64 0, .bool false, .slice none 0 0] ∧ g5 ≠ g6 ∧ w.heap.size ≤ g5 ∧ w.heap.size ≤ g6
theorem rd_ne {W : World} {v : Value} {l : List Cl} {g : Nat} {t : TypeId} {a : Int} {b : Bool} {S : Option Addr} {n c : Nat} (h : Rd 2 encPt W v l) (hb : Blk W g t #[.int .i64 a, .bool b, .slice S n c]) : l = [] ∨ v.ownBlock ≠ some g := by
  obtain ⟨A, cap, rfl, _, ho⟩ := h.open_
  cases l with
  | nil => left; rfl
  | cons x l =>
    right
    obtain ⟨p, off, rfl, _, hc⟩ := ho 0 x rfl
    intro e
    have e2 : p = g := by simpa [Value.ownBlock] using e
    subst e2
    have c0 := hc 0 x rfl 0 _ rfl
    have c1 := hc 0 x rfl 1 _ rfl
    rw [hb.cell] at c0 c1
    simp only [Nat.zero_mul, Nat.add_zero] at c0 c1
    match off with
    | 0 => simp at c1
    | 1 => simp at c0
    | 2 => simp at c0
    | off + 3 => simp at c0
theorem blk_set3 {w : World} {g : Nat} {t : TypeId} {u0 u1 u2 : Value} (h : Blk w g t #[u0, u1, u2]) (a b c : Value) : Blk (((w.setCell ⟨g, 0, none⟩ a).setCell ⟨g, 1, none⟩ b).setCell ⟨g, 2, none⟩ c) g t #[a, b, c] := ((h.set_ 0 a).set_ 1 b).set_ 2 c
theorem blk_far3 {w : World} {g p : Nat} {t : TypeId} {cs : Array Value} (h : Blk w g t cs) (hne : g ≠ p) (a b c : Value) : Blk (((w.setCell ⟨p, 0, none⟩ a).setCell ⟨p, 1, none⟩ b).setCell ⟨p, 2, none⟩ c) g t cs := ((h.far (p := ⟨p, 0, none⟩) hne a).far (p := ⟨p, 1, none⟩) hne b).far (p := ⟨p, 2, none⟩) hne c
theorem blk_set3B {w0 w : World} {B p : Nat} (h : Below B w0 w) (hp : B ≤ p) (a b c : Value) : Below B w0 (((w.setCell ⟨p, 0, none⟩ a).setCell ⟨p, 1, none⟩ b).setCell ⟨p, 2, none⟩ c) := ((h.setCell (p := ⟨p, 0, none⟩) hp a).setCell (p := ⟨p, 1, none⟩) hp b).setCell (p := ⟨p, 2, none⟩) hp c
set_option maxHeartbeats 8000000 in
theorem turns_walk (W : World) (v : Value) (h : ∃ t : Tr, RdT W v t) (v2 : Value) (h2 : ∃ i : Int, v2 = .int .i64 i ∧ i64 i) : Calls Try.prog 9 #[v, v2] W fun e W' => e = .returned (.bool true) ∧ Below W.heap.size W W' := by
  obtain ⟨⟨⟨r, cl⟩, l⟩, A, cap, rfl, hr⟩ := h
  obtain ⟨i, rfl, _⟩ := h2
  obtain ⟨n, hL⟩ : ∃ n, l.length = n := ⟨_, rfl⟩
  simp only at hr ⊢
  rw [hL] at hr ⊢
  have HL := Lib.hid hL
  have HR := Lib.hid hr
  clear hr hL
  by_cases hg : n ≤ 300 ∧ -1099511627776 ≤ i ∧ i ≤ 1099511627776
  · obtain ⟨hg, hi⟩ := hg
    have i1 : ¬ i < -1099511627776 := by omega
    have i2 : ¬ i > 1099511627776 := by omega
    have h3' : ¬ (n : Int) > 300 := by omega
    obtain ⟨⟨⟨r1, cl1⟩, l1⟩, hra⟩ : ∃ t, revT ((r, cl), l) = t := ⟨_, rfl⟩
    obtain ⟨⟨⟨r2, cl2⟩, l2⟩, hrb⟩ : ∃ t, turnT ((r, cl), l) i = t := ⟨_, rfl⟩
    obtain ⟨na, hna⟩ : ∃ n, l1.length = n := ⟨_, rfl⟩
    obtain ⟨nb, hnb⟩ : ∃ n, l2.length = n := ⟨_, rfl⟩
    have HRA := Lib.hid hra
    have HRB := Lib.hid hrb
    have HNA := Lib.hid hna
    have HNB := Lib.hid hnb
    have hna3 : na ≤ 300 := by
      rw [← hna]
      have := HL.out
      unfold revT at hra
      split at hra
      · injection hra with _ e; rw [← e]; simp only [List.length_reverse]; omega
      · injection hra with _ e; rw [← e]; simp
    have hnb3 : nb ≤ 300 := by
      rw [← hnb]
      have := HL.out
      unfold turnT at hrb
      split at hrb
      · injection hrb with _ e; rw [← e]; unfold rotL; simp only [List.length_append, List.length_drop, List.length_take]; omega
      · injection hrb with _ e; rw [← e]; simp
    clear hra hrb hna hnb
    go_enter Try.func9, Try.ntmps9
    go_wp2_with fail
    have mixed : Try.prog.follows .mixedOrders = true := by kernel_rfl
    obtain ⟨y0, hy0⟩ : ∃ y0 : Kin W, y0.1 = W.alloc (.cells #[.int .i64 r, .bool cl, .slice A n cap] 24) := ⟨⟨W.alloc _, (by repeat (first | with_reducible (first | exact blA | exact blB | refine blC _ ?_ | refine blD ?_ ?_ _ | refine blE ?_ | refine blF _ ?_ | refine blG ?_ _ | refine blH ?_ | refine blI ?_ ?_ _) | (simp only [World.size_alloc]; omega) | (simp <;> omega)))⟩, rfl⟩
    rw [← hy0]
    have B0 := Blk.new W 24 #[.int .i64 r, .bool cl, .slice A n cap]
    rw [← hy0] at B0
    have t0 : y0.1.cell? ⟨W.heap.size, 0, none⟩ = some (.int .i64 r) := B0.cell 0
    have t1 : y0.1.cell? ⟨W.heap.size, 1, none⟩ = some (.bool cl) := B0.cell 1
    have t2 : y0.1.cell? ⟨W.heap.size, 2, none⟩ = some (.slice A n cap) := B0.cell 2
    have lt := B0.lt
    have HR0 := Lib.hid (HR.out.below y0.2)
    clear hy0 B0 i1 i2 h3'
    refine wp_region_held_drew (S := fun w' => Below y0.1.heap.size y0.1 w') (by kernel_rfl) (by repeat (first | with_reducible (first | exact blA | exact blB | refine blC _ ?_ | refine blD ?_ ?_ _ | refine blE ?_ | refine blF _ ?_ | refine blG ?_ _ | refine blH ?_ | refine blI ?_ ?_ _) | (simp only [World.size_alloc]; omega) | (simp <;> omega))) (fun hHeld => ?_)
    try simp only [List.size_toArray, List.length_cons, List.length_nil, Nat.zero_add, Nat.reduceAdd, List.replicate, Array.replicate]
    refine wpAnyH_take (i := 0) (v := ?_) rfl (by kernel_rfl) (by kernel_rfl) (by kernel_rfl) (fun _ _ _ h => h) (Or.inl ⟨by kernel_rfl, ?_⟩) (by assumption) ?_
    rotate_left
    · (intro w' hSw; have s0 := (hSw.cell (p := ⟨W.heap.size, 0, none⟩) lt).trans (t0); have s1 := (hSw.cell (p := ⟨W.heap.size, 1, none⟩) lt).trans (t1); have s2 := (hSw.cell (p := ⟨W.heap.size, 2, none⟩) lt).trans (t2); go_simp; try with_reducible rfl)
    try simp only [List.getElem_toArray, List.getElem_cons_succ, List.getElem_cons_zero, Act.put, List.setIfInBounds_toArray, List.set_cons_zero, List.set_cons_succ]
    refine wpAnyH_take (i := 2) (v := ?_) rfl (by kernel_rfl) (by kernel_rfl) (by kernel_rfl) (fun _ _ _ h => h) (Or.inl ⟨by kernel_rfl, ?_⟩) (by assumption) ?_
    rotate_left
    · (intro w' hSw; have s0 := (hSw.cell (p := ⟨W.heap.size, 0, none⟩) lt).trans (t0); have s1 := (hSw.cell (p := ⟨W.heap.size, 1, none⟩) lt).trans (t1); have s2 := (hSw.cell (p := ⟨W.heap.size, 2, none⟩) lt).trans (t2); go_simp; try with_reducible rfl)
    try simp only [List.getElem_toArray, List.getElem_cons_succ, List.getElem_cons_zero, Act.put, List.setIfInBounds_toArray, List.set_cons_zero, List.set_cons_succ]
    refine wpAnyH_take (i := 3) (v := ?_) rfl (by kernel_rfl) (by kernel_rfl) (by kernel_rfl) (fun _ _ _ h => h) (Or.inl ⟨by kernel_rfl, ?_⟩) (by assumption) ?_
    rotate_left
    · (intro w' hSw; have s0 := (hSw.cell (p := ⟨W.heap.size, 0, none⟩) lt).trans (t0); have s1 := (hSw.cell (p := ⟨W.heap.size, 1, none⟩) lt).trans (t1); have s2 := (hSw.cell (p := ⟨W.heap.size, 2, none⟩) lt).trans (t2); go_simp; try with_reducible rfl)
    try simp only [List.getElem_toArray, List.getElem_cons_succ, List.getElem_cons_zero, Act.put, List.setIfInBounds_toArray, List.set_cons_zero, List.set_cons_succ]
    clear hHeld
    apply cutT (F := AB y0.1 l1 l2 na nb)
    case main =>
      intro key
      have hHeld : True := trivial
      obtain ⟨yd, hyd⟩ : ∃ yd : Kin y0.1, yd.1 = y0.1.drew := ⟨⟨y0.1.drew, Below.drew (Below.refl _ _)⟩, rfl⟩
      rw [← hyd]
      clear hyd
      refine wpAnyH_ready (rs := [1, 5, 6]) (by kernel_rfl) (by simp) (AllReadyH.cons rfl (fun K hK => ?_) (AllReadyH.cons rfl (fun K hK => ?_) (AllReadyH.cons rfl (fun K hK => ?_) AllReadyH.nil)))
      · go_simp
        (go_at_call 28; (with_reducible refine (Kin.callK (W := (Kin.wd y0)) (by repeat (first | with_reducible (first | exact blA | exact blB | refine blC _ ?_ | refine blD ?_ ?_ _ | refine blE ?_ | refine blF _ ?_ | refine blG ?_ _ | refine blH ?_ | refine blI ?_ ?_ _) | (simp only [World.size_alloc]; omega) | (simp <;> omega))) (rev_is r cl _ _ l (n := n) _ HL.out (HR0.out.below (by repeat (first | with_reducible (first | exact blA | exact blB | refine blC _ ?_ | refine blD ?_ ?_ _ | refine blE ?_ | refine blF _ ?_ | refine blG ?_ _ | refine blH ?_ | refine blI ?_ ?_ _) | (simp only [World.size_alloc]; omega) | (simp <;> omega)))) HRA.out HNA.out)).mono ?_); rintro e w' ⟨q1, ⟨A1, c1, rfl, h1⟩, hz, rfl⟩; skip)
        refine hK.out _ _ (by repeat (first | with_reducible (first | exact blA | exact blB | refine blC _ ?_ | refine blD ?_ ?_ _ | refine blE ?_ | refine blF _ ?_ | refine blG ?_ _ | refine blH ?_ | refine blI ?_ ?_ _) | (simp only [World.size_alloc]; omega) | (simp <;> omega))) (fun hHeld2 => ?_)
        clear hK hHeld
        have hHeld := hHeld2
        clear hHeld2 K
        try simp only [List.getElem_toArray, List.getElem_cons_succ, List.getElem_cons_zero, Act.put, List.setIfInBounds_toArray, List.set_cons_zero, List.set_cons_succ]
        refine wpAnyH_ready (rs := [4, 5, 6]) (by kernel_rfl) (by simp) (AllReadyH.cons rfl (fun K hK => ?_) (AllReadyH.cons rfl (fun K hK => ?_) (AllReadyH.cons rfl (fun K hK => ?_) AllReadyH.nil)))
        · go_simp
          (go_at_call 29; (with_reducible refine (Kin.callK (W := (Kin.wd y0)) (by repeat (first | with_reducible (first | exact blA | exact blB | refine blC _ ?_ | refine blD ?_ ?_ _ | refine blE ?_ | refine blF _ ?_ | refine blG ?_ _ | refine blH ?_ | refine blI ?_ ?_ _) | (simp only [World.size_alloc]; omega) | (simp <;> omega))) (turn_is r cl _ _ l i (n := n) _ hi HL.out (HR0.out.below (by repeat (first | with_reducible (first | exact blA | exact blB | refine blC _ ?_ | refine blD ?_ ?_ _ | refine blE ?_ | refine blF _ ?_ | refine blG ?_ _ | refine blH ?_ | refine blI ?_ ?_ _) | (simp only [World.size_alloc]; omega) | (simp <;> omega)))) HRB.out HNB.out)).mono ?_); rintro e w' ⟨q2, ⟨A2, c2, rfl, h2⟩, hz, rfl⟩; skip)
          replace h1 := h1.below hz
          refine hK.out _ _ (by repeat (first | with_reducible (first | exact blA | exact blB | refine blC _ ?_ | refine blD ?_ ?_ _ | refine blE ?_ | refine blF _ ?_ | refine blG ?_ _ | refine blH ?_ | refine blI ?_ ?_ _) | (simp only [World.size_alloc]; omega) | (simp <;> omega))) (fun hHeld2 => ?_)
          clear hK hHeld
          have hHeld := hHeld2
          clear hHeld2 K
          try simp only [List.getElem_toArray, List.getElem_cons_succ, List.getElem_cons_zero, Act.put, List.setIfInBounds_toArray, List.set_cons_zero, List.set_cons_succ]
          refine wpAnyH_ready (rs := [5, 6]) (by kernel_rfl) (by simp) (AllReadyH.cons rfl (fun K hK => ?_) (AllReadyH.cons rfl (fun K hK => ?_) AllReadyH.nil))
          · go_simp
            refine hK.out _ _ (by repeat (first | with_reducible (first | exact blA | exact blB | refine blC _ ?_ | refine blD ?_ ?_ _ | refine blE ?_ | refine blF _ ?_ | refine blG ?_ _ | refine blH ?_ | refine blI ?_ ?_ _) | (simp only [World.size_alloc]; omega) | (simp <;> omega))) (fun hHeld2 => ?_)
            clear hK hHeld
            have hHeld := hHeld2
            clear hHeld2 K
            try simp only [List.getElem_toArray, List.getElem_cons_succ, List.getElem_cons_zero, Act.put, List.setIfInBounds_toArray, List.set_cons_zero, List.set_cons_succ]
            obtain ⟨q3, hq⟩ : ∃ q_ : Kin y0.1, q_.1 = q2.1.alloc (.cells #[.int .i64 0, .bool false, .slice none 0 0] 24) := ⟨⟨q2.1.alloc _, (by repeat (first | with_reducible (first | exact blA | exact blB | refine blC _ ?_ | refine blD ?_ ?_ _ | refine blE ?_ | refine blF _ ?_ | refine blG ?_ _ | refine blH ?_ | refine blI ?_ ?_ _) | (simp only [World.size_alloc]; omega) | (simp <;> omega)))⟩, rfl⟩
            obtain ⟨G5, hg⟩ : ∃ g_, q2.1.heap.size = g_ := ⟨_, rfl⟩
            have b5 := Blk.new q2.1 24 #[.int .i64 0, .bool false, .slice none 0 0]
            replace h1 := h1.below (Below.alloc (Below.refl _ _) (Nat.le_refl _) (.cells #[.int .i64 0, .bool false, .slice none 0 0] 24))
            replace h2 := h2.below (Below.alloc (Below.refl _ _) (Nat.le_refl _) (.cells #[.int .i64 0, .bool false, .slice none 0 0] 24))
            have l5 : y0.1.heap.size ≤ G5 := hg ▸ q2.2.size
            rw [← hq, hg] at b5
            rw [← hq] at h1
            rw [← hq] at h2
            rw [← hq, hg]
            clear hq hg
            refine wpAnyH_ready (rs := [6]) (by kernel_rfl) (by simp) (AllReadyH.cons rfl (fun K hK => ?_) AllReadyH.nil)
            go_simp
            refine hK.out _ _ (by repeat (first | with_reducible (first | exact blA | exact blB | refine blC _ ?_ | refine blD ?_ ?_ _ | refine blE ?_ | refine blF _ ?_ | refine blG ?_ _ | refine blH ?_ | refine blI ?_ ?_ _) | (simp only [World.size_alloc]; omega) | (simp <;> omega))) (fun hHeld2 => ?_)
            clear hK hHeld
            have hHeld := hHeld2
            clear hHeld2 K
            try simp only [List.getElem_toArray, List.getElem_cons_succ, List.getElem_cons_zero, Act.put, List.setIfInBounds_toArray, List.set_cons_zero, List.set_cons_succ]
            obtain ⟨q4, hq⟩ : ∃ q_ : Kin y0.1, q_.1 = q3.1.alloc (.cells #[.int .i64 0, .bool false, .slice none 0 0] 24) := ⟨⟨q3.1.alloc _, (by repeat (first | with_reducible (first | exact blA | exact blB | refine blC _ ?_ | refine blD ?_ ?_ _ | refine blE ?_ | refine blF _ ?_ | refine blG ?_ _ | refine blH ?_ | refine blI ?_ ?_ _) | (simp only [World.size_alloc]; omega) | (simp <;> omega)))⟩, rfl⟩
            obtain ⟨G6, hg⟩ : ∃ g_, q3.1.heap.size = g_ := ⟨_, rfl⟩
            have d : G5 ≠ G6 := by have := b5.lt; omega
            have b6 := Blk.new q3.1 24 #[.int .i64 0, .bool false, .slice none 0 0]
            replace h1 := h1.below (Below.alloc (Below.refl _ _) (Nat.le_refl _) (.cells #[.int .i64 0, .bool false, .slice none 0 0] 24))
            replace h2 := h2.below (Below.alloc (Below.refl _ _) (Nat.le_refl _) (.cells #[.int .i64 0, .bool false, .slice none 0 0] 24))
            replace b5 := b5.below (Below.alloc (Below.refl _ _) (Nat.le_refl _) (.cells #[.int .i64 0, .bool false, .slice none 0 0] 24))
            have l6 : y0.1.heap.size ≤ G6 := hg ▸ q3.2.size
            rw [← hq, hg] at b6
            rw [← hq] at h1
            rw [← hq] at h2
            rw [← hq] at b5
            rw [← hq, hg]
            clear hq hg
            exact key A1 c1 A2 c2 G5 G6 q4 ⟨h1, h2, b5, b6, d, l5, l6⟩
          · go_simp
            refine hK.out _ _ (by repeat (first | with_reducible (first | exact blA | exact blB | refine blC _ ?_ | refine blD ?_ ?_ _ | refine blE ?_ | refine blF _ ?_ | refine blG ?_ _ | refine blH ?_ | refine blI ?_ ?_ _) | (simp only [World.size_alloc]; omega) | (simp <;> omega))) (fun hHeld2 => ?_)
            clear hK hHeld
            have hHeld := hHeld2
            clear hHeld2 K
            try simp only [List.getElem_toArray, List.getElem_cons_succ, List.getElem_cons_zero, Act.put, List.setIfInBounds_toArray, List.set_cons_zero, List.set_cons_succ]
            obtain ⟨q3, hq⟩ : ∃ q_ : Kin y0.1, q_.1 = q2.1.alloc (.cells #[.int .i64 0, .bool false, .slice none 0 0] 24) := ⟨⟨q2.1.alloc _, (by repeat (first | with_reducible (first | exact blA | exact blB | refine blC _ ?_ | refine blD ?_ ?_ _ | refine blE ?_ | refine blF _ ?_ | refine blG ?_ _ | refine blH ?_ | refine blI ?_ ?_ _) | (simp only [World.size_alloc]; omega) | (simp <;> omega)))⟩, rfl⟩
            obtain ⟨G6, hg⟩ : ∃ g_, q2.1.heap.size = g_ := ⟨_, rfl⟩
            have b6 := Blk.new q2.1 24 #[.int .i64 0, .bool false, .slice none 0 0]
            replace h1 := h1.below (Below.alloc (Below.refl _ _) (Nat.le_refl _) (.cells #[.int .i64 0, .bool false, .slice none 0 0] 24))
            replace h2 := h2.below (Below.alloc (Below.refl _ _) (Nat.le_refl _) (.cells #[.int .i64 0, .bool false, .slice none 0 0] 24))
            have l6 : y0.1.heap.size ≤ G6 := hg ▸ q2.2.size
            rw [← hq, hg] at b6
            rw [← hq] at h1
            rw [← hq] at h2
            rw [← hq, hg]
            clear hq hg
            refine wpAnyH_ready (rs := [5]) (by kernel_rfl) (by simp) (AllReadyH.cons rfl (fun K hK => ?_) AllReadyH.nil)
            go_simp
            refine hK.out _ _ (by repeat (first | with_reducible (first | exact blA | exact blB | refine blC _ ?_ | refine blD ?_ ?_ _ | refine blE ?_ | refine blF _ ?_ | refine blG ?_ _ | refine blH ?_ | refine blI ?_ ?_ _) | (simp only [World.size_alloc]; omega) | (simp <;> omega))) (fun hHeld2 => ?_)
            clear hK hHeld
            have hHeld := hHeld2
            clear hHeld2 K
            try simp only [List.getElem_toArray, List.getElem_cons_succ, List.getElem_cons_zero, Act.put, List.setIfInBounds_toArray, List.set_cons_zero, List.set_cons_succ]
            obtain ⟨q4, hq⟩ : ∃ q_ : Kin y0.1, q_.1 = q3.1.alloc (.cells #[.int .i64 0, .bool false, .slice none 0 0] 24) := ⟨⟨q3.1.alloc _, (by repeat (first | with_reducible (first | exact blA | exact blB | refine blC _ ?_ | refine blD ?_ ?_ _ | refine blE ?_ | refine blF _ ?_ | refine blG ?_ _ | refine blH ?_ | refine blI ?_ ?_ _) | (simp only [World.size_alloc]; omega) | (simp <;> omega)))⟩, rfl⟩
            obtain ⟨G5, hg⟩ : ∃ g_, q3.1.heap.size = g_ := ⟨_, rfl⟩
            have d : G6 ≠ G5 := by have := b6.lt; omega
            have b5 := Blk.new q3.1 24 #[.int .i64 0, .bool false, .slice none 0 0]
            replace h1 := h1.below (Below.alloc (Below.refl _ _) (Nat.le_refl _) (.cells #[.int .i64 0, .bool false, .slice none 0 0] 24))
            replace h2 := h2.below (Below.alloc (Below.refl _ _) (Nat.le_refl _) (.cells #[.int .i64 0, .bool false, .slice none 0 0] 24))
            replace b6 := b6.below (Below.alloc (Below.refl _ _) (Nat.le_refl _) (.cells #[.int .i64 0, .bool false, .slice none 0 0] 24))
            have l5 : y0.1.heap.size ≤ G5 := hg ▸ q3.2.size
            rw [← hq, hg] at b5
            rw [← hq] at h1
            rw [← hq] at h2
            rw [← hq] at b6
            rw [← hq, hg]
            clear hq hg
            exact key A1 c1 A2 c2 G5 G6 q4 ⟨h1, h2, b5, b6, (Ne.symm d), l5, l6⟩
        · go_simp
          refine hK.out _ _ (by repeat (first | with_reducible (first | exact blA | exact blB | refine blC _ ?_ | refine blD ?_ ?_ _ | refine blE ?_ | refine blF _ ?_ | refine blG ?_ _ | refine blH ?_ | refine blI ?_ ?_ _) | (simp only [World.size_alloc]; omega) | (simp <;> omega))) (fun hHeld2 => ?_)
          clear hK hHeld
          have hHeld := hHeld2
          clear hHeld2 K
          try simp only [List.getElem_toArray, List.getElem_cons_succ, List.getElem_cons_zero, Act.put, List.setIfInBounds_toArray, List.set_cons_zero, List.set_cons_succ]
          obtain ⟨q2, hq⟩ : ∃ q_ : Kin y0.1, q_.1 = q1.1.alloc (.cells #[.int .i64 0, .bool false, .slice none 0 0] 24) := ⟨⟨q1.1.alloc _, (by repeat (first | with_reducible (first | exact blA | exact blB | refine blC _ ?_ | refine blD ?_ ?_ _ | refine blE ?_ | refine blF _ ?_ | refine blG ?_ _ | refine blH ?_ | refine blI ?_ ?_ _) | (simp only [World.size_alloc]; omega) | (simp <;> omega)))⟩, rfl⟩
          obtain ⟨G5, hg⟩ : ∃ g_, q1.1.heap.size = g_ := ⟨_, rfl⟩
          have b5 := Blk.new q1.1 24 #[.int .i64 0, .bool false, .slice none 0 0]
          replace h1 := h1.below (Below.alloc (Below.refl _ _) (Nat.le_refl _) (.cells #[.int .i64 0, .bool false, .slice none 0 0] 24))
          have l5 : y0.1.heap.size ≤ G5 := hg ▸ q1.2.size
          rw [← hq, hg] at b5
          rw [← hq] at h1
          rw [← hq, hg]
          clear hq hg
          refine wpAnyH_ready (rs := [4, 6]) (by kernel_rfl) (by simp) (AllReadyH.cons rfl (fun K hK => ?_) (AllReadyH.cons rfl (fun K hK => ?_) AllReadyH.nil))
          · go_simp
            (go_at_call 29; (with_reducible refine (Kin.callK (W := (Kin.wd y0)) (by repeat (first | with_reducible (first | exact blA | exact blB | refine blC _ ?_ | refine blD ?_ ?_ _ | refine blE ?_ | refine blF _ ?_ | refine blG ?_ _ | refine blH ?_ | refine blI ?_ ?_ _) | (simp only [World.size_alloc]; omega) | (simp <;> omega))) (turn_is r cl _ _ l i (n := n) _ hi HL.out (HR0.out.below (by repeat (first | with_reducible (first | exact blA | exact blB | refine blC _ ?_ | refine blD ?_ ?_ _ | refine blE ?_ | refine blF _ ?_ | refine blG ?_ _ | refine blH ?_ | refine blI ?_ ?_ _) | (simp only [World.size_alloc]; omega) | (simp <;> omega)))) HRB.out HNB.out)).mono ?_); rintro e w' ⟨q3, ⟨A2, c2, rfl, h2⟩, hz, rfl⟩; skip)
            replace h1 := h1.below hz
            replace b5 := b5.below hz
            refine hK.out _ _ (by repeat (first | with_reducible (first | exact blA | exact blB | refine blC _ ?_ | refine blD ?_ ?_ _ | refine blE ?_ | refine blF _ ?_ | refine blG ?_ _ | refine blH ?_ | refine blI ?_ ?_ _) | (simp only [World.size_alloc]; omega) | (simp <;> omega))) (fun hHeld2 => ?_)
            clear hK hHeld
            have hHeld := hHeld2
            clear hHeld2 K
            try simp only [List.getElem_toArray, List.getElem_cons_succ, List.getElem_cons_zero, Act.put, List.setIfInBounds_toArray, List.set_cons_zero, List.set_cons_succ]
            refine wpAnyH_ready (rs := [6]) (by kernel_rfl) (by simp) (AllReadyH.cons rfl (fun K hK => ?_) AllReadyH.nil)
            go_simp
            refine hK.out _ _ (by repeat (first | with_reducible (first | exact blA | exact blB | refine blC _ ?_ | refine blD ?_ ?_ _ | refine blE ?_ | refine blF _ ?_ | refine blG ?_ _ | refine blH ?_ | refine blI ?_ ?_ _) | (simp only [World.size_alloc]; omega) | (simp <;> omega))) (fun hHeld2 => ?_)
            clear hK hHeld
            have hHeld := hHeld2
            clear hHeld2 K
            try simp only [List.getElem_toArray, List.getElem_cons_succ, List.getElem_cons_zero, Act.put, List.setIfInBounds_toArray, List.set_cons_zero, List.set_cons_succ]
            obtain ⟨q4, hq⟩ : ∃ q_ : Kin y0.1, q_.1 = q3.1.alloc (.cells #[.int .i64 0, .bool false, .slice none 0 0] 24) := ⟨⟨q3.1.alloc _, (by repeat (first | with_reducible (first | exact blA | exact blB | refine blC _ ?_ | refine blD ?_ ?_ _ | refine blE ?_ | refine blF _ ?_ | refine blG ?_ _ | refine blH ?_ | refine blI ?_ ?_ _) | (simp only [World.size_alloc]; omega) | (simp <;> omega)))⟩, rfl⟩
            obtain ⟨G6, hg⟩ : ∃ g_, q3.1.heap.size = g_ := ⟨_, rfl⟩
            have d : G5 ≠ G6 := by have := b5.lt; omega
            have b6 := Blk.new q3.1 24 #[.int .i64 0, .bool false, .slice none 0 0]
            replace h1 := h1.below (Below.alloc (Below.refl _ _) (Nat.le_refl _) (.cells #[.int .i64 0, .bool false, .slice none 0 0] 24))
            replace b5 := b5.below (Below.alloc (Below.refl _ _) (Nat.le_refl _) (.cells #[.int .i64 0, .bool false, .slice none 0 0] 24))
            replace h2 := h2.below (Below.alloc (Below.refl _ _) (Nat.le_refl _) (.cells #[.int .i64 0, .bool false, .slice none 0 0] 24))
            have l6 : y0.1.heap.size ≤ G6 := hg ▸ q3.2.size
            rw [← hq, hg] at b6
            rw [← hq] at h1
            rw [← hq] at b5
            rw [← hq] at h2
            rw [← hq, hg]
            clear hq hg
            exact key A1 c1 A2 c2 G5 G6 q4 ⟨h1, h2, b5, b6, d, l5, l6⟩
          · go_simp
            refine hK.out _ _ (by repeat (first | with_reducible (first | exact blA | exact blB | refine blC _ ?_ | refine blD ?_ ?_ _ | refine blE ?_ | refine blF _ ?_ | refine blG ?_ _ | refine blH ?_ | refine blI ?_ ?_ _) | (simp only [World.size_alloc]; omega) | (simp <;> omega))) (fun hHeld2 => ?_)
            clear hK hHeld
            have hHeld := hHeld2
            clear hHeld2 K
            try simp only [List.getElem_toArray, List.getElem_cons_succ, List.getElem_cons_zero, Act.put, List.setIfInBounds_toArray, List.set_cons_zero, List.set_cons_succ]
            obtain ⟨q3, hq⟩ : ∃ q_ : Kin y0.1, q_.1 = q2.1.alloc (.cells #[.int .i64 0, .bool false, .slice none 0 0] 24) := ⟨⟨q2.1.alloc _, (by repeat (first | with_reducible (first | exact blA | exact blB | refine blC _ ?_ | refine blD ?_ ?_ _ | refine blE ?_ | refine blF _ ?_ | refine blG ?_ _ | refine blH ?_ | refine blI ?_ ?_ _) | (simp only [World.size_alloc]; omega) | (simp <;> omega)))⟩, rfl⟩
            obtain ⟨G6, hg⟩ : ∃ g_, q2.1.heap.size = g_ := ⟨_, rfl⟩
            have d : G5 ≠ G6 := by have := b5.lt; omega
            have b6 := Blk.new q2.1 24 #[.int .i64 0, .bool false, .slice none 0 0]
            replace h1 := h1.below (Below.alloc (Below.refl _ _) (Nat.le_refl _) (.cells #[.int .i64 0, .bool false, .slice none 0 0] 24))
            replace b5 := b5.below (Below.alloc (Below.refl _ _) (Nat.le_refl _) (.cells #[.int .i64 0, .bool false, .slice none 0 0] 24))
            have l6 : y0.1.heap.size ≤ G6 := hg ▸ q2.2.size
            rw [← hq, hg] at b6
            rw [← hq] at h1
            rw [← hq] at b5
            rw [← hq, hg]
            clear hq hg
            refine wpAnyH_ready (rs := [4]) (by kernel_rfl) (by simp) (AllReadyH.cons rfl (fun K hK => ?_) AllReadyH.nil)
            go_simp
            (go_at_call 29; (with_reducible refine (Kin.callK (W := (Kin.wd y0)) (by repeat (first | with_reducible (first | exact blA | exact blB | refine blC _ ?_ | refine blD ?_ ?_ _ | refine blE ?_ | refine blF _ ?_ | refine blG ?_ _ | refine blH ?_ | refine blI ?_ ?_ _) | (simp only [World.size_alloc]; omega) | (simp <;> omega))) (turn_is r cl _ _ l i (n := n) _ hi HL.out (HR0.out.below (by repeat (first | with_reducible (first | exact blA | exact blB | refine blC _ ?_ | refine blD ?_ ?_ _ | refine blE ?_ | refine blF _ ?_ | refine blG ?_ _ | refine blH ?_ | refine blI ?_ ?_ _) | (simp only [World.size_alloc]; omega) | (simp <;> omega)))) HRB.out HNB.out)).mono ?_); rintro e w' ⟨q4, ⟨A2, c2, rfl, h2⟩, hz, rfl⟩; skip)
            replace h1 := h1.below hz
            replace b5 := b5.below hz
            replace b6 := b6.below hz
            refine hK.out _ _ (by repeat (first | with_reducible (first | exact blA | exact blB | refine blC _ ?_ | refine blD ?_ ?_ _ | refine blE ?_ | refine blF _ ?_ | refine blG ?_ _ | refine blH ?_ | refine blI ?_ ?_ _) | (simp only [World.size_alloc]; omega) | (simp <;> omega))) (fun hHeld2 => ?_)
            clear hK hHeld
            have hHeld := hHeld2
            clear hHeld2 K
            try simp only [List.getElem_toArray, List.getElem_cons_succ, List.getElem_cons_zero, Act.put, List.setIfInBounds_toArray, List.set_cons_zero, List.set_cons_succ]
            exact key A1 c1 A2 c2 G5 G6 q4 ⟨h1, h2, b5, b6, d, l5, l6⟩
        · go_simp
          refine hK.out _ _ (by repeat (first | with_reducible (first | exact blA | exact blB | refine blC _ ?_ | refine blD ?_ ?_ _ | refine blE ?_ | refine blF _ ?_ | refine blG ?_ _ | refine blH ?_ | refine blI ?_ ?_ _) | (simp only [World.size_alloc]; omega) | (simp <;> omega))) (fun hHeld2 => ?_)
          clear hK hHeld
          have hHeld := hHeld2
          clear hHeld2 K
          try simp only [List.getElem_toArray, List.getElem_cons_succ, List.getElem_cons_zero, Act.put, List.setIfInBounds_toArray, List.set_cons_zero, List.set_cons_succ]
          obtain ⟨q2, hq⟩ : ∃ q_ : Kin y0.1, q_.1 = q1.1.alloc (.cells #[.int .i64 0, .bool false, .slice none 0 0] 24) := ⟨⟨q1.1.alloc _, (by repeat (first | with_reducible (first | exact blA | exact blB | refine blC _ ?_ | refine blD ?_ ?_ _ | refine blE ?_ | refine blF _ ?_ | refine blG ?_ _ | refine blH ?_ | refine blI ?_ ?_ _) | (simp only [World.size_alloc]; omega) | (simp <;> omega)))⟩, rfl⟩
          obtain ⟨G6, hg⟩ : ∃ g_, q1.1.heap.size = g_ := ⟨_, rfl⟩
          have b6 := Blk.new q1.1 24 #[.int .i64 0, .bool false, .slice none 0 0]
          replace h1 := h1.below (Below.alloc (Below.refl _ _) (Nat.le_refl _) (.cells #[.int .i64 0, .bool false, .slice none 0 0] 24))
          have l6 : y0.1.heap.size ≤ G6 := hg ▸ q1.2.size
          rw [← hq, hg] at b6
          rw [← hq] at h1
          rw [← hq, hg]
          clear hq hg
          refine wpAnyH_ready (rs := [4, 5]) (by kernel_rfl) (by simp) (AllReadyH.cons rfl (fun K hK => ?_) (AllReadyH.cons rfl (fun K hK => ?_) AllReadyH.nil))
          · go_simp
            (go_at_call 29; (with_reducible refine (Kin.callK (W := (Kin.wd y0)) (by repeat (first | with_reducible (first | exact blA | exact blB | refine blC _ ?_ | refine blD ?_ ?_ _ | refine blE ?_ | refine blF _ ?_ | refine blG ?_ _ | refine blH ?_ | refine blI ?_ ?_ _) | (simp only [World.size_alloc]; omega) | (simp <;> omega))) (turn_is r cl _ _ l i (n := n) _ hi HL.out (HR0.out.below (by repeat (first | with_reducible (first | exact blA | exact blB | refine blC _ ?_ | refine blD ?_ ?_ _ | refine blE ?_ | refine blF _ ?_ | refine blG ?_ _ | refine blH ?_ | refine blI ?_ ?_ _) | (simp only [World.size_alloc]; omega) | (simp <;> omega)))) HRB.out HNB.out)).mono ?_); rintro e w' ⟨q3, ⟨A2, c2, rfl, h2⟩, hz, rfl⟩; skip)
            replace h1 := h1.below hz
            replace b6 := b6.below hz
            refine hK.out _ _ (by repeat (first | with_reducible (first | exact blA | exact blB | refine blC _ ?_ | refine blD ?_ ?_ _ | refine blE ?_ | refine blF _ ?_ | refine blG ?_ _ | refine blH ?_ | refine blI ?_ ?_ _) | (simp only [World.size_alloc]; omega) | (simp <;> omega))) (fun hHeld2 => ?_)
            clear hK hHeld
            have hHeld := hHeld2
            clear hHeld2 K
            try simp only [List.getElem_toArray, List.getElem_cons_succ, List.getElem_cons_zero, Act.put, List.setIfInBounds_toArray, List.set_cons_zero, List.set_cons_succ]
            refine wpAnyH_ready (rs := [5]) (by kernel_rfl) (by simp) (AllReadyH.cons rfl (fun K hK => ?_) AllReadyH.nil)
            go_simp
            refine hK.out _ _ (by repeat (first | with_reducible (first | exact blA | exact blB | refine blC _ ?_ | refine blD ?_ ?_ _ | refine blE ?_ | refine blF _ ?_ | refine blG ?_ _ | refine blH ?_ | refine blI ?_ ?_ _) | (simp only [World.size_alloc]; omega) | (simp <;> omega))) (fun hHeld2 => ?_)
            clear hK hHeld
            have hHeld := hHeld2
            clear hHeld2 K
            try simp only [List.getElem_toArray, List.getElem_cons_succ, List.getElem_cons_zero, Act.put, List.setIfInBounds_toArray, List.set_cons_zero, List.set_cons_succ]
            obtain ⟨q4, hq⟩ : ∃ q_ : Kin y0.1, q_.1 = q3.1.alloc (.cells #[.int .i64 0, .bool false, .slice none 0 0] 24) := ⟨⟨q3.1.alloc _, (by repeat (first | with_reducible (first | exact blA | exact blB | refine blC _ ?_ | refine blD ?_ ?_ _ | refine blE ?_ | refine blF _ ?_ | refine blG ?_ _ | refine blH ?_ | refine blI ?_ ?_ _) | (simp only [World.size_alloc]; omega) | (simp <;> omega)))⟩, rfl⟩
            obtain ⟨G5, hg⟩ : ∃ g_, q3.1.heap.size = g_ := ⟨_, rfl⟩
            have d : G6 ≠ G5 := by have := b6.lt; omega
            have b5 := Blk.new q3.1 24 #[.int .i64 0, .bool false, .slice none 0 0]
            replace h1 := h1.below (Below.alloc (Below.refl _ _) (Nat.le_refl _) (.cells #[.int .i64 0, .bool false, .slice none 0 0] 24))
            replace b6 := b6.below (Below.alloc (Below.refl _ _) (Nat.le_refl _) (.cells #[.int .i64 0, .bool false, .slice none 0 0] 24))
            replace h2 := h2.below (Below.alloc (Below.refl _ _) (Nat.le_refl _) (.cells #[.int .i64 0, .bool false, .slice none 0 0] 24))
            have l5 : y0.1.heap.size ≤ G5 := hg ▸ q3.2.size
            rw [← hq, hg] at b5
            rw [← hq] at h1
            rw [← hq] at b6
            rw [← hq] at h2
            rw [← hq, hg]
            clear hq hg
            exact key A1 c1 A2 c2 G5 G6 q4 ⟨h1, h2, b5, b6, (Ne.symm d), l5, l6⟩
          · go_simp
            refine hK.out _ _ (by repeat (first | with_reducible (first | exact blA | exact blB | refine blC _ ?_ | refine blD ?_ ?_ _ | refine blE ?_ | refine blF _ ?_ | refine blG ?_ _ | refine blH ?_ | refine blI ?_ ?_ _) | (simp only [World.size_alloc]; omega) | (simp <;> omega))) (fun hHeld2 => ?_)
            clear hK hHeld
            have hHeld := hHeld2
            clear hHeld2 K
            try simp only [List.getElem_toArray, List.getElem_cons_succ, List.getElem_cons_zero, Act.put, List.setIfInBounds_toArray, List.set_cons_zero, List.set_cons_succ]
            obtain ⟨q3, hq⟩ : ∃ q_ : Kin y0.1, q_.1 = q2.1.alloc (.cells #[.int .i64 0, .bool false, .slice none 0 0] 24) := ⟨⟨q2.1.alloc _, (by repeat (first | with_reducible (first | exact blA | exact blB | refine blC _ ?_ | refine blD ?_ ?_ _ | refine blE ?_ | refine blF _ ?_ | refine blG ?_ _ | refine blH ?_ | refine blI ?_ ?_ _) | (simp only [World.size_alloc]; omega) | (simp <;> omega)))⟩, rfl⟩
            obtain ⟨G5, hg⟩ : ∃ g_, q2.1.heap.size = g_ := ⟨_, rfl⟩
            have d : G6 ≠ G5 := by have := b6.lt; omega
            have b5 := Blk.new q2.1 24 #[.int .i64 0, .bool false, .slice none 0 0]
            replace h1 := h1.below (Below.alloc (Below.refl _ _) (Nat.le_refl _) (.cells #[.int .i64 0, .bool false, .slice none 0 0] 24))
            replace b6 := b6.below (Below.alloc (Below.refl _ _) (Nat.le_refl _) (.cells #[.int .i64 0, .bool false, .slice none 0 0] 24))
            have l5 : y0.1.heap.size ≤ G5 := hg ▸ q2.2.size
            rw [← hq, hg] at b5
            rw [← hq] at h1
            rw [← hq] at b6
            rw [← hq, hg]
            clear hq hg
            refine wpAnyH_ready (rs := [4]) (by kernel_rfl) (by simp) (AllReadyH.cons rfl (fun K hK => ?_) AllReadyH.nil)
            go_simp
            (go_at_call 29; (with_reducible refine (Kin.callK (W := (Kin.wd y0)) (by repeat (first | with_reducible (first | exact blA | exact blB | refine blC _ ?_ | refine blD ?_ ?_ _ | refine blE ?_ | refine blF _ ?_ | refine blG ?_ _ | refine blH ?_ | refine blI ?_ ?_ _) | (simp only [World.size_alloc]; omega) | (simp <;> omega))) (turn_is r cl _ _ l i (n := n) _ hi HL.out (HR0.out.below (by repeat (first | with_reducible (first | exact blA | exact blB | refine blC _ ?_ | refine blD ?_ ?_ _ | refine blE ?_ | refine blF _ ?_ | refine blG ?_ _ | refine blH ?_ | refine blI ?_ ?_ _) | (simp only [World.size_alloc]; omega) | (simp <;> omega)))) HRB.out HNB.out)).mono ?_); rintro e w' ⟨q4, ⟨A2, c2, rfl, h2⟩, hz, rfl⟩; skip)
            replace h1 := h1.below hz
            replace b6 := b6.below hz
            replace b5 := b5.below hz
            refine hK.out _ _ (by repeat (first | with_reducible (first | exact blA | exact blB | refine blC _ ?_ | refine blD ?_ ?_ _ | refine blE ?_ | refine blF _ ?_ | refine blG ?_ _ | refine blH ?_ | refine blI ?_ ?_ _) | (simp only [World.size_alloc]; omega) | (simp <;> omega))) (fun hHeld2 => ?_)
            clear hK hHeld
            have hHeld := hHeld2
            clear hHeld2 K
            try simp only [List.getElem_toArray, List.getElem_cons_succ, List.getElem_cons_zero, Act.put, List.setIfInBounds_toArray, List.set_cons_zero, List.set_cons_succ]
            exact key A1 c1 A2 c2 G5 G6 q4 ⟨h1, h2, b5, b6, (Ne.symm d), l5, l6⟩
      · go_simp
        refine hK.out _ _ (by repeat (first | with_reducible (first | exact blA | exact blB | refine blC _ ?_ | refine blD ?_ ?_ _ | refine blE ?_ | refine blF _ ?_ | refine blG ?_ _ | refine blH ?_ | refine blI ?_ ?_ _) | (simp only [World.size_alloc]; omega) | (simp <;> omega))) (fun hHeld2 => ?_)
        clear hK hHeld
        have hHeld := hHeld2
        clear hHeld2 K
        try simp only [List.getElem_toArray, List.getElem_cons_succ, List.getElem_cons_zero, Act.put, List.setIfInBounds_toArray, List.set_cons_zero, List.set_cons_succ]
        obtain ⟨q1, hq⟩ : ∃ q_ : Kin y0.1, q_.1 = yd.1.alloc (.cells #[.int .i64 0, .bool false, .slice none 0 0] 24) := ⟨⟨yd.1.alloc _, (by repeat (first | with_reducible (first | exact blA | exact blB | refine blC _ ?_ | refine blD ?_ ?_ _ | refine blE ?_ | refine blF _ ?_ | refine blG ?_ _ | refine blH ?_ | refine blI ?_ ?_ _) | (simp only [World.size_alloc]; omega) | (simp <;> omega)))⟩, rfl⟩
        obtain ⟨G5, hg⟩ : ∃ g_, yd.1.heap.size = g_ := ⟨_, rfl⟩
        have b5 := Blk.new yd.1 24 #[.int .i64 0, .bool false, .slice none 0 0]
        have l5 : y0.1.heap.size ≤ G5 := hg ▸ yd.2.size
        rw [← hq, hg] at b5
        rw [← hq, hg]
        clear hq hg
        refine wpAnyH_ready (rs := [1, 6]) (by kernel_rfl) (by simp) (AllReadyH.cons rfl (fun K hK => ?_) (AllReadyH.cons rfl (fun K hK => ?_) AllReadyH.nil))
        · go_simp
          (go_at_call 28; (with_reducible refine (Kin.callK (W := (Kin.wd y0)) (by repeat (first | with_reducible (first | exact blA | exact blB | refine blC _ ?_ | refine blD ?_ ?_ _ | refine blE ?_ | refine blF _ ?_ | refine blG ?_ _ | refine blH ?_ | refine blI ?_ ?_ _) | (simp only [World.size_alloc]; omega) | (simp <;> omega))) (rev_is r cl _ _ l (n := n) _ HL.out (HR0.out.below (by repeat (first | with_reducible (first | exact blA | exact blB | refine blC _ ?_ | refine blD ?_ ?_ _ | refine blE ?_ | refine blF _ ?_ | refine blG ?_ _ | refine blH ?_ | refine blI ?_ ?_ _) | (simp only [World.size_alloc]; omega) | (simp <;> omega)))) HRA.out HNA.out)).mono ?_); rintro e w' ⟨q2, ⟨A1, c1, rfl, h1⟩, hz, rfl⟩; skip)
          replace b5 := b5.below hz
          refine hK.out _ _ (by repeat (first | with_reducible (first | exact blA | exact blB | refine blC _ ?_ | refine blD ?_ ?_ _ | refine blE ?_ | refine blF _ ?_ | refine blG ?_ _ | refine blH ?_ | refine blI ?_ ?_ _) | (simp only [World.size_alloc]; omega) | (simp <;> omega))) (fun hHeld2 => ?_)
          clear hK hHeld
          have hHeld := hHeld2
          clear hHeld2 K
          try simp only [List.getElem_toArray, List.getElem_cons_succ, List.getElem_cons_zero, Act.put, List.setIfInBounds_toArray, List.set_cons_zero, List.set_cons_succ]
          refine wpAnyH_ready (rs := [4, 6]) (by kernel_rfl) (by simp) (AllReadyH.cons rfl (fun K hK => ?_) (AllReadyH.cons rfl (fun K hK => ?_) AllReadyH.nil))
          · go_simp
            (go_at_call 29; (with_reducible refine (Kin.callK (W := (Kin.wd y0)) (by repeat (first | with_reducible (first | exact blA | exact blB | refine blC _ ?_ | refine blD ?_ ?_ _ | refine blE ?_ | refine blF _ ?_ | refine blG ?_ _ | refine blH ?_ | refine blI ?_ ?_ _) | (simp only [World.size_alloc]; omega) | (simp <;> omega))) (turn_is r cl _ _ l i (n := n) _ hi HL.out (HR0.out.below (by repeat (first | with_reducible (first | exact blA | exact blB | refine blC _ ?_ | refine blD ?_ ?_ _ | refine blE ?_ | refine blF _ ?_ | refine blG ?_ _ | refine blH ?_ | refine blI ?_ ?_ _) | (simp only [World.size_alloc]; omega) | (simp <;> omega)))) HRB.out HNB.out)).mono ?_); rintro e w' ⟨q3, ⟨A2, c2, rfl, h2⟩, hz, rfl⟩; skip)
            replace b5 := b5.below hz
            replace h1 := h1.below hz
            refine hK.out _ _ (by repeat (first | with_reducible (first | exact blA | exact blB | refine blC _ ?_ | refine blD ?_ ?_ _ | refine blE ?_ | refine blF _ ?_ | refine blG ?_ _ | refine blH ?_ | refine blI ?_ ?_ _) | (simp only [World.size_alloc]; omega) | (simp <;> omega))) (fun hHeld2 => ?_)
            clear hK hHeld
            have hHeld := hHeld2
            clear hHeld2 K
            try simp only [List.getElem_toArray, List.getElem_cons_succ, List.getElem_cons_zero, Act.put, List.setIfInBounds_toArray, List.set_cons_zero, List.set_cons_succ]
            refine wpAnyH_ready (rs := [6]) (by kernel_rfl) (by simp) (AllReadyH.cons rfl (fun K hK => ?_) AllReadyH.nil)
            go_simp
            refine hK.out _ _ (by repeat (first | with_reducible (first | exact blA | exact blB | refine blC _ ?_ | refine blD ?_ ?_ _ | refine blE ?_ | refine blF _ ?_ | refine blG ?_ _ | refine blH ?_ | refine blI ?_ ?_ _) | (simp only [World.size_alloc]; omega) | (simp <;> omega))) (fun hHeld2 => ?_)
            clear hK hHeld
            have hHeld := hHeld2
            clear hHeld2 K
            try simp only [List.getElem_toArray, List.getElem_cons_succ, List.getElem_cons_zero, Act.put, List.setIfInBounds_toArray, List.set_cons_zero, List.set_cons_succ]
            obtain ⟨q4, hq⟩ : ∃ q_ : Kin y0.1, q_.1 = q3.1.alloc (.cells #[.int .i64 0, .bool false, .slice none 0 0] 24) := ⟨⟨q3.1.alloc _, (by repeat (first | with_reducible (first | exact blA | exact blB | refine blC _ ?_ | refine blD ?_ ?_ _ | refine blE ?_ | refine blF _ ?_ | refine blG ?_ _ | refine blH ?_ | refine blI ?_ ?_ _) | (simp only [World.size_alloc]; omega) | (simp <;> omega)))⟩, rfl⟩
            obtain ⟨G6, hg⟩ : ∃ g_, q3.1.heap.size = g_ := ⟨_, rfl⟩
            have d : G5 ≠ G6 := by have := b5.lt; omega
            have b6 := Blk.new q3.1 24 #[.int .i64 0, .bool false, .slice none 0 0]
            replace b5 := b5.below (Below.alloc (Below.refl _ _) (Nat.le_refl _) (.cells #[.int .i64 0, .bool false, .slice none 0 0] 24))
            replace h1 := h1.below (Below.alloc (Below.refl _ _) (Nat.le_refl _) (.cells #[.int .i64 0, .bool false, .slice none 0 0] 24))
            replace h2 := h2.below (Below.alloc (Below.refl _ _) (Nat.le_refl _) (.cells #[.int .i64 0, .bool false, .slice none 0 0] 24))
            have l6 : y0.1.heap.size ≤ G6 := hg ▸ q3.2.size
            rw [← hq, hg] at b6
            rw [← hq] at b5
            rw [← hq] at h1
            rw [← hq] at h2
            rw [← hq, hg]
            clear hq hg
            exact key A1 c1 A2 c2 G5 G6 q4 ⟨h1, h2, b5, b6, d, l5, l6⟩
          · go_simp
            refine hK.out _ _ (by repeat (first | with_reducible (first | exact blA | exact blB | refine blC _ ?_ | refine blD ?_ ?_ _ | refine blE ?_ | refine blF _ ?_ | refine blG ?_ _ | refine blH ?_ | refine blI ?_ ?_ _) | (simp only [World.size_alloc]; omega) | (simp <;> omega))) (fun hHeld2 => ?_)
            clear hK hHeld
            have hHeld := hHeld2
            clear hHeld2 K
            try simp only [List.getElem_toArray, List.getElem_cons_succ, List.getElem_cons_zero, Act.put, List.setIfInBounds_toArray, List.set_cons_zero, List.set_cons_succ]
            obtain ⟨q3, hq⟩ : ∃ q_ : Kin y0.1, q_.1 = q2.1.alloc (.cells #[.int .i64 0, .bool false, .slice none 0 0] 24) := ⟨⟨q2.1.alloc _, (by repeat (first | with_reducible (first | exact blA | exact blB | refine blC _ ?_ | refine blD ?_ ?_ _ | refine blE ?_ | refine blF _ ?_ | refine blG ?_ _ | refine blH ?_ | refine blI ?_ ?_ _) | (simp only [World.size_alloc]; omega) | (simp <;> omega)))⟩, rfl⟩
            obtain ⟨G6, hg⟩ : ∃ g_, q2.1.heap.size = g_ := ⟨_, rfl⟩
            have d : G5 ≠ G6 := by have := b5.lt; omega
            have b6 := Blk.new q2.1 24 #[.int .i64 0, .bool false, .slice none 0 0]
            replace b5 := b5.below (Below.alloc (Below.refl _ _) (Nat.le_refl _) (.cells #[.int .i64 0, .bool false, .slice none 0 0] 24))
            replace h1 := h1.below (Below.alloc (Below.refl _ _) (Nat.le_refl _) (.cells #[.int .i64 0, .bool false, .slice none 0 0] 24))
            have l6 : y0.1.heap.size ≤ G6 := hg ▸ q2.2.size
            rw [← hq, hg] at b6
            rw [← hq] at b5
            rw [← hq] at h1
            rw [← hq, hg]
            clear hq hg
            refine wpAnyH_ready (rs := [4]) (by kernel_rfl) (by simp) (AllReadyH.cons rfl (fun K hK => ?_) AllReadyH.nil)
            go_simp
            (go_at_call 29; (with_reducible refine (Kin.callK (W := (Kin.wd y0)) (by repeat (first | with_reducible (first | exact blA | exact blB | refine blC _ ?_ | refine blD ?_ ?_ _ | refine blE ?_ | refine blF _ ?_ | refine blG ?_ _ | refine blH ?_ | refine blI ?_ ?_ _) | (simp only [World.size_alloc]; omega) | (simp <;> omega))) (turn_is r cl _ _ l i (n := n) _ hi HL.out (HR0.out.below (by repeat (first | with_reducible (first | exact blA | exact blB | refine blC _ ?_ | refine blD ?_ ?_ _ | refine blE ?_ | refine blF _ ?_ | refine blG ?_ _ | refine blH ?_ | refine blI ?_ ?_ _) | (simp only [World.size_alloc]; omega) | (simp <;> omega)))) HRB.out HNB.out)).mono ?_); rintro e w' ⟨q4, ⟨A2, c2, rfl, h2⟩, hz, rfl⟩; skip)
            replace b5 := b5.below hz
            replace h1 := h1.below hz
            replace b6 := b6.below hz
            refine hK.out _ _ (by repeat (first | with_reducible (first | exact blA | exact blB | refine blC _ ?_ | refine blD ?_ ?_ _ | refine blE ?_ | refine blF _ ?_ | refine blG ?_ _ | refine blH ?_ | refine blI ?_ ?_ _) | (simp only [World.size_alloc]; omega) | (simp <;> omega))) (fun hHeld2 => ?_)
            clear hK hHeld
            have hHeld := hHeld2
            clear hHeld2 K
            try simp only [List.getElem_toArray, List.getElem_cons_succ, List.getElem_cons_zero, Act.put, List.setIfInBounds_toArray, List.set_cons_zero, List.set_cons_succ]
            exact key A1 c1 A2 c2 G5 G6 q4 ⟨h1, h2, b5, b6, d, l5, l6⟩
        · go_simp
          refine hK.out _ _ (by repeat (first | with_reducible (first | exact blA | exact blB | refine blC _ ?_ | refine blD ?_ ?_ _ | refine blE ?_ | refine blF _ ?_ | refine blG ?_ _ | refine blH ?_ | refine blI ?_ ?_ _) | (simp only [World.size_alloc]; omega) | (simp <;> omega))) (fun hHeld2 => ?_)
          clear hK hHeld
          have hHeld := hHeld2
          clear hHeld2 K
          try simp only [List.getElem_toArray, List.getElem_cons_succ, List.getElem_cons_zero, Act.put, List.setIfInBounds_toArray, List.set_cons_zero, List.set_cons_succ]
          obtain ⟨q2, hq⟩ : ∃ q_ : Kin y0.1, q_.1 = q1.1.alloc (.cells #[.int .i64 0, .bool false, .slice none 0 0] 24) := ⟨⟨q1.1.alloc _, (by repeat (first | with_reducible (first | exact blA | exact blB | refine blC _ ?_ | refine blD ?_ ?_ _ | refine blE ?_ | refine blF _ ?_ | refine blG ?_ _ | refine blH ?_ | refine blI ?_ ?_ _) | (simp only [World.size_alloc]; omega) | (simp <;> omega)))⟩, rfl⟩
          obtain ⟨G6, hg⟩ : ∃ g_, q1.1.heap.size = g_ := ⟨_, rfl⟩
          have d : G5 ≠ G6 := by have := b5.lt; omega
          have b6 := Blk.new q1.1 24 #[.int .i64 0, .bool false, .slice none 0 0]
          replace b5 := b5.below (Below.alloc (Below.refl _ _) (Nat.le_refl _) (.cells #[.int .i64 0, .bool false, .slice none 0 0] 24))
          have l6 : y0.1.heap.size ≤ G6 := hg ▸ q1.2.size
          rw [← hq, hg] at b6
          rw [← hq] at b5
          rw [← hq, hg]
          clear hq hg
          refine wpAnyH_ready (rs := [1]) (by kernel_rfl) (by simp) (AllReadyH.cons rfl (fun K hK => ?_) AllReadyH.nil)
          go_simp
          (go_at_call 28; (with_reducible refine (Kin.callK (W := (Kin.wd y0)) (by repeat (first | with_reducible (first | exact blA | exact blB | refine blC _ ?_ | refine blD ?_ ?_ _ | refine blE ?_ | refine blF _ ?_ | refine blG ?_ _ | refine blH ?_ | refine blI ?_ ?_ _) | (simp only [World.size_alloc]; omega) | (simp <;> omega))) (rev_is r cl _ _ l (n := n) _ HL.out (HR0.out.below (by repeat (first | with_reducible (first | exact blA | exact blB | refine blC _ ?_ | refine blD ?_ ?_ _ | refine blE ?_ | refine blF _ ?_ | refine blG ?_ _ | refine blH ?_ | refine blI ?_ ?_ _) | (simp only [World.size_alloc]; omega) | (simp <;> omega)))) HRA.out HNA.out)).mono ?_); rintro e w' ⟨q3, ⟨A1, c1, rfl, h1⟩, hz, rfl⟩; skip)
          replace b5 := b5.below hz
          replace b6 := b6.below hz
          refine hK.out _ _ (by repeat (first | with_reducible (first | exact blA | exact blB | refine blC _ ?_ | refine blD ?_ ?_ _ | refine blE ?_ | refine blF _ ?_ | refine blG ?_ _ | refine blH ?_ | refine blI ?_ ?_ _) | (simp only [World.size_alloc]; omega) | (simp <;> omega))) (fun hHeld2 => ?_)
          clear hK hHeld
          have hHeld := hHeld2
          clear hHeld2 K
          try simp only [List.getElem_toArray, List.getElem_cons_succ, List.getElem_cons_zero, Act.put, List.setIfInBounds_toArray, List.set_cons_zero, List.set_cons_succ]
          refine wpAnyH_ready (rs := [4]) (by kernel_rfl) (by simp) (AllReadyH.cons rfl (fun K hK => ?_) AllReadyH.nil)
          go_simp
          (go_at_call 29; (with_reducible refine (Kin.callK (W := (Kin.wd y0)) (by repeat (first | with_reducible (first | exact blA | exact blB | refine blC _ ?_ | refine blD ?_ ?_ _ | refine blE ?_ | refine blF _ ?_ | refine blG ?_ _ | refine blH ?_ | refine blI ?_ ?_ _) | (simp only [World.size_alloc]; omega) | (simp <;> omega))) (turn_is r cl _ _ l i (n := n) _ hi HL.out (HR0.out.below (by repeat (first | with_reducible (first | exact blA | exact blB | refine blC _ ?_ | refine blD ?_ ?_ _ | refine blE ?_ | refine blF _ ?_ | refine blG ?_ _ | refine blH ?_ | refine blI ?_ ?_ _) | (simp only [World.size_alloc]; omega) | (simp <;> omega)))) HRB.out HNB.out)).mono ?_); rintro e w' ⟨q4, ⟨A2, c2, rfl, h2⟩, hz, rfl⟩; skip)
          replace b5 := b5.below hz
          replace b6 := b6.below hz
          replace h1 := h1.below hz
          refine hK.out _ _ (by repeat (first | with_reducible (first | exact blA | exact blB | refine blC _ ?_ | refine blD ?_ ?_ _ | refine blE ?_ | refine blF _ ?_ | refine blG ?_ _ | refine blH ?_ | refine blI ?_ ?_ _) | (simp only [World.size_alloc]; omega) | (simp <;> omega))) (fun hHeld2 => ?_)
          clear hK hHeld
          have hHeld := hHeld2
          clear hHeld2 K
          try simp only [List.getElem_toArray, List.getElem_cons_succ, List.getElem_cons_zero, Act.put, List.setIfInBounds_toArray, List.set_cons_zero, List.set_cons_succ]
          exact key A1 c1 A2 c2 G5 G6 q4 ⟨h1, h2, b5, b6, d, l5, l6⟩
      · go_simp
        refine hK.out _ _ (by repeat (first | with_reducible (first | exact blA | exact blB | refine blC _ ?_ | refine blD ?_ ?_ _ | refine blE ?_ | refine blF _ ?_ | refine blG ?_ _ | refine blH ?_ | refine blI ?_ ?_ _) | (simp only [World.size_alloc]; omega) | (simp <;> omega))) (fun hHeld2 => ?_)
        clear hK hHeld
        have hHeld := hHeld2
        clear hHeld2 K
        try simp only [List.getElem_toArray, List.getElem_cons_succ, List.getElem_cons_zero, Act.put, List.setIfInBounds_toArray, List.set_cons_zero, List.set_cons_succ]
        obtain ⟨q1, hq⟩ : ∃ q_ : Kin y0.1, q_.1 = yd.1.alloc (.cells #[.int .i64 0, .bool false, .slice none 0 0] 24) := ⟨⟨yd.1.alloc _, (by repeat (first | with_reducible (first | exact blA | exact blB | refine blC _ ?_ | refine blD ?_ ?_ _ | refine blE ?_ | refine blF _ ?_ | refine blG ?_ _ | refine blH ?_ | refine blI ?_ ?_ _) | (simp only [World.size_alloc]; omega) | (simp <;> omega)))⟩, rfl⟩
        obtain ⟨G6, hg⟩ : ∃ g_, yd.1.heap.size = g_ := ⟨_, rfl⟩
        have b6 := Blk.new yd.1 24 #[.int .i64 0, .bool false, .slice none 0 0]
        have l6 : y0.1.heap.size ≤ G6 := hg ▸ yd.2.size
        rw [← hq, hg] at b6
        rw [← hq, hg]
        clear hq hg
        refine wpAnyH_ready (rs := [1, 5]) (by kernel_rfl) (by simp) (AllReadyH.cons rfl (fun K hK => ?_) (AllReadyH.cons rfl (fun K hK => ?_) AllReadyH.nil))
        · go_simp
          (go_at_call 28; (with_reducible refine (Kin.callK (W := (Kin.wd y0)) (by repeat (first | with_reducible (first | exact blA | exact blB | refine blC _ ?_ | refine blD ?_ ?_ _ | refine blE ?_ | refine blF _ ?_ | refine blG ?_ _ | refine blH ?_ | refine blI ?_ ?_ _) | (simp only [World.size_alloc]; omega) | (simp <;> omega))) (rev_is r cl _ _ l (n := n) _ HL.out (HR0.out.below (by repeat (first | with_reducible (first | exact blA | exact blB | refine blC _ ?_ | refine blD ?_ ?_ _ | refine blE ?_ | refine blF _ ?_ | refine blG ?_ _ | refine blH ?_ | refine blI ?_ ?_ _) | (simp only [World.size_alloc]; omega) | (simp <;> omega)))) HRA.out HNA.out)).mono ?_); rintro e w' ⟨q2, ⟨A1, c1, rfl, h1⟩, hz, rfl⟩; skip)
          replace b6 := b6.below hz
          refine hK.out _ _ (by repeat (first | with_reducible (first | exact blA | exact blB | refine blC _ ?_ | refine blD ?_ ?_ _ | refine blE ?_ | refine blF _ ?_ | refine blG ?_ _ | refine blH ?_ | refine blI ?_ ?_ _) | (simp only [World.size_alloc]; omega) | (simp <;> omega))) (fun hHeld2 => ?_)
          clear hK hHeld
          have hHeld := hHeld2
          clear hHeld2 K
          try simp only [List.getElem_toArray, List.getElem_cons_succ, List.getElem_cons_zero, Act.put, List.setIfInBounds_toArray, List.set_cons_zero, List.set_cons_succ]
          refine wpAnyH_ready (rs := [4, 5]) (by kernel_rfl) (by simp) (AllReadyH.cons rfl (fun K hK => ?_) (AllReadyH.cons rfl (fun K hK => ?_) AllReadyH.nil))
          · go_simp
            (go_at_call 29; (with_reducible refine (Kin.callK (W := (Kin.wd y0)) (by repeat (first | with_reducible (first | exact blA | exact blB | refine blC _ ?_ | refine blD ?_ ?_ _ | refine blE ?_ | refine blF _ ?_ | refine blG ?_ _ | refine blH ?_ | refine blI ?_ ?_ _) | (simp only [World.size_alloc]; omega) | (simp <;> omega))) (turn_is r cl _ _ l i (n := n) _ hi HL.out (HR0.out.below (by repeat (first | with_reducible (first | exact blA | exact blB | refine blC _ ?_ | refine blD ?_ ?_ _ | refine blE ?_ | refine blF _ ?_ | refine blG ?_ _ | refine blH ?_ | refine blI ?_ ?_ _) | (simp only [World.size_alloc]; omega) | (simp <;> omega)))) HRB.out HNB.out)).mono ?_); rintro e w' ⟨q3, ⟨A2, c2, rfl, h2⟩, hz, rfl⟩; skip)
            replace b6 := b6.below hz
            replace h1 := h1.below hz
            refine hK.out _ _ (by repeat (first | with_reducible (first | exact blA | exact blB | refine blC _ ?_ | refine blD ?_ ?_ _ | refine blE ?_ | refine blF _ ?_ | refine blG ?_ _ | refine blH ?_ | refine blI ?_ ?_ _) | (simp only [World.size_alloc]; omega) | (simp <;> omega))) (fun hHeld2 => ?_)
            clear hK hHeld
            have hHeld := hHeld2
            clear hHeld2 K
            try simp only [List.getElem_toArray, List.getElem_cons_succ, List.getElem_cons_zero, Act.put, List.setIfInBounds_toArray, List.set_cons_zero, List.set_cons_succ]
            refine wpAnyH_ready (rs := [5]) (by kernel_rfl) (by simp) (AllReadyH.cons rfl (fun K hK => ?_) AllReadyH.nil)
            go_simp
            refine hK.out _ _ (by repeat (first | with_reducible (first | exact blA | exact blB | refine blC _ ?_ | refine blD ?_ ?_ _ | refine blE ?_ | refine blF _ ?_ | refine blG ?_ _ | refine blH ?_ | refine blI ?_ ?_ _) | (simp only [World.size_alloc]; omega) | (simp <;> omega))) (fun hHeld2 => ?_)
            clear hK hHeld
            have hHeld := hHeld2
            clear hHeld2 K
            try simp only [List.getElem_toArray, List.getElem_cons_succ, List.getElem_cons_zero, Act.put, List.setIfInBounds_toArray, List.set_cons_zero, List.set_cons_succ]
            obtain ⟨q4, hq⟩ : ∃ q_ : Kin y0.1, q_.1 = q3.1.alloc (.cells #[.int .i64 0, .bool false, .slice none 0 0] 24) := ⟨⟨q3.1.alloc _, (by repeat (first | with_reducible (first | exact blA | exact blB | refine blC _ ?_ | refine blD ?_ ?_ _ | refine blE ?_ | refine blF _ ?_ | refine blG ?_ _ | refine blH ?_ | refine blI ?_ ?_ _) | (simp only [World.size_alloc]; omega) | (simp <;> omega)))⟩, rfl⟩
            obtain ⟨G5, hg⟩ : ∃ g_, q3.1.heap.size = g_ := ⟨_, rfl⟩
            have d : G6 ≠ G5 := by have := b6.lt; omega
            have b5 := Blk.new q3.1 24 #[.int .i64 0, .bool false, .slice none 0 0]
            replace b6 := b6.below (Below.alloc (Below.refl _ _) (Nat.le_refl _) (.cells #[.int .i64 0, .bool false, .slice none 0 0] 24))
            replace h1 := h1.below (Below.alloc (Below.refl _ _) (Nat.le_refl _) (.cells #[.int .i64 0, .bool false, .slice none 0 0] 24))
            replace h2 := h2.below (Below.alloc (Below.refl _ _) (Nat.le_refl _) (.cells #[.int .i64 0, .bool false, .slice none 0 0] 24))
            have l5 : y0.1.heap.size ≤ G5 := hg ▸ q3.2.size
            rw [← hq, hg] at b5
            rw [← hq] at b6
            rw [← hq] at h1
            rw [← hq] at h2
            rw [← hq, hg]
            clear hq hg
            exact key A1 c1 A2 c2 G5 G6 q4 ⟨h1, h2, b5, b6, (Ne.symm d), l5, l6⟩
          · go_simp
            refine hK.out _ _ (by repeat (first | with_reducible (first | exact blA | exact blB | refine blC _ ?_ | refine blD ?_ ?_ _ | refine blE ?_ | refine blF _ ?_ | refine blG ?_ _ | refine blH ?_ | refine blI ?_ ?_ _) | (simp only [World.size_alloc]; omega) | (simp <;> omega))) (fun hHeld2 => ?_)
            clear hK hHeld
            have hHeld := hHeld2
            clear hHeld2 K
            try simp only [List.getElem_toArray, List.getElem_cons_succ, List.getElem_cons_zero, Act.put, List.setIfInBounds_toArray, List.set_cons_zero, List.set_cons_succ]
            obtain ⟨q3, hq⟩ : ∃ q_ : Kin y0.1, q_.1 = q2.1.alloc (.cells #[.int .i64 0, .bool false, .slice none 0 0] 24) := ⟨⟨q2.1.alloc _, (by repeat (first | with_reducible (first | exact blA | exact blB | refine blC _ ?_ | refine blD ?_ ?_ _ | refine blE ?_ | refine blF _ ?_ | refine blG ?_ _ | refine blH ?_ | refine blI ?_ ?_ _) | (simp only [World.size_alloc]; omega) | (simp <;> omega)))⟩, rfl⟩
            obtain ⟨G5, hg⟩ : ∃ g_, q2.1.heap.size = g_ := ⟨_, rfl⟩
            have d : G6 ≠ G5 := by have := b6.lt; omega
            have b5 := Blk.new q2.1 24 #[.int .i64 0, .bool false, .slice none 0 0]
            replace b6 := b6.below (Below.alloc (Below.refl _ _) (Nat.le_refl _) (.cells #[.int .i64 0, .bool false, .slice none 0 0] 24))
            replace h1 := h1.below (Below.alloc (Below.refl _ _) (Nat.le_refl _) (.cells #[.int .i64 0, .bool false, .slice none 0 0] 24))
            have l5 : y0.1.heap.size ≤ G5 := hg ▸ q2.2.size
            rw [← hq, hg] at b5
            rw [← hq] at b6
            rw [← hq] at h1
            rw [← hq, hg]
            clear hq hg
            refine wpAnyH_ready (rs := [4]) (by kernel_rfl) (by simp) (AllReadyH.cons rfl (fun K hK => ?_) AllReadyH.nil)
            go_simp
            (go_at_call 29; (with_reducible refine (Kin.callK (W := (Kin.wd y0)) (by repeat (first | with_reducible (first | exact blA | exact blB | refine blC _ ?_ | refine blD ?_ ?_ _ | refine blE ?_ | refine blF _ ?_ | refine blG ?_ _ | refine blH ?_ | refine blI ?_ ?_ _) | (simp only [World.size_alloc]; omega) | (simp <;> omega))) (turn_is r cl _ _ l i (n := n) _ hi HL.out (HR0.out.below (by repeat (first | with_reducible (first | exact blA | exact blB | refine blC _ ?_ | refine blD ?_ ?_ _ | refine blE ?_ | refine blF _ ?_ | refine blG ?_ _ | refine blH ?_ | refine blI ?_ ?_ _) | (simp only [World.size_alloc]; omega) | (simp <;> omega)))) HRB.out HNB.out)).mono ?_); rintro e w' ⟨q4, ⟨A2, c2, rfl, h2⟩, hz, rfl⟩; skip)
            replace b6 := b6.below hz
            replace h1 := h1.below hz
            replace b5 := b5.below hz
            refine hK.out _ _ (by repeat (first | with_reducible (first | exact blA | exact blB | refine blC _ ?_ | refine blD ?_ ?_ _ | refine blE ?_ | refine blF _ ?_ | refine blG ?_ _ | refine blH ?_ | refine blI ?_ ?_ _) | (simp only [World.size_alloc]; omega) | (simp <;> omega))) (fun hHeld2 => ?_)
            clear hK hHeld
            have hHeld := hHeld2
            clear hHeld2 K
            try simp only [List.getElem_toArray, List.getElem_cons_succ, List.getElem_cons_zero, Act.put, List.setIfInBounds_toArray, List.set_cons_zero, List.set_cons_succ]
            exact key A1 c1 A2 c2 G5 G6 q4 ⟨h1, h2, b5, b6, (Ne.symm d), l5, l6⟩
        · go_simp
          refine hK.out _ _ (by repeat (first | with_reducible (first | exact blA | exact blB | refine blC _ ?_ | refine blD ?_ ?_ _ | refine blE ?_ | refine blF _ ?_ | refine blG ?_ _ | refine blH ?_ | refine blI ?_ ?_ _) | (simp only [World.size_alloc]; omega) | (simp <;> omega))) (fun hHeld2 => ?_)
          clear hK hHeld
          have hHeld := hHeld2
          clear hHeld2 K
          try simp only [List.getElem_toArray, List.getElem_cons_succ, List.getElem_cons_zero, Act.put, List.setIfInBounds_toArray, List.set_cons_zero, List.set_cons_succ]
          obtain ⟨q2, hq⟩ : ∃ q_ : Kin y0.1, q_.1 = q1.1.alloc (.cells #[.int .i64 0, .bool false, .slice none 0 0] 24) := ⟨⟨q1.1.alloc _, (by repeat (first | with_reducible (first | exact blA | exact blB | refine blC _ ?_ | refine blD ?_ ?_ _ | refine blE ?_ | refine blF _ ?_ | refine blG ?_ _ | refine blH ?_ | refine blI ?_ ?_ _) | (simp only [World.size_alloc]; omega) | (simp <;> omega)))⟩, rfl⟩
          obtain ⟨G5, hg⟩ : ∃ g_, q1.1.heap.size = g_ := ⟨_, rfl⟩
          have d : G6 ≠ G5 := by have := b6.lt; omega
          have b5 := Blk.new q1.1 24 #[.int .i64 0, .bool false, .slice none 0 0]
          replace b6 := b6.below (Below.alloc (Below.refl _ _) (Nat.le_refl _) (.cells #[.int .i64 0, .bool false, .slice none 0 0] 24))
          have l5 : y0.1.heap.size ≤ G5 := hg ▸ q1.2.size
          rw [← hq, hg] at b5
          rw [← hq] at b6
          rw [← hq, hg]
          clear hq hg
          refine wpAnyH_ready (rs := [1]) (by kernel_rfl) (by simp) (AllReadyH.cons rfl (fun K hK => ?_) AllReadyH.nil)
          go_simp
          (go_at_call 28; (with_reducible refine (Kin.callK (W := (Kin.wd y0)) (by repeat (first | with_reducible (first | exact blA | exact blB | refine blC _ ?_ | refine blD ?_ ?_ _ | refine blE ?_ | refine blF _ ?_ | refine blG ?_ _ | refine blH ?_ | refine blI ?_ ?_ _) | (simp only [World.size_alloc]; omega) | (simp <;> omega))) (rev_is r cl _ _ l (n := n) _ HL.out (HR0.out.below (by repeat (first | with_reducible (first | exact blA | exact blB | refine blC _ ?_ | refine blD ?_ ?_ _ | refine blE ?_ | refine blF _ ?_ | refine blG ?_ _ | refine blH ?_ | refine blI ?_ ?_ _) | (simp only [World.size_alloc]; omega) | (simp <;> omega)))) HRA.out HNA.out)).mono ?_); rintro e w' ⟨q3, ⟨A1, c1, rfl, h1⟩, hz, rfl⟩; skip)
          replace b6 := b6.below hz
          replace b5 := b5.below hz
          refine hK.out _ _ (by repeat (first | with_reducible (first | exact blA | exact blB | refine blC _ ?_ | refine blD ?_ ?_ _ | refine blE ?_ | refine blF _ ?_ | refine blG ?_ _ | refine blH ?_ | refine blI ?_ ?_ _) | (simp only [World.size_alloc]; omega) | (simp <;> omega))) (fun hHeld2 => ?_)
          clear hK hHeld
          have hHeld := hHeld2
          clear hHeld2 K
          try simp only [List.getElem_toArray, List.getElem_cons_succ, List.getElem_cons_zero, Act.put, List.setIfInBounds_toArray, List.set_cons_zero, List.set_cons_succ]
          refine wpAnyH_ready (rs := [4]) (by kernel_rfl) (by simp) (AllReadyH.cons rfl (fun K hK => ?_) AllReadyH.nil)
          go_simp
          (go_at_call 29; (with_reducible refine (Kin.callK (W := (Kin.wd y0)) (by repeat (first | with_reducible (first | exact blA | exact blB | refine blC _ ?_ | refine blD ?_ ?_ _ | refine blE ?_ | refine blF _ ?_ | refine blG ?_ _ | refine blH ?_ | refine blI ?_ ?_ _) | (simp only [World.size_alloc]; omega) | (simp <;> omega))) (turn_is r cl _ _ l i (n := n) _ hi HL.out (HR0.out.below (by repeat (first | with_reducible (first | exact blA | exact blB | refine blC _ ?_ | refine blD ?_ ?_ _ | refine blE ?_ | refine blF _ ?_ | refine blG ?_ _ | refine blH ?_ | refine blI ?_ ?_ _) | (simp only [World.size_alloc]; omega) | (simp <;> omega)))) HRB.out HNB.out)).mono ?_); rintro e w' ⟨q4, ⟨A2, c2, rfl, h2⟩, hz, rfl⟩; skip)
          replace b6 := b6.below hz
          replace b5 := b5.below hz
          replace h1 := h1.below hz
          refine hK.out _ _ (by repeat (first | with_reducible (first | exact blA | exact blB | refine blC _ ?_ | refine blD ?_ ?_ _ | refine blE ?_ | refine blF _ ?_ | refine blG ?_ _ | refine blH ?_ | refine blI ?_ ?_ _) | (simp only [World.size_alloc]; omega) | (simp <;> omega))) (fun hHeld2 => ?_)
          clear hK hHeld
          have hHeld := hHeld2
          clear hHeld2 K
          try simp only [List.getElem_toArray, List.getElem_cons_succ, List.getElem_cons_zero, Act.put, List.setIfInBounds_toArray, List.set_cons_zero, List.set_cons_succ]
          exact key A1 c1 A2 c2 G5 G6 q4 ⟨h1, h2, b5, b6, (Ne.symm d), l5, l6⟩
    case pf =>
      rintro A1 c1 A2 c2 G5 G6 y ⟨h1, h2, bG5, bG6, d, lG5, lG6⟩
      have hHeld := y.2
      have e0 : y.1.cell? ⟨G5, 0, none⟩ = some (.int .i64 0) := bG5.cell 0
      have e1 : y.1.cell? ⟨G5, 1, none⟩ = some (.bool false) := bG5.cell 1
      have e2 : y.1.cell? ⟨G5, 2, none⟩ = some (.slice none 0 0) := bG5.cell 2
      have f0 : y.1.frozen? ⟨G5, 0, none⟩ = false := bG5.frozen 0
      have f1 : y.1.frozen? ⟨G5, 1, none⟩ = false := bG5.frozen 1
      have f2 : y.1.frozen? ⟨G5, 2, none⟩ = false := bG5.frozen 2
      have lt0 := bG5.lt
      ((first | refine wpAnyH_ready (rs := [7]) (by kernel_rfl) (by simp) (AllReadyH.cons rfl (fun K hK => ?_) AllReadyH.nil)) <;> (go_simp; refine hK.out _ _ (by repeat (first | with_reducible (first | exact blA | exact blB | refine blC _ ?_ | refine blD ?_ ?_ _ | refine blE ?_ | refine blF _ ?_ | refine blG ?_ _ | refine blH ?_ | refine blI ?_ ?_ _) | (simp only [World.size_alloc]; omega) | (simp <;> omega))) (fun hHeld2 => ?_); clear hK hHeld; have hHeld := hHeld2; clear hHeld2 K; try simp only [List.getElem_toArray, List.getElem_cons_succ, List.getElem_cons_zero, Act.put, List.setIfInBounds_toArray, List.set_cons_zero, List.set_cons_succ]))
      obtain ⟨y1, hy⟩ : ∃ y_ : Kin y0.1, y_.1 = (((y.1.setCell ⟨G5, 0, none⟩ (.int .i64 r1)).setCell ⟨G5, 1, none⟩ (.bool cl1)).setCell ⟨G5, 2, none⟩ (.slice A1 na c1)) := ⟨⟨_, blk_set3B y.2 lG5 _ _ _⟩, rfl⟩
      replace h1 := rd_set3 h1 (rd_ne h1 bG5) (.int .i64 r1) (.bool cl1) (.slice A1 na c1)
      replace h2 := rd_set3 h2 (rd_ne h2 bG5) (.int .i64 r1) (.bool cl1) (.slice A1 na c1)
      replace bG6 := blk_far3 bG6 (show G6 ≠ G5 by omega) (.int .i64 r1) (.bool cl1) (.slice A1 na c1)
      replace bG5 := blk_set3 bG5 (.int .i64 r1) (.bool cl1) (.slice A1 na c1)
      rw [← hy] at h1 h2 bG5 bG6 ⊢
      clear hy e0 e1 e2 f0 f1 f2 lt0 hHeld
      have hHeld := y1.2
      have e0 : y1.1.cell? ⟨G6, 0, none⟩ = some (.int .i64 0) := bG6.cell 0
      have e1 : y1.1.cell? ⟨G6, 1, none⟩ = some (.bool false) := bG6.cell 1
      have e2 : y1.1.cell? ⟨G6, 2, none⟩ = some (.slice none 0 0) := bG6.cell 2
      have f0 : y1.1.frozen? ⟨G6, 0, none⟩ = false := bG6.frozen 0
      have f1 : y1.1.frozen? ⟨G6, 1, none⟩ = false := bG6.frozen 1
      have f2 : y1.1.frozen? ⟨G6, 2, none⟩ = false := bG6.frozen 2
      have lt0 := bG6.lt
      ((first | refine wpAnyH_ready (rs := [8]) (by kernel_rfl) (by simp) (AllReadyH.cons rfl (fun K hK => ?_) AllReadyH.nil)) <;> (go_simp; refine hK.out _ _ (by repeat (first | with_reducible (first | exact blA | exact blB | refine blC _ ?_ | refine blD ?_ ?_ _ | refine blE ?_ | refine blF _ ?_ | refine blG ?_ _ | refine blH ?_ | refine blI ?_ ?_ _) | (simp only [World.size_alloc]; omega) | (simp <;> omega))) (fun hHeld2 => ?_); clear hK hHeld; have hHeld := hHeld2; clear hHeld2 K; try simp only [List.getElem_toArray, List.getElem_cons_succ, List.getElem_cons_zero, Act.put, List.setIfInBounds_toArray, List.set_cons_zero, List.set_cons_succ]))
      obtain ⟨y2, hy⟩ : ∃ y_ : Kin y0.1, y_.1 = (((y1.1.setCell ⟨G6, 0, none⟩ (.int .i64 r2)).setCell ⟨G6, 1, none⟩ (.bool cl2)).setCell ⟨G6, 2, none⟩ (.slice A2 nb c2)) := ⟨⟨_, blk_set3B y1.2 lG6 _ _ _⟩, rfl⟩
      replace h1 := rd_set3 h1 (rd_ne h1 bG6) (.int .i64 r2) (.bool cl2) (.slice A2 nb c2)
      replace h2 := rd_set3 h2 (rd_ne h2 bG6) (.int .i64 r2) (.bool cl2) (.slice A2 nb c2)
      replace bG5 := blk_far3 bG5 (show G5 ≠ G6 by omega) (.int .i64 r2) (.bool cl2) (.slice A2 nb c2)
      replace bG6 := blk_set3 bG6 (.int .i64 r2) (.bool cl2) (.slice A2 nb c2)
      rw [← hy] at h1 h2 bG5 bG6 ⊢
      clear hy e0 e1 e2 f0 f1 f2 lt0 hHeld
      have hHeld := y2.2
      refine wpAnyH_done (by kernel_rfl) ?_ _
      clear hHeld
      have H1 := Lib.hid h1
      have H2 := Lib.hid h2
      have HG5 := Lib.hid bG5
      have HG6 := Lib.hid bG6
      have HRy := Lib.hid (HR0.out.below y2.2)
      have s0 : y2.1.cell? ⟨W.heap.size, 0, none⟩ = some (.int .i64 r) := (Kin.cell y2 lt).trans t0
      have s1 : y2.1.cell? ⟨W.heap.size, 1, none⟩ = some (.bool cl) := (Kin.cell y2 lt).trans t1
      have s2 : y2.1.cell? ⟨W.heap.size, 2, none⟩ = some (.slice A n cap) := (Kin.cell y2 lt).trans t2
      have a0 : y2.1.cell? ⟨G5, 0, none⟩ = some (.int .i64 r1) := bG5.cell 0
      have a1 : y2.1.cell? ⟨G5, 1, none⟩ = some (.bool cl1) := bG5.cell 1
      have a2 : y2.1.cell? ⟨G5, 2, none⟩ = some (.slice A1 na c1) := bG5.cell 2
      have b0 : y2.1.cell? ⟨G6, 0, none⟩ = some (.int .i64 r2) := bG6.cell 0
      have b1 : y2.1.cell? ⟨G6, 1, none⟩ = some (.bool cl2) := bG6.cell 1
      have b2 : y2.1.cell? ⟨G6, 2, none⟩ = some (.slice A2 nb c2) := bG6.cell 2
      have ls : W.heap.size < y2.1.heap.size := Nat.lt_of_lt_of_le lt y2.2.size
      have la := bG5.lt
      have lb := bG6.lt
      have HW2 := Lib.hid (show Below W.heap.size W y2.1 from y0.2.trans (y2.2.mono y0.2.size))
      clear h1 h2 bG5 bG6 t0 t1 t2 lt d lG5 lG6
      go_wp2_with fail
      refine wp_region_held_drew (S := fun w' => Below y2.1.heap.size y2.1 w') (by kernel_rfl) (by repeat (first | with_reducible (first | exact blA | exact blB | refine blC _ ?_ | refine blD ?_ ?_ _ | refine blE ?_ | refine blF _ ?_ | refine blG ?_ _ | refine blH ?_ | refine blI ?_ ?_ _) | (simp only [World.size_alloc]; omega) | (simp <;> omega))) (fun hHeld => ?_)
      try simp only [List.size_toArray, List.length_cons, List.length_nil, Nat.zero_add, Nat.reduceAdd, List.replicate, Array.replicate]
      refine wpAnyH_take (i := 0) (v := ?_) rfl (by kernel_rfl) (by kernel_rfl) (by kernel_rfl) (fun _ _ _ h => h) (Or.inl ⟨by kernel_rfl, ?_⟩) (by assumption) ?_
      rotate_left
      · (intro w' hSw; have s0 := (hSw.cell (p := ⟨W.heap.size, 0, none⟩) ls).trans (s0); have s1 := (hSw.cell (p := ⟨W.heap.size, 1, none⟩) ls).trans (s1); have s2 := (hSw.cell (p := ⟨W.heap.size, 2, none⟩) ls).trans (s2); have s3 := (hSw.cell (p := ⟨G5, 0, none⟩) la).trans (a0); have s4 := (hSw.cell (p := ⟨G5, 1, none⟩) la).trans (a1); have s5 := (hSw.cell (p := ⟨G5, 2, none⟩) la).trans (a2); have s6 := (hSw.cell (p := ⟨G6, 0, none⟩) lb).trans (b0); have s7 := (hSw.cell (p := ⟨G6, 1, none⟩) lb).trans (b1); have s8 := (hSw.cell (p := ⟨G6, 2, none⟩) lb).trans (b2); go_simp; try with_reducible rfl)
      try simp only [List.getElem_toArray, List.getElem_cons_succ, List.getElem_cons_zero, Act.put, List.setIfInBounds_toArray, List.set_cons_zero, List.set_cons_succ]
      refine wpAnyH_take (i := 1) (v := ?_) rfl (by kernel_rfl) (by kernel_rfl) (by kernel_rfl) (fun _ _ _ h => h) (Or.inl ⟨by kernel_rfl, ?_⟩) (by assumption) ?_
      rotate_left
      · (intro w' hSw; have s0 := (hSw.cell (p := ⟨W.heap.size, 0, none⟩) ls).trans (s0); have s1 := (hSw.cell (p := ⟨W.heap.size, 1, none⟩) ls).trans (s1); have s2 := (hSw.cell (p := ⟨W.heap.size, 2, none⟩) ls).trans (s2); have s3 := (hSw.cell (p := ⟨G5, 0, none⟩) la).trans (a0); have s4 := (hSw.cell (p := ⟨G5, 1, none⟩) la).trans (a1); have s5 := (hSw.cell (p := ⟨G5, 2, none⟩) la).trans (a2); have s6 := (hSw.cell (p := ⟨G6, 0, none⟩) lb).trans (b0); have s7 := (hSw.cell (p := ⟨G6, 1, none⟩) lb).trans (b1); have s8 := (hSw.cell (p := ⟨G6, 2, none⟩) lb).trans (b2); go_simp; try with_reducible rfl)
      try simp only [List.getElem_toArray, List.getElem_cons_succ, List.getElem_cons_zero, Act.put, List.setIfInBounds_toArray, List.set_cons_zero, List.set_cons_succ]
      refine wpAnyH_ready (rs := [2]) (by kernel_rfl) (by simp) (AllReadyH.cons rfl (fun K hK => ?_) AllReadyH.nil)
      go_simp
      (go_at_call 31; (with_reducible refine (Kin.callK (W := (Kin.wd y2)) (by repeat (first | with_reducible (first | exact blA | exact blB | refine blC _ ?_ | refine blD ?_ ?_ _ | refine blE ?_ | refine blF _ ?_ | refine blG ?_ _ | refine blH ?_ | refine blI ?_ ?_ _) | (simp only [World.size_alloc]; omega) | (simp <;> omega))) (revR_is r cl _ _ l (n := n) _ HL.out (HRy.out.below (by repeat (first | with_reducible (first | exact blA | exact blB | refine blC _ ?_ | refine blD ?_ ?_ _ | refine blE ?_ | refine blF _ ?_ | refine blG ?_ _ | refine blH ?_ | refine blI ?_ ?_ _) | (simp only [World.size_alloc]; omega) | (simp <;> omega)))) HRA.out HNA.out)).mono ?_); rintro e w' ⟨z1, ⟨A3, c3, rfl, h3⟩, hz, rfl⟩; skip)
      refine hK.out _ _ (by repeat (first | with_reducible (first | exact blA | exact blB | refine blC _ ?_ | refine blD ?_ ?_ _ | refine blE ?_ | refine blF _ ?_ | refine blG ?_ _ | refine blH ?_ | refine blI ?_ ?_ _) | (simp only [World.size_alloc]; omega) | (simp <;> omega))) (fun hHeld2 => ?_)
      clear hK hHeld
      have hHeld := hHeld2
      clear hHeld2 K
      try simp only [List.getElem_toArray, List.getElem_cons_succ, List.getElem_cons_zero, Act.put, List.setIfInBounds_toArray, List.set_cons_zero, List.set_cons_succ]
      have h4 := H1.out.below z1.2
      refine wpAnyH_ready (rs := [3]) (by kernel_rfl) (by simp) (AllReadyH.cons rfl (fun K hK => ?_) AllReadyH.nil)
      go_simp
      (go_at_call 30; (with_reducible refine (Kin.callK (W := (Kin.wd y2)) (by repeat (first | with_reducible (first | exact blA | exact blB | refine blC _ ?_ | refine blD ?_ ?_ _ | refine blE ?_ | refine blF _ ?_ | refine blG ?_ _ | refine blH ?_ | refine blI ?_ ?_ _) | (simp only [World.size_alloc]; omega) | (simp <;> omega))) (same_true _ _ _ _ _ _ l1 (n := na) _ HNA.out h4 h3 (by omega))).mono ?_); rintro e w' ⟨z2, rfl, hz2, rfl⟩; skip)
      refine hK.out _ _ (by repeat (first | with_reducible (first | exact blA | exact blB | refine blC _ ?_ | refine blD ?_ ?_ _ | refine blE ?_ | refine blF _ ?_ | refine blG ?_ _ | refine blH ?_ | refine blI ?_ ?_ _) | (simp only [World.size_alloc]; omega) | (simp <;> omega))) (fun hHeld2 => ?_)
      clear hK hHeld
      have hHeld := hHeld2
      clear hHeld2 K
      try simp only [List.getElem_toArray, List.getElem_cons_succ, List.getElem_cons_zero, Act.put, List.setIfInBounds_toArray, List.set_cons_zero, List.set_cons_succ]
      refine wpAnyH_take (i := 4) (v := ?_) rfl (by kernel_rfl) (by kernel_rfl) (by kernel_rfl) (fun _ _ _ h => h) (Or.inl ⟨by kernel_rfl, ?_⟩) (by assumption) ?_
      rotate_left
      · (intro w' hSw; have s0 := (hSw.cell (p := ⟨W.heap.size, 0, none⟩) ls).trans (s0); have s1 := (hSw.cell (p := ⟨W.heap.size, 1, none⟩) ls).trans (s1); have s2 := (hSw.cell (p := ⟨W.heap.size, 2, none⟩) ls).trans (s2); have s3 := (hSw.cell (p := ⟨G5, 0, none⟩) la).trans (a0); have s4 := (hSw.cell (p := ⟨G5, 1, none⟩) la).trans (a1); have s5 := (hSw.cell (p := ⟨G5, 2, none⟩) la).trans (a2); have s6 := (hSw.cell (p := ⟨G6, 0, none⟩) lb).trans (b0); have s7 := (hSw.cell (p := ⟨G6, 1, none⟩) lb).trans (b1); have s8 := (hSw.cell (p := ⟨G6, 2, none⟩) lb).trans (b2); go_simp; try with_reducible rfl)
      try simp only [List.getElem_toArray, List.getElem_cons_succ, List.getElem_cons_zero, Act.put, List.setIfInBounds_toArray, List.set_cons_zero, List.set_cons_succ]
      refine wpAnyH_take (i := 5) (v := ?_) rfl (by kernel_rfl) (by kernel_rfl) (by kernel_rfl) (fun _ _ _ h => h) (Or.inl ⟨by kernel_rfl, ?_⟩) (by assumption) ?_
      rotate_left
      · (intro w' hSw; have s0 := (hSw.cell (p := ⟨W.heap.size, 0, none⟩) ls).trans (s0); have s1 := (hSw.cell (p := ⟨W.heap.size, 1, none⟩) ls).trans (s1); have s2 := (hSw.cell (p := ⟨W.heap.size, 2, none⟩) ls).trans (s2); have s3 := (hSw.cell (p := ⟨G5, 0, none⟩) la).trans (a0); have s4 := (hSw.cell (p := ⟨G5, 1, none⟩) la).trans (a1); have s5 := (hSw.cell (p := ⟨G5, 2, none⟩) la).trans (a2); have s6 := (hSw.cell (p := ⟨G6, 0, none⟩) lb).trans (b0); have s7 := (hSw.cell (p := ⟨G6, 1, none⟩) lb).trans (b1); have s8 := (hSw.cell (p := ⟨G6, 2, none⟩) lb).trans (b2); go_simp; try with_reducible rfl)
      try simp only [List.getElem_toArray, List.getElem_cons_succ, List.getElem_cons_zero, Act.put, List.setIfInBounds_toArray, List.set_cons_zero, List.set_cons_succ]
      refine wpAnyH_take (i := 6) (v := ?_) rfl (by kernel_rfl) (by kernel_rfl) (by kernel_rfl) (fun _ _ _ h => h) (Or.inl ⟨by kernel_rfl, ?_⟩) (by assumption) ?_
      rotate_left
      · (intro w' hSw; have s0 := (hSw.cell (p := ⟨W.heap.size, 0, none⟩) ls).trans (s0); have s1 := (hSw.cell (p := ⟨W.heap.size, 1, none⟩) ls).trans (s1); have s2 := (hSw.cell (p := ⟨W.heap.size, 2, none⟩) ls).trans (s2); have s3 := (hSw.cell (p := ⟨G5, 0, none⟩) la).trans (a0); have s4 := (hSw.cell (p := ⟨G5, 1, none⟩) la).trans (a1); have s5 := (hSw.cell (p := ⟨G5, 2, none⟩) la).trans (a2); have s6 := (hSw.cell (p := ⟨G6, 0, none⟩) lb).trans (b0); have s7 := (hSw.cell (p := ⟨G6, 1, none⟩) lb).trans (b1); have s8 := (hSw.cell (p := ⟨G6, 2, none⟩) lb).trans (b2); go_simp; try with_reducible rfl)
      try simp only [List.getElem_toArray, List.getElem_cons_succ, List.getElem_cons_zero, Act.put, List.setIfInBounds_toArray, List.set_cons_zero, List.set_cons_succ]
      refine wpAnyH_take (i := 7) (v := ?_) rfl (by kernel_rfl) (by kernel_rfl) (by kernel_rfl) (fun _ _ _ h => h) (Or.inl ⟨by kernel_rfl, ?_⟩) (by assumption) ?_
      rotate_left
      · (intro w' hSw; have s0 := (hSw.cell (p := ⟨W.heap.size, 0, none⟩) ls).trans (s0); have s1 := (hSw.cell (p := ⟨W.heap.size, 1, none⟩) ls).trans (s1); have s2 := (hSw.cell (p := ⟨W.heap.size, 2, none⟩) ls).trans (s2); have s3 := (hSw.cell (p := ⟨G5, 0, none⟩) la).trans (a0); have s4 := (hSw.cell (p := ⟨G5, 1, none⟩) la).trans (a1); have s5 := (hSw.cell (p := ⟨G5, 2, none⟩) la).trans (a2); have s6 := (hSw.cell (p := ⟨G6, 0, none⟩) lb).trans (b0); have s7 := (hSw.cell (p := ⟨G6, 1, none⟩) lb).trans (b1); have s8 := (hSw.cell (p := ⟨G6, 2, none⟩) lb).trans (b2); go_simp; try with_reducible rfl)
      try simp only [List.getElem_toArray, List.getElem_cons_succ, List.getElem_cons_zero, Act.put, List.setIfInBounds_toArray, List.set_cons_zero, List.set_cons_succ]
      refine wpAnyH_take (i := 8) (v := ?_) rfl (by kernel_rfl) (by kernel_rfl) (by kernel_rfl) (fun _ _ _ h => h) (Or.inl ⟨by kernel_rfl, ?_⟩) (by assumption) ?_
      rotate_left
      · (intro w' hSw; have s0 := (hSw.cell (p := ⟨W.heap.size, 0, none⟩) ls).trans (s0); have s1 := (hSw.cell (p := ⟨W.heap.size, 1, none⟩) ls).trans (s1); have s2 := (hSw.cell (p := ⟨W.heap.size, 2, none⟩) ls).trans (s2); have s3 := (hSw.cell (p := ⟨G5, 0, none⟩) la).trans (a0); have s4 := (hSw.cell (p := ⟨G5, 1, none⟩) la).trans (a1); have s5 := (hSw.cell (p := ⟨G5, 2, none⟩) la).trans (a2); have s6 := (hSw.cell (p := ⟨G6, 0, none⟩) lb).trans (b0); have s7 := (hSw.cell (p := ⟨G6, 1, none⟩) lb).trans (b1); have s8 := (hSw.cell (p := ⟨G6, 2, none⟩) lb).trans (b2); go_simp; try with_reducible rfl)
      try simp only [List.getElem_toArray, List.getElem_cons_succ, List.getElem_cons_zero, Act.put, List.setIfInBounds_toArray, List.set_cons_zero, List.set_cons_succ]
      refine wpAnyH_ready (rs := [9]) (by kernel_rfl) (by simp) (AllReadyH.cons rfl (fun K hK => ?_) AllReadyH.nil)
      go_simp
      (go_at_call 32; (with_reducible refine (Kin.callK (W := (Kin.wd y2)) (by repeat (first | with_reducible (first | exact blA | exact blB | refine blC _ ?_ | refine blD ?_ ?_ _ | refine blE ?_ | refine blF _ ?_ | refine blG ?_ _ | refine blH ?_ | refine blI ?_ ?_ _) | (simp only [World.size_alloc]; omega) | (simp <;> omega))) (turnR_is r cl _ _ l i (n := n) _ hi HL.out (HRy.out.below (by repeat (first | with_reducible (first | exact blA | exact blB | refine blC _ ?_ | refine blD ?_ ?_ _ | refine blE ?_ | refine blF _ ?_ | refine blG ?_ _ | refine blH ?_ | refine blI ?_ ?_ _) | (simp only [World.size_alloc]; omega) | (simp <;> omega)))) HRB.out HNB.out)).mono ?_); rintro e w' ⟨z3, ⟨A4, c4, rfl, h5⟩, hz3, rfl⟩; skip)
      refine hK.out _ _ (by repeat (first | with_reducible (first | exact blA | exact blB | refine blC _ ?_ | refine blD ?_ ?_ _ | refine blE ?_ | refine blF _ ?_ | refine blG ?_ _ | refine blH ?_ | refine blI ?_ ?_ _) | (simp only [World.size_alloc]; omega) | (simp <;> omega))) (fun hHeld2 => ?_)
      clear hK hHeld
      have hHeld := hHeld2
      clear hHeld2 K
      try simp only [List.getElem_toArray, List.getElem_cons_succ, List.getElem_cons_zero, Act.put, List.setIfInBounds_toArray, List.set_cons_zero, List.set_cons_succ]
      have h6 := H2.out.below z3.2
      refine wpAnyH_ready (rs := [10]) (by kernel_rfl) (by simp) (AllReadyH.cons rfl (fun K hK => ?_) AllReadyH.nil)
      go_simp
      (go_at_call 30; (with_reducible refine (Kin.callK (W := (Kin.wd y2)) (by repeat (first | with_reducible (first | exact blA | exact blB | refine blC _ ?_ | refine blD ?_ ?_ _ | refine blE ?_ | refine blF _ ?_ | refine blG ?_ _ | refine blH ?_ | refine blI ?_ ?_ _) | (simp only [World.size_alloc]; omega) | (simp <;> omega))) (same_true _ _ _ _ _ _ l2 (n := nb) _ HNB.out h6 h5 (by omega))).mono ?_); rintro e w' ⟨z4, rfl, hz4, rfl⟩; skip)
      refine hK.out _ _ (by repeat (first | with_reducible (first | exact blA | exact blB | refine blC _ ?_ | refine blD ?_ ?_ _ | refine blE ?_ | refine blF _ ?_ | refine blG ?_ _ | refine blH ?_ | refine blI ?_ ?_ _) | (simp only [World.size_alloc]; omega) | (simp <;> omega))) (fun hHeld2 => ?_)
      clear hK hHeld
      have hHeld := hHeld2
      clear hHeld2 K
      try simp only [List.getElem_toArray, List.getElem_cons_succ, List.getElem_cons_zero, Act.put, List.setIfInBounds_toArray, List.set_cons_zero, List.set_cons_succ]
      refine wpAnyH_take (i := 11) (v := ?_) rfl (by kernel_rfl) (by kernel_rfl) (by kernel_rfl) (fun _ _ _ h => h) (Or.inl ⟨by kernel_rfl, ?_⟩) (by assumption) ?_
      rotate_left
      · (intro w' hSw; have s0 := (hSw.cell (p := ⟨W.heap.size, 0, none⟩) ls).trans (s0); have s1 := (hSw.cell (p := ⟨W.heap.size, 1, none⟩) ls).trans (s1); have s2 := (hSw.cell (p := ⟨W.heap.size, 2, none⟩) ls).trans (s2); have s3 := (hSw.cell (p := ⟨G5, 0, none⟩) la).trans (a0); have s4 := (hSw.cell (p := ⟨G5, 1, none⟩) la).trans (a1); have s5 := (hSw.cell (p := ⟨G5, 2, none⟩) la).trans (a2); have s6 := (hSw.cell (p := ⟨G6, 0, none⟩) lb).trans (b0); have s7 := (hSw.cell (p := ⟨G6, 1, none⟩) lb).trans (b1); have s8 := (hSw.cell (p := ⟨G6, 2, none⟩) lb).trans (b2); go_simp; try with_reducible rfl)
      try simp only [List.getElem_toArray, List.getElem_cons_succ, List.getElem_cons_zero, Act.put, List.setIfInBounds_toArray, List.set_cons_zero, List.set_cons_succ]
      refine wpAnyH_take (i := 12) (v := ?_) rfl (by kernel_rfl) (by kernel_rfl) (by kernel_rfl) (fun _ _ _ h => h) (Or.inl ⟨by kernel_rfl, ?_⟩) (by assumption) ?_
      rotate_left
      · (intro w' hSw; have s0 := (hSw.cell (p := ⟨W.heap.size, 0, none⟩) ls).trans (s0); have s1 := (hSw.cell (p := ⟨W.heap.size, 1, none⟩) ls).trans (s1); have s2 := (hSw.cell (p := ⟨W.heap.size, 2, none⟩) ls).trans (s2); have s3 := (hSw.cell (p := ⟨G5, 0, none⟩) la).trans (a0); have s4 := (hSw.cell (p := ⟨G5, 1, none⟩) la).trans (a1); have s5 := (hSw.cell (p := ⟨G5, 2, none⟩) la).trans (a2); have s6 := (hSw.cell (p := ⟨G6, 0, none⟩) lb).trans (b0); have s7 := (hSw.cell (p := ⟨G6, 1, none⟩) lb).trans (b1); have s8 := (hSw.cell (p := ⟨G6, 2, none⟩) lb).trans (b2); go_simp; try with_reducible rfl)
      try simp only [List.getElem_toArray, List.getElem_cons_succ, List.getElem_cons_zero, Act.put, List.setIfInBounds_toArray, List.set_cons_zero, List.set_cons_succ]
      refine wpAnyH_done (by kernel_rfl) ?_ _
      clear hHeld hz hz2 hz3 hz4 h3 h4 h5 h6
      cases hv : tval ((r, cl), l)
      · go_wp2_with (first
          | (go_at_call 11; (with_reducible refine (Kin.callK (W := (Kin.wd y2)) (by repeat (first | with_reducible (first | exact blA | exact blB | refine blC _ ?_ | refine blD ?_ ?_ _ | refine blE ?_ | refine blF _ ?_ | refine blG ?_ _ | refine blH ?_ | refine blI ?_ ?_ _) | (simp only [World.size_alloc]; omega) | (simp <;> omega))) (validT_is (b := false) (n := n) r cl _ _ l _ HL.out (HRy.out.below (by repeat (first | with_reducible (first | exact blA | exact blB | refine blC _ ?_ | refine blD ?_ ?_ _ | refine blE ?_ | refine blF _ ?_ | refine blG ?_ _ | refine blH ?_ | refine blI ?_ ?_ _) | (simp only [World.size_alloc]; omega) | (simp <;> omega)))) hv)).mono ?_); rintro e w' ⟨z, rfl, hz, rfl⟩)
          | (go_at_call 10; (with_reducible refine (Kin.callK (W := (Kin.wd y2)) (by repeat (first | with_reducible (first | exact blA | exact blB | refine blC _ ?_ | refine blD ?_ ?_ _ | refine blE ?_ | refine blF _ ?_ | refine blG ?_ _ | refine blH ?_ | refine blI ?_ ?_ _) | (simp only [World.size_alloc]; omega) | (simp <;> omega))) (awake23_any _)).mono ?_); rintro e w' ⟨z, rfl, hz, rfl⟩))
        go_ret
        exact ⟨rfl, HW2.out.trans (z.2.mono HW2.out.size)⟩
      · have HBA := Lib.hid (show revT ((r1, cl1), l1) = ((r, cl), l) by rw [← HRA.out]; exact revT_revT hv)
        have HBB := Lib.hid (show turnT ((r2, cl2), l2) (-i) = ((r, cl), l) by rw [← HRB.out]; exact turnT_back hv i)
        have wi : IntKind.i64.wrap (-i) = -i := IntWalk.i64_in _ (by omega)
        have hi2 : -1099511627776 ≤ -i ∧ -i ≤ 1099511627776 := by omega
        go_wp2_with (go_at_call 11; (with_reducible refine (Kin.callK (W := (Kin.wd y2)) (by repeat (first | with_reducible (first | exact blA | exact blB | refine blC _ ?_ | refine blD ?_ ?_ _ | refine blE ?_ | refine blF _ ?_ | refine blG ?_ _ | refine blH ?_ | refine blI ?_ ?_ _) | (simp only [World.size_alloc]; omega) | (simp <;> omega))) (validT_is (b := true) (n := n) r cl _ _ l _ HL.out (HRy.out.below (by repeat (first | with_reducible (first | exact blA | exact blB | refine blC _ ?_ | refine blD ?_ ?_ _ | refine blE ?_ | refine blF _ ?_ | refine blG ?_ _ | refine blH ?_ | refine blI ?_ ?_ _) | (simp only [World.size_alloc]; omega) | (simp <;> omega)))) hv)).mono ?_); rintro e w' ⟨z, rfl, hz, rfl⟩)
        obtain ⟨z5, hz5⟩ : ∃ z5 : Kin y2.1, z5 = z := ⟨_, rfl⟩
        rw [← hz5]
        clear hz5 hz
        refine wp_region_held_drew (S := fun w' => Below y2.1.heap.size y2.1 w') (by kernel_rfl) (by repeat (first | with_reducible (first | exact blA | exact blB | refine blC _ ?_ | refine blD ?_ ?_ _ | refine blE ?_ | refine blF _ ?_ | refine blG ?_ _ | refine blH ?_ | refine blI ?_ ?_ _) | (simp only [World.size_alloc]; omega) | (simp <;> omega))) (fun hHeld => ?_)
        try simp only [List.size_toArray, List.length_cons, List.length_nil, Nat.zero_add, Nat.reduceAdd, List.replicate, Array.replicate]
        refine wpAnyH_take (i := 0) (v := ?_) rfl (by kernel_rfl) (by kernel_rfl) (by kernel_rfl) (fun _ _ _ h => h) (Or.inl ⟨by kernel_rfl, ?_⟩) (by assumption) ?_
        rotate_left
        · (intro w' hSw; have s0 := (hSw.cell (p := ⟨W.heap.size, 0, none⟩) ls).trans (s0); have s1 := (hSw.cell (p := ⟨W.heap.size, 1, none⟩) ls).trans (s1); have s2 := (hSw.cell (p := ⟨W.heap.size, 2, none⟩) ls).trans (s2); have s3 := (hSw.cell (p := ⟨G5, 0, none⟩) la).trans (a0); have s4 := (hSw.cell (p := ⟨G5, 1, none⟩) la).trans (a1); have s5 := (hSw.cell (p := ⟨G5, 2, none⟩) la).trans (a2); have s6 := (hSw.cell (p := ⟨G6, 0, none⟩) lb).trans (b0); have s7 := (hSw.cell (p := ⟨G6, 1, none⟩) lb).trans (b1); have s8 := (hSw.cell (p := ⟨G6, 2, none⟩) lb).trans (b2); go_simp; try with_reducible rfl)
        try simp only [List.getElem_toArray, List.getElem_cons_succ, List.getElem_cons_zero, Act.put, List.setIfInBounds_toArray, List.set_cons_zero, List.set_cons_succ]
        refine wpAnyH_take (i := 2) (v := ?_) rfl (by kernel_rfl) (by kernel_rfl) (by kernel_rfl) (fun _ _ _ h => h) (Or.inl ⟨by kernel_rfl, ?_⟩) (by assumption) ?_
        rotate_left
        · (intro w' hSw; have s0 := (hSw.cell (p := ⟨W.heap.size, 0, none⟩) ls).trans (s0); have s1 := (hSw.cell (p := ⟨W.heap.size, 1, none⟩) ls).trans (s1); have s2 := (hSw.cell (p := ⟨W.heap.size, 2, none⟩) ls).trans (s2); have s3 := (hSw.cell (p := ⟨G5, 0, none⟩) la).trans (a0); have s4 := (hSw.cell (p := ⟨G5, 1, none⟩) la).trans (a1); have s5 := (hSw.cell (p := ⟨G5, 2, none⟩) la).trans (a2); have s6 := (hSw.cell (p := ⟨G6, 0, none⟩) lb).trans (b0); have s7 := (hSw.cell (p := ⟨G6, 1, none⟩) lb).trans (b1); have s8 := (hSw.cell (p := ⟨G6, 2, none⟩) lb).trans (b2); go_simp; try with_reducible rfl)
        try simp only [List.getElem_toArray, List.getElem_cons_succ, List.getElem_cons_zero, Act.put, List.setIfInBounds_toArray, List.set_cons_zero, List.set_cons_succ]
        refine wpAnyH_ready (rs := [1]) (by kernel_rfl) (by simp) (AllReadyH.cons rfl (fun K hK => ?_) AllReadyH.nil)
        go_simp
        (go_at_call 28; (with_reducible refine (Kin.callK (W := (Kin.wd y2)) (by repeat (first | with_reducible (first | exact blA | exact blB | refine blC _ ?_ | refine blD ?_ ?_ _ | refine blE ?_ | refine blF _ ?_ | refine blG ?_ _ | refine blH ?_ | refine blI ?_ ?_ _) | (simp only [World.size_alloc]; omega) | (simp <;> omega))) (rev_is r1 cl1 _ _ l1 (n := na) _ HNA.out (H1.out.below (by repeat (first | with_reducible (first | exact blA | exact blB | refine blC _ ?_ | refine blD ?_ ?_ _ | refine blE ?_ | refine blF _ ?_ | refine blG ?_ _ | refine blH ?_ | refine blI ?_ ?_ _) | (simp only [World.size_alloc]; omega) | (simp <;> omega)))) HBA.out HL.out)).mono ?_); rintro e w' ⟨z6, ⟨A5, c5, rfl, h5⟩, hz6, rfl⟩; skip)
        refine hK.out _ _ (by repeat (first | with_reducible (first | exact blA | exact blB | refine blC _ ?_ | refine blD ?_ ?_ _ | refine blE ?_ | refine blF _ ?_ | refine blG ?_ _ | refine blH ?_ | refine blI ?_ ?_ _) | (simp only [World.size_alloc]; omega) | (simp <;> omega))) (fun hHeld2 => ?_)
        clear hK hHeld
        have hHeld := hHeld2
        clear hHeld2 K
        try simp only [List.getElem_toArray, List.getElem_cons_succ, List.getElem_cons_zero, Act.put, List.setIfInBounds_toArray, List.set_cons_zero, List.set_cons_succ]
        have h6 := HRy.out.below z6.2
        refine wpAnyH_ready (rs := [3]) (by kernel_rfl) (by simp) (AllReadyH.cons rfl (fun K hK => ?_) AllReadyH.nil)
        go_simp
        (go_at_call 30; (with_reducible refine (Kin.callK (W := (Kin.wd y2)) (by repeat (first | with_reducible (first | exact blA | exact blB | refine blC _ ?_ | refine blD ?_ ?_ _ | refine blE ?_ | refine blF _ ?_ | refine blG ?_ _ | refine blH ?_ | refine blI ?_ ?_ _) | (simp only [World.size_alloc]; omega) | (simp <;> omega))) (same_true _ _ _ _ _ _ l (n := n) _ HL.out h5 h6 (by omega))).mono ?_); rintro e w' ⟨z7, rfl, hz7, rfl⟩; skip)
        refine hK.out _ _ (by repeat (first | with_reducible (first | exact blA | exact blB | refine blC _ ?_ | refine blD ?_ ?_ _ | refine blE ?_ | refine blF _ ?_ | refine blG ?_ _ | refine blH ?_ | refine blI ?_ ?_ _) | (simp only [World.size_alloc]; omega) | (simp <;> omega))) (fun hHeld2 => ?_)
        clear hK hHeld
        have hHeld := hHeld2
        clear hHeld2 K
        try simp only [List.getElem_toArray, List.getElem_cons_succ, List.getElem_cons_zero, Act.put, List.setIfInBounds_toArray, List.set_cons_zero, List.set_cons_succ]
        refine wpAnyH_take (i := 4) (v := ?_) rfl (by kernel_rfl) (by kernel_rfl) (by kernel_rfl) (fun _ _ _ h => h) (Or.inl ⟨by kernel_rfl, ?_⟩) (by assumption) ?_
        rotate_left
        · (intro w' hSw; have s0 := (hSw.cell (p := ⟨W.heap.size, 0, none⟩) ls).trans (s0); have s1 := (hSw.cell (p := ⟨W.heap.size, 1, none⟩) ls).trans (s1); have s2 := (hSw.cell (p := ⟨W.heap.size, 2, none⟩) ls).trans (s2); have s3 := (hSw.cell (p := ⟨G5, 0, none⟩) la).trans (a0); have s4 := (hSw.cell (p := ⟨G5, 1, none⟩) la).trans (a1); have s5 := (hSw.cell (p := ⟨G5, 2, none⟩) la).trans (a2); have s6 := (hSw.cell (p := ⟨G6, 0, none⟩) lb).trans (b0); have s7 := (hSw.cell (p := ⟨G6, 1, none⟩) lb).trans (b1); have s8 := (hSw.cell (p := ⟨G6, 2, none⟩) lb).trans (b2); go_simp; try with_reducible rfl)
        try simp only [List.getElem_toArray, List.getElem_cons_succ, List.getElem_cons_zero, Act.put, List.setIfInBounds_toArray, List.set_cons_zero, List.set_cons_succ]
        refine wpAnyH_take (i := 5) (v := ?_) rfl (by kernel_rfl) (by kernel_rfl) (by kernel_rfl) (fun _ _ _ h => h) (Or.inl ⟨by kernel_rfl, ?_⟩) (by assumption) ?_
        rotate_left
        · (intro w' hSw; have s0 := (hSw.cell (p := ⟨W.heap.size, 0, none⟩) ls).trans (s0); have s1 := (hSw.cell (p := ⟨W.heap.size, 1, none⟩) ls).trans (s1); have s2 := (hSw.cell (p := ⟨W.heap.size, 2, none⟩) ls).trans (s2); have s3 := (hSw.cell (p := ⟨G5, 0, none⟩) la).trans (a0); have s4 := (hSw.cell (p := ⟨G5, 1, none⟩) la).trans (a1); have s5 := (hSw.cell (p := ⟨G5, 2, none⟩) la).trans (a2); have s6 := (hSw.cell (p := ⟨G6, 0, none⟩) lb).trans (b0); have s7 := (hSw.cell (p := ⟨G6, 1, none⟩) lb).trans (b1); have s8 := (hSw.cell (p := ⟨G6, 2, none⟩) lb).trans (b2); go_simp; try with_reducible rfl)
        try simp only [List.getElem_toArray, List.getElem_cons_succ, List.getElem_cons_zero, Act.put, List.setIfInBounds_toArray, List.set_cons_zero, List.set_cons_succ]
        refine wpAnyH_take (i := 6) (v := ?_) rfl (by kernel_rfl) (by kernel_rfl) (by kernel_rfl) (fun _ _ _ h => h) (Or.inl ⟨by kernel_rfl, ?_⟩) (by assumption) ?_
        rotate_left
        · (intro w' hSw; have s0 := (hSw.cell (p := ⟨W.heap.size, 0, none⟩) ls).trans (s0); have s1 := (hSw.cell (p := ⟨W.heap.size, 1, none⟩) ls).trans (s1); have s2 := (hSw.cell (p := ⟨W.heap.size, 2, none⟩) ls).trans (s2); have s3 := (hSw.cell (p := ⟨G5, 0, none⟩) la).trans (a0); have s4 := (hSw.cell (p := ⟨G5, 1, none⟩) la).trans (a1); have s5 := (hSw.cell (p := ⟨G5, 2, none⟩) la).trans (a2); have s6 := (hSw.cell (p := ⟨G6, 0, none⟩) lb).trans (b0); have s7 := (hSw.cell (p := ⟨G6, 1, none⟩) lb).trans (b1); have s8 := (hSw.cell (p := ⟨G6, 2, none⟩) lb).trans (b2); go_simp; try with_reducible rfl)
        try simp only [List.getElem_toArray, List.getElem_cons_succ, List.getElem_cons_zero, Act.put, List.setIfInBounds_toArray, List.set_cons_zero, List.set_cons_succ]
        refine wpAnyH_take (i := 7) (v := ?_) rfl (by kernel_rfl) (by kernel_rfl) (by kernel_rfl) (fun _ _ _ h => h) (Or.inl ⟨by kernel_rfl, ?_⟩) (by assumption) ?_
        rotate_left
        · (intro w' hSw; have s0 := (hSw.cell (p := ⟨W.heap.size, 0, none⟩) ls).trans (s0); have s1 := (hSw.cell (p := ⟨W.heap.size, 1, none⟩) ls).trans (s1); have s2 := (hSw.cell (p := ⟨W.heap.size, 2, none⟩) ls).trans (s2); have s3 := (hSw.cell (p := ⟨G5, 0, none⟩) la).trans (a0); have s4 := (hSw.cell (p := ⟨G5, 1, none⟩) la).trans (a1); have s5 := (hSw.cell (p := ⟨G5, 2, none⟩) la).trans (a2); have s6 := (hSw.cell (p := ⟨G6, 0, none⟩) lb).trans (b0); have s7 := (hSw.cell (p := ⟨G6, 1, none⟩) lb).trans (b1); have s8 := (hSw.cell (p := ⟨G6, 2, none⟩) lb).trans (b2); go_simp; try with_reducible rfl)
        try simp only [List.getElem_toArray, List.getElem_cons_succ, List.getElem_cons_zero, Act.put, List.setIfInBounds_toArray, List.set_cons_zero, List.set_cons_succ]
        refine wpAnyH_take (i := 8) (v := ?_) rfl (by kernel_rfl) (by kernel_rfl) (by kernel_rfl) (fun _ _ _ h => h) (Or.inl ⟨by kernel_rfl, ?_⟩) (by assumption) ?_
        rotate_left
        · (intro w' hSw; have s0 := (hSw.cell (p := ⟨W.heap.size, 0, none⟩) ls).trans (s0); have s1 := (hSw.cell (p := ⟨W.heap.size, 1, none⟩) ls).trans (s1); have s2 := (hSw.cell (p := ⟨W.heap.size, 2, none⟩) ls).trans (s2); have s3 := (hSw.cell (p := ⟨G5, 0, none⟩) la).trans (a0); have s4 := (hSw.cell (p := ⟨G5, 1, none⟩) la).trans (a1); have s5 := (hSw.cell (p := ⟨G5, 2, none⟩) la).trans (a2); have s6 := (hSw.cell (p := ⟨G6, 0, none⟩) lb).trans (b0); have s7 := (hSw.cell (p := ⟨G6, 1, none⟩) lb).trans (b1); have s8 := (hSw.cell (p := ⟨G6, 2, none⟩) lb).trans (b2); go_simp; try with_reducible rfl)
        try simp only [List.getElem_toArray, List.getElem_cons_succ, List.getElem_cons_zero, Act.put, List.setIfInBounds_toArray, List.set_cons_zero, List.set_cons_succ]
        refine wpAnyH_take (i := 10) (v := ?_) rfl (by kernel_rfl) (by kernel_rfl) (by kernel_rfl) (fun _ _ _ h => h) (Or.inl ⟨by kernel_rfl, ?_⟩) (by assumption) ?_
        rotate_left
        · (intro w' hSw; have s0 := (hSw.cell (p := ⟨W.heap.size, 0, none⟩) ls).trans (s0); have s1 := (hSw.cell (p := ⟨W.heap.size, 1, none⟩) ls).trans (s1); have s2 := (hSw.cell (p := ⟨W.heap.size, 2, none⟩) ls).trans (s2); have s3 := (hSw.cell (p := ⟨G5, 0, none⟩) la).trans (a0); have s4 := (hSw.cell (p := ⟨G5, 1, none⟩) la).trans (a1); have s5 := (hSw.cell (p := ⟨G5, 2, none⟩) la).trans (a2); have s6 := (hSw.cell (p := ⟨G6, 0, none⟩) lb).trans (b0); have s7 := (hSw.cell (p := ⟨G6, 1, none⟩) lb).trans (b1); have s8 := (hSw.cell (p := ⟨G6, 2, none⟩) lb).trans (b2); go_simp; try with_reducible rfl)
        try simp only [List.getElem_toArray, List.getElem_cons_succ, List.getElem_cons_zero, Act.put, List.setIfInBounds_toArray, List.set_cons_zero, List.set_cons_succ]
        refine wpAnyH_ready (rs := [9]) (by kernel_rfl) (by simp) (AllReadyH.cons rfl (fun K hK => ?_) AllReadyH.nil)
        go_simp
        (go_at_call 29; (with_reducible refine (Kin.callK (W := (Kin.wd y2)) (by repeat (first | with_reducible (first | exact blA | exact blB | refine blC _ ?_ | refine blD ?_ ?_ _ | refine blE ?_ | refine blF _ ?_ | refine blG ?_ _ | refine blH ?_ | refine blI ?_ ?_ _) | (simp only [World.size_alloc]; omega) | (simp <;> omega))) (turn_is r2 cl2 _ _ l2 (-i) (n := nb) _ hi2 HNB.out (H2.out.below (by repeat (first | with_reducible (first | exact blA | exact blB | refine blC _ ?_ | refine blD ?_ ?_ _ | refine blE ?_ | refine blF _ ?_ | refine blG ?_ _ | refine blH ?_ | refine blI ?_ ?_ _) | (simp only [World.size_alloc]; omega) | (simp <;> omega)))) HBB.out HL.out)).mono ?_); rintro e w' ⟨z8, ⟨A6, c6, rfl, h7⟩, hz8, rfl⟩; skip)
        refine hK.out _ _ (by repeat (first | with_reducible (first | exact blA | exact blB | refine blC _ ?_ | refine blD ?_ ?_ _ | refine blE ?_ | refine blF _ ?_ | refine blG ?_ _ | refine blH ?_ | refine blI ?_ ?_ _) | (simp only [World.size_alloc]; omega) | (simp <;> omega))) (fun hHeld2 => ?_)
        clear hK hHeld
        have hHeld := hHeld2
        clear hHeld2 K
        try simp only [List.getElem_toArray, List.getElem_cons_succ, List.getElem_cons_zero, Act.put, List.setIfInBounds_toArray, List.set_cons_zero, List.set_cons_succ]
        have h8 := HRy.out.below z8.2
        refine wpAnyH_ready (rs := [11]) (by kernel_rfl) (by simp) (AllReadyH.cons rfl (fun K hK => ?_) AllReadyH.nil)
        go_simp
        (go_at_call 30; (with_reducible refine (Kin.callK (W := (Kin.wd y2)) (by repeat (first | with_reducible (first | exact blA | exact blB | refine blC _ ?_ | refine blD ?_ ?_ _ | refine blE ?_ | refine blF _ ?_ | refine blG ?_ _ | refine blH ?_ | refine blI ?_ ?_ _) | (simp only [World.size_alloc]; omega) | (simp <;> omega))) (same_true _ _ _ _ _ _ l (n := n) _ HL.out h7 h8 (by omega))).mono ?_); rintro e w' ⟨z9, rfl, hz9, rfl⟩; skip)
        refine hK.out _ _ (by repeat (first | with_reducible (first | exact blA | exact blB | refine blC _ ?_ | refine blD ?_ ?_ _ | refine blE ?_ | refine blF _ ?_ | refine blG ?_ _ | refine blH ?_ | refine blI ?_ ?_ _) | (simp only [World.size_alloc]; omega) | (simp <;> omega))) (fun hHeld2 => ?_)
        clear hK hHeld
        have hHeld := hHeld2
        clear hHeld2 K
        try simp only [List.getElem_toArray, List.getElem_cons_succ, List.getElem_cons_zero, Act.put, List.setIfInBounds_toArray, List.set_cons_zero, List.set_cons_succ]
        refine wpAnyH_take (i := 12) (v := ?_) rfl (by kernel_rfl) (by kernel_rfl) (by kernel_rfl) (fun _ _ _ h => h) (Or.inl ⟨by kernel_rfl, ?_⟩) (by assumption) ?_
        rotate_left
        · (intro w' hSw; have s0 := (hSw.cell (p := ⟨W.heap.size, 0, none⟩) ls).trans (s0); have s1 := (hSw.cell (p := ⟨W.heap.size, 1, none⟩) ls).trans (s1); have s2 := (hSw.cell (p := ⟨W.heap.size, 2, none⟩) ls).trans (s2); have s3 := (hSw.cell (p := ⟨G5, 0, none⟩) la).trans (a0); have s4 := (hSw.cell (p := ⟨G5, 1, none⟩) la).trans (a1); have s5 := (hSw.cell (p := ⟨G5, 2, none⟩) la).trans (a2); have s6 := (hSw.cell (p := ⟨G6, 0, none⟩) lb).trans (b0); have s7 := (hSw.cell (p := ⟨G6, 1, none⟩) lb).trans (b1); have s8 := (hSw.cell (p := ⟨G6, 2, none⟩) lb).trans (b2); go_simp; try with_reducible rfl)
        try simp only [List.getElem_toArray, List.getElem_cons_succ, List.getElem_cons_zero, Act.put, List.setIfInBounds_toArray, List.set_cons_zero, List.set_cons_succ]
        refine wpAnyH_take (i := 13) (v := ?_) rfl (by kernel_rfl) (by kernel_rfl) (by kernel_rfl) (fun _ _ _ h => h) (Or.inl ⟨by kernel_rfl, ?_⟩) (by assumption) ?_
        rotate_left
        · (intro w' hSw; have s0 := (hSw.cell (p := ⟨W.heap.size, 0, none⟩) ls).trans (s0); have s1 := (hSw.cell (p := ⟨W.heap.size, 1, none⟩) ls).trans (s1); have s2 := (hSw.cell (p := ⟨W.heap.size, 2, none⟩) ls).trans (s2); have s3 := (hSw.cell (p := ⟨G5, 0, none⟩) la).trans (a0); have s4 := (hSw.cell (p := ⟨G5, 1, none⟩) la).trans (a1); have s5 := (hSw.cell (p := ⟨G5, 2, none⟩) la).trans (a2); have s6 := (hSw.cell (p := ⟨G6, 0, none⟩) lb).trans (b0); have s7 := (hSw.cell (p := ⟨G6, 1, none⟩) lb).trans (b1); have s8 := (hSw.cell (p := ⟨G6, 2, none⟩) lb).trans (b2); go_simp; try with_reducible rfl)
        try simp only [List.getElem_toArray, List.getElem_cons_succ, List.getElem_cons_zero, Act.put, List.setIfInBounds_toArray, List.set_cons_zero, List.set_cons_succ]
        refine wpAnyH_done (by kernel_rfl) ?_ _
        clear hHeld hz6 hz7 hz8 hz9 h5 h6 h7 h8
        go_wp2_with fail
        have HT0 := Lib.hid (show RdTrs (z9.1.alloc (.cells #[.int .i64 r, .bool cl, .slice A n cap] 24)) (.slice (some ⟨z9.1.heap.size, 0, none⟩) 1 1) [((r, cl), l)] from lit_trs z9.1 [((r, cl), (A, n, cap))] [((r, cl), l)] 1 z9.1.heap.size (nest_snoc (nest0 _) rfl (HRy.out.below z9.2)) rfl (by decide) rfl)
        have hc0 : (cellsT [((r, cl), l)]).length ≤ 1099511627776 := by
          have := cellsT_len (l := [((r, cl), l)]) (m := 300) (fun t ht => by rw [List.mem_singleton] at ht; rw [ht]; simp only; rw [HL.out]; exact hg)
          simp only [List.length_singleton] at this; omega
        have hc1 : (cellsT [((r1, cl1), l1)]).length ≤ 1099511627776 := by
          have := cellsT_len (l := [((r1, cl1), l1)]) (m := 300) (fun t ht => by rw [List.mem_singleton] at ht; rw [ht]; simp only; rw [HNA.out]; exact hna3)
          simp only [List.length_singleton] at this; omega
        have hc2 : (cellsT [((r2, cl2), l2)]).length ≤ 1099511627776 := by
          have := cellsT_len (l := [((r2, cl2), l2)]) (m := 300) (fun t ht => by rw [List.mem_singleton] at ht; rw [ht]; simp only; rw [HNB.out]; exact hnb3)
          simp only [List.length_singleton] at this; omega
        (go_at_call 20; (with_reducible refine (Kin.callK (W := (Kin.wd y2)) (by repeat (first | with_reducible (first | exact blA | exact blB | refine blC _ ?_ | refine blD ?_ ?_ _ | refine blE ?_ | refine blF _ ?_ | refine blG ?_ _ | refine blH ?_ | refine blI ?_ ?_ _) | (simp only [World.size_alloc]; omega) | (simp <;> omega))) (cover_any _ [((r, cl), l)] _ HT0.out (by simp) hc0)).mono ?_); rintro e w' ⟨zA, ⟨AR, nR, cR, rfl, hR⟩, hzA, rfl⟩; skip)
        go_wp2_with fail
        obtain ⟨yC, hyC⟩ : ∃ yC : Kin y2.1, yC.1 = zA.1.alloc (.cells #[.slice AR nR cR] 37) := ⟨⟨zA.1.alloc _, (by repeat (first | with_reducible (first | exact blA | exact blB | refine blC _ ?_ | refine blD ?_ ?_ _ | refine blE ?_ | refine blF _ ?_ | refine blG ?_ _ | refine blH ?_ | refine blI ?_ ?_ _) | (simp only [World.size_alloc]; omega) | (simp <;> omega)))⟩, rfl⟩
        obtain ⟨g7, hg7⟩ : ∃ g, zA.1.heap.size = g := ⟨_, rfl⟩
        have B7 := Blk.new zA.1 37 #[.slice AR nR cR]
        rw [← hyC, hg7] at B7
        have HRC := Lib.hid (hR.below (show Below zA.1.heap.size zA.1 yC.1 from hyC ▸ Below.alloc (Below.refl _ _) (Nat.le_refl _) _))
        rw [← hyC, hg7]
        have g0 : yC.1.cell? ⟨g7, 0, none⟩ = some (.slice AR nR cR) := B7.cell 0
        have lg7 := B7.lt
        have ls7 : W.heap.size < yC.1.heap.size := Nat.lt_of_lt_of_le ls yC.2.size
        have la7 : G5 < yC.1.heap.size := Nat.lt_of_lt_of_le la yC.2.size
        have lb7 : G6 < yC.1.heap.size := Nat.lt_of_lt_of_le lb yC.2.size
        have HA7 := Lib.hid (H1.out.below yC.2)
        have HB7 := Lib.hid (H2.out.below yC.2)
        have HT7 := Lib.hid (HRy.out.below yC.2)
        have HVA := Lib.hid (show tval ((r1, cl1), l1) = true by rw [← HRA.out]; exact revT_ok hv)
        have HVB := Lib.hid (show tval ((r2, cl2), l2) = true by rw [← HRB.out]; exact turnT_ok hv i)
        obtain ⟨E, hE⟩ : ∃ E, stepsT ((r, cl), l) = E := ⟨_, rfl⟩
        have HEA := Lib.hid (show stepsT ((r1, cl1), l1) = E by rw [← HRA.out, ← hE]; exact revT_steps hv)
        have HEB := Lib.hid (show stepsT ((r2, cl2), l2) = E by rw [← HRB.out, ← hE]; exact turnT_steps hv i)
        have HET := Lib.hid hE
        have HCA := Lib.hid (show ofR (cellsT [((r1, cl1), l1)]) = ofR (cellsT [((r, cl), l)]) by rw [← HRA.out]; exact cover_rev hv)
        have HCB := Lib.hid (show ofR (cellsT [((r2, cl2), l2)]) = ofR (cellsT [((r, cl), l)]) by rw [← HRB.out]; exact cover_turn hv i)
        clear hyC hg7 B7 hR hzA HT0 hE
        refine wp_region_held_drew (S := fun w' => Below yC.1.heap.size yC.1 w') (by kernel_rfl) (by repeat (first | with_reducible (first | exact blA | exact blB | refine blC _ ?_ | refine blD ?_ ?_ _ | refine blE ?_ | refine blF _ ?_ | refine blG ?_ _ | refine blH ?_ | refine blI ?_ ?_ _) | (simp only [World.size_alloc]; omega) | (simp <;> omega))) (fun hHeld => ?_)
        try simp only [List.size_toArray, List.length_cons, List.length_nil, Nat.zero_add, Nat.reduceAdd, List.replicate, Array.replicate]
        refine wpAnyH_take (i := 0) (v := ?_) rfl (by kernel_rfl) (by kernel_rfl) (by kernel_rfl) (fun _ _ _ h => h) (Or.inl ⟨by kernel_rfl, ?_⟩) (by assumption) ?_
        rotate_left
        · (intro w' hSw; have s0 := (hSw.cell (p := ⟨W.heap.size, 0, none⟩) ls7).trans ((Kin.cell yC ls).trans s0); have s1 := (hSw.cell (p := ⟨W.heap.size, 1, none⟩) ls7).trans ((Kin.cell yC ls).trans s1); have s2 := (hSw.cell (p := ⟨W.heap.size, 2, none⟩) ls7).trans ((Kin.cell yC ls).trans s2); have s3 := (hSw.cell (p := ⟨G5, 0, none⟩) la7).trans ((Kin.cell yC la).trans a0); have s4 := (hSw.cell (p := ⟨G5, 1, none⟩) la7).trans ((Kin.cell yC la).trans a1); have s5 := (hSw.cell (p := ⟨G5, 2, none⟩) la7).trans ((Kin.cell yC la).trans a2); have s6 := (hSw.cell (p := ⟨G6, 0, none⟩) lb7).trans ((Kin.cell yC lb).trans b0); have s7 := (hSw.cell (p := ⟨G6, 1, none⟩) lb7).trans ((Kin.cell yC lb).trans b1); have s8 := (hSw.cell (p := ⟨G6, 2, none⟩) lb7).trans ((Kin.cell yC lb).trans b2); have s9 := (hSw.cell (p := ⟨g7, 0, none⟩) lg7).trans (g0); go_simp; try with_reducible rfl)
        try simp only [List.getElem_toArray, List.getElem_cons_succ, List.getElem_cons_zero, Act.put, List.setIfInBounds_toArray, List.set_cons_zero, List.set_cons_succ]
        refine wpAnyH_ready (rs := [1]) (by kernel_rfl) (by simp) (AllReadyH.cons rfl (fun K hK => ?_) AllReadyH.nil)
        go_simp
        (go_at_call 11; (with_reducible refine (Kin.callK (W := (Kin.wd yC)) (by repeat (first | with_reducible (first | exact blA | exact blB | refine blC _ ?_ | refine blD ?_ ?_ _ | refine blE ?_ | refine blF _ ?_ | refine blG ?_ _ | refine blH ?_ | refine blI ?_ ?_ _) | (simp only [World.size_alloc]; omega) | (simp <;> omega))) (validT_is (b := true) (n := na) r1 cl1 _ _ l1 _ HNA.out (HA7.out.below (by repeat (first | with_reducible (first | exact blA | exact blB | refine blC _ ?_ | refine blD ?_ ?_ _ | refine blE ?_ | refine blF _ ?_ | refine blG ?_ _ | refine blH ?_ | refine blI ?_ ?_ _) | (simp only [World.size_alloc]; omega) | (simp <;> omega)))) HVA.out)).mono ?_); rintro e w' ⟨z, rfl, hz, rfl⟩)
        refine hK.out _ _ (by repeat (first | with_reducible (first | exact blA | exact blB | refine blC _ ?_ | refine blD ?_ ?_ _ | refine blE ?_ | refine blF _ ?_ | refine blG ?_ _ | refine blH ?_ | refine blI ?_ ?_ _) | (simp only [World.size_alloc]; omega) | (simp <;> omega))) (fun hHeld2 => ?_)
        clear hK hHeld
        have hHeld := hHeld2
        clear hHeld2 K
        try simp only [List.getElem_toArray, List.getElem_cons_succ, List.getElem_cons_zero, Act.put, List.setIfInBounds_toArray, List.set_cons_zero, List.set_cons_succ]
        refine wpAnyH_take (i := 2) (v := ?_) rfl (by kernel_rfl) (by kernel_rfl) (by kernel_rfl) (fun _ _ _ h => h) (Or.inl ⟨by kernel_rfl, ?_⟩) (by assumption) ?_
        rotate_left
        · (intro w' hSw; have s0 := (hSw.cell (p := ⟨W.heap.size, 0, none⟩) ls7).trans ((Kin.cell yC ls).trans s0); have s1 := (hSw.cell (p := ⟨W.heap.size, 1, none⟩) ls7).trans ((Kin.cell yC ls).trans s1); have s2 := (hSw.cell (p := ⟨W.heap.size, 2, none⟩) ls7).trans ((Kin.cell yC ls).trans s2); have s3 := (hSw.cell (p := ⟨G5, 0, none⟩) la7).trans ((Kin.cell yC la).trans a0); have s4 := (hSw.cell (p := ⟨G5, 1, none⟩) la7).trans ((Kin.cell yC la).trans a1); have s5 := (hSw.cell (p := ⟨G5, 2, none⟩) la7).trans ((Kin.cell yC la).trans a2); have s6 := (hSw.cell (p := ⟨G6, 0, none⟩) lb7).trans ((Kin.cell yC lb).trans b0); have s7 := (hSw.cell (p := ⟨G6, 1, none⟩) lb7).trans ((Kin.cell yC lb).trans b1); have s8 := (hSw.cell (p := ⟨G6, 2, none⟩) lb7).trans ((Kin.cell yC lb).trans b2); have s9 := (hSw.cell (p := ⟨g7, 0, none⟩) lg7).trans (g0); go_simp; try with_reducible rfl)
        try simp only [List.getElem_toArray, List.getElem_cons_succ, List.getElem_cons_zero, Act.put, List.setIfInBounds_toArray, List.set_cons_zero, List.set_cons_succ]
        refine wpAnyH_take (i := 3) (v := ?_) rfl (by kernel_rfl) (by kernel_rfl) (by kernel_rfl) (fun _ _ _ h => h) (Or.inl ⟨by kernel_rfl, ?_⟩) (by assumption) ?_
        rotate_left
        · (intro w' hSw; have s0 := (hSw.cell (p := ⟨W.heap.size, 0, none⟩) ls7).trans ((Kin.cell yC ls).trans s0); have s1 := (hSw.cell (p := ⟨W.heap.size, 1, none⟩) ls7).trans ((Kin.cell yC ls).trans s1); have s2 := (hSw.cell (p := ⟨W.heap.size, 2, none⟩) ls7).trans ((Kin.cell yC ls).trans s2); have s3 := (hSw.cell (p := ⟨G5, 0, none⟩) la7).trans ((Kin.cell yC la).trans a0); have s4 := (hSw.cell (p := ⟨G5, 1, none⟩) la7).trans ((Kin.cell yC la).trans a1); have s5 := (hSw.cell (p := ⟨G5, 2, none⟩) la7).trans ((Kin.cell yC la).trans a2); have s6 := (hSw.cell (p := ⟨G6, 0, none⟩) lb7).trans ((Kin.cell yC lb).trans b0); have s7 := (hSw.cell (p := ⟨G6, 1, none⟩) lb7).trans ((Kin.cell yC lb).trans b1); have s8 := (hSw.cell (p := ⟨G6, 2, none⟩) lb7).trans ((Kin.cell yC lb).trans b2); have s9 := (hSw.cell (p := ⟨g7, 0, none⟩) lg7).trans (g0); go_simp; try with_reducible rfl)
        try simp only [List.getElem_toArray, List.getElem_cons_succ, List.getElem_cons_zero, Act.put, List.setIfInBounds_toArray, List.set_cons_zero, List.set_cons_succ]
        refine wpAnyH_ready (rs := [4]) (by kernel_rfl) (by simp) (AllReadyH.cons rfl (fun K hK => ?_) AllReadyH.nil)
        go_simp
        (go_at_call 11; (with_reducible refine (Kin.callK (W := (Kin.wd yC)) (by repeat (first | with_reducible (first | exact blA | exact blB | refine blC _ ?_ | refine blD ?_ ?_ _ | refine blE ?_ | refine blF _ ?_ | refine blG ?_ _ | refine blH ?_ | refine blI ?_ ?_ _) | (simp only [World.size_alloc]; omega) | (simp <;> omega))) (validT_is (b := true) (n := nb) r2 cl2 _ _ l2 _ HNB.out (HB7.out.below (by repeat (first | with_reducible (first | exact blA | exact blB | refine blC _ ?_ | refine blD ?_ ?_ _ | refine blE ?_ | refine blF _ ?_ | refine blG ?_ _ | refine blH ?_ | refine blI ?_ ?_ _) | (simp only [World.size_alloc]; omega) | (simp <;> omega)))) HVB.out)).mono ?_); rintro e w' ⟨z, rfl, hz, rfl⟩)
        refine hK.out _ _ (by repeat (first | with_reducible (first | exact blA | exact blB | refine blC _ ?_ | refine blD ?_ ?_ _ | refine blE ?_ | refine blF _ ?_ | refine blG ?_ _ | refine blH ?_ | refine blI ?_ ?_ _) | (simp only [World.size_alloc]; omega) | (simp <;> omega))) (fun hHeld2 => ?_)
        clear hK hHeld
        have hHeld := hHeld2
        clear hHeld2 K
        try simp only [List.getElem_toArray, List.getElem_cons_succ, List.getElem_cons_zero, Act.put, List.setIfInBounds_toArray, List.set_cons_zero, List.set_cons_succ]
        refine wpAnyH_take (i := 5) (v := ?_) rfl (by kernel_rfl) (by kernel_rfl) (by kernel_rfl) (fun _ _ _ h => h) (Or.inl ⟨by kernel_rfl, ?_⟩) (by assumption) ?_
        rotate_left
        · (intro w' hSw; have s0 := (hSw.cell (p := ⟨W.heap.size, 0, none⟩) ls7).trans ((Kin.cell yC ls).trans s0); have s1 := (hSw.cell (p := ⟨W.heap.size, 1, none⟩) ls7).trans ((Kin.cell yC ls).trans s1); have s2 := (hSw.cell (p := ⟨W.heap.size, 2, none⟩) ls7).trans ((Kin.cell yC ls).trans s2); have s3 := (hSw.cell (p := ⟨G5, 0, none⟩) la7).trans ((Kin.cell yC la).trans a0); have s4 := (hSw.cell (p := ⟨G5, 1, none⟩) la7).trans ((Kin.cell yC la).trans a1); have s5 := (hSw.cell (p := ⟨G5, 2, none⟩) la7).trans ((Kin.cell yC la).trans a2); have s6 := (hSw.cell (p := ⟨G6, 0, none⟩) lb7).trans ((Kin.cell yC lb).trans b0); have s7 := (hSw.cell (p := ⟨G6, 1, none⟩) lb7).trans ((Kin.cell yC lb).trans b1); have s8 := (hSw.cell (p := ⟨G6, 2, none⟩) lb7).trans ((Kin.cell yC lb).trans b2); have s9 := (hSw.cell (p := ⟨g7, 0, none⟩) lg7).trans (g0); go_simp; try with_reducible rfl)
        try simp only [List.getElem_toArray, List.getElem_cons_succ, List.getElem_cons_zero, Act.put, List.setIfInBounds_toArray, List.set_cons_zero, List.set_cons_succ]
        refine wpAnyH_take (i := 6) (v := ?_) rfl (by kernel_rfl) (by kernel_rfl) (by kernel_rfl) (fun _ _ _ h => h) (Or.inl ⟨by kernel_rfl, ?_⟩) (by assumption) ?_
        rotate_left
        · (intro w' hSw; have s0 := (hSw.cell (p := ⟨W.heap.size, 0, none⟩) ls7).trans ((Kin.cell yC ls).trans s0); have s1 := (hSw.cell (p := ⟨W.heap.size, 1, none⟩) ls7).trans ((Kin.cell yC ls).trans s1); have s2 := (hSw.cell (p := ⟨W.heap.size, 2, none⟩) ls7).trans ((Kin.cell yC ls).trans s2); have s3 := (hSw.cell (p := ⟨G5, 0, none⟩) la7).trans ((Kin.cell yC la).trans a0); have s4 := (hSw.cell (p := ⟨G5, 1, none⟩) la7).trans ((Kin.cell yC la).trans a1); have s5 := (hSw.cell (p := ⟨G5, 2, none⟩) la7).trans ((Kin.cell yC la).trans a2); have s6 := (hSw.cell (p := ⟨G6, 0, none⟩) lb7).trans ((Kin.cell yC lb).trans b0); have s7 := (hSw.cell (p := ⟨G6, 1, none⟩) lb7).trans ((Kin.cell yC lb).trans b1); have s8 := (hSw.cell (p := ⟨G6, 2, none⟩) lb7).trans ((Kin.cell yC lb).trans b2); have s9 := (hSw.cell (p := ⟨g7, 0, none⟩) lg7).trans (g0); go_simp; try with_reducible rfl)
        try simp only [List.getElem_toArray, List.getElem_cons_succ, List.getElem_cons_zero, Act.put, List.setIfInBounds_toArray, List.set_cons_zero, List.set_cons_succ]
        refine wpAnyH_take (i := 7) (v := ?_) rfl (by kernel_rfl) (by kernel_rfl) (by kernel_rfl) (fun _ _ _ h => h) (Or.inl ⟨by kernel_rfl, ?_⟩) (by assumption) ?_
        rotate_left
        · (intro w' hSw; have s0 := (hSw.cell (p := ⟨W.heap.size, 0, none⟩) ls7).trans ((Kin.cell yC ls).trans s0); have s1 := (hSw.cell (p := ⟨W.heap.size, 1, none⟩) ls7).trans ((Kin.cell yC ls).trans s1); have s2 := (hSw.cell (p := ⟨W.heap.size, 2, none⟩) ls7).trans ((Kin.cell yC ls).trans s2); have s3 := (hSw.cell (p := ⟨G5, 0, none⟩) la7).trans ((Kin.cell yC la).trans a0); have s4 := (hSw.cell (p := ⟨G5, 1, none⟩) la7).trans ((Kin.cell yC la).trans a1); have s5 := (hSw.cell (p := ⟨G5, 2, none⟩) la7).trans ((Kin.cell yC la).trans a2); have s6 := (hSw.cell (p := ⟨G6, 0, none⟩) lb7).trans ((Kin.cell yC lb).trans b0); have s7 := (hSw.cell (p := ⟨G6, 1, none⟩) lb7).trans ((Kin.cell yC lb).trans b1); have s8 := (hSw.cell (p := ⟨G6, 2, none⟩) lb7).trans ((Kin.cell yC lb).trans b2); have s9 := (hSw.cell (p := ⟨g7, 0, none⟩) lg7).trans (g0); go_simp; try with_reducible rfl)
        try simp only [List.getElem_toArray, List.getElem_cons_succ, List.getElem_cons_zero, Act.put, List.setIfInBounds_toArray, List.set_cons_zero, List.set_cons_succ]
        refine wpAnyH_take (i := 9) (v := ?_) rfl (by kernel_rfl) (by kernel_rfl) (by kernel_rfl) (fun _ _ _ h => h) (Or.inl ⟨by kernel_rfl, ?_⟩) (by assumption) ?_
        rotate_left
        · (intro w' hSw; have s0 := (hSw.cell (p := ⟨W.heap.size, 0, none⟩) ls7).trans ((Kin.cell yC ls).trans s0); have s1 := (hSw.cell (p := ⟨W.heap.size, 1, none⟩) ls7).trans ((Kin.cell yC ls).trans s1); have s2 := (hSw.cell (p := ⟨W.heap.size, 2, none⟩) ls7).trans ((Kin.cell yC ls).trans s2); have s3 := (hSw.cell (p := ⟨G5, 0, none⟩) la7).trans ((Kin.cell yC la).trans a0); have s4 := (hSw.cell (p := ⟨G5, 1, none⟩) la7).trans ((Kin.cell yC la).trans a1); have s5 := (hSw.cell (p := ⟨G5, 2, none⟩) la7).trans ((Kin.cell yC la).trans a2); have s6 := (hSw.cell (p := ⟨G6, 0, none⟩) lb7).trans ((Kin.cell yC lb).trans b0); have s7 := (hSw.cell (p := ⟨G6, 1, none⟩) lb7).trans ((Kin.cell yC lb).trans b1); have s8 := (hSw.cell (p := ⟨G6, 2, none⟩) lb7).trans ((Kin.cell yC lb).trans b2); have s9 := (hSw.cell (p := ⟨g7, 0, none⟩) lg7).trans (g0); go_simp; try with_reducible rfl)
        try simp only [List.getElem_toArray, List.getElem_cons_succ, List.getElem_cons_zero, Act.put, List.setIfInBounds_toArray, List.set_cons_zero, List.set_cons_succ]
        refine wpAnyH_ready (rs := [8]) (by kernel_rfl) (by simp) (AllReadyH.cons rfl (fun K hK => ?_) AllReadyH.nil)
        go_simp
        (go_at_call 13; (with_reducible refine (Kin.callK (W := (Kin.wd yC)) (by repeat (first | with_reducible (first | exact blA | exact blB | refine blC _ ?_ | refine blD ?_ ?_ _ | refine blE ?_ | refine blF _ ?_ | refine blG ?_ _ | refine blH ?_ | refine blI ?_ ?_ _) | (simp only [World.size_alloc]; omega) | (simp <;> omega))) (steps_is (E := E) (n := na) r1 cl1 _ _ l1 _ HNA.out (HA7.out.below (by repeat (first | with_reducible (first | exact blA | exact blB | refine blC _ ?_ | refine blD ?_ ?_ _ | refine blE ?_ | refine blF _ ?_ | refine blG ?_ _ | refine blH ?_ | refine blI ?_ ?_ _) | (simp only [World.size_alloc]; omega) | (simp <;> omega)))) HEA.out)).mono ?_); rintro e w' ⟨z, rfl, hz, rfl⟩)
        refine hK.out _ _ (by repeat (first | with_reducible (first | exact blA | exact blB | refine blC _ ?_ | refine blD ?_ ?_ _ | refine blE ?_ | refine blF _ ?_ | refine blG ?_ _ | refine blH ?_ | refine blI ?_ ?_ _) | (simp only [World.size_alloc]; omega) | (simp <;> omega))) (fun hHeld2 => ?_)
        clear hK hHeld
        have hHeld := hHeld2
        clear hHeld2 K
        try simp only [List.getElem_toArray, List.getElem_cons_succ, List.getElem_cons_zero, Act.put, List.setIfInBounds_toArray, List.set_cons_zero, List.set_cons_succ]
        refine wpAnyH_ready (rs := [10]) (by kernel_rfl) (by simp) (AllReadyH.cons rfl (fun K hK => ?_) AllReadyH.nil)
        go_simp
        (go_at_call 13; (with_reducible refine (Kin.callK (W := (Kin.wd yC)) (by repeat (first | with_reducible (first | exact blA | exact blB | refine blC _ ?_ | refine blD ?_ ?_ _ | refine blE ?_ | refine blF _ ?_ | refine blG ?_ _ | refine blH ?_ | refine blI ?_ ?_ _) | (simp only [World.size_alloc]; omega) | (simp <;> omega))) (steps_is (E := E) (n := n) r cl _ _ l _ HL.out (HT7.out.below (by repeat (first | with_reducible (first | exact blA | exact blB | refine blC _ ?_ | refine blD ?_ ?_ _ | refine blE ?_ | refine blF _ ?_ | refine blG ?_ _ | refine blH ?_ | refine blI ?_ ?_ _) | (simp only [World.size_alloc]; omega) | (simp <;> omega)))) HET.out)).mono ?_); rintro e w' ⟨z, rfl, hz, rfl⟩)
        refine hK.out _ _ (by repeat (first | with_reducible (first | exact blA | exact blB | refine blC _ ?_ | refine blD ?_ ?_ _ | refine blE ?_ | refine blF _ ?_ | refine blG ?_ _ | refine blH ?_ | refine blI ?_ ?_ _) | (simp only [World.size_alloc]; omega) | (simp <;> omega))) (fun hHeld2 => ?_)
        clear hK hHeld
        have hHeld := hHeld2
        clear hHeld2 K
        try simp only [List.getElem_toArray, List.getElem_cons_succ, List.getElem_cons_zero, Act.put, List.setIfInBounds_toArray, List.set_cons_zero, List.set_cons_succ]
        refine wpAnyH_take (i := 11) (v := ?_) rfl (by kernel_rfl) (by kernel_rfl) (by kernel_rfl) (fun _ _ _ h => h) (Or.inl ⟨by kernel_rfl, ?_⟩) (by assumption) ?_
        rotate_left
        · (intro w' hSw; have s0 := (hSw.cell (p := ⟨W.heap.size, 0, none⟩) ls7).trans ((Kin.cell yC ls).trans s0); have s1 := (hSw.cell (p := ⟨W.heap.size, 1, none⟩) ls7).trans ((Kin.cell yC ls).trans s1); have s2 := (hSw.cell (p := ⟨W.heap.size, 2, none⟩) ls7).trans ((Kin.cell yC ls).trans s2); have s3 := (hSw.cell (p := ⟨G5, 0, none⟩) la7).trans ((Kin.cell yC la).trans a0); have s4 := (hSw.cell (p := ⟨G5, 1, none⟩) la7).trans ((Kin.cell yC la).trans a1); have s5 := (hSw.cell (p := ⟨G5, 2, none⟩) la7).trans ((Kin.cell yC la).trans a2); have s6 := (hSw.cell (p := ⟨G6, 0, none⟩) lb7).trans ((Kin.cell yC lb).trans b0); have s7 := (hSw.cell (p := ⟨G6, 1, none⟩) lb7).trans ((Kin.cell yC lb).trans b1); have s8 := (hSw.cell (p := ⟨G6, 2, none⟩) lb7).trans ((Kin.cell yC lb).trans b2); have s9 := (hSw.cell (p := ⟨g7, 0, none⟩) lg7).trans (g0); go_simp; try with_reducible rfl)
        try simp only [List.getElem_toArray, List.getElem_cons_succ, List.getElem_cons_zero, Act.put, List.setIfInBounds_toArray, List.set_cons_zero, List.set_cons_succ]
        refine wpAnyH_take (i := 12) (v := ?_) rfl (by kernel_rfl) (by kernel_rfl) (by kernel_rfl) (fun _ _ _ h => h) (Or.inl ⟨by kernel_rfl, ?_⟩) (by assumption) ?_
        rotate_left
        · (intro w' hSw; have s0 := (hSw.cell (p := ⟨W.heap.size, 0, none⟩) ls7).trans ((Kin.cell yC ls).trans s0); have s1 := (hSw.cell (p := ⟨W.heap.size, 1, none⟩) ls7).trans ((Kin.cell yC ls).trans s1); have s2 := (hSw.cell (p := ⟨W.heap.size, 2, none⟩) ls7).trans ((Kin.cell yC ls).trans s2); have s3 := (hSw.cell (p := ⟨G5, 0, none⟩) la7).trans ((Kin.cell yC la).trans a0); have s4 := (hSw.cell (p := ⟨G5, 1, none⟩) la7).trans ((Kin.cell yC la).trans a1); have s5 := (hSw.cell (p := ⟨G5, 2, none⟩) la7).trans ((Kin.cell yC la).trans a2); have s6 := (hSw.cell (p := ⟨G6, 0, none⟩) lb7).trans ((Kin.cell yC lb).trans b0); have s7 := (hSw.cell (p := ⟨G6, 1, none⟩) lb7).trans ((Kin.cell yC lb).trans b1); have s8 := (hSw.cell (p := ⟨G6, 2, none⟩) lb7).trans ((Kin.cell yC lb).trans b2); have s9 := (hSw.cell (p := ⟨g7, 0, none⟩) lg7).trans (g0); go_simp; try with_reducible rfl)
        try simp only [List.getElem_toArray, List.getElem_cons_succ, List.getElem_cons_zero, Act.put, List.setIfInBounds_toArray, List.set_cons_zero, List.set_cons_succ]
        refine wpAnyH_take (i := 13) (v := ?_) rfl (by kernel_rfl) (by kernel_rfl) (by kernel_rfl) (fun _ _ _ h => h) (Or.inl ⟨by kernel_rfl, ?_⟩) (by assumption) ?_
        rotate_left
        · (intro w' hSw; have s0 := (hSw.cell (p := ⟨W.heap.size, 0, none⟩) ls7).trans ((Kin.cell yC ls).trans s0); have s1 := (hSw.cell (p := ⟨W.heap.size, 1, none⟩) ls7).trans ((Kin.cell yC ls).trans s1); have s2 := (hSw.cell (p := ⟨W.heap.size, 2, none⟩) ls7).trans ((Kin.cell yC ls).trans s2); have s3 := (hSw.cell (p := ⟨G5, 0, none⟩) la7).trans ((Kin.cell yC la).trans a0); have s4 := (hSw.cell (p := ⟨G5, 1, none⟩) la7).trans ((Kin.cell yC la).trans a1); have s5 := (hSw.cell (p := ⟨G5, 2, none⟩) la7).trans ((Kin.cell yC la).trans a2); have s6 := (hSw.cell (p := ⟨G6, 0, none⟩) lb7).trans ((Kin.cell yC lb).trans b0); have s7 := (hSw.cell (p := ⟨G6, 1, none⟩) lb7).trans ((Kin.cell yC lb).trans b1); have s8 := (hSw.cell (p := ⟨G6, 2, none⟩) lb7).trans ((Kin.cell yC lb).trans b2); have s9 := (hSw.cell (p := ⟨g7, 0, none⟩) lg7).trans (g0); go_simp; try with_reducible rfl)
        try simp only [List.getElem_toArray, List.getElem_cons_succ, List.getElem_cons_zero, Act.put, List.setIfInBounds_toArray, List.set_cons_zero, List.set_cons_succ]
        refine wpAnyH_take (i := 14) (v := ?_) rfl (by kernel_rfl) (by kernel_rfl) (by kernel_rfl) (fun _ _ _ h => h) (Or.inl ⟨by kernel_rfl, ?_⟩) (by assumption) ?_
        rotate_left
        · (intro w' hSw; have s0 := (hSw.cell (p := ⟨W.heap.size, 0, none⟩) ls7).trans ((Kin.cell yC ls).trans s0); have s1 := (hSw.cell (p := ⟨W.heap.size, 1, none⟩) ls7).trans ((Kin.cell yC ls).trans s1); have s2 := (hSw.cell (p := ⟨W.heap.size, 2, none⟩) ls7).trans ((Kin.cell yC ls).trans s2); have s3 := (hSw.cell (p := ⟨G5, 0, none⟩) la7).trans ((Kin.cell yC la).trans a0); have s4 := (hSw.cell (p := ⟨G5, 1, none⟩) la7).trans ((Kin.cell yC la).trans a1); have s5 := (hSw.cell (p := ⟨G5, 2, none⟩) la7).trans ((Kin.cell yC la).trans a2); have s6 := (hSw.cell (p := ⟨G6, 0, none⟩) lb7).trans ((Kin.cell yC lb).trans b0); have s7 := (hSw.cell (p := ⟨G6, 1, none⟩) lb7).trans ((Kin.cell yC lb).trans b1); have s8 := (hSw.cell (p := ⟨G6, 2, none⟩) lb7).trans ((Kin.cell yC lb).trans b2); have s9 := (hSw.cell (p := ⟨g7, 0, none⟩) lg7).trans (g0); go_simp; try with_reducible rfl)
        try simp only [List.getElem_toArray, List.getElem_cons_succ, List.getElem_cons_zero, Act.put, List.setIfInBounds_toArray, List.set_cons_zero, List.set_cons_succ]
        refine wpAnyH_take (i := 16) (v := ?_) rfl (by kernel_rfl) (by kernel_rfl) (by kernel_rfl) (fun _ _ _ h => h) (Or.inl ⟨by kernel_rfl, ?_⟩) (by assumption) ?_
        rotate_left
        · (intro w' hSw; have s0 := (hSw.cell (p := ⟨W.heap.size, 0, none⟩) ls7).trans ((Kin.cell yC ls).trans s0); have s1 := (hSw.cell (p := ⟨W.heap.size, 1, none⟩) ls7).trans ((Kin.cell yC ls).trans s1); have s2 := (hSw.cell (p := ⟨W.heap.size, 2, none⟩) ls7).trans ((Kin.cell yC ls).trans s2); have s3 := (hSw.cell (p := ⟨G5, 0, none⟩) la7).trans ((Kin.cell yC la).trans a0); have s4 := (hSw.cell (p := ⟨G5, 1, none⟩) la7).trans ((Kin.cell yC la).trans a1); have s5 := (hSw.cell (p := ⟨G5, 2, none⟩) la7).trans ((Kin.cell yC la).trans a2); have s6 := (hSw.cell (p := ⟨G6, 0, none⟩) lb7).trans ((Kin.cell yC lb).trans b0); have s7 := (hSw.cell (p := ⟨G6, 1, none⟩) lb7).trans ((Kin.cell yC lb).trans b1); have s8 := (hSw.cell (p := ⟨G6, 2, none⟩) lb7).trans ((Kin.cell yC lb).trans b2); have s9 := (hSw.cell (p := ⟨g7, 0, none⟩) lg7).trans (g0); go_simp; try with_reducible rfl)
        try simp only [List.getElem_toArray, List.getElem_cons_succ, List.getElem_cons_zero, Act.put, List.setIfInBounds_toArray, List.set_cons_zero, List.set_cons_succ]
        refine wpAnyH_ready (rs := [15]) (by kernel_rfl) (by simp) (AllReadyH.cons rfl (fun K hK => ?_) AllReadyH.nil)
        go_simp
        (go_at_call 13; (with_reducible refine (Kin.callK (W := (Kin.wd yC)) (by repeat (first | with_reducible (first | exact blA | exact blB | refine blC _ ?_ | refine blD ?_ ?_ _ | refine blE ?_ | refine blF _ ?_ | refine blG ?_ _ | refine blH ?_ | refine blI ?_ ?_ _) | (simp only [World.size_alloc]; omega) | (simp <;> omega))) (steps_is (E := E) (n := nb) r2 cl2 _ _ l2 _ HNB.out (HB7.out.below (by repeat (first | with_reducible (first | exact blA | exact blB | refine blC _ ?_ | refine blD ?_ ?_ _ | refine blE ?_ | refine blF _ ?_ | refine blG ?_ _ | refine blH ?_ | refine blI ?_ ?_ _) | (simp only [World.size_alloc]; omega) | (simp <;> omega)))) HEB.out)).mono ?_); rintro e w' ⟨z, rfl, hz, rfl⟩)
        refine hK.out _ _ (by repeat (first | with_reducible (first | exact blA | exact blB | refine blC _ ?_ | refine blD ?_ ?_ _ | refine blE ?_ | refine blF _ ?_ | refine blG ?_ _ | refine blH ?_ | refine blI ?_ ?_ _) | (simp only [World.size_alloc]; omega) | (simp <;> omega))) (fun hHeld2 => ?_)
        clear hK hHeld
        have hHeld := hHeld2
        clear hHeld2 K
        try simp only [List.getElem_toArray, List.getElem_cons_succ, List.getElem_cons_zero, Act.put, List.setIfInBounds_toArray, List.set_cons_zero, List.set_cons_succ]
        refine wpAnyH_ready (rs := [17]) (by kernel_rfl) (by simp) (AllReadyH.cons rfl (fun K hK => ?_) AllReadyH.nil)
        go_simp
        (go_at_call 13; (with_reducible refine (Kin.callK (W := (Kin.wd yC)) (by repeat (first | with_reducible (first | exact blA | exact blB | refine blC _ ?_ | refine blD ?_ ?_ _ | refine blE ?_ | refine blF _ ?_ | refine blG ?_ _ | refine blH ?_ | refine blI ?_ ?_ _) | (simp only [World.size_alloc]; omega) | (simp <;> omega))) (steps_is (E := E) (n := n) r cl _ _ l _ HL.out (HT7.out.below (by repeat (first | with_reducible (first | exact blA | exact blB | refine blC _ ?_ | refine blD ?_ ?_ _ | refine blE ?_ | refine blF _ ?_ | refine blG ?_ _ | refine blH ?_ | refine blI ?_ ?_ _) | (simp only [World.size_alloc]; omega) | (simp <;> omega)))) HET.out)).mono ?_); rintro e w' ⟨zB, rfl, hzB, rfl⟩; skip)
        refine hK.out _ _ (by repeat (first | with_reducible (first | exact blA | exact blB | refine blC _ ?_ | refine blD ?_ ?_ _ | refine blE ?_ | refine blF _ ?_ | refine blG ?_ _ | refine blH ?_ | refine blI ?_ ?_ _) | (simp only [World.size_alloc]; omega) | (simp <;> omega))) (fun hHeld2 => ?_)
        clear hK hHeld
        have hHeld := hHeld2
        clear hHeld2 K
        try simp only [List.getElem_toArray, List.getElem_cons_succ, List.getElem_cons_zero, Act.put, List.setIfInBounds_toArray, List.set_cons_zero, List.set_cons_succ]
        refine wpAnyH_take (i := 18) (v := ?_) rfl (by kernel_rfl) (by kernel_rfl) (by kernel_rfl) (fun _ _ _ h => h) (Or.inl ⟨by kernel_rfl, ?_⟩) (by assumption) ?_
        rotate_left
        · (intro w' hSw; have s0 := (hSw.cell (p := ⟨W.heap.size, 0, none⟩) ls7).trans ((Kin.cell yC ls).trans s0); have s1 := (hSw.cell (p := ⟨W.heap.size, 1, none⟩) ls7).trans ((Kin.cell yC ls).trans s1); have s2 := (hSw.cell (p := ⟨W.heap.size, 2, none⟩) ls7).trans ((Kin.cell yC ls).trans s2); have s3 := (hSw.cell (p := ⟨G5, 0, none⟩) la7).trans ((Kin.cell yC la).trans a0); have s4 := (hSw.cell (p := ⟨G5, 1, none⟩) la7).trans ((Kin.cell yC la).trans a1); have s5 := (hSw.cell (p := ⟨G5, 2, none⟩) la7).trans ((Kin.cell yC la).trans a2); have s6 := (hSw.cell (p := ⟨G6, 0, none⟩) lb7).trans ((Kin.cell yC lb).trans b0); have s7 := (hSw.cell (p := ⟨G6, 1, none⟩) lb7).trans ((Kin.cell yC lb).trans b1); have s8 := (hSw.cell (p := ⟨G6, 2, none⟩) lb7).trans ((Kin.cell yC lb).trans b2); have s9 := (hSw.cell (p := ⟨g7, 0, none⟩) lg7).trans (g0); go_simp; try with_reducible rfl)
        try simp only [List.getElem_toArray, List.getElem_cons_succ, List.getElem_cons_zero, Act.put, List.setIfInBounds_toArray, List.set_cons_zero, List.set_cons_succ]
        refine wpAnyH_take (i := 19) (v := ?_) rfl (by kernel_rfl) (by kernel_rfl) (by kernel_rfl) (fun _ _ _ h => h) (Or.inl ⟨by kernel_rfl, ?_⟩) (by assumption) ?_
        rotate_left
        · (intro w' hSw; have s0 := (hSw.cell (p := ⟨W.heap.size, 0, none⟩) ls7).trans ((Kin.cell yC ls).trans s0); have s1 := (hSw.cell (p := ⟨W.heap.size, 1, none⟩) ls7).trans ((Kin.cell yC ls).trans s1); have s2 := (hSw.cell (p := ⟨W.heap.size, 2, none⟩) ls7).trans ((Kin.cell yC ls).trans s2); have s3 := (hSw.cell (p := ⟨G5, 0, none⟩) la7).trans ((Kin.cell yC la).trans a0); have s4 := (hSw.cell (p := ⟨G5, 1, none⟩) la7).trans ((Kin.cell yC la).trans a1); have s5 := (hSw.cell (p := ⟨G5, 2, none⟩) la7).trans ((Kin.cell yC la).trans a2); have s6 := (hSw.cell (p := ⟨G6, 0, none⟩) lb7).trans ((Kin.cell yC lb).trans b0); have s7 := (hSw.cell (p := ⟨G6, 1, none⟩) lb7).trans ((Kin.cell yC lb).trans b1); have s8 := (hSw.cell (p := ⟨G6, 2, none⟩) lb7).trans ((Kin.cell yC lb).trans b2); have s9 := (hSw.cell (p := ⟨g7, 0, none⟩) lg7).trans (g0); go_simp; try with_reducible rfl)
        try simp only [List.getElem_toArray, List.getElem_cons_succ, List.getElem_cons_zero, Act.put, List.setIfInBounds_toArray, List.set_cons_zero, List.set_cons_succ]
        refine wpAnyH_take (i := 20) (v := ?_) rfl (by kernel_rfl) (by kernel_rfl) (by kernel_rfl) (fun _ _ _ h => h) (Or.inl ⟨by kernel_rfl, ?_⟩) (by assumption) ?_
        rotate_left
        · (intro w' hSw; have s0 := (hSw.cell (p := ⟨W.heap.size, 0, none⟩) ls7).trans ((Kin.cell yC ls).trans s0); have s1 := (hSw.cell (p := ⟨W.heap.size, 1, none⟩) ls7).trans ((Kin.cell yC ls).trans s1); have s2 := (hSw.cell (p := ⟨W.heap.size, 2, none⟩) ls7).trans ((Kin.cell yC ls).trans s2); have s3 := (hSw.cell (p := ⟨G5, 0, none⟩) la7).trans ((Kin.cell yC la).trans a0); have s4 := (hSw.cell (p := ⟨G5, 1, none⟩) la7).trans ((Kin.cell yC la).trans a1); have s5 := (hSw.cell (p := ⟨G5, 2, none⟩) la7).trans ((Kin.cell yC la).trans a2); have s6 := (hSw.cell (p := ⟨G6, 0, none⟩) lb7).trans ((Kin.cell yC lb).trans b0); have s7 := (hSw.cell (p := ⟨G6, 1, none⟩) lb7).trans ((Kin.cell yC lb).trans b1); have s8 := (hSw.cell (p := ⟨G6, 2, none⟩) lb7).trans ((Kin.cell yC lb).trans b2); have s9 := (hSw.cell (p := ⟨g7, 0, none⟩) lg7).trans (g0); go_simp; try with_reducible rfl)
        try simp only [List.getElem_toArray, List.getElem_cons_succ, List.getElem_cons_zero, Act.put, List.setIfInBounds_toArray, List.set_cons_zero, List.set_cons_succ]
        refine wpAnyH_take (i := 21) (v := ?_) rfl (by kernel_rfl) (by kernel_rfl) (by kernel_rfl) (fun _ _ _ h => h) (Or.inl ⟨by kernel_rfl, ?_⟩) (by assumption) ?_
        rotate_left
        · (intro w' hSw; have s0 := (hSw.cell (p := ⟨W.heap.size, 0, none⟩) ls7).trans ((Kin.cell yC ls).trans s0); have s1 := (hSw.cell (p := ⟨W.heap.size, 1, none⟩) ls7).trans ((Kin.cell yC ls).trans s1); have s2 := (hSw.cell (p := ⟨W.heap.size, 2, none⟩) ls7).trans ((Kin.cell yC ls).trans s2); have s3 := (hSw.cell (p := ⟨G5, 0, none⟩) la7).trans ((Kin.cell yC la).trans a0); have s4 := (hSw.cell (p := ⟨G5, 1, none⟩) la7).trans ((Kin.cell yC la).trans a1); have s5 := (hSw.cell (p := ⟨G5, 2, none⟩) la7).trans ((Kin.cell yC la).trans a2); have s6 := (hSw.cell (p := ⟨G6, 0, none⟩) lb7).trans ((Kin.cell yC lb).trans b0); have s7 := (hSw.cell (p := ⟨G6, 1, none⟩) lb7).trans ((Kin.cell yC lb).trans b1); have s8 := (hSw.cell (p := ⟨G6, 2, none⟩) lb7).trans ((Kin.cell yC lb).trans b2); have s9 := (hSw.cell (p := ⟨g7, 0, none⟩) lg7).trans (g0); go_simp; try with_reducible rfl)
        try simp only [List.getElem_toArray, List.getElem_cons_succ, List.getElem_cons_zero, Act.put, List.setIfInBounds_toArray, List.set_cons_zero, List.set_cons_succ]
        refine wpAnyH_take (i := 24) (v := ?_) rfl (by kernel_rfl) (by kernel_rfl) (by kernel_rfl) (fun _ _ _ h => h) (Or.inl ⟨by kernel_rfl, ?_⟩) (by assumption) ?_
        rotate_left
        · (intro w' hSw; have s0 := (hSw.cell (p := ⟨W.heap.size, 0, none⟩) ls7).trans ((Kin.cell yC ls).trans s0); have s1 := (hSw.cell (p := ⟨W.heap.size, 1, none⟩) ls7).trans ((Kin.cell yC ls).trans s1); have s2 := (hSw.cell (p := ⟨W.heap.size, 2, none⟩) ls7).trans ((Kin.cell yC ls).trans s2); have s3 := (hSw.cell (p := ⟨G5, 0, none⟩) la7).trans ((Kin.cell yC la).trans a0); have s4 := (hSw.cell (p := ⟨G5, 1, none⟩) la7).trans ((Kin.cell yC la).trans a1); have s5 := (hSw.cell (p := ⟨G5, 2, none⟩) la7).trans ((Kin.cell yC la).trans a2); have s6 := (hSw.cell (p := ⟨G6, 0, none⟩) lb7).trans ((Kin.cell yC lb).trans b0); have s7 := (hSw.cell (p := ⟨G6, 1, none⟩) lb7).trans ((Kin.cell yC lb).trans b1); have s8 := (hSw.cell (p := ⟨G6, 2, none⟩) lb7).trans ((Kin.cell yC lb).trans b2); have s9 := (hSw.cell (p := ⟨g7, 0, none⟩) lg7).trans (g0); go_simp; try with_reducible rfl)
        try simp only [List.getElem_toArray, List.getElem_cons_succ, List.getElem_cons_zero, Act.put, List.setIfInBounds_toArray, List.set_cons_zero, List.set_cons_succ]
        ((first | refine wpAnyH_ready (rs := [22]) (by kernel_rfl) (by simp) (AllReadyH.cons rfl (fun K hK => ?_) AllReadyH.nil)) <;> (go_simp; refine hK.out _ _ (by repeat (first | with_reducible (first | exact blA | exact blB | refine blC _ ?_ | refine blD ?_ ?_ _ | refine blE ?_ | refine blF _ ?_ | refine blG ?_ _ | refine blH ?_ | refine blI ?_ ?_ _) | (simp only [World.size_alloc]; omega) | (simp <;> omega))) (fun hHeld2 => ?_); clear hK hHeld; have hHeld := hHeld2; clear hHeld2 K; try simp only [List.getElem_toArray, List.getElem_cons_succ, List.getElem_cons_zero, Act.put, List.setIfInBounds_toArray, List.set_cons_zero, List.set_cons_succ]))
        have HT1 := Lib.hid (show RdTrs (zB.1.alloc (.cells #[.int .i64 r1, .bool cl1, .slice A1 na c1] 24)) (.slice (some ⟨zB.1.heap.size, 0, none⟩) 1 1) [((r1, cl1), l1)] from lit_trs zB.1 [((r1, cl1), (A1, na, c1))] [((r1, cl1), l1)] 1 zB.1.heap.size (nest_snoc (nest0 _) rfl (HA7.out.below zB.2)) rfl (by decide) rfl)
        refine wpAnyH_ready (rs := [23]) (by kernel_rfl) (by simp) (AllReadyH.cons rfl (fun K hK => ?_) AllReadyH.nil)
        go_simp
        (go_at_call 20; (with_reducible refine (Kin.callK (W := (Kin.wd yC)) (by repeat (first | with_reducible (first | exact blA | exact blB | refine blC _ ?_ | refine blD ?_ ?_ _ | refine blE ?_ | refine blF _ ?_ | refine blG ?_ _ | refine blH ?_ | refine blI ?_ ?_ _) | (simp only [World.size_alloc]; omega) | (simp <;> omega))) (cover_any _ [((r1, cl1), l1)] _ HT1.out (by simp) hc1)).mono ?_); rintro e w' ⟨zD, ⟨AS, nS, cS, rfl, hS⟩, hzD, rfl⟩; skip)
        refine hK.out _ _ (by repeat (first | with_reducible (first | exact blA | exact blB | refine blC _ ?_ | refine blD ?_ ?_ _ | refine blE ?_ | refine blF _ ?_ | refine blG ?_ _ | refine blH ?_ | refine blI ?_ ?_ _) | (simp only [World.size_alloc]; omega) | (simp <;> omega))) (fun hHeld2 => ?_)
        clear hK hHeld
        have hHeld := hHeld2
        clear hHeld2 K
        try simp only [List.getElem_toArray, List.getElem_cons_succ, List.getElem_cons_zero, Act.put, List.setIfInBounds_toArray, List.set_cons_zero, List.set_cons_succ]
        have h9 := HRC.out.below zD.2
        refine wpAnyH_ready (rs := [25]) (by kernel_rfl) (by simp) (AllReadyH.cons rfl (fun K hK => ?_) AllReadyH.nil)
        go_simp
        (go_at_call 21; (with_reducible refine (Kin.callK (W := (Kin.wd yC)) (by repeat (first | with_reducible (first | exact blA | exact blB | refine blC _ ?_ | refine blD ?_ ?_ _ | refine blE ?_ | refine blF _ ?_ | refine blG ?_ _ | refine blH ?_ | refine blI ?_ ?_ _) | (simp only [World.size_alloc]; omega) | (simp <;> omega))) (same18_t _ _ _ hS h9 (rvalid_bd (ofR_valid _)) (rvalid_bd (ofR_valid _)) HCA.out)).mono ?_); rintro e w' ⟨zE, rfl, hzE, rfl⟩; skip)
        refine hK.out _ _ (by repeat (first | with_reducible (first | exact blA | exact blB | refine blC _ ?_ | refine blD ?_ ?_ _ | refine blE ?_ | refine blF _ ?_ | refine blG ?_ _ | refine blH ?_ | refine blI ?_ ?_ _) | (simp only [World.size_alloc]; omega) | (simp <;> omega))) (fun hHeld2 => ?_)
        clear hK hHeld
        have hHeld := hHeld2
        clear hHeld2 K
        try simp only [List.getElem_toArray, List.getElem_cons_succ, List.getElem_cons_zero, Act.put, List.setIfInBounds_toArray, List.set_cons_zero, List.set_cons_succ]
        refine wpAnyH_take (i := 26) (v := ?_) rfl (by kernel_rfl) (by kernel_rfl) (by kernel_rfl) (fun _ _ _ h => h) (Or.inl ⟨by kernel_rfl, ?_⟩) (by assumption) ?_
        rotate_left
        · (intro w' hSw; have s0 := (hSw.cell (p := ⟨W.heap.size, 0, none⟩) ls7).trans ((Kin.cell yC ls).trans s0); have s1 := (hSw.cell (p := ⟨W.heap.size, 1, none⟩) ls7).trans ((Kin.cell yC ls).trans s1); have s2 := (hSw.cell (p := ⟨W.heap.size, 2, none⟩) ls7).trans ((Kin.cell yC ls).trans s2); have s3 := (hSw.cell (p := ⟨G5, 0, none⟩) la7).trans ((Kin.cell yC la).trans a0); have s4 := (hSw.cell (p := ⟨G5, 1, none⟩) la7).trans ((Kin.cell yC la).trans a1); have s5 := (hSw.cell (p := ⟨G5, 2, none⟩) la7).trans ((Kin.cell yC la).trans a2); have s6 := (hSw.cell (p := ⟨G6, 0, none⟩) lb7).trans ((Kin.cell yC lb).trans b0); have s7 := (hSw.cell (p := ⟨G6, 1, none⟩) lb7).trans ((Kin.cell yC lb).trans b1); have s8 := (hSw.cell (p := ⟨G6, 2, none⟩) lb7).trans ((Kin.cell yC lb).trans b2); have s9 := (hSw.cell (p := ⟨g7, 0, none⟩) lg7).trans (g0); go_simp; try with_reducible rfl)
        try simp only [List.getElem_toArray, List.getElem_cons_succ, List.getElem_cons_zero, Act.put, List.setIfInBounds_toArray, List.set_cons_zero, List.set_cons_succ]
        refine wpAnyH_take (i := 27) (v := ?_) rfl (by kernel_rfl) (by kernel_rfl) (by kernel_rfl) (fun _ _ _ h => h) (Or.inl ⟨by kernel_rfl, ?_⟩) (by assumption) ?_
        rotate_left
        · (intro w' hSw; have s0 := (hSw.cell (p := ⟨W.heap.size, 0, none⟩) ls7).trans ((Kin.cell yC ls).trans s0); have s1 := (hSw.cell (p := ⟨W.heap.size, 1, none⟩) ls7).trans ((Kin.cell yC ls).trans s1); have s2 := (hSw.cell (p := ⟨W.heap.size, 2, none⟩) ls7).trans ((Kin.cell yC ls).trans s2); have s3 := (hSw.cell (p := ⟨G5, 0, none⟩) la7).trans ((Kin.cell yC la).trans a0); have s4 := (hSw.cell (p := ⟨G5, 1, none⟩) la7).trans ((Kin.cell yC la).trans a1); have s5 := (hSw.cell (p := ⟨G5, 2, none⟩) la7).trans ((Kin.cell yC la).trans a2); have s6 := (hSw.cell (p := ⟨G6, 0, none⟩) lb7).trans ((Kin.cell yC lb).trans b0); have s7 := (hSw.cell (p := ⟨G6, 1, none⟩) lb7).trans ((Kin.cell yC lb).trans b1); have s8 := (hSw.cell (p := ⟨G6, 2, none⟩) lb7).trans ((Kin.cell yC lb).trans b2); have s9 := (hSw.cell (p := ⟨g7, 0, none⟩) lg7).trans (g0); go_simp; try with_reducible rfl)
        try simp only [List.getElem_toArray, List.getElem_cons_succ, List.getElem_cons_zero, Act.put, List.setIfInBounds_toArray, List.set_cons_zero, List.set_cons_succ]
        refine wpAnyH_take (i := 28) (v := ?_) rfl (by kernel_rfl) (by kernel_rfl) (by kernel_rfl) (fun _ _ _ h => h) (Or.inl ⟨by kernel_rfl, ?_⟩) (by assumption) ?_
        rotate_left
        · (intro w' hSw; have s0 := (hSw.cell (p := ⟨W.heap.size, 0, none⟩) ls7).trans ((Kin.cell yC ls).trans s0); have s1 := (hSw.cell (p := ⟨W.heap.size, 1, none⟩) ls7).trans ((Kin.cell yC ls).trans s1); have s2 := (hSw.cell (p := ⟨W.heap.size, 2, none⟩) ls7).trans ((Kin.cell yC ls).trans s2); have s3 := (hSw.cell (p := ⟨G5, 0, none⟩) la7).trans ((Kin.cell yC la).trans a0); have s4 := (hSw.cell (p := ⟨G5, 1, none⟩) la7).trans ((Kin.cell yC la).trans a1); have s5 := (hSw.cell (p := ⟨G5, 2, none⟩) la7).trans ((Kin.cell yC la).trans a2); have s6 := (hSw.cell (p := ⟨G6, 0, none⟩) lb7).trans ((Kin.cell yC lb).trans b0); have s7 := (hSw.cell (p := ⟨G6, 1, none⟩) lb7).trans ((Kin.cell yC lb).trans b1); have s8 := (hSw.cell (p := ⟨G6, 2, none⟩) lb7).trans ((Kin.cell yC lb).trans b2); have s9 := (hSw.cell (p := ⟨g7, 0, none⟩) lg7).trans (g0); go_simp; try with_reducible rfl)
        try simp only [List.getElem_toArray, List.getElem_cons_succ, List.getElem_cons_zero, Act.put, List.setIfInBounds_toArray, List.set_cons_zero, List.set_cons_succ]
        refine wpAnyH_take (i := 31) (v := ?_) rfl (by kernel_rfl) (by kernel_rfl) (by kernel_rfl) (fun _ _ _ h => h) (Or.inl ⟨by kernel_rfl, ?_⟩) (by assumption) ?_
        rotate_left
        · (intro w' hSw; have s0 := (hSw.cell (p := ⟨W.heap.size, 0, none⟩) ls7).trans ((Kin.cell yC ls).trans s0); have s1 := (hSw.cell (p := ⟨W.heap.size, 1, none⟩) ls7).trans ((Kin.cell yC ls).trans s1); have s2 := (hSw.cell (p := ⟨W.heap.size, 2, none⟩) ls7).trans ((Kin.cell yC ls).trans s2); have s3 := (hSw.cell (p := ⟨G5, 0, none⟩) la7).trans ((Kin.cell yC la).trans a0); have s4 := (hSw.cell (p := ⟨G5, 1, none⟩) la7).trans ((Kin.cell yC la).trans a1); have s5 := (hSw.cell (p := ⟨G5, 2, none⟩) la7).trans ((Kin.cell yC la).trans a2); have s6 := (hSw.cell (p := ⟨G6, 0, none⟩) lb7).trans ((Kin.cell yC lb).trans b0); have s7 := (hSw.cell (p := ⟨G6, 1, none⟩) lb7).trans ((Kin.cell yC lb).trans b1); have s8 := (hSw.cell (p := ⟨G6, 2, none⟩) lb7).trans ((Kin.cell yC lb).trans b2); have s9 := (hSw.cell (p := ⟨g7, 0, none⟩) lg7).trans (g0); go_simp; try with_reducible rfl)
        try simp only [List.getElem_toArray, List.getElem_cons_succ, List.getElem_cons_zero, Act.put, List.setIfInBounds_toArray, List.set_cons_zero, List.set_cons_succ]
        ((first | refine wpAnyH_ready (rs := [29]) (by kernel_rfl) (by simp) (AllReadyH.cons rfl (fun K hK => ?_) AllReadyH.nil)) <;> (go_simp; refine hK.out _ _ (by repeat (first | with_reducible (first | exact blA | exact blB | refine blC _ ?_ | refine blD ?_ ?_ _ | refine blE ?_ | refine blF _ ?_ | refine blG ?_ _ | refine blH ?_ | refine blI ?_ ?_ _) | (simp only [World.size_alloc]; omega) | (simp <;> omega))) (fun hHeld2 => ?_); clear hK hHeld; have hHeld := hHeld2; clear hHeld2 K; try simp only [List.getElem_toArray, List.getElem_cons_succ, List.getElem_cons_zero, Act.put, List.setIfInBounds_toArray, List.set_cons_zero, List.set_cons_succ]))
        have HT2 := Lib.hid (show RdTrs (zE.1.alloc (.cells #[.int .i64 r2, .bool cl2, .slice A2 nb c2] 24)) (.slice (some ⟨zE.1.heap.size, 0, none⟩) 1 1) [((r2, cl2), l2)] from lit_trs zE.1 [((r2, cl2), (A2, nb, c2))] [((r2, cl2), l2)] 1 zE.1.heap.size (nest_snoc (nest0 _) rfl (HB7.out.below zE.2)) rfl (by decide) rfl)
        refine wpAnyH_ready (rs := [30]) (by kernel_rfl) (by simp) (AllReadyH.cons rfl (fun K hK => ?_) AllReadyH.nil)
        go_simp
        (go_at_call 20; (with_reducible refine (Kin.callK (W := (Kin.wd yC)) (by repeat (first | with_reducible (first | exact blA | exact blB | refine blC _ ?_ | refine blD ?_ ?_ _ | refine blE ?_ | refine blF _ ?_ | refine blG ?_ _ | refine blH ?_ | refine blI ?_ ?_ _) | (simp only [World.size_alloc]; omega) | (simp <;> omega))) (cover_any _ [((r2, cl2), l2)] _ HT2.out (by simp) hc2)).mono ?_); rintro e w' ⟨zF, ⟨AU, nU, cU, rfl, hU⟩, hzF, rfl⟩; skip)
        refine hK.out _ _ (by repeat (first | with_reducible (first | exact blA | exact blB | refine blC _ ?_ | refine blD ?_ ?_ _ | refine blE ?_ | refine blF _ ?_ | refine blG ?_ _ | refine blH ?_ | refine blI ?_ ?_ _) | (simp only [World.size_alloc]; omega) | (simp <;> omega))) (fun hHeld2 => ?_)
        clear hK hHeld
        have hHeld := hHeld2
        clear hHeld2 K
        try simp only [List.getElem_toArray, List.getElem_cons_succ, List.getElem_cons_zero, Act.put, List.setIfInBounds_toArray, List.set_cons_zero, List.set_cons_succ]
        have h10 := HRC.out.below zF.2
        refine wpAnyH_ready (rs := [32]) (by kernel_rfl) (by simp) (AllReadyH.cons rfl (fun K hK => ?_) AllReadyH.nil)
        go_simp
        (go_at_call 21; (with_reducible refine (Kin.callK (W := (Kin.wd yC)) (by repeat (first | with_reducible (first | exact blA | exact blB | refine blC _ ?_ | refine blD ?_ ?_ _ | refine blE ?_ | refine blF _ ?_ | refine blG ?_ _ | refine blH ?_ | refine blI ?_ ?_ _) | (simp only [World.size_alloc]; omega) | (simp <;> omega))) (same18_t _ _ _ hU h10 (rvalid_bd (ofR_valid _)) (rvalid_bd (ofR_valid _)) HCB.out)).mono ?_); rintro e w' ⟨zG, rfl, hzG, rfl⟩; skip)
        refine hK.out _ _ (by repeat (first | with_reducible (first | exact blA | exact blB | refine blC _ ?_ | refine blD ?_ ?_ _ | refine blE ?_ | refine blF _ ?_ | refine blG ?_ _ | refine blH ?_ | refine blI ?_ ?_ _) | (simp only [World.size_alloc]; omega) | (simp <;> omega))) (fun hHeld2 => ?_)
        clear hK hHeld
        have hHeld := hHeld2
        clear hHeld2 K
        try simp only [List.getElem_toArray, List.getElem_cons_succ, List.getElem_cons_zero, Act.put, List.setIfInBounds_toArray, List.set_cons_zero, List.set_cons_succ]
        refine wpAnyH_take (i := 33) (v := ?_) rfl (by kernel_rfl) (by kernel_rfl) (by kernel_rfl) (fun _ _ _ h => h) (Or.inl ⟨by kernel_rfl, ?_⟩) (by assumption) ?_
        rotate_left
        · (intro w' hSw; have s0 := (hSw.cell (p := ⟨W.heap.size, 0, none⟩) ls7).trans ((Kin.cell yC ls).trans s0); have s1 := (hSw.cell (p := ⟨W.heap.size, 1, none⟩) ls7).trans ((Kin.cell yC ls).trans s1); have s2 := (hSw.cell (p := ⟨W.heap.size, 2, none⟩) ls7).trans ((Kin.cell yC ls).trans s2); have s3 := (hSw.cell (p := ⟨G5, 0, none⟩) la7).trans ((Kin.cell yC la).trans a0); have s4 := (hSw.cell (p := ⟨G5, 1, none⟩) la7).trans ((Kin.cell yC la).trans a1); have s5 := (hSw.cell (p := ⟨G5, 2, none⟩) la7).trans ((Kin.cell yC la).trans a2); have s6 := (hSw.cell (p := ⟨G6, 0, none⟩) lb7).trans ((Kin.cell yC lb).trans b0); have s7 := (hSw.cell (p := ⟨G6, 1, none⟩) lb7).trans ((Kin.cell yC lb).trans b1); have s8 := (hSw.cell (p := ⟨G6, 2, none⟩) lb7).trans ((Kin.cell yC lb).trans b2); have s9 := (hSw.cell (p := ⟨g7, 0, none⟩) lg7).trans (g0); go_simp; try with_reducible rfl)
        try simp only [List.getElem_toArray, List.getElem_cons_succ, List.getElem_cons_zero, Act.put, List.setIfInBounds_toArray, List.set_cons_zero, List.set_cons_succ]
        refine wpAnyH_take (i := 34) (v := ?_) rfl (by kernel_rfl) (by kernel_rfl) (by kernel_rfl) (fun _ _ _ h => h) (Or.inl ⟨by kernel_rfl, ?_⟩) (by assumption) ?_
        rotate_left
        · (intro w' hSw; have s0 := (hSw.cell (p := ⟨W.heap.size, 0, none⟩) ls7).trans ((Kin.cell yC ls).trans s0); have s1 := (hSw.cell (p := ⟨W.heap.size, 1, none⟩) ls7).trans ((Kin.cell yC ls).trans s1); have s2 := (hSw.cell (p := ⟨W.heap.size, 2, none⟩) ls7).trans ((Kin.cell yC ls).trans s2); have s3 := (hSw.cell (p := ⟨G5, 0, none⟩) la7).trans ((Kin.cell yC la).trans a0); have s4 := (hSw.cell (p := ⟨G5, 1, none⟩) la7).trans ((Kin.cell yC la).trans a1); have s5 := (hSw.cell (p := ⟨G5, 2, none⟩) la7).trans ((Kin.cell yC la).trans a2); have s6 := (hSw.cell (p := ⟨G6, 0, none⟩) lb7).trans ((Kin.cell yC lb).trans b0); have s7 := (hSw.cell (p := ⟨G6, 1, none⟩) lb7).trans ((Kin.cell yC lb).trans b1); have s8 := (hSw.cell (p := ⟨G6, 2, none⟩) lb7).trans ((Kin.cell yC lb).trans b2); have s9 := (hSw.cell (p := ⟨g7, 0, none⟩) lg7).trans (g0); go_simp; try with_reducible rfl)
        try simp only [List.getElem_toArray, List.getElem_cons_succ, List.getElem_cons_zero, Act.put, List.setIfInBounds_toArray, List.set_cons_zero, List.set_cons_succ]
        refine wpAnyH_ready (rs := [35]) (by kernel_rfl) (by simp) (AllReadyH.cons rfl (fun K hK => ?_) AllReadyH.nil)
        go_simp
        (go_at_call 10; (with_reducible refine (Kin.callK (W := (Kin.wd yC)) (by repeat (first | with_reducible (first | exact blA | exact blB | refine blC _ ?_ | refine blD ?_ ?_ _ | refine blE ?_ | refine blF _ ?_ | refine blG ?_ _ | refine blH ?_ | refine blI ?_ ?_ _) | (simp only [World.size_alloc]; omega) | (simp <;> omega))) (awake23_any _)).mono ?_); rintro e w' ⟨zH, rfl, hzH, rfl⟩; skip)
        refine hK.out _ _ (by repeat (first | with_reducible (first | exact blA | exact blB | refine blC _ ?_ | refine blD ?_ ?_ _ | refine blE ?_ | refine blF _ ?_ | refine blG ?_ _ | refine blH ?_ | refine blI ?_ ?_ _) | (simp only [World.size_alloc]; omega) | (simp <;> omega))) (fun hHeld2 => ?_)
        clear hK hHeld
        have hHeld := hHeld2
        clear hHeld2 K
        try simp only [List.getElem_toArray, List.getElem_cons_succ, List.getElem_cons_zero, Act.put, List.setIfInBounds_toArray, List.set_cons_zero, List.set_cons_succ]
        refine wpAnyH_take (i := 36) (v := ?_) rfl (by kernel_rfl) (by kernel_rfl) (by kernel_rfl) (fun _ _ _ h => h) (Or.inl ⟨by kernel_rfl, ?_⟩) (by assumption) ?_
        rotate_left
        · (intro w' hSw; have s0 := (hSw.cell (p := ⟨W.heap.size, 0, none⟩) ls7).trans ((Kin.cell yC ls).trans s0); have s1 := (hSw.cell (p := ⟨W.heap.size, 1, none⟩) ls7).trans ((Kin.cell yC ls).trans s1); have s2 := (hSw.cell (p := ⟨W.heap.size, 2, none⟩) ls7).trans ((Kin.cell yC ls).trans s2); have s3 := (hSw.cell (p := ⟨G5, 0, none⟩) la7).trans ((Kin.cell yC la).trans a0); have s4 := (hSw.cell (p := ⟨G5, 1, none⟩) la7).trans ((Kin.cell yC la).trans a1); have s5 := (hSw.cell (p := ⟨G5, 2, none⟩) la7).trans ((Kin.cell yC la).trans a2); have s6 := (hSw.cell (p := ⟨G6, 0, none⟩) lb7).trans ((Kin.cell yC lb).trans b0); have s7 := (hSw.cell (p := ⟨G6, 1, none⟩) lb7).trans ((Kin.cell yC lb).trans b1); have s8 := (hSw.cell (p := ⟨G6, 2, none⟩) lb7).trans ((Kin.cell yC lb).trans b2); have s9 := (hSw.cell (p := ⟨g7, 0, none⟩) lg7).trans (g0); go_simp; try with_reducible rfl)
        try simp only [List.getElem_toArray, List.getElem_cons_succ, List.getElem_cons_zero, Act.put, List.setIfInBounds_toArray, List.set_cons_zero, List.set_cons_succ]
        refine wpAnyH_take (i := 37) (v := ?_) rfl (by kernel_rfl) (by kernel_rfl) (by kernel_rfl) (fun _ _ _ h => h) (Or.inl ⟨by kernel_rfl, ?_⟩) (by assumption) ?_
        rotate_left
        · (intro w' hSw; have s0 := (hSw.cell (p := ⟨W.heap.size, 0, none⟩) ls7).trans ((Kin.cell yC ls).trans s0); have s1 := (hSw.cell (p := ⟨W.heap.size, 1, none⟩) ls7).trans ((Kin.cell yC ls).trans s1); have s2 := (hSw.cell (p := ⟨W.heap.size, 2, none⟩) ls7).trans ((Kin.cell yC ls).trans s2); have s3 := (hSw.cell (p := ⟨G5, 0, none⟩) la7).trans ((Kin.cell yC la).trans a0); have s4 := (hSw.cell (p := ⟨G5, 1, none⟩) la7).trans ((Kin.cell yC la).trans a1); have s5 := (hSw.cell (p := ⟨G5, 2, none⟩) la7).trans ((Kin.cell yC la).trans a2); have s6 := (hSw.cell (p := ⟨G6, 0, none⟩) lb7).trans ((Kin.cell yC lb).trans b0); have s7 := (hSw.cell (p := ⟨G6, 1, none⟩) lb7).trans ((Kin.cell yC lb).trans b1); have s8 := (hSw.cell (p := ⟨G6, 2, none⟩) lb7).trans ((Kin.cell yC lb).trans b2); have s9 := (hSw.cell (p := ⟨g7, 0, none⟩) lg7).trans (g0); go_simp; try with_reducible rfl)
        try simp only [List.getElem_toArray, List.getElem_cons_succ, List.getElem_cons_zero, Act.put, List.setIfInBounds_toArray, List.set_cons_zero, List.set_cons_succ]
        refine wpAnyH_done (by kernel_rfl) ?_ _
        go_wp2_with fail
        go_ret
        exact ⟨rfl, HW2.out.trans ((yC.2.trans (zH.2.mono yC.2.size)).mono HW2.out.size)⟩
  · have out : (n : Int) > 300 ∨ ¬ (n : Int) > 300 ∧ (i < -1099511627776 ∨ ¬ i < -1099511627776 ∧ i > 1099511627776) := by omega
    rcases out with h1 | ⟨h1, h2 | ⟨h2, h3⟩⟩
    all_goals
      go_enter Try.func9, Try.ntmps9
      go_wp2_with (go_at_call 10; (with_reducible refine (Kin.callK (W := W) (by repeat (first | with_reducible (first | exact blA | exact blB | refine blC _ ?_ | refine blD ?_ ?_ _ | refine blE ?_ | refine blF _ ?_ | refine blG ?_ _ | refine blH ?_ | refine blI ?_ ?_ _) | (simp only [World.size_alloc]; omega) | (simp <;> omega))) (awake23_any _)).mono ?_); rintro e w' ⟨z, rfl, hz, rfl⟩)
      go_ret
      exact ⟨rfl, (by repeat (first | with_reducible (first | exact blA | exact blB | refine blC _ ?_ | refine blD ?_ ?_ _ | refine blE ?_ | refine blF _ ?_ | refine blG ?_ _ | refine blH ?_ | refine blI ?_ ?_ _) | (simp only [World.size_alloc]; omega) | (simp <;> omega)))⟩
set_option maxRecDepth 100000 in
theorem trackTurns_lifted (os : Os) (started : os.Started) (H : Type) (enc : TypeId × Value → H) :
    ReturnsInHanded {} Try.checked os 9 .any (Rows.trackTurnsSpec.pre6 enc Try.prog Try.f9 Rows.trackTurnsRow.domain false) (Rows.trackTurnsSpec.post enc Try.prog Try.f9 false true false false) := by
  refine returnsInHanded_of_change (C := Try.checked) own started (by kernel_rfl) Try.func9
    (ChangeSpec.witness6 (enc := enc) (C := Try.checked) false ⟨#[], #[.agg #[.int .i64 0, .bool false, .slice none 0 0], .int .i64 0], []⟩ 8 (by kernel_rfl) (by kernel_rfl) (by kernel_rfl) (by kernel_rfl)) ?_
  intro W base args ds gs before hval0 hW hcnd _
  have hval : ∀ (j : Nat) t v, Try.f9.params[j]? = some t → args[j]? = some v → Value.okWide Try.prog W .any base t v := hval0
  have hW' := hW
  obtain ⟨p, q, hA0, hV, rfl, hfz, hnd⟩ := hW
  have hA : DataW.TrodAll enc Try.prog W 0 (fun _ => true) true Try.f9.params.toList args.toList ds p := hA0
  rw [Try.params9] at hA hval
  have hAA := hA
  obtain ⟨v0, vs0, d0, ds0, p0, q0, hargs, rfl, rfl, h0, r0⟩ := trodAll_cons hA
  obtain ⟨v1, vs1, d1, ds1, p1, q1, rfl, rfl, rfl, h1, r1⟩ := trodAll_cons r0
  obtain ⟨rfl, rfl, rfl⟩ := trodAll_nil r1
  obtain rfl : args = #[v0, v1] := by cases args; simp_all
  obtain ⟨rfl, rfl⟩ := trodVars_none hV
  have o0 := open_trk (hval 0 24 v0 rfl rfl) h0
  have o1 := open_i64 (hval 1 3 v1 rfl rfl) h1
  have hlt : ∀ x ∈ p0 ++ (p1 ++ []), x.block < W.heap.size := fun x hx => hW'.lt x (by simpa using hx)
  refine (turns_walk W _ o0 _ o1).mono fun e W' ⟨he, bel⟩ => ?_
  subst he
  exact ⟨_, rfl, _, _, _, [], _, [], hW', trodAll_mk1 (shut_bool Try.underlying4 _), below_trodAll laidOut bel _ _ _ _ (by
    intro t ht
    have hcl : ([24, 3] : List TypeId).all (fun t => Try.prog.readableRec t && decide (t < Try.prog.types.size)) = true := by kernel_rfl
    have := List.all_eq_true.1 hcl t ht
    simpa using this) hlt hAA, rfl, bel.frame _, fun h => by cases h⟩
theorem trackTurns_heard : (Try.checked.prog.stopsHeard = true ∧ Try.checked.prog.mayEnter = true) ∧ Try.checked.prog.liftsFinal = Rows.trackTurnsRow.lifted := ⟨⟨by kernel_rfl, by kernel_rfl⟩, by kernel_rfl⟩
theorem trackTurns_calls : (Try.checked.prog.inPlace 9 = Rows.trackTurnsRow.inPlace ∧ Try.checked.prog.unfollowed 9 = Rows.trackTurnsRow.unfollowed) ∧ (Try.checked.prog.recurses 9 = Rows.trackTurnsRow.recurses ∧ Try.checked.prog.varsNamed 9 = Rows.trackTurnsRow.named) := ⟨⟨by kernel_rfl, by kernel_rfl⟩, ⟨by kernel_rfl, by kernel_rfl⟩⟩
theorem trackTurns_closed : joinedFacts Try.checked.prog 9 Try.f9 Rows.trackTurnsSpec Rows.trackTurnsRow = true := by
  unfold joinedFacts
  rw [trackTurns_calls.1.1, trackTurns_calls.1.2, trackTurns_calls.2.1, trackTurns_calls.2.2, trackTurns_heard.1.1, trackTurns_heard.1.2, trackTurns_heard.2]
  kernel_rfl
/-- TrackTurns: for every input the call returns true, and the arguments read behind it as before. No condition. -/
theorem trackTurns_holds : Rows.TrackTurnsSaid :=
  OpenClaim.holds_of_wide 9 Try.f9 rfl rfl rfl rfl rfl rfl rfl ⟨rfl, rfl, rfl, rfl, rfl⟩ rfl rfl rfl rfl rfl (by kernel_rfl) Try.func9 trackTurns_closed
    (of_decide_eq_true (by kernel_rfl)) (by unfold Func.isWrapper; rw [if_neg (of_decide_eq_false (by kernel_rfl))]; exact ⟨rfl, rfl⟩)
    (fun os started H enc _ => trackTurns_lifted os started H enc)

end Go.Proofs.Ytomndgjnhhchdaa

