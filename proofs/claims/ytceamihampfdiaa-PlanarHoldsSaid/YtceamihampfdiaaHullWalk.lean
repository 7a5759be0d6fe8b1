/- planar.Hull walked. -/
import Derived.Test.YtceamihampfdiaaHullChain
import Derived.Test.YtceamihampfdiaaHullSort
namespace Go.Proofs.Ytceamihampfdiaa
set_option linter.unusedSimpArgs false
set_option linter.unusedVariables false
set_option maxRecDepth 100000
open Go.RowKit Go.Proofs Planar
attribute [local go_sem] Kin.cell Kin.frozen Kin.lt0 Kin.lt1 Kin.lt2 Kin.lt3 run_mkf
/-- what Hull returns -/
def hullP (l : List Pt) : List Pt := if l.length ≤ 8192 ∧ ∀ p ∈ l, vld p = true then hullL l else []
theorem own_form {W : World} {base n size : Nat} {e : TypeId} {v : Value} {xs : List Value} (h : W.ownsRow base e size v n xs) : ∃ (A : Option Addr) (cap : Nat), v = .slice A n cap ∧ n ≤ cap ∧ ∀ b, v.ownBlock = some b → base ≤ b ∧ b < W.heap.size := by
  rcases own_shape h with ⟨rfl, rfl⟩ | ⟨g, cap, rfl, h1, h2, h3⟩
  · exact ⟨_, _, rfl, Nat.le_refl _, fun b e => by cases e⟩
  · exact ⟨_, _, rfl, h3, fun b e => by injection e with e; subst e; exact ⟨h1, h2⟩⟩
theorem own_apart {w w' : World} {B n size : Nat} {e : TypeId} {v v2 : Value} {xs : List Value} (h : w.ownsRow B e size v n xs) (hg : w.grownBy w' v2.ownBlock) (hlt : ∀ b, v2.ownBlock = some b → b < B) : w'.ownsRow B e size v n xs := by
  refine h.kept hg ?_
  rcases own_shape h with ⟨rfl, rfl⟩ | ⟨g, cap, rfl, h1, h2, h3⟩
  · exact .inl rfl
  · right
    intro e
    have := hlt g (by rw [← e]; rfl)
    omega
theorem sort_ptsB (base : Nat) (w : World) (v : Value) (xs : List Pt) (hf : ∀ r ∈ xs, vld r = true) (hown : w.ownsRow base 23 2 v xs.length (xs.flatMap encPt)) (hlen : xs.length ≤ 8192) (hB : base ≤ w.heap.size) :
    Calls Try.prog 41 #[v, .func (.func 42) #[] #[]] w fun e w' => (e = .returned (.tuple #[]) ∧ ∃ ys : List Pt, ys.Perm xs ∧ ys.Pairwise (fun a b => ¬ lx b a) ∧
      w'.ownsRow base 23 2 v ys.length (ys.flatMap encPt)) ∧ Below base w w' :=
  (sort_pts base w v xs hf hown (by omega) hB).mono fun e w' ⟨he, ys, h1, h2, h3, h4⟩ => ⟨⟨he, ys, h1, h2, h3⟩, h4⟩
theorem reverse_ptsB (base : Nat) (w : World) (v : Value) (xs : List Pt) (hne : xs ≠ []) (hown : w.ownsRow base 23 2 v xs.length (xs.flatMap encPt)) (hlen : xs.length ≤ 8192) (hB : base ≤ w.heap.size) :
    Calls Try.prog 47 #[v] w fun e w' => (e = .returned (.tuple #[]) ∧ w'.ownsRow base 23 2 v xs.reverse.length (xs.reverse.flatMap encPt) ∧ w.grownBy w' v.ownBlock) ∧ Below base w w' :=
  (reverse_pts base w v xs hne hown (by omega) hB).mono fun e w' ⟨he, h1, h2, h3⟩ => ⟨⟨he, h1, h3⟩, h2⟩
theorem compact_srt {l ys : List Pt} (h : ys.Perm l ∧ ys.Pairwise (fun a b => ¬ lx b a)) : dd ys = srt l := srt_is (dd_asc ys h.2) fun z => by rw [dd_mem, h.1.mem_iff]
theorem srt_len (l : List Pt) : (srt l).length ≤ l.length := by
  induction l with
  | nil => exact Nat.le_refl _
  | cons x l ih =>
    have : ∀ (s : List Pt), (insP x s).length ≤ s.length + 1 := by
      intro s
      induction s with
      | nil => simp [insP]
      | cons y s ih =>
        unfold insP
        split
        · simp
        · split
          · simp
          · simp; omega
    have := this (srt l)
    show (insP x (srt l)).length ≤ _
    simp; omega
set_option maxHeartbeats 16000000 in
theorem hull_any (v : Value) (l : List Pt) (w : World) (h : Rd 2 encPt w v l) :
    Calls Try.prog 32 #[v] w fun e w' => (∃ u, e = .returned u ∧ w'.ownsRow w.heap.size 23 2 u (hullP l).length ((hullP l).flatMap encPt)) ∧ Below w.heap.size w w' := by
  by_cases hbig : 8192 < l.length
  · obtain ⟨A, capA, rfl, hcapA, hopA⟩ := h.open_
    have HA := Lib.hid hopA
    have HLA := Lib.hid h
    clear hopA h
    have hP : hullP l = [] := by unfold hullP; rw [if_neg (by omega)]
    rw [hP]
    obtain ⟨n, hL⟩ : ∃ n, l.length = n := ⟨_, rfl⟩
    rw [hL] at hbig ⊢
    clear HA HLA
    go_enter Try.func32, Try.ntmps32
    go_wp2
    go_ret
    exact ⟨⟨_, rfl, World.ownsRow_nil _ _ _ _⟩, Below.refl _ _⟩
  obtain ⟨A, capA, rfl, hcapA, hopA⟩ := h.open_
  have HA := Lib.hid hopA
  have HLA := Lib.hid h
  clear hopA h
  obtain ⟨n, hL⟩ : ∃ n, l.length = n := ⟨_, rfl⟩
  have HL := Lib.hid hL
  rw [hL] at hbig hcapA HLA ⊢
  clear hL
  have hn : n ≤ 8192 := by omega
  clear hbig
  go_enter Try.func32, Try.ntmps32
  go_wp2
  go_loopw [12] (fun i wr => ∃ k : Nat, k ≤ n ∧ i = .int .i64 k ∧ (∀ p ∈ l.take k, vld p = true) ∧ ∃ y : Kin w, y.1 = wr) (fun i _ => n - (intOf i).toNat)
  case atStart => exact ⟨0, Nat.zero_le _, rfl, fun p hp => by simp at hp, ⟨w, Below.refl _ _⟩, rfl⟩
  case round =>
    obtain ⟨k, hk, rfl, hval, y, rfl⟩ := hrel
    have HV := Lib.hid hval
    clear hval
    by_cases hlt : k < n
    · obtain ⟨p, hp⟩ : ∃ el_, (l)[k]? = some el_ := ⟨_, List.getElem?_eq_getElem (by first | exact (by rw [HL.out]; exact hlt) | omega)⟩
      obtain ⟨bA, offA, rfl, hbA, hcA⟩ := HA.out (k) _ hp
      have p_0 : w.cell? ⟨bA, offA + k * 2, none⟩ = some (.int .i64 p.1) := by exact hcA (k) _ hp 0 _ rfl
      have p_1 : w.cell? ⟨bA, offA + k * 2 + 1, none⟩ = some (.int .i64 p.2) := by exact hcA (k) _ hp 1 _ rfl
      have hbA2 : bA < w.heap.size + 1 := by omega
      have HAc := Lib.hid hcA
      have Hp := Lib.hid hp
      clear hp hcA
      cases hvp : vld p
      · have hP : hullP l = [] := by
          unfold hullP; rw [if_neg]
          rintro ⟨_, h2⟩
          rw [h2 p (List.mem_of_getElem? Hp.out)] at hvp; cases hvp
        have HP := Lib.hid hP
        clear hP
        go_wp2_with (go_at_call 22; (with_reducible refine (Kin.callK (W := w) (by repeat (first | with_reducible (first | exact blA | exact blB | refine blC _ ?_ | refine blD ?_ ?_ _ | refine blE ?_ | refine blF _ ?_ | refine blG ?_ _ | refine blH ?_ | refine blI ?_ ?_ _) | (simp only [World.size_alloc]; omega) | (simp <;> omega))) (valid_any p _)).mono ?_); rintro e w' ⟨z, rfl, hz, rfl⟩)
        go_ret
        exact ⟨⟨_, rfl, by rw [HP.out]; exact World.ownsRow_nil _ _ _ _⟩, (by repeat (first | with_reducible (first | exact blA | exact blB | refine blC _ ?_ | refine blD ?_ ?_ _ | refine blE ?_ | refine blF _ ?_ | refine blG ?_ _ | refine blH ?_ | refine blI ?_ ?_ _) | (simp only [World.size_alloc]; omega) | (simp <;> omega)))⟩
      · go_wp2_with (go_at_call 22; (with_reducible refine (Kin.callK (W := w) (by repeat (first | with_reducible (first | exact blA | exact blB | refine blC _ ?_ | refine blD ?_ ?_ _ | refine blE ?_ | refine blF _ ?_ | refine blG ?_ _ | refine blH ?_ | refine blI ?_ ?_ _) | (simp only [World.size_alloc]; omega) | (simp <;> omega))) (valid_any p _)).mono ?_); rintro e w' ⟨z, rfl, hz, rfl⟩)
        go_roundw
        case rel =>
          refine ⟨k + 1, by omega, by go_num, fun q hq => ?_, z, rfl⟩
          rw [List.take_add_one, Hp.out] at hq
          rcases List.mem_append.1 hq with hq | hq
          · exact HV.out q hq
          · have : q = p := by simpa using hq
            rw [this]; exact hvp
        case measure => simp [intOf]; omega
    · have hva : ∀ p ∈ l, vld p = true := by
        have := HV.out
        rwa [List.take_of_length_le (by rw [HL.out]; omega)] at this
      have hP : hullP l = hullL l := by unfold hullP; rw [if_pos ⟨by rw [HL.out]; exact hn, hva⟩]
      have HP := Lib.hid hP
      have HVA := Lib.hid hva
      clear hva hP
      have HSV := Lib.hid (fun (p : Pt) (hp : p ∈ srt l) => HVA.out p (((srt_spec l).2 p).1 hp))
      have hsl : (srt l).length ≤ 8192 := by have := srt_len l; have := HL.out; omega
      by_cases h2 : (srt l).length < 2
      · have HE := Lib.hid (show hullP l = srt l by rw [HP.out]; unfold hullL hullR; rw [if_pos h2])
        go_wp2_with (first
          | (go_at_call 40; (with_reducible refine (Kin.callK (W := w) (by repeat (first | with_reducible (first | exact blA | exact blB | refine blC _ ?_ | refine blD ?_ ?_ _ | refine blE ?_ | refine blF _ ?_ | refine blG ?_ _ | refine blH ?_ | refine blI ?_ ?_ _) | (simp only [World.size_alloc]; omega) | (simp <;> omega))) (clone_pts _ l _ (HLA.out.below (by repeat (first | with_reducible (first | exact blA | exact blB | refine blC _ ?_ | refine blD ?_ ?_ _ | refine blE ?_ | refine blF _ ?_ | refine blG ?_ _ | refine blH ?_ | refine blI ?_ ?_ _) | (simp only [World.size_alloc]; omega) | (simp <;> omega)))) (by rw [HL.out]; omega))).mono ?_); rintro e w' ⟨z1, ⟨s1, rfl, hs1⟩, hz1, rfl⟩; (have HS1 := Lib.hid (own_base hs1 (base' := w.heap.size) (by repeat (first | with_reducible exact Nat.le_refl _ | assumption | with_reducible refine le_alloc ?_ _ | with_reducible refine le_drew ?_ | with_reducible refine Kin.le _ ?_ | assumption | omega | (simp only [World.size_alloc]; omega)))); clear hs1))
          | (go_at_call 41; (with_reducible refine (Kin.callB (W := w) (by repeat (first | with_reducible (first | exact blA | exact blB | refine blC _ ?_ | refine blD ?_ ?_ _ | refine blE ?_ | refine blF _ ?_ | refine blG ?_ _ | refine blH ?_ | refine blI ?_ ?_ _) | (simp only [World.size_alloc]; omega) | (simp <;> omega))) (sort_ptsB w.heap.size _ _ l HVA.out HS1.out (by rw [HL.out]; omega) (by repeat (first | with_reducible exact Nat.le_refl _ | assumption | with_reducible refine le_alloc ?_ _ | with_reducible refine le_drew ?_ | with_reducible refine Kin.le _ ?_ | assumption | omega | (simp only [World.size_alloc]; omega))))).mono ?_); rintro e w' ⟨z2, ⟨rfl, ys, hp, hpw, hs2⟩, rfl⟩; (have HS2 := Lib.hid hs2; have HY := Lib.hid (And.intro hp hpw); clear hs2 hp hpw))
          | (go_at_call 45; (with_reducible refine (Kin.callB (W := w) (by repeat (first | with_reducible (first | exact blA | exact blB | refine blC _ ?_ | refine blD ?_ ?_ _ | refine blE ?_ | refine blF _ ?_ | refine blG ?_ _ | refine blH ?_ | refine blI ?_ ?_ _) | (simp only [World.size_alloc]; omega) | (simp <;> omega))) (compact_pts w.heap.size _ _ ys HS2.out (by rw [HY.out.1.length_eq, HL.out]; omega) (by repeat (first | with_reducible exact Nat.le_refl _ | assumption | with_reducible refine le_alloc ?_ _ | with_reducible refine le_drew ?_ | with_reducible refine Kin.le _ ?_ | assumption | omega | (simp only [World.size_alloc]; omega))))).mono ?_); rintro e w' ⟨z3, ⟨u3, rfl, hs3⟩, rfl⟩; (rw [compact_srt HY.out] at hs3; obtain ⟨A3, c3, rfl, hc3, hb3⟩ := own_form hs3; have HS3 := Lib.hid hs3; have HB3 := Lib.hid hb3; clear hs3 hb3)))
        go_ret
        exact ⟨⟨_, rfl, by rw [HE.out]; exact HS3.out⟩, (by repeat (first | with_reducible (first | exact blA | exact blB | refine blC _ ?_ | refine blD ?_ ?_ _ | refine blE ?_ | refine blF _ ?_ | refine blG ?_ _ | refine blH ?_ | refine blI ?_ ?_ _) | (simp only [World.size_alloc]; omega) | (simp <;> omega)))⟩
      · have HE := Lib.hid (show hullP l = (chR (srt l)).tail.reverse ++ (chR (srt l).reverse).tail.reverse by rw [HP.out]; unfold hullL hullR; rw [if_neg h2])
        have HNE := Lib.hid (show srt l ≠ [] by intro e; rw [e] at h2; simp at h2)
        have hl4 := chR_len (srt l)
        have hl6 := chR_len (srt l).reverse
        have HTL := Lib.hid (show (chR (srt l)).tail.reverse.length ≤ 8192 ∧ (chR (srt l).reverse).tail.reverse.length ≤ 8192 by simp only [List.length_reverse, List.length_tail] at *; omega)
        clear hl4 hl6
        go_wp2_with (first
          | (go_at_call 40; (with_reducible refine (Kin.callK (W := w) (by repeat (first | with_reducible (first | exact blA | exact blB | refine blC _ ?_ | refine blD ?_ ?_ _ | refine blE ?_ | refine blF _ ?_ | refine blG ?_ _ | refine blH ?_ | refine blI ?_ ?_ _) | (simp only [World.size_alloc]; omega) | (simp <;> omega))) (clone_pts _ l _ (HLA.out.below (by repeat (first | with_reducible (first | exact blA | exact blB | refine blC _ ?_ | refine blD ?_ ?_ _ | refine blE ?_ | refine blF _ ?_ | refine blG ?_ _ | refine blH ?_ | refine blI ?_ ?_ _) | (simp only [World.size_alloc]; omega) | (simp <;> omega)))) (by rw [HL.out]; omega))).mono ?_); rintro e w' ⟨z1, ⟨s1, rfl, hs1⟩, hz1, rfl⟩; (have HS1 := Lib.hid (own_base hs1 (base' := w.heap.size) (by repeat (first | with_reducible exact Nat.le_refl _ | assumption | with_reducible refine le_alloc ?_ _ | with_reducible refine le_drew ?_ | with_reducible refine Kin.le _ ?_ | assumption | omega | (simp only [World.size_alloc]; omega)))); clear hs1))
          | (go_at_call 41; (with_reducible refine (Kin.callB (W := w) (by repeat (first | with_reducible (first | exact blA | exact blB | refine blC _ ?_ | refine blD ?_ ?_ _ | refine blE ?_ | refine blF _ ?_ | refine blG ?_ _ | refine blH ?_ | refine blI ?_ ?_ _) | (simp only [World.size_alloc]; omega) | (simp <;> omega))) (sort_ptsB w.heap.size _ _ l HVA.out HS1.out (by rw [HL.out]; omega) (by repeat (first | with_reducible exact Nat.le_refl _ | assumption | with_reducible refine le_alloc ?_ _ | with_reducible refine le_drew ?_ | with_reducible refine Kin.le _ ?_ | assumption | omega | (simp only [World.size_alloc]; omega))))).mono ?_); rintro e w' ⟨z2, ⟨rfl, ys, hp, hpw, hs2⟩, rfl⟩; (have HS2 := Lib.hid hs2; have HY := Lib.hid (And.intro hp hpw); clear hs2 hp hpw))
          | (go_at_call 45; (with_reducible refine (Kin.callB (W := w) (by repeat (first | with_reducible (first | exact blA | exact blB | refine blC _ ?_ | refine blD ?_ ?_ _ | refine blE ?_ | refine blF _ ?_ | refine blG ?_ _ | refine blH ?_ | refine blI ?_ ?_ _) | (simp only [World.size_alloc]; omega) | (simp <;> omega))) (compact_pts w.heap.size _ _ ys HS2.out (by rw [HY.out.1.length_eq, HL.out]; omega) (by repeat (first | with_reducible exact Nat.le_refl _ | assumption | with_reducible refine le_alloc ?_ _ | with_reducible refine le_drew ?_ | with_reducible refine Kin.le _ ?_ | assumption | omega | (simp only [World.size_alloc]; omega))))).mono ?_); rintro e w' ⟨z3, ⟨u3, rfl, hs3⟩, rfl⟩; (rw [compact_srt HY.out] at hs3; obtain ⟨A3, c3, rfl, hc3, hb3⟩ := own_form hs3; have HS3 := Lib.hid hs3; have HB3 := Lib.hid hb3; clear hs3 hb3))
          | (go_at_call 46; (with_reducible refine (Kin.callK (W := w) (by repeat (first | with_reducible (first | exact blA | exact blB | refine blC _ ?_ | refine blD ?_ ?_ _ | refine blE ?_ | refine blF _ ?_ | refine blG ?_ _ | refine blH ?_ | refine blI ?_ ?_ _) | (simp only [World.size_alloc]; omega) | (simp <;> omega))) (chain_any _ (srt l).reverse _ (Rd.own encPt_len HS6.out) (fun p hp => HSV.out p (List.mem_reverse.1 hp)) (fun e => absurd (List.reverse_eq_nil_iff.1 e) HNE.out) (by rw [List.length_reverse]; omega))).mono ?_); rintro e w' ⟨z6, ⟨u6, rfl, hs6⟩, hz6, rfl⟩; (generalize hB6 : (chR (srt l).reverse).tail.reverse = B6 at hs6; have hB6l : B6.length ≤ 8192 := (by rw [← hB6]; exact HTL.out.2); have HB6 := Lib.hid hB6; clear hB6; have HO6 := Lib.hid (own_base (own_below HO5.out hz6) (base' := w.heap.size) z3.2.size); have hr6 := Rd.own encPt_len hs6; obtain ⟨A6, cap6, rfl, hcap6, _⟩ := hr6.open_; have HR6 := Lib.hid hr6; clear hs6 hr6))
          | (go_at_call 46; (with_reducible refine (Kin.callK (W := w) (by repeat (first | with_reducible (first | exact blA | exact blB | refine blC _ ?_ | refine blD ?_ ?_ _ | refine blE ?_ | refine blF _ ?_ | refine blG ?_ _ | refine blH ?_ | refine blI ?_ ?_ _) | (simp only [World.size_alloc]; omega) | (simp <;> omega))) (chain_any _ (srt l) _ (Rd.own encPt_len HS3.out) HSV.out HNE.out (by omega))).mono ?_); rintro e w' ⟨z4, ⟨u4, rfl, hs4⟩, hz4, rfl⟩; (generalize hA4 : (chR (srt l)).tail.reverse = A4 at hs4; have hA4l : A4.length ≤ 8192 := (by rw [← hA4]; exact HTL.out.1); have HA4 := Lib.hid hA4; clear hA4; have HS5 := Lib.hid (own_below HS3.out hz4); have HO4 := Lib.hid hs4; clear hs4))
          | (go_at_call 47; (with_reducible refine (Kin.callB (W := w) (by repeat (first | with_reducible (first | exact blA | exact blB | refine blC _ ?_ | refine blD ?_ ?_ _ | refine blE ?_ | refine blF _ ?_ | refine blG ?_ _ | refine blH ?_ | refine blI ?_ ?_ _) | (simp only [World.size_alloc]; omega) | (simp <;> omega))) (reverse_ptsB w.heap.size _ _ (srt l) HNE.out HS5.out hsl (by repeat (first | with_reducible exact Nat.le_refl _ | assumption | with_reducible refine le_alloc ?_ _ | with_reducible refine le_drew ?_ | with_reducible refine Kin.le _ ?_ | assumption | omega | (simp only [World.size_alloc]; omega))))).mono ?_); rintro e w' ⟨z5, ⟨rfl, hs5, hg5⟩, rfl⟩; (have HO5 := Lib.hid (own_apart HO4.out hg5 (fun b hb => (HB3.out b hb).2)); have HS6 := Lib.hid hs5; clear hs5 hg5))
          | (at_builtin; refine wpList_app _ rfl _ _ 35 rfl encPt_len (by decide) oneP w.heap.size 23 (.agg #[.int .i64 0, .int .i64 0]) 16 infoPt rfl Try.underlying35 _ _ _ _ rfl (HO6.out) _ _ _ rfl (HR6.out) ?c1 (by decide) ?c2 ?_; (case c1 => (first | (simp only [List.length_append, List.length_cons, List.length_nil]; omega) | omega | (simp; omega))); (case c2 => exact (by repeat (first | with_reducible exact Nat.le_refl _ | assumption | with_reducible refine le_alloc ?_ _ | with_reducible refine le_drew ?_ | with_reducible refine Kin.le _ ?_ | assumption | omega | (simp only [World.size_alloc]; omega)))); intro v' w1 hown' hg hbel hat'; (obtain ⟨y7, rfl⟩ : ∃ y : Kin w, y.1 = w1 := ⟨⟨w1, Below.trans (by repeat (first | with_reducible (first | exact blA | exact blB | refine blC _ ?_ | refine blD ?_ ?_ _ | refine blE ?_ | refine blF _ ?_ | refine blG ?_ _ | refine blH ?_ | refine blI ?_ ?_ _) | (simp only [World.size_alloc]; omega) | (simp <;> omega))) hbel⟩, rfl⟩); clear hbel hg hat'))
        go_ret
        exact ⟨⟨_, rfl, by rw [HE.out, HA4.out, HB6.out]; exact hown'⟩, (by repeat (first | with_reducible (first | exact blA | exact blB | refine blC _ ?_ | refine blD ?_ ?_ _ | refine blE ?_ | refine blF _ ?_ | refine blG ?_ _ | refine blH ?_ | refine blI ?_ ?_ _) | (simp only [World.size_alloc]; omega) | (simp <;> omega)))⟩
end Go.Proofs.Ytceamihampfdiaa
