/- Tracks in memory: words for the walks. -/
import Derived.Test.YtomndgjnhhchdaaTrkWalk
import Derived.Test.YtomndgjnhhchdaaFloatT
import Derived.Test.YtomndgjnhhchdaaRegGen
namespace Go.Proofs.Ytomndgjnhhchdaa
set_option linter.unusedSimpArgs false
set_option linter.unusedVariables false
set_option maxRecDepth 100000
open Go.RowKit Trk
attribute [local go_sem] Kin.cell Kin.frozen Kin.lt0 Kin.lt1 Kin.lt2 Kin.lt3
/-- a track as a value: its cells lie in memory -/
def RdT (W : World) (v : Value) (t : Tr) : Prop := ∃ (A : Option Addr) (cap : Nat), v = tv t.1.1 t.1.2 A t.2.length cap ∧ Rd 2 encPt W (.slice A t.2.length cap) t.2
theorem RdT.below {W W' : World} {v : Value} {t : Tr} (h : RdT W v t) (hb : Below W.heap.size W W') : RdT W' v t := by
  obtain ⟨A, cap, h1, h2⟩ := h; exact ⟨A, cap, h1, h2.below hb⟩
theorem valid_T (v : Value) (t : Tr) (w : World) (h : RdT w v t) : Calls Try.prog 11 #[v] w fun e w' => e = .returned (.bool (tval t)) ∧ Below w.heap.size w w' := by
  obtain ⟨A, cap, rfl, h2⟩ := h; exact validT _ _ A cap t.2 w h2
theorem valid_R (v : Value) (t : Tr) (w : World) (h : RdT w v t) : Calls Try.prog 12 #[v] w fun e w' => e = .returned (.bool (tval t)) ∧ Below w.heap.size w w' := by
  obtain ⟨A, cap, rfl, h2⟩ := h; exact validTR _ _ A cap t.2 w h2
theorem validT_is {b : Bool} {n : Nat} (r : Int) (cl : Bool) (A : Option Addr) (cap : Nat) (l : List Cl) (w : World) (hn : l.length = n) (h : Rd 2 encPt w (.slice A n cap) l) (hb : tval ((r, cl), l) = b) :
    Calls Try.prog 11 #[tv r cl A n cap] w fun e w' => e = .returned (.bool b) ∧ Below w.heap.size w w' := by subst hn; rw [← hb]; exact validT r cl A cap l w h
theorem validR_is {b : Bool} {n : Nat} (r : Int) (cl : Bool) (A : Option Addr) (cap : Nat) (l : List Cl) (w : World) (hn : l.length = n) (h : Rd 2 encPt w (.slice A n cap) l) (hb : tval ((r, cl), l) = b) :
    Calls Try.prog 12 #[tv r cl A n cap] w fun e w' => e = .returned (.bool b) ∧ Below w.heap.size w w' := by subst hn; rw [← hb]; exact validTR r cl A cap l w h
theorem rd_set3 {W : World} {v : Value} {l : List Cl} (h : Rd 2 encPt W v l) {g : Nat} (hne : l = [] ∨ v.ownBlock ≠ some g) (a b c : Value) : Rd 2 encPt (((W.setCell ⟨g, 0, none⟩ a).setCell ⟨g, 1, none⟩ b).setCell ⟨g, 2, none⟩ c) v l :=
  ((h.grown (row := some g) (grownBy_set _) hne).grown (row := some g) (grownBy_set _) hne).grown (row := some g) (grownBy_set _) hne
theorem own_neC {W : World} {base g : Nat} {v : Value} {l : List Cl} (h : OwnC base W v l) (hg : g < base) : l = [] ∨ v.ownBlock ≠ some g := by
  right; intro e; have := (h.own.lt g e).1; omega
set_option maxHeartbeats 4000000 in
theorem reversed_any (v : Value) (l : List Cl) (w : World) (h : Rd 2 encPt w v l) (hlen : l.length ≤ 1099511627776) :
    Calls Try.prog 46 #[v] w fun e w' => (∃ u, e = .returned u ∧ OwnC w.heap.size w' u l.reverse) ∧ Below w.heap.size w w' := by
  obtain ⟨A, capA, rfl, hcapA, hopA⟩ := h.open_
  have HA := Lib.hid hopA
  have HLA := Lib.hid h
  clear hopA h
  obtain ⟨n, hL⟩ : ∃ n, l.length = n := ⟨_, rfl⟩
  have HL := Lib.hid hL
  rw [hL] at hcapA HLA hlen ⊢
  clear hL
  go_enter Try.func46, Try.ntmps46
  go_wp2_with (at_make; (obtain ⟨i0, hi0, hz0, hz1, hz2⟩ := info_parts infoCell); refine wpList_make_own _ rfl _ _ 22 rfl w.heap.size 31 i0 _ _ Try.underlying22 hi0 hz0 hz1 .i64 .i64 _ (n) rfl rfl (by omega) (by rw [hz2]; omega) (by unfold maxLen; omega) (by repeat (first | with_reducible exact Nat.le_refl _ | assumption | with_reducible refine le_alloc ?_ _ | with_reducible refine le_drew ?_ | with_reducible refine Kin.le _ ?_ | assumption | omega | (simp only [World.size_alloc]; omega))) ?_; intro w1 hmk hmb; (obtain ⟨y, rfl⟩ : ∃ y : Kin w, y.1 = w1 := ⟨⟨w1, Below.trans (by repeat (first | with_reducible (first | exact blA | exact blB | refine blC _ ?_ | refine blD ?_ ?_ _ | refine blE ?_ | refine blF _ ?_ | refine blG ?_ _ | refine blH ?_ | refine blI ?_ ?_ _) | (simp only [World.size_alloc]; omega) | (simp <;> omega))) (((Below.refl _ _).grown hmb (Nat.le_refl _) (fun k e => by cases e)).mono (by repeat (first | with_reducible exact Nat.le_refl _ | assumption | with_reducible refine le_alloc ?_ _ | with_reducible refine le_drew ?_ | with_reducible refine Kin.le _ ?_ | assumption | omega | (simp only [World.size_alloc]; omega))))⟩, rfl⟩); clear hmb hi0 hz0 hz1 hz2)
  have hw0 : IntKind.i64.wrap ((n : Int) - 1) = (n : Int) - 1 := IntWalk.i64_in _ (by omega)
  go_loopw [3, 4] (fun o i wr => ∃ k : Nat, k ≤ n ∧ i = .int .i64 ((n : Int) - 1 - k) ∧ Hid (OwnC w.heap.size wr o (l.reverse.take k)) ∧ ∃ z : Kin w, z.1 = wr) (fun _ i _ => (intOf i + 1).toNat)
  case atStart => exact ⟨0, Nat.zero_le _, by go_num, hmk, ⟨_, (by repeat (first | with_reducible (first | exact blA | exact blB | refine blC _ ?_ | refine blD ?_ ?_ _ | refine blE ?_ | refine blF _ ?_ | refine blG ?_ _ | refine blH ?_ | refine blI ?_ ?_ _) | (simp only [World.size_alloc]; omega) | (simp <;> omega)))⟩, rfl⟩
  case round =>
    obtain ⟨k, hk, rfl, HO, z, rfl⟩ := hrel
    by_cases hlt : k < n
    · obtain ⟨p, hp⟩ : ∃ el_, (l)[n - 1 - k]? = some el_ := ⟨_, List.getElem?_eq_getElem (by first | exact (by rw [HL.out]; omega) | omega)⟩
      obtain ⟨bA, offA, rfl, hbA, hcA⟩ := HA.out (n - 1 - k) _ hp
      have p_0 : w.cell? ⟨bA, offA + (n - 1 - k) * 2, none⟩ = some (.int .i64 p.1) := by exact hcA (n - 1 - k) _ hp 0 _ rfl
      have p_1 : w.cell? ⟨bA, offA + (n - 1 - k) * 2 + 1, none⟩ = some (.int .i64 p.2) := by exact hcA (n - 1 - k) _ hp 1 _ rfl
      have hbA2 : bA < w.heap.size + 1 := by omega
      have HAc := Lib.hid hcA
      have Hp := Lib.hid hp
      clear hp hcA
      have HS := Lib.hid (show l.reverse.take (k + 1) = l.reverse.take k ++ [p] by
        rw [List.take_add_one, List.getElem?_reverse (by rw [HL.out]; exact hlt), HL.out, Hp.out]; rfl)
      have hw1 : (0 : Int) ≤ (n : Int) - 1 - (k : Int) := by omega
      have hw2 : ((n : Int) - 1 - (k : Int)).toNat = n - 1 - k := by omega
      have hw3 : (n : Int) - 1 - (k : Int) < (n : Int) := by omega
      have hw4 : n - 1 - k < n := by omega
      have hw5 : IntKind.i64.wrap ((n : Int) - 1 - (k : Int) - 1) = (n : Int) - 1 - (k : Int) - 1 := IntWalk.i64_in _ (by omega)
      have htl : (l.reverse.take k).length ≤ 1099511627776 := by rw [List.length_take]; omega
      go_wp2_with (at_builtin; refine wpList_app _ rfl _ _ 22 rfl encPt_len (by decide) oneP w.heap.size 31 (.agg #[.int .i64 0, .int .i64 0]) 16 infoCell rfl Try.underlying22 _ _ _ _ rfl (HO.out.own.alloc _) _ _ _ rfl (rd_one _ encPt_len _ p _ rfl) ?c1 (by decide) ?c2 ?_; (case c1 => (first | (simp only [List.length_append, List.length_cons, List.length_nil]; omega) | omega | (simp; omega))); (case c2 => exact (by repeat (first | with_reducible exact Nat.le_refl _ | assumption | with_reducible refine le_alloc ?_ _ | with_reducible refine le_drew ?_ | with_reducible refine Kin.le _ ?_ | assumption | omega | (simp only [World.size_alloc]; omega)))); intro v' w1 hown' hg hbel hat'; (obtain ⟨y, rfl⟩ : ∃ y : Kin w, y.1 = w1 := ⟨⟨w1, Below.trans (by repeat (first | with_reducible (first | exact blA | exact blB | refine blC _ ?_ | refine blD ?_ ?_ _ | refine blE ?_ | refine blF _ ?_ | refine blG ?_ _ | refine blH ?_ | refine blI ?_ ?_ _) | (simp only [World.size_alloc]; omega) | (simp <;> omega))) hbel⟩, rfl⟩); clear hbel hg hat')
      go_roundw
      case rel => exact ⟨k + 1, by omega, by go_num, Lib.hid (by rw [HS.out]; exact hown'), y, rfl⟩
      case measure => simp [intOf]; omega
    · have hkn : k = n := by omega
      subst hkn
      have hw1 : ¬ (0 : Int) ≤ (k : Int) - 1 - (k : Int) := by omega
      have HE := Lib.hid (show OwnC w.heap.size z.1 u3 l.reverse by have := HO.out; rwa [List.take_of_length_le (by rw [List.length_reverse, HL.out]; exact Nat.le_refl _)] at this)
      go_wp2
      go_ret
      exact ⟨⟨_, rfl, HE.out⟩, (by repeat (first | with_reducible (first | exact blA | exact blB | refine blC _ ?_ | refine blD ?_ ?_ _ | refine blE ?_ | refine blF _ ?_ | refine blG ?_ _ | refine blH ?_ | refine blI ?_ ?_ _) | (simp only [World.size_alloc]; omega) | (simp <;> omega)))⟩
end Go.Proofs.Ytomndgjnhhchdaa
