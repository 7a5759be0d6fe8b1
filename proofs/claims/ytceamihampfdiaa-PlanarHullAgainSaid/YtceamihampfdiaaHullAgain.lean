/- PlanarHullAgain: order and repetitions do not matter, and the hull of a hull is the hull, so the law returns true. -/
import Derived.Test.YtceamihampfdiaaHullPlain
import Derived.Test.YtceamihampfdiaaPlanarRows
namespace Go.Proofs.Ytceamihampfdiaa
set_option linter.unusedSimpArgs false
set_option linter.unusedVariables false
set_option maxRecDepth 100000
open Go.ChangeShapes Go.WideShapes Go.ChangeAt Go.RowKit Go.Joins
open Planar
attribute [local go_sem] Kin.cell Kin.frozen Kin.lt0 Kin.lt1 Kin.lt2 Kin.lt3
/-- the list turned: backwards, from another place on -/
def trnAt (l : List Pt) (k i : Nat) : Pt := l.getD (l.length - 1 - (i + k) % l.length) (0, 0)
def trn (l : List Pt) (k m : Nat) : List Pt := (List.range m).map (trnAt l k)
theorem trn_len (l : List Pt) (k m : Nat) : (trn l k m).length = m := by simp [trn]
theorem trn_succ (l : List Pt) (k m : Nat) : trn l k (m + 1) = trn l k m ++ [trnAt l k m] := by simp [trn, List.range_succ]
theorem trn_mem (l : List Pt) (k : Nat) (z : Pt) : z ∈ trn l k l.length ↔ z ∈ l := by
  unfold trn
  rw [List.mem_map]
  constructor
  · rintro ⟨i, hi, rfl⟩
    rw [List.mem_range] at hi
    unfold trnAt
    rw [List.getD_eq_getElem?_getD, List.getElem?_eq_getElem (by have := Nat.mod_lt (i + k) (show 0 < l.length by omega); omega), Option.getD_some]
    exact List.getElem_mem _
  · intro hz
    obtain ⟨j, hj, rfl⟩ := List.getElem_of_mem hz
    have hn : 0 < l.length := by omega
    have hr := Nat.mod_lt k hn
    refine ⟨(l.length - 1 - j + (l.length - k % l.length)) % l.length, List.mem_range.2 (Nat.mod_lt _ hn), ?_⟩
    have e1 : l.length - 1 - j + (l.length - k % l.length) + k = (l.length - 1 - j) + l.length * (1 + k / l.length) := by
      have := Nat.div_add_mod k l.length
      rw [Nat.mul_add, Nat.mul_one]
      omega
    unfold trnAt
    rw [Nat.mod_add_mod, e1, Nat.add_mul_mod_self_left, Nat.mod_eq_of_lt (by omega), show l.length - 1 - (l.length - 1 - j) = j by omega, List.getD_eq_getElem?_getD, List.getElem?_eq_getElem hj, Option.getD_some]
theorem hullP_again {l : List Pt} (h : l.length ≤ 100) : hullP (hullP l) = hullP l := by
  have hl := hullP_len h
  have e : ∀ m : List Pt, m.length ≤ 8192 → (∀ p ∈ m, vld p = true) → hullP m = hullL m := fun m h1 h2 => by unfold hullP; rw [if_pos ⟨h1, h2⟩]
  rw [e (hullP l) (by omega) (fun p hp => (hullP_mem hp).2 p (hullP_mem hp).1)]
  unfold hullP
  split
  · exact hull_again (srt_spec l).1
  · rfl
theorem pts_true (u v : Value) (a : List Pt) (w : World) (ha : Rd 2 encPt w u a) (hb : Rd 2 encPt w v a) (hla : a.length ≤ 1099511627776) :
    Calls Try.prog 31 #[u, v] w fun e w' => e = .returned (.bool true) ∧ Below w.heap.size w w' :=
  (pts_any u v a a w ha hb hla).mono fun e w' ⟨he, h⟩ => ⟨by rw [he]; simp, h⟩
set_option maxHeartbeats 16000000 in
theorem again_walk (W : World) (v : Value) (hv : IsPts W v) (kv : Value) (hk : ∃ n : Int, kv = .int .u8 n ∧ 0 ≤ n ∧ n ≤ 255) : Calls Try.prog 13 #[v, kv] W fun e W' => e = .returned (.bool true) ∧ Below W.heap.size W W' := by
  obtain ⟨l, hrd, _⟩ := hv
  obtain ⟨kz, rfl, hk0, hk1⟩ := hk
  obtain ⟨K, rfl⟩ : ∃ K : Nat, kz = (K : Int) := ⟨kz.toNat, by omega⟩
  obtain ⟨A, capA, rfl, hcapA, hopA⟩ := hrd.open_
  have HA := Lib.hid hopA
  have HLA := Lib.hid hrd
  clear hopA hrd
  by_cases hbig : 100 < l.length
  · obtain ⟨n, hL⟩ : ∃ n, l.length = n := ⟨_, rfl⟩
    rw [hL] at hbig ⊢
    clear HA HLA
    go_enter Try.func13, Try.ntmps13
    go_wp2_with (go_at_call 34; (with_reducible refine (Kin.callK (W := W) (by repeat (first | with_reducible (first | exact blA | exact blB | refine blC _ ?_ | refine blD ?_ ?_ _ | refine blE ?_ | refine blF _ ?_ | refine blG ?_ _ | refine blH ?_ | refine blI ?_ ?_ _) | (simp only [World.size_alloc]; omega) | (simp <;> omega))) (hulled_any _)).mono ?_); rintro e w' ⟨z, rfl, hz, rfl⟩)
    go_ret
    exact ⟨rfl, (by repeat (first | with_reducible (first | exact blA | exact blB | refine blC _ ?_ | refine blD ?_ ?_ _ | refine blE ?_ | refine blF _ ?_ | refine blG ?_ _ | refine blH ?_ | refine blI ?_ ?_ _) | (simp only [World.size_alloc]; omega) | (simp <;> omega)))⟩
  have hn : l.length ≤ 100 := by omega
  have HE1 := Lib.hid (show hullP (trn l K l.length) = hullP l from hullP_same (trn_mem l K) (by rw [trn_len]; omega) (by omega))
  have HE2 := Lib.hid (show hullP ([] ++ trn l K l.length ++ l) = hullP l from hullP_same (fun z => by rw [List.nil_append, List.mem_append, trn_mem, or_self]) (by simp [trn_len]; omega) (by omega))
  have HE3 := Lib.hid (hullP_again hn)
  have hHl := hullP_len hn
  obtain ⟨n, hL⟩ : ∃ n, l.length = n := ⟨_, rfl⟩
  have HL := Lib.hid hL
  rw [hL] at hbig hcapA HLA hn HE1 HE2 ⊢
  clear hL hbig
  go_enter Try.func13, Try.ntmps13
  go_wp2_with (go_at_call 32; (with_reducible refine (Kin.callK (W := W) (by repeat (first | with_reducible (first | exact blA | exact blB | refine blC _ ?_ | refine blD ?_ ?_ _ | refine blE ?_ | refine blF _ ?_ | refine blG ?_ _ | refine blH ?_ | refine blI ?_ ?_ _) | (simp only [World.size_alloc]; omega) | (simp <;> omega))) (hull_any _ l _ (HLA.out.below (by repeat (first | with_reducible (first | exact blA | exact blB | refine blC _ ?_ | refine blD ?_ ?_ _ | refine blE ?_ | refine blF _ ?_ | refine blG ?_ _ | refine blH ?_ | refine blI ?_ ?_ _) | (simp only [World.size_alloc]; omega) | (simp <;> omega)))))).mono ?_); rintro e w' ⟨z1, ⟨s1, rfl, hs1⟩, hz1, rfl⟩; (have hrh := Rd.own encPt_len hs1; obtain ⟨AH, capH, rfl, hcapH, _⟩ := hrh.open_; have HH := Lib.hid hrh; clear hs1 hrh))
  go_loopw [6, 7] (fun o i wr => ∃ m : Nat, m ≤ n ∧ i = .int .i64 m ∧ wr.ownsRow z1.1.heap.size 23 2 o (trn l K m).length ((trn l K m).flatMap encPt) ∧ ∃ y : Kin z1.1, y.1 = wr) (fun _ i _ => n - (intOf i).toNat)
  case atStart => exact ⟨0, Nat.zero_le _, rfl, World.ownsRow_nil _ _ _ _, ⟨z1.1, Below.refl _ _⟩, rfl⟩
  case round =>
    obtain ⟨m, hm, rfl, hown, y, rfl⟩ := hrel
    by_cases hlt : m < n
    · have hm0 : 0 ≤ ((m : Int) + (K : Int)) % (n : Int) := Int.emod_nonneg _ (by omega)
      have hm2 : ((m : Int) + (K : Int)) % (n : Int) < (n : Int) := Int.emod_lt_of_pos _ (by omega)
      have hm1 : (m + K) % n < n := Nat.mod_lt _ (by omega)
      obtain ⟨r, hr⟩ : ∃ el_, (l)[n - 1 - (m + K) % n]? = some el_ := ⟨_, List.getElem?_eq_getElem (by first | exact (by rw [HL.out]; omega) | omega)⟩
      obtain ⟨bA, offA, rfl, hbA, hcA⟩ := HA.out (n - 1 - (m + K) % n) _ hr
      have r_0 : W.cell? ⟨bA, offA + (n - 1 - (m + K) % n) * 2, none⟩ = some (.int .i64 r.1) := by exact hcA (n - 1 - (m + K) % n) _ hr 0 _ rfl
      have r_1 : W.cell? ⟨bA, offA + (n - 1 - (m + K) % n) * 2 + 1, none⟩ = some (.int .i64 r.2) := by exact hcA (n - 1 - (m + K) % n) _ hr 1 _ rfl
      have hbA2 : bA < W.heap.size + 1 := by omega
      have HAc := Lib.hid hcA
      have Hr := Lib.hid hr
      clear hr hcA
      have HR := Lib.hid (show trnAt l K m = r by
        unfold trnAt
        rw [HL.out, List.getD_eq_getElem?_getD, Hr.out]; rfl)
      have HO := Lib.hid hown
      have hol : (trn l K m).length ≤ 100 := by rw [trn_len]; omega
      clear hown
      go_wp2_with (at_builtin; refine wpList_app _ rfl _ _ 35 rfl encPt_len (by decide) oneP z1.1.heap.size 23 (.agg #[.int .i64 0, .int .i64 0]) 16 infoPt rfl Try.underlying35 _ _ _ _ rfl (HO.out.alloc _) _ _ _ rfl (rd_one _ encPt_len _ r _ rfl) ?c1 (by decide) ?c2 ?_; (case c1 => (first | (simp only [List.length_append, List.length_cons, List.length_nil]; omega) | omega | (simp; omega))); (case c2 => exact (by repeat (first | with_reducible exact Nat.le_refl _ | assumption | with_reducible refine le_alloc ?_ _ | with_reducible refine le_drew ?_ | with_reducible refine Kin.le _ ?_ | assumption | omega | (simp only [World.size_alloc]; omega)))); intro v' w1 hown' hg hbel hat'; (obtain ⟨y2, rfl⟩ : ∃ y : Kin z1.1, y.1 = w1 := ⟨⟨w1, Below.trans (by repeat (first | with_reducible (first | exact blA | exact blB | refine blC _ ?_ | refine blD ?_ ?_ _ | refine blE ?_ | refine blF _ ?_ | refine blG ?_ _ | refine blH ?_ | refine blI ?_ ?_ _) | (simp only [World.size_alloc]; omega) | (simp <;> omega))) hbel⟩, rfl⟩); clear hbel hg hat')
      go_roundw
      case rel =>
        refine ⟨m + 1, by omega, by go_num, ?_, y2, rfl⟩
        rw [trn_succ, HR.out]
        exact hown'
      case measure => simp [intOf]; omega
    · have e : m = n := by omega
      subst e
      have hrt := Rd.own encPt_len hown
      obtain ⟨AT, capT, rfl, hcapT, _⟩ := hrt.open_
      have HT := Lib.hid hrt
      have htl : (trn l K m).length ≤ 100 := by rw [trn_len]; omega
      have hll : l.length ≤ 100 := by rw [HL.out]; omega
      clear hrt hown
      go_wp2_with (first
        | (go_at_call 32; (with_reducible refine (Kin.call0 (hull_any _ (trn l K m) _ (HT.out.below (by repeat (first | with_reducible (first | exact blA | exact blB | refine blC _ ?_ | refine blD ?_ ?_ _ | refine blE ?_ | refine blF _ ?_ | refine blG ?_ _ | refine blH ?_ | refine blI ?_ ?_ _) | (simp only [World.size_alloc]; omega) | (simp <;> omega)))))).mono ?_); rintro e w' ⟨q1, ⟨t1, rfl, ht1⟩, rfl⟩; (rw [HE1.out] at ht1; have HX1 := Lib.hid (Rd.own encPt_len ht1); clear ht1))
        | (go_at_call 32; (with_reducible refine (Kin.call0 (hull_any _ ([] ++ trn l K m ++ l) _ (HTW.out.below (by repeat (first | with_reducible (first | exact blA | exact blB | refine blC _ ?_ | refine blD ?_ ?_ _ | refine blE ?_ | refine blF _ ?_ | refine blG ?_ _ | refine blH ?_ | refine blI ?_ ?_ _) | (simp only [World.size_alloc]; omega) | (simp <;> omega)))))).mono ?_); rintro e w' ⟨q2, ⟨t2, rfl, ht2⟩, rfl⟩; (rw [HE2.out] at ht2; have HX2 := Lib.hid (Rd.own encPt_len ht2); clear ht2))
        | (go_at_call 32; (with_reducible refine (Kin.call0 (hull_any _ (hullP l) _ (HH.out.below (by repeat (first | with_reducible (first | exact blA | exact blB | refine blC _ ?_ | refine blD ?_ ?_ _ | refine blE ?_ | refine blF _ ?_ | refine blG ?_ _ | refine blH ?_ | refine blI ?_ ?_ _) | (simp only [World.size_alloc]; omega) | (simp <;> omega)))))).mono ?_); rintro e w' ⟨q3, ⟨t3, rfl, ht3⟩, rfl⟩; (rw [HE3.out] at ht3; have HX3 := Lib.hid (Rd.own encPt_len ht3); clear ht3))
        | (go_at_call 31; (with_reducible refine (Kin.call0 (pts_true _ _ (hullP l) _ (HX3.out.below (by repeat (first | with_reducible (first | exact blA | exact blB | refine blC _ ?_ | refine blD ?_ ?_ _ | refine blE ?_ | refine blF _ ?_ | refine blG ?_ _ | refine blH ?_ | refine blI ?_ ?_ _) | (simp only [World.size_alloc]; omega) | (simp <;> omega)))) (HH.out.below (by repeat (first | with_reducible (first | exact blA | exact blB | refine blC _ ?_ | refine blD ?_ ?_ _ | refine blE ?_ | refine blF _ ?_ | refine blG ?_ _ | refine blH ?_ | refine blI ?_ ?_ _) | (simp only [World.size_alloc]; omega) | (simp <;> omega)))) (by omega))).mono ?_); rintro e w' ⟨r3, rfl, rfl⟩; skip)
        | (go_at_call 31; (with_reducible refine (Kin.call0 (pts_true _ _ (hullP l) _ (HX2.out.below (by repeat (first | with_reducible (first | exact blA | exact blB | refine blC _ ?_ | refine blD ?_ ?_ _ | refine blE ?_ | refine blF _ ?_ | refine blG ?_ _ | refine blH ?_ | refine blI ?_ ?_ _) | (simp only [World.size_alloc]; omega) | (simp <;> omega)))) (HH.out.below (by repeat (first | with_reducible (first | exact blA | exact blB | refine blC _ ?_ | refine blD ?_ ?_ _ | refine blE ?_ | refine blF _ ?_ | refine blG ?_ _ | refine blH ?_ | refine blI ?_ ?_ _) | (simp only [World.size_alloc]; omega) | (simp <;> omega)))) (by omega))).mono ?_); rintro e w' ⟨r2, rfl, rfl⟩; skip)
        | (go_at_call 31; (with_reducible refine (Kin.call0 (pts_true _ _ (hullP l) _ (HX1.out.below (by repeat (first | with_reducible (first | exact blA | exact blB | refine blC _ ?_ | refine blD ?_ ?_ _ | refine blE ?_ | refine blF _ ?_ | refine blG ?_ _ | refine blH ?_ | refine blI ?_ ?_ _) | (simp only [World.size_alloc]; omega) | (simp <;> omega)))) (HH.out.below (by repeat (first | with_reducible (first | exact blA | exact blB | refine blC _ ?_ | refine blD ?_ ?_ _ | refine blE ?_ | refine blF _ ?_ | refine blG ?_ _ | refine blH ?_ | refine blI ?_ ?_ _) | (simp only [World.size_alloc]; omega) | (simp <;> omega)))) (by omega))).mono ?_); rintro e w' ⟨r1, rfl, rfl⟩; skip)
        | (go_at_call 34; (with_reducible refine (Kin.call0 (hulled_any _)).mono ?_); rintro e w' ⟨r4, rfl, rfl⟩; skip)
        | (at_builtin; refine wpList_app _ rfl _ _ 35 rfl encPt_len (by decide) oneP y.1.heap.size 23 (.agg #[.int .i64 0, .int .i64 0]) 16 infoPt rfl Try.underlying35 _ _ _ _ rfl (hown') _ _ _ rfl (HLA.out.below (by repeat (first | with_reducible (first | exact blA | exact blB | refine blC _ ?_ | refine blD ?_ ?_ _ | refine blE ?_ | refine blF _ ?_ | refine blG ?_ _ | refine blH ?_ | refine blI ?_ ?_ _) | (simp only [World.size_alloc]; omega) | (simp <;> omega)))) ?c1 (by decide) ?c2 ?_; (case c1 => (first | (simp only [List.length_append, List.length_cons, List.length_nil]; omega) | omega | (simp; omega))); (case c2 => exact (by repeat (first | with_reducible exact Nat.le_refl _ | assumption | with_reducible refine le_alloc ?_ _ | with_reducible refine le_drew ?_ | with_reducible refine Kin.le _ ?_ | assumption | omega | (simp only [World.size_alloc]; omega)))); intro v' w1 hown' hg hbel hat'; (obtain ⟨y4, rfl⟩ : ∃ y : Kin y.1, y.1 = w1 := ⟨⟨w1, Below.trans (by repeat (first | with_reducible (first | exact blA | exact blB | refine blC _ ?_ | refine blD ?_ ?_ _ | refine blE ?_ | refine blF _ ?_ | refine blG ?_ _ | refine blH ?_ | refine blI ?_ ?_ _) | (simp only [World.size_alloc]; omega) | (simp <;> omega))) hbel⟩, rfl⟩); clear hbel hg hat'; (have hrw := Rd.own encPt_len hown'; have HTW := Lib.hid hrw; clear hrw))
        | (at_builtin; refine wpList_app _ rfl _ _ 35 rfl encPt_len (by decide) oneP y.1.heap.size 23 (.agg #[.int .i64 0, .int .i64 0]) 16 infoPt rfl Try.underlying35 _ _ _ _ rfl (own_made _ encPt_len y.1.heap.size _ [] #[] rfl (by repeat (first | with_reducible exact Nat.le_refl _ | assumption | with_reducible refine le_alloc ?_ _ | with_reducible refine le_drew ?_ | with_reducible refine Kin.le _ ?_ | assumption | omega | (simp only [World.size_alloc]; omega))) (by decide)) _ _ _ rfl (HT.out.below (by repeat (first | with_reducible (first | exact blA | exact blB | refine blC _ ?_ | refine blD ?_ ?_ _ | refine blE ?_ | refine blF _ ?_ | refine blG ?_ _ | refine blH ?_ | refine blI ?_ ?_ _) | (simp only [World.size_alloc]; omega) | (simp <;> omega)))) ?c1 (by decide) ?c2 ?_; (case c1 => (first | (simp only [List.length_append, List.length_cons, List.length_nil]; omega) | omega | (simp; omega))); (case c2 => exact (by repeat (first | with_reducible exact Nat.le_refl _ | assumption | with_reducible refine le_alloc ?_ _ | with_reducible refine le_drew ?_ | with_reducible refine Kin.le _ ?_ | assumption | omega | (simp only [World.size_alloc]; omega)))); intro v' w1 hown' hg hbel hat'; (obtain ⟨y3, rfl⟩ : ∃ y : Kin y.1, y.1 = w1 := ⟨⟨w1, Below.trans (by repeat (first | with_reducible (first | exact blA | exact blB | refine blC _ ?_ | refine blD ?_ ?_ _ | refine blE ?_ | refine blF _ ?_ | refine blG ?_ _ | refine blH ?_ | refine blI ?_ ?_ _) | (simp only [World.size_alloc]; omega) | (simp <;> omega))) hbel⟩, rfl⟩); clear hbel hg hat'))
      go_ret
      exact ⟨rfl, (by repeat (first | with_reducible (first | exact blA | exact blB | refine blC _ ?_ | refine blD ?_ ?_ _ | refine blE ?_ | refine blF _ ?_ | refine blG ?_ _ | refine blH ?_ | refine blI ?_ ?_ _) | (simp only [World.size_alloc]; omega) | (simp <;> omega)))⟩
theorem open_u8 {H : Type} {enc : TypeId × Value → H} {W : World} {r : Reach} {b0 base : Nat} {spare : Nat → Bool} {held : Bool} {v : Value} {d : DataW H} {ps : List MemPlace} (hv : Value.okWide Try.prog W r b0 5 v) (h : DataW.Trod enc Try.prog W base spare held 5 v d ps) : ∃ n : Int, v = .int .u8 n ∧ 0 ≤ n ∧ n ≤ 255 := by
  obtain ⟨n, rfl, _, _, wf⟩ := open_int Try.underlying5 hv h
  exact ⟨n, rfl, bounds_u8 wf⟩
set_option maxRecDepth 100000 in
theorem planarHullAgain_lifted (os : Os) (started : os.Started) (H : Type) (enc : TypeId × Value → H) :
    ReturnsInHanded {} Try.checked os 13 .any (Rows.planarHullAgainSpec.pre6 enc Try.prog Try.f13 Rows.planarHullAgainRow.domain false) (Rows.planarHullAgainSpec.post enc Try.prog Try.f13 false true false false) := by
  refine returnsInHanded_of_change (C := Try.checked) own started (by kernel_rfl) Try.func13
    (ChangeSpec.witness6 (enc := enc) (C := Try.checked) false ⟨#[], #[.slice none 0 0, .int .u8 0], []⟩ 8 (by kernel_rfl) (by kernel_rfl) (by kernel_rfl) (by kernel_rfl)) ?_
  intro W base args ds gs before hval0 hW hcnd _
  have hval : ∀ (j : Nat) t v, Try.f13.params[j]? = some t → args[j]? = some v → Value.okWide Try.prog W .any base t v := hval0
  have hW' := hW
  obtain ⟨p, q, hA0, hV, rfl, hfz, hnd⟩ := hW
  have hA : DataW.TrodAll enc Try.prog W 0 (fun _ => true) true Try.f13.params.toList args.toList ds p := hA0
  rw [Try.params13] at hA hval
  have hAA := hA
  obtain ⟨v0, vs0, d0, ds0, p0, q0, hargs, rfl, rfl, h0, r0⟩ := trodAll_cons hA
  obtain ⟨v1, vs1, d1, ds1, p1, q1, rfl, rfl, rfl, h1, r1⟩ := trodAll_cons r0
  obtain ⟨rfl, rfl, rfl⟩ := trodAll_nil r1
  obtain rfl : args = #[v0, v1] := by cases args; simp_all
  obtain ⟨rfl, rfl⟩ := trodVars_none hV
  have o0 := open_pts (hval 0 35 v0 rfl rfl) h0
  have o1 := open_u8 (hval 1 5 v1 rfl rfl) h1
  have hlt : ∀ x ∈ p0 ++ (p1 ++ []), x.block < W.heap.size := fun x hx => hW'.lt x (by simpa using hx)
  refine (again_walk W _ o0 _ o1).mono fun e W' ⟨he, bel⟩ => ?_
  subst he
  exact ⟨_, rfl, _, _, _, [], _, [], hW', trodAll_mk1 (shut_bool Try.underlying4 _), below_trodAll laidOut bel _ _ _ _ (by
    intro t ht
    have hcl : ([35, 5] : List TypeId).all (fun t => Try.prog.readableRec t && decide (t < Try.prog.types.size)) = true := by kernel_rfl
    have := List.all_eq_true.1 hcl t ht
    simpa using this) hlt hAA, rfl, bel.frame _, fun h => by cases h⟩
theorem planarHullAgain_heard : (Try.checked.prog.stopsHeard = true ∧ Try.checked.prog.mayEnter = true) ∧ Try.checked.prog.liftsFinal = Rows.planarHullAgainRow.lifted := ⟨⟨by kernel_rfl, by kernel_rfl⟩, by kernel_rfl⟩
theorem planarHullAgain_calls : (Try.checked.prog.inPlace 13 = Rows.planarHullAgainRow.inPlace ∧ Try.checked.prog.unfollowed 13 = Rows.planarHullAgainRow.unfollowed) ∧ (Try.checked.prog.recurses 13 = Rows.planarHullAgainRow.recurses ∧ Try.checked.prog.varsNamed 13 = Rows.planarHullAgainRow.named) := ⟨⟨by kernel_rfl, by kernel_rfl⟩, ⟨by kernel_rfl, by kernel_rfl⟩⟩
theorem planarHullAgain_closed : joinedFacts Try.checked.prog 13 Try.f13 Rows.planarHullAgainSpec Rows.planarHullAgainRow = true := by
  unfold joinedFacts
  rw [planarHullAgain_calls.1.1, planarHullAgain_calls.1.2, planarHullAgain_calls.2.1, planarHullAgain_calls.2.2, planarHullAgain_heard.1.1, planarHullAgain_heard.1.2, planarHullAgain_heard.2]
  kernel_rfl
/-- PlanarHullAgain: for every input the call returns true, and the arguments read behind it as before. No condition. -/
theorem planarHullAgain_holds : Rows.PlanarHullAgainSaid :=
  OpenClaim.holds_of_wide 13 Try.f13 rfl rfl rfl rfl rfl rfl rfl ⟨rfl, rfl, rfl, rfl, rfl⟩ rfl rfl rfl rfl rfl (by kernel_rfl) Try.func13 planarHullAgain_closed
    (of_decide_eq_true (by kernel_rfl)) (by unfold Func.isWrapper; rw [if_neg (of_decide_eq_false (by kernel_rfl))]; exact ⟨rfl, rfl⟩)
    (fun os started H enc _ => planarHullAgain_lifted os started H enc)

end Go.Proofs.Ytceamihampfdiaa
