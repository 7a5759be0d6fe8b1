/- few of the law, walked: the short ones of the first 40 tracks. -/
import Derived.Test.YtomndgjnhhchdaaTrkMem
namespace Go.Proofs.Ytomndgjnhhchdaa
set_option linter.unusedSimpArgs false
set_option linter.unusedVariables false
set_option maxRecDepth 100000
open Go.RowKit Trk
attribute [local go_sem] Kin.cell Kin.frozen Kin.lt0 Kin.lt1 Kin.lt2 Kin.lt3
def fewT (l : List Tr) : List Tr := (l.take 40).filter fun t => decide (t.2.length ≤ 300)
def fewTo (l : List Tr) (k : Nat) : List Tr := (l.take k).filter fun t => decide (t.2.length ≤ 300)
theorem fewTo_succ {l : List Tr} {k : Nat} {t : Tr} (h : l[k]? = some t) : fewTo l (k + 1) = fewTo l k ++ (if t.2.length ≤ 300 then [t] else []) := by
  unfold fewTo
  rw [List.take_add_one, h, List.filter_append]
  congr 1
  simp only [Option.toList, List.filter_cons, List.filter_nil]
  by_cases h3 : t.2.length ≤ 300 <;> simp [h3]
theorem fewTo_len (l : List Tr) (k : Nat) : (fewTo l k).length ≤ k := by
  unfold fewTo
  exact Nat.le_trans (List.length_filter_le _ _) (by rw [List.length_take]; exact Nat.min_le_left _ _)
theorem few_len (l : List Tr) : (fewT l).length ≤ 40 := fewTo_len l 40
theorem few_short {l : List Tr} {t : Tr} (h : t ∈ fewT l) : t.2.length ≤ 300 := by
  unfold fewT at h
  simpa using (List.mem_filter.1 h).2
theorem nest_snoc {W : World} {hs : List TrH} {xs : List Tr} {p : TrH} {t : Tr} (h : NestAt tsl ttag 2 encPt (fun t : Tr => t.2) W hs xs) (ht : ttag p t) (hr : Rd 2 encPt W (tsl p) t.2) : NestAt tsl ttag 2 encPt (fun t : Tr => t.2) W (hs ++ [p]) (xs ++ [t]) := by
  refine ⟨by rw [List.length_append, List.length_append, h.1]; rfl, fun i q y hq hy => ?_⟩
  by_cases hi : i < hs.length
  · rw [List.getElem?_append_left hi] at hq
    rw [List.getElem?_append_left (by rw [← h.1]; exact hi)] at hy
    exact h.2 i q y hq hy
  · rw [List.getElem?_append_right (by omega)] at hq
    rw [List.getElem?_append_right (by rw [← h.1]; omega)] at hy
    have e1 : i - hs.length = 0 := by
      have := (List.getElem?_eq_some_iff.1 hq).1
      simp at this
      omega
    rw [e1] at hq
    rw [← h.1, e1] at hy
    simp at hq hy
    subst hq hy
    exact ⟨ht, hr⟩
set_option maxHeartbeats 4000000 in
theorem fewT_any (v : Value) (l : List Tr) (w : World) (h : RdTrs w v l) :
    Calls Try.prog 19 #[v] w fun e w' => (∃ u, e = .returned u ∧ RdTrs w' u (fewT l)) ∧ Below w.heap.size w w' := by
  obtain ⟨A, capA, rfl, hcapA, hopA⟩ := trks_open h
  have HA := Lib.hid hopA
  obtain ⟨n, hL⟩ : ∃ n, l.length = n := ⟨_, rfl⟩
  have HL := Lib.hid hL
  rw [hL] at hcapA ⊢
  clear hL hopA h
  go_enter Try.func19, Try.ntmps19
  go_wp2
  go_loopw [3, 4] (fun u i wr => ∃ k : Nat, k ≤ n ∧ k ≤ 40 ∧ i = .int .i64 k ∧ (∃ hs : List TrH, hs.length ≤ 40 ∧ Hid (wr.ownsRow w.heap.size 24 3 u hs.length (hs.flatMap encTr)) ∧ Hid (NestAt tsl ttag 2 encPt (fun t : Tr => t.2) w hs (fewTo l k)) ∧ hs.length ≤ k) ∧ ∃ y : Kin w, y.1 = wr) (fun _ i _ => n - (intOf i).toNat)
  case atStart => exact ⟨0, Nat.zero_le _, by omega, rfl, ⟨[], by simp, Lib.hid (World.ownsRow_nil _ _ _ _), Lib.hid ⟨rfl, fun i h x hh => by simp at hh⟩, by simp⟩, ⟨_, Below.refl _ _⟩, rfl⟩
  case round =>
    obtain ⟨k, hk, hk40, rfl, ⟨hs, hsl, HO, HN, hsk⟩, y, rfl⟩ := hrel
    by_cases hlt : k < n
    · by_cases hlt2 : k < 40
      · obtain ⟨t, ht⟩ : ∃ t, l[k]? = some t := ⟨_, List.getElem?_eq_getElem (by rw [HL.out]; exact hlt)⟩
        obtain ⟨bA, offA, rfl, hbA, hcA⟩ := HA.out k t ht
        obtain ⟨S, capS, t_0, t_1, t_2, hcapS, hrS⟩ := hcA k t ht
        have HSC := Lib.hid (fewTo_succ ht)
        obtain ⟨⟨r, cl⟩, cs⟩ := t
        simp only at t_0 t_1 t_2 hcapS hrS HSC
        obtain ⟨nt, hnt⟩ : ∃ nt, cs.length = nt := ⟨_, rfl⟩
        have HNT := Lib.hid hnt
        rw [hnt] at t_2 hcapS hrS HSC
        have HLS := Lib.hid hrS
        clear hnt hrS hcA ht
        by_cases h3 : nt ≤ 300
        · have h3' : (nt : Int) ≤ 300 := by omega
          have HS := Lib.hid (show fewTo l (k + 1) = fewTo l k ++ [((r, cl), cs)] by rw [HSC.out, if_pos h3])
          have HN2 := Lib.hid (nest_snoc (p := ((r, cl), (S, nt, capS))) (t := ((r, cl), cs)) HN.out rfl HLS.out)
          go_wp2_with (at_builtin; refine wpList_app _ rfl _ _ 33 rfl encTr_len (by decide) oneTr w.heap.size 24 (.agg #[.int .i64 0, .bool false, .slice none 0 0]) 40 infoTr rfl Try.underlying33 _ _ _ _ rfl (HO.out.alloc _) _ _ _ rfl (rd_one _ encTr_len _ ((r, cl), (S, nt, capS)) _ rfl) ?c1 (by decide) ?c2 ?_; (case c1 => (first | (simp only [List.length_append, List.length_cons, List.length_nil]; omega) | omega | (simp; omega))); (case c2 => exact (by repeat (first | with_reducible exact Nat.le_refl _ | assumption | with_reducible refine le_alloc ?_ _ | with_reducible refine le_drew ?_ | with_reducible refine Kin.le _ ?_ | assumption | omega | (simp only [World.size_alloc]; omega)))); intro v' w1 hown' hg hbel hat'; (obtain ⟨y2, rfl⟩ : ∃ y : Kin w, y.1 = w1 := ⟨⟨w1, Below.trans (by repeat (first | with_reducible (first | exact blA | exact blB | refine blC _ ?_ | refine blD ?_ ?_ _ | refine blE ?_ | refine blF _ ?_ | refine blG ?_ _ | refine blH ?_ | refine blI ?_ ?_ _) | (simp only [World.size_alloc]; omega) | (simp <;> omega))) hbel⟩, rfl⟩); clear hbel hg hat')
          go_roundw
          case rel => exact ⟨k + 1, by omega, by omega, by go_num, ⟨hs ++ [((r, cl), (S, nt, capS))], by simp; omega, Lib.hid hown', Lib.hid (by rw [HS.out]; exact HN2.out), by simp; omega⟩, y2, rfl⟩
          case measure => simp [intOf]; omega
        · have h3' : ¬ (nt : Int) ≤ 300 := by omega
          have HS := Lib.hid (show fewTo l (k + 1) = fewTo l k by rw [HSC.out, if_neg h3, List.append_nil])
          go_wp2
          go_roundw
          case rel => exact ⟨k + 1, by omega, by omega, by go_num, ⟨hs, hsl, HO, Lib.hid (by rw [HS.out]; exact HN.out), by omega⟩, y, rfl⟩
          case measure => simp [intOf]; omega
      · have hk4 : k = 40 := by omega
        subst hk4
        have HE := Lib.hid (show RdTrs y.1 u3 (fewT l) from ⟨hs, Rd.own encTr_len HO.out, NestAt.below HN.out y.2⟩)
        have hlt' : (40 : Int) < (n : Int) := by omega
        go_wp2
        go_ret
        exact ⟨⟨_, rfl, HE.out⟩, (by repeat (first | with_reducible (first | exact blA | exact blB | refine blC _ ?_ | refine blD ?_ ?_ _ | refine blE ?_ | refine blF _ ?_ | refine blG ?_ _ | refine blH ?_ | refine blI ?_ ?_ _) | (simp only [World.size_alloc]; omega) | (simp <;> omega)))⟩
    · have hkn : k = n := by omega
      subst hkn
      have hfe : fewTo l k = fewT l := by
        unfold fewTo fewT
        rw [List.take_of_length_le (by rw [HL.out]; exact Nat.le_refl _), List.take_of_length_le (by rw [HL.out]; exact hk40)]
      have HE := Lib.hid (show RdTrs y.1 u3 (fewT l) from ⟨hs, Rd.own encTr_len HO.out, by have := NestAt.below HN.out y.2; rwa [hfe] at this⟩)
      go_wp2
      go_ret
      exact ⟨⟨_, rfl, HE.out⟩, (by repeat (first | with_reducible (first | exact blA | exact blB | refine blC _ ?_ | refine blD ?_ ?_ _ | refine blE ?_ | refine blF _ ?_ | refine blG ?_ _ | refine blH ?_ | refine blI ?_ ?_ _) | (simp only [World.size_alloc]; omega) | (simp <;> omega)))⟩
theorem size_l (x : Int) (w : World) (h : -1000000 ≤ x ∧ x ≤ 1000000) : Calls Try.prog 18 #[.int .i64 x] w fun e w' => e = .returned (.int .i64 (max x (-x))) ∧ Below w.heap.size w w' := by
  have e1 : IntKind.i64.wrap (-x) = -x := IntWalk.i64_in _ (by omega)
  go_enter Try.func18, Try.ntmps18
  go_wp2
  all_goals
    go_ret
    exact ⟨ret_int (by first | omega | (simp [e1]; omega) | rfl), (by repeat (first | with_reducible (first | exact blA | exact blB | refine blC _ ?_ | refine blD ?_ ?_ _ | refine blE ?_ | refine blF _ ?_ | refine blG ?_ _ | refine blH ?_ | refine blI ?_ ?_ _) | (simp only [World.size_alloc]; omega) | (simp <;> omega)))⟩
end Go.Proofs.Ytomndgjnhhchdaa
