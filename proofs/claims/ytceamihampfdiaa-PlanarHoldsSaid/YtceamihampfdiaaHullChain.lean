/- planar.chain walked: it returns the chain without its last point. -/
import Derived.Test.YtceamihampfdiaaHullCompact
import Derived.Test.YtceamihampfdiaaPlanarWalks
namespace Go.Proofs.Ytceamihampfdiaa
set_option linter.unusedSimpArgs false
set_option linter.unusedVariables false
set_option maxRecDepth 100000
open Go.RowKit Go.Proofs Planar
attribute [local go_sem] Kin.cell Kin.frozen Kin.lt0 Kin.lt1 Kin.lt2 Kin.lt3 run_mkf
def vlen : Value → Nat
  | .slice _ n _ => n
  | _ => 0
theorem turn_le {a b c : Pt} (ha : vld a = true) (hb : vld b = true) (hc : vld c = true) : turn a b c ≤ 0 ↔ crs a b c ≤ 0 := by
  unfold turn cross sgn; simp only [ha, hb, hc, Bool.and_self, if_true]; split <;> (try split) <;> omega
theorem popR_mem (p : Pt) : ∀ (s : List Pt) (z : Pt), z ∈ popR p s → z ∈ s
  | [], z, h => h
  | [a], z, h => h
  | b :: a :: r, z, h => by
    rw [popR] at h
    split at h
    · exact List.mem_cons_of_mem _ (popR_mem p (a :: r) z h)
    · exact h
theorem popR_ne (p : Pt) : ∀ (s : List Pt), s ≠ [] → popR p s ≠ []
  | [], h => h
  | [a], h => h
  | b :: a :: r, h => by
    rw [popR]
    split
    · exact popR_ne p (a :: r) (by simp)
    · exact h
theorem chR_snoc (l : List Pt) (p : Pt) : chR (l ++ [p]) = p :: popR p (chR l) := by unfold chR; rw [List.foldl_append]; rfl
theorem popR_len (p : Pt) : ∀ (s : List Pt), (popR p s).length ≤ s.length
  | [] => Nat.le_refl _
  | [a] => Nat.le_refl _
  | b :: a :: r => by
    rw [popR]
    split
    · have := popR_len p (a :: r); simp at *; omega
    · exact Nat.le_refl _
theorem chR_all (l : List Pt) : ∀ z ∈ chR l, z ∈ l := by
  have key : ∀ (m : List Pt), ∀ z ∈ chR m.reverse, z ∈ m.reverse := by
    intro m
    induction m with
    | nil => intro z h; exact h
    | cons x m ih =>
      intro z h
      rw [List.reverse_cons, chR_snoc] at h
      rw [List.reverse_cons, List.mem_append]
      rcases List.mem_cons.1 h with rfl | h
      · exact .inr (by simp)
      · exact .inl (ih z (popR_mem _ _ _ h))
  have := key l.reverse
  rwa [List.reverse_reverse] at this
theorem chR_len (l : List Pt) : (chR l).length ≤ l.length := by
  have key : ∀ (m : List Pt), (chR m.reverse).length ≤ m.reverse.length := by
    intro m
    induction m with
    | nil => exact Nat.le_refl _
    | cons x m ih =>
      rw [List.reverse_cons, chR_snoc]
      have := popR_len x (chR m.reverse)
      simp at *
      omega
  have := key l.reverse
  rwa [List.reverse_reverse] at this
theorem chR_ne {l : List Pt} (h : l ≠ []) : chR l ≠ [] := by
  have e : l = l.dropLast ++ [l.getLast h] := (List.dropLast_concat_getLast h).symm
  rw [e, chR_snoc]
  simp
theorem popR_stop {p : Pt} {T : List Pt} (h : ∀ b a r, T = b :: a :: r → 0 < crs a b p) : popR p T = T := by
  match T with
  | [] => rfl
  | [a] => rfl
  | b :: a :: r => rw [popR, if_neg (by have := h b a r rfl; omega)]
theorem own_shape {W : World} {base n size : Nat} {e : TypeId} {v : Value} {xs : List Value} (h : W.ownsRow base e size v n xs) : (v = .slice none 0 0 ∧ n = 0) ∨ ∃ (g cap : Nat), v = .slice (some ⟨g, 0, none⟩) n cap ∧ base ≤ g ∧ g < W.heap.size ∧ n ≤ cap := by
  rcases h.2 with ⟨rfl, h0⟩ | ⟨g, cap, cur, rfl, hbase, hb, hn, hm, hs, ht⟩
  · exact .inl ⟨rfl, h0⟩
  · exact .inr ⟨g, cap, rfl, hbase, (Array.getElem?_eq_some_iff.1 hb).1, hn⟩
theorem own_slice {W : World} {base n size : Nat} {e : TypeId} {v : Value} {xs : List Value} (h : W.ownsRow base e size v n xs) : ∃ (A : Option Addr) (m cap : Nat), v = .slice A m cap := by
  rcases own_shape h with ⟨rfl, _⟩ | ⟨g, cap, rfl, _⟩ <;> exact ⟨_, _, _, rfl⟩
set_option maxHeartbeats 8000000 in
theorem chain_any (v : Value) (l : List Pt) (w : World) (h : Rd 2 encPt w v l) (hv : ∀ p ∈ l, vld p = true) (hne : l ≠ []) (hlen : l.length ≤ 65536) :
    Calls Try.prog 46 #[v] w fun e w' => (∃ u, e = .returned u ∧ w'.ownsRow w.heap.size 23 2 u ((chR l).tail.reverse).length (((chR l).tail.reverse).flatMap encPt)) ∧ Below w.heap.size w w' := by
  obtain ⟨A, capA, rfl, hcapA, hopA⟩ := h.open_
  have HA := Lib.hid hopA
  have HLA := Lib.hid h
  clear hopA h
  have HV := Lib.hid hv
  clear hv
  obtain ⟨n, hL⟩ : ∃ n, l.length = n := ⟨_, rfl⟩
  have HL := Lib.hid hL
  have hn0 : 0 < n := by rw [← hL]; exact List.length_pos_iff.2 hne
  have HN := Lib.hid hne
  rw [hL] at hlen hcapA HLA ⊢
  clear hL hne
  go_enter Try.func46, Try.ntmps46
  go_wp2
  go_loopw [3, 8] (fun o i wr => ∃ k : Nat, k ≤ n ∧ i = .int .i64 k ∧ wr.ownsRow w.heap.size 23 2 o (chR (l.take k)).reverse.length ((chR (l.take k)).reverse.flatMap encPt) ∧ ∃ y : Kin w, y.1 = wr) (fun _ i _ => n - (intOf i).toNat)
  case atStart => exact ⟨0, Nat.zero_le _, rfl, World.ownsRow_nil _ _ _ _, ⟨w, Below.refl _ _⟩, rfl⟩
  case round =>
    obtain ⟨k, hk, rfl, hown, y, rfl⟩ := hrel
    by_cases hlt : k < n
    · obtain ⟨p, hp⟩ : ∃ el_, (l)[k]? = some el_ := ⟨_, List.getElem?_eq_getElem (by first | exact (by rw [HL.out]; exact hlt) | omega)⟩
      obtain ⟨bA, offA, rfl, hbA, hcA⟩ := HA.out (k) _ hp
      have p_0 : w.cell? ⟨bA, offA + k * 2, none⟩ = some (.int .i64 p.1) := by exact hcA (k) _ hp 0 _ rfl
      have p_1 : w.cell? ⟨bA, offA + k * 2 + 1, none⟩ = some (.int .i64 p.2) := by exact hcA (k) _ hp 1 _ rfl
      have hbA2 : bA < w.heap.size + 1 := by omega
      have HAc := Lib.hid hcA
      have Hp := Lib.hid hp
      clear hp hcA
      obtain ⟨sA, sn, sc, rfl⟩ := own_slice hown
      have HO := Lib.hid (hown.alloc (.cells #[.int .i64 p.1, .int .i64 p.2] 23))
      clear hown
      go_wp2
      obtain ⟨y1, hy1⟩ : ∃ y1 : Kin w, y1.1 = y.1.alloc (.cells #[.int .i64 p.1, .int .i64 p.2] 23) := ⟨⟨y.1.alloc (.cells #[.int .i64 p.1, .int .i64 p.2] 23), y.2.alloc y.2.size _⟩, rfl⟩
      have e0 : y1.1.cell? ⟨y.1.heap.size, 0, none⟩ = some (.int .i64 p.1) := by rw [hy1]; simp
      have e1 : y1.1.cell? ⟨y.1.heap.size, 1, none⟩ = some (.int .i64 p.2) := by rw [hy1]; simp
      have hG : y.1.heap.size < y1.1.heap.size := by rw [hy1]; simp
      rw [← hy1] at HO ⊢
      obtain ⟨G, hGe⟩ : ∃ G, y.1.heap.size = G := ⟨_, rfl⟩
      rw [hGe] at e0 e1 hG ⊢
      clear hGe hy1
      go_loopw [3] (fun o wr => ∃ T : List Pt, popR p T = popR p (chR (l.take k)) ∧ y1.1.ownsRow w.heap.size 23 2 o T.reverse.length (T.reverse.flatMap encPt) ∧ (∀ z ∈ T, z ∈ l) ∧ T.length ≤ n ∧ ∃ z : Kin y1.1, z.1 = wr) (fun o _ => vlen o)
      case atStart => exact ⟨_, rfl, HO.out, fun z hz => List.mem_of_mem_take (chR_all _ z hz), by have := chR_len (l.take k); rw [List.length_take] at this; omega, ⟨_, Below.refl _ _⟩, rfl⟩
      case round =>
        clear HO
        obtain ⟨T, hpop, hown, hT, hTn, z, rfl⟩ := hrel
        have hvp : vld p = true := HV.out p (List.mem_of_getElem? Hp.out)
        have hTb : T.reverse.length ≤ 65536 := by rw [List.length_reverse]; omega
        rcases own_shape hown with ⟨rfl, hT0⟩ | ⟨g, cap, rfl, hbase, hg, hTc⟩
        · have HT := Lib.hid (And.intro hpop (And.intro hT (And.intro hTn (show popR p T = T by rw [List.length_reverse] at hT0; rw [List.eq_nil_of_length_eq_zero hT0]; rfl))))
          have HOW := Lib.hid hown
          clear hpop hown hT hTn hT0
          go_wp2
          ((first | refine wp_region_kin _ (by kernel_rfl) (by kernel_rfl) ?_ | refine wp_region_kin0 (by kernel_rfl) (by kernel_rfl) ?_); (repeat' (first | go_big_quiet_step ((go_at_call 21; exact Kin.quiet _ (turn_any _ _ _ _))) | ((refine wpQuiet_guard rfl rfl rfl rfl (fun hg => ?_) (fun hg => ?_)) <;> (fail_if_success (first | guard_hyp hg : true = true | guard_hyp hg : false = false)) <;> (try simp only [decide_eq_true_eq, decide_eq_false_iff_not] at hg) <;> simp only [Act.put, List.setIfInBounds_toArray, List.set_cons_zero, List.set_cons_succ]))); all_goals ((with_reducible refine wpQuiet_nil ?_); rintro _ ⟨z, rfl⟩))
          go_wp2_with (at_builtin; refine wpList_app _ rfl _ _ 35 rfl encPt_len (by decide) oneP w.heap.size 23 (.agg #[.int .i64 0, .int .i64 0]) 16 infoPt rfl Try.underlying35 _ _ _ _ rfl ((own_below HOW.out z.2).alloc _) _ _ _ rfl (rd_one _ encPt_len _ p _ rfl) ?c1 (by decide) ?c2 ?_; (case c1 => (first | (simp only [List.length_append, List.length_cons, List.length_nil]; omega) | omega | (simp; omega))); (case c2 => exact (by repeat (first | with_reducible exact Nat.le_refl _ | assumption | with_reducible refine le_alloc ?_ _ | with_reducible refine le_drew ?_ | with_reducible refine Kin.le _ ?_ | assumption | omega | (simp only [World.size_alloc]; omega)))); intro v' w1 hown' hg hbel hat'; (obtain ⟨yk, rfl⟩ : ∃ y : Kin w, y.1 = w1 := ⟨⟨w1, Below.trans (by repeat (first | with_reducible (first | exact blA | exact blB | refine blC _ ?_ | refine blD ?_ ?_ _ | refine blE ?_ | refine blF _ ?_ | refine blG ?_ _ | refine blH ?_ | refine blI ?_ ?_ _) | (simp only [World.size_alloc]; omega) | (simp <;> omega))) hbel⟩, rfl⟩); clear hbel hg hat')
          go_roundw
          case rel =>
            refine ⟨k + 1, by omega, by go_num, ?_, yk, rfl⟩
            have ek : l.take (k + 1) = l.take k ++ [p] := by rw [List.take_add_one, Hp.out]; rfl
            rw [ek, chR_snoc, ← HT.out.1, HT.out.2.2.2]
            simpa using hown'
          case measure => simp [intOf]; omega
        · obtain ⟨N, hN⟩ : ∃ N, T.reverse.length = N := ⟨_, rfl⟩
          have HOW := Lib.hid hown
          have HN2 := Lib.hid hN
          have HOWm := Lib.hid (show y1.1.ownsRow w.heap.size 23 2 (.slice (some ⟨g, 0, none⟩) N cap) T.reverse.length (T.reverse.flatMap encPt) by rw [← hN]; exact hown)
          rw [hN] at hown hTc ⊢
          have hNb : N ≤ 65536 := by rw [List.length_reverse] at hN; omega
          by_cases h2 : 2 ≤ N
          · obtain ⟨b, a, r, rfl⟩ : ∃ b a r, T = b :: a :: r := by
              match T, hN with
              | [], hN => simp at hN; omega
              | [a], hN => simp at hN; omega
              | b :: a :: r, _ => exact ⟨b, a, r, rfl⟩
            have h1N : (1 : Int) < (N : Int) := by omega
            have hNr : N = r.length + 2 := by rw [← hN]; simp
            have ga : (b :: a :: r).reverse[N - 2]? = some a := by
              rw [show N - 2 = r.length by omega]; simp
            have gb : (b :: a :: r).reverse[N - 1]? = some b := by
              rw [show N - 1 = r.length + 1 by omega]; simp
            obtain ⟨a0, a1⟩ := own_cell2 hown ga (by omega)
            obtain ⟨b0, b1⟩ := own_cell2 hown gb (by omega)
            have hva : vld a = true := HV.out a (hT a (by simp))
            have hvb : vld b = true := HV.out b (hT b (by simp))
            have HTa := Lib.hid (And.intro hpop (And.intro hT hTn))
            have HR := Lib.hid hNr
            have HOW2 := Lib.hid hown
            clear ga gb hpop hown hT hTn hN hNr
            by_cases ht : turn a b p ≤ 0
            · go_wp2
              ((first | refine wp_region_kin _ (by kernel_rfl) (by kernel_rfl) ?_ | refine wp_region_kin0 (by kernel_rfl) (by kernel_rfl) ?_); (repeat' (first | go_big_quiet_step ((go_at_call 21; exact Kin.quiet _ (turn_any a b p _))) | ((refine wpQuiet_guard rfl rfl rfl rfl (fun hg => ?_) (fun hg => ?_)) <;> (fail_if_success (first | guard_hyp hg : true = true | guard_hyp hg : false = false)) <;> (try simp only [decide_eq_true_eq, decide_eq_false_iff_not] at hg) <;> simp only [Act.put, List.setIfInBounds_toArray, List.set_cons_zero, List.set_cons_succ]))); all_goals ((with_reducible refine wpQuiet_nil ?_); rintro _ ⟨z, rfl⟩))
              go_wp2
              go_roundw
              case rel =>
                refine ⟨a :: r, ?_, ?_, fun x hx => HTa.out.2.1 x (List.mem_cons_of_mem _ hx), by have := HTa.out.2.2; simp at *; omega, z, rfl⟩
                · rw [← HTa.out.1]
                  show _ = popR p (b :: a :: r)
                  rw [popR, if_pos ((turn_le hva hvb hvp).1 ht)]
                · have := own_cut encPt_len HOW2.out (k := N - 1) (by omega) (by rw [List.length_reverse]; simp; have := HR.out; omega)
                  have e : (b :: a :: r).reverse.take (N - 1) = (a :: r).reverse := by
                    rw [List.reverse_cons, List.take_append_of_le_length (by have := HR.out; simp; omega), List.take_of_length_le (by have := HR.out; simp; omega)]
                  rw [e] at this
                  rw [show (a :: r).reverse.length = N - 1 by have := HR.out; simp; omega]
                  exact this
              case measure => simp [vlen]; omega
            · have HT := Lib.hid (And.intro HTa.out.1 (And.intro HTa.out.2.1 (And.intro HTa.out.2.2 (show popR p (b :: a :: r) = b :: a :: r by
                rw [popR, if_neg (fun h => ht ((turn_le hva hvb hvp).2 h))]))))
              clear HTa
              go_wp2
              ((first | refine wp_region_kin _ (by kernel_rfl) (by kernel_rfl) ?_ | refine wp_region_kin0 (by kernel_rfl) (by kernel_rfl) ?_); (repeat' (first | go_big_quiet_step ((go_at_call 21; exact Kin.quiet _ (turn_any a b p _))) | ((refine wpQuiet_guard rfl rfl rfl rfl (fun hg => ?_) (fun hg => ?_)) <;> (fail_if_success (first | guard_hyp hg : true = true | guard_hyp hg : false = false)) <;> (try simp only [decide_eq_true_eq, decide_eq_false_iff_not] at hg) <;> simp only [Act.put, List.setIfInBounds_toArray, List.set_cons_zero, List.set_cons_succ]))); all_goals ((with_reducible refine wpQuiet_nil ?_); rintro _ ⟨z, rfl⟩))
              · go_wp2_with (at_builtin; refine wpList_app _ rfl _ _ 35 rfl encPt_len (by decide) oneP w.heap.size 23 (.agg #[.int .i64 0, .int .i64 0]) 16 infoPt rfl Try.underlying35 _ _ _ _ rfl ((own_below HOWm.out z.2).alloc _) _ _ _ rfl (rd_one _ encPt_len _ p _ rfl) ?c1 (by decide) ?c2 ?_; (case c1 => (first | (simp only [List.length_append, List.length_cons, List.length_nil]; omega) | omega | (simp; omega))); (case c2 => exact (by repeat (first | with_reducible exact Nat.le_refl _ | assumption | with_reducible refine le_alloc ?_ _ | with_reducible refine le_drew ?_ | with_reducible refine Kin.le _ ?_ | assumption | omega | (simp only [World.size_alloc]; omega)))); intro v' w1 hown' hg hbel hat'; (obtain ⟨yk, rfl⟩ : ∃ y : Kin w, y.1 = w1 := ⟨⟨w1, Below.trans (by repeat (first | with_reducible (first | exact blA | exact blB | refine blC _ ?_ | refine blD ?_ ?_ _ | refine blE ?_ | refine blF _ ?_ | refine blG ?_ _ | refine blH ?_ | refine blI ?_ ?_ _) | (simp only [World.size_alloc]; omega) | (simp <;> omega))) hbel⟩, rfl⟩); clear hbel hg hat')
                go_roundw
                case rel =>
                  refine ⟨k + 1, by omega, by go_num, ?_, yk, rfl⟩
                  have ek : l.take (k + 1) = l.take k ++ [p] := by rw [List.take_add_one, Hp.out]; rfl
                  rw [ek, chR_snoc, ← HT.out.1, HT.out.2.2.2]
                  simpa using hown'
                case measure => simp [intOf]; omega
          · have h1N : ¬ (1 : Int) < (N : Int) := by omega
            have HT := Lib.hid (And.intro hpop (And.intro hT (And.intro hTn (show popR p T = T by
              match T, hN with
              | [], _ => rfl
              | [a], _ => rfl
              | b :: a :: r, hN => simp at hN; omega))))
            have HOW2 := Lib.hid hown
            clear hpop hown hT hTn hN
            have hNN : N = 0 ∨ N = 1 := by omega
            clear h1N h2
            rcases hNN with rfl | rfl
            · go_wp2
              ((first | refine wp_region_kin _ (by kernel_rfl) (by kernel_rfl) ?_ | refine wp_region_kin0 (by kernel_rfl) (by kernel_rfl) ?_); (repeat' (first | go_big_quiet_step ((go_at_call 21; exact Kin.quiet _ (turn_any _ _ _ _))) | ((refine wpQuiet_guard rfl rfl rfl rfl (fun hg => ?_) (fun hg => ?_)) <;> (fail_if_success (first | guard_hyp hg : true = true | guard_hyp hg : false = false)) <;> (try simp only [decide_eq_true_eq, decide_eq_false_iff_not] at hg) <;> simp only [Act.put, List.setIfInBounds_toArray, List.set_cons_zero, List.set_cons_succ]))); all_goals ((with_reducible refine wpQuiet_nil ?_); rintro _ ⟨z, rfl⟩))
              · go_wp2_with (at_builtin; refine wpList_app _ rfl _ _ 35 rfl encPt_len (by decide) oneP w.heap.size 23 (.agg #[.int .i64 0, .int .i64 0]) 16 infoPt rfl Try.underlying35 _ _ _ _ rfl ((own_below HOWm.out z.2).alloc _) _ _ _ rfl (rd_one _ encPt_len _ p _ rfl) ?c1 (by decide) ?c2 ?_; (case c1 => (first | (simp only [List.length_append, List.length_cons, List.length_nil]; omega) | omega | (simp; omega))); (case c2 => exact (by repeat (first | with_reducible exact Nat.le_refl _ | assumption | with_reducible refine le_alloc ?_ _ | with_reducible refine le_drew ?_ | with_reducible refine Kin.le _ ?_ | assumption | omega | (simp only [World.size_alloc]; omega)))); intro v' w1 hown' hg hbel hat'; (obtain ⟨yk, rfl⟩ : ∃ y : Kin w, y.1 = w1 := ⟨⟨w1, Below.trans (by repeat (first | with_reducible (first | exact blA | exact blB | refine blC _ ?_ | refine blD ?_ ?_ _ | refine blE ?_ | refine blF _ ?_ | refine blG ?_ _ | refine blH ?_ | refine blI ?_ ?_ _) | (simp only [World.size_alloc]; omega) | (simp <;> omega))) hbel⟩, rfl⟩); clear hbel hg hat')
                go_roundw
                case rel =>
                  refine ⟨k + 1, by omega, by go_num, ?_, yk, rfl⟩
                  have ek : l.take (k + 1) = l.take k ++ [p] := by rw [List.take_add_one, Hp.out]; rfl
                  rw [ek, chR_snoc, ← HT.out.1, HT.out.2.2.2]
                  simpa using hown'
                case measure => simp [intOf]; omega
            · go_wp2
              ((first | refine wp_region_kin _ (by kernel_rfl) (by kernel_rfl) ?_ | refine wp_region_kin0 (by kernel_rfl) (by kernel_rfl) ?_); (repeat' (first | go_big_quiet_step ((go_at_call 21; exact Kin.quiet _ (turn_any _ _ _ _))) | ((refine wpQuiet_guard rfl rfl rfl rfl (fun hg => ?_) (fun hg => ?_)) <;> (fail_if_success (first | guard_hyp hg : true = true | guard_hyp hg : false = false)) <;> (try simp only [decide_eq_true_eq, decide_eq_false_iff_not] at hg) <;> simp only [Act.put, List.setIfInBounds_toArray, List.set_cons_zero, List.set_cons_succ]))); all_goals ((with_reducible refine wpQuiet_nil ?_); rintro _ ⟨z, rfl⟩))
              · go_wp2_with (at_builtin; refine wpList_app _ rfl _ _ 35 rfl encPt_len (by decide) oneP w.heap.size 23 (.agg #[.int .i64 0, .int .i64 0]) 16 infoPt rfl Try.underlying35 _ _ _ _ rfl ((own_below HOWm.out z.2).alloc _) _ _ _ rfl (rd_one _ encPt_len _ p _ rfl) ?c1 (by decide) ?c2 ?_; (case c1 => (first | (simp only [List.length_append, List.length_cons, List.length_nil]; omega) | omega | (simp; omega))); (case c2 => exact (by repeat (first | with_reducible exact Nat.le_refl _ | assumption | with_reducible refine le_alloc ?_ _ | with_reducible refine le_drew ?_ | with_reducible refine Kin.le _ ?_ | assumption | omega | (simp only [World.size_alloc]; omega)))); intro v' w1 hown' hg hbel hat'; (obtain ⟨yk, rfl⟩ : ∃ y : Kin w, y.1 = w1 := ⟨⟨w1, Below.trans (by repeat (first | with_reducible (first | exact blA | exact blB | refine blC _ ?_ | refine blD ?_ ?_ _ | refine blE ?_ | refine blF _ ?_ | refine blG ?_ _ | refine blH ?_ | refine blI ?_ ?_ _) | (simp only [World.size_alloc]; omega) | (simp <;> omega))) hbel⟩, rfl⟩); clear hbel hg hat')
                go_roundw
                case rel =>
                  refine ⟨k + 1, by omega, by go_num, ?_, yk, rfl⟩
                  have ek : l.take (k + 1) = l.take k ++ [p] := by rw [List.take_add_one, Hp.out]; rfl
                  rw [ek, chR_snoc, ← HT.out.1, HT.out.2.2.2]
                  simpa using hown'
                case measure => simp [intOf]; omega
    · have hkn : k = n := by omega
      have ek : l.take k = l := List.take_of_length_le (by rw [HL.out]; omega)
      rw [ek] at hown
      have hc := chR_ne HN.out
      have hcl := chR_len l
      rw [HL.out] at hcl
      rcases own_shape hown with ⟨rfl, hT0⟩ | ⟨g, cap, rfl, hbase, hg, hTc⟩
      · rw [List.length_reverse] at hT0
        exact absurd (List.eq_nil_of_length_eq_zero hT0) hc
      · obtain ⟨N, hN⟩ : ∃ N, (chR l).reverse.length = N := ⟨_, rfl⟩
        rw [hN] at hown hTc ⊢
        have hNb : N ≤ 65536 := by rw [List.length_reverse] at hN; omega
        have hN1 : 1 ≤ N := by rw [List.length_reverse] at hN; have := List.length_pos_iff.2 hc; omega
        have HW := Lib.hid hown
        have HN2 := Lib.hid hN
        clear hown hN hcl hc ek
        go_wp2
        go_ret
        have hN := HN2.out
        have := own_cut encPt_len HW.out (k := N - 1) (by omega) hN
        rw [List.length_reverse] at hN
        obtain ⟨t, T, e⟩ : ∃ t T, chR l = t :: T := by
          match h : chR l with
          | [] => rw [h] at hN; simp at hN; omega
          | t :: T => exact ⟨t, T, rfl⟩
        rw [e] at this hN ⊢
        simp only [List.length_cons] at hN
        have e2 : (t :: T).reverse.take (N - 1) = T.reverse := by
          rw [List.reverse_cons, List.take_append_of_le_length (by simp; omega), List.take_of_length_le (by simp; omega)]
        rw [e2] at this
        refine ⟨⟨_, rfl, ?_⟩, y.2⟩
        rw [List.tail_cons, show T.reverse.length = N - 1 by simp; omega]
        exact this
end Go.Proofs.Ytceamihampfdiaa
