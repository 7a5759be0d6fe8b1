/- slices.Compact at points. -/
import Derived.Test.YtceamihampfdiaaHullLib
namespace Go.Proofs.Ytceamihampfdiaa
set_option linter.unusedSimpArgs false
set_option linter.unusedVariables false
set_option maxRecDepth 100000
open Go.RowKit Go.Proofs Planar
attribute [local go_sem] Kin.cell Kin.frozen Kin.lt0 Kin.lt1 Kin.lt2 Kin.lt3 run_mkf
/-- the points without those that repeat the one ahead of them -/
def ddF : Pt → List Pt → List Pt
  | _, [] => []
  | p, y :: l => if y = p then ddF p l else y :: ddF y l
def dd : List Pt → List Pt
  | [] => []
  | x :: l => x :: ddF x l
theorem ddF_snoc (y : Pt) : ∀ (l : List Pt) (p : Pt), ddF p (l ++ [y]) = if y = l.getLastD p then ddF p l else ddF p l ++ [y]
  | [], p => by simp [ddF]
  | z :: l, p => by
    have h1 := ddF_snoc y l z
    have e : (z :: l).getLastD p = l.getLastD z := by cases l <;> rfl
    rw [List.cons_append, ddF, ddF, e]
    by_cases hz : z = p
    · subst hz
      rw [if_pos rfl, if_pos rfl, h1]
    · rw [if_neg hz, if_neg hz, h1]
      split <;> simp
theorem dd_two (A : List Pt) (x y : Pt) : dd (A ++ [x] ++ [y]) = if y = x then dd (A ++ [x]) else dd (A ++ [x]) ++ [y] := by
  cases A with
  | nil => simp only [List.nil_append, List.cons_append, dd, ddF]; split <;> simp
  | cons a A =>
    rw [List.cons_append, List.cons_append, dd, dd, ddF_snoc]
    have e : (A ++ [x]).getLastD a = x := by simp [List.getLastD_eq_getLast?]
    rw [e]
    split <;> simp
theorem dd_take {L : List Pt} {m : Nat} {x y : Pt} (hx : L[m]? = some x) (hy : L[m + 1]? = some y) : dd (L.take (m + 2)) = if y = x then dd (L.take (m + 1)) else dd (L.take (m + 1)) ++ [y] := by
  have e1 : L.take (m + 1) = L.take m ++ [x] := by rw [List.take_add_one, hx]; rfl
  have e2 : L.take (m + 2) = L.take m ++ [x] ++ [y] := by rw [List.take_add_one, hy, e1]; rfl
  rw [e2, dd_two, ← e1]
theorem ddF_len : ∀ (l : List Pt) (p : Pt), (ddF p l).length ≤ l.length
  | [], _ => Nat.le_refl _
  | z :: l, p => by
    rw [ddF]
    split
    · have := ddF_len l p; simp; omega
    · have := ddF_len l z; simp; omega
theorem dd_len (l : List Pt) : (dd l).length ≤ l.length := by
  cases l with
  | nil => exact Nat.le_refl _
  | cons x l => have := ddF_len l x; simp [dd]; omega
theorem ddF_mem : ∀ (l : List Pt) (p z : Pt), z ∈ p :: ddF p l ↔ z ∈ p :: l
  | [], _, _ => Iff.rfl
  | y :: l, p, z => by
    rw [ddF]
    split
    · rename_i h
      subst h
      rw [ddF_mem l y z]; simp
    · have := ddF_mem l y z
      simp only [List.mem_cons] at *
      rw [this]
theorem dd_mem (l : List Pt) (z : Pt) : z ∈ dd l ↔ z ∈ l := by
  cases l with
  | nil => exact Iff.rfl
  | cons x l => exact ddF_mem l x z
theorem ddF_asc : ∀ (l : List Pt) (p : Pt), (p :: l).Pairwise (fun a b => ¬ lx b a) → Asc2 (p :: ddF p l)
  | [], p, _ => List.pairwise_singleton _ _
  | y :: l, p, h => by
    rw [ddF]
    have h' := List.pairwise_cons.1 h
    split
    · rename_i e
      subst e
      exact ddF_asc l y h'.2
    · rename_i e
      have ih := ddF_asc l y h'.2
      refine List.pairwise_cons.2 ⟨fun z hz => ?_, ih⟩
      have h1 : lx p y := by
        have := h'.1 y (by simp)
        rcases lx_tri p y with h2 | h2 | h2
        · exact h2
        · exact absurd h2.symm e
        · exact absurd h2 this
      rcases List.mem_cons.1 hz with rfl | hz
      · exact h1
      · exact lx_trans h1 ((List.pairwise_cons.1 ih).1 z hz)
theorem dd_asc (l : List Pt) (h : l.Pairwise (fun a b => ¬ lx b a)) : Asc2 (dd l) := by
  cases l with
  | nil => exact List.Pairwise.nil
  | cons x l => exact ddF_asc l x h
/-- the first k elements of what the call owns -/
theorem own_cut0 {size : Nat} {w : World} {base g n cap k : Nat} {e : TypeId} {xs : List Value} (h : w.ownsRow base e size (.slice (some ⟨g, 0, none⟩) n cap) n xs) (hn : k ≤ n) :
    w.ownsRow base e size (.slice (some ⟨g, 0, none⟩) k cap) k (xs.take (k * size)) := by
  have hx := h.1
  have hm := Nat.mul_le_mul_right size hn
  rcases h.2 with ⟨h', _⟩ | ⟨g', cap', cur, h', hb, hg, hnc, hcm, hcs, ht⟩
  · simp at h'
  · simp only [Value.slice.injEq, Option.some.injEq, Addr.mk.injEq, and_true, true_and] at h'
    obtain ⟨rfl, rfl⟩ := h'
    refine ⟨?_, .inr ⟨g, cap, cur, rfl, hb, hg, Nat.le_trans hn hnc, hcm, hcs, ?_⟩⟩
    · rw [List.length_take]; omega
    · rw [← ht, List.take_take, Nat.min_eq_left hm]
theorem take_flat {α : Type} {enc : α → List Value} {size : Nat} (hk : ∀ x, (enc x).length = size) (xs : List α) (k : Nat) (h : k ≤ xs.length) : (xs.flatMap enc).take (k * size) = (xs.take k).flatMap enc := by
  have e1 : xs.flatMap enc = (xs.take k).flatMap enc ++ (xs.drop k).flatMap enc := by rw [← List.flatMap_append, List.take_append_drop]
  have e2 : ((xs.take k).flatMap enc).length = k * size := by rw [flat_len hk]; simp; rw [Nat.min_eq_left (by omega)]
  rw [e1, List.take_append_of_le_length (by omega), ← e2, List.take_length]
theorem own_cut {α : Type} {enc : α → List Value} {size : Nat} (hk : ∀ x, (enc x).length = size) {w : World} {base g n cap k : Nat} {e : TypeId} {xs : List α} (h : w.ownsRow base e size (.slice (some ⟨g, 0, none⟩) n cap) n (xs.flatMap enc)) (hn : k ≤ n) (hx : xs.length = n) :
    w.ownsRow base e size (.slice (some ⟨g, 0, none⟩) k cap) k ((xs.take k).flatMap enc) := by
  have := own_cut0 h hn
  rwa [take_flat hk xs k (by omega)] at this
theorem own_setCells {base g n cap size : Nat} {e : TypeId} : ∀ (vs : List Value) (o : Nat) (w : World) (xs : List Value), w.ownsRow base e size (.slice (some ⟨g, 0, none⟩) n cap) n xs →
    (∃ xs', (w.setCells g o vs).ownsRow base e size (.slice (some ⟨g, 0, none⟩) n cap) n xs' ∧ xs'.take o = xs.take o) ∧ w.grownBy (w.setCells g o vs) (some g)
  | [], o, w, xs, h => ⟨⟨xs, h, rfl⟩, World.grownBy.refl _ _⟩
  | v :: r, o, w, xs, h => by
    obtain ⟨h1, h2⟩ := h.stored o v
    obtain ⟨⟨xs', h3, h4⟩, h5⟩ := own_setCells r (o + 1) _ _ h1
    refine ⟨⟨xs', h3, ?_⟩, ?_⟩
    · have := congrArg (List.take o) h4
      rw [List.take_take, List.take_take, Nat.min_eq_left (by omega), List.take_set_of_le (by omega)] at this
      exact this
    · exact ⟨h5.os.trans h2.os, h5.tape.trans h2.tape, h5.output.trans h2.output, Nat.le_trans h2.size h5.size, fun k hk hne => (h5.block k (Nat.lt_of_lt_of_le hk h2.size) hne).trans (h2.block k hk hne)⟩
/-- clear of points that the call owns -/
theorem run_clear_pts (w : World) (b o n c : Nat) (hn : 0 < n) (hc : ∀ j, j < n * 2 → (w.cell? ⟨b, o + j, none⟩).isSome = true) (hf : ∀ j, j < n * 2 → w.frozen? ⟨b, o + j, none⟩ = false) :
    ∃ vs : List Value, ∀ ty : TypeId, (Builtin.clear_ #[35] ty #[.slice (some ⟨b, o, none⟩) n c]).run Try.prog w = .ok (.tuple #[]) (w.setCells b o vs) := by
  refine ⟨(Builtin.zeroCells #[.int .i64 0, .int .i64 0] n).toList, fun ty => ?_⟩
  have hst := run_storeCells_cells (P := Try.prog) b o (Builtin.zeroCells #[.int .i64 0, .int .i64 0] n).toList 0 w (by simpa [Builtin.zeroCells] using hc) (by simpa [Builtin.zeroCells] using hf) (by
    intro v hv
    simp [Builtin.zeroCells] at hv
    obtain ⟨i, _, rfl⟩ := hv
    have : i % 2 = 0 ∨ i % 2 = 1 := by omega
    rcases this with h | h <;> simp [h] <;> rfl)
  simp only [Nat.add_zero] at hst
  obtain ⟨m, rfl⟩ : ∃ m, n = m + 1 := ⟨n - 1, by omega⟩
  simp [Builtin.clear_, run_underlying (Try.underlying35), Try.zeroValue23, Value.cells, hst]
theorem dd_short {L : List Pt} (h : L.length < 2) : dd L = L := by
  match L, h with
  | [], _ => rfl
  | [x], _ => rfl
theorem run_neq2 (x y x' y' : Int) (w : World) : (binOp .neq 23 (.agg #[.int .i64 x, .int .i64 y]) (.agg #[.int .i64 x', .int .i64 y'])).run Try.prog w = .ok (.bool (!eq2 x y x' y')) w := by
  simp [go_sem, eq2]
  split <;> rename_i h1
  · split <;> rename_i h2 <;> simp [h1, h2]
  · simp [h1]
theorem own_cell2 {w : World} {base g n cap : Nat} {e : TypeId} {L : List Pt} (h : w.ownsRow base e 2 (.slice (some ⟨g, 0, none⟩) n cap) n (L.flatMap encPt)) {i : Nat} {p : Pt} (hp : L[i]? = some p) (hi : i < n) :
    w.cell? ⟨g, i * 2, none⟩ = some (.int .i64 p.1) ∧ w.cell? ⟨g, i * 2 + 1, none⟩ = some (.int .i64 p.2) := by
  have h0 := flat_get encPt_len L i p hp 0 (.int .i64 p.1) rfl
  have h1 := flat_get encPt_len L i p hp 1 (.int .i64 p.2) rfl
  exact ⟨by rw [h.cellAt _ (by omega)]; simpa using h0, by rw [h.cellAt _ (by omega)]; exact h1⟩
set_option maxHeartbeats 8000000 in
theorem compact_pts (base : Nat) (w : World) (v : Value) (L : List Pt) (hown : w.ownsRow base 23 2 v L.length (L.flatMap encPt)) (hlen : L.length ≤ 1099511627776) (hB : base ≤ w.heap.size) :
    Calls Try.prog 45 #[v] w fun e w' => (∃ u, e = .returned u ∧ w'.ownsRow base 23 2 u (dd L).length ((dd L).flatMap encPt)) ∧ Below base w w' := by
  rcases hown.2 with ⟨rfl, h0⟩ | ⟨g, cap, cur, rfl, hbase, hb, hn, hm, hs, ht⟩
  · obtain rfl := List.eq_nil_of_length_eq_zero h0
    clear hown
    go_enter Try.func45, Try.ntmps45
    go_wp2
    go_ret
    exact ⟨⟨_, rfl, World.ownsRow_nil _ _ _ _⟩, Below.refl _ _⟩
  · have hg : g < w.heap.size := (Array.getElem?_eq_some_iff.1 hb).1
    clear hb hs ht hm
    obtain ⟨n, hL⟩ : ∃ n, L.length = n := ⟨_, rfl⟩
    rw [hL] at hown hlen hn ⊢
    have HL := Lib.hid hL
    clear hL
    by_cases h2 : n < 2
    · have HW := Lib.hid hown
      clear hown
      go_enter Try.func45, Try.ntmps45
      go_wp2
      go_ret
      have e := dd_short (L := L) (by rw [HL.out]; exact h2)
      exact ⟨⟨_, rfl, by rw [e, HL.out]; exact HW.out⟩, Below.refl _ _⟩
    have mixed : Try.prog.follows .mixedOrders = true := by kernel_rfl
    have HW0 := Lib.hid hown
    clear hown
    go_enter Try.func45, Try.ntmps45
    go_wp2
    go_loopw [3] (fun a wr => ∃ k : Nat, 1 ≤ k ∧ k ≤ n ∧ a = .int .i64 k ∧ dd (L.take k) = L.take k ∧ Below base w wr ∧ g < wr.heap.size ∧ wr.ownsRow base 23 2 (.slice (some ⟨g, 0, none⟩) n cap) n (L.flatMap encPt)) (fun a _ => n - (intOf a).toNat)
    case atStart => exact ⟨1, Nat.le_refl _, by omega, rfl, dd_short (by simp; omega), Below.refl _ _, hg, HW0.out⟩
    case round =>
      obtain ⟨k, hk1, hk, rfl, hdd, hbl, hgr, hown⟩ := hrel
      have HD := Lib.hid hdd
      clear hdd
      by_cases hlt : k < n
      · obtain ⟨q, hq⟩ : ∃ q, L[k]? = some q := ⟨_, List.getElem?_eq_getElem (by rw [HL.out]; exact hlt)⟩
        obtain ⟨p, hp⟩ : ∃ p, L[k - 1]? = some p := ⟨_, List.getElem?_eq_getElem (by rw [HL.out]; omega)⟩
        obtain ⟨q0, q1⟩ := own_cell2 hown hq hlt
        obtain ⟨p0, p1⟩ := own_cell2 hown hp (by omega)
        have hre := run_eq2
        have HW := Lib.hid hown
        have Hq := Lib.hid hq
        have Hp := Lib.hid hp
        clear hown hq hp
        cases he : eq2 q.1 q.2 p.1 p.2
        · go_wp2_with fail
          go_region_o
          go_wp2
          go_roundw
          case measure => simp [intOf]; omega
          case rel =>
            refine ⟨k + 1, by omega, by omega, by go_num, ?_, hbl.drew, hgr, own_below HW.out (Below.refl _ _).drew⟩
            have hne : q ≠ p := fun e => by rw [(eq2_iff q p).2 e] at he; cases he
            obtain ⟨m, rfl⟩ : ∃ m, k = m + 1 := ⟨k - 1, by omega⟩
            rw [dd_take (by simpa using Hp.out) Hq.out, if_neg hne, HD.out, List.take_add_one (i := m + 1), Hq.out]
            rfl
        · go_wp2_with fail
          go_region_o
          go_wp2
          have heq : q = p := (eq2_iff q p).1 he
          clear q0 q1 p0 p1
          go_loopw [3, 5] (fun a b wr => ∃ (m j : Nat) (M : List Pt), a = .int .i64 m ∧ b = .int .i64 j ∧ 1 ≤ j ∧ k + j ≤ n ∧ m < k + j ∧ 1 ≤ m ∧ M.length = n ∧ M.take m = dd (L.take (k + j)) ∧ (∀ i, k + j ≤ i + 1 → M[i]? = L[i]?) ∧ Below base w wr ∧ g < wr.heap.size ∧ wr.ownsRow base 23 2 (.slice (some ⟨g, 0, none⟩) n cap) n (M.flatMap encPt)) (fun _ b _ => n - (intOf b).toNat)
          case atStart =>
            refine ⟨k, 1, L, rfl, rfl, Nat.le_refl _, by omega, by omega, hk1, HL.out, ?_, fun _ _ => rfl, hbl.drew, hgr, own_below HW.out (Below.refl _ _).drew⟩
            obtain ⟨m, rfl⟩ : ∃ m, k = m + 1 := ⟨k - 1, by omega⟩
            rw [dd_take (by simpa using Hp.out) Hq.out, if_pos heq, HD.out]
          case round =>
            clear HW hbl hgr
            obtain ⟨m, j, M, rfl, rfl, hj1, hkj, hmk, hm1, hMl, hMt, hMr, hbl, hgr, hown⟩ := hrel
            have HM := Lib.hid (And.intro hMl (And.intro hMt hMr))
            clear hMl hMt hMr
            by_cases hlt2 : k + j < n
            · obtain ⟨x, hx⟩ : ∃ x, L[k + j]? = some x := ⟨_, List.getElem?_eq_getElem (by rw [HL.out]; exact hlt2)⟩
              obtain ⟨y, hy⟩ : ∃ y, L[k + j - 1]? = some y := ⟨_, List.getElem?_eq_getElem (by rw [HL.out]; omega)⟩
              obtain ⟨x0, x1⟩ := own_cell2 hown ((HM.out.2.2 _ (by omega)).trans hx) hlt2
              obtain ⟨y0, y1⟩ := own_cell2 hown ((HM.out.2.2 _ (by omega)).trans hy) (by omega)
              rw [show (k + j) * 2 = k * 2 + j * 2 by omega] at x0 x1
              rw [show (k + j - 1) * 2 = k * 2 + (j - 1) * 2 by omega] at y0 y1
              have hrn := run_neq2
              have Hx := Lib.hid hx
              have Hy := Lib.hid hy
              clear hx hy
              obtain ⟨u0, g0⟩ := own_some hown (m * 2) (by omega)
              obtain ⟨u1, g1⟩ := own_some hown (m * 2 + 1) (by omega)
              have f0 : wr.frozen? ⟨g, m * 2, none⟩ = false := hown.frozenAt _
              have f1 : wr.frozen? ⟨g, m * 2 + 1, none⟩ = false := hown.frozenAt _
              have HW := Lib.hid hown
              clear hown
              have hg2 : g < wr.heap.size + 1 := by omega
              cases he2 : eq2 x.1 x.2 y.1 y.2
              · go_wp2_with fail
                go_region_o
                go_wp2
                go_roundw
                case measure => simp [intOf]; omega
                case rel =>
                  have hne : x ≠ y := fun e => by rw [(eq2_iff x y).2 e] at he2; cases he2
                  obtain ⟨hMl, hMt, hMr⟩ := HM.out
                  refine ⟨m + 1, j + 1, M.set m x, by go_num, by go_num, by omega, by omega, by omega, by omega, by simpa using hMl, ?_, fun i hi => ?_, (hbl.drew.setCell hbase _).setCell hbase _, by simpa using hgr, own_set (y := x) encPt_len rfl (own_below HW.out (Below.refl _ _).drew) m (by omega)⟩
                  · obtain ⟨r, rfl⟩ : ∃ r, j = r + 1 := ⟨j - 1, by omega⟩
                    have := dd_take (L := L) (m := k + r) (x := y) (y := x) (by simpa using Hy.out) Hx.out
                    rw [if_neg hne] at this
                    rw [show k + (r + 1 + 1) = k + r + 2 by omega, this, show k + r + 1 = k + (r + 1) by omega, ← hMt, List.take_add_one, List.getElem?_set_self (by omega), List.take_set_of_le (Nat.le_refl _)]
                    rfl
                  · rw [List.getElem?_set_ne (by omega)]
                    exact hMr i (by omega)
              · go_wp2_with fail
                go_region_o
                go_wp2
                go_roundw
                case measure => simp [intOf]; omega
                case rel =>
                  have hxy : x = y := (eq2_iff x y).1 he2
                  obtain ⟨hMl, hMt, hMr⟩ := HM.out
                  refine ⟨m, j + 1, M, rfl, by go_num, by omega, by omega, by omega, by omega, hMl, ?_, fun i hi => hMr i (by omega), hbl.drew, hgr, own_below HW.out (Below.refl _ _).drew⟩
                  obtain ⟨r, rfl⟩ : ∃ r, j = r + 1 := ⟨j - 1, by omega⟩
                  have := dd_take (L := L) (m := k + r) (x := y) (y := x) (by simpa using Hy.out) Hx.out
                  rw [if_pos hxy] at this
                  rw [show k + (r + 1 + 1) = k + r + 2 by omega, this, show k + r + 1 = k + (r + 1) by omega, ← hMt]
            · have e : k + j = n := by omega
              obtain ⟨vs, hcl⟩ := run_clear_pts wr g (m * 2) (n - m) (cap - m) (by omega) (fun i hi => by obtain ⟨u, hu⟩ := own_some hown (m * 2 + i) (by omega); rw [hu]; rfl) (fun i hi => hown.frozenAt _)
              have HW := Lib.hid hown
              clear hown
              go_wp2
              go_ret
              obtain ⟨hMl, hMt, hMr⟩ := HM.out
              have ht : M.take m = dd L := by rw [hMt, e, List.take_of_length_le (by rw [HL.out]; omega)]
              have hlm : (dd L).length = m := by rw [← ht]; simp; omega
              obtain ⟨⟨xs', o1, o2⟩, o3⟩ := own_setCells vs (m * 2) wr _ HW.out
              refine ⟨⟨_, rfl, ?_⟩, own_grown hbl HW.out o3 (Nat.le_refl _) (Nat.le_trans hB hbl.size)⟩
              have := own_cut0 o1 (k := m) (by omega)
              rw [o2, take_flat encPt_len M m (by omega), ht] at this
              rw [hlm]
              exact this
      · have e : k = n := by omega
        subst e
        have HW := Lib.hid hown
        clear hown
        go_wp2
        go_ret
        have e1 : dd L = L := by have := HD.out; rwa [List.take_of_length_le (by rw [HL.out]; omega)] at this
        exact ⟨⟨_, rfl, by rw [e1, HL.out]; exact HW.out⟩, hbl⟩
end Go.Proofs.Ytceamihampfdiaa
