/- slices.Delete of one point, slices.Clone, straight: walked. -/
import Derived.Test.YteadnlodccnfcaaCtrSimM
import Derived.Test.YteadnlodccnfcaaCtrTwo
namespace Go.Proofs.Yteadnlodccnfcaa
set_option linter.unusedSimpArgs false
set_option linter.unusedVariables false
set_option maxRecDepth 100000
open Go.RowKit Planar
attribute [local go_sem] Kin.cell Kin.frozen Kin.lt0 Kin.lt1 Kin.lt2 Kin.lt3 run_mkf
/-- the first k elements of what the call owns -/
theorem own_cut0 {size : Nat} {w : World} {base g n cap k : Nat} {e : TypeId} {xs : List Value} (h : w.ownsRow base e size (.slice (some ⟨g, 0, none⟩) n cap) n xs) (hn : k ≤ n) :
    w.ownsRow base e size (.slice (some ⟨g, 0, none⟩) k cap) k (xs.take (k * size)) := by
  have hx := h.1
  have hm := Nat.mul_le_mul_right size hn
  rcases h.2 with ⟨h', _⟩ | ⟨g', cap', cur, h', hb, hg, hnc, hcm, hcs, ht⟩
  · simp at h'
  · simp only [Value.slice.injEq, Option.some.injEq, Addr.mk.injEq, and_true, true_and] at h'
    obtain ⟨rfl, rfl⟩ := h'
    refine ⟨?_, .inr ⟨g, cap, cur, rfl, hb, hg, Nat.le_trans hn hnc, hcm, hcs, ?_⟩⟩
    · rw [List.length_take]; omega
    · rw [← ht, List.take_take, Nat.min_eq_left hm]
theorem take_flat {α : Type} {enc : α → List Value} {size : Nat} (hk : ∀ x, (enc x).length = size) (xs : List α) (k : Nat) (h : k ≤ xs.length) : (xs.flatMap enc).take (k * size) = (xs.take k).flatMap enc := by
  have e1 : xs.flatMap enc = (xs.take k).flatMap enc ++ (xs.drop k).flatMap enc := by rw [← List.flatMap_append, List.take_append_drop]
  have e2 : ((xs.take k).flatMap enc).length = k * size := by rw [flat_len hk]; simp; rw [Nat.min_eq_left (by omega)]
  rw [e1, List.take_append_of_le_length (by omega), ← e2, List.take_length]
theorem drop_flat {α : Type} {enc : α → List Value} {size : Nat} (hk : ∀ x, (enc x).length = size) (xs : List α) (k : Nat) (h : k ≤ xs.length) : (xs.flatMap enc).drop (k * size) = (xs.drop k).flatMap enc := by
  have e1 : xs.flatMap enc = (xs.take k).flatMap enc ++ (xs.drop k).flatMap enc := by rw [← List.flatMap_append, List.take_append_drop]
  have e2 : ((xs.take k).flatMap enc).length = k * size := by rw [flat_len hk]; simp; rw [Nat.min_eq_left (by omega)]
  rw [e1, ← e2, List.drop_left]
theorem own_setCells {base g n cap size : Nat} {e : TypeId} : ∀ (vs : List Value) (o : Nat) (w : World) (xs : List Value), w.ownsRow base e size (.slice (some ⟨g, 0, none⟩) n cap) n xs →
    (∃ xs', (w.setCells g o vs).ownsRow base e size (.slice (some ⟨g, 0, none⟩) n cap) n xs' ∧ xs'.take o = xs.take o) ∧ w.grownBy (w.setCells g o vs) (some g)
  | [], o, w, xs, h => ⟨⟨xs, h, rfl⟩, World.grownBy.refl _ _⟩
  | v :: r, o, w, xs, h => by
    obtain ⟨h1, h2⟩ := h.stored o v
    obtain ⟨⟨xs', h3, h4⟩, h5⟩ := own_setCells r (o + 1) _ _ h1
    refine ⟨⟨xs', h3, ?_⟩, ?_⟩
    · have := congrArg (List.take o) h4
      rw [List.take_take, List.take_take, Nat.min_eq_left (by omega), List.take_set_of_le (by omega)] at this
      exact this
    · exact ⟨h5.os.trans h2.os, h5.tape.trans h2.tape, h5.output.trans h2.output, Nat.le_trans h2.size h5.size, fun k hk hne => (h5.block k (Nat.lt_of_lt_of_le hk h2.size) hne).trans (h2.block k hk hne)⟩
/-- clear of points that the call owns -/
theorem run_clear_pts (w : World) (b o n c : Nat) (hn : 0 < n) (hc : ∀ j, j < n * 2 → (w.cell? ⟨b, o + j, none⟩).isSome = true) (hf : ∀ j, j < n * 2 → w.frozen? ⟨b, o + j, none⟩ = false) :
    ∃ vs : List Value, ∀ ty : TypeId, (Builtin.clear_ #[40] ty #[.slice (some ⟨b, o, none⟩) n c]).run Try.prog w = .ok (.tuple #[]) (w.setCells b o vs) := by
  refine ⟨(Builtin.zeroCells #[.int .i64 0, .int .i64 0] n).toList, fun ty => ?_⟩
  have hst := run_storeCells_cells (P := Try.prog) b o (Builtin.zeroCells #[.int .i64 0, .int .i64 0] n).toList 0 w (by simpa [Builtin.zeroCells] using hc) (by simpa [Builtin.zeroCells] using hf) (by
    intro v hv
    simp [Builtin.zeroCells] at hv
    obtain ⟨i, _, rfl⟩ := hv
    have : i % 2 = 0 ∨ i % 2 = 1 := by omega
    rcases this with h | h <;> simp [h] <;> rfl)
  simp only [Nat.add_zero] at hst
  obtain ⟨m, rfl⟩ : ∃ m, n = m + 1 := ⟨n - 1, by omega⟩
  simp [Builtin.clear_, run_underlying (Try.underlying40), Try.zeroValue36, Value.cells, hst]
/-- the row that a shorter slice lies over -/
theorem own_widen {size : Nat} {w : World} {base g n cap m : Nat} {e : TypeId} {xs : List Value} (h : w.ownsRow base e size (.slice (some ⟨g, 0, none⟩) n cap) n xs) (hn : n ≤ m) (hm : m ≤ cap) :
    ∃ ys, w.ownsRow base e size (.slice (some ⟨g, 0, none⟩) m cap) m ys ∧ ys.take (n * size) = xs := by
  rcases h.2 with ⟨h', _⟩ | ⟨g', cap', cur, h', hb, hg, hnc, hcm, hcs, ht⟩
  · simp at h'
  · simp only [Value.slice.injEq, Option.some.injEq, Addr.mk.injEq, and_true, true_and] at h'
    obtain ⟨rfl, rfl⟩ := h'
    have h1 := Nat.mul_le_mul_right size hm
    have h2 := Nat.mul_le_mul_right size hn
    refine ⟨cur.toList.take (m * size), ⟨?_, .inr ⟨g, cap, cur, rfl, hb, hg, hm, hcm, hcs, rfl⟩⟩, ?_⟩
    · rw [List.length_take, Array.length_toList, hcs]; omega
    · rw [List.take_take, Nat.min_eq_left h2, ht]
/-- append(s[:i], s[i+1:]...) of points that the call owns -/
theorem run_del (w : World) (base g n cap i : Nat) (xs : List Pt) (h : w.ownsRow base 36 2 (.slice (some ⟨g, 0, none⟩) n cap) n (xs.flatMap encPt)) (hi : i < n) (a : Addr) (ha : i + 1 < n → a = ⟨g, (i + 1) * 2, none⟩) (c : Nat) :
    ∃ w', (∀ ty : TypeId, (Builtin.append_ #[40, 40] ty #[.slice (some ⟨g, 0, none⟩) i cap, .slice (some a) (n - (i + 1)) c]).run Try.prog w = .ok (.slice (some ⟨g, 0, none⟩) (n - 1) cap) w') ∧
      w'.ownsRow base 36 2 (.slice (some ⟨g, 0, none⟩) (n - 1) cap) (n - 1) ((xs.eraseIdx i).flatMap encPt) ∧ w.grownBy w' (some g) := by
  have hx : xs.length = n := (own_len encPt_len (by decide) h).symm
  obtain ⟨i0, hi0, hz0, hz1, hz2⟩ := info_parts infoPt2
  have hrd : Rd 2 encPt w (.slice (some ⟨g, 0, none⟩) n cap) xs := Rd.own' encPt_len (by decide) h
  have hnews : ∀ j u, ((xs.drop (i + 1)).flatMap encPt)[j]? = some u → w.cell? (a.add j) = some u := fun j u hu => by
    by_cases h0 : i + 1 < n
    · rw [ha h0, ← drop_flat encPt_len xs (i + 1) (by omega), List.getElem?_drop] at *
      have := h.cells (g := g) rfl _ u hu
      have e1 : ((⟨g, (i + 1) * 2, none⟩ : Addr).add j) = ((⟨g, 0, none⟩ : Addr).add ((i + 1) * 2 + j)) := by unfold Addr.add; split <;> split <;> simp_all
      rw [e1]; exact this
    · rw [List.drop_eq_nil_of_le (by omega)] at hu
      simp at hu
  have hlen : ((xs.drop (i + 1)).flatMap encPt).length = (n - (i + 1)) * 2 := by rw [flat_len encPt_len, List.length_drop, hx]
  have herase : (xs.eraseIdx i).flatMap encPt = (xs.take i).flatMap encPt ++ (xs.drop (i + 1)).flatMap encPt := by rw [List.eraseIdx_eq_take_drop_succ, List.flatMap_append]
  rcases h.2 with ⟨h', _⟩ | ⟨g', cap', cur, h', hb, hg, hnc, hcm, hcs, ht⟩
  · simp at h'
  · simp only [Value.slice.injEq, Option.some.injEq, Addr.mk.injEq, and_true, true_and] at h'
    obtain ⟨rfl, rfl⟩ := h'
    have hr := fun ty => run_append_room (P := Try.prog) w 40 ty 36 i0 Try.underlying40 hi0 g i cap cur hg a (n - (i + 1)) c _ (by rw [hz1]; exact hlen) hnews (fun u hu => by
      obtain ⟨x, _, hx⟩ := List.mem_flatMap.1 hu
      exact oneP x u hx) (by omega) (by rw [hz1, hlen, hcs]; have := Nat.mul_le_mul_right 2 hnc; omega)
    rw [hz1] at hr
    have e0 : i + (n - (i + 1)) = n - 1 := by omega
    refine ⟨w.setRow g (cur.toList.take (i * 2) ++ (xs.drop (i + 1)).flatMap encPt ++ cur.toList.drop (i * 2 + ((xs.drop (i + 1)).flatMap encPt).length)).toArray, fun ty => by rw [← e0]; exact hr ty, ?_, ⟨rfl, rfl, rfl, by simp, fun k _ hk => setRow_other w g k _ (fun e => hk (by rw [e]))⟩⟩
    have hti : cur.toList.take (i * 2) = (xs.take i).flatMap encPt := by
      rw [← take_flat encPt_len xs i (by omega), ← ht, List.take_take, Nat.min_eq_left (by omega)]
    refine ⟨?_, .inr ⟨g, cap, _, rfl, hb, setRow_heap w g cur _ _ _ hg, by omega, hcm, ?_, ?_⟩⟩
    · rw [flat_len encPt_len, List.length_eraseIdx, if_pos (by omega), hx]
    · simp only [List.size_toArray, List.length_append, List.length_take, List.length_drop, Array.length_toList]
      omega
    · rw [hti, ← herase]
      have : (n - 1) * 2 = ((xs.eraseIdx i).flatMap encPt).length := by rw [flat_len encPt_len, List.length_eraseIdx, if_pos (by omega), hx]
      rw [this]
      exact List.take_left
end Go.Proofs.Yteadnlodccnfcaa
