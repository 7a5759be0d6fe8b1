/- Reversed and turned tracks: plain laws. (joined: TrkTurnP TrkCovP TrkOncP TrkOncC) -/
import Derived.Test.YtomndgjnhhchdaaTrkRot
import Derived.Test.YtomndgjnhhchdaaTrkCov
import Derived.Test.YtomndgjnhhchdaaTrkPlain
/- Reversed and turned tracks: plain laws. -/
namespace Go.Proofs.Ytomndgjnhhchdaa
set_option linter.unusedSimpArgs false
set_option linter.unusedVariables false
namespace Trk
theorem stepOk_rev {l : List Cl} (h : stepOk l = true) : stepOk l.reverse = true := by
  rw [stepOk_iff] at h ⊢
  intro i c hc
  have hi : i < l.length := by have := (List.getElem?_eq_some_iff.1 hc).1; simpa using this
  rw [List.getElem?_reverse hi] at hc
  refine ⟨(h _ c hc).1, fun d hd => ?_⟩
  have hi2 : i + 1 < l.length := by have := (List.getElem?_eq_some_iff.1 hd).1; simpa using this
  rw [List.getElem?_reverse hi2] at hd
  rw [nb_comm]
  exact (h _ d hd).2 c (by rw [show l.length - 1 - (i + 1) + 1 = l.length - 1 - i by omega]; exact hc)
theorem endsOk_rev (l : List Cl) : endsOk l.reverse = endsOk l := by
  unfold endsOk
  rw [List.getLast?_reverse, List.head?_reverse]
  cases l.head? <;> cases l.getLast? <;> simp [nb_comm]
theorem tval_rev {p : Int × Bool} {l : List Cl} (h : tval (p, l) = true) : tval (p, l.reverse) = true := by
  unfold tval at h ⊢
  simp only [Bool.and_eq_true, List.length_reverse, endsOk_rev] at h ⊢
  exact ⟨⟨h.1.1, stepOk_rev h.1.2⟩, h.2⟩
theorem revT_val {t : Tr} (h : tval t = true) : revT t = (t.1, t.2.reverse) := by unfold revT; rw [if_pos h]
theorem revT_ok {t : Tr} (h : tval t = true) : tval (revT t) = true := by rw [revT_val h]; exact tval_rev h
theorem revT_revT {t : Tr} (h : tval t = true) : revT (revT t) = t := by
  rw [revT_val (revT_ok h), revT_val h]
  simp
theorem revT_steps {t : Tr} (h : tval t = true) : stepsT (revT t) = stepsT t := by
  unfold stepsT
  rw [if_pos (revT_ok h), if_pos h, revT_val h]
  simp
theorem endsOk_get {l : List Cl} (h : endsOk l = true) : ∀ a b, l[l.length - 1]? = some a → l[0]? = some b → nb a b = true := fun a b ha hb => by
  rw [endsOk_of ha hb] at h; exact h
theorem stepOk_rot {l : List Cl} {k n : Nat} (hn : l.length = n) (hk : k ≤ n) (h : stepOk l = true) (he : n = 1 ∨ endsOk l = true) : stepOk (rotL l k) = true := by
  have h' := stepOk_iff.1 h
  rw [stepOk_iff]
  intro i c hc
  have hi : i < n := by have := (List.getElem?_eq_some_iff.1 hc).1; rw [rotL_len] at this; omega
  rw [rotL_get hn hk hi] at hc
  refine ⟨(h' _ c hc).1, fun d hd => ?_⟩
  have hi2 : i + 1 < n := by have := (List.getElem?_eq_some_iff.1 hd).1; rw [rotL_len] at this; omega
  rw [rotL_get hn hk hi2] at hd
  by_cases hw : (k + i) % n + 1 < n
  · have e : (k + (i + 1)) % n = (k + i) % n + 1 := by
      rw [← Nat.add_assoc, Nat.add_mod, Nat.mod_eq_of_lt (show 1 < n by omega), Nat.mod_eq_of_lt hw]
    rw [e] at hd
    exact (h' _ c hc).2 d hd
  · have hlt : (k + i) % n < n := Nat.mod_lt _ (by omega)
    have e1 : (k + i) % n = n - 1 := by omega
    have e : (k + (i + 1)) % n = 0 := by
      rw [← Nat.add_assoc, Nat.add_mod, e1, Nat.mod_eq_of_lt (show 1 < n by omega), show n - 1 + 1 = n by omega, Nat.mod_self]
    rw [e1] at hc
    rw [e] at hd
    rcases he with he | he
    · omega
    · exact endsOk_get he c d (by rw [hn]; exact hc) hd
theorem endsOk_rot {l : List Cl} {k n : Nat} (hn : l.length = n) (hk : k ≤ n) (h : stepOk l = true) (h1 : 1 < n) (he : endsOk l = true) : endsOk (rotL l k) = true := by
  have hl : (rotL l k).length = n := by rw [rotL_len, hn]
  obtain ⟨a, ha⟩ : ∃ a, (rotL l k)[n - 1]? = some a := ⟨_, List.getElem?_eq_getElem (by omega)⟩
  obtain ⟨b, hb⟩ : ∃ b, (rotL l k)[0]? = some b := ⟨_, List.getElem?_eq_getElem (by omega)⟩
  rw [endsOk_of (a := a) (b := b) (by rw [hl]; exact ha) hb]
  rw [rotL_get hn hk (by omega)] at ha hb
  rw [Nat.add_zero] at hb
  by_cases hk0 : k % n = 0
  · rw [hk0] at hb
    have e : (k + (n - 1)) % n = n - 1 := by rw [Nat.add_mod, hk0, Nat.zero_add, Nat.mod_mod, Nat.mod_eq_of_lt (by omega)]
    rw [e] at ha
    exact endsOk_get he a b (by rw [hn]; exact ha) hb
  · have hlt : k % n < n := Nat.mod_lt _ (by omega)
    have e : (k + (n - 1)) % n = k % n - 1 := by
      rw [Nat.add_mod, Nat.mod_eq_of_lt (show n - 1 < n by omega), show k % n + (n - 1) = k % n - 1 + n by omega, Nat.add_mod_right, Nat.mod_eq_of_lt (by omega)]
    rw [e] at ha
    exact (stepOk_iff.1 h _ a ha).2 b (by rw [show k % n - 1 + 1 = k % n by omega]; exact hb)
theorem tval_rot {p : Int × Bool} {l : List Cl} {k : Nat} (h : tval (p, l) = true) (hk : k ≤ l.length) (hcl : p.2 = true ∨ k = 0) : tval (p, rotL l k) = true := by
  rcases hcl with hcl | rfl
  · unfold tval at h ⊢
    simp only [Bool.and_eq_true, rotL_len, hcl, Bool.not_true, Bool.false_or, Bool.or_eq_true, decide_eq_true_eq] at h ⊢
    refine ⟨⟨h.1.1, stepOk_rot rfl hk h.1.2 h.2⟩, ?_⟩
    by_cases h1 : l.length = 1
    · exact .inl h1
    · rcases h.2 with h2 | h2
      · exact .inl h2
      · exact .inr (endsOk_rot rfl hk h.1.2 (by have := h.1.1; omega) h2)
  · unfold rotL
    simpa using h
theorem tm_emod (i : Int) (n : Nat) (h : 0 < n) : (i.tmod n + n).tmod n = i % n := by
  have h1 := Int.lt_tmod_of_pos i (show (0 : Int) < n by omega)
  rw [Int.tmod_eq_emod_of_nonneg (by omega), Int.add_emod_right, Int.tmod_def, Int.sub_mul_emod_self_left]
theorem rotL_rotL {l : List Cl} {a b n : Nat} (hn : l.length = n) (ha : a ≤ n) (hb : b ≤ n) (h : (a + b) % n = 0) : rotL (rotL l a) b = l := by
  have hl1 : (rotL l a).length = n := by rw [rotL_len, hn]
  apply List.ext_getElem?
  intro j
  by_cases hj : j < n
  · have h0 : 0 < n := by omega
    rw [rotL_get hl1 hb hj, rotL_get hn ha (Nat.mod_lt _ h0)]
    congr 1
    rw [Nat.add_mod, Nat.mod_mod, ← Nat.add_mod, ← Nat.add_assoc, Nat.add_mod, h, Nat.zero_add, Nat.mod_mod, Nat.mod_eq_of_lt hj]
  · rw [List.getElem?_eq_none (by rw [rotL_len, rotL_len]; omega), List.getElem?_eq_none (by omega)]
theorem turnK_is {t : Tr} {n : Nat} (hn : t.2.length = n) (h0 : 0 < n) (hc : t.1.2 = true) (i : Int) : turnK t i = (i % n).toNat := by
  unfold turnK
  rw [hc, if_pos rfl, hn, tm_emod i n h0]
theorem turnK_open {t : Tr} (hc : t.1.2 = false) (i : Int) : turnK t i = 0 := by
  unfold turnK
  rw [hc]; rfl
theorem turnK_le {t : Tr} (h0 : 0 < t.2.length) (i : Int) : turnK t i ≤ t.2.length := by
  cases hc : t.1.2
  · rw [turnK_open hc]; omega
  · rw [turnK_is rfl h0 hc]
    have h1 := Int.emod_nonneg i (show (t.2.length : Int) ≠ 0 by omega)
    have h2 := Int.emod_lt_of_pos i (show (0 : Int) < t.2.length by omega)
    omega
theorem turnT_val {t : Tr} (h : tval t = true) (i : Int) : turnT t i = (t.1, rotL t.2 (turnK t i)) := by unfold turnT; rw [if_pos h]
theorem turnT_ok {t : Tr} (h : tval t = true) (i : Int) : tval (turnT t i) = true := by
  rw [turnT_val h]
  refine tval_rot h (turnK_le (tval_len h).2.1 i) ?_
  cases hc : t.1.2
  · exact .inr (turnK_open hc i)
  · exact .inl rfl
theorem turnT_back {t : Tr} (h : tval t = true) (i : Int) : turnT (turnT t i) (-i) = t := by
  have h0 := (tval_len h).2.1
  rw [turnT_val (turnT_ok h i)]
  rw [turnT_val h]
  cases hc : t.1.2
  · rw [turnK_open hc, turnK_open (t := (t.1, rotL t.2 0)) hc]
    simp [rotL]
  · rw [turnK_is rfl h0 hc, turnK_is (t := (t.1, rotL t.2 (i % (t.2.length : Int)).toNat)) (n := t.2.length) (by simp only [rotL_len]) h0 hc]
    have h1 := Int.emod_nonneg i (show (t.2.length : Int) ≠ 0 by omega)
    have h2 := Int.emod_lt_of_pos i (show (0 : Int) < t.2.length by omega)
    have h3 := Int.emod_nonneg (-i) (show (t.2.length : Int) ≠ 0 by omega)
    have h4 := Int.emod_lt_of_pos (-i) (show (0 : Int) < t.2.length by omega)
    have hz : ((i % (t.2.length : Int)).toNat + (-i % (t.2.length : Int)).toNat) % t.2.length = 0 := by
      have e : (((i % (t.2.length : Int)).toNat + (-i % (t.2.length : Int)).toNat : Nat) : Int) % (t.2.length : Int) = 0 := by
        rw [Int.natCast_add, Int.toNat_of_nonneg h1, Int.toNat_of_nonneg h3, ← Int.add_emod, Int.add_right_neg, Int.zero_emod]
      exact_mod_cast e
    simp only
    rw [rotL_rotL rfl (by omega) (by omega) hz]
theorem turnT_steps {t : Tr} (h : tval t = true) (i : Int) : stepsT (turnT t i) = stepsT t := by
  unfold stepsT
  rw [if_pos (turnT_ok h i), if_pos h, turnT_val h]
  simp only [rotL_len]
theorem mem_rotL {l : List Cl} {k : Nat} {c : Cl} : c ∈ rotL l k ↔ c ∈ l := by
  unfold rotL
  rw [List.mem_append, Or.comm, ← List.mem_append, List.take_append_drop]
end Trk
end Go.Proofs.Ytomndgjnhhchdaa
/- Covers of tracks: plain laws. -/
namespace Go.Proofs.Ytomndgjnhhchdaa
set_option linter.unusedSimpArgs false
set_option linter.unusedVariables false
open Trk Reg
theorem okc_okCell {c : Cl} (h : okc c = true) : okCell c = true := okCell_iff.2 (okc_iff.1 h)
theorem mem_cellsT {l : List Tr} {c : Cl} : c ∈ cellsT l ↔ ∃ t ∈ l, tval t = true ∧ c ∈ t.2 := by
  unfold cellsT
  rw [List.mem_flatMap]
  constructor
  · rintro ⟨t, ht, hc⟩
    by_cases hv : tval t = true
    · rw [if_pos hv] at hc; exact ⟨t, ht, hv, hc⟩
    · rw [if_neg hv] at hc; cases hc
  · rintro ⟨t, ht, hv, hc⟩
    exact ⟨t, ht, by rw [if_pos hv]; exact hc⟩
theorem cellsT_ok (l : List Tr) : (cellsT l).all okCell = true := by
  rw [List.all_eq_true]
  intro c hc
  obtain ⟨t, _, hv, hc⟩ := mem_cellsT.1 hc
  exact okc_okCell (tval_ok hv hc)
theorem ofR_same {a b : List (Int × Int)} (ha : a.all okCell = true) (hb : b.all okCell = true) (h : ∀ c, c ∈ a ↔ c ∈ b) : ofR a = ofR b :=
  ofR_ext ha (ofR_valid b) fun x y => by rw [(ofR_spec hb).2 x y, h]
/-- the cover has the cells of the valid tracks -/
theorem cover_mem {l : List Tr} {t : Tr} {c : Cl} (ht : t ∈ l) (hv : tval t = true) (hc : c ∈ t.2) : memC (ofR (cellsT l)) c.1 c.2 = true :=
  ((ofR_spec (cellsT_ok l)).2 c.1 c.2).2 (mem_cellsT.2 ⟨t, ht, hv, hc⟩)
theorem cover_rev {t : Tr} (h : tval t = true) : ofR (cellsT [revT t]) = ofR (cellsT [t]) :=
  ofR_same (cellsT_ok _) (cellsT_ok _) fun c => by
    rw [mem_cellsT, mem_cellsT]
    simp only [List.mem_singleton]
    constructor
    · rintro ⟨s, rfl, _, hc⟩
      rw [revT_val h] at hc
      exact ⟨t, rfl, h, by simpa using hc⟩
    · rintro ⟨s, rfl, _, hc⟩
      exact ⟨_, rfl, revT_ok h, by rw [revT_val h]; simpa using hc⟩
theorem cover_turn {t : Tr} (h : tval t = true) (i : Int) : ofR (cellsT [turnT t i]) = ofR (cellsT [t]) :=
  ofR_same (cellsT_ok _) (cellsT_ok _) fun c => by
    rw [mem_cellsT, mem_cellsT]
    simp only [List.mem_singleton]
    constructor
    · rintro ⟨s, rfl, _, hc⟩
      rw [turnT_val h] at hc
      exact ⟨t, rfl, h, mem_rotL.1 hc⟩
    · rintro ⟨s, rfl, _, hc⟩
      exact ⟨_, rfl, turnT_ok h i, by rw [turnT_val h]; exact mem_rotL.2 hc⟩
theorem cellsT_len {l : List Tr} {m : Nat} (h : ∀ t ∈ l, t.2.length ≤ m) : (cellsT l).length ≤ m * l.length := by
  unfold cellsT
  induction l with
  | nil => simp
  | cons t l ih =>
    have h1 := ih (fun s hs => h s (by simp [hs]))
    have h2 := h t (by simp)
    rw [List.flatMap_cons, List.length_append, List.length_cons, Nat.mul_add, Nat.mul_one]
    have h3 : (if tval t = true then t.2 else []).length ≤ m := by
      split
      · exact h2
      · exact Nat.zero_le _
    omega
end Go.Proofs.Ytomndgjnhhchdaa
/- Once: plain laws. -/
namespace Go.Proofs.Ytomndgjnhhchdaa
set_option linter.unusedSimpArgs false
set_option linter.unusedVariables false
namespace Trk
theorem oncS_pre (st : List Tr × List Cl) (t : Tr) : ∃ r, (oncS st t).1 = st.1 ++ r := by
  unfold oncS
  split
  · exact ⟨_, rfl⟩
  · exact ⟨[], by simp⟩
theorem fold_pre : ∀ (l : List Tr) (st : List Tr × List Cl), ∃ r, (l.foldl oncS st).1 = st.1 ++ r
  | [], st => ⟨[], by simp⟩
  | t :: l, st => by
    obtain ⟨r1, h1⟩ := oncS_pre st t
    obtain ⟨r2, h2⟩ := fold_pre l (oncS st t)
    exact ⟨r1 ++ r2, by rw [List.foldl_cons, h2, h1, List.append_assoc]⟩
/-- the result for the first tracks is the beginning of the result for all -/
theorem onc_pre (l : List Tr) (k : Nat) : ∃ r, oncT l = oncT (l.take k) ++ r := by
  obtain ⟨r, h⟩ := fold_pre (l.drop k) ((l.take k).foldl oncS ([], []))
  refine ⟨r, ?_⟩
  unfold oncT
  rw [← h, ← List.foldl_append, List.take_append_drop]
theorem keptL_all : ∀ {l S : List Cl}, (∀ c ∈ l, c ∉ S) → l.Nodup → (keptL S l).all id = true
  | [], S, _, _ => rfl
  | c :: l, S, h, hn => by
    rw [List.nodup_cons] at hn
    unfold keptL
    rw [List.all_cons, Bool.and_eq_true]
    refine ⟨?_, keptL_all (fun d hd hS => ?_) hn.2⟩
    · simpa using h c (by simp)
    · rcases List.mem_cons.1 hS with rfl | hS
      · exact hn.1 hd
      · exact h d (by simp [hd]) hS
/-- tracks that are valid and cover each cell once stay as they are -/
theorem fold_same : ∀ (l : List Tr) (O : List Tr) (S : List Cl), (∀ t ∈ l, tval t = true) → (l.flatMap fun t => t.2).Nodup → (∀ c ∈ l.flatMap (fun t => t.2), c ∉ S) → (l.foldl oncS (O, S)).1 = O ++ l
  | [], O, S, _, _, _ => by simp
  | t :: l, O, S, hv, hn, hs => by
    rw [List.flatMap_cons, List.nodup_append] at hn
    have hk : (keptL S t.2).all id = true := keptL_all (fun c hc => hs c (by simp [hc])) hn.1
    have e : oncS (O, S) t = (O ++ [t], t.2.reverse ++ S) := by
      unfold oncS
      rw [if_pos (hv t (by simp))]
      simp only [hk, if_true]
    rw [List.foldl_cons, e, fold_same l _ _ (fun s h => hv s (by simp [h])) hn.2.1 (fun c hc hS => ?_)]
    · simp
    · rcases List.mem_append.1 hS with hS | hS
      · exact hn.2.2 c (by simpa using hS) c hc rfl
      · exact hs c (by rw [List.flatMap_cons]; exact List.mem_append_right _ hc) hS
theorem onc_same {l : List Tr} (hv : ∀ t ∈ l, tval t = true) (hn : (l.flatMap fun t => t.2).Nodup) : oncT l = l := by
  unfold oncT
  rw [fold_same l [] [] hv hn (fun c _ h => by cases h)]
  rfl
theorem keptL_get : ∀ (l S : List Cl) (i : Nat), (keptL S l)[i]? = l[i]?.map fun c => !((l.take i).reverse ++ S).contains c
  | [], S, i => by simp [keptL]
  | c :: l, S, 0 => by simp [keptL]
  | c :: l, S, i + 1 => by simp [keptL, keptL_get l (c :: S) i]
theorem stepOk_snoc {x : List Cl} {c : Cl} (h : stepOk x = true) (hc : okc c = true) (hn : ∀ d, x.getLast? = some d → nb d c = true) : stepOk (x ++ [c]) = true := by
  rw [stepOk_iff] at h ⊢
  intro i a ha
  by_cases hi : i < x.length
  · rw [List.getElem?_append_left hi] at ha
    refine ⟨(h i a ha).1, fun d hd => ?_⟩
    by_cases hi2 : i + 1 < x.length
    · rw [List.getElem?_append_left hi2] at hd
      exact (h i a ha).2 d hd
    · rw [List.getElem?_append_right (by omega), show i + 1 - x.length = 0 by omega] at hd
      simp at hd
      subst hd
      exact hn a (by rw [List.getLast?_eq_getElem?, show x.length - 1 = i by omega]; exact ha)
  · rw [List.getElem?_append_right (by omega)] at ha
    have e : i - x.length = 0 := by
      have := (List.getElem?_eq_some_iff.1 ha).1
      simp at this; omega
    rw [e] at ha
    simp at ha
    subst ha
    exact ⟨hc, fun d hd => by rw [List.getElem?_eq_none (by simp; omega)] at hd; cases hd⟩
theorem pcs_inv (r : Int) (l S : List Cl) (hl : stepOk l = true) : ∀ i, i ≤ l.length →
    (∀ t ∈ pcsTo r l (keptL S l) i, t.1 = (r, false) ∧ t.2 ≠ [] ∧ stepOk t.2 = true) ∧ ((pcsTo r l (keptL S l) i).flatMap fun t => t.2).Nodup ∧
    (∀ c, c ∈ (pcsTo r l (keptL S l) i).flatMap (fun t => t.2) ↔ c ∈ l.take i ∧ c ∉ S) ∧
    (0 < i → (keptL S l)[i - 1]? = some true → ∃ E x, pcsTo r l (keptL S l) i = E ++ [x] ∧ x.2.getLast? = l[i - 1]?)
  | 0, _ => ⟨fun t h => by simp [pcsTo] at h, by simp [pcsTo], fun c => by simp [pcsTo], fun h => absurd h (by omega)⟩
  | i + 1, hi => by
    obtain ⟨h1, h2, h3, h4⟩ := pcs_inv r l S hl i (by omega)
    obtain ⟨c, hc⟩ : ∃ c, l[i]? = some c := ⟨_, List.getElem?_eq_getElem (by omega)⟩
    have ht : l.take (i + 1) = l.take i ++ [c] := by rw [List.take_add_one, hc]; rfl
    have hk : (keptL S l)[i]? = some (!((l.take i).reverse ++ S).contains c) := by rw [keptL_get, hc]; rfl
    have hco := stepOk_ok hl hc
    by_cases hm : c ∈ l.take i ∨ c ∈ S
    · have hk0 : (keptL S l)[i]? = some false := by
        rw [hk]
        rcases hm with hm | hm <;> simp [hm]
      rw [pcsTo_skip hk0]
      refine ⟨h1, h2, fun d => ?_, fun _ h => by rw [Nat.add_sub_cancel, hk0] at h; cases h⟩
      rw [h3, ht, List.mem_append, List.mem_singleton]
      constructor
      · rintro ⟨a, b⟩; exact ⟨.inl a, b⟩
      · rintro ⟨a | rfl, b⟩
        · exact ⟨a, b⟩
        · exact ⟨hm.resolve_right b, b⟩
    · have hm1 : c ∉ l.take i := fun h => hm (.inl h)
      have hm2 : c ∉ S := fun h => hm (.inr h)
      have hk1 : (keptL S l)[i]? = some true := by rw [hk]; simp [hm1, hm2]
      have hmem : ∀ d, d ∈ l.take (i + 1) ∧ d ∉ S ↔ (d ∈ l.take i ∧ d ∉ S) ∨ d = c := fun d => by
        rw [ht, List.mem_append, List.mem_singleton]
        constructor
        · rintro ⟨a | a, b⟩
          · exact .inl ⟨a, b⟩
          · exact .inr a
        · rintro (⟨a, b⟩ | rfl)
          · exact ⟨.inl a, b⟩
          · exact ⟨.inr rfl, hm2⟩
      have hnew : c ∉ (pcsTo r l (keptL S l) i).flatMap fun t => t.2 := fun h => hm1 ((h3 c).1 h).1
      by_cases hp : i = 0 ∨ (keptL S l)[i - 1]? = some false
      · rw [pcsTo_new hc hk1 hp]
        refine ⟨fun t h => ?_, ?_, fun d => ?_, fun _ _ => ⟨_, _, rfl, by simp [hc]⟩⟩
        · rcases List.mem_append.1 h with h | h
          · exact h1 t h
          · rw [List.mem_singleton] at h
            subst h
            exact ⟨rfl, by simp, by simp [stepOk, hco]⟩
        · rw [List.flatMap_append, List.nodup_append]
          refine ⟨h2, by simp, fun a ha b hb e => ?_⟩
          simp at hb
          subst hb e
          exact hnew ha
        · rw [List.flatMap_append, List.mem_append, h3, hmem]
          simp
      · have hi0 : 0 < i := by omega
        have hkp : (keptL S l)[i - 1]? = some true := by
          obtain ⟨b, hb⟩ : ∃ b, (keptL S l)[i - 1]? = some b := ⟨_, List.getElem?_eq_getElem (by rw [keptL_len]; omega)⟩
          cases b
          · exact absurd (.inr hb) hp
          · exact hb
        obtain ⟨E, x, hE, hx⟩ := h4 hi0 hkp
        rw [pcsTo_more hc hk1 hp, hE, addLast_snoc]
        rw [hE] at h1 h2 h3 hnew
        have hxx := h1 x (by simp)
        refine ⟨fun t h => ?_, ?_, fun d => ?_, fun _ _ => ⟨_, _, rfl, by simp [hc]⟩⟩
        · rcases List.mem_append.1 h with h | h
          · exact h1 t (by simp [h])
          · rw [List.mem_singleton] at h
            subst h
            refine ⟨hxx.1, by simp, stepOk_snoc hxx.2.2 hco fun d hd => ?_⟩
            rw [hx] at hd
            exact (stepOk_iff.1 hl (i - 1) d hd).2 c (by rw [show i - 1 + 1 = i by omega]; exact hc)
        · have e : (E ++ [(x.1, x.2 ++ [c])]).flatMap (fun t => t.2) = (E ++ [x]).flatMap (fun t => t.2) ++ [c] := by simp
          rw [e, List.nodup_append]
          clear e
          refine ⟨h2, by simp, fun a ha b hb e => ?_⟩
          simp at hb
          subst hb e
          exact hnew ha
        · have e : (E ++ [(x.1, x.2 ++ [c])]).flatMap (fun t => t.2) = (E ++ [x]).flatMap (fun t => t.2) ++ [c] := by simp
          rw [e, List.mem_append, h3, hmem]
          simp
theorem pcs_short (r : Int) (l : List Cl) (ks : List Bool) (i : Nat) {t : Tr} (h : t ∈ pcsTo r l ks i) : t.2.length ≤ i := pcsTo_cells r l ks i t h
theorem pcs_val {t : Tr} (h : tval t = true) (S : List Cl) {x : Tr} (hx : x ∈ pcsT t (keptL S t.2)) : tval x = true := by
  obtain ⟨h1, h2, h3⟩ := (pcs_inv t.1.1 t.2 S (tval_step h) t.2.length (Nat.le_refl _)).1 x hx
  have h4 := pcs_short _ _ _ _ hx
  have hl := tval_len h
  have h5 : 0 < x.2.length := List.length_pos_iff.2 h2
  obtain ⟨⟨r, cl⟩, cs⟩ := x
  injection h1 with e1 e2
  subst e1 e2
  unfold tval
  simp only at h3 h4 h5
  rw [decide_eq_true (by simp only; omega), h3]
  rfl
theorem keptL_allT : ∀ {l S : List Cl}, (keptL S l).all id = true → (∀ c ∈ l, c ∉ S) ∧ l.Nodup
  | [], S, _ => ⟨fun c h => (by cases h), by simp⟩
  | c :: l, S, h => by
    unfold keptL at h
    rw [List.all_cons, Bool.and_eq_true] at h
    obtain ⟨h1, h2⟩ := keptL_allT h.2
    have hc : c ∉ S := by simpa using h.1
    refine ⟨fun d hd => ?_, ?_⟩
    · rcases List.mem_cons.1 hd with rfl | hd
      · exact hc
      · exact fun hS => h1 d hd (List.mem_cons_of_mem _ hS)
    · rw [List.nodup_cons]
      exact ⟨fun hl => h1 c hl (by simp), h2⟩
/-- what the fold keeps: valid tracks, each cell once, the cells seen -/
theorem onc_inv : ∀ (l : List Tr) (O : List Tr) (S : List Cl), (∀ t ∈ O, tval t = true) → (O.flatMap fun t => t.2).Nodup → (∀ c, c ∈ O.flatMap (fun t => t.2) ↔ c ∈ S) →
    (∀ t ∈ (l.foldl oncS (O, S)).1, tval t = true) ∧ ((l.foldl oncS (O, S)).1.flatMap fun t => t.2).Nodup ∧ (∀ c, c ∈ (l.foldl oncS (O, S)).1.flatMap (fun t => t.2) ↔ c ∈ S ∨ ∃ t ∈ l, tval t = true ∧ c ∈ t.2)
  | [], O, S, h1, h2, h3 => ⟨h1, h2, fun c => by simpa using h3 c⟩
  | t :: l, O, S, h1, h2, h3 => by
    rw [List.foldl_cons]
    by_cases hv : tval t = true
    · have e : oncS (O, S) t = (O ++ (if (keptL S t.2).all id then [t] else pcsT t (keptL S t.2)), t.2.reverse ++ S) := by unfold oncS; rw [if_pos hv]
      rw [e]
      have hnew : (∀ x ∈ (if (keptL S t.2).all id then [t] else pcsT t (keptL S t.2)), tval x = true) ∧ ((if (keptL S t.2).all id then [t] else pcsT t (keptL S t.2)).flatMap fun t => t.2).Nodup ∧ (∀ c, c ∈ (if (keptL S t.2).all id then [t] else pcsT t (keptL S t.2)).flatMap (fun t => t.2) ↔ c ∈ t.2 ∧ c ∉ S) := by
        split
        · rename_i ha
          obtain ⟨k1, k2⟩ := keptL_allT ha
          exact ⟨fun x hx => by rw [List.mem_singleton] at hx; rw [hx]; exact hv, by simpa using k2, fun c => by simp; exact fun hc => k1 c hc⟩
        · obtain ⟨_, p2, p3, _⟩ := pcs_inv t.1.1 t.2 S (tval_step hv) t.2.length (Nat.le_refl _)
          exact ⟨fun x hx => pcs_val hv S hx, p2, fun c => by have := p3 c; rwa [List.take_length] at this⟩
      obtain ⟨n1, n2, n3⟩ := hnew
      obtain ⟨r1, r2, r3⟩ := onc_inv l (O ++ (if (keptL S t.2).all id then [t] else pcsT t (keptL S t.2))) (t.2.reverse ++ S)
        (fun x hx => (List.mem_append.1 hx).elim (h1 x) (n1 x))
        (by
          rw [List.flatMap_append, List.nodup_append]
          exact ⟨h2, n2, fun a ha b hb e => by subst e; exact ((n3 a).1 hb).2 ((h3 a).1 ha)⟩)
        (fun c => by
          rw [List.flatMap_append, List.mem_append, h3, n3, List.mem_append, List.mem_reverse]
          constructor
          · rintro (a | ⟨a, _⟩)
            · exact .inr a
            · exact .inl a
          · rintro (a | a)
            · by_cases hS : c ∈ S
              · exact .inl hS
              · exact .inr ⟨a, hS⟩
            · exact .inl a)
      refine ⟨r1, r2, fun c => ?_⟩
      rw [r3, List.mem_append, List.mem_reverse]
      constructor
      · rintro ((a | a) | ⟨x, hx, a⟩)
        · exact .inr ⟨t, by simp, hv, a⟩
        · exact .inl a
        · exact .inr ⟨x, by simp [hx], a⟩
      · rintro (a | ⟨x, hx, a, b⟩)
        · exact .inl (.inr a)
        · rcases List.mem_cons.1 hx with rfl | hx
          · exact .inl (.inl b)
          · exact .inr ⟨x, hx, a, b⟩
    · have e : oncS (O, S) t = (O, S) := by unfold oncS; rw [if_neg hv]
      rw [e]
      obtain ⟨r1, r2, r3⟩ := onc_inv l O S h1 h2 h3
      refine ⟨r1, r2, fun c => ?_⟩
      rw [r3]
      constructor
      · rintro (a | ⟨x, hx, a⟩)
        · exact .inl a
        · exact .inr ⟨x, by simp [hx], a⟩
      · rintro (a | ⟨x, hx, a, b⟩)
        · exact .inl a
        · rcases List.mem_cons.1 hx with rfl | hx
          · exact absurd a hv
          · exact .inr ⟨x, hx, a, b⟩
theorem onc_val {l : List Tr} {t : Tr} (h : t ∈ oncT l) : tval t = true := (onc_inv l [] [] (fun t h => by cases h) (by simp) (fun c => by simp)).1 t h
theorem onc_nodup (l : List Tr) : ((oncT l).flatMap fun t => t.2).Nodup := (onc_inv l [] [] (fun t h => by cases h) (by simp) (fun c => by simp)).2.1
theorem onc_mem (l : List Tr) (c : Cl) : c ∈ (oncT l).flatMap (fun t => t.2) ↔ ∃ t ∈ l, tval t = true ∧ c ∈ t.2 := by
  have := (onc_inv l [] [] (fun t h => by cases h) (by simp) (fun c => by simp)).2.2 c
  simpa [oncT] using this
/-- Once of its own result changes nothing -/
theorem onc_again (l : List Tr) : oncT (oncT l) = oncT l := onc_same (fun _ h => onc_val h) (onc_nodup l)
end Trk
end Go.Proofs.Ytomndgjnhhchdaa
/- Once and covers: plain laws. -/
namespace Go.Proofs.Ytomndgjnhhchdaa
set_option linter.unusedSimpArgs false
set_option linter.unusedVariables false
open Trk Reg
theorem cellsT_onc (l : List Tr) : cellsT (oncT l) = (oncT l).flatMap fun t => t.2 := by
  unfold cellsT
  have h : ∀ t ∈ oncT l, tval t = true := fun t ht => onc_val ht
  generalize oncT l = L at h
  induction L with
  | nil => rfl
  | cons t L ih => rw [List.flatMap_cons, List.flatMap_cons, ih (fun s hs => h s (by simp [hs])), if_pos (h t (by simp))]
theorem cover_onc (l : List Tr) : ofR (cellsT (oncT l)) = ofR (cellsT l) :=
  ofR_same (cellsT_ok _) (cellsT_ok _) fun c => by rw [cellsT_onc, onc_mem, mem_cellsT]
theorem cnt_onc (l : List Tr) : cntR (ofR (cellsT (oncT l))) = (((oncT l).flatMap fun t => t.2).length : Int) := by
  rw [← cellsR_len]
  have hp : (cellsR (ofR (cellsT (oncT l)))).Perm ((oncT l).flatMap fun t => t.2) := by
    rw [List.perm_ext_iff_of_nodup (cellsR_nodup _) (onc_nodup l)]
    intro c
    rw [mem_cellsR, (ofR_spec (cellsT_ok _)).2 c.1 c.2, cellsT_onc]
    exact ⟨fun h => h.2, fun h => ⟨ofR_valid _, h⟩⟩
  rw [hp.length_eq]
end Go.Proofs.Ytomndgjnhhchdaa
