/- The pool while it is built: a map from points to slices that the call owns. -/
import Derived.Test.YteadnlodccnfcaaCtrPool
import Derived.Test.YteadnlodccnfcaaCtrSort
namespace Go.Proofs.Yteadnlodccnfcaa
set_option linter.unusedSimpArgs false
set_option linter.unusedVariables false
set_option maxRecDepth 100000
open Go Go.Maps Go.RowKit Planar
abbrev OwnQ (base : Nat) (w : World) (v : Value) (l : List Pt) : Prop := w.ownsRow base 36 2 v l.length (l.flatMap encPt)
theorem run_mkmap57 (t : TypeId) (w : World) : (Instr.makeMap t none).run Try.prog w = .ok (.map (some w.heap.size)) (w.alloc (.map #[] 0)) := rfl
structure PoolO (base : Nat) (w : World) (m n : Nat) (S : List Pt) (sv : Value) (F : Key → Option Value) (U : Pt → List Pt) : Prop where
  map : OwnM Try.prog 36 w m n F
  st : OwnQ base w sv S
  el : ∀ p, wfK p → match F p with | none => U p = [] | some v => U p ≠ [] ∧ OwnQ base w v (U p) ∧ ∀ k, v.ownBlock = some k → sv.ownBlock ≠ some k
  ap : ∀ p q v v', wfK p → wfK q → p ≠ q → F p = some v → F q = some v' → ∀ k, v.ownBlock = some k → v'.ownBlock ≠ some k
section
variable {base : Nat} {w w' : World} {m n : Nat} {S : List Pt} {sv : Value} {F : Key → Option Value} {U : Pt → List Pt}
theorem PoolO.start (w : World) : PoolO base (w.alloc (.map #[] 0)) w.heap.size 0 [] (.slice none 0 0) (fun _ => none) (fun _ => []) :=
  ⟨OwnM.made w, World.ownsRow_nil _ _ _ _, fun p hp => rfl, fun p q v v' _ _ _ h => by cases h⟩
theorem PoolO.below (h : PoolO base w m n S sv F U) (hb : Below w.heap.size w w') : PoolO base w' m n S sv F U := by
  refine ⟨h.map.below hb h.map.lt, own_below h.st hb, fun p hp => ?_, h.ap⟩
  have := h.el p hp
  cases hv : F p with
  | none => rw [hv] at this; exact this
  | some v => rw [hv] at this; exact ⟨this.1, own_below this.2.1 hb, this.2.2⟩
theorem PoolO.mono {n' : Nat} (h : PoolO base w m n S sv F U) (hn : n ≤ n') : PoolO base w m n' S sv F U := ⟨h.map.mono hn, h.st, h.el, h.ap⟩
/-- a row of the pool for p, or nil -/
theorem PoolO.get (h : PoolO base w m n S sv F U) {p : Pt} (hp : wfK p) : OwnQ base w ((F p).getD (.slice none 0 0)) (U p) := by
  have := h.el p hp
  cases hv : F p with
  | none => rw [hv] at this; rw [this]; exact World.ownsRow_nil _ _ _ _
  | some v => rw [hv] at this; exact this.2.1
theorem PoolO.look (h : PoolO base w m n S sv F U) {p : Pt} (hp : wfK p) : ∃ A cap, (F p).getD (.slice none 0 0) = .slice A (U p).length cap ∧ (Instr.lookup 57 (.map (some m)) (kv p) false).run Try.prog w = .ok (.slice A (U p).length cap) w := by
  obtain ⟨A, cap, e⟩ := own_slc (h.get hp)
  refine ⟨A, cap, e, ?_⟩
  rw [h.map.look ptKey Try.underlying57 (zero_pts w) hp, e]
/-- another start -/
theorem PoolO.push (h : PoolO base w m n S sv F U) {S' : List Pt} {sv' : Value} (hg : w.grownBy w' sv.ownBlock) (ho : OwnQ base w' sv' S') (hat : sv'.ownBlock = sv.ownBlock ∨ sv'.ownBlock = some w.heap.size) : PoolO base w' m n S' sv' F U := by
  refine ⟨h.map.kept hg (fun e => h.map.not_own h.st e.symm), ho, fun p hp => ?_, h.ap⟩
  have := h.el p hp
  cases hv : F p with
  | none => rw [hv] at this; exact this
  | some v =>
    rw [hv] at this
    refine ⟨this.1, this.2.1.kept hg ?_, fun k hk => ?_⟩
    · cases hb : v.ownBlock with
      | none => exact .inl rfl
      | some k => right; intro e; exact this.2.2 k hb e.symm
    · rcases hat with e | e
      · rw [e]; exact this.2.2 k hk
      · rw [e]; intro e2; injection e2 with e2; have := (this.2.1.lt k hk).2; omega
/-- the row of p has changed, in memory and in the map -/
theorem PoolO.turn (h : PoolO base w m n S sv F U) {p : Pt} (hp : wfK p) {v v' : Value} {L : List Pt} {w1 w2 w3 : World} {n' : Nat} (hL : L ≠ []) (hv : (F p).getD (.slice none 0 0) = v) (hg1 : w.grownBy w1 (some m)) (hg2 : w1.grownBy w2 v.ownBlock) (hg3 : w2.grownBy w3 (some m)) (hs1 : w1.heap.size = w.heap.size ∨ v'.ownBlock = v.ownBlock)
    (ho : OwnQ base w2 v' L) (hat : v'.ownBlock = v.ownBlock ∨ v'.ownBlock = some w1.heap.size) (hM : OwnM Try.prog 36 w3 m n' (updM F p v')) (hm2 : v'.ownBlock ≠ some m) : PoolO base w3 m n' S sv (updM F p v') (fun q => if q = p then L else U q) := by
  have k3 : ∀ {u : Value} {l : List Pt}, OwnQ base w u l → u.ownBlock = none ∨ u.ownBlock ≠ v.ownBlock → OwnQ base w3 u l := fun {u l} hu hne => by
    have e1 : u.ownBlock ≠ some m := h.map.not_own hu
    exact ((hu.kept hg1 (.inr e1)).kept hg2 hne).kept hg3 (.inr e1)
  have hsv : sv.ownBlock = none ∨ sv.ownBlock ≠ v.ownBlock := by
    have := h.el p hp
    cases hF : F p with
    | none =>
      rw [hF] at hv; subst hv
      cases hb : sv.ownBlock with
      | none => exact .inl rfl
      | some k => right; intro e; cases e
    | some u =>
      rw [hF] at hv this; simp only [Option.getD_some] at hv; subst hv
      cases hb : sv.ownBlock with
      | none => exact .inl rfl
      | some k => right; intro e; exact this.2.2 k e.symm hb
  have hother : ∀ q u, wfK q → q ≠ p → F q = some u → u.ownBlock = none ∨ u.ownBlock ≠ v.ownBlock := fun q u hq hne hF => by
    cases hb : u.ownBlock with
    | none => exact .inl rfl
    | some k =>
      right; intro e
      cases hFp : F p with
      | none => rw [hFp] at hv; subst hv; cases e
      | some u' =>
        rw [hFp] at hv; simp only [Option.getD_some] at hv; subst hv
        exact h.ap q p u u' hq hp hne hF hFp k hb e.symm
  have hnew : ∀ {u : Value} {l : List Pt}, OwnQ base w u l → u.ownBlock = none ∨ u.ownBlock ≠ v.ownBlock → ∀ k, u.ownBlock = some k → v'.ownBlock ≠ some k := fun {u l} hu hne k hk e => by
    have hlt := (hu.lt k hk).2
    rcases hat with e1 | e1
    · rcases hne with h0 | h0
      · rw [h0] at hk; cases hk
      · exact h0 (by rw [hk, ← e1, e])
    · rcases hs1 with e2 | e2
      · rw [e1] at e; injection e with e; omega
      · rcases hne with h0 | h0
        · rw [h0] at hk; cases hk
        · exact h0 (by rw [hk, ← e2, e])
  have ho3 : OwnQ base w3 v' L := ho.kept hg3 (.inr hm2)
  refine ⟨hM, k3 h.st hsv, fun q hq => ?_, fun q r u u' hq hr hne hF hF' k hk => ?_⟩
  · unfold updM
    by_cases e : q = p
    · subst e
      simp only [if_true]
      exact ⟨hL, ho3, fun k hk e => hnew h.st hsv k e hk⟩
    · simp only [if_neg e]
      have := h.el q hq
      cases hF : F q with
      | none => rw [hF] at this; exact this
      | some u => rw [hF] at this; exact ⟨this.1, k3 this.2.1 (hother q u hq e hF), this.2.2⟩
  · unfold updM at hF hF'
    by_cases e : q = p
    · subst e
      rw [if_pos rfl] at hF
      rw [if_neg (fun e => hne e.symm)] at hF'
      injection hF with hF; subst hF
      have := h.el r hr
      rw [hF'] at this
      intro e; exact hnew this.2.1 (hother r u' hr (fun e => hne e.symm) hF') k e hk
    · rw [if_neg e] at hF
      by_cases e2 : r = p
      · subst e2
        rw [if_pos rfl] at hF'
        injection hF' with hF'; subst hF'
        have := h.el q hq
        rw [hF] at this
        exact hnew this.2.1 (hother q u hq e hF) k hk
      · rw [if_neg e2] at hF'
        exact h.ap q r u u' hq hr hne hF hF' k hk
/-- the row of p has changed in memory alone -/
theorem PoolO.sorted (h : PoolO base w m n S sv F U) {p : Pt} (hp : wfK p) {v : Value} {L : List Pt} (hL : L ≠ []) (hv : F p = some v) (hg : w.grownBy w' v.ownBlock) (ho : OwnQ base w' v L) : PoolO base w' m n S sv F (fun q => if q = p then L else U q) := by
  have hm : v.ownBlock ≠ some m := by
    have := h.el p hp; rw [hv] at this; exact h.map.not_own this.2.1
  have h2 := h.turn hp (v := v) (v' := v) (L := L) (w1 := w) (w2 := w') (w3 := w') (n' := n) hL (by rw [hv]; rfl) ⟨rfl, rfl, rfl, Nat.le_refl _, fun _ _ _ => rfl⟩ hg ⟨rfl, rfl, rfl, Nat.le_refl _, fun _ _ _ => rfl⟩ (.inl rfl) ho (.inl rfl)
    ((h.map.kept hg (fun e => hm e.symm)).ext (fun c hc => by unfold updM; by_cases e : c = p; subst e; rw [if_pos rfl, hv]; rw [if_neg e])) hm
  have e : updM F p v = F := by funext q; unfold updM; by_cases e : q = p; subst e; rw [if_pos rfl, hv]; rw [if_neg e]
  rw [e] at h2
  exact h2
/-- behind the building: the pool is read only -/
theorem PoolO.done (h : PoolO base w m n S sv F U) {R : List Sg} {c : Nat} (hn : n + c ≤ 1000000) (hU : ∀ p, wfK p → U p = ends R p) : PoolR w.heap.size w m c R := by
  refine ⟨n, F, h.map, hn, fun p hp => ?_⟩
  have := h.el p hp
  cases hv : F p with
  | none => rw [hv] at this; rw [← hU p hp]; exact this
  | some v => rw [hv] at this; rw [← hU p hp]; exact ⟨Rd.own encPt_len this.2.1, fun k hk => (this.2.1.lt k hk).2⟩
end
end Go.Proofs.Yteadnlodccnfcaa
