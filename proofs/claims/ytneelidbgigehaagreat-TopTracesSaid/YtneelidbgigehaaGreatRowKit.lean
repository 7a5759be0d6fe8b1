/- From a walk to a row: arguments opened to points, segments and lists of points; the row's last step. -/
import Derived.Test.YtneelidbgigehaaGreatRows
import Derived.WalkKit
import Derived.ProofKit
import Derived.OpenShut
import Derived.ChangeOld
import Derived.Below
import Derived.Lib.SmallJoins
import Derived.Test.YtneelidbgigehaaGreatBase
import Derived.Deep.Slices
import Derived.Deep.Fields
namespace Go.Proofs.YtneelidbgigehaaGreat
set_option linter.unusedSimpArgs false
set_option linter.unusedVariables false
open Go.ChangeShapes Go.WideShapes Go.ChangeAt Go.RowKit Go.Joins
set_option maxRecDepth 100000 in
theorem own : ownKnob Tryz.prog.godebug = none := by kernel_rfl
set_option maxRecDepth 100000 in
theorem laidOut : laidOutB Tryz.prog = true := by kernel_rfl
section
variable {H : Type} {enc : TypeId × Value → H} {P : Program} {W W' : World}
/-- all arguments read behind the call as before it -/
theorem below_trodAll (hl : laidOutB P = true) (hb : Below W.heap.size W W') : ∀ (ts : List TypeId) (vs : List Value) (ds : List (DataW H)) (ps : List MemPlace),
    (∀ t ∈ ts, P.readableRec t = true ∧ t < P.types.size) → (∀ x ∈ ps, x.block < W.heap.size) →
    DataW.TrodAll enc P W 0 (fun _ => true) true ts vs ds ps → DataW.TrodAll enc P W' 0 (fun b => decide (b < W.heap.size)) true ts vs ds ps
  | [], vs, ds, ps, _, _, h => by
    cases vs <;> cases ds <;> simp [DataW.TrodAll] at h ⊢
    exact h
  | t :: ts, vs, ds, ps, hr, hlt, h => by
    obtain ⟨v, vs', d, ds', p, q, rfl, rfl, rfl, h1, h2⟩ := trodAll_cons h
    refine trodAll_cons_mk ?_ (below_trodAll hl hb ts vs' ds' q (fun t ht => hr t (List.mem_cons_of_mem _ ht)) (fun x hx => hlt x (List.mem_append_right _ hx)) h2)
    have := hr t (List.mem_cons_self ..)
    exact Below.trod hl this.1 this.2 h1 hb (fun x hx => hlt x (List.mem_append_left _ hx))
end
/-- a number that an int holds -/
def i64 (n : Int) : Prop := -9223372036854775808 ≤ n ∧ n ≤ 9223372036854775807
theorem i64_of {n : Int} (h : (Lit.int .i64 n).wf = true) : i64 n := by
  exact bounds_i64 h
section
variable {H : Type} {enc : TypeId × Value → H} {W : World} {base : Nat} {spare : Nat → Bool} {held : Bool} {r : Reach} {b0 : Nat} {v : Value} {d : DataW H} {ps : List MemPlace}
set_option maxRecDepth 100000 in
theorem open_i64 (hv : Value.okWide Tryz.prog W r b0 3 v) (h : DataW.Trod enc Tryz.prog W base spare held 3 v d ps) : ∃ n : Int, v = .int .i64 n ∧ i64 n := by
  obtain ⟨n, rfl, _, _, wf⟩ := open_int Tryz.underlying3 hv h
  exact ⟨n, rfl, i64_of wf⟩
end
section
variable {H : Type} {enc' : TypeId × Value → H} {P : Program} {W : World} {spare : Nat → Bool} {held : Bool} {α : Type}
/-- a slice that came in reads as a list, if its elements do -/
theorem rd_slice {k : Nat} {enc : α → List Value} {R : α → Prop} {t e : TypeId} (ht : P.underlying t = some (.slice e)) (hk : P.cellsOf e = k) (hk0 : 0 < k) (henc : ∀ x, (enc x).length = k)
    (helt : ∀ (n : Nat) (cs' : List Value) (y : DataW H × List MemPlace), DataW.trod enc' P W 0 spare held n e cs' = some y → ∃ x : α, cs' = enc x ∧ R x)
    {fuel : Nat} {v : Value} {x : DataW H × List MemPlace} (h : DataW.trod enc' P W 0 spare held fuel t [v] = some x) : ∃ xs : List α, Rd k enc W v xs ∧ ∀ x ∈ xs, R x := by
  rcases Go.Deep.open_slice ht h with ⟨hc, _⟩ | ⟨a, len, cap, m, n, D, Pl, hc, _, hl, _, hm, _, hi⟩
  · simp only [List.cons.injEq, and_true] at hc
    subst hc
    exact ⟨[], Rd.nil, by simp⟩
  · simp only [List.cons.injEq, and_true] at hc
    subst hc
    have hlm : len ≤ m := by rw [hm]; split <;> omega
    have each : ∀ i, i < len → ∃ x : α, R x ∧ ∀ j, j < k → W.cell? (a.add (i * k + j)) = (enc x)[j]? := by
      intro i hi'
      obtain ⟨cs', hcs, ht'⟩ := hi i (by omega)
      obtain ⟨x, rfl, hR⟩ := helt n cs' _ ht'
      rw [hk] at hcs
      obtain ⟨_, _, hat⟩ := World.cells?_some hcs
      refine ⟨x, hR, fun j hj => ?_⟩
      rw [← hat j hj, Go.Deep.add_add]
    have hlist : ∀ n, n ≤ len → ∃ xs : List α, xs.length = n ∧ (∀ x ∈ xs, R x) ∧ ∀ i x, xs[i]? = some x → ∀ j, j < k → W.cell? (a.add (i * k + j)) = (enc x)[j]? := by
      intro n
      induction n with
      | zero => intro _; exact ⟨[], rfl, by simp, by simp⟩
      | succ n ih =>
        intro hn
        obtain ⟨xs, h1, h2, h3⟩ := ih (by omega)
        obtain ⟨x, hR, hx⟩ := each n (by omega)
        refine ⟨xs ++ [x], by simp [h1], ?_, ?_⟩
        · intro y hy
          rcases List.mem_append.1 hy with hy | hy
          · exact h2 y hy
          · simp at hy; rw [hy]; exact hR
        · intro i y hy j hj
          by_cases hlt : i < xs.length
          · rw [List.getElem?_append_left hlt] at hy; exact h3 i y hy j hj
          · rw [List.getElem?_append_right (by omega)] at hy
            have : i - xs.length = 0 := by
              rcases Nat.eq_zero_or_pos (i - xs.length) with h0 | h0
              · exact h0
              · rw [List.getElem?_eq_none (by simp; omega)] at hy; cases hy
            rw [this] at hy; simp at hy; subst hy
            have : i = n := by omega
            subst this; exact hx j hj
    obtain ⟨xs, h1, h2, h3⟩ := hlist len (Nat.le_refl _)
    refine ⟨xs, ⟨some a, cap, by rw [h1], by omega, ?_⟩, h2⟩
    rcases xs with _ | ⟨x0, xs⟩
    · exact .inl rfl
    · right
      have h0 := h3 0 x0 rfl 0 hk0
      have hen : ∃ u, (enc x0)[0]? = some u := ⟨_, List.getElem?_eq_getElem (by rw [henc]; exact hk0)⟩
      obtain ⟨u0, hu0⟩ := hen
      have ea : a.add (0 * k + 0) = a := by simp [Addr.add]
      rw [ea, hu0] at h0
      obtain ⟨b, off, spot⟩ := a
      have hs : spot = none := by
        cases spot with
        | none => rfl
        | some s => simp [World.cell?] at h0; split at h0 <;> cases h0
      subst hs
      refine ⟨b, off, rfl, World.block_lt_of_cell? W _ h0, fun i y hy j u hu => ?_⟩
      have hj : j < k := by rw [← henc y]; exact (List.getElem?_eq_some_iff.1 hu).1
      have := h3 i y hy j hj
      rw [hu] at this
      have e : (⟨b, off, none⟩ : Addr).add (i * k + j) = ⟨b, off + i * k + j, none⟩ := by unfold Addr.add; split <;> simp_all <;> omega
      rwa [e] at this
end
end Go.Proofs.YtneelidbgigehaaGreat
