/- Slices of structs that hold a slice: read, and built up by the call. -/
import Derived.Test.YtfoedkdmckhihaaBlk
namespace Go.Proofs.Ytfoedkdmckhihaa
set_option linter.unusedSimpArgs false
set_option linter.unusedVariables false
open Go.RowKit
/-- what reads as a list reads so behind a change of one block alone, if it lies elsewhere -/
theorem Rd.grown {α : Type} {k : Nat} {enc : α → List Value} {W W' : World} {v : Value} {xs : List α} {row : Option Nat} (h : Rd k enc W v xs) (hg : W.grownBy W' row) (hne : xs = [] ∨ v.ownBlock ≠ row) : Rd k enc W' v xs := by
  obtain ⟨A, cap, hv, hc, h⟩ := h
  refine ⟨A, cap, hv, hc, ?_⟩
  rcases hne with hne | hne
  · exact .inl hne
  rcases h with h | ⟨b, off, hA, hlt, hcell⟩
  · exact .inl h
  · refine .inr ⟨b, off, hA, Nat.lt_of_lt_of_le hlt hg.size, fun i x hx j u hu => ?_⟩
    refine (World.cell?_of_block (w := W) (hg.block b hlt ?_)).trans (hcell i x hx j u hu)
    subst hv hA
    exact fun e => hne e
/-- the block of a slice that has elements is there -/
theorem Rd.blk_lt {α : Type} {k : Nat} {enc : α → List Value} {W : World} {v : Value} {xs : List α} (h : Rd k enc W v xs) : xs = [] ∨ ∃ b, v.ownBlock = some b ∧ b < W.heap.size := by
  obtain ⟨A, cap, hv, hc, h⟩ := h
  rcases h with h | ⟨b, off, hA, hlt, hcell⟩
  · exact .inl h
  · exact .inr ⟨b, by rw [hv, hA]; rfl, hlt⟩
section
variable {H α β : Type} {k k2 : Nat} {encH : H → List Value} {sl : H → Value} {tag : H → α → Prop} {enc2 : β → List Value} {sub : α → List β}
/-- heads hs whose slices read as the lists of xs -/
def NestAt (sl : H → Value) (tag : H → α → Prop) (k2 : Nat) (enc2 : β → List Value) (sub : α → List β) (W : World) (hs : List H) (xs : List α) : Prop :=
  hs.length = xs.length ∧ ∀ (i : Nat) (h : H) (x : α), hs[i]? = some h → xs[i]? = some x → tag h x ∧ Rd k2 enc2 W (sl h) (sub x)
def RdN (k : Nat) (encH : H → List Value) (sl : H → Value) (tag : H → α → Prop) (k2 : Nat) (enc2 : β → List Value) (sub : α → List β) (W : World) (v : Value) (xs : List α) : Prop :=
  ∃ hs : List H, Rd k encH W v hs ∧ NestAt sl tag k2 enc2 sub W hs xs
theorem NestAt.below {W W' : World} {hs : List H} {xs : List α} (h : NestAt sl tag k2 enc2 sub W hs xs) (hb : Below W.heap.size W W') : NestAt sl tag k2 enc2 sub W' hs xs :=
  ⟨h.1, fun i y x hy hx => ⟨(h.2 i y x hy hx).1, (h.2 i y x hy hx).2.below hb⟩⟩
theorem RdN.below {W W' : World} {v : Value} {xs : List α} (h : RdN k encH sl tag k2 enc2 sub W v xs) (hb : Below W.heap.size W W') : RdN k encH sl tag k2 enc2 sub W' v xs := by
  obtain ⟨hs, h1, h2⟩ := h
  exact ⟨hs, h1.below hb, h2.below hb⟩
theorem RdN.nil {W : World} : RdN k encH sl tag k2 enc2 sub W (.slice none 0 0) [] := ⟨[], Rd.nil, rfl, fun i h x hh => by simp at hh⟩
theorem RdN.open_ {W : World} {v : Value} {xs : List α} (h : RdN k encH sl tag k2 enc2 sub W v xs) : ∃ (A : Option Addr) (cap : Nat), v = .slice A xs.length cap ∧ xs.length ≤ cap ∧
    ∀ (i : Nat) (x : α), xs[i]? = some x → ∃ b off, A = some ⟨b, off, none⟩ ∧ b < W.heap.size ∧
      ∀ (i : Nat) (x : α), xs[i]? = some x → ∃ h : H, tag h x ∧ Rd k2 enc2 W (sl h) (sub x) ∧ ∀ (j : Nat) (u : Value), (encH h)[j]? = some u → W.cell? ⟨b, off + i * k + j, none⟩ = some u := by
  obtain ⟨hs, h1, hl, h2⟩ := h
  obtain ⟨A, cap, hv, hc, ho⟩ := h1.open_
  refine ⟨A, cap, by rw [hv, hl], by omega, fun i x hx => ?_⟩
  have some_h : ∀ (i : Nat) (x : α), xs[i]? = some x → ∃ h, hs[i]? = some h := fun i x hx => by
    have := (List.getElem?_eq_some_iff.1 hx).1
    exact ⟨_, List.getElem?_eq_getElem (by omega)⟩
  obtain ⟨h, hh⟩ := some_h i x hx
  obtain ⟨b, off, hA, hb, hcell⟩ := ho i h hh
  refine ⟨b, off, hA, hb, fun i' x' hx' => ?_⟩
  obtain ⟨h', hh'⟩ := some_h i' x' hx'
  exact ⟨h', (h2 i' h' x' hh' hx').1, (h2 i' h' x' hh' hx').2, hcell i' h' hh'⟩
theorem RdN.op {W : World} {A : Option Addr} {n cap : Nat} {xs : List α} (h : RdN k encH sl tag k2 enc2 sub W (.slice A n cap) xs) : n = xs.length ∧ n ≤ cap ∧
    ∀ (i : Nat) (x : α), xs[i]? = some x → ∃ b off, A = some ⟨b, off, none⟩ ∧ b < W.heap.size ∧
      ∀ (i : Nat) (x : α), xs[i]? = some x → ∃ h : H, tag h x ∧ Rd k2 enc2 W (sl h) (sub x) ∧ ∀ (j : Nat) (u : Value), (encH h)[j]? = some u → W.cell? ⟨b, off + i * k + j, none⟩ = some u := by
  obtain ⟨A', cap', hv, hc, ho⟩ := h.open_
  injection hv with h1 h2 h3
  subst h1 h2 h3
  exact ⟨rfl, hc, ho⟩
/-- built by the call: the heads lie in a row of its own, the slices elsewhere -/
def OwnN (base : Nat) (e : TypeId) (k : Nat) (encH : H → List Value) (sl : H → Value) (tag : H → α → Prop) (k2 : Nat) (enc2 : β → List Value) (sub : α → List β) (W : World) (v : Value) (xs : List α) : Prop :=
  ∃ hs : List H, W.ownsRow base e k v hs.length (hs.flatMap encH) ∧ NestAt sl tag k2 enc2 sub W hs xs ∧ ∀ (i : Nat) (h : H) (x : α), hs[i]? = some h → xs[i]? = some x → sub x = [] ∨ (sl h).ownBlock ≠ v.ownBlock
theorem OwnN.nil {W : World} {base : Nat} {e : TypeId} : OwnN base e k encH sl tag k2 enc2 sub W (.slice none 0 0) [] :=
  ⟨[], World.ownsRow_nil _ _ _ _, ⟨rfl, fun i h x hh => by simp at hh⟩, fun i h x hh => by simp at hh⟩
theorem OwnN.rd (hk : ∀ x, (encH x).length = k) {W : World} {base : Nat} {e : TypeId} {v : Value} {xs : List α} (h : OwnN base e k encH sl tag k2 enc2 sub W v xs) : RdN k encH sl tag k2 enc2 sub W v xs := by
  obtain ⟨hs, h1, h2, _⟩ := h
  exact ⟨hs, Rd.own hk h1, h2⟩
theorem OwnN.below {W W' : World} {base : Nat} {e : TypeId} {v : Value} {xs : List α} (h : OwnN base e k encH sl tag k2 enc2 sub W v xs) (hb : Below W.heap.size W W') : OwnN base e k encH sl tag k2 enc2 sub W' v xs := by
  obtain ⟨hs, h1, h2, h3⟩ := h
  exact ⟨hs, own_below h1 hb, h2.below hb, h3⟩
/-- behind an append of one head whose slice lies elsewhere -/
theorem OwnN.snoc {W W' : World} {base : Nat} {e : TypeId} {v v' : Value} {xs : List α} {hs : List H} {h : H} {x : α}
    (hn : NestAt sl tag k2 enc2 sub W hs xs) (hap : ∀ (i : Nat) (h : H) (x : α), hs[i]? = some h → xs[i]? = some x → sub x = [] ∨ (sl h).ownBlock ≠ v.ownBlock)
    (hown : W'.ownsRow base e k v' (hs ++ [h]).length ((hs ++ [h]).flatMap encH)) (hg : W.grownBy W' v.ownBlock) (hat : v'.ownBlock = v.ownBlock ∨ v'.ownBlock = some W.heap.size)
    (ht : tag h x) (hr : Rd k2 enc2 W (sl h) (sub x)) (hx : sub x = [] ∨ (sl h).ownBlock ≠ v.ownBlock) : OwnN base e k encH sl tag k2 enc2 sub W' v' (xs ++ [x]) := by
  have far : ∀ {h : H} {x : α}, Rd k2 enc2 W (sl h) (sub x) → (sub x = [] ∨ (sl h).ownBlock ≠ v.ownBlock) → sub x = [] ∨ (sl h).ownBlock ≠ v'.ownBlock := fun {h x} hr hx => by
    rcases hx with hx | hx
    · exact .inl hx
    rcases hr.blk_lt with h0 | ⟨b, hb, hlt⟩
    · exact .inl h0
    · right
      rcases hat with h1 | h1
      · rw [h1]; exact hx
      · rw [h1, hb]; intro e; injection e with e; omega
  have hget : ∀ i h' x', (hs ++ [h])[i]? = some h' → (xs ++ [x])[i]? = some x' → (hs[i]? = some h' ∧ xs[i]? = some x') ∨ (h' = h ∧ x' = x) := fun i h' x' h1 h2 => by
    rcases Nat.lt_or_ge i hs.length with hlt | hge
    · left
      rw [List.getElem?_append_left hlt] at h1
      rw [List.getElem?_append_left (by rw [← hn.1]; exact hlt)] at h2
      exact ⟨h1, h2⟩
    · right
      rw [List.getElem?_append_right hge] at h1
      rw [List.getElem?_append_right (by rw [← hn.1]; exact hge)] at h2
      have : i - hs.length = 0 := by
        rcases Nat.eq_zero_or_pos (i - hs.length) with h0 | h0
        · exact h0
        · rw [List.getElem?_eq_none (by simp; omega)] at h1; cases h1
      rw [this] at h1
      rw [← hn.1, this] at h2
      simp at h1 h2
      exact ⟨h1.symm, h2.symm⟩
  refine ⟨hs ++ [h], hown, ⟨by simp [hn.1], fun i h' x' h1 h2 => ?_⟩, fun i h' x' h1 h2 => ?_⟩
  · rcases hget i h' x' h1 h2 with ⟨h3, h4⟩ | ⟨rfl, rfl⟩
    · exact ⟨(hn.2 i h' x' h3 h4).1, (hn.2 i h' x' h3 h4).2.grown hg (hap i h' x' h3 h4)⟩
    · exact ⟨ht, hr.grown hg hx⟩
  · rcases hget i h' x' h1 h2 with ⟨h3, h4⟩ | ⟨rfl, rfl⟩
    · exact far (hn.2 i h' x' h3 h4).2 (hap i h' x' h3 h4)
    · exact far hr hx
end
end Go.Proofs.Ytfoedkdmckhihaa
