/- Lists of tracks in memory. -/
import Derived.Test.YtomndgjnhhchdaaTrkKit
import Derived.Test.YtomndgjnhhchdaaTrkPlain
import Derived.Test.YtomndgjnhhchdaaLastKit
namespace Go.Proofs.Ytomndgjnhhchdaa
set_option linter.unusedSimpArgs false
set_option linter.unusedVariables false
set_option maxRecDepth 100000
open Go.ChangeShapes Go.WideShapes Go.ChangeAt Go.RowKit Go.Joins Trk
/-- a track as it lies in memory -/
abbrev TrH := (Int × Bool) × (Option Addr × Nat × Nat)
def tsl (h : TrH) : Value := .slice h.2.1 h.2.2.1 h.2.2.2
def encTr (h : TrH) : List Value := [.int .i64 h.1.1, .bool h.1.2, tsl h]
theorem encTr_len (h : TrH) : (encTr h).length = 3 := rfl
theorem oneTr : OneC encTr := fun x u hu => by simp [encTr, tsl] at hu; rcases hu with rfl | rfl | rfl <;> rfl
def ttag (h : TrH) (t : Tr) : Prop := h.1 = t.1
theorem infoTr : (Try.prog.info? 24).map (fun i => (i.zero, i.size, i.bytes)) = some (some (.agg #[.int .i64 0, .bool false, .slice none 0 0]), 3, 40) := by kernel_rfl
abbrev RdTrs (W : World) (v : Value) (l : List Tr) : Prop := RdN 3 encTr tsl ttag 2 encPt (fun t : Tr => t.2) W v l
abbrev OwnTrs (base : Nat) (W : World) (v : Value) (l : List Tr) : Prop := OwnN base 24 3 encTr tsl ttag 2 encPt (fun t : Tr => t.2) W v l
abbrev OwnTL (base B : Nat) (W : World) (v : Value) (hs : List TrH) (h : TrH) (E : List Tr) (x : Tr) : Prop := OwnL base B 24 31 3 encTr tsl ttag 2 encPt (fun t : Tr => t.2) W v hs h E x
def encB (b : Bool) : List Value := [.bool b]
theorem encB_len (b : Bool) : (encB b).length = 1 := rfl
theorem oneB : OneC encB := fun x u hu => by simp [encB] at hu; rcases hu with rfl; rfl
theorem infoB : (Try.prog.info? 4).map (fun i => (i.zero, i.size, i.bytes)) = some (some (.bool false), 1, 1) := by kernel_rfl
/-- the slices of the tracks lie from block base on -/
def LowH (base : Nat) (hs : List TrH) (xs : List Tr) : Prop := ∀ (i : Nat) (p : TrH) (y : Tr), hs[i]? = some p → xs[i]? = some y → y.2 = [] ∨ ∀ b, (tsl p).ownBlock = some b → base ≤ b
def OwnLow (base : Nat) (W : World) (u : Value) (xs : List Tr) : Prop := ∃ hs : List TrH, W.ownsRow base 24 3 u hs.length (hs.flatMap encTr) ∧ NestAt tsl ttag 2 encPt (fun t : Tr => t.2) W hs xs ∧
  (∀ (i : Nat) (h : TrH) (x : Tr), hs[i]? = some h → xs[i]? = some x → x.2 = [] ∨ (tsl h).ownBlock ≠ u.ownBlock) ∧ LowH base hs xs
theorem OwnLow.own {base : Nat} {W : World} {u : Value} {xs : List Tr} (h : OwnLow base W u xs) : OwnTrs base W u xs := by
  obtain ⟨hs, h1, h2, h3, _⟩ := h; exact ⟨hs, h1, h2, h3⟩
theorem OwnLow.base_ {base base' : Nat} {W : World} {u : Value} {xs : List Tr} (h : OwnLow base W u xs) (hb : base' ≤ base) : OwnLow base' W u xs := by
  obtain ⟨hs, h1, h2, h3, h4⟩ := h
  exact ⟨hs, own_base h1 hb, h2, h3, fun i p y hp hy => (h4 i p y hp hy).imp id (fun h b hb' => Nat.le_trans hb (h b hb'))⟩
/-- tracks built, the last one open -/
def PcsAt (base : Nat) (W : World) (u : Value) (xs : List Tr) : Prop :=
  (xs = [] ∧ u = .slice none 0 0) ∨ ∃ E x hs h B, xs = E ++ [x] ∧ OwnTL base B W u hs h E x ∧ LowH base hs E
theorem PcsAt.below {base : Nat} {W W' : World} {u : Value} {xs : List Tr} (h : PcsAt base W u xs) (hb : Below W.heap.size W W') : PcsAt base W' u xs := by
  rcases h with h | ⟨E, x, hs, h, B, h1, h2, h3⟩
  · exact .inl h
  · exact .inr ⟨E, x, hs, h, B, h1, h2.below hb, h3⟩
theorem PcsAt.low {base : Nat} {W : World} {u : Value} {xs : List Tr} (h : PcsAt base W u xs) : OwnLow base W u xs := by
  rcases h with ⟨rfl, rfl⟩ | ⟨E, x, hs, h, B, rfl, h2, h3⟩
  · exact ⟨[], World.ownsRow_nil _ _ _ _, ⟨rfl, fun i h x hh => by simp at hh⟩, fun i h x hh => by simp at hh, fun i h x hh => by simp at hh⟩
  · obtain ⟨c1, c2, c3⟩ := h2.closeH encPt_len (by decide)
    refine ⟨hs ++ [h], c1, c2, c3, fun i p y hp hy => ?_⟩
    rcases Nat.lt_or_ge i hs.length with hlt | hge
    · rw [List.getElem?_append_left hlt] at hp
      rw [List.getElem?_append_left (by rw [← h2.nest.1]; exact hlt)] at hy
      exact h3 i p y hp hy
    · rw [List.getElem?_append_right hge] at hp
      have e0 : i - hs.length = 0 := by
        rcases Nat.eq_zero_or_pos (i - hs.length) with h0 | h0
        · exact h0
        · rw [List.getElem?_eq_none (by simp; omega)] at hp; cases hp
      rw [e0] at hp
      have hp : h = p := by simpa using hp
      subst hp
      right
      exact fun b hb => Nat.le_trans h2.low (h2.inner.lt b hb).1
theorem PcsAt.own {base : Nat} {W : World} {u : Value} {xs : List Tr} (h : PcsAt base W u xs) : OwnTrs base W u xs := h.low.own
theorem trks_each {W : World} {b off : Nat} {l : List Tr}
    (h : ∀ (i : Nat) (x : Tr), l[i]? = some x → ∃ h : TrH, ttag h x ∧ Rd 2 encPt W (tsl h) x.2 ∧ ∀ (j : Nat) (u : Value), (encTr h)[j]? = some u → W.cell? ⟨b, off + i * 3 + j, none⟩ = some u) :
    ∀ (i : Nat) (t : Tr), l[i]? = some t → ∃ (S : Option Addr) (c : Nat), W.cell? ⟨b, off + i * 3, none⟩ = some (.int .i64 t.1.1) ∧ W.cell? ⟨b, off + i * 3 + 1, none⟩ = some (.bool t.1.2) ∧ W.cell? ⟨b, off + i * 3 + 2, none⟩ = some (.slice S t.2.length c) ∧ t.2.length ≤ c ∧ Rd 2 encPt W (.slice S t.2.length c) t.2 := by
  intro i t ht
  obtain ⟨⟨⟨r, cl⟩, S, n, c⟩, h1, hr, hc⟩ := h i t ht
  obtain ⟨S', c', e, hle, _⟩ := hr.open_
  have e9 : (r, cl) = t.1 := h1
  unfold tsl at e hr
  injection e with e1 e2 e3
  simp only at e1 e2 e3 hr
  subst e1 e2 e3
  refine ⟨S, c, ?_, ?_, ?_, hle, hr⟩
  · have := hc 0 _ rfl; rw [← e9]; exact this
  · have := hc 1 _ rfl; rw [← e9]; exact this
  · exact hc 2 _ rfl
theorem trks_open {W : World} {s : Value} {l : List Tr} (h : RdTrs W s l) : ∃ (A : Option Addr) (cap : Nat), s = .slice A l.length cap ∧ l.length ≤ cap ∧
    ∀ (i : Nat) (t : Tr), l[i]? = some t → ∃ b off, A = some ⟨b, off, none⟩ ∧ b < W.heap.size ∧
      ∀ (i : Nat) (t : Tr), l[i]? = some t → ∃ (S : Option Addr) (c : Nat), W.cell? ⟨b, off + i * 3, none⟩ = some (.int .i64 t.1.1) ∧ W.cell? ⟨b, off + i * 3 + 1, none⟩ = some (.bool t.1.2) ∧ W.cell? ⟨b, off + i * 3 + 2, none⟩ = some (.slice S t.2.length c) ∧ t.2.length ≤ c ∧ Rd 2 encPt W (.slice S t.2.length c) t.2 := by
  obtain ⟨A, cap, hv, hc, ho⟩ := RdN.open_ h
  refine ⟨A, cap, hv, hc, fun i w hw => ?_⟩
  obtain ⟨b, off, hA, hb, hcell⟩ := ho i w hw
  exact ⟨b, off, hA, hb, trks_each hcell⟩
/-- behind an append of a new track with no cells -/
theorem OwnTrs.push0 {base : Nat} {W W' : World} {u u' : Value} {xs : List Tr} {hs : List TrH} {r : Int} (hn : NestAt tsl ttag 2 encPt (fun t : Tr => t.2) W hs xs)
    (hap : ∀ (i : Nat) (h : TrH) (x : Tr), hs[i]? = some h → xs[i]? = some x → x.2 = [] ∨ (tsl h).ownBlock ≠ u.ownBlock)
    (hown : W'.ownsRow base 24 3 u' (hs ++ [((r, false), (none, 0, 0))]).length ((hs ++ [((r, false), (none, 0, 0))]).flatMap encTr)) (hg : W.grownBy W' u.ownBlock) (hat : u'.ownBlock = u.ownBlock ∨ u'.ownBlock = some W.heap.size) (hb : base ≤ W.heap.size) :
    OwnTL base W.heap.size W' u' hs ((r, false), (none, 0, 0)) xs ((r, false), []) :=
  OwnN.push hs hn hn (Nat.le_refl _) hb hg.size hap hown hg hat rfl (World.ownsRow_nil _ _ _ _)
theorem OwnN.base_ {H α β : Type} {k k2 : Nat} {encH : H → List Value} {sl : H → Value} {tag : H → α → Prop} {enc2 : β → List Value} {sub : α → List β} {base base' : Nat} {e : TypeId} {W : World} {v : Value} {xs : List α} (h : OwnN base e k encH sl tag k2 enc2 sub W v xs) (hb : base' ≤ base) : OwnN base' e k encH sl tag k2 enc2 sub W v xs := by
  obtain ⟨hs, h1, h2, h3⟩ := h
  exact ⟨hs, own_base h1 hb, h2, h3⟩
end Go.Proofs.Ytomndgjnhhchdaa
