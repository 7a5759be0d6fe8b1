/- Lemmas: LastKit TrkMem. -/
import Derived.Test.YtneelidbgigehaaGreatT01
import Derived.Test.YtneelidbgigehaaGreatT25
/- Lists of structs that hold a slice, built up by the call, the last one still open: its slice is the call's own. -/
namespace Go.Proofs.YtneelidbgigehaaGreat
set_option linter.unusedSimpArgs false
set_option linter.unusedVariables false
open Go.RowKit
section
variable {H α β : Type} {k k2 : Nat} {encH : H → List Value} {sl : H → Value} {tag : H → α → Prop} {enc2 : β → List Value} {sub : α → List β} {base B : Nat} {e e2 : TypeId}
/-- heads hs and h in a row of the call's own; the slices of hs lie below block B, that of h is the call's own from B on -/
structure OwnL (base B : Nat) (e e2 : TypeId) (k : Nat) (encH : H → List Value) (sl : H → Value) (tag : H → α → Prop) (k2 : Nat) (enc2 : β → List Value) (sub : α → List β) (W : World) (v : Value) (hs : List H) (h : H) (xs : List α) (x : α) : Prop where
  own : W.ownsRow base e k v (hs.length + 1) ((hs ++ [h]).flatMap encH)
  nest : NestAt sl tag k2 enc2 sub W hs xs
  far : ∀ (i : Nat) (p : H) (y : α), hs[i]? = some p → xs[i]? = some y → sub y = [] ∨ ((sl p).ownBlock ≠ v.ownBlock ∧ ∀ b, (sl p).ownBlock = some b → b < B)
  tg : tag h x
  inner : W.ownsRow B e2 k2 (sl h) (sub x).length ((sub x).flatMap enc2)
  low : base ≤ B
  top : B ≤ W.heap.size
variable {W W' : World} {v : Value} {hs : List H} {h : H} {xs : List α} {x : α}
theorem OwnL.below (o : OwnL base B e e2 k encH sl tag k2 enc2 sub W v hs h xs x) (hb : Below W.heap.size W W') : OwnL base B e e2 k encH sl tag k2 enc2 sub W' v hs h xs x :=
  ⟨own_below o.own hb, o.nest.below hb, o.far, o.tg, own_below o.inner hb, o.low, Nat.le_trans o.top hb.size⟩
theorem own_head {n size : Nat} {v : Value} {cs : List Value} (h : W.ownsRow base e size v (n + 1) cs) : ∃ g cap, v = .slice (some ⟨g, 0, none⟩) (n + 1) cap ∧ base ≤ g ∧ g < W.heap.size := by
  have hl := h.lt
  rcases h.2 with ⟨_, h0⟩ | ⟨g, cap, cur, rfl, hb, _⟩
  · omega
  · exact ⟨g, cap, rfl, hb, (hl g rfl).2⟩
theorem OwnL.shape (o : OwnL base B e e2 k encH sl tag k2 enc2 sub W v hs h xs x) : ∃ g cap, v = .slice (some ⟨g, 0, none⟩) (xs.length + 1) cap ∧ base ≤ g ∧ g < W.heap.size := by
  obtain ⟨g, cap, h1, h2, h3⟩ := own_head o.own
  exact ⟨g, cap, by rw [h1, o.nest.1], h2, h3⟩
theorem OwnL.cell (hk : ∀ x, (encH x).length = k) {g n cap : Nat} (o : OwnL base B e e2 k encH sl tag k2 enc2 sub W (.slice (some ⟨g, 0, none⟩) n cap) hs h xs x) {j : Nat} {u : Value} (hu : (encH h)[j]? = some u) : W.cell? ⟨g, xs.length * k + j, none⟩ = some u := by
  have hl : (hs ++ [h]).length = hs.length + 1 := by simp
  have hrd := Rd.own hk (hl ▸ o.own)
  obtain ⟨A, c, hv, _, ho⟩ := hrd
  injection hv with e1 e2' e3
  rcases ho with ho | ⟨b, off, e4, _, hc⟩
  · simp at ho
  · rw [e4] at e1; injection e1 with e1; injection e1 with e1 e5 _
    subst e1 e5
    have := hc hs.length h (by simp) j u hu
    rw [o.nest.1] at this
    simpa using this
theorem OwnL.frozen {g n cap : Nat} (o : OwnL base B e e2 k encH sl tag k2 enc2 sub W (.slice (some ⟨g, 0, none⟩) n cap) hs h xs x) (i : Nat) : W.frozen? ⟨g, i, none⟩ = false := by
  have hnn : n = hs.length + 1 := by
    rcases o.own.2 with ⟨h1, _⟩ | ⟨_, _, _, h1, _⟩
    · cases h1
    · injection h1
  subst hnn
  exact o.own.frozenAt _
/-- two rows of elements of unlike types -/
theorem own_own_ne {base2 size size2 n n2 : Nat} {v v2 : Value} {cs cs2 : List Value} (h : W.ownsRow base e size v n cs) (h2 : W.ownsRow base2 e2 size2 v2 n2 cs2) (hne : e ≠ e2) : v.ownBlock = none ∨ v.ownBlock ≠ v2.ownBlock := by
  rcases h.2 with ⟨rfl, _⟩ | ⟨g, cap, cur, rfl, _, hh, _⟩
  · left; rfl
  · right
    rcases h2.2 with ⟨rfl, _⟩ | ⟨g', cap', cur', rfl, _, hh', _⟩
    · simp [Value.ownBlock]
    · intro e1
      have : g = g' := by simpa [Value.ownBlock] using e1
      subst this
      rw [hh] at hh'
      injection hh' with e3
      injection e3 with _ e3
      exact hne e3
theorem flat_setL (hk : ∀ x, (encH x).length = k) {h' : H} {j : Nat} {u : Value} (hj : encH h' = (encH h).set j u) : ((hs ++ [h]).flatMap encH).set (hs.length * k + j) u = (hs ++ [h']).flatMap encH := by
  have hl : (hs.flatMap encH).length = hs.length * k := by
    clear hj
    induction hs with
    | nil => simp
    | cons a r ih => rw [List.flatMap_cons, List.length_append, ih, hk, List.length_cons, Nat.succ_mul]; omega
  rw [List.flatMap_append, List.flatMap_append, List.flatMap_singleton, List.flatMap_singleton, List.set_append_right _ _ (by omega), hl, Nat.add_sub_cancel_left, hj]
/-- the last one's slice has changed (in its own row, or it lies in a new one); its head is stored anew -/
theorem OwnL.store (hk : ∀ x, (encH x).length = k) (hee : e ≠ e2) {g n cap : Nat} (o : OwnL base B e e2 k encH sl tag k2 enc2 sub W (.slice (some ⟨g, 0, none⟩) n cap) hs h xs x)
    {u : Value} {x' : α} {h' : H} {W1 : World} (hg : W.grownBy W1 (sl h).ownBlock) (hown : W1.ownsRow B e2 k2 u (sub x').length ((sub x').flatMap enc2)) (hs' : sl h' = u) (ht : tag h' x') {j : Nat} (hj : encH h' = (encH h).set j u) :
    OwnL base B e e2 k encH sl tag k2 enc2 sub (W1.setCell ⟨g, xs.length * k + j, none⟩ u) (.slice (some ⟨g, 0, none⟩) n cap) hs h' xs x' := by
  have hne := own_own_ne o.own o.inner hee
  have hgn : (Value.slice (some ⟨g, 0, none⟩) n cap).ownBlock = some g := rfl
  have hne2 : some g ≠ (sl h).ownBlock := by
    rcases hne with h1 | h1
    · rw [hgn] at h1; cases h1
    · rwa [hgn] at h1
  have hlt : g < W.heap.size := (o.own.lt g rfl).2
  have ow1 : W1.ownsRow base e k (.slice (some ⟨g, 0, none⟩) n cap) (hs.length + 1) ((hs ++ [h]).flatMap encH) := o.own.kept hg (.inr hne2)
  have hnn : n = hs.length + 1 := by
    rcases o.own.2 with ⟨h1, _⟩ | ⟨_, _, _, h1, _⟩
    · cases h1
    · injection h1
  subst hnn
  have hst := (World.ownsRow.stored ow1 (hs.length * k + j) u).1
  rw [flat_setL hk hj] at hst
  have hu2 : u.ownBlock ≠ some g := by
    have := own_own_ne ow1 hown hee
    rcases this with h1 | h1
    · cases h1
    · exact fun e => h1 e.symm
  have hxl : xs.length = hs.length := o.nest.1.symm
  have hB : ∀ b, (sl h).ownBlock = some b → B ≤ b := fun b hb => (o.inner.lt b hb).1
  refine ⟨by rw [hxl]; exact hst, ⟨o.nest.1, fun i p y hp hy => ⟨(o.nest.2 i p y hp hy).1, ?_⟩⟩, fun i p y hp hy => o.far i p y hp hy, ht, ?_, o.low, Nat.le_trans o.top (by simpa [World.setCell] using hg.size)⟩
  · have hr := (o.nest.2 i p y hp hy).2
    have hf := o.far i p y hp hy
    have h1 : Rd k2 enc2 W1 (sl p) (sub y) := hr.grown hg (by
      rcases hf with hf | ⟨_, hf⟩
      · exact .inl hf
      · rcases hr.blk_lt with h0 | ⟨b, hb, _⟩
        · exact .inl h0
        · right; intro e1
          have h2 := hf b hb
          have h3 := hB b (by rw [← e1]; exact hb)
          omega)
    exact h1.grown (grownBy_set _) (by
      rcases hf with hf | ⟨hf, _⟩
      · exact .inl hf
      · exact .inr hf)
  · rw [hs']; exact own_grownBy hown (grownBy_set _) hu2
theorem OwnL.keeps (hee : e ≠ e2) {g n cap : Nat} (o : OwnL base B e e2 k encH sl tag k2 enc2 sub W (.slice (some ⟨g, 0, none⟩) n cap) hs h xs x) {W1 : World} (hg : W.grownBy W1 (sl h).ownBlock) :
    g < W1.heap.size ∧ ∀ i, W1.cell? ⟨g, i, none⟩ = W.cell? ⟨g, i, none⟩ ∧ W1.frozen? ⟨g, i, none⟩ = false := by
  have hne := own_own_ne o.own o.inner hee
  have hlt : g < W.heap.size := (o.own.lt g rfl).2
  have hne2 : some g ≠ (sl h).ownBlock := by
    rcases hne with h1 | h1
    · cases h1
    · exact h1
  have ow1 := o.own.kept hg (.inr hne2)
  have hnn : n = hs.length + 1 := by
    rcases o.own.2 with ⟨h1, _⟩ | ⟨_, _, _, h1, _⟩
    · cases h1
    · injection h1
  subst hnn
  exact ⟨Nat.lt_of_lt_of_le hlt hg.size, fun i => ⟨World.cell?_of_block (w := W) (hg.block g hlt hne2), ow1.frozenAt _⟩⟩
/-- the last one's own row has changed -/
theorem OwnL.turn (hee : e ≠ e2) (o : OwnL base B e e2 k encH sl tag k2 enc2 sub W v hs h xs x) {x' : α} {W1 : World} {b : Nat} (hb : (sl h).ownBlock = some b) (hg : W.grownBy W1 (some b)) (hown : W1.ownsRow B e2 k2 (sl h) (sub x').length ((sub x').flatMap enc2)) (ht : tag h x') :
    OwnL base B e e2 k encH sl tag k2 enc2 sub W1 v hs h xs x' := by
  have hne := own_own_ne o.own o.inner hee
  have hB : B ≤ b := (o.inner.lt b hb).1
  refine ⟨o.own.kept hg (by rcases hne with h1 | h1; exact .inl h1; right; rw [← hb]; exact h1), ⟨o.nest.1, fun i p y hp hy => ⟨(o.nest.2 i p y hp hy).1, ?_⟩⟩, o.far, ht, hown, o.low, Nat.le_trans o.top hg.size⟩
  have hr := (o.nest.2 i p y hp hy).2
  refine hr.grown hg ?_
  rcases o.far i p y hp hy with hf | ⟨_, hf⟩
  · exact .inl hf
  · right; intro e1; have := hf b e1; omega
theorem OwnL.closeH (hk2 : ∀ x, (enc2 x).length = k2) (hee : e ≠ e2) (o : OwnL base B e e2 k encH sl tag k2 enc2 sub W v hs h xs x) : W.ownsRow base e k v (hs ++ [h]).length ((hs ++ [h]).flatMap encH) ∧ NestAt sl tag k2 enc2 sub W (hs ++ [h]) (xs ++ [x]) ∧
    ∀ (i : Nat) (p : H) (y : α), (hs ++ [h])[i]? = some p → (xs ++ [x])[i]? = some y → sub y = [] ∨ (sl p).ownBlock ≠ v.ownBlock := by
  have hne := own_own_ne o.own o.inner hee
  obtain ⟨g, cap, hv, _, _⟩ := own_head o.own
  have hget : ∀ i p y, (hs ++ [h])[i]? = some p → (xs ++ [x])[i]? = some y → (hs[i]? = some p ∧ xs[i]? = some y) ∨ (p = h ∧ y = x) := fun i p y h1 h2 => by
    rcases Nat.lt_or_ge i hs.length with hlt | hge
    · left
      rw [List.getElem?_append_left hlt] at h1
      rw [List.getElem?_append_left (by rw [← o.nest.1]; exact hlt)] at h2
      exact ⟨h1, h2⟩
    · right
      rw [List.getElem?_append_right hge] at h1
      rw [List.getElem?_append_right (by rw [← o.nest.1]; exact hge)] at h2
      have e0 : i - hs.length = 0 := by
        rcases Nat.eq_zero_or_pos (i - hs.length) with h0 | h0
        · exact h0
        · rw [List.getElem?_eq_none (by simp; omega)] at h1; cases h1
      rw [e0] at h1
      rw [← o.nest.1, e0] at h2
      simp at h1 h2
      exact ⟨h1.symm, h2.symm⟩
  refine ⟨by rw [List.length_append, List.length_singleton]; exact o.own, ⟨by simp [o.nest.1], fun i p y hp hy => ?_⟩, fun i p y hp hy => ?_⟩
  · rcases hget i p y hp hy with ⟨h1, h2⟩ | ⟨rfl, rfl⟩
    · exact o.nest.2 i p y h1 h2
    · exact ⟨o.tg, Rd.own hk2 o.inner⟩
  · rcases hget i p y hp hy with ⟨h1, h2⟩ | ⟨rfl, rfl⟩
    · rcases o.far i p y h1 h2 with hf | ⟨hf, _⟩
      · exact .inl hf
      · exact .inr hf
    · right
      rcases hne with h1 | h1
      · rw [hv] at h1; cases h1
      · exact fun e => h1 e.symm
theorem OwnL.close (hk2 : ∀ x, (enc2 x).length = k2) (hee : e ≠ e2) (o : OwnL base B e e2 k encH sl tag k2 enc2 sub W v hs h xs x) : OwnN base e k encH sl tag k2 enc2 sub W v (xs ++ [x]) := ⟨_, o.closeH hk2 hee⟩
/-- behind an append of a new head: its own slice lies from block B on, all else below -/
theorem OwnN.push {v' : Value} {W0 : World} (hs : List H) (hn : NestAt sl tag k2 enc2 sub W hs xs) (hn0 : NestAt sl tag k2 enc2 sub W0 hs xs) (hB : W0.heap.size ≤ B) (hlow : base ≤ B) (htop : B ≤ W'.heap.size)
    (hap : ∀ (i : Nat) (h : H) (x : α), hs[i]? = some h → xs[i]? = some x → sub x = [] ∨ (sl h).ownBlock ≠ v.ownBlock)
    (hown : W'.ownsRow base e k v' (hs ++ [h]).length ((hs ++ [h]).flatMap encH)) (hg : W.grownBy W' v.ownBlock) (hat : v'.ownBlock = v.ownBlock ∨ v'.ownBlock = some W.heap.size)
    (ht : tag h x) (hin : W'.ownsRow B e2 k2 (sl h) (sub x).length ((sub x).flatMap enc2)) : OwnL base B e e2 k encH sl tag k2 enc2 sub W' v' hs h xs x := by
  refine ⟨by rw [List.length_append, List.length_singleton] at hown; exact hown, ⟨hn.1, fun i p y hp hy => ⟨(hn.2 i p y hp hy).1, (hn.2 i p y hp hy).2.grown hg (hap i p y hp hy)⟩⟩, fun i p y hp hy => ?_, ht, hin, hlow, htop⟩
  rcases hap i p y hp hy with h1 | h1
  · exact .inl h1
  rcases (hn.2 i p y hp hy).2.blk_lt with h0 | ⟨b, hb, hlt⟩
  · exact .inl h0
  rcases (hn0.2 i p y hp hy).2.blk_lt with h0 | ⟨b', hb', hlt'⟩
  · exact .inl h0
  right
  refine ⟨?_, fun b2 hb2 => ?_⟩
  · rcases hat with h2 | h2
    · rw [h2]; exact h1
    · rw [h2, hb]; intro e1; injection e1 with e1; omega
  · rw [hb'] at hb2; injection hb2 with hb2; omega
/-- behind an append of many -/
theorem OwnN.append {v v' : Value} {hs hs2 : List H} {xs ys : List α} (hn : NestAt sl tag k2 enc2 sub W hs xs) (hap : ∀ (i : Nat) (h : H) (x : α), hs[i]? = some h → xs[i]? = some x → sub x = [] ∨ (sl h).ownBlock ≠ v.ownBlock)
    (hn2 : NestAt sl tag k2 enc2 sub W hs2 ys) (hap2 : ∀ (i : Nat) (h : H) (x : α), hs2[i]? = some h → ys[i]? = some x → sub x = [] ∨ (sl h).ownBlock ≠ v.ownBlock)
    (hown : W'.ownsRow base e k v' (hs ++ hs2).length ((hs ++ hs2).flatMap encH)) (hg : W.grownBy W' v.ownBlock) (hat : v'.ownBlock = v.ownBlock ∨ v'.ownBlock = some W.heap.size) : OwnN base e k encH sl tag k2 enc2 sub W' v' (xs ++ ys) := by
  have far : ∀ {h : H} {x : α}, Rd k2 enc2 W (sl h) (sub x) → (sub x = [] ∨ (sl h).ownBlock ≠ v.ownBlock) → sub x = [] ∨ (sl h).ownBlock ≠ v'.ownBlock := fun {h x} hr hx => by
    rcases hx with hx | hx
    · exact .inl hx
    rcases hr.blk_lt with h0 | ⟨b, hb, hlt⟩
    · exact .inl h0
    · right
      rcases hat with h1 | h1
      · rw [h1]; exact hx
      · rw [h1, hb]; intro e; injection e with e; omega
  have hget : ∀ i h' x', (hs ++ hs2)[i]? = some h' → (xs ++ ys)[i]? = some x' → tag h' x' ∧ Rd k2 enc2 W (sl h') (sub x') ∧ (sub x' = [] ∨ (sl h').ownBlock ≠ v.ownBlock) := fun i h' x' h1 h2 => by
    rcases Nat.lt_or_ge i hs.length with hlt | hge
    · rw [List.getElem?_append_left hlt] at h1
      rw [List.getElem?_append_left (by rw [← hn.1]; exact hlt)] at h2
      exact ⟨(hn.2 i h' x' h1 h2).1, (hn.2 i h' x' h1 h2).2, hap i h' x' h1 h2⟩
    · rw [List.getElem?_append_right hge] at h1
      rw [List.getElem?_append_right (by rw [← hn.1]; exact hge), ← hn.1] at h2
      exact ⟨(hn2.2 _ h' x' h1 h2).1, (hn2.2 _ h' x' h1 h2).2, hap2 _ h' x' h1 h2⟩
  exact ⟨hs ++ hs2, hown, ⟨by simp [hn.1, hn2.1], fun i p y hp hy => ⟨(hget i p y hp hy).1, (hget i p y hp hy).2.1.grown hg (hget i p y hp hy).2.2⟩⟩, fun i p y hp hy => far (hget i p y hp hy).2.1 (hget i p y hp hy).2.2⟩
end
end Go.Proofs.YtneelidbgigehaaGreat

/- Lists of tracks in memory. -/
namespace Go.Proofs.YtneelidbgigehaaGreat
set_option linter.unusedSimpArgs false
set_option linter.unusedVariables false
set_option maxRecDepth 100000
open Go.ChangeShapes Go.WideShapes Go.ChangeAt Go.RowKit Go.Joins Trk
/-- a track as it lies in memory -/
abbrev TrH := (Int × Bool) × (Option Addr × Nat × Nat)
def tsl (h : TrH) : Value := .slice h.2.1 h.2.2.1 h.2.2.2
def encTr (h : TrH) : List Value := [.int .i64 h.1.1, .bool h.1.2, tsl h]
theorem encTr_len (h : TrH) : (encTr h).length = 3 := rfl
theorem oneTr : OneC encTr := fun x u hu => by simp [encTr, tsl] at hu; rcases hu with rfl | rfl | rfl <;> rfl
def ttag (h : TrH) (t : Tr) : Prop := h.1 = t.1
theorem infoTr : (Tryz.prog.info? 72).map (fun i => (i.zero, i.size, i.bytes)) = some (some (.agg #[.int .i64 0, .bool false, .slice none 0 0]), 3, 40) := by kernel_rfl
abbrev RdTrs (W : World) (v : Value) (l : List Tr) : Prop := RdN 3 encTr tsl ttag 2 encPt (fun t : Tr => t.2) W v l
abbrev OwnTrs (base : Nat) (W : World) (v : Value) (l : List Tr) : Prop := OwnN base 72 3 encTr tsl ttag 2 encPt (fun t : Tr => t.2) W v l
abbrev OwnTL (base B : Nat) (W : World) (v : Value) (hs : List TrH) (h : TrH) (E : List Tr) (x : Tr) : Prop := OwnL base B 72 47 3 encTr tsl ttag 2 encPt (fun t : Tr => t.2) W v hs h E x
def encB (b : Bool) : List Value := [.bool b]
theorem encB_len (b : Bool) : (encB b).length = 1 := rfl
theorem infoB : (Tryz.prog.info? 4).map (fun i => (i.zero, i.size, i.bytes)) = some (some (.bool false), 1, 1) := by kernel_rfl
/-- the slices of the tracks lie from block base on -/
def LowH (base : Nat) (hs : List TrH) (xs : List Tr) : Prop := ∀ (i : Nat) (p : TrH) (y : Tr), hs[i]? = some p → xs[i]? = some y → y.2 = [] ∨ ∀ b, (tsl p).ownBlock = some b → base ≤ b
def OwnLow (base : Nat) (W : World) (u : Value) (xs : List Tr) : Prop := ∃ hs : List TrH, W.ownsRow base 72 3 u hs.length (hs.flatMap encTr) ∧ NestAt tsl ttag 2 encPt (fun t : Tr => t.2) W hs xs ∧
  (∀ (i : Nat) (h : TrH) (x : Tr), hs[i]? = some h → xs[i]? = some x → x.2 = [] ∨ (tsl h).ownBlock ≠ u.ownBlock) ∧ LowH base hs xs
theorem OwnLow.own {base : Nat} {W : World} {u : Value} {xs : List Tr} (h : OwnLow base W u xs) : OwnTrs base W u xs := by
  obtain ⟨hs, h1, h2, h3, _⟩ := h; exact ⟨hs, h1, h2, h3⟩
theorem OwnLow.base_ {base base' : Nat} {W : World} {u : Value} {xs : List Tr} (h : OwnLow base W u xs) (hb : base' ≤ base) : OwnLow base' W u xs := by
  obtain ⟨hs, h1, h2, h3, h4⟩ := h
  exact ⟨hs, own_base h1 hb, h2, h3, fun i p y hp hy => (h4 i p y hp hy).imp id (fun h b hb' => Nat.le_trans hb (h b hb'))⟩
/-- tracks built, the last one open -/
def PcsAt (base : Nat) (W : World) (u : Value) (xs : List Tr) : Prop :=
  (xs = [] ∧ u = .slice none 0 0) ∨ ∃ E x hs h B, xs = E ++ [x] ∧ OwnTL base B W u hs h E x ∧ LowH base hs E
theorem PcsAt.below {base : Nat} {W W' : World} {u : Value} {xs : List Tr} (h : PcsAt base W u xs) (hb : Below W.heap.size W W') : PcsAt base W' u xs := by
  rcases h with h | ⟨E, x, hs, h, B, h1, h2, h3⟩
  · exact .inl h
  · exact .inr ⟨E, x, hs, h, B, h1, h2.below hb, h3⟩
theorem PcsAt.low {base : Nat} {W : World} {u : Value} {xs : List Tr} (h : PcsAt base W u xs) : OwnLow base W u xs := by
  rcases h with ⟨rfl, rfl⟩ | ⟨E, x, hs, h, B, rfl, h2, h3⟩
  · exact ⟨[], World.ownsRow_nil _ _ _ _, ⟨rfl, fun i h x hh => by simp at hh⟩, fun i h x hh => by simp at hh, fun i h x hh => by simp at hh⟩
  · obtain ⟨c1, c2, c3⟩ := h2.closeH encPt_len (by decide)
    refine ⟨hs ++ [h], c1, c2, c3, fun i p y hp hy => ?_⟩
    rcases Nat.lt_or_ge i hs.length with hlt | hge
    · rw [List.getElem?_append_left hlt] at hp
      rw [List.getElem?_append_left (by rw [← h2.nest.1]; exact hlt)] at hy
      exact h3 i p y hp hy
    · rw [List.getElem?_append_right hge] at hp
      have e0 : i - hs.length = 0 := by
        rcases Nat.eq_zero_or_pos (i - hs.length) with h0 | h0
        · exact h0
        · rw [List.getElem?_eq_none (by simp; omega)] at hp; cases hp
      rw [e0] at hp
      have hp : h = p := by simpa using hp
      subst hp
      right
      exact fun b hb => Nat.le_trans h2.low (h2.inner.lt b hb).1
theorem PcsAt.own {base : Nat} {W : World} {u : Value} {xs : List Tr} (h : PcsAt base W u xs) : OwnTrs base W u xs := h.low.own
theorem trks_each {W : World} {b off : Nat} {l : List Tr}
    (h : ∀ (i : Nat) (x : Tr), l[i]? = some x → ∃ h : TrH, ttag h x ∧ Rd 2 encPt W (tsl h) x.2 ∧ ∀ (j : Nat) (u : Value), (encTr h)[j]? = some u → W.cell? ⟨b, off + i * 3 + j, none⟩ = some u) :
    ∀ (i : Nat) (t : Tr), l[i]? = some t → ∃ (S : Option Addr) (c : Nat), W.cell? ⟨b, off + i * 3, none⟩ = some (.int .i64 t.1.1) ∧ W.cell? ⟨b, off + i * 3 + 1, none⟩ = some (.bool t.1.2) ∧ W.cell? ⟨b, off + i * 3 + 2, none⟩ = some (.slice S t.2.length c) ∧ t.2.length ≤ c ∧ Rd 2 encPt W (.slice S t.2.length c) t.2 := by
  intro i t ht
  obtain ⟨⟨⟨r, cl⟩, S, n, c⟩, h1, hr, hc⟩ := h i t ht
  obtain ⟨S', c', e, hle, _⟩ := hr.open_
  have e9 : (r, cl) = t.1 := h1
  unfold tsl at e hr
  injection e with e1 e2 e3
  simp only at e1 e2 e3 hr
  subst e1 e2 e3
  refine ⟨S, c, ?_, ?_, ?_, hle, hr⟩
  · have := hc 0 _ rfl; rw [← e9]; exact this
  · have := hc 1 _ rfl; rw [← e9]; exact this
  · exact hc 2 _ rfl
theorem trks_open {W : World} {s : Value} {l : List Tr} (h : RdTrs W s l) : ∃ (A : Option Addr) (cap : Nat), s = .slice A l.length cap ∧ l.length ≤ cap ∧
    ∀ (i : Nat) (t : Tr), l[i]? = some t → ∃ b off, A = some ⟨b, off, none⟩ ∧ b < W.heap.size ∧
      ∀ (i : Nat) (t : Tr), l[i]? = some t → ∃ (S : Option Addr) (c : Nat), W.cell? ⟨b, off + i * 3, none⟩ = some (.int .i64 t.1.1) ∧ W.cell? ⟨b, off + i * 3 + 1, none⟩ = some (.bool t.1.2) ∧ W.cell? ⟨b, off + i * 3 + 2, none⟩ = some (.slice S t.2.length c) ∧ t.2.length ≤ c ∧ Rd 2 encPt W (.slice S t.2.length c) t.2 := by
  obtain ⟨A, cap, hv, hc, ho⟩ := RdN.open_ h
  refine ⟨A, cap, hv, hc, fun i w hw => ?_⟩
  obtain ⟨b, off, hA, hb, hcell⟩ := ho i w hw
  exact ⟨b, off, hA, hb, trks_each hcell⟩
/-- behind an append of a new track with no cells -/
theorem OwnTrs.push0 {base : Nat} {W W' : World} {u u' : Value} {xs : List Tr} {hs : List TrH} {r : Int} (hn : NestAt tsl ttag 2 encPt (fun t : Tr => t.2) W hs xs)
    (hap : ∀ (i : Nat) (h : TrH) (x : Tr), hs[i]? = some h → xs[i]? = some x → x.2 = [] ∨ (tsl h).ownBlock ≠ u.ownBlock)
    (hown : W'.ownsRow base 72 3 u' (hs ++ [((r, false), (none, 0, 0))]).length ((hs ++ [((r, false), (none, 0, 0))]).flatMap encTr)) (hg : W.grownBy W' u.ownBlock) (hat : u'.ownBlock = u.ownBlock ∨ u'.ownBlock = some W.heap.size) (hb : base ≤ W.heap.size) :
    OwnTL base W.heap.size W' u' hs ((r, false), (none, 0, 0)) xs ((r, false), []) :=
  OwnN.push hs hn hn (Nat.le_refl _) hb hg.size hap hown hg hat rfl (World.ownsRow_nil _ _ _ _)
theorem OwnN.base_ {H α β : Type} {k k2 : Nat} {encH : H → List Value} {sl : H → Value} {tag : H → α → Prop} {enc2 : β → List Value} {sub : α → List β} {base base' : Nat} {e : TypeId} {W : World} {v : Value} {xs : List α} (h : OwnN base e k encH sl tag k2 enc2 sub W v xs) (hb : base' ≤ base) : OwnN base' e k encH sl tag k2 enc2 sub W v xs := by
  obtain ⟨hs, h1, h2, h3⟩ := h
  exact ⟨hs, own_base h1 hb, h2, h3⟩
end Go.Proofs.YtneelidbgigehaaGreat
