/- Regions built up row by row. (joined: RegKit2 RegKit3) -/
import Derived.Test.YtneelidbgigehaaGreatRegKit
import Derived.Test.YtneelidbgigehaaGreatRegWalks2
import Derived.Test.YtneelidbgigehaaGreatRunsA
/- Regions built up row by row. -/
namespace Go.Proofs.YtneelidbgigehaaGreat
set_option linter.unusedSimpArgs false
set_option linter.unusedVariables false
open Go.RowKit Runs Reg
attribute [local go_sem] Kin.cell Kin.frozen Kin.lt0 Kin.lt1 Kin.lt2 Kin.lt3 run_mkf
theorem infoRow : (Tryz.prog.info? 44).map (fun i => (i.zero, i.size, i.bytes)) = some (some (.agg #[.int .i64 0, .slice none 0 0]), 2, 32) := by kernel_rfl
/-- the rows of a region that the call has built -/
abbrev OwnRows (base : Nat) (W : World) (v : Value) (rows : List Reg.Row) : Prop := OwnN base 44 2 encRow rsl rtag 2 encRun (fun w : Reg.Row => w.2) W v rows
theorem OwnRows.reg {base : Nat} {W : World} {v : Value} {rows : List Reg.Row} (h : OwnRows base W v rows) : RdReg W (.agg #[v]) rows := ⟨v, rfl, OwnN.rd encRow_len h⟩
theorem own_slice {W : World} {base n size : Nat} {e : TypeId} {v : Value} {xs : List Value} (h : W.ownsRow base e size v n xs) : ∃ (A : Option Addr) (m cap : Nat), v = .slice A m cap := by
  rcases h.2 with ⟨rfl, _⟩ | ⟨g, cap, cur, rfl, _⟩
  · exact ⟨none, 0, 0, rfl⟩
  · exact ⟨_, _, _, rfl⟩
theorem rows_op {W : World} {A : Option Addr} {n cap : Nat} {rows : List Reg.Row} (h : RdRows W (.slice A n cap) rows) :
    ∀ (i : Nat) (w : Reg.Row), rows[i]? = some w → ∃ b off, A = some ⟨b, off, none⟩ ∧ b < W.heap.size ∧
      ∀ (i : Nat) (w : Reg.Row), rows[i]? = some w → ∃ (S : Option Addr) (c : Nat), W.cell? ⟨b, off + i * 2, none⟩ = some (.int .i64 w.1) ∧ W.cell? ⟨b, off + i * 2 + 1, none⟩ = some (.slice S w.2.length c) ∧ w.2.length ≤ c ∧ Rd 2 encRun W (.slice S w.2.length c) w.2 := by
  obtain ⟨A', cap', e, _, ho⟩ := rows_open h
  injection e with e1 e2 e3
  subst e1
  exact ho
theorem run_idx0 (x y : Value) (w : World) : (Instr.index 164 (.agg #[x, y]) (.int .i64 0)).run Tryz.prog w = .ok (.agg #[x]) w := by
  have h : Tryz.prog.underlying 164 = some (.array 2 24) := by kernel_rfl
  simp [Instr.index, run_underlying h, asIntOf, go_sem, part]
theorem run_idx1 (x y : Value) (w : World) : (Instr.index 164 (.agg #[x, y]) (.int .i64 1)).run Tryz.prog w = .ok (.agg #[y]) w := by
  have h : Tryz.prog.underlying 164 = some (.array 2 24) := by kernel_rfl
  simp [Instr.index, run_underlying h, asIntOf, go_sem, part]
theorem Kin.boxes2 {w : World} {c1 c2 : Array Value} {t1 t2 : TypeId} (z : Kin ((w.alloc (.cells c1 t1)).alloc (.cells c2 t2))) : Blk z.1 w.heap.size t1 c1 ∧ Blk z.1 (w.heap.size + 1) t2 c2 := by
  refine ⟨((Blk.new w t1 c1).below (Below.alloc (Below.refl _ _) (Nat.le_refl _) _)).below z.2, ?_⟩
  have := Blk.new (w.alloc (.cells c1 t1)) t2 c2
  rw [World.size_alloc] at this
  exact this.below z.2
theorem Kin.boxes3 {w : World} {c1 c2 c3 : Array Value} {t1 t2 t3 : TypeId} (z : Kin (((w.alloc (.cells c1 t1)).alloc (.cells c2 t2)).alloc (.cells c3 t3))) : Blk z.1 w.heap.size t1 c1 ∧ Blk z.1 (w.heap.size + 1) t2 c2 ∧ Blk z.1 (w.heap.size + 2) t3 c3 := by
  have h12 := Kin.boxes2 (⟨_, Below.refl _ _⟩ : Kin ((w.alloc (.cells c1 t1)).alloc (.cells c2 t2)))
  have hb : Below ((w.alloc (.cells c1 t1)).alloc (.cells c2 t2)).heap.size ((w.alloc (.cells c1 t1)).alloc (.cells c2 t2)) (((w.alloc (.cells c1 t1)).alloc (.cells c2 t2)).alloc (.cells c3 t3)) := Below.alloc (Below.refl _ _) (Nat.le_refl _) _
  refine ⟨(h12.1.below hb).below z.2, (h12.2.below hb).below z.2, ?_⟩
  have := Blk.new ((w.alloc (.cells c1 t1)).alloc (.cells c2 t2)) t3 c3
  rw [World.size_alloc, World.size_alloc] at this
  exact this.below z.2
/-- runs lie in another block than a cell that holds a slice -/
theorem runs_far {W : World} {v : Value} {l : List Run} {p : Nat} {t : TypeId} {A : Option Addr} {n c : Nat} (h : Rd 2 encRun W v l) (hB : Blk W p t #[.slice A n c]) : l = [] ∨ v.ownBlock ≠ some p := by
  obtain ⟨A', cap, rfl, _, h⟩ := h
  rcases h with h | ⟨b, off, rfl, hlt, hcell⟩
  · exact .inl h
  rcases l with _ | ⟨r, l⟩
  · exact .inl rfl
  right
  intro e
  have e : b = p := by simpa [Value.ownBlock] using e
  subst e
  have h0 := hcell 0 r rfl 0 _ rfl
  rw [hB.cell] at h0
  generalize off + 0 * 2 + 0 = k at h0
  match k, h0 with
  | 0, h0 => simp at h0
  | k + 1, h0 => simp at h0
theorem ints_far {W : World} {v : Value} {l : List Int} {p : Nat} {t : TypeId} {A : Option Addr} {n c : Nat} (h : Rd 1 encI W v l) (hB : Blk W p t #[.slice A n c]) : l = [] ∨ v.ownBlock ≠ some p := by
  obtain ⟨A', cap, rfl, _, h⟩ := h
  rcases h with h | ⟨b, off, rfl, hlt, hcell⟩
  · exact .inl h
  rcases l with _ | ⟨r, l⟩
  · exact .inl rfl
  right
  intro e
  have e : b = p := by simpa [Value.ownBlock] using e
  subst e
  have h0 := hcell 0 r rfl 0 _ rfl
  rw [hB.cell] at h0
  generalize off + 0 * 1 + 0 = k at h0
  match k, h0 with
  | 0, h0 => simp at h0
  | k + 1, h0 => simp at h0
theorem grownBy_below2 {w5 a b : World} {p : Nat} (h : w5.grownBy a (some p)) (hb : Below w5.heap.size a b) : w5.grownBy b (some p) :=
  ⟨hb.os.trans h.os, hb.tape.trans h.tape, hb.output.trans h.output, Nat.le_trans h.size hb.size, fun k hk hr => (hb.block k hk).trans (h.block k hk hr)⟩
/-- a list of ints that the call owns -/
def OwnI (base : Nat) (W : World) (v : Value) (l : List Int) : Prop := W.ownsRow base 3 1 v l.length (l.flatMap encI)
theorem OwnI.own {base : Nat} {W : World} {v : Value} {l : List Int} (h : OwnI base W v l) : W.ownsRow base 3 1 v l.length (l.flatMap encI) := h
theorem OwnI.alloc {base : Nat} {W : World} {v : Value} {l : List Int} (h : OwnI base W v l) (o : Obj) : OwnI base (W.alloc o) v l := h.own.alloc o
theorem OwnI.nil {base : Nat} {W : World} : OwnI base W (.slice none 0 0) [] := World.ownsRow_nil _ _ _ _
theorem OwnI.snoc {base : Nat} {W : World} {v : Value} {l : List Int} {x : Int} (h : W.ownsRow base 3 1 v (l ++ [x]).length ((l ++ [x]).flatMap encI)) : OwnI base W v (l ++ [x]) := h
theorem take_map_succ {α β : Type} {l : List α} {f : α → β} {j : Nat} {r : α} (h : l[j]? = some r) : (l.map f).take (j + 1) = (l.map f).take j ++ [f r] := by
  rw [List.take_add_one, List.getElem?_map, h]; rfl
/-- behind a store into a block of another kind -/
theorem OwnRows.set_ {base : Nat} {W : World} {v : Value} {rows : List Reg.Row} {p : Nat} {t : TypeId} {A : Option Addr} {n c i : Nat} {u : Value} (h : OwnRows base W v rows) (hB : Blk W p t #[.slice A n c]) (hne : 44 ≠ t) : OwnRows base (W.setCell ⟨p, i, none⟩ u) v rows := by
  obtain ⟨hs, h1, h2, h3⟩ := h
  have hg : W.grownBy (W.setCell ⟨p, i, none⟩ u) (some p) := grownBy_set u
  refine ⟨hs, own_grownBy h1 hg (own_ne h1 hB hne), ⟨h2.1, fun j y x hy hx => ⟨(h2.2 j y x hy hx).1, (h2.2 j y x hy hx).2.grown hg (runs_far (h2.2 j y x hy hx).2 hB)⟩⟩, h3⟩
/-- the head of a row -/
def hd (y : Int) (A : Option Addr) (n cap : Nat) : RowH := (y, A, n, cap)
/-- a row is appended to the rows of a region in a variable -/
theorem OwnRows.push {base p : Nat} {Wn w1 : World} {S S' : Value} {rows : List Reg.Row} {hs : List RowH} {y : Int} {A : Option Addr} {n cap : Nat} {l : List Run}
    (hown : Wn.ownsRow base 44 2 S hs.length (hs.flatMap encRow)) (hnest : NestAt rsl rtag 2 encRun (fun w : Reg.Row => w.2) Wn hs rows) (hap : ∀ (i : Nat) (h : RowH) (x : Reg.Row), hs[i]? = some h → rows[i]? = some x → x.2 = [] ∨ (rsl h).ownBlock ≠ S.ownBlock)
    (hown' : w1.ownsRow base 44 2 S' (hs ++ [hd y A n cap]).length ((hs ++ [hd y A n cap]).flatMap encRow)) (hg : Wn.grownBy w1 S.ownBlock) (hat : S'.ownBlock = S.ownBlock ∨ S'.ownBlock = some Wn.heap.size)
    (hr : Rd 2 encRun Wn (.slice A n cap) l) (hf : l = [] ∨ (Value.slice A n cap).ownBlock ≠ S.ownBlock) (hP : Blk Wn p 24 #[S]) :
    OwnRows base (w1.setCell ⟨p, 0, none⟩ S') S' (rows ++ [(y, l)]) ∧ Blk (w1.setCell ⟨p, 0, none⟩ S') p 24 #[S'] := by
  obtain ⟨A1, n1, c1, rfl⟩ := own_slice hown
  have hP1 : Blk w1 p 24 #[.slice A1 n1 c1] := hP.grown hg (Ne.symm (own_ne hown hP (by decide)))
  have hN : OwnRows base w1 S' (rows ++ [(y, l)]) := OwnN.snoc hnest hap hown' hg hat rfl hr hf
  exact ⟨hN.set_ hP1 (by decide), hP1.set_ 0 S'⟩
theorem own_fresh {W : World} {base n size : Nat} {e : TypeId} {v : Value} {xs : List Value} (h : W.ownsRow base e size v n xs) {v2 : Value} (hlt : ∀ b, v2.ownBlock = some b → b < base) : n = 0 ∨ v.ownBlock ≠ v2.ownBlock := by
  rcases h.2 with ⟨rfl, h0⟩ | ⟨g, cap, cur, rfl, hg, _⟩
  · exact .inl h0
  · right
    intro e
    have := hlt g (by rw [← e]; rfl)
    omega
theorem run_eql_nil (a : Option Addr) (l c : Nat) (w : World) : (binOp .eql 42 (.slice a l c) (.slice none 0 0)).run Tryz.prog w = .ok (.bool a.isNone) w := by
  have h : Tryz.prog.underlying 42 = some (.slice 69) := by kernel_rfl
  simp only [binOp]
  simp [run_equal_slice_nil w _ _ a l c h]
set_option maxRecDepth 100000 in
set_option maxHeartbeats 4000000 in
theorem clone_any (v : Value) (l : List Run) (w : World) (h : Rd 2 encRun w v l) (hlen : l.length ≤ 1099511627776) :
    Calls Tryz.prog 111 #[v] w fun e w' => (∃ u, e = .returned u ∧ w'.ownsRow w.heap.size 69 2 u l.length (l.flatMap encRun)) ∧ Below w.heap.size w w' := by
  obtain ⟨A, capA, rfl, hcapA, hopA⟩ := h.open_
  have HA := Lib.hid hopA
  have HLA := Lib.hid h
  clear hopA h
  have hnl := run_eql_nil
  cases A with
  | none =>
    have hl : l = [] := by
      rcases l with _ | ⟨r, l⟩
      · rfl
      · obtain ⟨b, off, e, _⟩ := HA.out 0 r rfl
        cases e
    subst hl
    go_enter Tryz.func111, Tryz.ntmps111
    go_wp2
    go_ret
    exact ⟨⟨_, rfl, World.ownsRow_nil _ _ _ _⟩, (by repeat (first | with_reducible (first | exact blA | exact blB | refine blC _ ?_ | refine blD ?_ ?_ _ | refine blE ?_ | refine blF _ ?_ | refine blG ?_ _ | refine blH ?_ | refine blI ?_ ?_ _) | (simp only [World.size_alloc]; omega) | (simp <;> omega)))⟩
  | some p =>
    go_enter Tryz.func111, Tryz.ntmps111
    go_wp2_with (at_builtin; refine wpList_app _ rfl _ _ 42 rfl encRun_len (by decide) oneR w.heap.size 69 (.agg #[.int .i64 0, .int .i64 0]) 16 infoRun rfl Tryz.underlying42 _ _ _ _ rfl (own_made w encRun_len w.heap.size _ [] #[] rfl (Nat.le_refl _) (by decide)) _ _ _ rfl (HLA.out.below (by repeat (first | with_reducible (first | exact blA | exact blB | refine blC _ ?_ | refine blD ?_ ?_ _ | refine blE ?_ | refine blF _ ?_ | refine blG ?_ _ | refine blH ?_ | refine blI ?_ ?_ _) | (simp only [World.size_alloc]; omega) | (simp <;> omega)))) ?c1 (by decide) ?c2 ?_; (case c1 => (first | (simp only [List.length_append, List.length_cons, List.length_nil]; omega) | omega | (simp; omega))); (case c2 => exact (by repeat (first | with_reducible exact Nat.le_refl _ | assumption | with_reducible refine le_alloc ?_ _ | with_reducible refine le_drew ?_ | with_reducible refine Kin.le _ ?_ | assumption | omega | (simp only [World.size_alloc]; omega)))); intro v' w1 hown' hg hbel hat'; (obtain ⟨y, rfl⟩ : ∃ y : Kin w, y.1 = w1 := ⟨⟨w1, Below.trans (by repeat (first | with_reducible (first | exact blA | exact blB | refine blC _ ?_ | refine blD ?_ ?_ _ | refine blE ?_ | refine blF _ ?_ | refine blG ?_ _ | refine blH ?_ | refine blI ?_ ?_ _) | (simp only [World.size_alloc]; omega) | (simp <;> omega))) hbel⟩, rfl⟩); clear hbel hg hat')
    go_ret
    exact ⟨⟨_, rfl, by simpa using hown'⟩, (by repeat (first | with_reducible (first | exact blA | exact blB | refine blC _ ?_ | refine blD ?_ ?_ _ | refine blE ?_ | refine blF _ ?_ | refine blG ?_ _ | refine blH ?_ | refine blI ?_ ?_ _) | (simp only [World.size_alloc]; omega) | (simp <;> omega)))⟩
end Go.Proofs.YtneelidbgigehaaGreat
/- Regions behind a store into a variable. -/
namespace Go.Proofs.YtneelidbgigehaaGreat
set_option linter.unusedSimpArgs false
set_option linter.unusedVariables false
open Go.RowKit Runs Reg
theorem heads_far {W : World} {v : Value} {hs : List RowH} {p : Nat} {t : TypeId} {A : Option Addr} {n c : Nat} (h : Rd 2 encRow W v hs) (hB : Blk W p t #[.slice A n c]) : hs = [] ∨ v.ownBlock ≠ some p := by
  obtain ⟨A', cap, rfl, _, h⟩ := h
  rcases h with h | ⟨b, off, rfl, hlt, hcell⟩
  · exact .inl h
  rcases hs with _ | ⟨r, l⟩
  · exact .inl rfl
  right
  intro e
  have e : b = p := by simpa [Value.ownBlock] using e
  subst e
  have h0 := hcell 0 r rfl 0 _ rfl
  rw [hB.cell] at h0
  generalize off + 0 * 2 + 0 = k at h0
  match k, h0 with
  | 0, h0 => simp at h0
  | k + 1, h0 => simp at h0
theorem RdRows.grown_ {W W' : World} {s : Value} {rows : List Reg.Row} {p : Nat} {t : TypeId} {A : Option Addr} {n c : Nat} (h : RdRows W s rows) (hB : Blk W p t #[.slice A n c]) (hg : W.grownBy W' (some p)) : RdRows W' s rows := by
  obtain ⟨hs, h1, h2⟩ := h
  exact ⟨hs, h1.grown hg (heads_far h1 hB), h2.1, fun j y x hy hx => ⟨(h2.2 j y x hy hx).1, (h2.2 j y x hy hx).2.grown hg (runs_far (h2.2 j y x hy hx).2 hB)⟩⟩
theorem RdReg.set_ {W : World} {v : Value} {rows : List Reg.Row} {p i : Nat} {t : TypeId} {A : Option Addr} {n c : Nat} {u : Value} (h : RdReg W v rows) (hB : Blk W p t #[.slice A n c]) : RdReg (W.setCell ⟨p, i, none⟩ u) v rows := by
  obtain ⟨s, rfl, h⟩ := h
  exact ⟨s, rfl, h.grown_ hB (grownBy_set u)⟩
theorem RdReg.slice_ {W : World} {v : Value} {rows : List Reg.Row} (h : RdReg W v rows) : ∃ (A : Option Addr) (cap : Nat), v = .agg #[.slice A rows.length cap] := by
  obtain ⟨s, rfl, h⟩ := h
  obtain ⟨A, cap, rfl, _⟩ := rows_open h
  exact ⟨A, cap, rfl⟩
end Go.Proofs.YtneelidbgigehaaGreat
