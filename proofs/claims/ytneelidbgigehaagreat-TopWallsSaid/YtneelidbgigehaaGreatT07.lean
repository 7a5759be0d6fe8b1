/- Lemmas: RegCount RegKitA RegCells SortOwn. -/
import Derived.Shelf.SlSortCmp.WholeK
import Derived.Shelf.SlSortCmp.NoneTotal
import Derived.Sort.OwnSorted
import Derived.Test.YtneelidbgigehaaGreatT05
import Derived.Test.YtneelidbgigehaaGreatT06
import Derived.Test.YtneelidbgigehaaGreatT01
/- Counting the cells of regions. -/
namespace Go.Proofs.YtneelidbgigehaaGreat
set_option linter.unusedSimpArgs false
set_option linter.unusedVariables false
open Go.RowKit Runs Reg
attribute [local go_sem] Kin.cell Kin.frozen Kin.lt0 Kin.lt1 Kin.lt2 Kin.lt3 run_mkf
set_option maxRecDepth 100000 in
set_option maxHeartbeats 8000000 in
theorem count18_any (v : Value) (rows : List Reg.Row) (w : World) (h : RdReg w v rows) (hbd : RBd rows) :
    Calls Tryz.prog 18 #[v] w fun e w' => e = .returned (.int .i64 (cntR rows)) ∧ Below w.heap.size w w' := by
  have H := Lib.hid h
  have Hbd := Lib.hid hbd
  obtain ⟨s, rfl, h⟩ := h
  obtain ⟨A, capA, rfl, hcapA, hopA⟩ := rows_open h
  have HA := Lib.hid hopA
  have HLA := Lib.hid h
  clear hopA h
  clear hbd
  cases hv : rvalid rows
  · go_enter Tryz.func18, Tryz.ntmps18
    go_wp2_with (go_at_call 5; (with_reducible refine (Kin.callK (W := w) gRw (valid18_is _ rows _ (H.out.below gRw) Hbd.out hv)).mono ?_); rintro e w' ⟨z, rfl, hz, rfl⟩)
    go_ret
    exact ⟨ret_int (by simp [cntR, hv]), gRw⟩
  · have hlen : rows.length ≤ 8192 := (vreg_len (rvalid_iff.1 hv)).1
    have HV := Lib.hid (rvalid_iff.1 hv)
    go_enter Tryz.func18, Tryz.ntmps18
    go_wp2_with (go_at_call 5; (with_reducible refine (Kin.callK (W := w.alloc (.cells #[.slice A rows.length capA] 24)) gRw (valid18_is _ rows _ (H.out.below gRw) Hbd.out hv)).mono ?_); rintro e w' ⟨z, rfl, hz, rfl⟩)
    go_loopw [3, 4] (fun n i wr => ∃ k : Nat, k ≤ rows.length ∧ i = .int .i64 k ∧ n = .int .i64 (sumR (rows.take k)) ∧ ∃ z : Kin (w.alloc (.cells #[.slice A rows.length capA] 24)), z.1 = wr) (fun _ i _ => rows.length - (intOf i).toNat)
    case atStart => exact ⟨0, Nat.zero_le _, rfl, rfl, z, rfl⟩
    case round =>
      obtain ⟨k, hk, rfl, rfl, z, rfl⟩ := hrel
      have hsum := sumR_bd HV.out k hk
      by_cases hlt : k < rows.length
      · obtain ⟨r, hr⟩ : ∃ el_, (rows)[k]? = some el_ := ⟨_, List.getElem?_eq_getElem (by first | exact hlt | omega)⟩
        obtain ⟨bA, offA, ⟨⟩, hbA, hcA⟩ := HA.out (k) _ hr
        have hbA2 : bA < w.heap.size + 1 := by omega
        have HAc := Lib.hid hcA
        clear hcA
        obtain ⟨S, capS, r_0, r_1, hcapS, hrS⟩ := HAc.out (k) r hr
        have HLS := Lib.hid hrS
        have Hr := Lib.hid hr
        clear hr hrS
        have hin : SepIn r.2 := (fine_sepIn.1 (HV.out.1 r (List.mem_of_getElem? Hr.out)).2).1
        have hll := sepIn_len hin
        have HIN := Lib.hid hin
        have HS := Lib.hid (Rd.op HLS.out)
        have HLS := Lib.hid HLS.out
        clear hin
        go_wp2
        go_loopw [3, 5] (fun n i wr => ∃ j : Nat, j ≤ r.2.length ∧ i = .int .i64 j ∧ n = .int .i64 (sumR (rows.take k) + sumL (r.2.take j)) ∧ ∃ z : Kin (w.alloc (.cells #[.slice (some ⟨bA, offA, none⟩) rows.length capA] 24)), z.1 = wr) (fun _ i _ => r.2.length - (intOf i).toNat)
        case atStart => exact ⟨0, Nat.zero_le _, rfl, by simp [sumL], z, rfl⟩
        case round =>
          obtain ⟨j, hj, rfl, rfl, z2, rfl⟩ := hrel
          have hs2 := sumL_in (sepIn_take HIN.out j)
          by_cases hlt2 : j < r.2.length
          · obtain ⟨e, he⟩ : ∃ el_, (r.2)[j]? = some el_ := ⟨_, List.getElem?_eq_getElem (by first | exact hlt2 | omega)⟩
            obtain ⟨bS, offS, rfl, hbS, hcS⟩ := HS.out (j) _ he
            have e_0 : w.cell? ⟨bS, offS + j * 2, none⟩ = some (.int .i64 e.1) := by exact hcS (j) _ he 0 _ rfl
            have e_1 : w.cell? ⟨bS, offS + j * 2 + 1, none⟩ = some (.int .i64 e.2) := by exact hcS (j) _ he 1 _ rfl
            have hbS2 : bS < w.heap.size + 1 := by omega
            have HSc := Lib.hid hcS
            have He := Lib.hid he
            clear he hcS
            have hs3 := sumL_in (sepIn_take HIN.out (j + 1))
            rw [sumL_succ He.out] at hs3
            have hei := HIN.out.2 e (List.mem_of_getElem? He.out)
            have hw1 : IntKind.i64.wrap (e.2 - e.1) = e.2 - e.1 := IntWalk.i64_in _ (by have := HIN.out.1.1 e (List.mem_of_getElem? He.out); omega)
            have hw2 : IntKind.i64.wrap (sumR (rows.take k) + sumL (r.2.take j) + (e.2 - e.1)) = sumR (rows.take k) + sumL (r.2.take j) + (e.2 - e.1) := IntWalk.i64_in _ (by omega)
            go_wp2
            ((refine wp_region_kinK (W := w.alloc (.cells #[.slice (some ⟨bA, offA, none⟩) rows.length capA] 24)) (by kernel_rfl) (by kernel_rfl) gRw ?_); (repeat' (first | go_big_quiet_step (fail) | ((refine wpQuiet_guard rfl rfl rfl rfl (fun hg => ?_) (fun hg => ?_)) <;> (fail_if_success (first | guard_hyp hg : true = true | guard_hyp hg : false = false)) <;> (try simp only [decide_eq_true_eq, decide_eq_false_iff_not] at hg) <;> simp only [Act.put, List.setIfInBounds_toArray, List.set_cons_zero, List.set_cons_succ]))); all_goals ((with_reducible refine wpQuiet_nil ?_); intro zq hz))
            go_wp2
            go_roundw
            case rel => exact ⟨j + 1, by omega, by go_num, by rw [sumL_succ He.out, Int.add_assoc], zq, rfl⟩
            case measure => simp [intOf]; omega
          · have ej : j = r.2.length := by omega
            go_wp2
            go_roundw
            case rel => exact ⟨k + 1, by omega, by go_num, by rw [sumR_succ Hr.out, ej, List.take_length], z2, rfl⟩
            case measure => simp [intOf]; omega
      · go_wp2
        go_ret
        have : k = rows.length := by omega
        exact ⟨ret_int (by simp [cntR, hv, this]), gRw⟩
end Go.Proofs.YtneelidbgigehaaGreat

/- Regions built up row by row. (joined: RegKit2 RegKit3) -/
/- Regions built up row by row. -/
namespace Go.Proofs.YtneelidbgigehaaGreat
set_option linter.unusedSimpArgs false
set_option linter.unusedVariables false
open Go.RowKit Runs Reg
attribute [local go_sem] Kin.cell Kin.frozen Kin.lt0 Kin.lt1 Kin.lt2 Kin.lt3 run_mkf
theorem infoRow : (Tryz.prog.info? 44).map (fun i => (i.zero, i.size, i.bytes)) = some (some (.agg #[.int .i64 0, .slice none 0 0]), 2, 32) := by kernel_rfl
/-- the rows of a region that the call has built -/
abbrev OwnRows (base : Nat) (W : World) (v : Value) (rows : List Reg.Row) : Prop := OwnN base 44 2 encRow rsl rtag 2 encRun (fun w : Reg.Row => w.2) W v rows
theorem OwnRows.reg {base : Nat} {W : World} {v : Value} {rows : List Reg.Row} (h : OwnRows base W v rows) : RdReg W (.agg #[v]) rows := ⟨v, rfl, OwnN.rd encRow_len h⟩
theorem own_slice {W : World} {base n size : Nat} {e : TypeId} {v : Value} {xs : List Value} (h : W.ownsRow base e size v n xs) : ∃ (A : Option Addr) (m cap : Nat), v = .slice A m cap := by
  rcases h.2 with ⟨rfl, _⟩ | ⟨g, cap, cur, rfl, _⟩
  · exact ⟨none, 0, 0, rfl⟩
  · exact ⟨_, _, _, rfl⟩
theorem rows_op {W : World} {A : Option Addr} {n cap : Nat} {rows : List Reg.Row} (h : RdRows W (.slice A n cap) rows) :
    ∀ (i : Nat) (w : Reg.Row), rows[i]? = some w → ∃ b off, A = some ⟨b, off, none⟩ ∧ b < W.heap.size ∧
      ∀ (i : Nat) (w : Reg.Row), rows[i]? = some w → ∃ (S : Option Addr) (c : Nat), W.cell? ⟨b, off + i * 2, none⟩ = some (.int .i64 w.1) ∧ W.cell? ⟨b, off + i * 2 + 1, none⟩ = some (.slice S w.2.length c) ∧ w.2.length ≤ c ∧ Rd 2 encRun W (.slice S w.2.length c) w.2 := by
  obtain ⟨A', cap', e, _, ho⟩ := rows_open h
  injection e with e1 e2 e3
  subst e1
  exact ho
theorem run_idx0 (x y : Value) (w : World) : (Instr.index 164 (.agg #[x, y]) (.int .i64 0)).run Tryz.prog w = .ok (.agg #[x]) w := by
  have h : Tryz.prog.underlying 164 = some (.array 2 24) := by kernel_rfl
  simp [Instr.index, run_underlying h, asIntOf, go_sem, part]
theorem run_idx1 (x y : Value) (w : World) : (Instr.index 164 (.agg #[x, y]) (.int .i64 1)).run Tryz.prog w = .ok (.agg #[y]) w := by
  have h : Tryz.prog.underlying 164 = some (.array 2 24) := by kernel_rfl
  simp [Instr.index, run_underlying h, asIntOf, go_sem, part]
theorem Kin.boxes2 {w : World} {c1 c2 : Array Value} {t1 t2 : TypeId} (z : Kin ((w.alloc (.cells c1 t1)).alloc (.cells c2 t2))) : Blk z.1 w.heap.size t1 c1 ∧ Blk z.1 (w.heap.size + 1) t2 c2 := by
  refine ⟨((Blk.new w t1 c1).below (Below.alloc (Below.refl _ _) (Nat.le_refl _) _)).below z.2, ?_⟩
  have := Blk.new (w.alloc (.cells c1 t1)) t2 c2
  rw [World.size_alloc] at this
  exact this.below z.2
theorem Kin.boxes3 {w : World} {c1 c2 c3 : Array Value} {t1 t2 t3 : TypeId} (z : Kin (((w.alloc (.cells c1 t1)).alloc (.cells c2 t2)).alloc (.cells c3 t3))) : Blk z.1 w.heap.size t1 c1 ∧ Blk z.1 (w.heap.size + 1) t2 c2 ∧ Blk z.1 (w.heap.size + 2) t3 c3 := by
  have h12 := Kin.boxes2 (⟨_, Below.refl _ _⟩ : Kin ((w.alloc (.cells c1 t1)).alloc (.cells c2 t2)))
  have hb : Below ((w.alloc (.cells c1 t1)).alloc (.cells c2 t2)).heap.size ((w.alloc (.cells c1 t1)).alloc (.cells c2 t2)) (((w.alloc (.cells c1 t1)).alloc (.cells c2 t2)).alloc (.cells c3 t3)) := Below.alloc (Below.refl _ _) (Nat.le_refl _) _
  refine ⟨(h12.1.below hb).below z.2, (h12.2.below hb).below z.2, ?_⟩
  have := Blk.new ((w.alloc (.cells c1 t1)).alloc (.cells c2 t2)) t3 c3
  rw [World.size_alloc, World.size_alloc] at this
  exact this.below z.2
/-- runs lie in another block than a cell that holds a slice -/
theorem runs_far {W : World} {v : Value} {l : List Run} {p : Nat} {t : TypeId} {A : Option Addr} {n c : Nat} (h : Rd 2 encRun W v l) (hB : Blk W p t #[.slice A n c]) : l = [] ∨ v.ownBlock ≠ some p := by
  obtain ⟨A', cap, rfl, _, h⟩ := h
  rcases h with h | ⟨b, off, rfl, hlt, hcell⟩
  · exact .inl h
  rcases l with _ | ⟨r, l⟩
  · exact .inl rfl
  right
  intro e
  have e : b = p := by simpa [Value.ownBlock] using e
  subst e
  have h0 := hcell 0 r rfl 0 _ rfl
  rw [hB.cell] at h0
  generalize off + 0 * 2 + 0 = k at h0
  match k, h0 with
  | 0, h0 => simp at h0
  | k + 1, h0 => simp at h0
theorem ints_far {W : World} {v : Value} {l : List Int} {p : Nat} {t : TypeId} {A : Option Addr} {n c : Nat} (h : Rd 1 encI W v l) (hB : Blk W p t #[.slice A n c]) : l = [] ∨ v.ownBlock ≠ some p := by
  obtain ⟨A', cap, rfl, _, h⟩ := h
  rcases h with h | ⟨b, off, rfl, hlt, hcell⟩
  · exact .inl h
  rcases l with _ | ⟨r, l⟩
  · exact .inl rfl
  right
  intro e
  have e : b = p := by simpa [Value.ownBlock] using e
  subst e
  have h0 := hcell 0 r rfl 0 _ rfl
  rw [hB.cell] at h0
  generalize off + 0 * 1 + 0 = k at h0
  match k, h0 with
  | 0, h0 => simp at h0
  | k + 1, h0 => simp at h0
theorem grownBy_below2 {w5 a b : World} {p : Nat} (h : w5.grownBy a (some p)) (hb : Below w5.heap.size a b) : w5.grownBy b (some p) :=
  ⟨hb.os.trans h.os, hb.tape.trans h.tape, hb.output.trans h.output, Nat.le_trans h.size hb.size, fun k hk hr => (hb.block k hk).trans (h.block k hk hr)⟩
/-- a list of ints that the call owns -/
def OwnI (base : Nat) (W : World) (v : Value) (l : List Int) : Prop := W.ownsRow base 3 1 v l.length (l.flatMap encI)
theorem OwnI.own {base : Nat} {W : World} {v : Value} {l : List Int} (h : OwnI base W v l) : W.ownsRow base 3 1 v l.length (l.flatMap encI) := h
theorem OwnI.alloc {base : Nat} {W : World} {v : Value} {l : List Int} (h : OwnI base W v l) (o : Obj) : OwnI base (W.alloc o) v l := h.own.alloc o
theorem OwnI.nil {base : Nat} {W : World} : OwnI base W (.slice none 0 0) [] := World.ownsRow_nil _ _ _ _
theorem OwnI.snoc {base : Nat} {W : World} {v : Value} {l : List Int} {x : Int} (h : W.ownsRow base 3 1 v (l ++ [x]).length ((l ++ [x]).flatMap encI)) : OwnI base W v (l ++ [x]) := h
theorem take_map_succ {α β : Type} {l : List α} {f : α → β} {j : Nat} {r : α} (h : l[j]? = some r) : (l.map f).take (j + 1) = (l.map f).take j ++ [f r] := by
  rw [List.take_add_one, List.getElem?_map, h]; rfl
/-- behind a store into a block of another kind -/
theorem OwnRows.set_ {base : Nat} {W : World} {v : Value} {rows : List Reg.Row} {p : Nat} {t : TypeId} {A : Option Addr} {n c i : Nat} {u : Value} (h : OwnRows base W v rows) (hB : Blk W p t #[.slice A n c]) (hne : 44 ≠ t) : OwnRows base (W.setCell ⟨p, i, none⟩ u) v rows := by
  obtain ⟨hs, h1, h2, h3⟩ := h
  have hg : W.grownBy (W.setCell ⟨p, i, none⟩ u) (some p) := grownBy_set u
  refine ⟨hs, own_grownBy h1 hg (own_ne h1 hB hne), ⟨h2.1, fun j y x hy hx => ⟨(h2.2 j y x hy hx).1, (h2.2 j y x hy hx).2.grown hg (runs_far (h2.2 j y x hy hx).2 hB)⟩⟩, h3⟩
/-- the head of a row -/
def hd (y : Int) (A : Option Addr) (n cap : Nat) : RowH := (y, A, n, cap)
/-- a row is appended to the rows of a region in a variable -/
theorem OwnRows.push {base p : Nat} {Wn w1 : World} {S S' : Value} {rows : List Reg.Row} {hs : List RowH} {y : Int} {A : Option Addr} {n cap : Nat} {l : List Run}
    (hown : Wn.ownsRow base 44 2 S hs.length (hs.flatMap encRow)) (hnest : NestAt rsl rtag 2 encRun (fun w : Reg.Row => w.2) Wn hs rows) (hap : ∀ (i : Nat) (h : RowH) (x : Reg.Row), hs[i]? = some h → rows[i]? = some x → x.2 = [] ∨ (rsl h).ownBlock ≠ S.ownBlock)
    (hown' : w1.ownsRow base 44 2 S' (hs ++ [hd y A n cap]).length ((hs ++ [hd y A n cap]).flatMap encRow)) (hg : Wn.grownBy w1 S.ownBlock) (hat : S'.ownBlock = S.ownBlock ∨ S'.ownBlock = some Wn.heap.size)
    (hr : Rd 2 encRun Wn (.slice A n cap) l) (hf : l = [] ∨ (Value.slice A n cap).ownBlock ≠ S.ownBlock) (hP : Blk Wn p 24 #[S]) :
    OwnRows base (w1.setCell ⟨p, 0, none⟩ S') S' (rows ++ [(y, l)]) ∧ Blk (w1.setCell ⟨p, 0, none⟩ S') p 24 #[S'] := by
  obtain ⟨A1, n1, c1, rfl⟩ := own_slice hown
  have hP1 : Blk w1 p 24 #[.slice A1 n1 c1] := hP.grown hg (Ne.symm (own_ne hown hP (by decide)))
  have hN : OwnRows base w1 S' (rows ++ [(y, l)]) := OwnN.snoc hnest hap hown' hg hat rfl hr hf
  exact ⟨hN.set_ hP1 (by decide), hP1.set_ 0 S'⟩
theorem own_fresh {W : World} {base n size : Nat} {e : TypeId} {v : Value} {xs : List Value} (h : W.ownsRow base e size v n xs) {v2 : Value} (hlt : ∀ b, v2.ownBlock = some b → b < base) : n = 0 ∨ v.ownBlock ≠ v2.ownBlock := by
  rcases h.2 with ⟨rfl, h0⟩ | ⟨g, cap, cur, rfl, hg, _⟩
  · exact .inl h0
  · right
    intro e
    have := hlt g (by rw [← e]; rfl)
    omega
theorem run_eql_nil (a : Option Addr) (l c : Nat) (w : World) : (binOp .eql 42 (.slice a l c) (.slice none 0 0)).run Tryz.prog w = .ok (.bool a.isNone) w := by
  have h : Tryz.prog.underlying 42 = some (.slice 69) := by kernel_rfl
  simp only [binOp]
  simp [run_equal_slice_nil w _ _ a l c h]
set_option maxRecDepth 100000 in
set_option maxHeartbeats 4000000 in
theorem clone_any (v : Value) (l : List Run) (w : World) (h : Rd 2 encRun w v l) (hlen : l.length ≤ 1099511627776) :
    Calls Tryz.prog 111 #[v] w fun e w' => (∃ u, e = .returned u ∧ w'.ownsRow w.heap.size 69 2 u l.length (l.flatMap encRun)) ∧ Below w.heap.size w w' := by
  obtain ⟨A, capA, rfl, hcapA, hopA⟩ := h.open_
  have HA := Lib.hid hopA
  have HLA := Lib.hid h
  clear hopA h
  have hnl := run_eql_nil
  cases A with
  | none =>
    have hl : l = [] := by
      rcases l with _ | ⟨r, l⟩
      · rfl
      · obtain ⟨b, off, e, _⟩ := HA.out 0 r rfl
        cases e
    subst hl
    go_enter Tryz.func111, Tryz.ntmps111
    go_wp2
    go_ret
    exact ⟨⟨_, rfl, World.ownsRow_nil _ _ _ _⟩, gRw⟩
  | some p =>
    go_enter Tryz.func111, Tryz.ntmps111
    go_wp2_with (at_builtin; refine wpList_app _ rfl _ _ 42 rfl encRun_len (by decide) oneR w.heap.size 69 (.agg #[.int .i64 0, .int .i64 0]) 16 infoRun rfl Tryz.underlying42 _ _ _ _ rfl (own_made w encRun_len w.heap.size _ [] #[] rfl (Nat.le_refl _) (by decide)) _ _ _ rfl (HLA.out.below gRw) ?c1 (by decide) ?c2 ?_; (case c1 => (first | (simp only [List.length_append, List.length_cons, List.length_nil]; omega) | omega | (simp; omega))); (case c2 => exact lEw); intro v' w1 hown' hg hbel hat'; (obtain ⟨y, rfl⟩ : ∃ y : Kin w, y.1 = w1 := ⟨⟨w1, Below.trans gRw hbel⟩, rfl⟩); clear hbel hg hat')
    go_ret
    exact ⟨⟨_, rfl, by simpa using hown'⟩, gRw⟩
end Go.Proofs.YtneelidbgigehaaGreat
/- Regions behind a store into a variable. -/
namespace Go.Proofs.YtneelidbgigehaaGreat
set_option linter.unusedSimpArgs false
set_option linter.unusedVariables false
open Go.RowKit Runs Reg
theorem heads_far {W : World} {v : Value} {hs : List RowH} {p : Nat} {t : TypeId} {A : Option Addr} {n c : Nat} (h : Rd 2 encRow W v hs) (hB : Blk W p t #[.slice A n c]) : hs = [] ∨ v.ownBlock ≠ some p := by
  obtain ⟨A', cap, rfl, _, h⟩ := h
  rcases h with h | ⟨b, off, rfl, hlt, hcell⟩
  · exact .inl h
  rcases hs with _ | ⟨r, l⟩
  · exact .inl rfl
  right
  intro e
  have e : b = p := by simpa [Value.ownBlock] using e
  subst e
  have h0 := hcell 0 r rfl 0 _ rfl
  rw [hB.cell] at h0
  generalize off + 0 * 2 + 0 = k at h0
  match k, h0 with
  | 0, h0 => simp at h0
  | k + 1, h0 => simp at h0
theorem RdRows.grown_ {W W' : World} {s : Value} {rows : List Reg.Row} {p : Nat} {t : TypeId} {A : Option Addr} {n c : Nat} (h : RdRows W s rows) (hB : Blk W p t #[.slice A n c]) (hg : W.grownBy W' (some p)) : RdRows W' s rows := by
  obtain ⟨hs, h1, h2⟩ := h
  exact ⟨hs, h1.grown hg (heads_far h1 hB), h2.1, fun j y x hy hx => ⟨(h2.2 j y x hy hx).1, (h2.2 j y x hy hx).2.grown hg (runs_far (h2.2 j y x hy hx).2 hB)⟩⟩
theorem RdReg.set_ {W : World} {v : Value} {rows : List Reg.Row} {p i : Nat} {t : TypeId} {A : Option Addr} {n c : Nat} {u : Value} (h : RdReg W v rows) (hB : Blk W p t #[.slice A n c]) : RdReg (W.setCell ⟨p, i, none⟩ u) v rows := by
  obtain ⟨s, rfl, h⟩ := h
  exact ⟨s, rfl, h.grown_ hB (grownBy_set u)⟩
theorem RdReg.slice_ {W : World} {v : Value} {rows : List Reg.Row} (h : RdReg W v rows) : ∃ (A : Option Addr) (cap : Nat), v = .agg #[.slice A rows.length cap] := by
  obtain ⟨s, rfl, h⟩ := h
  obtain ⟨A, cap, rfl, _⟩ := rows_open h
  exact ⟨A, cap, rfl⟩
end Go.Proofs.YtneelidbgigehaaGreat

/- The chapter's list of the cells of a region. -/
namespace Go.Proofs.YtneelidbgigehaaGreat
set_option linter.unusedSimpArgs false
set_option linter.unusedVariables false
open Go.RowKit Runs Reg
attribute [local go_sem] Kin.cell Kin.frozen Kin.lt0 Kin.lt1 Kin.lt2 Kin.lt3 run_mkf
def encPt (p : Int × Int) : List Value := [.int .i64 p.1, .int .i64 p.2]
theorem encPt_len (p : Int × Int) : (encPt p).length = 2 := rfl
theorem oneP : OneC encPt := fun x u hu => by simp [encPt] at hu; rcases hu with rfl | rfl <;> rfl
theorem infoCell : (Tryz.prog.info? 47).map (fun i => (i.zero, i.size, i.bytes)) = some (some (.agg #[.int .i64 0, .int .i64 0]), 2, 16) := by kernel_rfl
def OwnC (base : Nat) (W : World) (v : Value) (l : List (Int × Int)) : Prop := W.ownsRow base 47 2 v l.length (l.flatMap encPt)
theorem OwnC.own {base : Nat} {W : World} {v : Value} {l : List (Int × Int)} (h : OwnC base W v l) : W.ownsRow base 47 2 v l.length (l.flatMap encPt) := h
theorem OwnC.nil {base : Nat} {W : World} : OwnC base W (.slice none 0 0) [] := World.ownsRow_nil _ _ _ _
theorem OwnC.of {base : Nat} {W : World} {v : Value} {l : List (Int × Int)} (h : W.ownsRow base 47 2 v l.length (l.flatMap encPt)) : OwnC base W v l := h
end Go.Proofs.YtneelidbgigehaaGreat

/- slices.SortFunc over a slice of structs that the call owns: the slice then owns a sorted permutation. -/
namespace Go.Proofs.YtneelidbgigehaaGreat
set_option linter.unusedSimpArgs false
set_option linter.unusedVariables false
open Go.Shelf Go.RowKit Go.Lib Go.Sort Go.Proofs
section
variable {α : Type} [Inhabited α] {enc : α → List Value} {k : Nat}
theorem flatK_list (hk : ∀ x, (enc x).length = k) (hk0 : 0 < k) (xs : List α) : (flatK enc k xs.toArray).toList = xs.flatMap enc := by
  apply List.ext_getElem?
  intro t
  by_cases ht : t < xs.length * k
  · have h1 : t < (flatK enc k xs.toArray).size := by simpa using ht
    have hq : t / k < xs.length := (Nat.div_lt_iff_lt_mul hk0).2 ht
    have hr : t % k < (enc xs[t / k]).length := by rw [hk]; exact Nat.mod_lt _ hk0
    have h2 := flat_get hk xs (t / k) xs[t / k] (List.getElem?_eq_getElem hq) (t % k) _ (List.getElem?_eq_getElem hr)
    have e : t / k * k + t % k = t := by rw [Nat.mul_comm]; exact Nat.div_add_mod t k
    rw [e] at h2
    rw [h2, Array.getElem?_toList]
    have h3 := get_flatK enc k xs.toArray t (by simpa using ht)
    rw [getElem!_pos _ t h1] at h3
    rw [Array.getElem?_eq_getElem h1, h3]
    simp [hq, hr]
  · rw [List.getElem?_eq_none (by simp; omega), List.getElem?_eq_none (by rw [flat_len hk]; omega)]
theorem holdsK_of_block (hk : ∀ x, (enc x).length = k) (hk0 : 0 < k) {w : World} {g : Nat} {cur : Array Value} {e : TypeId} {xs : List α} (hb : w.heap[g]? = some (.cells cur e (0, 0))) (ht : cur.toList.take (xs.length * k) = xs.flatMap enc) :
    HoldsK enc k w g 0 xs.toArray := by
  intro j hj
  have hj' : j < xs.length * k := by simpa using hj
  refine ⟨?_, by simp [World.frozen?, hb]⟩
  have h1 : (cur.toList.take (xs.length * k))[j]? = (flatK enc k xs.toArray).toList[j]? := by rw [ht, flatK_list hk hk0]
  rw [List.getElem?_take_of_lt hj'] at h1
  simp only [World.cell?, hb, Nat.zero_add]
  simp only [Option.isSome_none, Bool.false_eq_true, if_false]
  rw [← Array.getElem?_toList, h1, Array.getElem?_toList, getElem!_pos _ j hj, Array.getElem?_eq_getElem hj]
  rfl
theorem heap_sortedK {w : World} {g n : Nat} {os : Array Obj} {cur : Array Value} {e : TypeId} {fr : Nat × Nat} (F : Array Value) (hb : w.heap[g]? = some (.cells cur e fr)) :
    (grow (putRow id (Sort.ahead w n) g 0 F) os).heap[g]? = some (.cells (putCells id 0 F cur) e fr) := by
  have hg : g < w.heap.size := (Array.getElem?_eq_some_iff.1 hb).1
  rw [heap_grow_old _ _ (by simpa using hg)]
  simp [putRow, mapBlock, Sort.ahead, Array.getElem?_modify, hb, onCells]
theorem grownBy_sortedK {w : World} {g n : Nat} {os : Array Obj} (F : Array Value) : w.grownBy (grow (putRow id (Sort.ahead w n) g 0 F) os) (some g) := by
  refine ⟨rfl, rfl, rfl, by simp, fun k hk hne => ?_⟩
  rw [heap_grow_old _ _ (by simpa using hk)]
  have : g ≠ k := fun e => hne (by rw [e])
  simp [putRow, mapBlock, Sort.ahead, Array.getElem?_modify, this]
theorem take_putCellsK (cur F : Array Value) (h : F.size ≤ cur.size) : (putCells id 0 F cur).toList.take F.size = F.toList := by
  apply List.ext_getElem?
  intro j
  by_cases hj : j < F.size
  · rw [List.getElem?_take_of_lt hj, Array.getElem?_toList]
    simp [putCells, hj, show j < cur.size by omega]
  · rw [List.getElem?_take_eq_none (by omega), List.getElem?_eq_none (by simp; omega)]
theorem ownsRow_sortedK (hk : ∀ x, (enc x).length = k) (hk0 : 0 < k) {w : World} {base g cap n : Nat} {e : TypeId} {os : Array Obj} {cur : Array Value} {xs ys : List α} (hl : ys.length = xs.length) (hbase : base ≤ g) (hb : w.heap[g]? = some (.cells cur e (0, 0)))
    (h1 : xs.length ≤ cap) (h2 : cap ≤ maxLen) (h3 : cur.size = cap * k) :
    (grow (putRow id (Sort.ahead w n) g 0 (flatK enc k ys.toArray)) os).ownsRow base e k (.slice (some ⟨g, 0, none⟩) ys.length cap) ys.length (ys.flatMap enc) := by
  have hm : ys.length * k ≤ cap * k := Nat.mul_le_mul_right k (by omega)
  refine ⟨flat_len hk ys, .inr ⟨g, cap, _, rfl, hbase, heap_sortedK _ hb, by omega, h2, by simp [putCells, h3], ?_⟩⟩
  have := take_putCellsK cur (flatK enc k ys.toArray) (by simp; omega)
  rw [flatK_list hk hk0] at this
  simpa using this
variable {P : Program} {ρ : Ren}
/-- slices.SortFunc at a slice that the call owns -/
theorem sort_own (L : SlLaysF0.n6 P ρ) (aE : ∀ w, (isAgg (ρ.t 24)).run P w = .ok true w) (zE : ∀ w, (Go.sizeOf (ρ.t 24)).run P w = .ok k w) (hk0 : 0 < k) (hk : ∀ x, (enc x).length = k) (h1 : ∀ x, ∀ v ∈ enc x, v.oneCell' = true) (cf : α → α → Int)
    (hO : SWO (ltOf cf)) (g : Nat) (cb : Array Value) (eg : ∀ args w, (callFunc g args).run P w = .ok (.enter g args) w)
    (hcmp : ∀ W x y, Calls P g (#[.agg (enc x).toArray, .agg (enc y).toArray] ++ cb) W fun e w' => e = .returned (.int .i64 (cf x y)) ∧ ∃ q os', w' = grow (W.drewN q) os')
    (base : Nat) (e : TypeId) (w : World) (v : Value) (xs : List α) (hown : w.ownsRow base e k v xs.length (xs.flatMap enc)) (hlen : xs.length < 4611686018427387904) :
    Calls P (ρ.f 6) #[v, .func (.func g) #[] cb] w fun r w' => r = .returned (.tuple #[]) ∧ ∃ ys : List α, ys.Perm xs ∧ ys.Pairwise (fun x y => ltOf cf y x = false) ∧
      w'.ownsRow base e k v ys.length (ys.flatMap enc) ∧ w.grownBy w' v.ownBlock := by
  rcases hown.2 with ⟨rfl, h0⟩ | ⟨b, cap, cur, rfl, hbase, hb, hn, hm, hs, ht⟩
  · have hxs : xs = [] := List.eq_nil_of_length_eq_zero h0
    subst hxs
    exact (AnyF.slices_SortFunc_none L none 0 (.func (.func g) #[] cb) w).mono fun _ _ ⟨he, hw⟩ => ⟨he, [], List.Perm.refl _, List.Pairwise.nil, by rw [hw]; exact hown, by rw [hw]; exact World.grownBy.refl _ _⟩
  · have hbs : b < w.heap.size := (Array.getElem?_eq_some_iff.1 hb).1
    have := AnyQ.slices_SortFunc L k aE zE enc hk h1 cf hO g cb b 0 cap xs.toArray w eg (fun _ _ _ _ x y => hcmp _ x y) (holdsK_of_block hk hk0 hb ht) hbs (by simpa using hlen)
    simp only [List.size_toArray] at this
    refine this.mono fun _ _ ⟨he, d', n, os, hp, hso, hw⟩ => ⟨he, d'.toList, ?_, ?_, ?_, ?_⟩
    · obtain ⟨hz, _, hperm⟩ := hp
      have e1 : (d'.extract 0 xs.length) = d' := by rw [show xs.length = d'.size by simpa using hz.symm]; simp
      have e2 : (xs.toArray.extract 0 xs.length) = xs.toArray := by rw [show xs.length = xs.toArray.size by simp]; exact Array.extract_size
      rw [e1, e2] at hperm
      simpa using hperm
    · have hz : d'.size = xs.length := by simpa using hp.1
      rw [List.pairwise_iff_getElem]
      intro i j hi hj hij
      have := hso i j (Nat.zero_le _) hij (by simp at hj; omega)
      simp only [Array.length_toList] at hi hj
      rw [getElem!_pos _ i (by omega), getElem!_pos _ j (by omega)] at this
      simpa using this
    · have hz : d'.size = xs.length := by simpa using hp.1
      have := ownsRow_sortedK (enc := enc) hk hk0 (ys := d'.toList) (n := n) (os := os) (by simpa using hz) hbase hb hn hm hs
      rw [hw]
      simpa [sortWorldK, putRowK, hz] using this
    · rw [hw]
      exact grownBy_sortedK _
end
end Go.Proofs.YtneelidbgigehaaGreat
