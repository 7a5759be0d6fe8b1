/- Lemmas: RegRowA RegGen. -/
import Derived.Deep.RegionHeld
import Derived.Test.YtneelidbgigehaaGreatT06
import Derived.Test.YtneelidbgigehaaGreatT02
import Derived.Test.YtneelidbgigehaaGreatT07
import Derived.Test.YtneelidbgigehaaGreatT17
import Derived.Test.YtneelidbgigehaaGreatT10
/- The row of a region: binary search, and the chapter's own. (joined: RegRow RegRow2) -/
/- The row of a region: binary search, and the chapter's own. -/
namespace Go.Proofs.YtneelidbgigehaaGreat
set_option linter.unusedSimpArgs false
set_option linter.unusedVariables false
open Go.RowKit Runs Reg
attribute [local go_sem] Kin.cell Kin.frozen Kin.lt0 Kin.lt1 Kin.lt2 Kin.lt3 run_mkf
def cmpI (x y : Int) : Int := if x < y then -1 else if y < x then 1 else 0
set_option maxHeartbeats 400000 in
theorem isNaN_any (x : Int) (w : World) : Calls Tryz.prog 119 #[.int .i64 x] w fun e w' => e = .returned (.bool false) ∧ Below w.heap.size w w' := by
  go_enter Tryz.func119, Tryz.ntmps119
  go_wp2
  go_ret
  exact ⟨ret_bool (by simp), gRw⟩
set_option maxHeartbeats 400000 in
theorem cmpI_any (x y : Int) (w : World) : Calls Tryz.prog 84 #[.int .i64 x, .int .i64 y] w fun e w' => e = .returned (.int .i64 (cmpI x y)) ∧ Below w.heap.size w w' := by
  go_enter Tryz.func84, Tryz.ntmps84
  go_wp2_with (go_at_call 119; (with_reducible refine (Kin.callK (W := w) gRw (isNaN_any _ _)).mono ?_); rintro e w' ⟨z, rfl, hz, rfl⟩)
  all_goals
    go_ret
    exact ⟨ret_int (by unfold cmpI; repeat' split <;> omega), gRw⟩
set_option maxHeartbeats 400000 in
theorem rowcmp_any (x y : Int) (S : Value) (w : World) : Calls Tryz.prog 148 #[.agg #[.int .i64 x, S], .int .i64 y] w fun e w' => e = .returned (.int .i64 (cmpI x y)) ∧ Below w.heap.size w w' := by
  go_enter Tryz.func148, Tryz.ntmps148
  go_wp2_with (go_at_call 84; (with_reducible refine (Kin.callK (W := w) gRw (cmpI_any _ _ _)).mono ?_); rintro e w' ⟨z, rfl, hz, rfl⟩)
  go_ret
  exact ⟨rfl, gRw⟩
theorem cmpI_lt {x y : Int} : cmpI x y < 0 ↔ x < y := by unfold cmpI; repeat' split <;> omega
theorem cmpI_eq {x y : Int} : cmpI x y = 0 ↔ x = y := by unfold cmpI; repeat' split <;> omega
theorem sorted_lt {rows : List Reg.Row} (h : rows.Pairwise (fun v w => v.1 < w.1)) {i j : Nat} {r q : Reg.Row} (hr : rows[i]? = some r) (hq : rows[j]? = some q) (hij : i < j) : r.1 < q.1 := by
  obtain ⟨hi, rfl⟩ := List.getElem?_eq_some_iff.1 hr
  obtain ⟨hj, rfl⟩ := List.getElem?_eq_some_iff.1 hq
  exact List.pairwise_iff_getElem.1 h i j hi hj hij
set_option maxRecDepth 100000 in
set_option maxHeartbeats 4000000 in
theorem bsearch_any (A : Option Addr) (cap : Nat) (rows : List Reg.Row) (y : Int) (w : World) (h : RdRows w (.slice A rows.length cap) rows) (hs : rows.Pairwise (fun v w => v.1 < w.1)) (hlen : rows.length ≤ 17179869184) :
    Calls Tryz.prog 147 #[.slice A rows.length cap, .int .i64 y, .func (.func 148) #[] #[]] w fun e w' =>
      (∃ (i : Nat) (f : Bool), e = .returned (.tuple #[.int .i64 i, .bool f]) ∧ i ≤ rows.length ∧ (∀ q r, q < i → rows[q]? = some r → r.1 < y) ∧ (∀ q r, i ≤ q → rows[q]? = some r → y ≤ r.1) ∧ (f = true ↔ ∃ r, rows[i]? = some r ∧ r.1 = y)) ∧ Below w.heap.size w w' := by
  obtain ⟨A', cap', e, hcap, hop⟩ := rows_open h
  injection e with e1 e2 e3
  subst e1 e3
  clear e2
  have HA := Lib.hid hop
  have HLA := Lib.hid h
  have Hs := Lib.hid hs
  clear hop h hs
  go_enter Tryz.func147, Tryz.ntmps147
  go_wp2
  go_loopw [9, 10] (fun i j wr => ∃ a b : Nat, a ≤ b ∧ b ≤ rows.length ∧ i = .int .i64 a ∧ j = .int .i64 b ∧ Hid (∀ q r, q < a → rows[q]? = some r → r.1 < y) ∧ Hid (∀ q r, b ≤ q → rows[q]? = some r → y ≤ r.1) ∧ ∃ z : Kin w, z.1 = wr) (fun i j _ => (intOf j).toNat - (intOf i).toNat)
  case atStart => exact ⟨0, rows.length, Nat.zero_le _, Nat.le_refl _, rfl, rfl, fun q r h => absurd h (by omega), fun q r h hr => absurd (List.getElem?_eq_some_iff.1 hr).1 (by omega), ⟨w, Below.refl _ _⟩, rfl⟩
  case round =>
    obtain ⟨a, b, hab, hb, rfl, rfl, h1, h2, z, rfl⟩ := hrel
    by_cases hlt : a < b
    · obtain ⟨r, hr⟩ : ∃ el_, (rows)[(a + b) / 2]? = some el_ := ⟨_, List.getElem?_eq_getElem (by first | exact (by omega) | omega)⟩
      obtain ⟨bA, offA, ⟨⟩, hbA, hcA⟩ := HA.out ((a + b) / 2) _ hr
      have hbA2 : bA < w.heap.size + 1 := by omega
      have HAc := Lib.hid hcA
      clear hcA
      obtain ⟨S, capS, r_0, r_1, hcapS, hrS⟩ := HAc.out ((a + b) / 2) r hr
      have HLS := Lib.hid hrS
      have Hr := Lib.hid hr
      clear hr hrS
      go_wp2_with (go_at_call 148; (with_reducible refine (Kin.callK (W := w) gRw (rowcmp_any _ _ _ _)).mono ?_); rintro e w' ⟨z, rfl, hz, rfl⟩)
      · have hlt2 : r.1 < y := cmpI_lt.1 (by assumption)
        go_roundw
        case rel => exact ⟨(a + b) / 2 + 1, b, by omega, hb, by go_num, rfl, fun q s hq hs => by
          rcases Nat.lt_or_ge q ((a + b) / 2) with h | h
          · have := sorted_lt Hs.out hs Hr.out h; omega
          · have e : q = (a + b) / 2 := by omega
            rw [e, Hr.out] at hs; injection hs with hs; rw [← hs]; exact hlt2, h2, z, rfl⟩
        case measure => simp [intOf]; omega
      · have hge : y ≤ r.1 := Int.not_lt.1 (fun h => absurd (cmpI_lt.2 h) (by omega))
        go_roundw
        case rel => exact ⟨a, (a + b) / 2, by omega, by omega, rfl, rfl, h1, fun q s hq hs => by
          rcases Nat.lt_or_ge ((a + b) / 2) q with h | h
          · have := sorted_lt Hs.out Hr.out hs h; omega
          · have e : q = (a + b) / 2 := by omega
            rw [e, Hr.out] at hs; injection hs with hs; rw [← hs]; exact hge, z, rfl⟩
        case measure => simp [intOf]; omega
    · obtain rfl : b = a := by omega
      by_cases hin : b < rows.length
      · obtain ⟨r, hr⟩ : ∃ el_, (rows)[b]? = some el_ := ⟨_, List.getElem?_eq_getElem (by first | exact hin | omega)⟩
        obtain ⟨bA, offA, ⟨⟩, hbA, hcA⟩ := HA.out (b) _ hr
        have hbA2 : bA < w.heap.size + 1 := by omega
        have HAc := Lib.hid hcA
        clear hcA
        obtain ⟨S, capS, r_0, r_1, hcapS, hrS⟩ := HAc.out (b) r hr
        have HLS := Lib.hid hrS
        have Hr := Lib.hid hr
        clear hr hrS
        go_wp2_with (go_at_call 148; (with_reducible refine (Kin.callK (W := w) gRw (rowcmp_any _ _ _ _)).mono ?_); rintro e w' ⟨z, rfl, hz, rfl⟩)
        go_ret2
        refine ⟨⟨b, _, rfl, hb, h1.out, h2.out, ?_⟩, gRw⟩
        simp only [beq_iff_eq, decide_eq_true_eq, cmpI_eq]
        constructor
        · intro h; exact ⟨r, Hr.out, h⟩
        · rintro ⟨s, hs, h⟩; rw [Hr.out] at hs; injection hs with hs; rw [hs]; exact h
      · go_wp2
        go_ret2
        refine ⟨⟨b, _, rfl, hb, h1.out, h2.out, ?_⟩, gRw⟩
        constructor
        · intro h; cases h
        · rintro ⟨s, hs, h⟩; exact absurd (List.getElem?_eq_some_iff.1 hs).1 hin
/-- the slice that lies in memory at the row y of a region; nil if there is no such row -/
def RowIs (W : World) (v : Value) (rows : List Reg.Row) (y : Int) (u : Value) : Prop :=
  (∃ (k b off cap : Nat) (r : Reg.Row) (S : Option Addr) (c : Nat), rows[k]? = some r ∧ r.1 = y ∧ (∀ j q, j < k → rows[j]? = some q → q.1 ≠ y) ∧ v = .agg #[.slice (some ⟨b, off, none⟩) rows.length cap] ∧ b < W.heap.size ∧ u = .slice S r.2.length c ∧ W.cell? ⟨b, off + k * 2 + 1, none⟩ = some u) ∨ ((∀ r ∈ rows, r.1 ≠ y) ∧ u = .slice none 0 0)
theorem RowIs.below {W W' : World} {v : Value} {rows : List Reg.Row} {y : Int} {u : Value} (h : RowIs W v rows y u) (hb : Below W.heap.size W W') : RowIs W' v rows y u := by
  rcases h with ⟨k, b, off, cap, r, S, c, h1, h2, h3, h4, h5, h6, h7⟩ | h
  · exact .inl ⟨k, b, off, cap, r, S, c, h1, h2, h3, h4, Nat.lt_of_lt_of_le h5 hb.size, h6, (hb.cell (p := ⟨b, _, none⟩) h5).trans h7⟩
  · exact .inr h
theorem find_first {rows : List Reg.Row} {y : Int} : (∃ (k : Nat) (r : Reg.Row), rows[k]? = some r ∧ r.1 = y ∧ (∀ j q, j < k → rows[j]? = some q → q.1 ≠ y) ∧ rwAt rows y = r.2) ∨ ((∀ r ∈ rows, r.1 ≠ y) ∧ rwAt rows y = []) := by
  induction rows with
  | nil => right; exact ⟨by simp, rfl⟩
  | cons w rows ih =>
    rw [rwAt_cons]
    by_cases h : w.1 = y
    · left; exact ⟨0, w, rfl, h, fun j q hj => absurd hj (by omega), by simp [h]⟩
    · rcases ih with ⟨k, r, h1, h2, h3, h4⟩ | ⟨h1, h2⟩
      · left
        refine ⟨k + 1, r, by simpa using h1, h2, fun j q hj hq => ?_, by simp [h, h4]⟩
        match j, hj, hq with
        | 0, _, hq => simp at hq; rw [← hq]; exact h
        | j + 1, hj, hq => exact h3 j q (by omega) (by simpa using hq)
      · right; exact ⟨fun v hv => by rcases List.mem_cons.1 hv with rfl | hv; exact h; exact h1 v hv, by simp [h, h2]⟩
theorem rowIs_some {W : World} {v : Value} {rows : List Reg.Row} (h : RdReg W v rows) (y : Int) : ∃ u, RowIs W v rows y u ∧ Rd 2 encRun W u (rwAt rows y) := by
  obtain ⟨s, rfl, h⟩ := h
  obtain ⟨A, cap, rfl, hcap, hop⟩ := rows_open h
  rcases find_first (rows := rows) (y := y) with ⟨k, r, h1, h2, h3, h4⟩ | ⟨h1, h2⟩
  · obtain ⟨b, off, rfl, hb, hc⟩ := hop k r h1
    obtain ⟨S, c, _, hc1, hle, hr⟩ := hc k r h1
    exact ⟨_, .inl ⟨k, b, off, cap, r, S, c, h1, h2, h3, rfl, hb, rfl, hc1⟩, by rw [h4]; exact hr⟩
  · exact ⟨_, .inr ⟨h1, rfl⟩, by rw [h2]; exact Rd.nil⟩
theorem bs_found {rows : List Reg.Row} (hs : rows.Pairwise (fun v w => v.1 < w.1)) {i k : Nat} {f : Bool} {r : Reg.Row} {y : Int} (hr : rows[k]? = some r) (hy : r.1 = y) (hi : i ≤ rows.length) (h1 : ∀ q r, q < i → rows[q]? = some r → r.1 < y) (h2 : ∀ q r, i ≤ q → rows[q]? = some r → y ≤ r.1)
    (hf : f = true ↔ ∃ r, rows[i]? = some r ∧ r.1 = y) : i = k ∧ f = true := by
  have hk := (List.getElem?_eq_some_iff.1 hr).1
  have e : i = k := by
    rcases Nat.lt_trichotomy i k with h | h | h
    · have hi : i < rows.length := by omega
      have hq : rows[i]? = some rows[i] := List.getElem?_eq_getElem hi
      have a := sorted_lt hs hq hr h
      have b := h2 i _ (Nat.le_refl _) hq
      omega
    · exact h
    · have := h1 k r h hr; omega
  subst e
  exact ⟨rfl, hf.2 ⟨r, hr, hy⟩⟩
theorem bs_none {rows : List Reg.Row} {i : Nat} {f : Bool} {y : Int} (h : ∀ r ∈ rows, r.1 ≠ y) (hf : f = true ↔ ∃ r, rows[i]? = some r ∧ r.1 = y) : f = false := by
  rw [Bool.eq_false_iff]; intro hc
  obtain ⟨r, hr, hy⟩ := hf.1 hc
  exact h r (List.mem_of_getElem? hr) hy
set_option maxRecDepth 100000 in
set_option maxHeartbeats 4000000 in
theorem row_any (v : Value) (rows : List Reg.Row) (y : Int) (u : Value) (w : World) (h : RdReg w v rows) (hv : VReg rows) (hu : RowIs w v rows y u) :
    Calls Tryz.prog 110 #[v, .int .i64 y] w fun e w' => e = .returned u ∧ Below w.heap.size w w' := by
  obtain ⟨s, rfl, h⟩ := h
  obtain ⟨A, cap, rfl, hcap, hop⟩ := rows_open h
  have hlen : rows.length ≤ 17179869184 := Nat.le_trans (vreg_len hv).1 (by decide)
  have HLA := Lib.hid h
  have Hv := Lib.hid hv.2
  clear h hop hv
  rcases hu with ⟨k, b, off, cap', r, S, c, h1, h2, h3, h4, h5, rfl, h7⟩ | ⟨h1, rfl⟩
  · injection h4 with h4
    have h4 := congrArg (fun a => a[0]?) h4
    simp at h4
    obtain ⟨rfl, rfl⟩ := h4
    have Hr := Lib.hid h1
    have hk := (List.getElem?_eq_some_iff.1 h1).1
    clear h1 h3
    go_enter Tryz.func110, Tryz.ntmps110
    go_wp2_with (go_at_call 147; (with_reducible refine (Kin.callK (W := w.alloc (.cells #[.slice (some ⟨b, off, none⟩) rows.length cap] 24)) gRw (bsearch_any _ cap rows y _ (HLA.out.below gRw) Hv.out hlen)).mono ?_); rintro e w' ⟨z, ⟨i, f, rfl, hi, hi1, hi2, hf⟩, hz, rfl⟩; ((obtain ⟨rfl, rfl⟩ := bs_found Hv.out Hr.out h2 hi hi1 hi2 hf); clear hi1 hi2 hf))
    go_ret
    exact ⟨rfl, gRw⟩
  · have H1 := Lib.hid h1
    clear h1
    go_enter Tryz.func110, Tryz.ntmps110
    go_wp2_with (go_at_call 147; (with_reducible refine (Kin.callK (W := w.alloc (.cells #[.slice A rows.length cap] 24)) gRw (bsearch_any A cap rows y _ (HLA.out.below gRw) Hv.out hlen)).mono ?_); rintro e w' ⟨z, ⟨i, f, rfl, hi, hi1, hi2, hf⟩, hz, rfl⟩; ((obtain rfl := bs_none H1.out hf); clear hi1 hi2 hf))
    go_ret
    exact ⟨rfl, gRw⟩
end Go.Proofs.YtneelidbgigehaaGreat
/- Contains of regions. -/
namespace Go.Proofs.YtneelidbgigehaaGreat
set_option linter.unusedSimpArgs false
set_option linter.unusedVariables false
open Go.RowKit Runs Reg
attribute [local go_sem] Kin.cell Kin.frozen Kin.lt0 Kin.lt1 Kin.lt2 Kin.lt3 run_mkf
end Go.Proofs.YtneelidbgigehaaGreat

/- Lists of regions in memory; arguments opened to regions; results in variables. -/
namespace Go.Proofs.YtneelidbgigehaaGreat
set_option linter.unusedSimpArgs false
set_option linter.unusedVariables false
open Go.RowKit Runs Reg
attribute [local go_sem] Kin.cell Kin.frozen Kin.lt0 Kin.lt1 Kin.lt2 Kin.lt3 run_mkf
abbrev RegH := Option Addr × Nat × Nat
def encReg (h : RegH) : List Value := [.slice h.1 h.2.1 h.2.2]
/-- a list of regions -/
def RdRegs (W : World) (v : Value) (rs : List (List Reg.Row)) : Prop := ∃ hs : List RegH, Rd 1 encReg W v hs ∧ hs.length = rs.length ∧ ∀ (i : Nat) (h : RegH) (r : List Reg.Row), hs[i]? = some h → rs[i]? = some r → RdReg W (.agg #[.slice h.1 h.2.1 h.2.2]) r
theorem RdRegs.below {W W' : World} {v : Value} {rs : List (List Reg.Row)} (h : RdRegs W v rs) (hb : Below W.heap.size W W') : RdRegs W' v rs := by
  obtain ⟨hs, h1, h2, h3⟩ := h
  exact ⟨hs, h1.below hb, h2, fun i h r hh hr => (h3 i h r hh hr).below hb⟩
theorem results_cell_t {P : Program} {fn : Func} {p q : Tmp} {ty : TypeId} (h : fn.results = #[.cell p ty, .tmp q]) (tmps : Array Value) (w : World) {g : Nat} {t : TypeId} {cs : Array Value} (fr : Nat × Nat) {d : TypeDesc}
    (hp : tmps.getD p undef = .pointer (some ⟨g, 0, none⟩)) (hg : w.heap[g]? = some (.cells cs t fr))
    (hu : P.underlying ty = some d) (hd : (match d with | .struct _ | .array _ _ => true | _ => false) = true) (hi : (P.info? ty).map (·.size) = some cs.size) :
    (results fn tmps).run P w = .ok (.tuple #[.agg cs, tmps.getD q undef]) w := by
  have hp' : tmps[p]?.getD undef = .pointer (some ⟨g, 0, none⟩) := by simpa using hp
  simp [results, h, hp', asAddr, run_loadVar_row w g t ty cs fr d hg hu hd hi]
theorem blk_alloc2 (w : World) (o : Obj) (t : TypeId) (c : Array Value) : Blk ((w.alloc o).alloc (.cells c t)) (w.heap.size + 1) t c := by
  have := Blk.new (w.alloc o) t c
  rwa [World.size_alloc] at this
end Go.Proofs.YtneelidbgigehaaGreat
/- Arguments opened to regions and lists of regions. -/
namespace Go.Proofs.YtneelidbgigehaaGreat
set_option linter.unusedSimpArgs false
set_option linter.unusedVariables false
set_option maxRecDepth 100000
open Go.ChangeShapes Go.WideShapes Go.ChangeAt Go.RowKit Go.Joins Runs Reg
def IsInt (v : Value) : Prop := ∃ n : Int, v = .int .i64 n ∧ i64 n
section
variable {H : Type} {enc : TypeId × Value → H} {W : World} {base : Nat} {spare : Nat → Bool} {held : Bool} {r : Reach} {b0 : Nat} {v : Value} {d : DataW H} {ps : List MemPlace}
theorem trod_run {fuel : Nat} {cs : List Value} {x : DataW H × List MemPlace} (h : DataW.trod enc Tryz.prog W base spare held fuel 69 cs = some x) : ∃ p : Run, cs = encRun p ∧ True := by
  obtain ⟨y0, y1, n, _, hl, t0, t1⟩ := trod_struct2 Tryz.underlying69 h
  have hc : Tryz.prog.cellsOf 69 = 2 := by kernel_rfl
  have hi : Tryz.prog.cellsOf 3 = 1 := by kernel_rfl
  rw [hc] at hl
  match cs, hl with
  | [c0, c1], _ =>
    simp only [hi] at t0 t1
    obtain ⟨n0, e0, _, w0⟩ := DataW.trod_int Tryz.underlying3 t0
    obtain ⟨n1, e1, _, w1⟩ := DataW.trod_int Tryz.underlying3 t1
    simp at e0 e1
    subst e0 e1
    exact ⟨(n0, n1), rfl, trivial⟩
theorem runs_rd {fuel : Nat} {v : Value} {x : DataW H × List MemPlace} (h : DataW.trod enc Tryz.prog W 0 spare held fuel 42 [v] = some x) : ∃ l : List Run, Rd 2 encRun W v l := by
  obtain ⟨l, hl, _⟩ := rd_slice (R := fun p : Run => True) Tryz.underlying42 (by kernel_rfl) (by omega) encRun_len (fun n cs y hy => trod_run hy) h
  exact ⟨l, hl⟩
end
end Go.Proofs.YtneelidbgigehaaGreat
