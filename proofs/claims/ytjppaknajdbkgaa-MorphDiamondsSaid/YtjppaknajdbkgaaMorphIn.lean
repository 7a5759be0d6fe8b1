/- The arguments of chapter 20's laws: regions whose lists Go can hold; the law's 'heavy' and 'rect'. (joined: MorphIn MorphAwkM) -/
import Derived.Test.YtjppaknajdbkgaaRegUse
import Derived.Test.YtjppaknajdbkgaaMorphMathA
import Derived.Test.YtjppaknajdbkgaaOfWalk
/- The arguments of chapter 20's laws: regions whose lists Go can hold; the law's 'heavy' and 'rect'. -/
namespace Go.Proofs.Ytjppaknajdbkgaa
set_option linter.unusedSimpArgs false
set_option linter.unusedVariables false
set_option maxRecDepth 100000
open Go.ChangeShapes Go.WideShapes Go.ChangeAt Go.RowKit Go.Joins Runs Reg
attribute [local go_sem] Kin.cell Kin.frozen Kin.lt0 Kin.lt1 Kin.lt2 Kin.lt3 run_mkf
def IsRegB (W : World) (v : Value) : Prop := ∃ rows : List Reg.Row, RdReg W v rows ∧ RBd rows
section
variable {H : Type} {enc : TypeId × Value → H} {W : World} {base : Nat} {spare : Nat → Bool} {held : Bool} {r : Reach} {b0 : Nat} {v : Value} {d : DataW H} {ps : List MemPlace}
theorem slice_max {α : Type} {k : Nat} {en : α → List Value} {t e : TypeId} (ht : Try.prog.underlying t = some (.slice e)) {fuel : Nat} {x : DataW H × List MemPlace} (h : DataW.trod enc Try.prog W 0 spare held fuel t [v] = some x) {l : List α} (hl : Rd k en W v l) : l.length ≤ 9223372036854775807 := by
  obtain ⟨A, cap, rfl, _⟩ := hl.open_
  rcases Go.Deep.open_slice ht h with ⟨hc, _⟩ | ⟨a, len, cap, m, n, D, Pl, hc, _, h1, h2, _⟩
  · simp at hc
    omega
  · simp at hc
    have : cap ≤ 2 ^ 63 - 1 := h2
    omega
theorem trod_rowB {fuel : Nat} {cs : List Value} {x : DataW H × List MemPlace} (h : DataW.trod enc Try.prog W 0 spare held fuel 47 cs = some x) : ∃ p : RowH, cs = encRow p ∧ ∃ l, Rd 2 encRun W (rsl p) l ∧ l.length ≤ 9223372036854775807 := by
  obtain ⟨y0, y1, n, _, hl, t0, t1⟩ := trod_struct2 Try.underlying47 h
  have hc : Try.prog.cellsOf 47 = 2 := by kernel_rfl
  have hi : Try.prog.cellsOf 3 = 1 := by kernel_rfl
  have hj : Try.prog.cellsOf 45 = 1 := by kernel_rfl
  rw [hc] at hl
  match cs, hl with
  | [c0, c1], _ =>
    simp only [hi, hj] at t0 t1
    obtain ⟨n0, e0, _, w0⟩ := DataW.trod_int Try.underlying3 t0
    simp at e0 t1
    subst e0
    obtain ⟨l, hrd⟩ := runs_rd t1
    have hm := slice_max Try.underlying45 t1 hrd
    obtain ⟨A, cap, rfl, _⟩ := hrd.open_
    exact ⟨(n0, A, l.length, cap), rfl, l, hrd, hm⟩
theorem nest_ofB {hs : List RowH} (h : ∀ p ∈ hs, ∃ l, Rd 2 encRun W (rsl p) l ∧ l.length ≤ 9223372036854775807) : ∃ rows : List Reg.Row, NestAt rsl rtag 2 encRun (fun w : Reg.Row => w.2) W hs rows ∧ ∀ w ∈ rows, w.2.length ≤ 9223372036854775807 := by
  induction hs with
  | nil => exact ⟨[], ⟨rfl, fun i h x hh => by simp at hh⟩, by simp⟩
  | cons p hs ih =>
    obtain ⟨rows, ⟨h1, h2⟩, h3⟩ := ih (fun q hq => h q (by simp [hq]))
    obtain ⟨l, hl, hm⟩ := h p (by simp)
    refine ⟨(p.1, l) :: rows, ⟨by simp [h1], fun i q x hq hx => ?_⟩, ?_⟩
    · match i, hq, hx with
      | 0, hq, hx => simp at hq hx; subst hq hx; exact ⟨rfl, hl⟩
      | i + 1, hq, hx => exact h2 i q x (by simpa using hq) (by simpa using hx)
    · intro w hw
      rcases List.mem_cons.1 hw with rfl | hw
      · exact hm
      · exact h3 w hw
theorem rows_rdB {fuel : Nat} {v : Value} {x : DataW H × List MemPlace} (h : DataW.trod enc Try.prog W 0 spare held fuel 22 [v] = some x) : ∃ rows, RdRows W v rows ∧ RBd rows := by
  obtain ⟨hs, h1, h2⟩ := rd_slice (R := fun p : RowH => ∃ l, Rd 2 encRun W (rsl p) l ∧ l.length ≤ 9223372036854775807) Try.underlying22 (by kernel_rfl) (by omega) encRow_len (fun n cs y hy => trod_rowB hy) h
  have hm := slice_max Try.underlying22 h h1
  obtain ⟨rows, h3, h4⟩ := nest_ofB h2
  exact ⟨rows, ⟨hs, h1, h3⟩, h3.1 ▸ hm, h4⟩
theorem trod_regB {fuel : Nat} {cs : List Value} {x : DataW H × List MemPlace} (h : DataW.trod enc Try.prog W 0 spare held fuel 24 cs = some x) : ∃ A n c, cs = [.slice A n c] ∧ IsRegB W (.agg #[.slice A n c]) := by
  obtain ⟨y0, n, _, hl, t0⟩ := trod_struct1 Try.underlying24 h
  have hc : Try.prog.cellsOf 24 = 1 := by kernel_rfl
  have hj : Try.prog.cellsOf 22 = 1 := by kernel_rfl
  rw [hc] at hl
  match cs, hl with
  | [c0], _ =>
    simp only [hj] at t0
    simp at t0
    obtain ⟨rows, hrd, hb⟩ := rows_rdB t0
    obtain ⟨A, cap, rfl, _⟩ := rows_open hrd
    exact ⟨A, rows.length, cap, rfl, rows, ⟨_, rfl, hrd⟩, hb⟩
theorem open_regB (hv : Value.okWide Try.prog W r b0 24 v) (h : DataW.Trod enc Try.prog W 0 spare held 24 v d ps) : IsRegB W v := by
  obtain ⟨cs, rfl, hsz⟩ := okWide_struct Try.underlying24 hv
  obtain ⟨fuel, hf⟩ := h
  obtain ⟨A, n, c, hp, hr⟩ := trod_regB hf
  obtain ⟨l⟩ := cs
  simp only [Value.cells] at hp
  rw [hp]
  exact hr
/-- two regions and a number -/
def IsPair (W : World) (v : Value) : Prop := ∃ (A : Option Addr) (n c : Nat) (B : Option Addr) (m e : Nat) (k : Int), v = .agg #[.slice A n c, .slice B m e, .int .i64 k] ∧ IsRegB W (.agg #[.slice A n c]) ∧ IsRegB W (.agg #[.slice B m e]) ∧ i64 k
theorem open_pair (hv : Value.okWide Try.prog W r b0 35 v) (h : DataW.Trod enc Try.prog W 0 spare held 35 v d ps) : IsPair W v := by
  obtain ⟨cs, rfl, hsz⟩ := okWide_struct Try.underlying35 hv
  obtain ⟨fuel, hf⟩ := h
  obtain ⟨xs, n, _, _, hl, hlen, hfs⟩ := DataW.trod_struct Try.underlying35 hf
  have hc : Try.prog.cellsOf 35 = 3 := by kernel_rfl
  have hi : Try.prog.cellsOf 3 = 1 := by kernel_rfl
  have hj : Try.prog.cellsOf 24 = 1 := by kernel_rfl
  obtain ⟨l⟩ := cs
  simp only [Value.cells] at hl hfs
  rw [hc] at hl
  match l, hl with
  | [c0, c1, c2], _ =>
    match xs, hlen with
    | [y0, y1, y2], _ =>
      have t0 := hfs 0 _ rfl
      have t1 := hfs 1 _ rfl
      have t2 := hfs 2 _ rfl
      simp [hj] at t0
      simp [hj] at t1
      simp [hi] at t2
      obtain ⟨A, n, c, e0, h0⟩ := trod_regB t0
      obtain ⟨B, m, e, e1, h1⟩ := trod_regB t1
      obtain ⟨k, e2, _, w2⟩ := DataW.trod_int Try.underlying3 t2
      simp at e0 e1 e2
      subst e0 e1 e2
      exact ⟨A, n, c, B, m, e, k, rfl, h0, h1, i64_of w2⟩
/-- a region, a number and a cell -/
def IsNear (W : World) (v : Value) : Prop := ∃ (A : Option Addr) (n c : Nat) (k x y : Int), v = .agg #[.slice A n c, .int .i64 k, .int .i64 x, .int .i64 y] ∧ IsRegB W (.agg #[.slice A n c]) ∧ i64 k ∧ i64 x ∧ i64 y
theorem open_near (hv : Value.okWide Try.prog W r b0 40 v) (h : DataW.Trod enc Try.prog W 0 spare held 40 v d ps) : IsNear W v := by
  obtain ⟨cs, rfl, hsz⟩ := okWide_struct Try.underlying40 hv
  obtain ⟨fuel, hf⟩ := h
  obtain ⟨xs, n, _, _, hl, hlen, hfs⟩ := DataW.trod_struct Try.underlying40 hf
  have hc : Try.prog.cellsOf 40 = 4 := by kernel_rfl
  have hi : Try.prog.cellsOf 3 = 1 := by kernel_rfl
  have hj : Try.prog.cellsOf 24 = 1 := by kernel_rfl
  have hk : Try.prog.cellsOf 38 = 2 := by kernel_rfl
  obtain ⟨l⟩ := cs
  simp only [Value.cells] at hl hfs
  rw [hc] at hl
  match l, hl with
  | [c0, c1, c2, c3], _ =>
    match xs, hlen with
    | [y0, y1, y2], _ =>
      have t0 := hfs 0 _ rfl
      have t1 := hfs 1 _ rfl
      have t2 := hfs 2 _ rfl
      simp [hj] at t0
      simp [hi] at t1
      simp [hk] at t2
      obtain ⟨A, n, c, e0, h0⟩ := trod_regB t0
      obtain ⟨k, e1, _, w1⟩ := DataW.trod_int Try.underlying3 t1
      obtain ⟨u0, u1, n2, _, _, s0, s1⟩ := trod_struct2 Try.underlying38 t2
      simp only [hi] at s0 s1
      obtain ⟨x, e2, _, w2⟩ := DataW.trod_int Try.underlying3 s0
      obtain ⟨y, e3, _, w3⟩ := DataW.trod_int Try.underlying3 s1
      simp at e0 e1 e2 e3
      subst e0 e1 e2 e3
      exact ⟨A, n, c, k, x, y, rfl, h0, i64_of w1, i64_of w2, i64_of w3⟩
end
/-- the law's count of runs, wrapping as Go's sum does -/
def heavyN (rows : List Reg.Row) : Nat → Int
  | 0 => 0
  | k + 1 => IntKind.i64.wrap (heavyN rows k + ((((rows[k]?).map fun w => w.2.length).getD 0 : Nat) : Int))
def heavyR (rows : List Reg.Row) : Bool := decide (200 < rows.length) || decide (400 < heavyN rows (min rows.length 300)) || decide (1500 < cntR rows)
theorem heavyN_succ {rows : List Reg.Row} {k : Nat} {r : Reg.Row} (h : rows[k]? = some r) : heavyN rows (k + 1) = IntKind.i64.wrap (heavyN rows k + (r.2.length : Int)) := by simp [heavyN, h]
set_option maxRecDepth 100000 in
set_option maxHeartbeats 8000000 in
theorem heavy_is {b : Bool} (v : Value) (rows : List Reg.Row) (w : World) (h : RdReg w v rows) (hbd : RBd rows) (hb : heavyR rows = b) :
    Calls Try.prog 14 #[v] w fun e w' => e = .returned (.bool b) ∧ Below w.heap.size w w' := by
  subst hb
  have H := Lib.hid h
  have HBD := Lib.hid hbd
  have hlen := hbd.1
  obtain ⟨s, rfl, h⟩ := h
  obtain ⟨A, capA, rfl, hcapA, hopA⟩ := rows_open h
  have HA := Lib.hid hopA
  have HLA := Lib.hid h
  clear hopA h
  clear hbd
  go_enter Try.func14, Try.ntmps14
  go_wp2
  go_loopw [3, 4] (fun n i wr => ∃ k : Nat, k ≤ rows.length ∧ k ≤ 300 ∧ i = .int .i64 k ∧ ∃ m : Int, n = .int .i64 m ∧ Hid (m = heavyN rows k) ∧ ∃ z : Kin (w.alloc (.cells #[.slice A rows.length capA] 24)), z.1 = wr) (fun _ i _ => rows.length - (intOf i).toNat)
  case atStart => exact ⟨0, Nat.zero_le _, Nat.zero_le _, rfl, 0, rfl, Lib.hid rfl, ⟨_, Below.refl _ _⟩, rfl⟩
  case round =>
    obtain ⟨k, hk, hk3, rfl, m, rfl, HM, z, rfl⟩ := hrel
    by_cases hlt : k < rows.length
    · by_cases h3 : k < 300
      · obtain ⟨r, hr⟩ : ∃ el_, (rows)[k]? = some el_ := ⟨_, List.getElem?_eq_getElem (by first | exact hlt | omega)⟩
        obtain ⟨bA, offA, ⟨⟩, hbA, hcA⟩ := HA.out (k) _ hr
        have hbA2 : bA < w.heap.size + 1 := by omega
        have HAc := Lib.hid hcA
        clear hcA
        obtain ⟨S, capS, r_0, r_1, hcapS, hrS⟩ := HAc.out (k) r hr
        have HLS := Lib.hid hrS
        have Hr := Lib.hid hr
        clear hr hrS
        go_wp2
        go_roundw
        case rel => exact ⟨k + 1, by omega, by omega, by go_num, _, rfl, Lib.hid (by rw [heavyN_succ Hr.out, HM.out, IntWalk.i64_left]), z, rfl⟩
        case measure => simp [intOf]; omega
      · have HE := Lib.hid (show m = heavyN rows (min rows.length 300) from by rw [HM.out]; congr 1; omega)
        go_wp2_with (go_at_call 38; (with_reducible refine (Kin.callK (W := w) (by repeat (first | with_reducible (first | exact blA | exact blB | refine blC _ ?_ | refine blD ?_ ?_ _ | refine blE ?_ | refine blF _ ?_ | refine blG ?_ _ | refine blH ?_ | refine blI ?_ ?_ _) | (simp only [World.size_alloc]; omega) | (simp <;> omega))) (count18_any _ rows _ (H.out.below (by repeat (first | with_reducible (first | exact blA | exact blB | refine blC _ ?_ | refine blD ?_ ?_ _ | refine blE ?_ | refine blF _ ?_ | refine blG ?_ _ | refine blH ?_ | refine blI ?_ ?_ _) | (simp only [World.size_alloc]; omega) | (simp <;> omega)))) HBD.out)).mono ?_); rintro e w' ⟨z, rfl, hz, rfl⟩)
        all_goals
          go_ret
          exact ⟨ret_bool (by unfold heavyR; rw [← HE.out]; by_cases h1 : 200 < rows.length <;> by_cases h2 : 400 < m <;> (first | omega | (simp [h1, h2]; done) | (simp [h1, h2]; omega) | (simp [h1, h2]; intro h3; omega))), (by repeat (first | with_reducible (first | exact blA | exact blB | refine blC _ ?_ | refine blD ?_ ?_ _ | refine blE ?_ | refine blF _ ?_ | refine blG ?_ _ | refine blH ?_ | refine blI ?_ ?_ _) | (simp only [World.size_alloc]; omega) | (simp <;> omega)))⟩
    · have HE := Lib.hid (show m = heavyN rows (min rows.length 300) from by rw [HM.out]; congr 1; omega)
      go_wp2_with (go_at_call 38; (with_reducible refine (Kin.callK (W := w) (by repeat (first | with_reducible (first | exact blA | exact blB | refine blC _ ?_ | refine blD ?_ ?_ _ | refine blE ?_ | refine blF _ ?_ | refine blG ?_ _ | refine blH ?_ | refine blI ?_ ?_ _) | (simp only [World.size_alloc]; omega) | (simp <;> omega))) (count18_any _ rows _ (H.out.below (by repeat (first | with_reducible (first | exact blA | exact blB | refine blC _ ?_ | refine blD ?_ ?_ _ | refine blE ?_ | refine blF _ ?_ | refine blG ?_ _ | refine blH ?_ | refine blI ?_ ?_ _) | (simp only [World.size_alloc]; omega) | (simp <;> omega)))) HBD.out)).mono ?_); rintro e w' ⟨z, rfl, hz, rfl⟩)
      all_goals
        go_ret
        exact ⟨ret_bool (by unfold heavyR; rw [← HE.out]; by_cases h1 : 200 < rows.length <;> by_cases h2 : 400 < m <;> (first | omega | (simp [h1, h2]; done) | (simp [h1, h2]; omega) | (simp [h1, h2]; intro h3; omega))), (by repeat (first | with_reducible (first | exact blA | exact blB | refine blC _ ?_ | refine blD ?_ ?_ _ | refine blE ?_ | refine blF _ ?_ | refine blG ?_ _ | refine blH ?_ | refine blI ?_ ?_ _) | (simp only [World.size_alloc]; omega) | (simp <;> omega)))⟩
end Go.Proofs.Ytjppaknajdbkgaa
/- The chapter's examples of the morphology, reckoned. -/
namespace Go.Proofs.Ytjppaknajdbkgaa
set_option linter.unusedSimpArgs false
set_option linter.unusedVariables false
open Runs Reg
set_option maxRecDepth 100000
def rectL (x y w : Int) (n : Nat) : List (Int × Int) := (List.range n).map fun (i : Nat) => (x + Int.tmod (i : Int) w, y + Int.tdiv (i : Int) w)
theorem rectL_succ (x y w : Int) (n : Nat) : rectL x y w (n + 1) = rectL x y w n ++ [(x + Int.tmod (n : Int) w, y + Int.tdiv (n : Int) w)] := by simp [rectL, List.range_succ]
theorem rectL_len (x y w : Int) (n : Nat) : (rectL x y w n).length = n := by simp [rectL]
def r11 : List Reg.Row := [(0, [(0, 1)])]
def r1f : List Reg.Row := [(0, [(4095, 4096)])]
def r33 : List Reg.Row := [(0, [(0, 3)]), (1, [(0, 3)]), (2, [(0, 3)])]
def r31 : List Reg.Row := [(1, [(3, 4)])]
def r21 : List Reg.Row := [(0, [(2, 3)])]
def rm3 : List Reg.Row := [(-1, [(-1, 2)]), (0, [(-1, 2)]), (1, [(-1, 2)])]
def r44 : List Reg.Row := [(0, [(0, 4)]), (1, [(0, 4)]), (2, [(0, 4)]), (3, [(0, 4)])]
def r3x1 : List Reg.Row := [(0, [(0, 3)])]
def rtail : List Reg.Row := [(0, [(0, 3)]), (1, [(0, 4)]), (2, [(0, 3)])]
def rtwo : List Reg.Row := [(0, [(0, 1), (2, 3)])]
def rfive : List Reg.Row := [(-1, [(0, 1)]), (0, [(-1, 2)]), (1, [(0, 1)])]
def rmore : List Reg.Row := [(-2, [(0, 1)]), (-1, [(-1, 2)]), (0, [(-2, 3)]), (1, [(-1, 2)]), (2, [(0, 1)])]
theorem of_r11 : ofR (rectL 0 0 1 1) = r11 := of_decide_eq_true (by kernel_rfl)
theorem of_r1f : ofR (rectL 4095 0 1 1) = r1f := of_decide_eq_true (by kernel_rfl)
theorem of_r33 : ofR (rectL 0 0 3 9) = r33 := of_decide_eq_true (by kernel_rfl)
theorem of_r31 : ofR (rectL 3 1 1 1) = r31 := of_decide_eq_true (by kernel_rfl)
theorem of_r21 : ofR (rectL 2 0 1 1) = r21 := of_decide_eq_true (by kernel_rfl)
theorem of_rm3 : ofR (rectL (-1) (-1) 3 9) = rm3 := of_decide_eq_true (by kernel_rfl)
theorem of_r44 : ofR (rectL 0 0 4 16) = r44 := of_decide_eq_true (by kernel_rfl)
theorem of_r3x1 : ofR (rectL 0 0 3 3) = r3x1 := of_decide_eq_true (by kernel_rfl)
theorem aw_dil : dilE r11 1 = 0 ∧ dilR r11 1 = rm3 := of_decide_eq_true (by kernel_rfl)
theorem aw_far : dilE r1f 1 = 8 := of_decide_eq_true (by kernel_rfl)
theorem aw_tail : rop (opf 2) r33 r31 = rtail := of_decide_eq_true (by kernel_rfl)
theorem aw_five : dcrR r11 1 = rfive := of_decide_eq_true (by kernel_rfl)
theorem aw_more : dilE rfive 1 = 0 ∧ dcrR rfive 1 = rmore := of_decide_eq_true (by kernel_rfl)
theorem aw_two : rop (opf 2) r11 r21 = rtwo := of_decide_eq_true (by kernel_rfl)
theorem aw_clo1 : dilE rtwo 1 = 0 := of_decide_eq_true (by kernel_rfl)
theorem rtwo_mem {x y : Int} : memC rtwo x y = true ↔ y = 0 ∧ (x = 0 ∨ x = 2) := by
  simp [memC, rtwo, mem, inR]
  omega
theorem rbig_mem {x y : Int} : memC [(-1, [(-1, 4)]), (0, [(-1, 4)]), (1, [(-1, 4)])] x y = true ↔ -1 ≤ y ∧ y ≤ 1 ∧ -1 ≤ x ∧ x < 4 := by
  simp [memC, mem, inR]
  omega
theorem aw_clo2 : dilR rtwo 1 = [(-1, [(-1, 4)]), (0, [(-1, 4)]), (1, [(-1, 4)])] := by
  refine reg_ext (dilR_valid _ _) (by decide) fun x y => ?_
  rw [dilR_mem aw_clo1, rbig_mem]
  constructor
  · rintro ⟨j, i, h1, h2, h3, h4, h5⟩
    have := rtwo_mem.1 h5
    omega
  · rintro ⟨h1, h2, h3, h4⟩
    by_cases h5 : x ≤ 1
    · exact ⟨0, 0, by omega, by omega, by omega, by omega, rtwo_mem.2 ⟨rfl, .inl rfl⟩⟩
    · exact ⟨0, 2, by omega, by omega, by omega, by omega, rtwo_mem.2 ⟨rfl, .inr rfl⟩⟩
theorem aw_clo3 : eroR [(-1, [(-1, 4)]), (0, [(-1, 4)]), (1, [(-1, 4)])] 1 = r3x1 := of_decide_eq_true (by kernel_rfl)
theorem aw_clo : dilE rtwo 1 = 0 ∧ cloR rtwo 1 = r3x1 := ⟨aw_clo1, by unfold cloR; rw [if_pos aw_clo1, aw_clo2, aw_clo3]⟩
theorem aw_ero : eroR rm3 1 = r11 := of_decide_eq_true (by kernel_rfl)
theorem aw_opn : opnR rtail 1 = r33 := of_decide_eq_true (by kernel_rfl)
theorem aw_ring : cntR (rop (opf 0) r44 (eroR r44 1)) = 12 := of_decide_eq_true (by kernel_rfl)
theorem aw_n5 : cntR rfive = 5 := of_decide_eq_true (by kernel_rfl)
theorem aw_n13 : cntR rmore = 13 := of_decide_eq_true (by kernel_rfl)
theorem aw_ecr : ecrR rmore 1 = rfive := of_decide_eq_true (by kernel_rfl)
end Go.Proofs.Ytjppaknajdbkgaa
