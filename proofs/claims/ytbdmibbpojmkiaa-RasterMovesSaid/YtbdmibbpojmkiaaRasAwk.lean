/- The chapter's example; the law's arguments. -/
import Derived.Test.YtbdmibbpojmkiaaRasProg
import Derived.Test.YtbdmibbpojmkiaaRasBoxM
import Derived.Test.YtbdmibbpojmkiaaRunsB
import Derived.Test.YtbdmibbpojmkiaaRegGen
namespace Go.Proofs.Ytbdmibbpojmkiaa
set_option linter.unusedSimpArgs false
set_option linter.unusedVariables false
set_option maxRecDepth 100000
open Go.ChangeShapes Go.WideShapes Go.ChangeAt Go.RowKit Go.Joins Runs Reg Ras
attribute [local go_sem] Kin.cell Kin.frozen Kin.lt0 Kin.lt1 Kin.lt2 Kin.lt3 run_mkf
theorem pols_one {W : World} {v : Value} {A : Option Addr} {n c : Nat} {o : List P2} (h : Rd 1 encPol W v [((A, n, c) : PolH)]) (ho : Rd 2 encPt W (.slice A n c) o) : RdPols W v [o] :=
  ⟨[(A, n, c)], h, rfl, fun i p x hp hx => by
    match i, hp, hx with
    | 0, hp, hx => simp at hp hx; subst hp hx; exact ⟨trivial, ho⟩
    | i + 1, hp, hx => simp at hp⟩
theorem pols4 (w : World) (a b c d : P2) : RdPols ((w.alloc (.cells #[.int .i64 a.1, .int .i64 a.2, .int .i64 b.1, .int .i64 b.2, .int .i64 c.1, .int .i64 c.2, .int .i64 d.1, .int .i64 d.2] 24)).alloc (.cells #[.slice (some ⟨w.heap.size, 0, none⟩) 4 4] 40)) (.slice (some ⟨w.heap.size + 1, 0, none⟩) 1 1) [[a, b, c, d]] := by
  have h1 : Rd 2 encPt (w.alloc (.cells #[.int .i64 a.1, .int .i64 a.2, .int .i64 b.1, .int .i64 b.2, .int .i64 c.1, .int .i64 c.2, .int .i64 d.1, .int .i64 d.2] 24)) (.slice (some ⟨w.heap.size, 0, none⟩) 4 4) [a, b, c, d] :=
    rd_lit w encPt_len 24 [a, b, c, d] rfl (by simp [maxLen]) rfl rfl
  have h2 : Rd 1 encPol ((w.alloc (.cells #[.int .i64 a.1, .int .i64 a.2, .int .i64 b.1, .int .i64 b.2, .int .i64 c.1, .int .i64 c.2, .int .i64 d.1, .int .i64 d.2] 24)).alloc (.cells #[.slice (some ⟨w.heap.size, 0, none⟩) 4 4] 40)) (.slice (some ⟨w.heap.size + 1, 0, none⟩) 1 1) [((some ⟨w.heap.size, 0, none⟩, 4, 4) : PolH)] :=
    rd_lit _ encPol_len 40 [((some ⟨w.heap.size, 0, none⟩, 4, 4) : PolH)] rfl (by simp [maxLen]) (by simp) rfl
  exact pols_one h2 (h1.below (Below.alloc (Below.refl _ _) (Nat.le_refl _) _))
theorem rd_run2 (w : World) (o : Obj) (a b : Int) : Rd 2 encRun ((w.alloc o).alloc (.cells #[.int .i64 a, .int .i64 b] 46)) (.slice (some ⟨w.heap.size + 1, 0, none⟩) 1 1) [(a, b)] := rd_one (w.alloc o) encRun_len _ (a, b) _ rfl (by simp)
theorem reg_row {W : World} {A : Option Addr} {n c : Nat} {rows : List Reg.Row} (h : RdReg W (.agg #[.slice A n c]) rows) : n = rows.length ∧ ∀ (i : Nat) (r : Reg.Row), rows[i]? = some r →
    ∃ b off, A = some ⟨b, off, none⟩ ∧ b < W.heap.size ∧ ∀ (i : Nat) (r : Reg.Row), rows[i]? = some r → ∃ (S : Option Addr) (k : Nat), W.cell? ⟨b, off + i * 2, none⟩ = some (.int .i64 r.1) ∧ W.cell? ⟨b, off + i * 2 + 1, none⟩ = some (.slice S r.2.length k) ∧ r.2.length ≤ k ∧ Rd 2 encRun W (.slice S r.2.length k) r.2 := by
  obtain ⟨A', cap, e⟩ := h.slice_
  injection e with e
  have e2 : (Value.slice A n c) = .slice A' rows.length cap := by
    have := congrArg (fun a : Array Value => a[0]?) e
    simpa using this
  injection e2 with e3 e4 e5
  subst e3 e4 e5
  obtain ⟨s, e, hr⟩ := h
  injection e with e
  have e2 : s = .slice A rows.length c := by
    have := congrArg (fun a : Array Value => a[0]?) e
    simpa using this.symm
  subst e2
  refine ⟨rfl, fun i r hir => ?_⟩
  obtain ⟨b, off, hA, hb, hc⟩ := rows_op hr i r hir
  exact ⟨b, off, hA, hb, fun i r hir => by
    obtain ⟨S, k, h0, h1, h2, h3⟩ := hc i r hir
    exact ⟨S, k, h0, h1, h2, h3⟩⟩
theorem raster_is {E : Int} {R : List Reg.Row} (v : Value) (l : List (List P2)) (p : Int) (w : World) (h : RdPols w v l) (hf : FewP l) (hE : rasE l p = E) (hR : rasO l p = R) :
    Calls Try.prog 13 #[v, .int .i64 p] w fun e w' => (∃ A n c, e = .returned (.tuple #[.agg #[.slice A n c], .int .i64 E]) ∧ RdReg w' (.agg #[.slice A n c]) R) ∧ Below w.heap.size w w' := by subst hE hR; exact raster_any v l p w h hf
theorem rasCenter_is {c : P2} (x y p : Int) (w : World) (hc : cenR x y p = c) :
    Calls Try.prog 9 #[.agg #[.int .i64 x, .int .i64 y], .int .i64 p] w fun e w' => e = .returned (.agg #[.int .i64 c.1, .int .i64 c.2]) ∧ Below w.heap.size w w' := by subst hc; exact rasCenter_any x y p w
theorem same06_t {a b : List Run} (v u : Value) (w : World) (ha : Rd 2 encRun w v a) (hb : Rd 2 encRun w u b) (hlen : a.length ≤ 1099511627776) (he : a = b) :
    Calls Try.prog 16 #[v, u] w fun e w' => e = .returned (.bool true) ∧ Below w.heap.size w w' := by
  have := same_any v u a b w ha hb hlen (by rw [← he]; exact hlen)
  rwa [decide_eq_true he] at this
def awkL : List (List P2) := ccwP 0 0 2 1 100
theorem awkL_is : awkL = [[(0, 0), (200, 0), (200, 100), (0, 100)]] := rfl
theorem awk_E : rasE [[(0, 0), (200, 0), (200, 100), (0, 100)]] 100 = 0 := by decide
theorem awk_few : FewP [[(0, 0), (200, 0), (200, 100), (0, 100)]] := by unfold FewP; decide
theorem awk_R : rasO [[(0, 0), (200, 0), (200, 100), (0, 100)]] 100 = [(0, [(0, 2)])] := by
  unfold rasO
  rw [if_pos awk_E, ← awkL_is]
  exact ras_ccw (X := 0) (Y := 0) (W := 2) (n := 1) (p := 100) (by omega) (by omega) (by omega) (by omega) (by omega)
set_option maxHeartbeats 4000000 in
theorem awake19_any (w : World) : Calls Try.prog 11 #[] w fun e w' => e = .returned (.bool true) ∧ Below w.heap.size w w' := by
  go_enter Try.func11, Try.ntmps11
  go_wp2_with (first
    | (go_at_call 13; (with_reducible refine (Kin.callK (W := w) (by repeat (first | with_reducible (first | exact blA | exact blB | refine blC _ ?_ | refine blD ?_ ?_ _ | refine blE ?_ | refine blF _ ?_ | refine blG ?_ _ | refine blH ?_ | refine blI ?_ ?_ _) | (simp only [World.size_alloc]; omega) | (simp <;> omega))) (raster_is _ [[(0, 0), (200, 0), (200, 100), (0, 100)]] 100 _ (pols4 w (0, 0) (200, 0) (200, 100) (0, 100)) awk_few awk_E awk_R)).mono ?_); rintro e w' ⟨z, ⟨A, n, c, rfl, hr⟩, hz, rfl⟩; (obtain ⟨rfl, hop⟩ := reg_row hr; obtain ⟨b, off, rfl, hb, hc⟩ := hop 0 _ rfl; obtain ⟨S, cS, r0, r1, hcS, hS⟩ := hc 0 _ rfl; (try simp only [Nat.zero_mul, Nat.add_zero] at r0 r1); have HS := Lib.hid (show Rd 2 encRun (Kin.wd z) (.slice S 1 cS) [(0, 2)] from hS); have r1 : (Kin.wd z).cell? ⟨b, off + 1, none⟩ = some (.slice S 1 cS) := r1; clear hop hc hS hr))
    | (go_at_call 16; (with_reducible refine (Kin.callK (W := w) (by repeat (first | with_reducible (first | exact blA | exact blB | refine blC _ ?_ | refine blD ?_ ?_ _ | refine blE ?_ | refine blF _ ?_ | refine blG ?_ _ | refine blH ?_ | refine blI ?_ ?_ _) | (simp only [World.size_alloc]; omega) | (simp <;> omega))) (same06_t (a := [(0, 2)]) (b := [(0, 2)]) _ _ _ (HS.out.below (by repeat (first | with_reducible (first | exact blA | exact blB | refine blC _ ?_ | refine blD ?_ ?_ _ | refine blE ?_ | refine blF _ ?_ | refine blG ?_ _ | refine blH ?_ | refine blI ?_ ?_ _) | (simp only [World.size_alloc]; omega) | (simp <;> omega)))) (rd_run2 (Kin.wd z) _ 0 2) (by simp) rfl)).mono ?_); rintro e w' ⟨z, rfl, hz, rfl⟩)
    | (go_at_call 9; (with_reducible refine (Kin.callK (W := w) (by repeat (first | with_reducible (first | exact blA | exact blB | refine blC _ ?_ | refine blD ?_ ?_ _ | refine blE ?_ | refine blF _ ?_ | refine blG ?_ _ | refine blH ?_ | refine blI ?_ ?_ _) | (simp only [World.size_alloc]; omega) | (simp <;> omega))) (rasCenter_is (c := (50, -50)) _ _ _ _ (by decide))).mono ?_); rintro e w' ⟨z, rfl, hz, rfl⟩))
  go_ret
  exact ⟨rfl, (by repeat (first | with_reducible (first | exact blA | exact blB | refine blC _ ?_ | refine blD ?_ ?_ _ | refine blE ?_ | refine blF _ ?_ | refine blG ?_ _ | refine blH ?_ | refine blI ?_ ?_ _) | (simp only [World.size_alloc]; omega) | (simp <;> omega)))⟩
def IsCell (v : Value) : Prop := ∃ x y : Int, v = .agg #[.int .i64 x, .int .i64 y]
section
variable {H : Type} {enc : TypeId × Value → H} {W : World} {base : Nat} {spare : Nat → Bool} {held : Bool} {r : Reach} {b0 : Nat} {v : Value} {d : DataW H} {ps : List MemPlace}
theorem open_cell (hv : Value.okWide Try.prog W r b0 23 v) (h : DataW.Trod enc Try.prog W base spare held 23 v d ps) : IsCell v := by
  obtain ⟨cs, rfl, hsz⟩ := okWide_struct Try.underlying23 hv
  obtain ⟨fuel, hf⟩ := h
  obtain ⟨y0, y1, n, _, hl, t0, t1⟩ := trod_struct2 Try.underlying23 hf
  have hc : Try.prog.cellsOf 23 = 2 := by kernel_rfl
  have hi : Try.prog.cellsOf 3 = 1 := by kernel_rfl
  obtain ⟨l⟩ := cs
  simp only [Value.cells] at hl t0 t1
  rw [hc] at hl
  match l, hl with
  | [c0, c1], _ =>
    simp only [hi] at t0 t1
    obtain ⟨n0, e0, _, w0⟩ := DataW.trod_int Try.underlying3 t0
    obtain ⟨n1, e1, _, w1⟩ := DataW.trod_int Try.underlying3 t1
    simp at e0 e1
    subst e0 e1
    exact ⟨n0, n1, rfl⟩
end
end Go.Proofs.Ytbdmibbpojmkiaa
