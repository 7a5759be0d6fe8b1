/- Lemmas: WalM. -/
import Derived.Test.YtneelidbgigehaaGreatT21
import Derived.Test.YtneelidbgigehaaGreatT29
import Derived.Test.YtneelidbgigehaaGreatT33
import Derived.Test.YtneelidbgigehaaGreatT22
/- What the law of the walls asks, in plain words. -/
/- What the law of the walls asks, in plain words. -/
namespace Go.Proofs.YtneelidbgigehaaGreat
set_option linter.unusedSimpArgs false
set_option linter.unusedVariables false
set_option maxRecDepth 100000
namespace Wal
open Trc (Leg trail walkL ckR cel wcs crk)
open Trk (Tr Cl tval okc oncT)
open Runs Reg
abbrev Sub (a b : List Reg.Row) : Prop := ∀ x y, memC a x y = true → memC b x y = true
/-- the walks along the boundary of a region -/
def WkL (rows : List Reg.Row) (ts : List Tr) : Prop :=
  ∃ Ls : List (List Leg), IsTr rows (Ls.map fun L => L.map (·.1)) ∧ (∀ L ∈ Ls, Trc.Loop (cel rows) L) ∧ (ckR rows).Perm (Ls.flatMap trail) ∧ ts = Ls.map fun L => ((1, true), walkL L)
/-- a cell on the way of a walk -/
def wkC (rows : List Reg.Row) (c : Cl) : Prop := ∃ k ∈ ckR rows, c ∈ wcs (cel rows) k
theorem cel_ok {rows : List Reg.Row} (hv : VReg rows) (c : Cl) (h : cel rows c = true) : okc c = true := by
  obtain ⟨w, hw, e, hm⟩ := memC_iff.1 h
  have a1 := hv.1 w hw
  have a2 := okC_iff.1 a1.1
  have a3 := sepIn_mem (fine_sepIn.1 a1.2).1 hm
  rw [e] at a2
  rw [Trk.okc_iff]
  omega
theorem isTr_loops {rows : List Reg.Row} {os : List (List Trc.Pt)} (hv : VReg rows) (h : IsTr rows os) :
    ∃ Ls : List (List Leg), os = Ls.map (fun L => L.map (·.1)) ∧ (∀ L ∈ Ls, Trc.Loop (cel rows) L) ∧ (ckR rows).Perm (Ls.flatMap trail) := by
  obtain ⟨cs, h1, h2, rfl⟩ := h
  exact Trc.trace_spec (cel rows) cs (ckR rows) h1 (Trc.ckR_nodup hv) (Trc.ckR_crk hv) (Trc.ckR_closed hv) fun c hc => (h2 c.1).2 ⟨c.2, hc⟩
theorem flat_len {α β : Type} {f : α → List β} {l : List α} {a : α} (h : a ∈ l) : (f a).length ≤ (l.flatMap f).length := by
  obtain ⟨s, t, rfl⟩ := List.append_of_mem h
  simp; omega
theorem flat_count {α β : Type} {f : α → List β} : ∀ {l : List α}, (∀ a ∈ l, 0 < (f a).length) → l.length ≤ (l.flatMap f).length
  | [], _ => by simp
  | a :: l, h => by
    have := h a (by simp)
    have := flat_count (f := f) (l := l) fun b hb => h b (by simp [hb])
    simp only [List.flatMap_cons, List.length_append, List.length_cons]; omega
theorem trail_pos {S : Trc.Pt → Bool} {L : List Leg} (hL : Trc.Loop S L) : 0 < (trail L).length := by
  obtain ⟨x, y, h1, _, _, h4, _, _⟩ := Trc.loop_next hL (i := 0) (List.length_pos_iff.2 hL.ne)
  have := flat_len (f := Trc.legC) (List.mem_of_getElem? h1 : x ∈ L)
  have e : (Trc.legC x).length = x.2.2 := by simp [Trc.legC]
  unfold trail
  omega
theorem wkL_spec {rows : List Reg.Row} {ts : List Tr} (hv : VReg rows) (hc : (ckR rows).length ≤ 32768) (h : WkL rows ts) :
    (∀ t ∈ ts, tval t = true) ∧ (∀ c, (∃ t ∈ ts, c ∈ t.2) ↔ wkC rows c) ∧ ts.length ≤ (ckR rows).length := by
  obtain ⟨Ls, h1, h2, h3, rfl⟩ := h
  have hl := h3.length_eq
  have hw : ∀ L ∈ Ls, tval ((1, true), walkL L) = true ∧ ∀ c, c ∈ walkL L ↔ ∃ k ∈ trail L, c ∈ wcs (cel rows) k := fun L hL =>
    Trc.walkL_val (h2 L hL) (cel_ok hv) (by have := flat_len (f := trail) hL; omega)
  refine ⟨fun t ht => ?_, fun c => ?_, ?_⟩
  · obtain ⟨L, hL, rfl⟩ := List.mem_map.1 ht
    exact (hw L hL).1
  · constructor
    · rintro ⟨t, ht, hc⟩
      obtain ⟨L, hL, rfl⟩ := List.mem_map.1 ht
      obtain ⟨k, hk, hkc⟩ := ((hw L hL).2 c).1 hc
      exact ⟨k, h3.mem_iff.2 (List.mem_flatMap.2 ⟨L, hL, hk⟩), hkc⟩
    · rintro ⟨k, hk, hkc⟩
      obtain ⟨L, hL, hk⟩ := List.mem_flatMap.1 (h3.mem_iff.1 hk)
      exact ⟨_, List.mem_map.2 ⟨L, hL, rfl⟩, ((hw L hL).2 c).2 ⟨k, hk, hkc⟩⟩
  · rw [List.length_map, hl]
    exact flat_count fun L hL => trail_pos (h2 L hL)
/-- the cells of a walk lie in the region, beside a cell outside -/
theorem wk_in {rows : List Reg.Row} (hv : rvalid rows = true) {c : Cl} (h : wkC rows c) : memC rows c.1 c.2 = true ∧ memC (eroR rows 1) c.1 c.2 = false := by
  obtain ⟨k, hk, hc⟩ := h
  obtain ⟨h1, d, h2, h3, h4, h5, h6⟩ := Trc.wcs_edge (Trc.ckR_crk (rvalid_iff.1 hv) k hk) hc
  refine ⟨h1, ?_⟩
  cases e : memC (eroR rows 1) c.1 c.2 with
  | false => rfl
  | true =>
    have := (eroR_mem (by decide) hv c.1 c.2).1 e d.2 d.1 (by omega) (by omega) (by omega) (by omega)
    unfold cel at h2
    rw [this] at h2; cases h2
theorem ero_zero {rows : List Reg.Row} (hv : rvalid rows = true) : eroR rows 0 = rows :=
  reg_ext (eroR_valid _ _) hv fun x y => by
    rw [eroR_mem (by decide) hv]
    constructor
    · intro h; exact h y x (by omega) (by omega) (by omega) (by omega)
    · intro h j i h1 h2 h3 h4
      rw [show j = y from by omega, show i = x from by omega]; exact h
theorem ero_dec {rows : List Reg.Row} (hv : rvalid rows = true) {i j : Int} (h0 : 0 ≤ i) (hij : i ≤ j) (hj : j ≤ 64) : Sub (eroR rows j) (eroR rows i) := fun x y h =>
  (eroR_mem (reach_iff.2 ⟨h0, by omega⟩) hv x y).2 fun a b h1 h2 h3 h4 => (eroR_mem (reach_iff.2 ⟨by omega, hj⟩) hv x y).1 h a b (by omega) (by omega) (by omega) (by omega)
theorem ero_sub {rows : List Reg.Row} (hv : rvalid rows = true) {j : Int} (h0 : 0 ≤ j) (hj : j ≤ 64) : Sub (eroR rows j) rows := by
  have := ero_dec hv (Int.le_refl 0) h0 hj
  rwa [ero_zero hv] at this
theorem cnt_mono {a b : List Reg.Row} (ha : rvalid a = true) (hb : rvalid b = true) (h : Sub a b) : cntR a ≤ cntR b := by
  rw [← cellsR_len, ← cellsR_len]
  have := nodup_len (cellsR a) (cellsR b) (cellsR_nodup a) fun c hc => mem_cellsR.2 ⟨hb, h _ _ (mem_cellsR.1 hc).2⟩
  omega
theorem ck_ero {rows : List Reg.Row} (hv : rvalid rows = true) (hn : cntR rows ≤ 200) {j : Int} (h0 : 0 ≤ j) (hj : j ≤ 64) : (ckR (eroR rows j)).length ≤ 800 := by
  have h1 := ck_len (rvalid_iff.1 (eroR_valid rows j))
  have h2 := cnt_mono (eroR_valid rows j) hv (ero_sub hv h0 hj)
  omega
/-- with 20 walls nothing is left of 200 cells -/
theorem ero_end {rows : List Reg.Row} (hv : rvalid rows = true) (hn : cntR rows ≤ 200) : eroR rows 20 = [] := by
  refine reg_ext (eroR_valid _ _) rvalid_nil fun x y => ?_
  rw [memC_nil]
  constructor
  · intro h
    exfalso
    have hm := (eroR_mem (by decide) hv x y).1 h
    have := nodup_len ((List.range 205).map fun k : Nat => (x + (k % 41 : Nat) - 20, y + (k / 41 : Nat))) (cellsR rows) (by
      unfold List.Nodup
      rw [List.pairwise_map]
      refine List.Pairwise.imp (fun {a b} hab e => hab ?_) (List.nodup_iff_pairwise_ne.1 (List.nodup_range (n := 205)))
      injection e with e1 e2
      omega) (fun c hc => by
      obtain ⟨k, hk, rfl⟩ := List.mem_map.1 hc
      rw [List.mem_range] at hk
      exact mem_cellsR.2 ⟨hv, hm _ _ (by simp; omega) (by simp; omega) (by simp; omega) (by simp; omega)⟩)
    rw [List.length_map, List.length_range] at this
    have := cellsR_len rows
    omega
  · intro h; cases h
/-- the tracks of n walls -/
def Wls (rows : List Reg.Row) (n : Nat) (all : List Tr) : Prop := ∃ tss : List (List Tr), tss.length = n ∧ (∀ (i : Nat) ts, tss[i]? = some ts → WkL (eroR rows i) ts) ∧ all = tss.flatten
theorem wls_nil (rows : List Reg.Row) : Wls rows 0 [] := ⟨[], rfl, fun i ts h => by simp at h, rfl⟩
theorem wls_snoc {rows : List Reg.Row} {n : Nat} {all ts : List Tr} (h : Wls rows n all) (ht : WkL (eroR rows n) ts) : Wls rows (n + 1) (all ++ ts) := by
  obtain ⟨tss, h1, h2, rfl⟩ := h
  refine ⟨tss ++ [ts], by simp [h1], fun i us hi => ?_, by simp⟩
  by_cases e : i < tss.length
  · rw [List.getElem?_append_left e] at hi
    exact h2 i us hi
  · rw [List.getElem?_append_right (by omega)] at hi
    have e2 : i = n := by
      have := (List.getElem?_eq_some_iff.1 hi).1
      simp at this; omega
    subst e2
    rw [h1, Nat.sub_self] at hi
    simp at hi
    rw [← hi]; exact ht
theorem wls_spec {rows : List Reg.Row} (hv : rvalid rows = true) (hn : cntR rows ≤ 200) {n : Nat} (h64 : n ≤ 64) {all : List Tr} (h : Wls rows n all) :
    (∀ t ∈ all, tval t = true) ∧ (∀ c, (∃ t ∈ all, c ∈ t.2) ↔ ∃ i < n, wkC (eroR rows i) c) ∧ all.length ≤ 800 * n := by
  obtain ⟨tss, h1, h2, rfl⟩ := h
  have hw : ∀ (i : Nat) ts, tss[i]? = some ts → (∀ t ∈ ts, tval t = true) ∧ (∀ c, (∃ t ∈ ts, c ∈ t.2) ↔ wkC (eroR rows i) c) ∧ ts.length ≤ 800 := fun i ts hi => by
    have hlt := (List.getElem?_eq_some_iff.1 hi).1
    have hk := ck_ero hv hn (j := i) (by omega) (by omega)
    obtain ⟨a1, a2, a3⟩ := wkL_spec (rvalid_iff.1 (eroR_valid rows i)) (by omega) (h2 i ts hi)
    exact ⟨a1, a2, by omega⟩
  refine ⟨fun t ht => ?_, fun c => ?_, ?_⟩
  · obtain ⟨ts, hts, ht⟩ := List.mem_flatten.1 ht
    obtain ⟨i, hi⟩ := List.getElem?_of_mem hts
    exact (hw i ts hi).1 t ht
  · constructor
    · rintro ⟨t, ht, hc⟩
      obtain ⟨ts, hts, ht⟩ := List.mem_flatten.1 ht
      obtain ⟨i, hi⟩ := List.getElem?_of_mem hts
      exact ⟨i, by have := (List.getElem?_eq_some_iff.1 hi).1; omega, ((hw i ts hi).2.1 c).1 ⟨t, ht, hc⟩⟩
    · rintro ⟨i, hi, hc⟩
      obtain ⟨ts, hts⟩ : ∃ ts, tss[i]? = some ts := ⟨_, List.getElem?_eq_getElem (by omega)⟩
      obtain ⟨t, ht, hc⟩ := ((hw i ts hts).2.1 c).2 hc
      exact ⟨t, List.mem_flatten.2 ⟨ts, List.mem_of_getElem? hts, ht⟩, hc⟩
  · subst h1
    clear h2 h64
    have : ∀ ts ∈ tss, ts.length ≤ 800 := fun ts hts => by
      obtain ⟨i, hi⟩ := List.getElem?_of_mem hts
      exact (hw i ts hi).2.2
    clear hw
    induction tss with
    | nil => simp
    | cons a l ih =>
      have h1 := this a (by simp)
      have h2 := ih fun ts hts => this ts (by simp [hts])
      rw [List.flatten_cons, List.length_append, List.length_cons]; omega
/-- the cover of tracks -/
def cov (l : List Tr) : List Reg.Row := ofR (cellsT l)
theorem cov_valid (l : List Tr) : rvalid (cov l) = true := ofR_valid _
theorem cov_mem (l : List Tr) (x y : Int) : memC (cov l) x y = true ↔ (x, y) ∈ cellsT l := (ofR_spec (cellsT_ok l)).2 x y
theorem cov_of {l : List Tr} (h : ∀ t ∈ l, tval t = true) (x y : Int) : memC (cov l) x y = true ↔ ∃ t ∈ l, (x, y) ∈ t.2 := by
  rw [cov_mem, mem_cellsT]
  constructor
  · rintro ⟨t, ht, _, hc⟩; exact ⟨t, ht, hc⟩
  · rintro ⟨t, ht, hc⟩; exact ⟨t, ht, h t ht, hc⟩
theorem cov_walls {rows : List Reg.Row} (hv : rvalid rows = true) (hn : cntR rows ≤ 200) {n : Nat} (h64 : n ≤ 64) {all : List Tr} (h : Wls rows n all) (x y : Int) :
    memC (cov (oncT all)) x y = true ↔ ∃ i < n, wkC (eroR rows i) (x, y) := by
  obtain ⟨h1, h2, _⟩ := wls_spec hv hn h64 h
  show memC (ofR (cellsT (oncT all))) x y = true ↔ _
  rw [cover_onc]
  exact (cov_of h1 x y).trans (h2 (x, y))
/-- more walls cover more -/
theorem walls_more {rows : List Reg.Row} (hv : rvalid rows = true) (hn : cntR rows ≤ 200) {n : Nat} (h64 : n ≤ 60) {a b : List Tr} (ha : Wls rows n a) (hb : Wls rows (n + 1) b) :
    withinR (cov (oncT a)) (cov (oncT b)) = true :=
  (within_iff (cov_valid _) (cov_valid _)).2 fun x y h => by
    obtain ⟨i, hi, hw⟩ := (cov_walls hv hn (by omega) ha x y).1 h
    exact (cov_walls hv hn (by omega) hb x y).2 ⟨i, by omega, hw⟩
theorem rest_less {rows : List Reg.Row} (hv : rvalid rows = true) {n : Nat} (h64 : n ≤ 60) : withinR (eroR rows ((n + 1 : Nat) : Int)) (eroR rows (n : Int)) = true :=
  (within_iff (eroR_valid _ _) (eroR_valid _ _)).2 (ero_dec hv (by omega) (by omega) (by omega))
/-- the next wall covers what the walk along the rest covers -/
theorem walls_ring {rows : List Reg.Row} (hv : rvalid rows = true) (hn : cntR rows ≤ 200) {n : Nat} (h64 : n ≤ 60) {a b ts : List Tr} (ha : Wls rows n a) (hb : Wls rows (n + 1) b) (ht : WkL (eroR rows (n : Int)) ts) :
    rop (opf 0) (cov (oncT b)) (cov (oncT a)) = cov ts := by
  have hk := ck_ero hv hn (j := (n : Int)) (by omega) (by omega)
  obtain ⟨t1, t2, _⟩ := wkL_spec (rvalid_iff.1 (eroR_valid rows n)) (by omega) ht
  have hs := rop_spec (opf_ff 0) (cov_valid (oncT b)) (cov_valid (oncT a))
  refine reg_ext (rvalid_iff.2 hs.1) (cov_valid _) fun x y => ?_
  have h1 := hs.2 x y
  have h2 := cov_walls hv hn (by omega) hb x y
  have h3 := cov_walls hv hn (by omega) ha x y
  have h4 := (cov_of t1 x y).trans (t2 (x, y))
  rw [h1, h4]
  have e0 : opf 0 (memC (cov (oncT b)) x y) (memC (cov (oncT a)) x y) = true ↔ memC (cov (oncT b)) x y = true ∧ ¬ memC (cov (oncT a)) x y = true := by
    cases memC (cov (oncT b)) x y <;> cases memC (cov (oncT a)) x y <;> simp [opf]
  rw [e0, h2, h3]
  constructor
  · rintro ⟨⟨i, hi, hw⟩, hno⟩
    have : i = n := by
      by_cases e : i < n
      · exact absurd ⟨i, e, hw⟩ hno
      · omega
    rw [← this]; exact hw
  · intro hw
    refine ⟨⟨n, by omega, hw⟩, ?_⟩
    rintro ⟨i, hi, hwi⟩
    have a1 := (wk_in (eroR_valid rows n) hw).1
    have a2 := (wk_in (eroR_valid rows i) hwi).2
    rw [ero_steps (by omega) (by omega) (by omega)] at a2
    have a3 := ero_dec hv (i := (i : Int) + 1) (j := n) (by omega) (by omega) (by omega) _ _ a1
    rw [a3] at a2; cases a2
/-- a square of 5 x 5 cells, and what one wall leaves of it -/
def sq5 : List Reg.Row := [(0, [(0, 5)]), (1, [(0, 5)]), (2, [(0, 5)]), (3, [(0, 5)]), (4, [(0, 5)])]
def sq1 : List Reg.Row := [(1, [(1, 4)]), (2, [(1, 4)]), (3, [(1, 4)])]
theorem sq5_v : VReg sq5 := rvalid_iff.1 (by decide)
theorem sq1_v : VReg sq1 := rvalid_iff.1 (by decide)
theorem mem_sq5 (x y : Int) : memC sq5 x y = true ↔ (0 ≤ y ∧ y < 5) ∧ 0 ≤ x ∧ x < 5 := by
  rw [memC_iff]
  constructor
  · rintro ⟨w, hw, e, hm⟩
    obtain ⟨r, hr, h1, h2⟩ := mem_iff.1 hm
    unfold sq5 at hw
    simp at hw
    rcases hw with rfl | rfl | rfl | rfl | rfl <;> simp at hr <;> subst hr <;> simp at h1 h2 e <;> omega
  · rintro ⟨⟨h1, h2⟩, h3, h4⟩
    refine ⟨(y, [(0, 5)]), ?_, rfl, mem_iff.2 ⟨(0, 5), by simp, h3, h4⟩⟩
    have : y = 0 ∨ y = 1 ∨ y = 2 ∨ y = 3 ∨ y = 4 := by omega
    rcases this with rfl | rfl | rfl | rfl | rfl <;> simp [sq5]
theorem mem_sq1 (x y : Int) : memC sq1 x y = true ↔ (1 ≤ y ∧ y < 4) ∧ 1 ≤ x ∧ x < 4 := by
  rw [memC_iff]
  constructor
  · rintro ⟨w, hw, e, hm⟩
    obtain ⟨r, hr, h1, h2⟩ := mem_iff.1 hm
    unfold sq1 at hw
    simp at hw
    rcases hw with rfl | rfl | rfl <;> simp at hr <;> subst hr <;> simp at h1 h2 e <;> omega
  · rintro ⟨⟨h1, h2⟩, h3, h4⟩
    refine ⟨(y, [(1, 4)]), ?_, rfl, mem_iff.2 ⟨(1, 4), by simp, h3, h4⟩⟩
    have : y = 1 ∨ y = 2 ∨ y = 3 := by omega
    rcases this with rfl | rfl | rfl <;> simp [sq1]
theorem sq5_ero : eroR sq5 1 = sq1 :=
  reg_ext (eroR_valid _ _) (rvalid_iff.2 sq1_v) fun x y => by
    rw [eroR_mem (by decide) (rvalid_iff.2 sq5_v), mem_sq1]
    constructor
    · intro h
      have h1 := (mem_sq5 _ _).1 (h (y - 1) (x - 1) (by omega) (by omega) (by omega) (by omega))
      have h2 := (mem_sq5 _ _).1 (h (y + 1) (x + 1) (by omega) (by omega) (by omega) (by omega))
      omega
    · intro h j i h1 h2 h3 h4
      exact (mem_sq5 _ _).2 (by omega)
def cs5 : List Trc.Pt := [(0, 0), (1, 0), (2, 0), (3, 0), (4, 0), (5, 0), (0, 1), (5, 1), (0, 2), (5, 2), (0, 3), (5, 3), (0, 4), (5, 4), (0, 5), (1, 5), (2, 5), (3, 5), (4, 5), (5, 5)]
theorem sq5_ck : ckR sq5 = [((0, 0), 0), ((1, 0), 0), ((2, 0), 0), ((3, 0), 0), ((4, 0), 0), ((5, 0), 1), ((0, 1), 3), ((5, 1), 1), ((0, 2), 3), ((5, 2), 1), ((0, 3), 3), ((5, 3), 1), ((0, 4), 3), ((1, 5), 2), ((2, 5), 2), ((3, 5), 2), ((4, 5), 2), ((5, 5), 2), ((5, 4), 1), ((0, 5), 3)] := by decide
theorem sq5_tr {os : List (List Trc.Pt)} (h : IsTr sq5 os) : os = [[(0, 0), (5, 0), (5, 5), (0, 5)]] := by
  obtain ⟨cs, hcs, hm, rfl⟩ := h
  have e : cs = cs5 := ltP_ext hcs (by unfold cs5 Trc.ltP; decide) fun p => by
    rw [hm, sq5_ck]
    constructor
    · rintro ⟨h, hh⟩
      have h2 : p ∈ ([((0, 0), 0), ((1, 0), 0), ((2, 0), 0), ((3, 0), 0), ((4, 0), 0), ((5, 0), 1), ((0, 1), 3), ((5, 1), 1), ((0, 2), 3), ((5, 2), 1), ((0, 3), 3), ((5, 3), 1), ((0, 4), 3), ((1, 5), 2), ((2, 5), 2), ((3, 5), 2), ((4, 5), 2), ((5, 5), 2), ((5, 4), 1), ((0, 5), 3)] : List Trc.Ck).map (·.1) := List.mem_map.2 ⟨_, hh, rfl⟩
      have h3 : ∀ q ∈ ([((0, 0), 0), ((1, 0), 0), ((2, 0), 0), ((3, 0), 0), ((4, 0), 0), ((5, 0), 1), ((0, 1), 3), ((5, 1), 1), ((0, 2), 3), ((5, 2), 1), ((0, 3), 3), ((5, 3), 1), ((0, 4), 3), ((1, 5), 2), ((2, 5), 2), ((3, 5), 2), ((4, 5), 2), ((5, 5), 2), ((5, 4), 1), ((0, 5), 3)] : List Trc.Ck).map (·.1), q ∈ cs5 := by decide
      exact h3 p h2
    · intro hp
      have h3 : ∀ q ∈ cs5, q ∈ ([((0, 0), 0), ((1, 0), 0), ((2, 0), 0), ((3, 0), 0), ((4, 0), 0), ((5, 0), 1), ((0, 1), 3), ((5, 1), 1), ((0, 2), 3), ((5, 2), 1), ((0, 3), 3), ((5, 3), 1), ((0, 4), 3), ((1, 5), 2), ((2, 5), 2), ((3, 5), 2), ((4, 5), 2), ((5, 5), 2), ((5, 4), 1), ((0, 5), 3)] : List Trc.Ck).map (·.1) := by decide
      obtain ⟨c, hc, rfl⟩ := List.mem_map.1 (h3 p hp)
      exact ⟨c.2, hc⟩
  rw [e, sq5_ck]
  decide
def loop5 : List Leg := [((0, 0), 0, 5), ((5, 0), 1, 5), ((5, 5), 2, 5), ((0, 5), 3, 5)]
theorem sq5_head {p : Trc.Pt} {h : Int} (hc : crk (cel sq5) p h = true) : (p, h) ∈ ([((0, 0), 0), ((1, 0), 0), ((2, 0), 0), ((3, 0), 0), ((4, 0), 0), ((5, 0), 1), ((0, 1), 3), ((5, 1), 1), ((0, 2), 3), ((5, 2), 1), ((0, 3), 3), ((5, 3), 1), ((0, 4), 3), ((1, 5), 2), ((2, 5), 2), ((3, 5), 2), ((4, 5), 2), ((5, 5), 2), ((5, 4), 1), ((0, 5), 3)] : List Trc.Ck) := by
  rw [← sq5_ck]; exact (Trc.mem_ckR sq5_v).2 hc
theorem sq5_L {L : List Leg} (hL : Trc.Loop (cel sq5) L) (e : L.map (·.1) = [(0, 0), (5, 0), (5, 5), (0, 5)]) : L = loop5 := by
  have hl : L.length = 4 := by have := congrArg List.length e; simpa using this
  match L, hl with
  | [(a0, h0, k0), (a1, h1, k1), (a2, h2, k2), (a3, h3, k3)], _ =>
    simp only [List.map_cons, List.map_nil, List.cons.injEq, and_true] at e
    obtain ⟨rfl, rfl, rfl, rfl⟩ := e
    obtain ⟨x, y, b1, b2, b3, b4, _, b6⟩ := Trc.loop_next hL (i := 0) (by simp)
    obtain ⟨x', y', c1, c2, c3, c4, _, c6⟩ := Trc.loop_next hL (i := 1) (by simp)
    obtain ⟨x2, y2, d1, d2, d3, d4, _, d6⟩ := Trc.loop_next hL (i := 2) (by simp)
    obtain ⟨x3, y3, f1, f2, f3, f4, _, f6⟩ := Trc.loop_next hL (i := 3) (by simp)
    simp at b1 b2 c1 c2 d1 d2 f1 f2
    subst b1 b2 c1 c2 d1 d2 f1 f2
    have g0 := sq5_head (b6 0 b4)
    have g1 := sq5_head (c6 0 c4)
    have g2 := sq5_head (d6 0 d4)
    have g3 := sq5_head (f6 0 f4)
    simp [Trc.stepN] at g0 g1 g2 g3
    subst g0 g1 g2 g3
    simp [Trc.endL, Trc.step_eq] at b3 c3 d3 f3
    unfold loop5
    have e0 : k0 = 5 := by omega
    have e1 : k1 = 5 := by omega
    have e2 : k2 = 5 := by omega
    have e3 : k3 = 5 := by omega
    rw [e0, e1, e2, e3]
def walk5 : List Cl := [(0, 0), (1, 0), (2, 0), (3, 0), (4, 0), (4, 1), (4, 2), (4, 3), (4, 4), (3, 4), (2, 4), (1, 4), (0, 4), (0, 3), (0, 2), (0, 1)]
theorem walk5_is : walkL loop5 = walk5 := by decide
theorem sq5_wk {ts : List Tr} (h : WkL sq5 ts) : ts = [((1, true), walk5)] := by
  obtain ⟨Ls, h1, h2, _, rfl⟩ := h
  have e := sq5_tr h1
  have hl := congrArg List.length e
  rw [List.length_map] at hl
  obtain ⟨L, rfl⟩ : ∃ L, Ls = [L] := List.length_eq_one_iff.1 hl
  simp only [List.map_cons, List.map_nil, List.cons.injEq, and_true] at e
  rw [List.map_cons, List.map_nil, sq5_L (h2 L (by simp)) e, walk5_is]
theorem sq5_walls {all : List Tr} (h : Wls sq5 1 all) : oncT all = [((1, true), walk5)] := by
  obtain ⟨tss, h1, h2, rfl⟩ := h
  obtain ⟨ts, rfl⟩ : ∃ ts, tss = [ts] := List.length_eq_one_iff.1 h1
  have := h2 0 ts rfl
  rw [show ((0 : Nat) : Int) = 0 from rfl, ero_zero (rvalid_iff.2 sq5_v)] at this
  rw [sq5_wk this]
  exact Trk.onc_same (by intro t ht; simp at ht; subst ht; decide) (by decide)
theorem sq5_sq : sqR 0 0 5 5 = sq5 := by decide
theorem sq1_sq : sqR 1 1 3 3 = sq1 := by decide
end Wal
end Go.Proofs.YtneelidbgigehaaGreat
