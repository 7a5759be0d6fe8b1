/- The chapter's example of the skin, and the bounds on layers. -/
import Derived.Test.YtfoedkdmckhihaaSkin
import Derived.Test.YtfoedkdmckhihaaRegOpen
namespace Go.Proofs.Ytfoedkdmckhihaa
set_option linter.unusedSimpArgs false
set_option linter.unusedVariables false
open Go.RowKit Runs Reg
attribute [local go_sem] Kin.cell Kin.frozen Kin.lt0 Kin.lt1 Kin.lt2 Kin.lt3 run_mkf
def smallL (rs : List (List Reg.Row)) : Bool := decide (rs.length ≤ 12) && rs.all smallR
theorem smallL_bd {rs : List (List Reg.Row)} (h : smallL rs = true) : rs.length ≤ 12 ∧ ∀ r ∈ rs, RBd r := by
  simp only [smallL, Bool.and_eq_true, decide_eq_true_eq, List.all_eq_true] at h
  refine ⟨h.1, fun r hr => ?_⟩
  have := h.2 r hr
  simp only [smallR, Bool.and_eq_true, decide_eq_true_eq, List.all_eq_true] at this
  exact ⟨by omega, fun w hw => Nat.le_trans (this.1.2 w hw) (by decide)⟩
set_option maxRecDepth 100000 in
set_option maxHeartbeats 4000000 in
theorem small28_any (v : Value) (rs : List (List Reg.Row)) (w : World) (h : RdRegs w v rs) :
    Calls Try.prog 14 #[v] w fun e w' => e = .returned (.bool (smallL rs)) ∧ Below w.heap.size w w' := by
  obtain ⟨A, capA, rfl, hcapA, hop⟩ := regs_open h
  have HA := Lib.hid hop
  clear hop h
  by_cases h12 : 12 < rs.length
  · go_enter Try.func14, Try.ntmps14
    go_wp2
    go_ret
    exact ⟨ret_bool (by simp [smallL]; omega), (by repeat (first | with_reducible exact Below.refl _ _ | with_reducible exact Nat.le_refl _ | with_reducible refine Kin.below _ ?_ | with_reducible refine Below.alloc ?_ ?_ _ | with_reducible refine Below.drew ?_ | with_reducible refine Kin.le _ ?_ | with_reducible refine le_alloc ?_ _ | with_reducible refine le_drew ?_ | with_reducible refine Below.setCell ?_ ?_ _ | with_reducible exact Nat.le_refl _ | (simp only [World.size_alloc]; omega) | (simp <;> omega)))⟩
  · go_enter Try.func14, Try.ntmps14
    go_wp2
    go_loopw [3] (fun i wr => ∃ k : Nat, k ≤ rs.length ∧ i = .int .i64 k ∧ Hid ((rs.take k).all smallR = true) ∧ ∃ z : Kin w, z.1 = wr) (fun i _ => rs.length - (intOf i).toNat)
    case atStart => exact ⟨0, Nat.zero_le _, rfl, Lib.hid (by simp), ⟨w, Below.refl _ _⟩, rfl⟩
    case round =>
      obtain ⟨k, hk, rfl, HS, z, rfl⟩ := hrel
      by_cases hlt : k < rs.length
      · obtain ⟨r, hr⟩ : ∃ el_, rs[k]? = some el_ := ⟨_, List.getElem?_eq_getElem hlt⟩
        obtain ⟨b, off, rfl, hb, hc⟩ := HA.out k _ hr
        obtain ⟨S, n, c, h1, h2⟩ := hc k r hr
        have Hr := Lib.hid hr
        have HRd := Lib.hid h2
        clear hr hc h2
        cases hs : smallR r
        · have HM := Lib.hid (show ∀ x : World, Below w.heap.size w x → Calls Try.prog 28 #[.agg #[.slice S n c]] x fun e w' => e = .returned (.bool false) ∧ Below x.heap.size x w' from fun x hx => by rw [← hs]; exact small18_any _ r x (HRd.out.below hx))
          go_wp2_with (go_at_call 28; go_loud ((with_reducible refine (Kin.callK (W := w) (by repeat (first | with_reducible exact Below.refl _ _ | with_reducible exact Nat.le_refl _ | with_reducible refine Kin.below _ ?_ | with_reducible refine Below.alloc ?_ ?_ _ | with_reducible refine Below.drew ?_ | with_reducible refine Kin.le _ ?_ | with_reducible refine le_alloc ?_ _ | with_reducible refine le_drew ?_ | with_reducible refine Below.setCell ?_ ?_ _ | with_reducible exact Nat.le_refl _ | (simp only [World.size_alloc]; omega) | (simp <;> omega))) (HM.out _ (by repeat (first | with_reducible exact Below.refl _ _ | with_reducible exact Nat.le_refl _ | with_reducible refine Kin.below _ ?_ | with_reducible refine Below.alloc ?_ ?_ _ | with_reducible refine Below.drew ?_ | with_reducible refine Kin.le _ ?_ | with_reducible refine le_alloc ?_ _ | with_reducible refine le_drew ?_ | with_reducible refine Below.setCell ?_ ?_ _ | with_reducible exact Nat.le_refl _ | (simp only [World.size_alloc]; omega) | (simp <;> omega))))).mono ?_); rintro e w' ⟨z, rfl, hz, rfl⟩))
          go_ret
          refine ⟨ret_bool ?_, (by repeat (first | with_reducible exact Below.refl _ _ | with_reducible exact Nat.le_refl _ | with_reducible refine Kin.below _ ?_ | with_reducible refine Below.alloc ?_ ?_ _ | with_reducible refine Below.drew ?_ | with_reducible refine Kin.le _ ?_ | with_reducible refine le_alloc ?_ _ | with_reducible refine le_drew ?_ | with_reducible refine Below.setCell ?_ ?_ _ | with_reducible exact Nat.le_refl _ | (simp only [World.size_alloc]; omega) | (simp <;> omega)))⟩
          have : rs.all smallR = false := by rw [List.all_eq_false]; exact ⟨r, List.mem_of_getElem? Hr.out, by simp [hs]⟩
          simp [smallL, this]
        · have HM := Lib.hid (show ∀ x : World, Below w.heap.size w x → Calls Try.prog 28 #[.agg #[.slice S n c]] x fun e w' => e = .returned (.bool true) ∧ Below x.heap.size x w' from fun x hx => by rw [← hs]; exact small18_any _ r x (HRd.out.below hx))
          go_wp2_with (go_at_call 28; go_loud ((with_reducible refine (Kin.callK (W := w) (by repeat (first | with_reducible exact Below.refl _ _ | with_reducible exact Nat.le_refl _ | with_reducible refine Kin.below _ ?_ | with_reducible refine Below.alloc ?_ ?_ _ | with_reducible refine Below.drew ?_ | with_reducible refine Kin.le _ ?_ | with_reducible refine le_alloc ?_ _ | with_reducible refine le_drew ?_ | with_reducible refine Below.setCell ?_ ?_ _ | with_reducible exact Nat.le_refl _ | (simp only [World.size_alloc]; omega) | (simp <;> omega))) (HM.out _ (by repeat (first | with_reducible exact Below.refl _ _ | with_reducible exact Nat.le_refl _ | with_reducible refine Kin.below _ ?_ | with_reducible refine Below.alloc ?_ ?_ _ | with_reducible refine Below.drew ?_ | with_reducible refine Kin.le _ ?_ | with_reducible refine le_alloc ?_ _ | with_reducible refine le_drew ?_ | with_reducible refine Below.setCell ?_ ?_ _ | with_reducible exact Nat.le_refl _ | (simp only [World.size_alloc]; omega) | (simp <;> omega))))).mono ?_); rintro e w' ⟨z, rfl, hz, rfl⟩))
          go_roundw
          case rel => exact ⟨k + 1, by omega, by go_num, Lib.hid (by rw [List.take_add_one, Hr.out]; simp [HS.out, hs]), z, rfl⟩
          case measure => simp [intOf]; omega
      · go_wp2
        go_ret
        have : k = rs.length := by omega
        refine ⟨ret_bool ?_, (by repeat (first | with_reducible exact Below.refl _ _ | with_reducible exact Nat.le_refl _ | with_reducible refine Kin.below _ ?_ | with_reducible refine Below.alloc ?_ ?_ _ | with_reducible refine Below.drew ?_ | with_reducible refine Kin.le _ ?_ | with_reducible refine le_alloc ?_ _ | with_reducible refine le_drew ?_ | with_reducible refine Below.setCell ?_ ?_ _ | with_reducible exact Nat.le_refl _ | (simp only [World.size_alloc]; omega) | (simp <;> omega)))⟩
        have h3 := HS.out
        rw [this, List.take_length] at h3
        simp [smallL, h3]; omega
set_option maxRecDepth 100000 in
set_option maxHeartbeats 4000000 in
theorem row28_any (x y : Int) (w : World) :
    Calls Try.prog 36 #[.int .i64 x, .int .i64 y] w fun e w' => (∃ A c, e = .returned (.agg #[.slice A 1 c]) ∧ RdReg w' (.agg #[.slice A 1 c]) [(0, [(x, y)])]) ∧ Below w.heap.size w w' := by
  go_enter Try.func36, Try.ntmps36
  go_wp2
  ((try simp only [Exit.inBlock, Exit.then]); refine bodyPost_ret (results_cell_row rfl _ _ _ _ _ (0, 0) _ rfl ((Blk.new w 29 #[.slice (some ⟨w.heap.size + 1 + 1, 0, none⟩) 1 1]).below (Below.alloc (Below.alloc (Below.refl _ _) (Nat.le_refl _) _) (le_alloc (Nat.le_refl _) _) _)) Try.underlying29 rfl (by kernel_rfl)) rfl ?_)
  refine ⟨⟨_, _, rfl, _, rfl, [(0, some ⟨w.heap.size + 1, 0, none⟩, 1, 1)], rd_one _ encRow_len _ (0, some ⟨w.heap.size + 1, 0, none⟩, 1, 1) _ rfl, rfl, fun i h r hh hr => ?_⟩, (by repeat (first | with_reducible exact Below.refl _ _ | with_reducible exact Nat.le_refl _ | with_reducible refine Kin.below _ ?_ | with_reducible refine Below.alloc ?_ ?_ _ | with_reducible refine Below.drew ?_ | with_reducible refine Kin.le _ ?_ | with_reducible refine le_alloc ?_ _ | with_reducible refine le_drew ?_ | with_reducible refine Below.setCell ?_ ?_ _ | with_reducible exact Nat.le_refl _ | (simp only [World.size_alloc]; omega) | (simp <;> omega)))⟩
  match i, hh, hr with
  | 0, hh, hr =>
    simp at hh hr
    subst hh hr
    exact ⟨rfl, (rd_one (w.alloc (.cells #[.slice (some ⟨w.heap.size + 1 + 1, 0, none⟩) 1 1] 29)) encRun_len 60 (x, y) _ rfl).below (Below.alloc (Below.refl _ _) (Nat.le_refl _) _)⟩
  | i + 1, hh, hr => simp at hh
theorem regs_lit {W : World} (hs : List RegH) (rs : List (List Reg.Row)) {cs : Array Value} {n b : Nat} (hl : hs.length = rs.length) (h : ∀ (i : Nat) (h : RegH) (r : List Reg.Row), hs[i]? = some h → rs[i]? = some r → RdReg W (.agg #[.slice h.1 h.2.1 h.2.2]) r) (hm : hs.length ≤ maxLen)
    (hc : cs = (hs.flatMap encReg).toArray) (hn : n = hs.length) (hb : b = W.heap.size) : RdRegs (W.alloc (.cells cs 29)) (.slice (some ⟨b, 0, none⟩) n n) rs := by
  subst hc hn hb
  exact ⟨hs, rd_made W encReg_len _ hs _ rfl hm, hl, fun i g r hg hr => (h i g r hg hr).below (Below.alloc (Below.refl _ _) (Nat.le_refl _) _)⟩
theorem regs3 {W : World} {A1 A2 A3 : Option Addr} {n1 n2 n3 c1 c2 c3 : Nat} {r1 r2 r3 : List Reg.Row} (h1 : RdReg W (.agg #[.slice A1 n1 c1]) r1) (h2 : RdReg W (.agg #[.slice A2 n2 c2]) r2) (h3 : RdReg W (.agg #[.slice A3 n3 c3]) r3) {b : Nat} (hb : b = W.heap.size := by simp) :
    RdRegs (W.alloc (.cells #[.slice A1 n1 c1, .slice A2 n2 c2, .slice A3 n3 c3] 29)) (.slice (some ⟨b, 0, none⟩) 3 3) [r1, r2, r3] := by
  refine regs_lit [(A1, n1, c1), (A2, n2, c2), (A3, n3, c3)] [r1, r2, r3] rfl (fun i h r hh hr => ?_) (by unfold maxLen; simp) rfl rfl hb
  match i, hh, hr with
  | 0, hh, hr => simp at hh hr; subst hh hr; exact h1
  | 1, hh, hr => simp at hh hr; subst hh hr; exact h2
  | 2, hh, hr => simp at hh hr; subst hh hr; exact h3
  | i + 3, hh, hr => simp at hh
theorem awake_eq : skinR [[(0, [(0, 3)])], [(0, [(0, 3)])], [(0, [(0, 3)])]] 1 1 1 = ([], [(0, [(0, 3)])]) := by decide
theorem awake_eq2 : skinR [[(0, [(0, 3)])], [(0, [(0, 3)])], [(0, [(0, 3)])]] 2 1 1 = ([(0, [(0, 3)])], []) := by decide
theorem row_bd : RBd [(0, [((0 : Int), (3 : Int))])] := ⟨by decide, fun w hw => by simp at hw; subst hw; decide⟩
theorem same18_t {a b : List Reg.Row} (v u : Value) (w : World) (ha : RdReg w v a) (hb : RdReg w u b) (ba : RBd a) (bb : RBd b) (he : a = b) :
    Calls Try.prog 18 #[v, u] w fun e w' => e = .returned (.bool true) ∧ Below w.heap.size w w' := by
  have := same18_any v u a b w ha hb ba bb
  rwa [decide_eq_true he] at this
theorem skin_one (v : Value) (rs : List (List Reg.Row)) (i t b : Int) (a s : List Reg.Row) (w : World) (h : RdRegs w v rs) (hbd : ∀ r ∈ rs, RBd r) (hlen : rs.length ≤ 17179869184) (he : skinR rs i t b = (a, s)) {n m : Nat} (hn : n = a.length) (hm : m = s.length) :
    Calls Try.prog 16 #[v, .int .i64 i, .int .i64 t, .int .i64 b] w fun e w' => (∃ A c B d, e = .returned (.tuple #[.agg #[.slice A n c], .agg #[.slice B m d]]) ∧ RdReg w' (.agg #[.slice A n c]) a ∧ RdReg w' (.agg #[.slice B m d]) s) ∧ Below w.heap.size w w' := by
  subst hn hm
  refine (skin_any v rs i t b w h hbd hlen).mono fun e w' ⟨⟨x, y, he', h1, h2⟩, hb⟩ => ⟨?_, hb⟩
  rw [he] at h1 h2
  obtain ⟨A, c, rfl⟩ := h1.slice_
  obtain ⟨B, d, rfl⟩ := h2.slice_
  exact ⟨A, c, B, d, he', h1, h2⟩
abbrev r03 : List Reg.Row := [(0, [(0, 3)])]
theorem l03_bd : ∀ r ∈ [r03, r03, r03], RBd r := fun r hr => by
  have : r = r03 := by simpa using hr
  subst this; exact row_bd
theorem skin_aw1 (v : Value) (w : World) (h : RdRegs w v [r03, r03, r03]) :
    Calls Try.prog 16 #[v, .int .i64 1, .int .i64 1, .int .i64 1] w fun e w' => (∃ A c B d, e = .returned (.tuple #[.agg #[.slice A 0 c], .agg #[.slice B 1 d]]) ∧ RdReg w' (.agg #[.slice A 0 c]) [] ∧ RdReg w' (.agg #[.slice B 1 d]) r03) ∧ Below w.heap.size w w' :=
  skin_one v _ 1 1 1 [] r03 w h l03_bd (by decide) awake_eq rfl rfl
theorem skin_aw2 (v : Value) (w : World) (h : RdRegs w v [r03, r03, r03]) :
    Calls Try.prog 16 #[v, .int .i64 2, .int .i64 1, .int .i64 1] w fun e w' => (∃ A c B d, e = .returned (.tuple #[.agg #[.slice A 1 c], .agg #[.slice B 0 d]]) ∧ RdReg w' (.agg #[.slice A 1 c]) r03 ∧ RdReg w' (.agg #[.slice B 0 d]) []) ∧ Below w.heap.size w w' :=
  skin_one v _ 2 1 1 r03 [] w h l03_bd (by decide) awake_eq2 rfl rfl
set_option maxRecDepth 100000 in
set_option maxHeartbeats 8000000 in
theorem awake28_any (w : World) : Calls Try.prog 15 #[] w fun e w' => e = .returned (.bool true) ∧ Below w.heap.size w w' := by
  go_enter Try.func15, Try.ntmps15
  go_wp2_with (first
    | (go_at_call 36; go_loud ((with_reducible refine (Kin.callK (W := w) (by repeat (first | with_reducible exact Below.refl _ _ | with_reducible exact Nat.le_refl _ | with_reducible refine Kin.below _ ?_ | with_reducible refine Below.alloc ?_ ?_ _ | with_reducible refine Below.drew ?_ | with_reducible refine Kin.le _ ?_ | with_reducible refine le_alloc ?_ _ | with_reducible refine le_drew ?_ | with_reducible refine Below.setCell ?_ ?_ _ | with_reducible exact Nat.le_refl _ | (simp only [World.size_alloc]; omega) | (simp <;> omega))) (row28_any _ _ _)).mono ?_); rintro e w' ⟨z, ⟨A, c, rfl, ha⟩, hz, rfl⟩; ((try have R3 := Lib.hid (R2.out.below hz)); (try have R2 := Lib.hid (R1.out.below hz)); have R1 := Lib.hid ha; clear ha)))
    | (go_at_call 16; go_loud ((with_reducible refine (Kin.callK (W := w) (by repeat (first | with_reducible exact Below.refl _ _ | with_reducible exact Nat.le_refl _ | with_reducible refine Kin.below _ ?_ | with_reducible refine Below.alloc ?_ ?_ _ | with_reducible refine Below.drew ?_ | with_reducible refine Kin.le _ ?_ | with_reducible refine le_alloc ?_ _ | with_reducible refine le_drew ?_ | with_reducible refine Below.setCell ?_ ?_ _ | with_reducible exact Nat.le_refl _ | (simp only [World.size_alloc]; omega) | (simp <;> omega))) (skin_aw1 _ _ (regs3 R3.out R2.out R1.out rfl))).mono ?_); rintro e w' ⟨z1, ⟨SA, ca, SB, cb, rfl, ha, hb⟩, hz1, rfl⟩; (have HA := Lib.hid ha; have HB := Lib.hid hb; have HL := Lib.hid ((regs3 R3.out R2.out R1.out rfl).below hz1); clear ha hb)))
    | (go_at_call 16; go_loud ((with_reducible refine (Kin.callK (W := ((Kin.wd z1).alloc (.cells #[.slice SA 0 ca] 29)).alloc (.cells #[.slice SB 1 cb] 29)) (by repeat (first | with_reducible exact Below.refl _ _ | with_reducible exact Nat.le_refl _ | with_reducible refine Kin.below _ ?_ | with_reducible refine Below.alloc ?_ ?_ _ | with_reducible refine Below.drew ?_ | with_reducible refine Kin.le _ ?_ | with_reducible refine le_alloc ?_ _ | with_reducible refine le_drew ?_ | with_reducible refine Below.setCell ?_ ?_ _ | with_reducible exact Nat.le_refl _ | (simp only [World.size_alloc]; omega) | (simp <;> omega))) (skin_aw2 _ _ (HL.out.below (by repeat (first | with_reducible exact Below.refl _ _ | with_reducible exact Nat.le_refl _ | with_reducible refine Kin.below _ ?_ | with_reducible refine Below.alloc ?_ ?_ _ | with_reducible refine Below.drew ?_ | with_reducible refine Kin.le _ ?_ | with_reducible refine le_alloc ?_ _ | with_reducible refine le_drew ?_ | with_reducible refine Below.setCell ?_ ?_ _ | with_reducible exact Nat.le_refl _ | (simp only [World.size_alloc]; omega) | (simp <;> omega)))))).mono ?_); rintro e w' ⟨z2, ⟨SC, cc, SD, cd, rfl, hc, hd⟩, hz2, rfl⟩; (have HC := Lib.hid hc; have HD := Lib.hid hd; have HB2 := Lib.hid (HB.out.below (show Below (Kin.wd z1).heap.size (Kin.wd z1) (Kin.wd z2) from (by repeat (first | with_reducible exact Below.refl _ _ | with_reducible exact Nat.le_refl _ | with_reducible refine Kin.below _ ?_ | with_reducible refine Below.alloc ?_ ?_ _ | with_reducible refine Below.drew ?_ | with_reducible refine Kin.le _ ?_ | with_reducible refine le_alloc ?_ _ | with_reducible refine le_drew ?_ | with_reducible refine Below.setCell ?_ ?_ _ | with_reducible exact Nat.le_refl _ | (simp only [World.size_alloc]; omega) | (simp <;> omega))))); (obtain ⟨b1, b2⟩ := z2.boxes2); have c1 := b1.cell 0; have c2 := b2.cell 0; simp at c1 c2; have l1 := b1.lt; have l2 := b2.lt; clear b1 b2 hc hd))))
  obtain ⟨y9, hX⟩ : ∃ y9 : Kin (((Kin.wd z1).alloc (.cells #[.slice SA 0 ca] 29)).alloc (.cells #[.slice SB 1 cb] 29)), y9.1 = (z2.1.alloc (.cells #[.slice SC 1 cc] 29)).alloc (.cells #[.slice SD 0 cd] 29) := ⟨⟨(z2.1.alloc (.cells #[.slice SC 1 cc] 29)).alloc (.cells #[.slice SD 0 cd] 29), (by repeat (first | with_reducible exact Below.refl _ _ | with_reducible exact Nat.le_refl _ | with_reducible refine Kin.below _ ?_ | with_reducible refine Below.alloc ?_ ?_ _ | with_reducible refine Below.drew ?_ | with_reducible refine Kin.le _ ?_ | with_reducible refine le_alloc ?_ _ | with_reducible refine le_drew ?_ | with_reducible refine Below.setCell ?_ ?_ _ | with_reducible exact Nat.le_refl _ | (simp only [World.size_alloc]; omega) | (simp <;> omega)))⟩, rfl⟩
  have c3 : y9.1.cell? ⟨z2.1.heap.size, 0, none⟩ = some (.slice SC 1 cc) := by rw [hX]; simp
  have c4 : y9.1.cell? ⟨z2.1.heap.size + 1, 0, none⟩ = some (.slice SD 0 cd) := by rw [hX]; simp
  have l3 : z2.1.heap.size < y9.1.heap.size := by rw [hX]; simp; omega
  have l4 : z2.1.heap.size + 1 < y9.1.heap.size := by rw [hX]; simp
  have h2X : Below z2.1.heap.size z2.1 y9.1 := by rw [hX]; exact (by repeat (first | with_reducible exact Below.refl _ _ | with_reducible exact Nat.le_refl _ | with_reducible refine Kin.below _ ?_ | with_reducible refine Below.alloc ?_ ?_ _ | with_reducible refine Below.drew ?_ | with_reducible refine Kin.le _ ?_ | with_reducible refine le_alloc ?_ _ | with_reducible refine le_drew ?_ | with_reducible refine Below.setCell ?_ ?_ _ | with_reducible exact Nat.le_refl _ | (simp only [World.size_alloc]; omega) | (simp <;> omega)))
  rw [← hX]
  have d1 : y9.1.cell? ⟨z1.1.heap.size, 0, none⟩ = some (.slice SA 0 ca) := (h2X.cell (p := ⟨_, 0, none⟩) l1).trans c1
  have d2 : y9.1.cell? ⟨z1.1.heap.size + 1, 0, none⟩ = some (.slice SB 1 cb) := (h2X.cell (p := ⟨_, 0, none⟩) l2).trans c2
  have m1 : z1.1.heap.size < y9.1.heap.size := Nat.lt_of_lt_of_le l1 h2X.size
  have m2 : z1.1.heap.size + 1 < y9.1.heap.size := Nat.lt_of_lt_of_le l2 h2X.size
  have HBX := Lib.hid (HB2.out.below h2X)
  have HCX := Lib.hid (HC.out.below h2X)
  clear h2X hX c1 c2 l1 l2
  go_region_held (fun w' => w'.cell? ⟨(Kin.wd z1).heap.size, 0, none⟩ = some (.slice SA 0 ca) ∧ w'.cell? ⟨(Kin.wd z1).heap.size + 1, 0, none⟩ = some (.slice SB 1 cb) ∧ w'.cell? ⟨(Kin.wd z2).heap.size, 0, none⟩ = some (.slice SC 1 cc) ∧ w'.cell? ⟨(Kin.wd z2).heap.size + 1, 0, none⟩ = some (.slice SD 0 cd)) (refine ⟨?_, ?_, ?_, ?_⟩ <;> first | assumption | (refine (Kin.cell (W := (Kin.wd y9)) _ ?_).trans ?_ <;> assumption) | simp [*, World.cell?_alloc_some, World.cell?_setCell_far]) (first | (go_at_call 36; go_loud ((with_reducible refine (Kin.callK (W := (Kin.wd y9)) (by repeat (first | with_reducible exact Below.refl _ _ | with_reducible exact Nat.le_refl _ | with_reducible refine Kin.below _ ?_ | with_reducible refine Below.alloc ?_ ?_ _ | with_reducible refine Below.drew ?_ | with_reducible refine Kin.le _ ?_ | with_reducible refine le_alloc ?_ _ | with_reducible refine le_drew ?_ | with_reducible refine Below.setCell ?_ ?_ _ | with_reducible exact Nat.le_refl _ | (simp only [World.size_alloc]; omega) | (simp <;> omega))) (row28_any _ _ _)).mono ?_); rintro e w' ⟨zr, ⟨A, c, rfl, ha⟩, hzr, rfl⟩; (have RR := Lib.hid ha; clear ha))) | (go_at_call 18; go_loud ((with_reducible refine (Kin.callK (W := (Kin.wd y9)) (by repeat (first | with_reducible exact Below.refl _ _ | with_reducible exact Nat.le_refl _ | with_reducible refine Kin.below _ ?_ | with_reducible refine Below.alloc ?_ ?_ _ | with_reducible refine Below.drew ?_ | with_reducible refine Kin.le _ ?_ | with_reducible refine le_alloc ?_ _ | with_reducible refine le_drew ?_ | with_reducible refine Below.setCell ?_ ?_ _ | with_reducible exact Nat.le_refl _ | (simp only [World.size_alloc]; omega) | (simp <;> omega))) (same18_t (a := r03) (b := r03) _ _ _ (HBX.out.below (by repeat (first | with_reducible exact Below.refl _ _ | with_reducible exact Nat.le_refl _ | with_reducible refine Kin.below _ ?_ | with_reducible refine Below.alloc ?_ ?_ _ | with_reducible refine Below.drew ?_ | with_reducible refine Kin.le _ ?_ | with_reducible refine le_alloc ?_ _ | with_reducible refine le_drew ?_ | with_reducible refine Below.setCell ?_ ?_ _ | with_reducible exact Nat.le_refl _ | (simp only [World.size_alloc]; omega) | (simp <;> omega)))) RR.out row_bd row_bd rfl)).mono ?_); rintro e w' ⟨z, rfl, hz, rfl⟩)) | (go_at_call 18; go_loud ((with_reducible refine (Kin.callK (W := (Kin.wd y9)) (by repeat (first | with_reducible exact Below.refl _ _ | with_reducible exact Nat.le_refl _ | with_reducible refine Kin.below _ ?_ | with_reducible refine Below.alloc ?_ ?_ _ | with_reducible refine Below.drew ?_ | with_reducible refine Kin.le _ ?_ | with_reducible refine le_alloc ?_ _ | with_reducible refine le_drew ?_ | with_reducible refine Below.setCell ?_ ?_ _ | with_reducible exact Nat.le_refl _ | (simp only [World.size_alloc]; omega) | (simp <;> omega))) (same18_t (a := r03) (b := r03) _ _ _ (HCX.out.below (by repeat (first | with_reducible exact Below.refl _ _ | with_reducible exact Nat.le_refl _ | with_reducible refine Kin.below _ ?_ | with_reducible refine Below.alloc ?_ ?_ _ | with_reducible refine Below.drew ?_ | with_reducible refine Kin.le _ ?_ | with_reducible refine le_alloc ?_ _ | with_reducible refine le_drew ?_ | with_reducible refine Below.setCell ?_ ?_ _ | with_reducible exact Nat.le_refl _ | (simp only [World.size_alloc]; omega) | (simp <;> omega)))) RR.out row_bd row_bd rfl)).mono ?_); rintro e w' ⟨z, rfl, hz, rfl⟩)))
  go_wp2
  go_ret
  exact ⟨rfl, (by repeat (first | with_reducible exact Below.refl _ _ | with_reducible exact Nat.le_refl _ | with_reducible refine Kin.below _ ?_ | with_reducible refine Below.alloc ?_ ?_ _ | with_reducible refine Below.drew ?_ | with_reducible refine Kin.le _ ?_ | with_reducible refine le_alloc ?_ _ | with_reducible refine le_drew ?_ | with_reducible refine Below.setCell ?_ ?_ _ | with_reducible exact Nat.le_refl _ | (simp only [World.size_alloc]; omega) | (simp <;> omega)))⟩
end Go.Proofs.Ytfoedkdmckhihaa
