/- The rows with cells inside; the region of polygons, as the raster layer builds it. -/
import Derived.Test.YtneelidbgigehaaGreatRasRow
import Derived.Test.YtneelidbgigehaaGreatRasChk
import Derived.Deep.RegionLaw
import Derived.Test.YtneelidbgigehaaGreatRasEdges
import Derived.Test.YtneelidbgigehaaGreatRasMathC
import Derived.Test.YtneelidbgigehaaGreatRegGen
namespace Go.Proofs.YtneelidbgigehaaGreat
set_option linter.unusedSimpArgs false
set_option linter.unusedVariables false
set_option maxRecDepth 100000
open Go.RowKit Runs Reg Ras
attribute [local go_sem] Kin.cell Kin.frozen Kin.lt0 Kin.lt1 Kin.lt2 Kin.lt3 run_mkf
theorem floor_is {q : Int} (a b : Int) (w : World) (hb : 0 < b ∧ b ≤ 4611686018427387904) (ha : -4611686018427387904 ≤ a ∧ a ≤ 4611686018427387904) (hq : a / b = q) :
    Calls Tryz.prog 46 #[.int .i64 a, .int .i64 b] w fun e w' => e = .returned (.tuple #[.int .i64 q, .int .i64 0]) ∧ Below w.heap.size w w' := by subst hq; exact floor_any a b w hb ha
set_option maxHeartbeats 4000000 in
theorem rasrows_any (v : Value) (E : List Ed) (p : Int) (w : World) (h : Rd 5 encEd w v E) (hok : ∀ e ∈ E, okEd e) (hlen : E.length ≤ 16384) (hp : 32 ≤ p ∧ p ≤ 1024) :
    Calls Tryz.prog 25 #[v, .int .i64 p] w fun e w' => e = .returned (.tuple #[.int .i64 (firstR E p), .int .i64 (countR E p)]) ∧ Below w.heap.size w w' := by
  rcases Nat.eq_zero_or_pos E.length with h0 | h0
  · obtain rfl := List.eq_nil_of_length_eq_zero h0
    obtain ⟨A, cap, rfl, _, _⟩ := h.open_
    clear h
    have e1 : firstR [] p = 0 := rfl
    have e2 : countR [] p = 0 := rfl
    rw [e1, e2]
    go_enter Tryz.func25, Tryz.ntmps25
    go_wp2
    go_ret2
    exact ⟨rfl, (by repeat (first | with_reducible (first | exact blA | exact blB | refine blC _ ?_ | refine blD ?_ ?_ _ | refine blE ?_ | refine blF _ ?_ | refine blG ?_ _ | refine blH ?_ | refine blI ?_ ?_ _) | (simp only [World.size_alloc]; omega) | (simp <;> omega)))⟩
  · have HTB := Lib.hid (fun k => topTo_bd hok k)
    have HOK := Lib.hid hok
    have hE0 : ¬ E.length = 0 := by omega
    obtain ⟨A, capA, rfl, hcapA, hopA⟩ := h.open_
    have HA := Lib.hid hopA
    have HLA := Lib.hid h
    clear hopA h
    obtain ⟨e, he⟩ : ∃ el_, (E)[0]? = some el_ := ⟨_, List.getElem?_eq_getElem (by first | exact h0 | omega)⟩
    obtain ⟨bA, offA, rfl, hbA, hcA⟩ := HA.out (0) _ he
    have e_0 : w.cell? ⟨bA, offA + 0 * 5, none⟩ = some (.int .i64 e.1.1.1) := by exact hcA (0) _ he 0 _ rfl
    have e_1 : w.cell? ⟨bA, offA + 0 * 5 + 1, none⟩ = some (.int .i64 e.1.1.2) := by exact hcA (0) _ he 1 _ rfl
    have e_2 : w.cell? ⟨bA, offA + 0 * 5 + 2, none⟩ = some (.int .i64 e.1.2.1) := by exact hcA (0) _ he 2 _ rfl
    have e_3 : w.cell? ⟨bA, offA + 0 * 5 + 3, none⟩ = some (.int .i64 e.1.2.2) := by exact hcA (0) _ he 3 _ rfl
    have e_4 : w.cell? ⟨bA, offA + 0 * 5 + 4, none⟩ = some (.int .i64 e.2) := by exact hcA (0) _ he 4 _ rfl
    have hbA2 : bA < w.heap.size + 1 := by omega
    have HAc := Lib.hid hcA
    have He := Lib.hid he
    clear he hcA
    simp only [Nat.zero_mul, Nat.add_zero] at e_0 e_1 e_2 e_3 e_4
    have hE1 : ¬ E = [] := by intro e; rw [e] at hE0; exact hE0 rfl
    have he := HOK.out e (List.mem_of_getElem? He.out)
    unfold okEd at he
    have HF := Lib.hid (show firstR E p = max (e.1.1.2 / p) (-4096) by unfold firstR; rw [He.out])
    have HC := Lib.hid (show countR E p = max 0 (min (topTo E E.length / p) 4095 - max (e.1.1.2 / p) (-4096) + 1) by unfold countR; rw [He.out]; simp only [lastR, HF.out])
    go_enter Tryz.func25, Tryz.ntmps25
    go_wp2
    go_loopw [6, 23] (fun o i wr => ∃ k : Nat, k ≤ E.length ∧ i = .int .i64 k ∧ o = .int .i64 (topTo E k) ∧ ∃ z : Kin w, z.1 = wr) (fun _ i _ => E.length - (intOf i).toNat)
    case atStart => exact ⟨0, Nat.zero_le _, rfl, by unfold topTo; rw [He.out]; rfl, ⟨w, Below.refl _ _⟩, rfl⟩
    case round =>
      obtain ⟨k, hk, rfl, rfl, z, rfl⟩ := hrel
      have hT := HTB.out k
      by_cases hlt : k < E.length
      · obtain ⟨f, hf⟩ : ∃ el_, (E)[k]? = some el_ := ⟨_, List.getElem?_eq_getElem (by first | exact hlt | omega)⟩
        have f_0 : w.cell? ⟨bA, offA + k * 5, none⟩ = some (.int .i64 f.1.1.1) := by exact HAc.out (k) _ hf 0 _ rfl
        have f_1 : w.cell? ⟨bA, offA + k * 5 + 1, none⟩ = some (.int .i64 f.1.1.2) := by exact HAc.out (k) _ hf 1 _ rfl
        have f_2 : w.cell? ⟨bA, offA + k * 5 + 2, none⟩ = some (.int .i64 f.1.2.1) := by exact HAc.out (k) _ hf 2 _ rfl
        have f_3 : w.cell? ⟨bA, offA + k * 5 + 3, none⟩ = some (.int .i64 f.1.2.2) := by exact HAc.out (k) _ hf 3 _ rfl
        have f_4 : w.cell? ⟨bA, offA + k * 5 + 4, none⟩ = some (.int .i64 f.2) := by exact HAc.out (k) _ hf 4 _ rfl
        have Hf := Lib.hid hf
        clear hf
        have hf := HOK.out f (List.mem_of_getElem? Hf.out)
        unfold okEd at hf
        have HS := Lib.hid (topTo_succ Hf.out)
        generalize topTo E k = T at *
        go_wp2
        go_roundw
        case rel => exact ⟨k + 1, by omega, by go_num, by rw [HS.out], ⟨World.alloc _ _, (by repeat (first | with_reducible (first | exact blA | exact blB | refine blC _ ?_ | refine blD ?_ ?_ _ | refine blE ?_ | refine blF _ ?_ | refine blG ?_ _ | refine blH ?_ | refine blI ?_ ?_ _) | (simp only [World.size_alloc]; omega) | (simp <;> omega)))⟩, rfl⟩
        case measure => simp [intOf]; omega
      · have ek : k = E.length := by omega
        have HC2 := Lib.hid (show countR E p = max 0 (min (topTo E k / p) 4095 - max (e.1.1.2 / p) (-4096) + 1) by rw [ek]; exact HC.out)
        generalize topTo E k = T at *
        obtain ⟨q1, hq1⟩ : ∃ q, e.1.1.2 / p = q := ⟨_, rfl⟩
        obtain ⟨q2, hq2⟩ : ∃ q, T / p = q := ⟨_, rfl⟩
        have d1 := ediv_bd (a := e.1.1.2) (b := p) (M := 65536) (by omega) (by omega) (by omega)
        have d2 := ediv_bd (a := T) (b := p) (M := 65536) (by omega) (by omega) (by omega)
        have HQ1 := Lib.hid hq1
        have HQ2 := Lib.hid hq2
        rw [hq1] at d1
        rw [hq2] at d2
        clear hq1 hq2 ek
        have hw1 : IntKind.i64.wrap (min q2 4095 - max q1 (-4096)) = min q2 4095 - max q1 (-4096) := IntWalk.i64_in _ (by omega)
        have hw2 : IntKind.i64.wrap (min q2 4095 - max q1 (-4096) + 1) = min q2 4095 - max q1 (-4096) + 1 := IntWalk.i64_in _ (by omega)
        go_wp2_with (first
          | (go_at_call 46; (with_reducible refine (Kin.callK (W := w) (by repeat (first | with_reducible (first | exact blA | exact blB | refine blC _ ?_ | refine blD ?_ ?_ _ | refine blE ?_ | refine blF _ ?_ | refine blG ?_ _ | refine blH ?_ | refine blI ?_ ?_ _) | (simp only [World.size_alloc]; omega) | (simp <;> omega))) (floor_is e.1.1.2 p _ (by omega) (by omega) HQ1.out)).mono ?_); rintro e w' ⟨z2, rfl, hz2, rfl⟩; skip)
          | (go_at_call 46; (with_reducible refine (Kin.callK (W := w) (by repeat (first | with_reducible (first | exact blA | exact blB | refine blC _ ?_ | refine blD ?_ ?_ _ | refine blE ?_ | refine blF _ ?_ | refine blG ?_ _ | refine blH ?_ | refine blI ?_ ?_ _) | (simp only [World.size_alloc]; omega) | (simp <;> omega))) (floor_is T p _ (by omega) (by omega) HQ2.out)).mono ?_); rintro e w' ⟨z3, rfl, hz3, rfl⟩; skip))
        go_ret2
        exact ⟨by rw [HF.out, HC2.out, HQ1.out, HQ2.out]; rfl, (by repeat (first | with_reducible (first | exact blA | exact blB | refine blC _ ?_ | refine blD ?_ ?_ _ | refine blE ?_ | refine blF _ ?_ | refine blG ?_ _ | refine blH ?_ | refine blI ?_ ?_ _) | (simp only [World.size_alloc]; omega) | (simp <;> omega)))⟩
theorem rasrow_is {G : List Run} (v : Value) (l : List (List P2)) (E : List Ed) (p y : Int) (w : World) (h : Rd 5 encEd w v E) (hE : E.Perm (edgesR l)) (hs : E.Pairwise (fun a b => a.1.1.2 ≤ b.1.1.2)) (hok : ∀ e ∈ E, okEd e) (hlen : E.length ≤ 16384) (hp : 32 ≤ p ∧ p ≤ 1024) (hy : -4096 ≤ y ∧ y < 4096) (hG : rowP l p y = G) :
    Calls Tryz.prog 26 #[v, .int .i64 p, .int .i64 y] w fun e w' => (∃ u B, e = .returned u ∧ w.heap.size ≤ B ∧ w'.ownsRow B 69 2 u G.length (G.flatMap encRun)) ∧ Below w.heap.size w w' := by subst hG; exact rasrow_any v l E p y w h hE hs hok hlen hp hy
def rasO (l : List (List P2)) (p : Int) : List Reg.Row := if rasE l p = 0 then rasR l p else []
theorem check_is {E : Int} (v : Value) (l : List (List P2)) (p : Int) (w : World) (h : RdPols w v l) (hf : FewP l) (hE : rasE l p = E) :
    Calls Tryz.prog 23 #[v, .int .i64 p] w fun e w' => e = .returned (.int .i64 E) ∧ Below w.heap.size w w' := by subst hE; exact check_any v l p w h hf
theorem rasrows_is {F C : Int} (v : Value) (E : List Ed) (p : Int) (w : World) (h : Rd 5 encEd w v E) (hok : ∀ e ∈ E, okEd e) (hlen : E.length ≤ 16384) (hp : 32 ≤ p ∧ p ≤ 1024) (hF : firstR E p = F) (hC : countR E p = C) :
    Calls Tryz.prog 25 #[v, .int .i64 p] w fun e w' => e = .returned (.tuple #[.int .i64 F, .int .i64 C]) ∧ Below w.heap.size w w' := by subst hF hC; exact rasrows_any v E p w h hok hlen hp
theorem perm_okEd {l : List (List P2)} {E : List Ed} (h : okPs l = true) (hE : E.Perm (edgesR l)) : ∀ e ∈ E, okEd e := fun e he => okEd_of h (hE.mem_iff.1 he)
theorem edgesR_len (l : List (List P2)) : (edgesR l).length ≤ ptsN l := by
  have := edgesTo_len l l.length
  rwa [edgesTo_all] at this
theorem rasE_cases (l : List (List P2)) (p : Int) : rasE l p = 0 ∨ rasE l p = 1 ∨ rasE l p = 8 := by
  unfold rasE
  split
  · exact .inr (.inl rfl)
  · split
    · exact .inl rfl
    · exact .inr (.inr rfl)
set_option maxHeartbeats 8000000 in
theorem raster_any (v : Value) (l : List (List P2)) (p : Int) (w : World) (h : RdPols w v l) (hf : FewP l) :
    Calls Tryz.prog 8 #[v, .int .i64 p] w fun e w' => (∃ A n c, e = .returned (.tuple #[.agg #[.slice A n c], .int .i64 (rasE l p)]) ∧ RdReg w' (.agg #[.slice A n c]) (rasO l p)) ∧ Below w.heap.size w w' := by
  have H := Lib.hid h
  have HF := Lib.hid hf
  by_cases hE : rasE l p = 0
  · have e0 : rasO l p = rasR l p := by unfold rasO; rw [if_pos hE]
    obtain ⟨hpi, hok⟩ := rasE_zero.1 hE
    have hp := okPitch_iff.1 hpi
    have hp2 : 32 ≤ p ∧ p ≤ 1024 := ⟨hp.1, hp.2.1⟩
    have HOK := Lib.hid hok
    have HE := Lib.hid hE
    have HRA := Lib.hid (fun (E : List Ed) (hE : E.Perm (edgesR l)) (hs : E.Pairwise (fun a b => a.1.1.2 ≤ b.1.1.2)) (n : Nat) (hn : (n : Int) = countR E p) => ras_rows (l := l) (pitch := p) (by omega) hE hs hn)
    rw [hE, e0]
    clear hE e0 hpi hok hp h hf
    go_enter Tryz.func8, Tryz.ntmps8
    go_wp2_with (first
      | (go_at_call 23; (with_reducible refine (Kin.callK (W := w.alloc (.cells #[.slice none 0 0] 24)) (by repeat (first | with_reducible (first | exact blA | exact blB | refine blC _ ?_ | refine blD ?_ ?_ _ | refine blE ?_ | refine blF _ ?_ | refine blG ?_ _ | refine blH ?_ | refine blI ?_ ?_ _) | (simp only [World.size_alloc]; omega) | (simp <;> omega))) (check_is _ l p _ (H.out.below (by repeat (first | with_reducible (first | exact blA | exact blB | refine blC _ ?_ | refine blD ?_ ?_ _ | refine blE ?_ | refine blF _ ?_ | refine blG ?_ _ | refine blH ?_ | refine blI ?_ ?_ _) | (simp only [World.size_alloc]; omega) | (simp <;> omega)))) HF.out HE.out)).mono ?_); rintro e w' ⟨z1, rfl, hz1, rfl⟩; skip)
      | (go_at_call 24; (with_reducible refine (Kin.callK (W := w.alloc (.cells #[.slice none 0 0] 24)) (by repeat (first | with_reducible (first | exact blA | exact blB | refine blC _ ?_ | refine blD ?_ ?_ _ | refine blE ?_ | refine blF _ ?_ | refine blG ?_ _ | refine blH ?_ | refine blI ?_ ?_ _) | (simp only [World.size_alloc]; omega) | (simp <;> omega))) (edges_any _ l _ (H.out.below (by repeat (first | with_reducible (first | exact blA | exact blB | refine blC _ ?_ | refine blD ?_ ?_ _ | refine blE ?_ | refine blF _ ?_ | refine blG ?_ _ | refine blH ?_ | refine blI ?_ ?_ _) | (simp only [World.size_alloc]; omega) | (simp <;> omega)))) HF.out HOK.out)).mono ?_); rintro e w' ⟨z2, ⟨u, E, rfl, hu, hpe, hso⟩, hz2, rfl⟩; (have HU := Lib.hid hu; have HPE := Lib.hid hpe; have HSO := Lib.hid hso; clear hu hpe hso; (obtain ⟨F, hFd⟩ : ∃ F, firstR E p = F := ⟨_, rfl⟩); (obtain ⟨C, hCd⟩ : ∃ C, countR E p = C := ⟨_, rfl⟩); have hel : E.length ≤ 16384 := (by rw [HPE.out.length_eq]; exact Nat.le_trans (edgesR_len l) HF.out.2); have hcb := countR_bd (E := E) (pitch := p); have HFd := Lib.hid hFd; have HCd := Lib.hid hCd; rw [hFd, hCd] at hcb; clear hFd hCd))
      | (go_at_call 25; (with_reducible refine (Kin.callK (W := (Kin.wd z2)) (by repeat (first | with_reducible (first | exact blA | exact blB | refine blC _ ?_ | refine blD ?_ ?_ _ | refine blE ?_ | refine blF _ ?_ | refine blG ?_ _ | refine blH ?_ | refine blI ?_ ?_ _) | (simp only [World.size_alloc]; omega) | (simp <;> omega))) (rasrows_is _ E p _ HU.out (perm_okEd HOK.out HPE.out) hel hp2 HFd.out HCd.out)).mono ?_); rintro e w' ⟨z3, rfl, hz3, rfl⟩; skip))
    have HB := Lib.hid (((Blk.new w 24 #[.slice none 0 0]).below z2.2).below z3.2)
    have hwz : Below w.heap.size w z3.1 := (by repeat (first | with_reducible (first | exact blA | exact blB | refine blC _ ?_ | refine blD ?_ ?_ _ | refine blE ?_ | refine blF _ ?_ | refine blG ?_ _ | refine blH ?_ | refine blI ?_ ?_ _) | (simp only [World.size_alloc]; omega) | (simp <;> omega)))
    go_loopw [29] (fun i wr => ∃ n : Nat, (n : Int) ≤ C ∧ i = .int .i64 n ∧ ∃ S, Hid (OwnRows (z3.1.heap.size + 1) wr S (rowsOn (rowP l p) (upFrom F n))) ∧ Hid (Blk wr z3.1.heap.size 24 #[S]) ∧ Hid (Below z3.1.heap.size z3.1 wr)) (fun i _ => (C - intOf i).toNat)
    case atStart => exact ⟨0, by omega, rfl, _, Lib.hid OwnN.nil, Lib.hid (Blk.new _ _ _), Lib.hid (by repeat (first | with_reducible (first | exact blA | exact blB | refine blC _ ?_ | refine blD ?_ ?_ _ | refine blE ?_ | refine blF _ ?_ | refine blG ?_ _ | refine blH ?_ | refine blI ?_ ?_ _) | (simp only [World.size_alloc]; omega) | (simp <;> omega)))⟩
    case round =>
      obtain ⟨n, hn, rfl, S, HO, HP6, hyB⟩ := hrel
      obtain ⟨y6, rfl⟩ : ∃ y6 : Kin z3.1, y6.1 = wr := ⟨⟨wr, hyB.out⟩, rfl⟩
      clear hyB
      by_cases hlt : (n : Int) < C
      · obtain ⟨hs, hown, hnest, hap⟩ := HO.out
        obtain ⟨AS, nS, cS, rfl⟩ := own_slice hown
        have HOW := Lib.hid hown
        have HNE := Lib.hid hnest
        have HAP := Lib.hid hap
        have hhl := hnest.1
        have hrl := rowsOn_len (rowP l p) (upFrom F n)
        rw [upFrom_len] at hrl
        have p0 : y6.1.cell? ⟨z3.1.heap.size, 0, none⟩ = some (.slice AS nS cS) := HP6.out.cell 0
        have pl := HP6.out.lt
        have hy1 : -4096 ≤ F + n ∧ F + n < 4096 := by omega
        have hwn : IntKind.i64.wrap (F + (n : Int)) = F + (n : Int) := IntWalk.i64_in _ (by omega)
        have hle0 : (rowP l p (F + (n : Int))).length ≤ 8192 := sepIn_len (rowP_in l p (F + n))
        obtain ⟨G, hG⟩ : ∃ G, rowP l p (F + (n : Int)) = G := ⟨_, rfl⟩
        rw [hG] at hle0
        have HGG := Lib.hid hG
        clear hown hnest hap hG
        go_wp2_with (first
          | (go_at_call 26; (with_reducible refine (Kin.callK (W := (Kin.wd y6)) (by repeat (first | with_reducible (first | exact blA | exact blB | refine blC _ ?_ | refine blD ?_ ?_ _ | refine blE ?_ | refine blF _ ?_ | refine blG ?_ _ | refine blH ?_ | refine blI ?_ ?_ _) | (simp only [World.size_alloc]; omega) | (simp <;> omega))) (rasrow_is _ l E p (F + (n : Int)) _ (HU.out.below (by repeat (first | with_reducible (first | exact blA | exact blB | refine blC _ ?_ | refine blD ?_ ?_ _ | refine blE ?_ | refine blF _ ?_ | refine blG ?_ _ | refine blH ?_ | refine blI ?_ ?_ _) | (simp only [World.size_alloc]; omega) | (simp <;> omega)))) HPE.out HSO.out (perm_okEd HOK.out HPE.out) hel hp2 hy1 HGG.out)).mono ?_); rintro e w' ⟨zu, ⟨u, B, rfl, hB, hl⟩, hzu, rfl⟩; (have hrd := Rd.own encRun_len hl; (obtain ⟨L, capL, rfl, hcapL, _⟩ := hrd.open_); have HFR := Lib.hid (own_fresh hl (v2 := .slice AS nS cS) (fun q e => Nat.lt_of_lt_of_le (HOW.out.lt q e).2 hB)); have HL := Lib.hid hrd; clear hl hrd hB))
          | (at_builtin; refine wpList_app _ rfl _ _ 22 rfl encRow_len (by decide) oneRow (z3.1.heap.size + 1) 44 (.agg #[.int .i64 0, .slice none 0 0]) 32 infoRow rfl Tryz.underlying22 _ _ _ _ rfl ((own_below HOW.out zu.2).alloc _) _ _ _ rfl (rd_one _ encRow_len _ (hd (F + (n : Int)) L G.length capL) _ rfl) ?c1 (by decide) ?c2 ?_; (case c1 => (first | (simp only [List.length_append, List.length_cons, List.length_nil]; omega) | omega | (simp; omega))); (case c2 => exact (by repeat (first | with_reducible exact Nat.le_refl _ | assumption | with_reducible refine le_alloc ?_ _ | with_reducible refine le_drew ?_ | with_reducible refine Kin.le _ ?_ | assumption | omega | (simp only [World.size_alloc]; omega)))); intro v' w1 hown' hg hbel hat'; ((obtain ⟨AV, nV, cV, rfl⟩ := own_slice hown'); have hPn : Blk (zu.1.alloc (.cells #[.int .i64 (F + (n : Int)), .slice L G.length capL] 44)) z3.1.heap.size 24 #[.slice AS nS cS] := (HP6.out.below zu.2).below (Below.alloc (Below.refl _ _) (Nat.le_refl _) _); have HP1 := Lib.hid (hPn.grown hg (Ne.symm (own_ne ((own_below HOW.out zu.2).alloc _) hPn (by decide)))); have p1 : w1.cell? ⟨z3.1.heap.size, 0, none⟩ = some (.slice AS nS cS) := HP1.out.cell 0; have pf1 : w1.frozen? ⟨z3.1.heap.size, 0, none⟩ = false := HP1.out.frozen 0; have pl1 := HP1.out.lt; have HPU := Lib.hid (OwnRows.push ((own_below HOW.out zu.2).alloc _) (HNE.out.below (by repeat (first | with_reducible (first | exact blA | exact blB | refine blC _ ?_ | refine blD ?_ ?_ _ | refine blE ?_ | refine blF _ ?_ | refine blG ?_ _ | refine blH ?_ | refine blI ?_ ?_ _) | (simp only [World.size_alloc]; omega) | (simp <;> omega)))) HAP.out hown' hg hat' (HL.out.below (by repeat (first | with_reducible (first | exact blA | exact blB | refine blC _ ?_ | refine blD ?_ ?_ _ | refine blE ?_ | refine blF _ ?_ | refine blG ?_ _ | refine blH ?_ | refine blI ?_ ?_ _) | (simp only [World.size_alloc]; omega) | (simp <;> omega)))) (HFR.out.imp (fun h => List.eq_nil_of_length_eq_zero (by simpa using h)) id) hPn); have HBE := Lib.hid hbel; clear hown' hg hbel hat')))
        · have hne : G.isEmpty = false := by
            rw [List.isEmpty_eq_false_iff]; intro e; have : G.length = 0 := (by rw [e]; rfl); omega
          have hb56 : Below z3.1.heap.size z3.1 (zu.1.alloc (.cells #[.int .i64 (F + (n : Int)), .slice L G.length capL] 44)) := Below.alloc (y6.2.trans (zu.2.mono y6.2.size)) (by repeat (first | with_reducible exact Nat.le_refl _ | assumption | with_reducible refine le_alloc ?_ _ | with_reducible refine le_drew ?_ | with_reducible refine Kin.le _ ?_ | assumption | omega | (simp only [World.size_alloc]; omega))) _
          have hb5 := hb56.trans (HBE.out.mono (Nat.le_succ _))
          go_roundw
          case rel => exact ⟨n + 1, by omega, by go_num, _, Lib.hid (by rw [upFrom_succ, rowsOn_snoc, HGG.out, hne]; exact HPU.out.1), Lib.hid HPU.out.2, Lib.hid (Below.setCell hb5 (Nat.le_refl _) _)⟩
          case measure => simp [intOf]; omega
        · have hne : G.isEmpty = true := by
            rw [List.isEmpty_iff]; exact List.eq_nil_of_length_eq_zero (by omega)
          go_roundw
          case rel => exact ⟨n + 1, by omega, by go_num, _, Lib.hid (by rw [upFrom_succ, rowsOn_snoc, HGG.out, hne]; simpa using HO.out.below zu.2), Lib.hid (HP6.out.below zu.2), Lib.hid (y6.2.trans (zu.2.mono y6.2.size))⟩
          case measure => simp [intOf]; omega
      · have en : (n : Int) = countR E p := by rw [HCd.out]; omega
        have HFIN := Lib.hid (show rowsOn (rowP l p) (upFrom F n) = rasR l p by rw [← HFd.out]; exact HRA.out E HPE.out HSO.out n en)
        obtain ⟨hs, hown, _⟩ := HO.out
        obtain ⟨AS, nS, cS, rfl⟩ := own_slice hown
        have p0 : y6.1.cell? ⟨z3.1.heap.size, 0, none⟩ = some (.slice AS nS cS) := HP6.out.cell 0
        have pl := HP6.out.lt
        have B36 := Lib.hid (HB.out.below y6.2)
        have q0 : y6.1.cell? ⟨w.heap.size, 0, none⟩ = some (.slice none 0 0) := B36.out.cell 0
        have qf : y6.1.frozen? ⟨w.heap.size, 0, none⟩ = false := B36.out.frozen 0
        have ql := B36.out.lt
        clear hown en
        go_wp2
        ((try simp only [Exit.inBlock, Exit.then]); refine bodyPost_ret (results_cell_t rfl _ _ (0, 0) rfl (B36.out.set_ 0 _) Tryz.underlying24 rfl (by kernel_rfl)) rfl ?_)
        refine ⟨⟨_, _, _, rfl, ?_⟩, (by repeat (first | with_reducible (first | exact blA | exact blB | refine blC _ ?_ | refine blD ?_ ?_ _ | refine blE ?_ | refine blF _ ?_ | refine blG ?_ _ | refine blH ?_ | refine blI ?_ ?_ _) | (simp only [World.size_alloc]; omega) | (simp <;> omega)))⟩
        rw [← HFIN.out]
        exact (HO.out.set_ (i := 0) (u := .slice AS nS cS) B36.out (by decide)).reg
  · have e0 : rasO l p = [] := by unfold rasO; rw [if_neg hE]
    rw [e0]
    clear e0
    have hbad := rasE_cases l p
    obtain ⟨N, hN⟩ : ∃ N, rasE l p = N := ⟨_, rfl⟩
    rw [hN] at hE hbad ⊢
    have hE2 : (N != 0) = true := by simpa using hE
    go_enter Tryz.func8, Tryz.ntmps8
    go_wp2_with (go_at_call 23; (with_reducible refine (Kin.callK (W := w.alloc (.cells #[.slice none 0 0] 24)) (by repeat (first | with_reducible (first | exact blA | exact blB | refine blC _ ?_ | refine blD ?_ ?_ _ | refine blE ?_ | refine blF _ ?_ | refine blG ?_ _ | refine blH ?_ | refine blI ?_ ?_ _) | (simp only [World.size_alloc]; omega) | (simp <;> omega))) (check_is _ l p _ (H.out.below (by repeat (first | with_reducible (first | exact blA | exact blB | refine blC _ ?_ | refine blD ?_ ?_ _ | refine blE ?_ | refine blF _ ?_ | refine blG ?_ _ | refine blH ?_ | refine blI ?_ ?_ _) | (simp only [World.size_alloc]; omega) | (simp <;> omega)))) HF.out hN)).mono ?_); rintro e w' ⟨z1, rfl, hz1, rfl⟩; skip)
    have HB := Lib.hid ((Blk.new w 24 #[.slice none 0 0]).below z1.2)
    ((try simp only [Exit.inBlock, Exit.then]); refine bodyPost_ret (results_cell_t rfl _ _ (0, 0) rfl (HB.out.set_ 0 _) Tryz.underlying24 rfl (by kernel_rfl)) rfl ?_)
    exact ⟨⟨_, _, _, rfl, RdReg.nil⟩, (by repeat (first | with_reducible (first | exact blA | exact blB | refine blC _ ?_ | refine blD ?_ ?_ _ | refine blE ?_ | refine blF _ ?_ | refine blG ?_ _ | refine blH ?_ | refine blI ?_ ?_ _) | (simp only [World.size_alloc]; omega) | (simp <;> omega)))⟩
/-- the error of a row, and the row -/
def rowE (l : List (List P2)) (p y : Int) : Int := if rasE l p = 1 ∨ okC y = false then 1 else rasE l p
def rowO (l : List (List P2)) (p y : Int) : List Run := if rowE l p y = 0 then rowP l p y else []
theorem rowE_zero {l : List (List P2)} {p y : Int} : rowE l p y = 0 ↔ rasE l p = 0 ∧ okC y = true := by
  unfold rowE
  cases h : okC y
  · simp
  · simp only [h, Bool.true_eq_false, or_false, and_true]
    split <;> omega
end Go.Proofs.YtneelidbgigehaaGreat
