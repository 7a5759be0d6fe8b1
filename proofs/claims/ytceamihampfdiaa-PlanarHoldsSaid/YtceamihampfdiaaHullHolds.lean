/- PlanarHolds: a hull consists of points of the list, turns left, and contains all points, so the law returns true. -/
import Derived.Test.YtceamihampfdiaaHullVars
import Derived.Test.YtceamihampfdiaaHullRef
import Derived.Test.YtceamihampfdiaaPlanarMeet
import Derived.Test.YtceamihampfdiaaPlanarRows
namespace Go.Proofs.Ytceamihampfdiaa
set_option linter.unusedSimpArgs false
set_option linter.unusedVariables false
set_option maxRecDepth 100000
open Go.ChangeShapes Go.WideShapes Go.ChangeAt Go.RowKit Go.Joins
open Planar
attribute [local go_sem] Kin.cell Kin.frozen Kin.lt0 Kin.lt1 Kin.lt2 Kin.lt3
set_option maxHeartbeats 16000000 in
theorem holds_walk (W : World) (v : Value) (hv : IsPts W v) : Calls Try.prog 12 #[v] W fun e W' => e = .returned (.bool true) ∧ Below W.heap.size W W' := by
  obtain ⟨l, hrd, _⟩ := hv
  obtain ⟨A, capA, rfl, hcapA, hopA⟩ := hrd.open_
  have HA := Lib.hid hopA
  have HLA := Lib.hid hrd
  clear hopA hrd
  by_cases hbig : 100 < l.length
  · obtain ⟨n, hL⟩ : ∃ n, l.length = n := ⟨_, rfl⟩
    rw [hL] at hbig ⊢
    clear HA HLA
    go_enter Try.func12, Try.ntmps12
    go_wp2_with (go_at_call 34; (with_reducible refine (Kin.callK (W := W) (by repeat (first | with_reducible (first | exact blA | exact blB | refine blC _ ?_ | refine blD ?_ ?_ _ | refine blE ?_ | refine blF _ ?_ | refine blG ?_ _ | refine blH ?_ | refine blI ?_ ?_ _) | (simp only [World.size_alloc]; omega) | (simp <;> omega))) (hulled_any _)).mono ?_); rintro e w' ⟨z, rfl, hz, rfl⟩)
    go_ret
    exact ⟨rfl, (by repeat (first | with_reducible (first | exact blA | exact blB | refine blC _ ?_ | refine blD ?_ ?_ _ | refine blE ?_ | refine blF _ ?_ | refine blG ?_ _ | refine blH ?_ | refine blI ?_ ?_ _) | (simp only [World.size_alloc]; omega) | (simp <;> omega)))⟩
  obtain ⟨n, hL⟩ : ∃ n, l.length = n := ⟨_, rfl⟩
  have HL := Lib.hid hL
  rw [hL] at hbig hcapA HLA ⊢
  clear hL
  have hn : n ≤ 100 := by omega
  clear hbig
  go_enter Try.func12, Try.ntmps12
  go_wp2
  go_loopw [3] (fun i wr => ∃ k : Nat, k ≤ n ∧ i = .int .i64 k ∧ (∀ p ∈ l.take k, vld p = true) ∧ ∃ y : Kin W, y.1 = wr) (fun i _ => n - (intOf i).toNat)
  case atStart => exact ⟨0, Nat.zero_le _, rfl, fun p hp => by simp at hp, ⟨W, Below.refl _ _⟩, rfl⟩
  case round =>
    obtain ⟨k, hk, rfl, hval, y, rfl⟩ := hrel
    have HV := Lib.hid hval
    clear hval
    by_cases hlt : k < n
    · obtain ⟨p, hp⟩ : ∃ el_, (l)[k]? = some el_ := ⟨_, List.getElem?_eq_getElem (by first | exact (by rw [HL.out]; exact hlt) | omega)⟩
      obtain ⟨bA, offA, rfl, hbA, hcA⟩ := HA.out (k) _ hp
      have p_0 : W.cell? ⟨bA, offA + k * 2, none⟩ = some (.int .i64 p.1) := by exact hcA (k) _ hp 0 _ rfl
      have p_1 : W.cell? ⟨bA, offA + k * 2 + 1, none⟩ = some (.int .i64 p.2) := by exact hcA (k) _ hp 1 _ rfl
      have hbA2 : bA < W.heap.size + 1 := by omega
      have HAc := Lib.hid hcA
      have Hp := Lib.hid hp
      clear hp hcA
      cases hvp : vld p
      · have HB := Lib.hid (hullP_bad (List.mem_of_getElem? Hp.out) hvp)
        go_wp2_with (first
          | (go_at_call 22; (with_reducible refine (Kin.call0 (valid_any p _)).mono ?_); rintro e w' ⟨z, rfl, rfl⟩; skip)
          | (go_at_call 32; (with_reducible refine (Kin.call0 (hull_any _ l _ (HLA.out.below (by repeat (first | with_reducible (first | exact blA | exact blB | refine blC _ ?_ | refine blD ?_ ?_ _ | refine blE ?_ | refine blF _ ?_ | refine blG ?_ _ | refine blH ?_ | refine blI ?_ ?_ _) | (simp only [World.size_alloc]; omega) | (simp <;> omega)))))).mono ?_); rintro e w' ⟨z1, ⟨s1, rfl, hs1⟩, rfl⟩; (rw [HB.out] at hs1; obtain ⟨A1, c1, rfl, _, _⟩ := own_form hs1; clear hs1))
          | (go_at_call 34; (with_reducible refine (Kin.call0 (hulled_any _)).mono ?_); rintro e w' ⟨z2, rfl, rfl⟩; skip))
        go_ret
        exact ⟨rfl, (by repeat (first | with_reducible (first | exact blA | exact blB | refine blC _ ?_ | refine blD ?_ ?_ _ | refine blE ?_ | refine blF _ ?_ | refine blG ?_ _ | refine blH ?_ | refine blI ?_ ?_ _) | (simp only [World.size_alloc]; omega) | (simp <;> omega)))⟩
      · go_wp2_with (go_at_call 22; (with_reducible refine (Kin.callK (W := W) (by repeat (first | with_reducible (first | exact blA | exact blB | refine blC _ ?_ | refine blD ?_ ?_ _ | refine blE ?_ | refine blF _ ?_ | refine blG ?_ _ | refine blH ?_ | refine blI ?_ ?_ _) | (simp only [World.size_alloc]; omega) | (simp <;> omega))) (valid_any p _)).mono ?_); rintro e w' ⟨z, rfl, hz, rfl⟩)
        go_roundw
        case rel =>
          refine ⟨k + 1, by omega, by go_num, fun q hq => ?_, z, rfl⟩
          rw [List.take_add_one, Hp.out] at hq
          rcases List.mem_append.1 hq with hq | hq
          · exact HV.out q hq
          · have : q = p := by simpa using hq
            rw [this]; exact hvp
        case measure => simp [intOf]; omega
    · have hva : ∀ p ∈ l, vld p = true := by
        have := HV.out
        rwa [List.take_of_length_le (by rw [HL.out]; omega)] at this
      have hll : l.length ≤ 100 := by rw [HL.out]; exact hn
      have hz := hullP_zero hva hll
      have HF := Lib.hid (fun (i N : Nat) (a b h0 : Pt) => holds_facts hva hll (i := i) (n := N) (a := a) (b := b) (h0 := h0))
      have hHl : (hullP l).length ≤ 200 := hullP_len hll
      obtain ⟨N, hN⟩ : ∃ N, (hullP l).length = N := ⟨_, rfl⟩
      rw [HL.out, hN] at hz
      have HVA := Lib.hid hva
      have HN := Lib.hid hN
      clear hva hll
      by_cases hn0 : n = 0
      · have hN0 : N = 0 := hz.2 hn0
        subst hn0
        subst hN0
        clear hz
        go_wp2_with (first
          | (go_at_call 32; (with_reducible refine (Kin.call0 (hull_any _ l _ (HLA.out.below (by repeat (first | with_reducible (first | exact blA | exact blB | refine blC _ ?_ | refine blD ?_ ?_ _ | refine blE ?_ | refine blF _ ?_ | refine blG ?_ _ | refine blH ?_ | refine blI ?_ ?_ _) | (simp only [World.size_alloc]; omega) | (simp <;> omega)))))).mono ?_); rintro e w' ⟨z1, ⟨s1, rfl, hs1⟩, rfl⟩; (rw [HN.out] at hs1; obtain ⟨A1, c1, rfl, _, _⟩ := own_form hs1; clear hs1))
          | (go_at_call 34; (with_reducible refine (Kin.call0 (hulled_any _)).mono ?_); rintro e w' ⟨z2, rfl, rfl⟩; skip))
        go_loopw [6] (fun i wr => i = .int .i64 0 ∧ ∃ y : Kin z1.1, y.1 = wr) (fun _ _ => 0)
        case atStart => exact ⟨rfl, ⟨z1.1, Below.refl _ _⟩, rfl⟩
        case round =>
          obtain ⟨rfl, y1, rfl⟩ := hrel
          go_wp2_with (go_at_call 34; (with_reducible refine (Kin.call0 (hulled_any _)).mono ?_); rintro e w' ⟨z2, rfl, rfl⟩; skip)
          go_ret
          exact ⟨rfl, (by repeat (first | with_reducible (first | exact blA | exact blB | refine blC _ ?_ | refine blD ?_ ?_ _ | refine blE ?_ | refine blF _ ?_ | refine blG ?_ _ | refine blH ?_ | refine blI ?_ ?_ _) | (simp only [World.size_alloc]; omega) | (simp <;> omega)))⟩
      · have hN0 : 0 < N := by omega
        have hN1 : 0 < n := by omega
        clear hz hn0
        go_wp2_with (first
          | (go_at_call 32; (with_reducible refine (Kin.call0 (hull_any _ l _ (HLA.out.below (by repeat (first | with_reducible (first | exact blA | exact blB | refine blC _ ?_ | refine blD ?_ ?_ _ | refine blE ?_ | refine blF _ ?_ | refine blG ?_ _ | refine blH ?_ | refine blI ?_ ?_ _) | (simp only [World.size_alloc]; omega) | (simp <;> omega)))))).mono ?_); rintro e w' ⟨z1, ⟨s1, rfl, hs1⟩, rfl⟩; (have hrh := Rd.own encPt_len hs1; rw [HN.out] at hs1; obtain ⟨AH, cH, rfl, hcH, _⟩ := own_form hs1; have HH := Lib.hid hrh; clear hs1 hrh)))
        · rename_i hh
          have e1 : ((N : Int) == 0) = false := by simp; omega
          have e2 : ((n : Int) == 0) = false := by simp; omega
          rw [e1, e2] at hh
          cases hh
        rename (!(((N : Int) == 0) == ((n : Int) == 0))) = false => hh2
        clear hh2
        have HB := Lib.hid (Rd.op HH.out)
        have HLB := Lib.hid HH.out
        go_loopw [6] (fun i wr => ∃ k : Nat, k ≤ N ∧ i = .int .i64 k ∧ ∃ y : Kin z1.1, y.1 = wr) (fun i _ => N - (intOf i).toNat)
        case atStart => exact ⟨0, Nat.zero_le _, rfl, ⟨z1.1, Below.refl _ _⟩, rfl⟩
        case round =>
          obtain ⟨k, hk, rfl, y1, rfl⟩ := hrel
          by_cases hlt : k < N
          · have m1 : (k + 1) % N < N := Nat.mod_lt _ hN0
            have m2 : (k + 2) % N < N := Nat.mod_lt _ hN0
            have m3 : 0 ≤ ((k : Int) + 1) % (N : Int) := Int.emod_nonneg _ (by omega)
            have m4 : ((k : Int) + 1) % (N : Int) < (N : Int) := Int.emod_lt_of_pos _ (by omega)
            have m5 : 0 ≤ ((k : Int) + 2) % (N : Int) := Int.emod_nonneg _ (by omega)
            have m6 : ((k : Int) + 2) % (N : Int) < (N : Int) := Int.emod_lt_of_pos _ (by omega)
            obtain ⟨a, ha⟩ : ∃ el_, (hullP l)[k]? = some el_ := ⟨_, List.getElem?_eq_getElem (by first | exact (by rw [HN.out]; exact hlt) | omega)⟩
            obtain ⟨bB, offB, rfl, hbB, hcB⟩ := HB.out (k) _ ha
            have a_0 : z1.1.cell? ⟨bB, offB + k * 2, none⟩ = some (.int .i64 a.1) := by exact hcB (k) _ ha 0 _ rfl
            have a_1 : z1.1.cell? ⟨bB, offB + k * 2 + 1, none⟩ = some (.int .i64 a.2) := by exact hcB (k) _ ha 1 _ rfl
            have hbB2 : bB < z1.1.heap.size + 1 := by omega
            have HBc := Lib.hid hcB
            have Ha := Lib.hid ha
            clear ha hcB
            obtain ⟨b, hb⟩ : ∃ el_, (hullP l)[(k + 1) % N]? = some el_ := ⟨_, List.getElem?_eq_getElem (by first | exact (by rw [HN.out]; exact m1) | omega)⟩
            have b_0 : z1.1.cell? ⟨bB, offB + ((k + 1) % N) * 2, none⟩ = some (.int .i64 b.1) := by exact HBc.out ((k + 1) % N) _ hb 0 _ rfl
            have b_1 : z1.1.cell? ⟨bB, offB + ((k + 1) % N) * 2 + 1, none⟩ = some (.int .i64 b.2) := by exact HBc.out ((k + 1) % N) _ hb 1 _ rfl
            have Hb := Lib.hid hb
            clear hb
            obtain ⟨c, hc⟩ : ∃ el_, (hullP l)[(k + 2) % N]? = some el_ := ⟨_, List.getElem?_eq_getElem (by first | exact (by rw [HN.out]; exact m2) | omega)⟩
            have c_0 : z1.1.cell? ⟨bB, offB + ((k + 2) % N) * 2, none⟩ = some (.int .i64 c.1) := by exact HBc.out ((k + 2) % N) _ hc 0 _ rfl
            have c_1 : z1.1.cell? ⟨bB, offB + ((k + 2) % N) * 2 + 1, none⟩ = some (.int .i64 c.2) := by exact HBc.out ((k + 2) % N) _ hc 1 _ rfl
            have Hc := Lib.hid hc
            clear hc
            obtain ⟨o, ho⟩ : ∃ o, (hullP l)[0]? = some o := ⟨_, List.getElem?_eq_getElem (by rw [HN.out]; exact hN0)⟩
            have o_0 : z1.1.cell? ⟨bB, offB, none⟩ = some (.int .i64 o.1) := by have := HBc.out 0 o ho 0 _ rfl; simpa using this
            have o_1 : z1.1.cell? ⟨bB, offB + 1, none⟩ = some (.int .i64 o.2) := by have := HBc.out 0 o ho 1 _ rfl; simpa using this
            have HFF := Lib.hid (HF.out k N a b o HN.out Ha.out Hb.out ho)
            clear ho
            have mixed : Try.prog.follows .mixedOrders = true := by kernel_rfl
            go_wp2_with fail
            apply cutR (F := Vars z1.1 a b c)
            case main =>
              intro key
              go_big_region_o
              all_goals first
                | (obtain ⟨y2, hy2⟩ : ∃ y2 : Kin z1.1, y2.1 = (((y1.1.alloc (.cells #[.int .i64 a.1, .int .i64 a.2] 23)).alloc (.cells #[.int .i64 b.1, .int .i64 b.2] 23)).alloc (.cells #[.int .i64 c.1, .int .i64 c.2] 23)).drew := ⟨⟨_, (((y1.2.alloc y1.2.size _).alloc (by repeat (first | with_reducible exact Nat.le_refl _ | assumption | with_reducible refine le_alloc ?_ _ | with_reducible refine le_drew ?_ | with_reducible refine Kin.le _ ?_ | assumption | omega | (simp only [World.size_alloc]; omega))) _).alloc (by repeat (first | with_reducible exact Nat.le_refl _ | assumption | with_reducible refine le_alloc ?_ _ | with_reducible refine le_drew ?_ | with_reducible refine Kin.le _ ?_ | assumption | omega | (simp only [World.size_alloc]; omega))) _).drew⟩, rfl⟩; rw [← hy2]; obtain ⟨G2, hG2⟩ : ∃ G, y1.1.heap.size + 1 + 1 = G := ⟨_, rfl⟩; obtain ⟨G1, hG1⟩ : ∃ G, y1.1.heap.size + 1 = G := ⟨_, rfl⟩; obtain ⟨G0, hG0⟩ : ∃ G, y1.1.heap.size = G := ⟨_, rfl⟩; have hv2 : Vars z1.1 a b c G0 G1 G2 y2 := (by have h3 := three_cells _ _ _ _ _ _ hy2; rw [hG2, hG1, hG0] at h3; obtain ⟨h31, h32, h33, h34, h35, h36⟩ := h3; unfold Vars; exact ⟨by assumption, by assumption, by assumption, by assumption, by assumption, by assumption⟩); rw [hG2, hG1, hG0]; exact key G0 G1 G2 y2 hv2)
                | (obtain ⟨y2, hy2⟩ : ∃ y2 : Kin z1.1, y2.1 = (((y1.1.alloc (.cells #[.int .i64 a.1, .int .i64 a.2] 23)).alloc (.cells #[.int .i64 c.1, .int .i64 c.2] 23)).alloc (.cells #[.int .i64 b.1, .int .i64 b.2] 23)).drew := ⟨⟨_, (((y1.2.alloc y1.2.size _).alloc (by repeat (first | with_reducible exact Nat.le_refl _ | assumption | with_reducible refine le_alloc ?_ _ | with_reducible refine le_drew ?_ | with_reducible refine Kin.le _ ?_ | assumption | omega | (simp only [World.size_alloc]; omega))) _).alloc (by repeat (first | with_reducible exact Nat.le_refl _ | assumption | with_reducible refine le_alloc ?_ _ | with_reducible refine le_drew ?_ | with_reducible refine Kin.le _ ?_ | assumption | omega | (simp only [World.size_alloc]; omega))) _).drew⟩, rfl⟩; rw [← hy2]; obtain ⟨G2, hG2⟩ : ∃ G, y1.1.heap.size + 1 + 1 = G := ⟨_, rfl⟩; obtain ⟨G1, hG1⟩ : ∃ G, y1.1.heap.size + 1 = G := ⟨_, rfl⟩; obtain ⟨G0, hG0⟩ : ∃ G, y1.1.heap.size = G := ⟨_, rfl⟩; have hv2 : Vars z1.1 a b c G0 G2 G1 y2 := (by have h3 := three_cells _ _ _ _ _ _ hy2; rw [hG2, hG1, hG0] at h3; obtain ⟨h31, h32, h33, h34, h35, h36⟩ := h3; unfold Vars; exact ⟨by assumption, by assumption, by assumption, by assumption, by assumption, by assumption⟩); rw [hG2, hG1, hG0]; exact key G0 G2 G1 y2 hv2)
                | (obtain ⟨y2, hy2⟩ : ∃ y2 : Kin z1.1, y2.1 = (((y1.1.alloc (.cells #[.int .i64 b.1, .int .i64 b.2] 23)).alloc (.cells #[.int .i64 a.1, .int .i64 a.2] 23)).alloc (.cells #[.int .i64 c.1, .int .i64 c.2] 23)).drew := ⟨⟨_, (((y1.2.alloc y1.2.size _).alloc (by repeat (first | with_reducible exact Nat.le_refl _ | assumption | with_reducible refine le_alloc ?_ _ | with_reducible refine le_drew ?_ | with_reducible refine Kin.le _ ?_ | assumption | omega | (simp only [World.size_alloc]; omega))) _).alloc (by repeat (first | with_reducible exact Nat.le_refl _ | assumption | with_reducible refine le_alloc ?_ _ | with_reducible refine le_drew ?_ | with_reducible refine Kin.le _ ?_ | assumption | omega | (simp only [World.size_alloc]; omega))) _).drew⟩, rfl⟩; rw [← hy2]; obtain ⟨G2, hG2⟩ : ∃ G, y1.1.heap.size + 1 + 1 = G := ⟨_, rfl⟩; obtain ⟨G1, hG1⟩ : ∃ G, y1.1.heap.size + 1 = G := ⟨_, rfl⟩; obtain ⟨G0, hG0⟩ : ∃ G, y1.1.heap.size = G := ⟨_, rfl⟩; have hv2 : Vars z1.1 a b c G1 G0 G2 y2 := (by have h3 := three_cells _ _ _ _ _ _ hy2; rw [hG2, hG1, hG0] at h3; obtain ⟨h31, h32, h33, h34, h35, h36⟩ := h3; unfold Vars; exact ⟨by assumption, by assumption, by assumption, by assumption, by assumption, by assumption⟩); rw [hG2, hG1, hG0]; exact key G1 G0 G2 y2 hv2)
                | (obtain ⟨y2, hy2⟩ : ∃ y2 : Kin z1.1, y2.1 = (((y1.1.alloc (.cells #[.int .i64 b.1, .int .i64 b.2] 23)).alloc (.cells #[.int .i64 c.1, .int .i64 c.2] 23)).alloc (.cells #[.int .i64 a.1, .int .i64 a.2] 23)).drew := ⟨⟨_, (((y1.2.alloc y1.2.size _).alloc (by repeat (first | with_reducible exact Nat.le_refl _ | assumption | with_reducible refine le_alloc ?_ _ | with_reducible refine le_drew ?_ | with_reducible refine Kin.le _ ?_ | assumption | omega | (simp only [World.size_alloc]; omega))) _).alloc (by repeat (first | with_reducible exact Nat.le_refl _ | assumption | with_reducible refine le_alloc ?_ _ | with_reducible refine le_drew ?_ | with_reducible refine Kin.le _ ?_ | assumption | omega | (simp only [World.size_alloc]; omega))) _).drew⟩, rfl⟩; rw [← hy2]; obtain ⟨G2, hG2⟩ : ∃ G, y1.1.heap.size + 1 + 1 = G := ⟨_, rfl⟩; obtain ⟨G1, hG1⟩ : ∃ G, y1.1.heap.size + 1 = G := ⟨_, rfl⟩; obtain ⟨G0, hG0⟩ : ∃ G, y1.1.heap.size = G := ⟨_, rfl⟩; have hv2 : Vars z1.1 a b c G2 G0 G1 y2 := (by have h3 := three_cells _ _ _ _ _ _ hy2; rw [hG2, hG1, hG0] at h3; obtain ⟨h31, h32, h33, h34, h35, h36⟩ := h3; unfold Vars; exact ⟨by assumption, by assumption, by assumption, by assumption, by assumption, by assumption⟩); rw [hG2, hG1, hG0]; exact key G2 G0 G1 y2 hv2)
                | (obtain ⟨y2, hy2⟩ : ∃ y2 : Kin z1.1, y2.1 = (((y1.1.alloc (.cells #[.int .i64 c.1, .int .i64 c.2] 23)).alloc (.cells #[.int .i64 a.1, .int .i64 a.2] 23)).alloc (.cells #[.int .i64 b.1, .int .i64 b.2] 23)).drew := ⟨⟨_, (((y1.2.alloc y1.2.size _).alloc (by repeat (first | with_reducible exact Nat.le_refl _ | assumption | with_reducible refine le_alloc ?_ _ | with_reducible refine le_drew ?_ | with_reducible refine Kin.le _ ?_ | assumption | omega | (simp only [World.size_alloc]; omega))) _).alloc (by repeat (first | with_reducible exact Nat.le_refl _ | assumption | with_reducible refine le_alloc ?_ _ | with_reducible refine le_drew ?_ | with_reducible refine Kin.le _ ?_ | assumption | omega | (simp only [World.size_alloc]; omega))) _).drew⟩, rfl⟩; rw [← hy2]; obtain ⟨G2, hG2⟩ : ∃ G, y1.1.heap.size + 1 + 1 = G := ⟨_, rfl⟩; obtain ⟨G1, hG1⟩ : ∃ G, y1.1.heap.size + 1 = G := ⟨_, rfl⟩; obtain ⟨G0, hG0⟩ : ∃ G, y1.1.heap.size = G := ⟨_, rfl⟩; have hv2 : Vars z1.1 a b c G1 G2 G0 y2 := (by have h3 := three_cells _ _ _ _ _ _ hy2; rw [hG2, hG1, hG0] at h3; obtain ⟨h31, h32, h33, h34, h35, h36⟩ := h3; unfold Vars; exact ⟨by assumption, by assumption, by assumption, by assumption, by assumption, by assumption⟩); rw [hG2, hG1, hG0]; exact key G1 G2 G0 y2 hv2)
                | (obtain ⟨y2, hy2⟩ : ∃ y2 : Kin z1.1, y2.1 = (((y1.1.alloc (.cells #[.int .i64 c.1, .int .i64 c.2] 23)).alloc (.cells #[.int .i64 b.1, .int .i64 b.2] 23)).alloc (.cells #[.int .i64 a.1, .int .i64 a.2] 23)).drew := ⟨⟨_, (((y1.2.alloc y1.2.size _).alloc (by repeat (first | with_reducible exact Nat.le_refl _ | assumption | with_reducible refine le_alloc ?_ _ | with_reducible refine le_drew ?_ | with_reducible refine Kin.le _ ?_ | assumption | omega | (simp only [World.size_alloc]; omega))) _).alloc (by repeat (first | with_reducible exact Nat.le_refl _ | assumption | with_reducible refine le_alloc ?_ _ | with_reducible refine le_drew ?_ | with_reducible refine Kin.le _ ?_ | assumption | omega | (simp only [World.size_alloc]; omega))) _).drew⟩, rfl⟩; rw [← hy2]; obtain ⟨G2, hG2⟩ : ∃ G, y1.1.heap.size + 1 + 1 = G := ⟨_, rfl⟩; obtain ⟨G1, hG1⟩ : ∃ G, y1.1.heap.size + 1 = G := ⟨_, rfl⟩; obtain ⟨G0, hG0⟩ : ∃ G, y1.1.heap.size = G := ⟨_, rfl⟩; have hv2 : Vars z1.1 a b c G2 G1 G0 y2 := (by have h3 := three_cells _ _ _ _ _ _ hy2; rw [hG2, hG1, hG0] at h3; obtain ⟨h31, h32, h33, h34, h35, h36⟩ := h3; unfold Vars; exact ⟨by assumption, by assumption, by assumption, by assumption, by assumption, by assumption⟩); rw [hG2, hG1, hG0]; exact key G2 G1 G0 y2 hv2)
            case pf =>
              rintro Ga Gb Gc y2 ⟨⟨a0, a1⟩, ⟨b0, b1⟩, ⟨c0, c1⟩, hGa, hGb, hGc⟩
              have hre := run_eq2
              have hbB3 : bB < y2.1.heap.size := y2.lt hbB
              have o0 : y2.1.cell? ⟨bB, offB, none⟩ = some (.int .i64 o.1) := by rw [y2.cell hbB]; exact o_0
              have o1 : y2.1.cell? ⟨bB, offB + 1, none⟩ = some (.int .i64 o.2) := by rw [y2.cell hbB]; exact o_1
              clear a_0 a_1 b_0 b_1 c_0 c_1 o_0 o_1
              go_wp2
              go_loopw [10, 11] (fun kn i wr => ∃ m : Nat, m ≤ n ∧ i = .int .i64 m ∧ (∃ q : Bool, kn = .bool q ∧ Hid (a ∈ l.take m → q = true)) ∧ ∃ y3 : Kin y2.1, y3.1 = wr) (fun _ i _ => n - (intOf i).toNat)
              case atStart => exact ⟨0, Nat.zero_le _, rfl, ⟨false, rfl, fun h => by simp at h⟩, ⟨y2.1, Below.refl _ _⟩, rfl⟩
              case round =>
                obtain ⟨m, hm, rfl, ⟨q, rfl, hq⟩, y3, rfl⟩ := hrel
                by_cases hlt2 : m < n
                · obtain ⟨p, hp⟩ : ∃ el_, (l)[m]? = some el_ := ⟨_, List.getElem?_eq_getElem (by first | exact (by rw [HL.out]; exact hlt2) | omega)⟩
                  obtain ⟨bA, offA, rfl, hbA, hcA⟩ := HA.out (m) _ hp
                  have p_0 : W.cell? ⟨bA, offA + m * 2, none⟩ = some (.int .i64 p.1) := by exact hcA (m) _ hp 0 _ rfl
                  have p_1 : W.cell? ⟨bA, offA + m * 2 + 1, none⟩ = some (.int .i64 p.2) := by exact hcA (m) _ hp 1 _ rfl
                  have hbA2 : bA < W.heap.size + 1 := by omega
                  have HAc := Lib.hid hcA
                  have Hp := Lib.hid hp
                  clear hp hcA
                  have p0 : y2.1.cell? ⟨bA, offA + m * 2, none⟩ = some (.int .i64 p.1) := by rw [y2.cell (z1.lt (y.lt hbA)), z1.cell (y.lt hbA), y.cell hbA]; exact p_0
                  have p1 : y2.1.cell? ⟨bA, offA + m * 2 + 1, none⟩ = some (.int .i64 p.2) := by rw [y2.cell (z1.lt (y.lt hbA)), z1.cell (y.lt hbA), y.cell hbA]; exact p_1
                  have hbA3 : bA < y2.1.heap.size := y2.lt (z1.lt (y.lt hbA))
                  clear p_0 p_1 hbA2
                  have hpl : p ∈ l := List.mem_of_getElem? Hp.out
                  obtain ⟨T, hT⟩ : ∃ T : Nat, turn a b p = (T : Int) := ⟨(turn a b p).toNat, by have := HFF.out.2.1 p hpl; omega⟩
                  have htc : ∀ w, Calls Try.prog 21 #[pv a, pv b, pv p] w fun e w' => e = .returned (.int .i64 (T : Int)) ∧ Below w.heap.size w w' := fun w => by rw [← hT]; exact turn_any a b p w
                  have hlx := HFF.out.2.2.2.1 p hpl
                  have hx1 : o.1 ≤ p.1 := by unfold lx at hlx; omega
                  have hx2 : p.1 = o.1 → o.2 ≤ p.2 := by unfold lx at hlx; omega
                  have hnx : ∀ qq : Bool, Hid (a ∈ l.take m → qq = true) → Hid (a ∈ l.take (m + 1) → (qq || eq2 p.1 p.2 a.1 a.2) = true) := fun qq hqq hh => by
                    rw [List.take_add_one, Hp.out] at hh
                    rcases List.mem_append.1 hh with hh | hh
                    · rw [hqq.out hh]; rfl
                    · have : a = p := by simpa using hh
                      rw [(eq2_iff p a).2 this.symm, Bool.or_true]
                  have HNX := Lib.hid (hnx q hq)
                  clear hlx hnx hq hT
                  have hon := HFF.out.2.2.1
                  have hoc : ∀ w, Calls Try.prog 15 #[pv p, sv a b] w fun e w' => e = .returned (.bool (on p a b)) ∧ Below w.heap.size w w' := fun w => on_any p a b w
                  have HON := Lib.hid (fun h3 : N < 3 => hon h3 p hpl)
                  clear hon hpl
                  cases q
                  · go_wp2
                    ((first | refine wp_region_kin _ (by kernel_rfl) (by kernel_rfl) ?_ | refine wp_region_kin0 (by kernel_rfl) (by kernel_rfl) ?_); (repeat' (first | go_big_quiet_step (fail) | ((refine wpQuiet_guard rfl rfl rfl rfl (fun hg => ?_) (fun hg => ?_)) <;> (fail_if_success (first | guard_hyp hg : true = true | guard_hyp hg : false = false)) <;> (try simp only [decide_eq_true_eq, decide_eq_false_iff_not] at hg) <;> simp only [Act.put, List.setIfInBounds_toArray, List.set_cons_zero, List.set_cons_succ]))); all_goals ((with_reducible refine wpQuiet_nil ?_); rintro _ ⟨z, rfl⟩))
                    go_wp2
                    ((first | refine wp_region_kin _ (by kernel_rfl) (by kernel_rfl) ?_ | refine wp_region_kin0 (by kernel_rfl) (by kernel_rfl) ?_); (repeat' (first | go_big_quiet_step (first | (go_at_call 21; exact Kin.quiet _ (htc _)) | (go_at_call 15; exact Kin.quiet _ (hoc _))) | ((refine wpQuiet_guard rfl rfl rfl rfl (fun hg => ?_) (fun hg => ?_)) <;> (fail_if_success (first | guard_hyp hg : true = true | guard_hyp hg : false = false)) <;> (try simp only [decide_eq_true_eq, decide_eq_false_iff_not] at hg) <;> simp only [Act.put, List.setIfInBounds_toArray, List.set_cons_zero, List.set_cons_succ]))); all_goals ((with_reducible refine wpQuiet_nil ?_); rintro _ ⟨z, rfl⟩))
                    all_goals go_wp2
                    all_goals first
                      | (exfalso; omega)
                      | (exfalso; simp only [beq_iff_eq] at *; omega)
                      | (exfalso; simp_all [HON.out (by omega)]; done)
                      | (refine ⟨⟨m + 1, by omega, by go_num, ⟨_, rfl, HNX.out⟩, ⟨z, rfl⟩⟩, ?_⟩; simp [intOf]; omega)
                      | (go_roundw; (case rel => exact ⟨m + 1, by omega, by go_num, ⟨_, rfl, HNX.out⟩, ⟨z, rfl⟩⟩); (case measure => simp [intOf]; omega))
                  · go_wp2
                    ((first | refine wp_region_kin _ (by kernel_rfl) (by kernel_rfl) ?_ | refine wp_region_kin0 (by kernel_rfl) (by kernel_rfl) ?_); (repeat' (first | go_big_quiet_step (fail) | ((refine wpQuiet_guard rfl rfl rfl rfl (fun hg => ?_) (fun hg => ?_)) <;> (fail_if_success (first | guard_hyp hg : true = true | guard_hyp hg : false = false)) <;> (try simp only [decide_eq_true_eq, decide_eq_false_iff_not] at hg) <;> simp only [Act.put, List.setIfInBounds_toArray, List.set_cons_zero, List.set_cons_succ]))); all_goals ((with_reducible refine wpQuiet_nil ?_); rintro _ ⟨z, rfl⟩))
                    go_wp2
                    ((first | refine wp_region_kin _ (by kernel_rfl) (by kernel_rfl) ?_ | refine wp_region_kin0 (by kernel_rfl) (by kernel_rfl) ?_); (repeat' (first | go_big_quiet_step (first | (go_at_call 21; exact Kin.quiet _ (htc _)) | (go_at_call 15; exact Kin.quiet _ (hoc _))) | ((refine wpQuiet_guard rfl rfl rfl rfl (fun hg => ?_) (fun hg => ?_)) <;> (fail_if_success (first | guard_hyp hg : true = true | guard_hyp hg : false = false)) <;> (try simp only [decide_eq_true_eq, decide_eq_false_iff_not] at hg) <;> simp only [Act.put, List.setIfInBounds_toArray, List.set_cons_zero, List.set_cons_succ]))); all_goals ((with_reducible refine wpQuiet_nil ?_); rintro _ ⟨z, rfl⟩))
                    all_goals go_wp2
                    all_goals first
                      | (exfalso; omega)
                      | (exfalso; simp only [beq_iff_eq] at *; omega)
                      | (exfalso; simp_all [HON.out (by omega)]; done)
                      | (refine ⟨⟨m + 1, by omega, by go_num, ⟨_, rfl, HNX.out⟩, ⟨z, rfl⟩⟩, ?_⟩; simp [intOf]; omega)
                      | (go_roundw; (case rel => exact ⟨m + 1, by omega, by go_num, ⟨_, rfl, HNX.out⟩, ⟨z, rfl⟩⟩); (case measure => simp [intOf]; omega))
                · have hmn : m = n := by omega
                  subst hmn
                  have hqt : q = true := hq.out (by rw [List.take_of_length_le (by rw [HL.out]; exact Nat.le_refl _)]; exact HFF.out.1.1)
                  subst hqt
                  have hab5 := HFF.out.2.2.2.2.1
                  have htn5 := HFF.out.2.2.2.2.2
                  have HYB := Lib.hid (show Below z1.1.heap.size z1.1 y3.1 from y2.2.trans (y3.2.mono y2.2.size))
                  clear hq hre
                  by_cases n1 : 1 < N
                  · have hne : eq2 a.1 a.2 b.1 b.2 = false := by
                      cases hh : eq2 a.1 a.2 b.1 b.2
                      · rfl
                      · exact absurd ((eq2_iff a b).1 hh) (hab5 n1)
                    have hre := eq2_run hne
                    have n1' : (1 : Int) < (N : Int) := by omega
                    by_cases n2 : 2 < N
                    · have ht := htn5 n2 c Hc.out
                      have n2' : (2 : Int) < (N : Int) := by omega
                      have ht1 : turn a b c = 1 := by
                        unfold turn sgn at ht ⊢
                        by_cases h0 : 0 < cross a b c
                        · rw [if_pos h0]
                        · rw [if_neg h0] at ht; split at ht <;> omega
                      have htc : ∀ w, Calls Try.prog 21 #[pv a, pv b, pv c] w fun e w' => e = .returned (.int .i64 1) ∧ Below w.heap.size w w' := fun w => by rw [← ht1]; exact turn_any a b c w
                      clear hne hab5 htn5 ht ht1
                      go_wp2_with (go_at_call 21; (with_reducible refine (Kin.callK (W := (Kin.wd y2)) (by repeat (first | with_reducible (first | exact blA | exact blB | refine blC _ ?_ | refine blD ?_ ?_ _ | refine blE ?_ | refine blF _ ?_ | refine blG ?_ _ | refine blH ?_ | refine blI ?_ ?_ _) | (simp only [World.size_alloc]; omega) | (simp <;> omega))) (htc _)).mono ?_); rintro e w' ⟨z5, rfl, hz5, rfl⟩; skip)
                      all_goals first
                        | (exfalso; omega)
                        | (go_roundw; (case rel => exact ⟨k + 1, by omega, by go_num, ⟨z5.1, y2.2.trans (z5.2.mono y2.2.size)⟩, rfl⟩); (case measure => simp [intOf]; omega))
                        | (refine ⟨?_, by simp [intOf]; omega⟩; (repeat apply Exists.intro); refine ⟨?rel, rfl⟩; exact ⟨k + 1, by omega, by go_num, ⟨z5.1, y2.2.trans (z5.2.mono y2.2.size)⟩, rfl⟩)
                    · have n2' : ¬ (2 : Int) < (N : Int) := by omega
                      clear hne hab5 htn5
                      go_wp2
                      first
                      | (go_roundw; (case rel => exact ⟨k + 1, by omega, by go_num, ⟨y3.1, HYB.out⟩, rfl⟩); (case measure => simp [intOf]; omega))
                      | (refine ⟨⟨k + 1, by omega, by go_num, ⟨y3.1, HYB.out⟩, rfl⟩, ?_⟩; simp [intOf]; omega)
                  · have n1' : ¬ (1 : Int) < (N : Int) := by omega
                    have n2' : ¬ (2 : Int) < (N : Int) := by omega
                    clear hab5 htn5
                    go_wp2
                    first
                    | (go_roundw; (case rel => exact ⟨k + 1, by omega, by go_num, ⟨y3.1, HYB.out⟩, rfl⟩); (case measure => simp [intOf]; omega))
                    | (refine ⟨⟨k + 1, by omega, by go_num, ⟨y3.1, HYB.out⟩, rfl⟩, ?_⟩; simp [intOf]; omega)
          · have hkN : k = N := by omega
            subst hkN
            go_wp2_with (go_at_call 34; (with_reducible refine (Kin.callK (W := (Kin.wd z1)) (by repeat (first | with_reducible (first | exact blA | exact blB | refine blC _ ?_ | refine blD ?_ ?_ _ | refine blE ?_ | refine blF _ ?_ | refine blG ?_ _ | refine blH ?_ | refine blI ?_ ?_ _) | (simp only [World.size_alloc]; omega) | (simp <;> omega))) (hulled_any _)).mono ?_); rintro e w' ⟨z2, rfl, hz2, rfl⟩; skip)
            go_ret
            exact ⟨rfl, (by repeat (first | with_reducible (first | exact blA | exact blB | refine blC _ ?_ | refine blD ?_ ?_ _ | refine blE ?_ | refine blF _ ?_ | refine blG ?_ _ | refine blH ?_ | refine blI ?_ ?_ _) | (simp only [World.size_alloc]; omega) | (simp <;> omega)))⟩
set_option maxRecDepth 100000 in
theorem planarHolds_lifted (os : Os) (started : os.Started) (H : Type) (enc : TypeId × Value → H) :
    ReturnsInHanded {} Try.checked os 12 .any (Rows.planarHoldsSpec.pre6 enc Try.prog Try.f12 Rows.planarHoldsRow.domain false) (Rows.planarHoldsSpec.post enc Try.prog Try.f12 false true false false) := by
  refine returnsInHanded_of_change (C := Try.checked) own started (by kernel_rfl) Try.func12
    (ChangeSpec.witness6 (enc := enc) (C := Try.checked) false ⟨#[], #[.slice none 0 0], []⟩ 8 (by kernel_rfl) (by kernel_rfl) (by kernel_rfl) (by kernel_rfl)) ?_
  intro W base args ds gs before hval0 hW hcnd _
  have hval : ∀ (j : Nat) t v, Try.f12.params[j]? = some t → args[j]? = some v → Value.okWide Try.prog W .any base t v := hval0
  have hW' := hW
  obtain ⟨p, q, hA0, hV, rfl, hfz, hnd⟩ := hW
  have hA : DataW.TrodAll enc Try.prog W 0 (fun _ => true) true Try.f12.params.toList args.toList ds p := hA0
  rw [Try.params12] at hA hval
  have hAA := hA
  obtain ⟨v0, vs0, d0, ds0, p0, q0, hargs, rfl, rfl, h0, r0⟩ := trodAll_cons hA
  obtain ⟨rfl, rfl, rfl⟩ := trodAll_nil r0
  obtain rfl : args = #[v0] := by cases args; simp_all
  obtain ⟨rfl, rfl⟩ := trodVars_none hV
  have o0 := open_pts (hval 0 35 v0 rfl rfl) h0
  have hlt : ∀ x ∈ p0 ++ [], x.block < W.heap.size := fun x hx => hW'.lt x (by simpa using hx)
  refine (holds_walk W _ o0).mono fun e W' ⟨he, bel⟩ => ?_
  subst he
  exact ⟨_, rfl, _, _, _, [], _, [], hW', trodAll_mk1 (shut_bool Try.underlying4 _), below_trodAll laidOut bel _ _ _ _ (by
    intro t ht
    have hcl : ([35] : List TypeId).all (fun t => Try.prog.readableRec t && decide (t < Try.prog.types.size)) = true := by kernel_rfl
    have := List.all_eq_true.1 hcl t ht
    simpa using this) hlt hAA, rfl, bel.frame _, fun h => by cases h⟩
theorem planarHolds_heard : (Try.checked.prog.stopsHeard = true ∧ Try.checked.prog.mayEnter = true) ∧ Try.checked.prog.liftsFinal = Rows.planarHoldsRow.lifted := ⟨⟨by kernel_rfl, by kernel_rfl⟩, by kernel_rfl⟩
theorem planarHolds_calls : (Try.checked.prog.inPlace 12 = Rows.planarHoldsRow.inPlace ∧ Try.checked.prog.unfollowed 12 = Rows.planarHoldsRow.unfollowed) ∧ (Try.checked.prog.recurses 12 = Rows.planarHoldsRow.recurses ∧ Try.checked.prog.varsNamed 12 = Rows.planarHoldsRow.named) := ⟨⟨by kernel_rfl, by kernel_rfl⟩, ⟨by kernel_rfl, by kernel_rfl⟩⟩
theorem planarHolds_closed : joinedFacts Try.checked.prog 12 Try.f12 Rows.planarHoldsSpec Rows.planarHoldsRow = true := by
  unfold joinedFacts
  rw [planarHolds_calls.1.1, planarHolds_calls.1.2, planarHolds_calls.2.1, planarHolds_calls.2.2, planarHolds_heard.1.1, planarHolds_heard.1.2, planarHolds_heard.2]
  kernel_rfl
/-- PlanarHolds: for every input the call returns true, and the arguments read behind it as before. No condition. -/
theorem planarHolds_holds : Rows.PlanarHoldsSaid :=
  OpenClaim.holds_of_wide 12 Try.f12 rfl rfl rfl rfl rfl rfl rfl ⟨rfl, rfl, rfl, rfl, rfl⟩ rfl rfl rfl rfl rfl (by kernel_rfl) Try.func12 planarHolds_closed
    (of_decide_eq_true (by kernel_rfl)) (by unfold Func.isWrapper; rw [if_neg (of_decide_eq_false (by kernel_rfl))]; exact ⟨rfl, rfl⟩)
    (fun os started H enc _ => planarHolds_lifted os started H enc)

end Go.Proofs.Ytceamihampfdiaa
