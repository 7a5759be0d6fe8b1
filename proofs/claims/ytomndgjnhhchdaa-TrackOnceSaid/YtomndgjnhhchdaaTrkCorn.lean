/- Corners of the program and of the chapter, walked. -/
import Derived.Test.YtomndgjnhhchdaaTrkMem
import Derived.Shelf.RegionOpenPlain
namespace Go.Proofs.Ytomndgjnhhchdaa
set_option linter.unusedSimpArgs false
set_option linter.unusedVariables false
set_option maxRecDepth 100000
open Go.RowKit Trk
attribute [local go_sem] Kin.cell Kin.frozen Kin.lt0 Kin.lt1 Kin.lt2 Kin.lt3
theorem cut3 {A : Type} {F : Nat → Nat → Nat → A → Prop} {R : Nat → Nat → Nat → A → Prop} {P : Prop} (main : (∀ Ga Gb Gc y, F Ga Gb Gc y → R Ga Gb Gc y) → P) (pf : ∀ Ga Gb Gc y, F Ga Gb Gc y → R Ga Gb Gc y) : P := main pf
/-- the variables c, a, b lie in memory -/
def Vars3 (w y0 : World) (c a b : Cl) (Gc Ga Gb : Nat) (y : Kin w) : Prop :=
  (y.1.cell? ⟨Gc, 0, none⟩ = some (.int .i64 c.1) ∧ y.1.cell? ⟨Gc, 1, none⟩ = some (.int .i64 c.2)) ∧ (y.1.cell? ⟨Ga, 0, none⟩ = some (.int .i64 a.1) ∧ y.1.cell? ⟨Ga, 1, none⟩ = some (.int .i64 a.2)) ∧
  (y.1.cell? ⟨Gb, 0, none⟩ = some (.int .i64 b.1) ∧ y.1.cell? ⟨Gb, 1, none⟩ = some (.int .i64 b.2)) ∧ Gc < y.1.heap.size ∧ Ga < y.1.heap.size ∧ Gb < y.1.heap.size ∧ Below y0.heap.size y0 y.1
theorem cells3 (w : World) (t : TypeId) (x1 x2 x3 : Cl) : ∀ W3 : World, W3 = (((w.alloc (.cells #[.int .i64 x1.1, .int .i64 x1.2] t)).alloc (.cells #[.int .i64 x2.1, .int .i64 x2.2] t)).alloc (.cells #[.int .i64 x3.1, .int .i64 x3.2] t)).drew →
    (W3.cell? ⟨w.heap.size, 0, none⟩ = some (.int .i64 x1.1) ∧ W3.cell? ⟨w.heap.size, 1, none⟩ = some (.int .i64 x1.2)) ∧ (W3.cell? ⟨w.heap.size + 1, 0, none⟩ = some (.int .i64 x2.1) ∧ W3.cell? ⟨w.heap.size + 1, 1, none⟩ = some (.int .i64 x2.2)) ∧
    (W3.cell? ⟨w.heap.size + 1 + 1, 0, none⟩ = some (.int .i64 x3.1) ∧ W3.cell? ⟨w.heap.size + 1 + 1, 1, none⟩ = some (.int .i64 x3.2)) ∧ w.heap.size < W3.heap.size ∧ w.heap.size + 1 < W3.heap.size ∧ w.heap.size + 1 + 1 < W3.heap.size := by
  intro W3 h
  have hh : W3.heap = ((w.heap.push (.cells #[.int .i64 x1.1, .int .i64 x1.2] t)).push (.cells #[.int .i64 x2.1, .int .i64 x2.2] t)).push (.cells #[.int .i64 x3.1, .int .i64 x3.2] t) := by rw [h]; rfl
  have h1 : W3.heap[w.heap.size]? = some (.cells #[.int .i64 x1.1, .int .i64 x1.2] t) := by
    rw [hh, Array.getElem?_push, if_neg (by simp; omega), Array.getElem?_push, if_neg (by simp), Array.getElem?_push, if_pos rfl]
  have h2 : W3.heap[w.heap.size + 1]? = some (.cells #[.int .i64 x2.1, .int .i64 x2.2] t) := by
    rw [hh, Array.getElem?_push, if_neg (by simp), Array.getElem?_push, if_pos (by simp)]
  have h3 : W3.heap[w.heap.size + 1 + 1]? = some (.cells #[.int .i64 x3.1, .int .i64 x3.2] t) := by
    rw [hh, Array.getElem?_push, if_pos (by simp)]
  have hs : W3.heap.size = w.heap.size + 1 + 1 + 1 := by rw [hh]; simp
  refine ⟨⟨?_, ?_⟩, ⟨?_, ?_⟩, ⟨?_, ?_⟩, by omega, by omega, by omega⟩ <;> simp [World.cell?, h1, h2, h3]
theorem below3 (w : World) (o1 o2 o3 : Obj) : Below w.heap.size w (((w.alloc o1).alloc o2).alloc o3).drew :=
  (Below.alloc (Below.alloc (Below.alloc (Below.refl _ _) (Nat.le_refl _) _) (by rw [World.size_alloc]; exact Nat.le_succ _) _) (by rw [World.size_alloc, World.size_alloc]; omega) _).drew
theorem keep_in {l : List Cl} {m : Nat} {a c b : Cl} (ha : l[m]? = some a) (hc : l[m + 1]? = some c) (hb : l[m + 2]? = some b) : keepAt l (m + 1) = !((c.1 - a.1 == b.1 - c.1) && (c.2 - a.2 == b.2 - c.2)) := by
  unfold keepAt
  rw [Nat.add_sub_cancel, ha, hc, hb]
  rw [Bool.eq_iff_iff]
  simp
theorem keep_first (l : List Cl) : keepAt l 0 = true := by unfold keepAt; split <;> simp
theorem keep_last {l : List Cl} {k : Nat} (h : l.length ≤ k + 1) : keepAt l k = true := by
  unfold keepAt
  rw [List.getElem?_eq_none h]
  split
  · rename_i hh; cases hh
  · rfl
set_option maxHeartbeats 8000000 in
theorem corners_any (r : Int) (cl : Bool) (A : Option Addr) (cap : Nat) (l : List Cl) {n : Nat} (w : World) (hn : l.length = n) (h : Rd 2 encPt w (.slice A n cap) l) :
    Calls Try.prog 16 #[tv r cl A n cap] w fun e w' => (∃ u, e = .returned u ∧ Rd 2 encPt w' u (cornT ((r, cl), l))) ∧ Below w.heap.size w w' := by
  have HL := Lib.hid hn
  have HA := Lib.hid h
  clear h hn
  cases hv : tval ((r, cl), l)
  · have HR := Lib.hid (show cornT ((r, cl), l) = [] by unfold cornT; rw [hv]; rfl)
    go_enter Try.func16, Try.ntmps16
    go_wp2_with (go_at_call 11; (with_reducible refine (Kin.callK (W := (w.alloc (.cells #[.int .i64 r, .bool cl, .slice A n cap] 24))) (by repeat (first | with_reducible (first | exact blA | exact blB | refine blC _ ?_ | refine blD ?_ ?_ _ | refine blE ?_ | refine blF _ ?_ | refine blG ?_ _ | refine blH ?_ | refine blI ?_ ?_ _) | (simp only [World.size_alloc]; omega) | (simp <;> omega))) (validT_is r cl A cap l _ HL.out (HA.out.below (by repeat (first | with_reducible (first | exact blA | exact blB | refine blC _ ?_ | refine blD ?_ ?_ _ | refine blE ?_ | refine blF _ ?_ | refine blG ?_ _ | refine blH ?_ | refine blI ?_ ?_ _) | (simp only [World.size_alloc]; omega) | (simp <;> omega)))) hv)).mono ?_); rintro e w' ⟨z, rfl, hz, rfl⟩; skip)
    go_ret
    exact ⟨⟨_, rfl, by rw [HR.out]; exact Rd.nil⟩, (by repeat (first | with_reducible (first | exact blA | exact blB | refine blC _ ?_ | refine blD ?_ ?_ _ | refine blE ?_ | refine blF _ ?_ | refine blG ?_ _ | refine blH ?_ | refine blI ?_ ?_ _) | (simp only [World.size_alloc]; omega) | (simp <;> omega)))⟩
  · have HR := Lib.hid (show cornT ((r, cl), l) = cornTo l n by unfold cornT; rw [hv, HL.out]; rfl)
    have hn1 : n ≤ 65536 := by have := (tval_len hv).2.2; have := HL.out; simp at *; omega
    have HOK := Lib.hid (fun c (hc : c ∈ l) => okc_iff.1 (tval_ok hv hc))
    go_enter Try.func16, Try.ntmps16
    go_wp2_with (go_at_call 11; (with_reducible refine (Kin.callK (W := (w.alloc (.cells #[.int .i64 r, .bool cl, .slice A n cap] 24))) (by repeat (first | with_reducible (first | exact blA | exact blB | refine blC _ ?_ | refine blD ?_ ?_ _ | refine blE ?_ | refine blF _ ?_ | refine blG ?_ _ | refine blH ?_ | refine blI ?_ ?_ _) | (simp only [World.size_alloc]; omega) | (simp <;> omega))) (validT_is r cl A cap l _ HL.out (HA.out.below (by repeat (first | with_reducible (first | exact blA | exact blB | refine blC _ ?_ | refine blD ?_ ?_ _ | refine blE ?_ | refine blF _ ?_ | refine blG ?_ _ | refine blH ?_ | refine blI ?_ ?_ _) | (simp only [World.size_alloc]; omega) | (simp <;> omega)))) hv)).mono ?_); rintro e w' ⟨z, rfl, hz, rfl⟩; (have B1 := Lib.hid ((Blk.new w 24 #[.int .i64 r, .bool cl, .slice A n cap]).below z.2); have q2 : (Kin.wd z).cell? ⟨w.heap.size, 2, none⟩ = some (.slice A n cap) := B1.out.cell 2; have ql := B1.out.lt))
    have HZW := Lib.hid (show Below w.heap.size w z.1 from (by repeat (first | with_reducible (first | exact blA | exact blB | refine blC _ ?_ | refine blD ?_ ?_ _ | refine blE ?_ | refine blF _ ?_ | refine blG ?_ _ | refine blH ?_ | refine blI ?_ ?_ _) | (simp only [World.size_alloc]; omega) | (simp <;> omega))))
    have HAZ := Lib.hid (HA.out.below HZW.out)
    have HA := Lib.hid (Rd.op HAZ.out)
    have HLA := Lib.hid HAZ.out
    clear hv HAZ
    go_loopw [3, 15] (fun o i wr => ∃ k : Nat, k ≤ n ∧ i = .int .i64 k ∧ Hid (OwnC z.1.heap.size wr o (cornTo l k)) ∧ ∃ y : Kin z.1, y.1 = wr) (fun _ i _ => n - (intOf i).toNat)
    case atStart => exact ⟨0, Nat.zero_le _, rfl, Lib.hid OwnC.nil, ⟨_, Below.refl _ _⟩, rfl⟩
    case round =>
      obtain ⟨k, hk, rfl, HO, y, rfl⟩ := hrel
      have hcl : (cornTo l k).length ≤ 65536 := Nat.le_trans (cornTo_len l k) (by omega)
      by_cases hlt : k < n
      · obtain ⟨c, hc⟩ : ∃ el_, (l)[k]? = some el_ := ⟨_, List.getElem?_eq_getElem (by first | exact (by rw [HL.out]; exact hlt) | omega)⟩
        obtain ⟨bA, offA, rfl, hbA, hcA⟩ := HA.out (k) _ hc
        have c_0 : z.1.cell? ⟨bA, offA + k * 2, none⟩ = some (.int .i64 c.1) := by exact hcA (k) _ hc 0 _ rfl
        have c_1 : z.1.cell? ⟨bA, offA + k * 2 + 1, none⟩ = some (.int .i64 c.2) := by exact hcA (k) _ hc 1 _ rfl
        have hbA2 : bA < z.1.heap.size + 1 := by omega
        have HAc := Lib.hid hcA
        have Hc := Lib.hid hc
        clear hc hcA
        have HSC := Lib.hid (cornTo_succ Hc.out)
        by_cases h0 : k = 0
        · subst h0
          have HS := Lib.hid (show cornTo l (0 + 1) = cornTo l 0 ++ [c] by rw [HSC.out, keep_first]; rfl)
          have d_2 : z.1.cell? ⟨bA, offA, none⟩ = some (.int .i64 c.1) := by simpa using c_0
          have d_3 : z.1.cell? ⟨bA, offA + 1, none⟩ = some (.int .i64 c.2) := by simpa using c_1
          go_wp2_with (at_builtin; refine wpList_app _ rfl _ _ 22 rfl encPt_len (by decide) oneP z.1.heap.size 31 (.agg #[.int .i64 0, .int .i64 0]) 16 infoCell rfl Try.underlying22 _ _ _ _ rfl ((HO.out.own.alloc _).alloc _) _ _ _ rfl (rd_one _ encPt_len _ c _ rfl) ?c1 (by decide) ?c2 ?_; (case c1 => (first | (simp only [List.length_append, List.length_cons, List.length_nil]; omega) | omega | (simp; omega))); (case c2 => exact (by repeat (first | with_reducible exact Nat.le_refl _ | assumption | with_reducible refine le_alloc ?_ _ | with_reducible refine le_drew ?_ | with_reducible refine Kin.le _ ?_ | assumption | omega | (simp only [World.size_alloc]; omega)))); intro v' w1 hown' hg hbel hat'; (obtain ⟨y2, rfl⟩ : ∃ y : Kin z.1, y.1 = w1 := ⟨⟨w1, Below.trans (by repeat (first | with_reducible (first | exact blA | exact blB | refine blC _ ?_ | refine blD ?_ ?_ _ | refine blE ?_ | refine blF _ ?_ | refine blG ?_ _ | refine blH ?_ | refine blI ?_ ?_ _) | (simp only [World.size_alloc]; omega) | (simp <;> omega))) hbel⟩, rfl⟩); clear hbel hg hat')
          go_roundw
          case rel => exact ⟨0 + 1, by omega, by go_num, Lib.hid (by rw [HS.out]; exact hown'), y2, rfl⟩
          case measure => simp [intOf]; omega
        · obtain ⟨m, rfl⟩ : ∃ m, k = m + 1 := ⟨k - 1, by omega⟩
          have hw1 : IntKind.i64.wrap (((m + 1 : Nat) : Int) - 1) = (m : Int) := by rw [IntWalk.i64_in _ (by omega)]; omega
          have hw2 : ((m : Int) + 1) - 1 = (m : Int) := by omega
          have hw3 : IntKind.i64.wrap ((m : Int) + 1 - 1) = (m : Int) := by rw [IntWalk.i64_in _ (by omega)]; omega
          have hw4 : (0 : Int) < (m : Int) + 1 := by omega
          have hmn : m < n := by omega
          have hp1 : IntKind.i64.wrap ((m : Int) + 1 + 1) = (m : Int) + 1 + 1 := IntWalk.i64_in _ (by omega)
          by_cases h1 : m + 2 < n
          · have hp2 : (m : Int) + 1 + 1 < (n : Int) := by omega
            have hp3 : (0 : Int) ≤ (m : Int) + 1 + 1 := by omega
            have hp4 : ((m : Int) + 1 + 1).toNat = m + 2 := by omega
            obtain ⟨a, ha⟩ : ∃ el_, (l)[m]? = some el_ := ⟨_, List.getElem?_eq_getElem (by first | exact (by rw [HL.out]; omega) | omega)⟩
            have a_0 : z.1.cell? ⟨bA, offA + m * 2, none⟩ = some (.int .i64 a.1) := by exact HAc.out (m) _ ha 0 _ rfl
            have a_1 : z.1.cell? ⟨bA, offA + m * 2 + 1, none⟩ = some (.int .i64 a.2) := by exact HAc.out (m) _ ha 1 _ rfl
            have Ha := Lib.hid ha
            clear ha
            obtain ⟨b, hb⟩ : ∃ el_, (l)[m + 2]? = some el_ := ⟨_, List.getElem?_eq_getElem (by first | exact (by rw [HL.out]; omega) | omega)⟩
            have b_0 : z.1.cell? ⟨bA, offA + (m + 2) * 2, none⟩ = some (.int .i64 b.1) := by exact HAc.out (m + 2) _ hb 0 _ rfl
            have b_1 : z.1.cell? ⟨bA, offA + (m + 2) * 2 + 1, none⟩ = some (.int .i64 b.2) := by exact HAc.out (m + 2) _ hb 1 _ rfl
            have Hb := Lib.hid hb
            clear hb
            have HKP := Lib.hid (keep_in Ha.out Hc.out Hb.out)
            have oc := HOK.out c (List.mem_of_getElem? Hc.out)
            have oa := HOK.out a (List.mem_of_getElem? Ha.out)
            have ob := HOK.out b (List.mem_of_getElem? Hb.out)
            have s1 : IntKind.i64.wrap (c.1 - a.1) = c.1 - a.1 := IntWalk.i64_in _ (by omega)
            have s2 : IntKind.i64.wrap (b.1 - c.1) = b.1 - c.1 := IntWalk.i64_in _ (by omega)
            have s3 : IntKind.i64.wrap (c.2 - a.2) = c.2 - a.2 := IntWalk.i64_in _ (by omega)
            have s4 : IntKind.i64.wrap (b.2 - c.2) = b.2 - c.2 := IntWalk.i64_in _ (by omega)
            clear oc oa ob
            have mixed : Try.prog.follows .mixedOrders = true := by kernel_rfl
            go_wp2_with fail
            apply cut3 (F := Vars3 z.1 y.1 c a b)
            case main =>
              intro key
              go_big_region_o
              all_goals first
                | (obtain ⟨y2, hy2⟩ : ∃ y2 : Kin z.1, y2.1 = (((y.1.alloc (.cells #[.int .i64 c.1, .int .i64 c.2] 31)).alloc (.cells #[.int .i64 a.1, .int .i64 a.2] 31)).alloc (.cells #[.int .i64 b.1, .int .i64 b.2] 31)).drew := ⟨⟨_, (((y.2.alloc y.2.size _).alloc (by repeat (first | with_reducible exact Nat.le_refl _ | assumption | with_reducible refine le_alloc ?_ _ | with_reducible refine le_drew ?_ | with_reducible refine Kin.le _ ?_ | assumption | omega | (simp only [World.size_alloc]; omega))) _).alloc (by repeat (first | with_reducible exact Nat.le_refl _ | assumption | with_reducible refine le_alloc ?_ _ | with_reducible refine le_drew ?_ | with_reducible refine Kin.le _ ?_ | assumption | omega | (simp only [World.size_alloc]; omega))) _).drew⟩, rfl⟩; have hb3 : Below y.1.heap.size y.1 y2.1 := hy2 ▸ below3 _ _ _ _; have h3 := cells3 _ _ _ _ _ _ hy2; rw [← hy2]; obtain ⟨G2, hG2⟩ : ∃ G, y.1.heap.size + 1 + 1 = G := ⟨_, rfl⟩; obtain ⟨G1, hG1⟩ : ∃ G, y.1.heap.size + 1 = G := ⟨_, rfl⟩; obtain ⟨G0, hG0⟩ : ∃ G, y.1.heap.size = G := ⟨_, rfl⟩; have hv2 : Vars3 z.1 y.1 c a b G0 G1 G2 y2 := (by rw [hG2, hG1, hG0] at h3; obtain ⟨h31, h32, h33, h34, h35, h36⟩ := h3; unfold Vars3; exact ⟨by assumption, by assumption, by assumption, by assumption, by assumption, by assumption, hb3⟩); rw [hG2, hG1, hG0]; exact key G0 G1 G2 y2 hv2)
                | (obtain ⟨y2, hy2⟩ : ∃ y2 : Kin z.1, y2.1 = (((y.1.alloc (.cells #[.int .i64 c.1, .int .i64 c.2] 31)).alloc (.cells #[.int .i64 b.1, .int .i64 b.2] 31)).alloc (.cells #[.int .i64 a.1, .int .i64 a.2] 31)).drew := ⟨⟨_, (((y.2.alloc y.2.size _).alloc (by repeat (first | with_reducible exact Nat.le_refl _ | assumption | with_reducible refine le_alloc ?_ _ | with_reducible refine le_drew ?_ | with_reducible refine Kin.le _ ?_ | assumption | omega | (simp only [World.size_alloc]; omega))) _).alloc (by repeat (first | with_reducible exact Nat.le_refl _ | assumption | with_reducible refine le_alloc ?_ _ | with_reducible refine le_drew ?_ | with_reducible refine Kin.le _ ?_ | assumption | omega | (simp only [World.size_alloc]; omega))) _).drew⟩, rfl⟩; have hb3 : Below y.1.heap.size y.1 y2.1 := hy2 ▸ below3 _ _ _ _; have h3 := cells3 _ _ _ _ _ _ hy2; rw [← hy2]; obtain ⟨G2, hG2⟩ : ∃ G, y.1.heap.size + 1 + 1 = G := ⟨_, rfl⟩; obtain ⟨G1, hG1⟩ : ∃ G, y.1.heap.size + 1 = G := ⟨_, rfl⟩; obtain ⟨G0, hG0⟩ : ∃ G, y.1.heap.size = G := ⟨_, rfl⟩; have hv2 : Vars3 z.1 y.1 c a b G0 G2 G1 y2 := (by rw [hG2, hG1, hG0] at h3; obtain ⟨h31, h32, h33, h34, h35, h36⟩ := h3; unfold Vars3; exact ⟨by assumption, by assumption, by assumption, by assumption, by assumption, by assumption, hb3⟩); rw [hG2, hG1, hG0]; exact key G0 G2 G1 y2 hv2)
            case pf =>
              rintro Gc Ga Gb y2 ⟨⟨c0, c1⟩, ⟨a0, a1⟩, ⟨b0, b1⟩, hGc, hGa, hGb, hbel⟩
              have HOY := Lib.hid (own_below HO.out.own hbel)
              clear c_0 c_1 a_0 a_1 b_0 b_1 HO hbel mixed
              cases g1 : (c.1 - a.1 == b.1 - c.1)
              · have HS := Lib.hid (show cornTo l (m + 1 + 1) = cornTo l (m + 1) ++ [c] by rw [HSC.out, HKP.out, g1]; rfl)
                go_wp2_with (at_builtin; refine wpList_app _ rfl _ _ 22 rfl encPt_len (by decide) oneP z.1.heap.size 31 (.agg #[.int .i64 0, .int .i64 0]) 16 infoCell rfl Try.underlying22 _ _ _ _ rfl (HOY.out.alloc _) _ _ _ rfl (rd_one _ encPt_len _ c _ rfl) ?c1 (by decide) ?c2 ?_; (case c1 => (first | (simp only [List.length_append, List.length_cons, List.length_nil]; omega) | omega | (simp; omega))); (case c2 => exact (by repeat (first | with_reducible exact Nat.le_refl _ | assumption | with_reducible refine le_alloc ?_ _ | with_reducible refine le_drew ?_ | with_reducible refine Kin.le _ ?_ | assumption | omega | (simp only [World.size_alloc]; omega)))); intro v' w1 hown' hg hbel hat'; (obtain ⟨y3, rfl⟩ : ∃ y : Kin z.1, y.1 = w1 := ⟨⟨w1, Below.trans (by repeat (first | with_reducible (first | exact blA | exact blB | refine blC _ ?_ | refine blD ?_ ?_ _ | refine blE ?_ | refine blF _ ?_ | refine blG ?_ _ | refine blH ?_ | refine blI ?_ ?_ _) | (simp only [World.size_alloc]; omega) | (simp <;> omega))) hbel⟩, rfl⟩); clear hbel hg hat')
                go_roundw
                case rel => exact ⟨m + 1 + 1, by omega, by go_num, Lib.hid (by rw [HS.out]; exact hown'), y3, rfl⟩
                case measure => simp [intOf]; omega
              · cases g2 : (c.2 - a.2 == b.2 - c.2)
                · have HS := Lib.hid (show cornTo l (m + 1 + 1) = cornTo l (m + 1) ++ [c] by rw [HSC.out, HKP.out, g1, g2]; rfl)
                  go_wp2_with (at_builtin; refine wpList_app _ rfl _ _ 22 rfl encPt_len (by decide) oneP z.1.heap.size 31 (.agg #[.int .i64 0, .int .i64 0]) 16 infoCell rfl Try.underlying22 _ _ _ _ rfl (HOY.out.alloc _) _ _ _ rfl (rd_one _ encPt_len _ c _ rfl) ?c1 (by decide) ?c2 ?_; (case c1 => (first | (simp only [List.length_append, List.length_cons, List.length_nil]; omega) | omega | (simp; omega))); (case c2 => exact (by repeat (first | with_reducible exact Nat.le_refl _ | assumption | with_reducible refine le_alloc ?_ _ | with_reducible refine le_drew ?_ | with_reducible refine Kin.le _ ?_ | assumption | omega | (simp only [World.size_alloc]; omega)))); intro v' w1 hown' hg hbel hat'; (obtain ⟨y3, rfl⟩ : ∃ y : Kin z.1, y.1 = w1 := ⟨⟨w1, Below.trans (by repeat (first | with_reducible (first | exact blA | exact blB | refine blC _ ?_ | refine blD ?_ ?_ _ | refine blE ?_ | refine blF _ ?_ | refine blG ?_ _ | refine blH ?_ | refine blI ?_ ?_ _) | (simp only [World.size_alloc]; omega) | (simp <;> omega))) hbel⟩, rfl⟩); clear hbel hg hat')
                  go_roundw
                  case rel => exact ⟨m + 1 + 1, by omega, by go_num, Lib.hid (by rw [HS.out]; exact hown'), y3, rfl⟩
                  case measure => simp [intOf]; omega
                · have HS := Lib.hid (show cornTo l (m + 1 + 1) = cornTo l (m + 1) by rw [HSC.out, HKP.out, g1, g2]; simp)
                  go_wp2
                  go_roundw
                  case rel => exact ⟨m + 1 + 1, by omega, by go_num, Lib.hid (by rw [HS.out]; exact HOY.out), y2, rfl⟩
                  case measure => simp [intOf]; omega
          · have hp2 : ¬ (m : Int) + 1 + 1 < (n : Int) := by omega
            have HS := Lib.hid (show cornTo l (m + 1 + 1) = cornTo l (m + 1) ++ [c] by rw [HSC.out, keep_last (by rw [HL.out]; omega)]; rfl)
            go_wp2_with (at_builtin; refine wpList_app _ rfl _ _ 22 rfl encPt_len (by decide) oneP z.1.heap.size 31 (.agg #[.int .i64 0, .int .i64 0]) 16 infoCell rfl Try.underlying22 _ _ _ _ rfl ((HO.out.own.alloc _).alloc _) _ _ _ rfl (rd_one _ encPt_len _ c _ rfl) ?c1 (by decide) ?c2 ?_; (case c1 => (first | (simp only [List.length_append, List.length_cons, List.length_nil]; omega) | omega | (simp; omega))); (case c2 => exact (by repeat (first | with_reducible exact Nat.le_refl _ | assumption | with_reducible refine le_alloc ?_ _ | with_reducible refine le_drew ?_ | with_reducible refine Kin.le _ ?_ | assumption | omega | (simp only [World.size_alloc]; omega)))); intro v' w1 hown' hg hbel hat'; (obtain ⟨y2, rfl⟩ : ∃ y : Kin z.1, y.1 = w1 := ⟨⟨w1, Below.trans (by repeat (first | with_reducible (first | exact blA | exact blB | refine blC _ ?_ | refine blD ?_ ?_ _ | refine blE ?_ | refine blF _ ?_ | refine blG ?_ _ | refine blH ?_ | refine blI ?_ ?_ _) | (simp only [World.size_alloc]; omega) | (simp <;> omega))) hbel⟩, rfl⟩); clear hbel hg hat')
            go_roundw
            case rel => exact ⟨m + 1 + 1, by omega, by go_num, Lib.hid (by rw [HS.out]; exact hown'), y2, rfl⟩
            case measure => simp [intOf]; omega
      · have hkn : k = n := by omega
        subst hkn
        have HE := Lib.hid (Rd.own encPt_len HO.out.own)
        obtain ⟨yy, hyy⟩ : ∃ yy : Kin w, yy.1 = y.1 := ⟨⟨y.1, HZW.out.trans (y.2.mono HZW.out.size)⟩, rfl⟩
        go_wp2
        go_ret
        exact ⟨⟨_, rfl, by rw [HR.out]; exact HE.out⟩, by rw [← hyy]; exact yy.2⟩
end Go.Proofs.Ytomndgjnhhchdaa
