/- Lemmas: TrkCov TrkPure. -/
import Derived.Test.YtneelidbgigehaaGreatT26
import Derived.Test.YtneelidbgigehaaGreatT28
import Derived.Test.YtneelidbgigehaaGreatT27
import Derived.Test.YtneelidbgigehaaGreatT25
/- Cover of the program and of the chapter, walked: the cells of the valid tracks. -/
namespace Go.Proofs.YtneelidbgigehaaGreat
set_option linter.unusedSimpArgs false
set_option linter.unusedVariables false
set_option maxRecDepth 100000
open Go Go.RowKit Trk Reg Runs
attribute [local go_sem] Kin.cell Kin.frozen Kin.lt0 Kin.lt1 Kin.lt2 Kin.lt3
/-- the cells of the valid tracks -/
def cellsT (l : List Tr) : List Cl := l.flatMap fun t => if tval t then t.2 else []
theorem cellsT_succ {l : List Tr} {k : Nat} {t : Tr} (h : l[k]? = some t) : cellsT (l.take (k + 1)) = cellsT (l.take k) ++ (if tval t then t.2 else []) := by
  unfold cellsT
  rw [List.take_add_one, h]
  simp
theorem cellsT_le (l : List Tr) (k : Nat) : (cellsT (l.take k)).length ≤ (cellsT l).length := by
  unfold cellsT
  conv => rhs; rw [← List.take_append_drop k l]
  rw [List.flatMap_append, List.length_append]
  omega
set_option maxHeartbeats 8000000 in
theorem cover_any (v : Value) (l : List Tr) (w : World) (h : RdTrs w v l) (hl : l.length ≤ 1099511627776) (hc : (cellsT l).length ≤ 1099511627776) :
    Calls Tryz.prog 16 #[v] w fun e w' => (∃ A n c, e = .returned (.agg #[.slice A n c]) ∧ RdReg w' (.agg #[.slice A n c]) (ofR (cellsT l))) ∧ Below w.heap.size w w' := by
  obtain ⟨A, capA, rfl, hcapA, hopA⟩ := trks_open h
  have HA := Lib.hid hopA
  obtain ⟨n, hL⟩ : ∃ n, l.length = n := ⟨_, rfl⟩
  have HL := Lib.hid hL
  have HBD := Lib.hid (fun k => Nat.le_trans (cellsT_le l k) hc)
  rw [hL] at hcapA hl ⊢
  clear hL hopA h
  obtain ⟨W1, hW1⟩ : ∃ W1, W1 = w.alloc (.cells #[.slice none 0 0] 24) := ⟨_, rfl⟩
  have HB1 := Lib.hid (show Blk W1 w.heap.size 24 #[.slice none 0 0] from hW1 ▸ Blk.new _ _ _)
  have HBW := Lib.hid (show Below w.heap.size w W1 from hW1 ▸ gRw)
  have hz1 : W1.heap.size = w.heap.size + 1 := by rw [hW1, World.size_alloc]
  have HA1 := Lib.hid (show ∀ (k : Nat) t, l[k]? = some t → True from fun _ _ _ => trivial)
  go_enter Tryz.func16, Tryz.ntmps16
  go_wp2
  rw [← hW1]
  clear hW1
  go_loopw [3, 10] (fun u i wr => ∃ k : Nat, k ≤ n ∧ i = .int .i64 k ∧ Hid (OwnC (W1.heap.size) wr u (cellsT (l.take k))) ∧ Hid (W1.heap.size ≤ wr.heap.size) ∧ ∃ y : Kin W1, y.1 = wr) (fun _ i _ => n - (intOf i).toNat)
  case atStart => exact ⟨0, Nat.zero_le _, rfl, Lib.hid OwnC.nil, Lib.hid (by simp), ⟨_, Below.refl _ _⟩, rfl⟩
  case round =>
    obtain ⟨k, hk, rfl, HO, HSZ, yo, rfl⟩ := hrel
    by_cases hlt : k < n
    · obtain ⟨t, ht⟩ : ∃ t, l[k]? = some t := ⟨_, List.getElem?_eq_getElem (by rw [HL.out]; exact hlt)⟩
      obtain ⟨bA, offA, rfl, hbA, hcA⟩ := HA.out k t ht
      obtain ⟨S, capS, t_0, t_1, t_2, hcapS, hrS⟩ := hcA k t ht
      have hbA1 : bA < W1.heap.size := Nat.lt_of_lt_of_le hbA HBW.out.size
      have u_0 : W1.cell? ⟨bA, offA + k * 3, none⟩ = _ := (HBW.out.cell (p := ⟨bA, _, none⟩) hbA).trans t_0
      have u_1 : W1.cell? ⟨bA, offA + k * 3 + 1, none⟩ = _ := (HBW.out.cell (p := ⟨bA, _, none⟩) hbA).trans t_1
      have u_2 : W1.cell? ⟨bA, offA + k * 3 + 2, none⟩ = _ := (HBW.out.cell (p := ⟨bA, _, none⟩) hbA).trans t_2
      have HSC := Lib.hid (cellsT_succ ht)
      have hbk := HBD.out k
      have hbk1 := HBD.out (k + 1)
      rw [HSC.out, List.length_append] at hbk1
      obtain ⟨⟨r, cl⟩, cs⟩ := t
      simp only at u_0 u_1 u_2 hcapS hrS
      clear t_0 t_1 t_2
      obtain ⟨nt, hnt⟩ : ∃ nt, cs.length = nt := ⟨_, rfl⟩
      have HNT := Lib.hid hnt
      rw [hnt] at u_2 hcapS hrS
      have HLS := Lib.hid hrS
      clear hnt hrS hcA ht
      cases hv : tval ((r, cl), cs)
      · have HSS := Lib.hid (show cellsT (l.take (k + 1)) = cellsT (l.take k) by rw [HSC.out, hv]; simp)
        clear hbk1
        go_wp2_with (go_at_call 39; (with_reducible refine (Kin.callK (W := W1) gRw (validT_is r cl S capS cs _ HNT.out ((HLS.out.below HBW.out).below gRw) hv)).mono ?_); rintro e w' ⟨z, rfl, hz, rfl⟩; (have HYZ := Lib.hid ((Below.alloc (Below.refl (Kin.wd yo).heap.size (Kin.wd yo)) (Nat.le_refl _) (.cells #[.int .i64 r, .bool cl, .slice S nt capS] 72)).trans (hz.mono (by rw [World.size_alloc]; exact Nat.le_succ _)))))
        go_roundw
        case rel => exact ⟨k + 1, by omega, by go_num, Lib.hid (by rw [HSS.out]; exact own_below HO.out.own HYZ.out), Lib.hid (Nat.le_trans HSZ.out HYZ.out.size), z, rfl⟩
        case measure => simp [intOf]; omega
      · have HSS := Lib.hid (show cellsT (l.take (k + 1)) = cellsT (l.take k) ++ cs by rw [HSC.out, hv]; rfl)
        rw [hv, if_pos rfl, HNT.out] at hbk1
        obtain ⟨C0, hC0⟩ : ∃ C0, cellsT (l.take k) = C0 := ⟨_, rfl⟩
        rw [hC0] at HSS hbk hbk1 HO
        clear hC0 HSC
        go_wp2_with (first
          | (go_at_call 39; (with_reducible refine (Kin.callK (W := W1) gRw (validT_is r cl S capS cs _ HNT.out ((HLS.out.below HBW.out).below gRw) hv)).mono ?_); rintro e w' ⟨z, rfl, hz, rfl⟩; (have HYZ := Lib.hid ((Below.alloc (Below.refl (Kin.wd yo).heap.size (Kin.wd yo)) (Nat.le_refl _) (.cells #[.int .i64 r, .bool cl, .slice S nt capS] 72)).trans (hz.mono (by rw [World.size_alloc]; exact Nat.le_succ _))); have PT := Lib.hid ((Blk.new (Kin.wd yo) 72 #[.int .i64 r, .bool cl, .slice S nt capS]).below hz); have p2 : (Kin.wd z).cell? ⟨(Kin.wd yo).heap.size, 2, none⟩ = some (.slice S nt capS) := PT.out.cell 2; have pl := PT.out.lt; have HOZ := Lib.hid (own_below HO.out.own HYZ.out); have hle : W1.heap.size ≤ (Kin.wd z).heap.size := Nat.le_trans HSZ.out HYZ.out.size; have hc1 : C0.length + nt < maxLen := (by unfold maxLen; omega)))
          | (at_builtin; refine wpList_app _ rfl _ _ 70 rfl encPt_len (by decide) oneP (W1.heap.size) 47 (.agg #[.int .i64 0, .int .i64 0]) 16 infoCell rfl Tryz.underlying70 _ _ _ _ rfl (HOZ.out) _ _ _ rfl ((HLS.out.below HBW.out).below gRw) ?c1 (by decide) ?c2 ?_; (case c1 => (first | (simp only [List.length_append, List.length_cons, List.length_nil]; omega) | omega | (simp; omega))); (case c2 => exact lEw); intro v' w1 hown' hg hbel hat'; skip))
        have HON := Lib.hid (OwnC.of hown')
        have HWB := Lib.hid (show Below W1.heap.size W1 w1 from z.2.trans (hbel.mono (Nat.le_refl _)))
        have hs11 : W1.heap.size ≤ w1.heap.size := Nat.le_trans hle hg.size
        go_roundw
        case rel => exact ⟨k + 1, by omega, by go_num, Lib.hid (by rw [HSS.out]; exact HON.out), Lib.hid hs11, ⟨_, HWB.out⟩, rfl⟩
        case measure => simp [intOf]; omega
    · have hkn : k = n := by omega
      subst hkn
      have hall : cellsT (l.take k) = cellsT l := by rw [List.take_of_length_le (by rw [HL.out]; exact Nat.le_refl _)]
      rw [hall] at HO
      have hrd := Rd.own encPt_len HO.out.own
      have HR := Lib.hid hrd
      clear hrd
      go_wp2_with (go_at_call 40; (with_reducible refine (Kin.callK (W := W1) gRw (of_any _ (cellsT l) _ HR.out hc)).mono ?_); rintro e w' ⟨z, ⟨A2, n2, c2, rfl, hr2⟩, hz, rfl⟩; (have HR2 := Lib.hid hr2; have B1 := Lib.hid (HB1.out.below z.2); have q0 : (Kin.wd z).cell? ⟨w.heap.size, 0, none⟩ = some (.slice none 0 0) := B1.out.cell 0; have f0 : (Kin.wd z).frozen? ⟨w.heap.size, 0, none⟩ = false := B1.out.frozen 0; have ql := B1.out.lt; clear hr2))
      have HZW := Lib.hid (show Below w.heap.size w z.1 from HBW.out.trans (z.2.mono (by omega)))
      ((try simp only [Exit.inBlock, Exit.then]); refine bodyPost_ret (results_cell_row rfl _ _ _ _ _ (0, 0) _ rfl ((B1.out.set_ 0 _).below (Below.alloc (Below.refl _ _) (Nat.le_refl _) _)) Tryz.underlying24 rfl (by kernel_rfl)) rfl ?_)
      obtain ⟨zz, hzz⟩ : ∃ zz : Kin w, zz.1 = z.1 := ⟨⟨z.1, HZW.out⟩, rfl⟩
      exact ⟨⟨_, _, _, rfl, (HR2.out.set_ B1.out).below (Below.alloc (Below.refl _ _) (Nat.le_refl _) _)⟩, by rw [← hzz]; have hsz := zz.2.size; exact gRw⟩
end Go.Proofs.YtneelidbgigehaaGreat

/- Reversed and turned tracks: plain laws. (joined: TrkTurnP TrkCovP TrkOncP TrkOncC) -/
/- Reversed and turned tracks: plain laws. -/
namespace Go.Proofs.YtneelidbgigehaaGreat
set_option linter.unusedSimpArgs false
set_option linter.unusedVariables false
namespace Trk
end Trk
end Go.Proofs.YtneelidbgigehaaGreat
/- Covers of tracks: plain laws. -/
namespace Go.Proofs.YtneelidbgigehaaGreat
set_option linter.unusedSimpArgs false
set_option linter.unusedVariables false
open Trk Reg
theorem okc_okCell {c : Cl} (h : okc c = true) : okCell c = true := okCell_iff.2 (okc_iff.1 h)
theorem mem_cellsT {l : List Tr} {c : Cl} : c ∈ cellsT l ↔ ∃ t ∈ l, tval t = true ∧ c ∈ t.2 := by
  unfold cellsT
  rw [List.mem_flatMap]
  constructor
  · rintro ⟨t, ht, hc⟩
    by_cases hv : tval t = true
    · rw [if_pos hv] at hc; exact ⟨t, ht, hv, hc⟩
    · rw [if_neg hv] at hc; cases hc
  · rintro ⟨t, ht, hv, hc⟩
    exact ⟨t, ht, by rw [if_pos hv]; exact hc⟩
theorem cellsT_ok (l : List Tr) : (cellsT l).all okCell = true := by
  rw [List.all_eq_true]
  intro c hc
  obtain ⟨t, _, hv, hc⟩ := mem_cellsT.1 hc
  exact okc_okCell (tval_ok hv hc)
theorem ofR_same {a b : List (Int × Int)} (ha : a.all okCell = true) (hb : b.all okCell = true) (h : ∀ c, c ∈ a ↔ c ∈ b) : ofR a = ofR b :=
  ofR_ext ha (ofR_valid b) fun x y => by rw [(ofR_spec hb).2 x y, h]
theorem cellsT_len {l : List Tr} {m : Nat} (h : ∀ t ∈ l, t.2.length ≤ m) : (cellsT l).length ≤ m * l.length := by
  unfold cellsT
  induction l with
  | nil => simp
  | cons t l ih =>
    have h1 := ih (fun s hs => h s (by simp [hs]))
    have h2 := h t (by simp)
    rw [List.flatMap_cons, List.length_append, List.length_cons, Nat.mul_add, Nat.mul_one]
    have h3 : (if tval t = true then t.2 else []).length ≤ m := by
      split
      · exact h2
      · exact Nat.zero_le _
    omega
end Go.Proofs.YtneelidbgigehaaGreat
/- Once: plain laws. -/
namespace Go.Proofs.YtneelidbgigehaaGreat
set_option linter.unusedSimpArgs false
set_option linter.unusedVariables false
namespace Trk
theorem keptL_all : ∀ {l S : List Cl}, (∀ c ∈ l, c ∉ S) → l.Nodup → (keptL S l).all id = true
  | [], S, _, _ => rfl
  | c :: l, S, h, hn => by
    rw [List.nodup_cons] at hn
    unfold keptL
    rw [List.all_cons, Bool.and_eq_true]
    refine ⟨?_, keptL_all (fun d hd hS => ?_) hn.2⟩
    · simpa using h c (by simp)
    · rcases List.mem_cons.1 hS with rfl | hS
      · exact hn.1 hd
      · exact h d (by simp [hd]) hS
/-- tracks that are valid and cover each cell once stay as they are -/
theorem fold_same : ∀ (l : List Tr) (O : List Tr) (S : List Cl), (∀ t ∈ l, tval t = true) → (l.flatMap fun t => t.2).Nodup → (∀ c ∈ l.flatMap (fun t => t.2), c ∉ S) → (l.foldl oncS (O, S)).1 = O ++ l
  | [], O, S, _, _, _ => by simp
  | t :: l, O, S, hv, hn, hs => by
    rw [List.flatMap_cons, List.nodup_append] at hn
    have hk : (keptL S t.2).all id = true := keptL_all (fun c hc => hs c (by simp [hc])) hn.1
    have e : oncS (O, S) t = (O ++ [t], t.2.reverse ++ S) := by
      unfold oncS
      rw [if_pos (hv t (by simp))]
      simp only [hk, if_true]
    rw [List.foldl_cons, e, fold_same l _ _ (fun s h => hv s (by simp [h])) hn.2.1 (fun c hc hS => ?_)]
    · simp
    · rcases List.mem_append.1 hS with hS | hS
      · exact hn.2.2 c (by simpa using hS) c hc rfl
      · exact hs c (by rw [List.flatMap_cons]; exact List.mem_append_right _ hc) hS
theorem onc_same {l : List Tr} (hv : ∀ t ∈ l, tval t = true) (hn : (l.flatMap fun t => t.2).Nodup) : oncT l = l := by
  unfold oncT
  rw [fold_same l [] [] hv hn (fun c _ h => by cases h)]
  rfl
theorem keptL_get : ∀ (l S : List Cl) (i : Nat), (keptL S l)[i]? = l[i]?.map fun c => !((l.take i).reverse ++ S).contains c
  | [], S, i => by simp [keptL]
  | c :: l, S, 0 => by simp [keptL]
  | c :: l, S, i + 1 => by simp [keptL, keptL_get l (c :: S) i]
theorem stepOk_snoc {x : List Cl} {c : Cl} (h : stepOk x = true) (hc : okc c = true) (hn : ∀ d, x.getLast? = some d → nb d c = true) : stepOk (x ++ [c]) = true := by
  rw [stepOk_iff] at h ⊢
  intro i a ha
  by_cases hi : i < x.length
  · rw [List.getElem?_append_left hi] at ha
    refine ⟨(h i a ha).1, fun d hd => ?_⟩
    by_cases hi2 : i + 1 < x.length
    · rw [List.getElem?_append_left hi2] at hd
      exact (h i a ha).2 d hd
    · rw [List.getElem?_append_right (by omega), show i + 1 - x.length = 0 by omega] at hd
      simp at hd
      subst hd
      exact hn a (by rw [List.getLast?_eq_getElem?, show x.length - 1 = i by omega]; exact ha)
  · rw [List.getElem?_append_right (by omega)] at ha
    have e : i - x.length = 0 := by
      have := (List.getElem?_eq_some_iff.1 ha).1
      simp at this; omega
    rw [e] at ha
    simp at ha
    subst ha
    exact ⟨hc, fun d hd => by rw [List.getElem?_eq_none (by simp; omega)] at hd; cases hd⟩
theorem pcs_inv (r : Int) (l S : List Cl) (hl : stepOk l = true) : ∀ i, i ≤ l.length →
    (∀ t ∈ pcsTo r l (keptL S l) i, t.1 = (r, false) ∧ t.2 ≠ [] ∧ stepOk t.2 = true) ∧ ((pcsTo r l (keptL S l) i).flatMap fun t => t.2).Nodup ∧
    (∀ c, c ∈ (pcsTo r l (keptL S l) i).flatMap (fun t => t.2) ↔ c ∈ l.take i ∧ c ∉ S) ∧
    (0 < i → (keptL S l)[i - 1]? = some true → ∃ E x, pcsTo r l (keptL S l) i = E ++ [x] ∧ x.2.getLast? = l[i - 1]?)
  | 0, _ => ⟨fun t h => by simp [pcsTo] at h, by simp [pcsTo], fun c => by simp [pcsTo], fun h => absurd h (by omega)⟩
  | i + 1, hi => by
    obtain ⟨h1, h2, h3, h4⟩ := pcs_inv r l S hl i (by omega)
    obtain ⟨c, hc⟩ : ∃ c, l[i]? = some c := ⟨_, List.getElem?_eq_getElem (by omega)⟩
    have ht : l.take (i + 1) = l.take i ++ [c] := by rw [List.take_add_one, hc]; rfl
    have hk : (keptL S l)[i]? = some (!((l.take i).reverse ++ S).contains c) := by rw [keptL_get, hc]; rfl
    have hco := stepOk_ok hl hc
    by_cases hm : c ∈ l.take i ∨ c ∈ S
    · have hk0 : (keptL S l)[i]? = some false := by
        rw [hk]
        rcases hm with hm | hm <;> simp [hm]
      rw [pcsTo_skip hk0]
      refine ⟨h1, h2, fun d => ?_, fun _ h => by rw [Nat.add_sub_cancel, hk0] at h; cases h⟩
      rw [h3, ht, List.mem_append, List.mem_singleton]
      constructor
      · rintro ⟨a, b⟩; exact ⟨.inl a, b⟩
      · rintro ⟨a | rfl, b⟩
        · exact ⟨a, b⟩
        · exact ⟨hm.resolve_right b, b⟩
    · have hm1 : c ∉ l.take i := fun h => hm (.inl h)
      have hm2 : c ∉ S := fun h => hm (.inr h)
      have hk1 : (keptL S l)[i]? = some true := by rw [hk]; simp [hm1, hm2]
      have hmem : ∀ d, d ∈ l.take (i + 1) ∧ d ∉ S ↔ (d ∈ l.take i ∧ d ∉ S) ∨ d = c := fun d => by
        rw [ht, List.mem_append, List.mem_singleton]
        constructor
        · rintro ⟨a | a, b⟩
          · exact .inl ⟨a, b⟩
          · exact .inr a
        · rintro (⟨a, b⟩ | rfl)
          · exact ⟨.inl a, b⟩
          · exact ⟨.inr rfl, hm2⟩
      have hnew : c ∉ (pcsTo r l (keptL S l) i).flatMap fun t => t.2 := fun h => hm1 ((h3 c).1 h).1
      by_cases hp : i = 0 ∨ (keptL S l)[i - 1]? = some false
      · rw [pcsTo_new hc hk1 hp]
        refine ⟨fun t h => ?_, ?_, fun d => ?_, fun _ _ => ⟨_, _, rfl, by simp [hc]⟩⟩
        · rcases List.mem_append.1 h with h | h
          · exact h1 t h
          · rw [List.mem_singleton] at h
            subst h
            exact ⟨rfl, by simp, by simp [stepOk, hco]⟩
        · rw [List.flatMap_append, List.nodup_append]
          refine ⟨h2, by simp, fun a ha b hb e => ?_⟩
          simp at hb
          subst hb e
          exact hnew ha
        · rw [List.flatMap_append, List.mem_append, h3, hmem]
          simp
      · have hi0 : 0 < i := by omega
        have hkp : (keptL S l)[i - 1]? = some true := by
          obtain ⟨b, hb⟩ : ∃ b, (keptL S l)[i - 1]? = some b := ⟨_, List.getElem?_eq_getElem (by rw [keptL_len]; omega)⟩
          cases b
          · exact absurd (.inr hb) hp
          · exact hb
        obtain ⟨E, x, hE, hx⟩ := h4 hi0 hkp
        rw [pcsTo_more hc hk1 hp, hE, addLast_snoc]
        rw [hE] at h1 h2 h3 hnew
        have hxx := h1 x (by simp)
        refine ⟨fun t h => ?_, ?_, fun d => ?_, fun _ _ => ⟨_, _, rfl, by simp [hc]⟩⟩
        · rcases List.mem_append.1 h with h | h
          · exact h1 t (by simp [h])
          · rw [List.mem_singleton] at h
            subst h
            refine ⟨hxx.1, by simp, stepOk_snoc hxx.2.2 hco fun d hd => ?_⟩
            rw [hx] at hd
            exact (stepOk_iff.1 hl (i - 1) d hd).2 c (by rw [show i - 1 + 1 = i by omega]; exact hc)
        · have e : (E ++ [(x.1, x.2 ++ [c])]).flatMap (fun t => t.2) = (E ++ [x]).flatMap (fun t => t.2) ++ [c] := by simp
          rw [e, List.nodup_append]
          clear e
          refine ⟨h2, by simp, fun a ha b hb e => ?_⟩
          simp at hb
          subst hb e
          exact hnew ha
        · have e : (E ++ [(x.1, x.2 ++ [c])]).flatMap (fun t => t.2) = (E ++ [x]).flatMap (fun t => t.2) ++ [c] := by simp
          rw [e, List.mem_append, h3, hmem]
          simp
theorem pcs_short (r : Int) (l : List Cl) (ks : List Bool) (i : Nat) {t : Tr} (h : t ∈ pcsTo r l ks i) : t.2.length ≤ i := pcsTo_cells r l ks i t h
theorem pcs_val {t : Tr} (h : tval t = true) (S : List Cl) {x : Tr} (hx : x ∈ pcsT t (keptL S t.2)) : tval x = true := by
  obtain ⟨h1, h2, h3⟩ := (pcs_inv t.1.1 t.2 S (tval_step h) t.2.length (Nat.le_refl _)).1 x hx
  have h4 := pcs_short _ _ _ _ hx
  have hl := tval_len h
  have h5 : 0 < x.2.length := List.length_pos_iff.2 h2
  obtain ⟨⟨r, cl⟩, cs⟩ := x
  injection h1 with e1 e2
  subst e1 e2
  unfold tval
  simp only at h3 h4 h5
  rw [decide_eq_true (by simp only; omega), h3]
  rfl
theorem keptL_allT : ∀ {l S : List Cl}, (keptL S l).all id = true → (∀ c ∈ l, c ∉ S) ∧ l.Nodup
  | [], S, _ => ⟨fun c h => (by cases h), by simp⟩
  | c :: l, S, h => by
    unfold keptL at h
    rw [List.all_cons, Bool.and_eq_true] at h
    obtain ⟨h1, h2⟩ := keptL_allT h.2
    have hc : c ∉ S := by simpa using h.1
    refine ⟨fun d hd => ?_, ?_⟩
    · rcases List.mem_cons.1 hd with rfl | hd
      · exact hc
      · exact fun hS => h1 d hd (List.mem_cons_of_mem _ hS)
    · rw [List.nodup_cons]
      exact ⟨fun hl => h1 c hl (by simp), h2⟩
/-- what the fold keeps: valid tracks, each cell once, the cells seen -/
theorem onc_inv : ∀ (l : List Tr) (O : List Tr) (S : List Cl), (∀ t ∈ O, tval t = true) → (O.flatMap fun t => t.2).Nodup → (∀ c, c ∈ O.flatMap (fun t => t.2) ↔ c ∈ S) →
    (∀ t ∈ (l.foldl oncS (O, S)).1, tval t = true) ∧ ((l.foldl oncS (O, S)).1.flatMap fun t => t.2).Nodup ∧ (∀ c, c ∈ (l.foldl oncS (O, S)).1.flatMap (fun t => t.2) ↔ c ∈ S ∨ ∃ t ∈ l, tval t = true ∧ c ∈ t.2)
  | [], O, S, h1, h2, h3 => ⟨h1, h2, fun c => by simpa using h3 c⟩
  | t :: l, O, S, h1, h2, h3 => by
    rw [List.foldl_cons]
    by_cases hv : tval t = true
    · have e : oncS (O, S) t = (O ++ (if (keptL S t.2).all id then [t] else pcsT t (keptL S t.2)), t.2.reverse ++ S) := by unfold oncS; rw [if_pos hv]
      rw [e]
      have hnew : (∀ x ∈ (if (keptL S t.2).all id then [t] else pcsT t (keptL S t.2)), tval x = true) ∧ ((if (keptL S t.2).all id then [t] else pcsT t (keptL S t.2)).flatMap fun t => t.2).Nodup ∧ (∀ c, c ∈ (if (keptL S t.2).all id then [t] else pcsT t (keptL S t.2)).flatMap (fun t => t.2) ↔ c ∈ t.2 ∧ c ∉ S) := by
        split
        · rename_i ha
          obtain ⟨k1, k2⟩ := keptL_allT ha
          exact ⟨fun x hx => by rw [List.mem_singleton] at hx; rw [hx]; exact hv, by simpa using k2, fun c => by simp; exact fun hc => k1 c hc⟩
        · obtain ⟨_, p2, p3, _⟩ := pcs_inv t.1.1 t.2 S (tval_step hv) t.2.length (Nat.le_refl _)
          exact ⟨fun x hx => pcs_val hv S hx, p2, fun c => by have := p3 c; rwa [List.take_length] at this⟩
      obtain ⟨n1, n2, n3⟩ := hnew
      obtain ⟨r1, r2, r3⟩ := onc_inv l (O ++ (if (keptL S t.2).all id then [t] else pcsT t (keptL S t.2))) (t.2.reverse ++ S)
        (fun x hx => (List.mem_append.1 hx).elim (h1 x) (n1 x))
        (by
          rw [List.flatMap_append, List.nodup_append]
          exact ⟨h2, n2, fun a ha b hb e => by subst e; exact ((n3 a).1 hb).2 ((h3 a).1 ha)⟩)
        (fun c => by
          rw [List.flatMap_append, List.mem_append, h3, n3, List.mem_append, List.mem_reverse]
          constructor
          · rintro (a | ⟨a, _⟩)
            · exact .inr a
            · exact .inl a
          · rintro (a | a)
            · by_cases hS : c ∈ S
              · exact .inl hS
              · exact .inr ⟨a, hS⟩
            · exact .inl a)
      refine ⟨r1, r2, fun c => ?_⟩
      rw [r3, List.mem_append, List.mem_reverse]
      constructor
      · rintro ((a | a) | ⟨x, hx, a⟩)
        · exact .inr ⟨t, by simp, hv, a⟩
        · exact .inl a
        · exact .inr ⟨x, by simp [hx], a⟩
      · rintro (a | ⟨x, hx, a, b⟩)
        · exact .inl (.inr a)
        · rcases List.mem_cons.1 hx with rfl | hx
          · exact .inl (.inl b)
          · exact .inr ⟨x, hx, a, b⟩
    · have e : oncS (O, S) t = (O, S) := by unfold oncS; rw [if_neg hv]
      rw [e]
      obtain ⟨r1, r2, r3⟩ := onc_inv l O S h1 h2 h3
      refine ⟨r1, r2, fun c => ?_⟩
      rw [r3]
      constructor
      · rintro (a | ⟨x, hx, a⟩)
        · exact .inl a
        · exact .inr ⟨x, by simp [hx], a⟩
      · rintro (a | ⟨x, hx, a, b⟩)
        · exact .inl a
        · rcases List.mem_cons.1 hx with rfl | hx
          · exact absurd a hv
          · exact .inr ⟨x, hx, a, b⟩
theorem onc_val {l : List Tr} {t : Tr} (h : t ∈ oncT l) : tval t = true := (onc_inv l [] [] (fun t h => by cases h) (by simp) (fun c => by simp)).1 t h
theorem onc_nodup (l : List Tr) : ((oncT l).flatMap fun t => t.2).Nodup := (onc_inv l [] [] (fun t h => by cases h) (by simp) (fun c => by simp)).2.1
theorem onc_mem (l : List Tr) (c : Cl) : c ∈ (oncT l).flatMap (fun t => t.2) ↔ ∃ t ∈ l, tval t = true ∧ c ∈ t.2 := by
  have := (onc_inv l [] [] (fun t h => by cases h) (by simp) (fun c => by simp)).2.2 c
  simpa [oncT] using this
end Trk
end Go.Proofs.YtneelidbgigehaaGreat
/- Once and covers: plain laws. -/
namespace Go.Proofs.YtneelidbgigehaaGreat
set_option linter.unusedSimpArgs false
set_option linter.unusedVariables false
open Trk Reg
theorem cellsT_onc (l : List Tr) : cellsT (oncT l) = (oncT l).flatMap fun t => t.2 := by
  unfold cellsT
  have h : ∀ t ∈ oncT l, tval t = true := fun t ht => onc_val ht
  generalize oncT l = L at h
  induction L with
  | nil => rfl
  | cons t L ih => rw [List.flatMap_cons, List.flatMap_cons, ih (fun s hs => h s (by simp [hs])), if_pos (h t (by simp))]
theorem cover_onc (l : List Tr) : ofR (cellsT (oncT l)) = ofR (cellsT l) :=
  ofR_same (cellsT_ok _) (cellsT_ok _) fun c => by rw [cellsT_onc, onc_mem, mem_cellsT]
theorem cnt_onc (l : List Tr) : cntR (ofR (cellsT (oncT l))) = (((oncT l).flatMap fun t => t.2).length : Int) := by
  rw [← cellsR_len]
  have hp : (cellsR (ofR (cellsT (oncT l)))).Perm ((oncT l).flatMap fun t => t.2) := by
    rw [List.perm_ext_iff_of_nodup (cellsR_nodup _) (onc_nodup l)]
    intro c
    rw [mem_cellsR, (ofR_spec (cellsT_ok _)).2 c.1 c.2, cellsT_onc]
    exact ⟨fun h => h.2, fun h => ⟨ofR_valid _, h⟩⟩
  rw [hp.length_eq]
end Go.Proofs.YtneelidbgigehaaGreat
