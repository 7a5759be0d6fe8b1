/- Once of the chapter, walked. -/
import Derived.Test.YtomndgjnhhchdaaTrkPcsR
namespace Go.Proofs.Ytomndgjnhhchdaa
set_option linter.unusedSimpArgs false
set_option linter.unusedVariables false
set_option maxRecDepth 100000
open Go.RowKit Trk
attribute [local go_sem] Kin.cell Kin.frozen Kin.lt0 Kin.lt1 Kin.lt2 Kin.lt3
/-- tracks in a row of the call's own; none of their slices lies in the row's block or in that of us -/
def OutS (W0 y : World) (u us : Value) (xs : List Tr) : Prop :=
  ∃ hs : List TrH, y.ownsRow W0.heap.size 24 3 u hs.length (hs.flatMap encTr) ∧ NestAt tsl ttag 2 encPt (fun t : Tr => t.2) y hs xs ∧
    (∀ (i : Nat) (h : TrH) (x : Tr), hs[i]? = some h → xs[i]? = some x → x.2 = [] ∨ (tsl h).ownBlock ≠ u.ownBlock) ∧
    (∀ (i : Nat) (h : TrH) (x : Tr), hs[i]? = some h → xs[i]? = some x → x.2 = [] ∨ (tsl h).ownBlock = none ∨ (tsl h).ownBlock ≠ us.ownBlock)
/-- a step that changes the row of us -/
theorem OutS.turn {W0 y y' : World} {u us us' : Value} {xs : List Tr} {S : List Value} {n : Nat} {row : Option Nat} (h : OutS W0 y u us xs) (hus : y.ownsRow W0.heap.size 31 2 us n S) (hg : y.grownBy y' row) (hr : row = none ∨ row = us.ownBlock)
    (hu : us'.ownBlock = us.ownBlock ∨ ∀ b, us'.ownBlock = some b → y.heap.size ≤ b) : OutS W0 y' u us' xs := by
  obtain ⟨hs, h1, h2, h3, h4⟩ := h
  refine ⟨hs, h1.kept hg ?_, ⟨h2.1, fun i p x hp hx => ⟨(h2.2 i p x hp hx).1, (h2.2 i p x hp hx).2.grown hg ?_⟩⟩, h3, fun i p x hp hx => ?_⟩
  · rcases hr with rfl | rfl
    · exact none_or_ne _
    · exact own_own_ne h1 hus (by decide)
  · rcases (h2.2 i p x hp hx).2.blk_lt with h0 | ⟨b, hb, _⟩
    · exact .inl h0
    · rcases h4 i p x hp hx with h5 | h5 | h5
      · exact .inl h5
      · rw [hb] at h5; cases h5
      · right
        rcases hr with rfl | rfl
        · rw [hb]; simp
        · exact h5
  · rcases h4 i p x hp hx with h5 | h5 | h5
    · exact .inl h5
    · exact .inr (.inl h5)
    · rcases (h2.2 i p x hp hx).2.blk_lt with h0 | ⟨b, hb, hlt⟩
      · exact .inl h0
      · right; right
        rcases hu with hu | hu
        · rw [hu]; exact h5
        · intro e; have := hu b (e.symm.trans hb); omega
theorem outS_append {W0 W W' : World} {u u' us : Value} {hs hs2 : List TrH} {xs ys : List Tr} (hn : NestAt tsl ttag 2 encPt (fun t : Tr => t.2) W hs xs)
    (hap : ∀ (i : Nat) (h : TrH) (x : Tr), hs[i]? = some h → xs[i]? = some x → x.2 = [] ∨ (tsl h).ownBlock ≠ u.ownBlock) (hn2 : NestAt tsl ttag 2 encPt (fun t : Tr => t.2) W hs2 ys)
    (hap2 : ∀ (i : Nat) (h : TrH) (x : Tr), hs2[i]? = some h → ys[i]? = some x → x.2 = [] ∨ (tsl h).ownBlock ≠ u.ownBlock)
    (hs1 : ∀ (i : Nat) (h : TrH) (x : Tr), hs[i]? = some h → xs[i]? = some x → x.2 = [] ∨ (tsl h).ownBlock = none ∨ (tsl h).ownBlock ≠ us.ownBlock) (hs2' : ∀ (i : Nat) (h : TrH) (x : Tr), hs2[i]? = some h → ys[i]? = some x → x.2 = [] ∨ (tsl h).ownBlock = none ∨ (tsl h).ownBlock ≠ us.ownBlock)
    (hown : W'.ownsRow W0.heap.size 24 3 u' (hs ++ hs2).length ((hs ++ hs2).flatMap encTr)) (hg : W.grownBy W' u.ownBlock) (hat : u'.ownBlock = u.ownBlock ∨ u'.ownBlock = some W.heap.size) : OutS W0 W' u' us (xs ++ ys) := by
  have hget : ∀ (i : Nat) (h' : TrH) (x' : Tr), (hs ++ hs2)[i]? = some h' → (xs ++ ys)[i]? = some x' → ttag h' x' ∧ Rd 2 encPt W (tsl h') x'.2 ∧ (x'.2 = [] ∨ (tsl h').ownBlock ≠ u.ownBlock) ∧ (x'.2 = [] ∨ (tsl h').ownBlock = none ∨ (tsl h').ownBlock ≠ us.ownBlock) := fun i h' x' h1 h2 => by
    rcases Nat.lt_or_ge i hs.length with hlt | hge
    · rw [List.getElem?_append_left hlt] at h1
      rw [List.getElem?_append_left (by rw [← hn.1]; exact hlt)] at h2
      exact ⟨(hn.2 i h' x' h1 h2).1, (hn.2 i h' x' h1 h2).2, hap i h' x' h1 h2, hs1 i h' x' h1 h2⟩
    · rw [List.getElem?_append_right hge] at h1
      rw [List.getElem?_append_right (by rw [← hn.1]; exact hge), ← hn.1] at h2
      exact ⟨(hn2.2 _ h' x' h1 h2).1, (hn2.2 _ h' x' h1 h2).2, hap2 _ h' x' h1 h2, hs2' _ h' x' h1 h2⟩
  refine ⟨hs ++ hs2, hown, ⟨by simp [hn.1, hn2.1], fun i p y hp hy => ⟨(hget i p y hp hy).1, (hget i p y hp hy).2.1.grown hg (hget i p y hp hy).2.2.1⟩⟩, fun i p y hp hy => ?_, fun i p y hp hy => (hget i p y hp hy).2.2.2⟩
  rcases (hget i p y hp hy).2.2.1 with h1 | h1
  · exact .inl h1
  rcases (hget i p y hp hy).2.1.blk_lt with h0 | ⟨b, hb, hlt⟩
  · exact .inl h0
  · right
    rcases hat with h2 | h2
    · rw [h2]; exact h1
    · rw [h2, hb]; intro e; injection e with e; omega
theorem closeP_len (cl : Bool) (n : Nat) (s : PR) : (closeP cl n s).length = s.out.length := by
  unfold closeP
  split
  · split <;> simp_all
  · rfl
theorem oncPTo_bd (l : List Tr) {k : Nat} (hk : k ≤ l.length) : (oncPTo l k).1.length ≤ 65537 * k ∧ SortC (oncPTo l k).2 ∧ (oncPTo l k).2.length ≤ 65536 * k := by
  obtain ⟨h1, h2, _, h4⟩ := oncP_inv l k hk
  exact ⟨by rw [h1]; exact (oncTo_bd l k).1, h2, h4⟩
set_option maxHeartbeats 8000000 in
theorem onceR_any (v : Value) (l : List Tr) (w : World) (h : RdTrs w v l) (hl : l.length ≤ 40) :
    Calls Try.prog 26 #[v] w fun e w' => (∃ u, e = .returned u ∧ RdTrs w' u (oncT l)) ∧ Below w.heap.size w w' := by
  obtain ⟨A, capA, rfl, hcapA, hopA⟩ := trks_open h
  have HA := Lib.hid hopA
  obtain ⟨n, hL⟩ : ∃ n, l.length = n := ⟨_, rfl⟩
  have HL := Lib.hid hL
  rw [hL] at hcapA hl ⊢
  clear hL hopA h
  go_enter Try.func26, Try.ntmps26
  go_wp2_with fail
  go_loopw [3, 5, 10] (fun u us i wr => ∃ k : Nat, k ≤ n ∧ i = .int .i64 k ∧ Hid (OutS w wr u us (oncPTo l k).1) ∧ Hid (OwnS w wr us (oncPTo l k).2) ∧ ∃ y : Kin w, y.1 = wr) (fun _ _ i _ => n - (intOf i).toNat)
  case atStart => exact ⟨0, Nat.zero_le _, rfl, Lib.hid ⟨[], World.ownsRow_nil _ _ _ _, ⟨rfl, fun i h x hh => by simp at hh⟩, fun i h x hh => by simp at hh, fun i h x hh => by simp at hh⟩, Lib.hid (World.ownsRow_nil _ _ _ _), ⟨_, Below.refl _ _⟩, rfl⟩
  case round =>
    obtain ⟨k, hk, rfl, HO, HU, y, rfl⟩ := hrel
    by_cases hlt : k < n
    · obtain ⟨⟨⟨r, cl⟩, cs⟩, ht⟩ : ∃ t, l[k]? = some t := ⟨_, List.getElem?_eq_getElem (by rw [HL.out]; exact hlt)⟩
      have HST := Lib.hid (oncPTo_succ ht)
      obtain ⟨bA, offA, rfl, hbA, hcA⟩ := HA.out k _ ht
      obtain ⟨S, cS, t_0, t_1, t_2, hcS, hrS⟩ := hcA k _ ht
      simp only at t_0 t_1 t_2 hcS hrS
      obtain ⟨nt, hnt⟩ : ∃ nt, cs.length = nt := ⟨_, rfl⟩
      rw [hnt] at t_2 hcS hrS
      have HNT := Lib.hid hnt
      have HRS := Lib.hid hrS
      have hbd := oncPTo_bd l (k := k) (by rw [HL.out]; omega)
      obtain ⟨⟨xs, Q⟩, hst⟩ : ∃ st, oncPTo l k = st := ⟨_, rfl⟩
      rw [hst] at hbd HO HU HST
      obtain ⟨hb1, hb2, hb3⟩ := hbd
      simp only at hb1 hb2 hb3 HO HU
      have HSQ := Lib.hid hb2
      clear hcA ht hnt hrS hst hb2
      go_wp2_with fail
      obtain ⟨y5, hy5⟩ : ∃ y5 : Kin w, y5.1 = y.1.alloc (.cells #[.int .i64 r, .bool cl, .slice S nt cS] 24) := ⟨⟨y.1.alloc _, (by repeat (first | with_reducible (first | exact blA | exact blB | refine blC _ ?_ | refine blD ?_ ?_ _ | refine blE ?_ | refine blF _ ?_ | refine blG ?_ _ | refine blH ?_ | refine blI ?_ ?_ _) | (simp only [World.size_alloc]; omega) | (simp <;> omega)))⟩, rfl⟩
      obtain ⟨g5, hg5⟩ : ∃ g, y.1.heap.size = g := ⟨_, rfl⟩
      have B5 := Blk.new y.1 24 #[.int .i64 r, .bool cl, .slice S nt cS]
      have hga : y.1.grownBy y5.1 none := hy5 ▸ ⟨rfl, rfl, rfl, by rw [World.size_alloc]; omega, fun i hi _ => (Below.alloc (Below.refl y.1.heap.size y.1) (Nat.le_refl _) _).block i hi⟩
      have HO5 := Lib.hid (HO.out.turn HU.out hga (.inl rfl) (.inl rfl))
      have HU5 := Lib.hid (show OwnS w y5.1 u5 Q from HU.out.kept hga (none_or_ne _))
      rw [← hy5, hg5] at B5
      rw [← hy5, hg5]
      have q0 : y5.1.cell? ⟨g5, 0, none⟩ = some (.int .i64 r) := B5.cell 0
      have q1 : y5.1.cell? ⟨g5, 1, none⟩ = some (.bool cl) := B5.cell 1
      have q2 : y5.1.cell? ⟨g5, 2, none⟩ = some (.slice S nt cS) := B5.cell 2
      have l5 := B5.lt
      have HS5 := Lib.hid (HRS.out.below y5.2)
      clear hy5 hg5 B5 t_0 t_1 t_2 hga HO HU
      cases hv : tval ((r, cl), cs)
      · have HNX := Lib.hid (show oncPTo l (k + 1) = (xs, Q) by rw [HST.out]; unfold oncP; rw [if_neg (by rw [hv]; simp)])
        go_wp2_with (go_at_call 12; (with_reducible refine (Kin.callK (W := (Kin.wd y5)) (by repeat (first | with_reducible (first | exact blA | exact blB | refine blC _ ?_ | refine blD ?_ ?_ _ | refine blE ?_ | refine blF _ ?_ | refine blG ?_ _ | refine blH ?_ | refine blI ?_ ?_ _) | (simp only [World.size_alloc]; omega) | (simp <;> omega))) (validR_is (b := false) (n := nt) r cl _ _ cs _ HNT.out (HS5.out.below (by repeat (first | with_reducible (first | exact blA | exact blB | refine blC _ ?_ | refine blD ?_ ?_ _ | refine blE ?_ | refine blF _ ?_ | refine blG ?_ _ | refine blH ?_ | refine blI ?_ ?_ _) | (simp only [World.size_alloc]; omega) | (simp <;> omega)))) hv)).mono ?_); rintro e w' ⟨z, rfl, hz, rfl⟩)
        have hgz : y5.1.grownBy z.1 none := ⟨z.2.os, z.2.tape, z.2.output, z.2.size, fun i hi _ => z.2.block i hi⟩
        have HO6 := Lib.hid (HO5.out.turn HU5.out hgz (.inl rfl) (.inl rfl))
        have HU6 := Lib.hid (show OwnS w z.1 u5 Q from HU5.out.kept hgz (none_or_ne _))
        obtain ⟨yy, hyy⟩ : ∃ yy : Kin w, yy.1 = z.1 := ⟨⟨z.1, y5.2.trans (z.2.mono y5.2.size)⟩, rfl⟩
        rw [← hyy] at HO6 HU6 ⊢
        go_roundw
        case rel => exact ⟨k + 1, by omega, by go_num, Lib.hid (by rw [HNX.out]; exact HO6.out), Lib.hid (by rw [HNX.out]; exact HU6.out), yy, rfl⟩
        case measure => simp [intOf]; omega
      · have hvl := tval_len hv
        have hnt1 : 1 ≤ nt ∧ nt ≤ 65536 := by have := HNT.out; simp only at hvl; omega
        have HNX := Lib.hid (show oncPTo l (k + 1) = (xs ++ closeP cl nt (runP r cs Q nt), (runP r cs Q nt).seen) by rw [HST.out]; unfold oncP; rw [if_pos hv, HNT.out])
        go_wp2_with (go_at_call 12; (with_reducible refine (Kin.callK (W := (Kin.wd y5)) (by repeat (first | with_reducible (first | exact blA | exact blB | refine blC _ ?_ | refine blD ?_ ?_ _ | refine blE ?_ | refine blF _ ?_ | refine blG ?_ _ | refine blH ?_ | refine blI ?_ ?_ _) | (simp only [World.size_alloc]; omega) | (simp <;> omega))) (validR_is (b := true) (n := nt) r cl _ _ cs _ HNT.out (HS5.out.below (by repeat (first | with_reducible (first | exact blA | exact blB | refine blC _ ?_ | refine blD ?_ ?_ _ | refine blE ?_ | refine blF _ ?_ | refine blG ?_ _ | refine blH ?_ | refine blI ?_ ?_ _) | (simp only [World.size_alloc]; omega) | (simp <;> omega)))) hv)).mono ?_); rintro e w' ⟨z, rfl, hz, rfl⟩)
        have hgz : y5.1.grownBy z.1 none := ⟨z.2.os, z.2.tape, z.2.output, z.2.size, fun i hi _ => z.2.block i hi⟩
        have HO6 := Lib.hid (HO5.out.turn HU5.out hgz (.inl rfl) (.inl rfl))
        have HU6 := Lib.hid (show OwnS w z.1 u5 Q from HU5.out.kept hgz (none_or_ne _))
        have HZ := Lib.hid (show Below w.heap.size w z.1 from y5.2.trans (z.2.mono y5.2.size))
        have hcl9 : (closeP cl nt (runP r cs Q nt)).length ≤ 65536 := by
          rw [closeP_len]
          obtain ⟨i1, _⟩ := runP_inv r cs Q Q HSQ.out (fun _ => Iff.rfl) nt (by rw [HNT.out]; exact Nat.le_refl _)
          rw [i1]
          exact Nat.le_trans (pcsTo_len _ _ _ _) hnt1.2
        go_at_call 45
        refine (piecesR_any w r cl S cS cs Q u5 z.1 HNT.out HRS.out (by omega) (by omega) HSQ.out (by omega) HU6.out HZ.out).mono ?_
        rintro e w' ⟨u1, us1, rfl, ⟨hs2, p1, p2, p3, p4, p5⟩, p6, p7, p8⟩
        have HO7 := HO6.out.turn HU6.out p7 (.inr rfl) p8
        obtain ⟨hs0, o0, _⟩ := HO6.out
        have hu3 : ∀ b, u3.ownBlock = some b → b < z.1.heap.size := fun b hb => (o0.lt b hb).2
        obtain ⟨hs1, o1, o2, o3, o4⟩ := HO7
        have hw9 := grownBy_belowN HZ.out p7 (fun b hb => (HU6.out.lt b hb).1) HZ.out.size
        obtain ⟨y7, hy7⟩ : ∃ y7 : Kin w, y7.1 = w' := ⟨⟨w', hw9⟩, rfl⟩
        have hl1 : hs1.length ≤ 65537 * k := by rw [o2.1]; exact hb1
        have hl2 : hs2.length ≤ 65536 := by rw [p2.1]; exact hcl9
        have hap2 : ∀ (i : Nat) (h : TrH) (x : Tr), hs2[i]? = some h → (closeP cl nt (runP r cs Q nt))[i]? = some x → x.2 = [] ∨ (tsl h).ownBlock ≠ u3.ownBlock := fun i h x hh hx => by
          rcases (p2.2 i h x hh hx).2.blk_lt with h0 | ⟨b, hb, _⟩
          · exact .inl h0
          · rcases p3 i h x hh hx with h1 | h1
            · exact .inl h1
            · right
              intro e
              have h2 := h1 b hb
              have h3 := hu3 b (e.symm.trans hb)
              omega
        rw [← hy7] at o1 o2 p1 p2 p6 ⊢
        have HO1 := Lib.hid o1
        have HO2 := Lib.hid o2
        have HO3 := Lib.hid o3
        have HO4 := Lib.hid o4
        have HP1 := Lib.hid p1
        have HP2 := Lib.hid p2
        have HP5 := Lib.hid p5
        have HP6 := Lib.hid p6
        have HAP := Lib.hid hap2
        have hws7 : w.heap.size ≤ y7.1.heap.size := y7.2.size
        have hsum : hs1.length + hs2.length ≤ 4000000 := by omega
        obtain ⟨AU, mU, cU, rfl⟩ := own_slice o1
        obtain ⟨AP, mP, cP, rfl⟩ := own_slice p1
        have hmP : mP ≤ 65536 := by have := own_m p1; omega
        clear o1 o2 o3 o4 p1 p2 p3 p4 p5 p6 p7 p8 hy7 hw9 hu3 o0 hap2 hgz hz
        go_wp2_with (at_builtin; refine wpList_app _ rfl _ _ 33 rfl encTr_len (by decide) oneTr w.heap.size 24 (.agg #[.int .i64 0, .bool false, .slice none 0 0]) 40 infoTr rfl Try.underlying33 _ _ _ _ rfl (HO1.out) _ _ _ rfl (Rd.own encTr_len HP1.out) ?c1 (by decide) ?c2 ?_; (case c1 => (first | (simp only [List.length_append, List.length_cons, List.length_nil]; omega) | omega | (simp; omega))); (case c2 => exact (by repeat (first | with_reducible exact Nat.le_refl _ | assumption | with_reducible refine le_alloc ?_ _ | with_reducible refine le_drew ?_ | with_reducible refine Kin.le _ ?_ | assumption | omega | (simp only [World.size_alloc]; omega)))); intro v' w1 hown' hg hbel hat'; (have HO8 := Lib.hid (outS_append HO2.out HO3.out HP2.out HAP.out HO4.out HP5.out hown' hg hat'); have HU8 := Lib.hid (HP6.out.kept hg (own_own_ne HP6.out HO1.out (by decide))); (obtain ⟨y8, hy8⟩ : ∃ y8 : Kin w, y8.1 = w1 := ⟨⟨w1, y7.2.trans (hbel.mono (Nat.le_refl _))⟩, rfl⟩); rw [← hy8] at HO8 HU8; rw [← hy8]; clear hown' hg hbel hat' hy8))
        go_roundw
        case rel => exact ⟨k + 1, by omega, by go_num, Lib.hid (by rw [HNX.out]; exact HO8.out), Lib.hid (by rw [HNX.out]; exact HU8.out), y8, rfl⟩
        case measure => simp [intOf]; omega
    · have hkn : k = n := by omega
      subst hkn
      have HE := Lib.hid (show RdTrs y.1 u3 (oncT l) by
        obtain ⟨hs, h1, h2, _, _⟩ := HO.out
        have e := oncP_all l
        rw [HL.out] at e
        rw [e] at h2
        exact ⟨hs, Rd.own encTr_len h1, h2⟩)
      go_wp2_with fail
      go_ret
      exact ⟨⟨_, rfl, HE.out⟩, y.2⟩
end Go.Proofs.Ytomndgjnhhchdaa
