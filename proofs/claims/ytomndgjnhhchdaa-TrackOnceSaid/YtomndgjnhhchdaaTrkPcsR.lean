/- pieces of the chapter, walked (printed by tools/mkpcsr.py). -/
import Derived.Test.YtomndgjnhhchdaaTrkSeen
import Derived.Test.YtomndgjnhhchdaaTrkAwk
import Derived.Test.YtomndgjnhhchdaaCopyKit
namespace Go.Proofs.Ytomndgjnhhchdaa
set_option linter.unusedSimpArgs false
set_option linter.unusedVariables false
set_option maxRecDepth 100000
open Go.RowKit Trk
attribute [local go_sem] Kin.cell Kin.frozen Kin.lt0 Kin.lt1 Kin.lt2 Kin.lt3
def eqC (a b : Cl) : Bool := a.1 == b.1 && a.2 == b.2
theorem eqC_run {a b : Cl} {r : Bool} (h : eqC a b = r) : ∀ w : World, (binOp .eql 31 (.agg #[.int .i64 a.1, .int .i64 a.2]) (.agg #[.int .i64 b.1, .int .i64 b.2])).run Try.prog w = .ok (.bool r) w := fun w => by
  subst h
  by_cases h1 : a.1 = b.1 <;> by_cases h2 : a.2 = b.2 <;> simp [go_sem, eqC, h1, h2]
theorem eqC_iff {a b : Cl} : eqC a b = true ↔ a = b := by simp [eqC, Prod.ext_iff]
theorem own_cap {w : World} {base size n cap : Nat} {e : TypeId} {A : Option Addr} {xs : List Value} (h : w.ownsRow base e size (.slice A n cap) n xs) : n ≤ cap := by
  rcases h.2 with ⟨h1, h2⟩ | ⟨g, cap', cur, h1, _, _, h2, _⟩
  · omega
  · injection h1 with _ _ e3; omega
abbrev OwnS (W0 y : World) (us : Value) (S : List Cl) : Prop := y.ownsRow W0.heap.size 31 2 us S.length (S.flatMap encPt)
set_option maxHeartbeats 16000000 in
theorem piecesR_any {n : Nat} (W0 : World) (r : Int) (cl : Bool) (A : Option Addr) (cap : Nat) (l S : List Cl) (us0 : Value) (w : World) (hn : l.length = n) (h : Rd 2 encPt W0 (.slice A n cap) l) (hlen : n ≤ 65536) (hn1 : 1 ≤ n) (hS : SortC S) (hSl : S.length ≤ 4294967296)
    (hus : OwnS W0 w us0 S) (hw : Below W0.heap.size W0 w) :
    Calls Try.prog 45 #[tv r cl A n cap, us0] w fun e w' => ∃ u us', e = .returned (.tuple #[u, us']) ∧
      (∃ hs : List TrH, w'.ownsRow w.heap.size 24 3 u hs.length (hs.flatMap encTr) ∧ NestAt tsl ttag 2 encPt (fun t : Tr => t.2) w' hs (closeP cl n (runP r l S n)) ∧ LowH w.heap.size hs (closeP cl n (runP r l S n)) ∧
        (∀ (i : Nat) (h : TrH) (x : Tr), hs[i]? = some h → (closeP cl n (runP r l S n))[i]? = some x → x.2 = [] ∨ (tsl h).ownBlock ≠ u.ownBlock) ∧
        (∀ (i : Nat) (p : TrH) (y : Tr), hs[i]? = some p → (closeP cl n (runP r l S n))[i]? = some y → y.2 = [] ∨ (tsl p).ownBlock = none ∨ (tsl p).ownBlock ≠ us'.ownBlock)) ∧
      OwnS W0 w' us' (runP r l S n).seen ∧ w.grownBy w' us0.ownBlock ∧ (us'.ownBlock = us0.ownBlock ∨ ∀ b, us'.ownBlock = some b → w.heap.size ≤ b) := by
  have HL := Lib.hid hn
  have HR0 := Lib.hid h
  have HS0 := Lib.hid hS
  have HUS0 := Lib.hid hus
  clear hn h hS hus
  obtain ⟨W1, hW1⟩ : ∃ W1, W1 = w.alloc (.cells #[.int .i64 r, .bool cl, .slice A n cap] 24) := ⟨_, rfl⟩
  have HB1 := Lib.hid (show Blk W1 w.heap.size 24 #[.int .i64 r, .bool cl, .slice A n cap] from hW1 ▸ Blk.new _ _ _)
  have HBW := Lib.hid (show Below w.heap.size w W1 from hW1 ▸ (by repeat (first | with_reducible (first | exact blA | exact blB | refine blC _ ?_ | refine blD ?_ ?_ _ | refine blE ?_ | refine blF _ ?_ | refine blG ?_ _ | refine blH ?_ | refine blI ?_ ?_ _) | (simp only [World.size_alloc]; omega) | (simp <;> omega))))
  have HW1 := Lib.hid (show Below W0.heap.size W0 W1 from hw.trans (HBW.out.mono hw.size))
  have hW1s : W1.heap.size = w.heap.size + 1 := by rw [hW1, World.size_alloc]
  have hws := hw.size
  have HOT0 := Lib.hid (show OthB W0 W1 us0 w.heap.size #[.int .i64 r, .bool cl, .slice A n cap] us0 W1 from ⟨HB1.out, hws, by omega, ⟨rfl, rfl, rfl, Nat.le_refl _, fun i _ _ => rfl⟩, .inl rfl, (fun e => by have := (HUS0.out.lt _ e).2; omega), HW1.out⟩)
  have HOS0 := Lib.hid (show OwnS W0 W1 us0 S from own_below HUS0.out HBW.out)
  obtain ⟨AS0, mS0, cS0, rfl⟩ := own_slice HUS0.out
  go_enter Try.func45, Try.ntmps45
  go_wp2_with fail
  rw [← hW1]
  have q2 : W1.cell? ⟨w.heap.size, 2, none⟩ = some (.slice A n cap) := HB1.out.cell 2
  have ql := HB1.out.lt
  clear hW1
  go_loopw [1, 6, 7, 8, 16] (fun us u j kp i wr => ∃ k : Nat, k ≤ n ∧ i = .int .i64 k ∧ j = .bool (runP r l S k).joins ∧ kp = .int .i64 (runP r l S k).kept ∧ Hid (OwnS W0 wr us (runP r l S k).seen) ∧ Hid (OthB W0 W1 (.slice AS0 mS0 cS0) w.heap.size #[.int .i64 r, .bool cl, .slice A n cap] us wr) ∧ Hid (PcsS W1.heap.size wr u us (runP r l S k).out) ∧ ∃ y : Kin W0, y.1 = wr) (fun _ _ _ _ i _ => n - (intOf i).toNat)
  case atStart => exact ⟨0, Nat.zero_le _, rfl, rfl, rfl, HOS0, HOT0, Lib.hid (.inl ⟨rfl, rfl⟩), ⟨W1, HW1.out⟩, rfl⟩
  case round =>
    obtain ⟨k, hk, rfl, rfl, rfl, HUS, HOT, HPS, y, rfl⟩ := hrel
    by_cases hlt : k < n
    · obtain ⟨c, hc⟩ : ∃ c, l[k]? = some c := ⟨_, List.getElem?_eq_getElem (by rw [HL.out]; exact hlt)⟩
      have HST := Lib.hid (runP_succ (r := r) (S := S) hc)
      obtain ⟨bA, offA, rfl, hbA, hcA⟩ := Rd.op HR0.out k c hc
      have c_0 : W0.cell? ⟨bA, offA + k * 2, none⟩ = some (.int .i64 c.1) := hcA k c hc 0 _ rfl
      have c_1 : W0.cell? ⟨bA, offA + k * 2 + 1, none⟩ = some (.int .i64 c.2) := hcA k c hc 1 _ rfl
      clear hcA hc
      obtain ⟨i1, i2, i3, i4, i5, i6⟩ := runP_inv r l S S HS0.out (fun _ => Iff.rfl) k (by rw [HL.out]; exact hk)
      obtain ⟨s, hs⟩ : ∃ s, runP r l S k = s := ⟨_, rfl⟩
      rw [hs] at i1 i2 i3 i4 i5 i6 HUS HPS HST ⊢
      have HI4 := Lib.hid i4
      have hol : s.out.length ≤ 65536 := by rw [i1]; exact Nat.le_trans (pcsTo_len _ _ _ _) (by omega)
      have hkl : s.kept ≤ 65536 := by rw [i3]; exact Nat.le_trans List.countP_le_length (by rw [List.length_take]; omega)
      have HOC := Lib.hid (fun t (ht : t ∈ s.out) => pcsTo_cells r l (keptL S l) k t (by rw [← i1]; exact ht))
      have HJN := Lib.hid (show s.joins = true → s.out ≠ [] from fun hj => by
        obtain ⟨h0, hb⟩ := i2.1 hj
        obtain ⟨k', rfl⟩ : ∃ k', k = k' + 1 := ⟨k - 1, by omega⟩
        rw [i1]
        exact pcsTo_ne (by rw [HL.out]; omega) hb)
      have HHS := Lib.hid hs
      clear i1 i2 i3 i4 i5 hs
      obtain ⟨AS, m, cS, rfl⟩ := own_slice HUS.out
      have hm := own_m HUS.out
      subst hm
      have hsl : s.seen.length ≤ 4295032832 := by omega
      clear i6
      go_wp2_with fail
      obtain ⟨yA, hyA⟩ : ∃ yA : Kin W0, yA.1 = y.1.alloc (.cells #[.int .i64 c.1, .int .i64 c.2] 31) := ⟨⟨y.1.alloc _, (by repeat (first | with_reducible (first | exact blA | exact blB | refine blC _ ?_ | refine blD ?_ ?_ _ | refine blE ?_ | refine blF _ ?_ | refine blG ?_ _ | refine blH ?_ | refine blI ?_ ?_ _) | (simp only [World.size_alloc]; omega) | (simp <;> omega)))⟩, rfl⟩
      obtain ⟨gc, hgc⟩ : ∃ g, y.1.heap.size = g := ⟨_, rfl⟩
      have BC := Blk.new y.1 31 #[.int .i64 c.1, .int .i64 c.2]
      have hga : y.1.grownBy yA.1 none := hyA ▸ ⟨rfl, rfl, rfl, by rw [World.size_alloc]; omega, fun i hi _ => (Below.alloc (Below.refl y.1.heap.size y.1) (Nat.le_refl _) _).block i hi⟩
      have hnc : (Value.slice AS s.seen.length cS).ownBlock ≠ some gc := fun e => by have := (HUS.out.lt _ e).2; omega
      have hcW : W1.heap.size ≤ gc := hgc ▸ HOT.out.gr.size
      have HOTA := Lib.hid (HOT.out.turn HUS.out hga (.inl rfl) (.inl rfl))
      have HPSA := Lib.hid (HPS.out.turn HUS.out hga (.inl rfl) (.inl rfl))
      have HUSA := Lib.hid (show OwnS W0 yA.1 (.slice AS s.seen.length cS) s.seen from HUS.out.kept hga (none_or_ne _))
      rw [← hyA, hgc] at BC
      rw [← hyA, hgc]
      clear hyA hgc hga HOT HPS HUS
      (go_at_call 59; (with_reducible refine (Kin.callK (W := (Kin.wd yA)) (by repeat (first | with_reducible (first | exact blA | exact blB | refine blC _ ?_ | refine blD ?_ ?_ _ | refine blE ?_ | refine blF _ ?_ | refine blG ?_ _ | refine blH ?_ | refine blI ?_ ?_ _) | (simp only [World.size_alloc]; omega) | (simp <;> omega))) (place_any AS cS s.seen c _ rfl (Rd.own encPt_len HUSA.out) HI4.out (by omega))).mono ?_); rintro e w' ⟨z, rfl, hz, rfl⟩; skip)
      obtain ⟨y2, hy2⟩ : ∃ y2 : Kin W0, y2.1 = z.1 := ⟨⟨z.1, yA.2.trans (z.2.mono yA.2.size)⟩, rfl⟩
      have hgz : yA.1.grownBy y2.1 none := hy2 ▸ ⟨z.2.os, z.2.tape, z.2.output, z.2.size, fun i hi _ => z.2.block i hi⟩
      have HOT := Lib.hid (HOTA.out.turn HUSA.out hgz (.inl rfl) (.inl rfl))
      have HPS := Lib.hid (HPSA.out.turn HUSA.out hgz (.inl rfl) (.inl rfl))
      have HUS := Lib.hid (show OwnS W0 y2.1 (.slice AS s.seen.length cS) s.seen from HUSA.out.kept hgz (none_or_ne _))
      have HBC := Lib.hid (BC.grown hgz (by simp))
      rw [← hy2]
      clear hy2 hgz hz HOTA HPSA HUSA BC
      have g0 : y2.1.cell? ⟨gc, 0, none⟩ = some (.int .i64 c.1) := HBC.out.cell 0
      have g1 : y2.1.cell? ⟨gc, 1, none⟩ = some (.int .i64 c.2) := HBC.out.cell 1
      have gl := HBC.out.lt
      obtain ⟨q, hq⟩ : ∃ q, plcC s.seen c = q := ⟨_, rfl⟩
      have hqm : q ≤ s.seen.length := hq ▸ plcC_le s.seen c
      have HPM := Lib.hid (hq ▸ plc_mem HI4.out c)
      have HQ := Lib.hid hq
      rw [hq]
      clear hq
      by_cases hmem : c ∈ s.seen
      · have hqc := HPM.out.1 hmem
        have hql := (List.getElem?_eq_some_iff.1 hqc).1
        have HNX := Lib.hid (show runP r l S (k + 1) = ⟨s.out, false, s.kept, s.seen⟩ by rw [HST.out]; unfold stepP; rw [if_pos (by simpa using hmem)])
        have HRS := Lib.hid (Rd.own encPt_len HUS.out)
        obtain ⟨bS, offS, rfl, hbS, hcS⟩ := Rd.op HRS.out q c hqc
        have s_0 : y2.1.cell? ⟨bS, offS + q * 2, none⟩ = some (.int .i64 c.1) := hcS q c hqc 0 _ rfl
        have s_1 : y2.1.cell? ⟨bS, offS + q * 2 + 1, none⟩ = some (.int .i64 c.2) := hcS q c hqc 1 _ rfl
        have he := eqC_run (eqC_iff.2 (rfl : c = c))
        have ql2 : (q : Int) < (s.seen.length : Int) := by omega
        clear hcS hqc hmem
        go_wp2_with fail
        ((refine wp_region_kinK (W := (Kin.wd y2)) (by kernel_rfl) (by kernel_rfl) (by repeat (first | with_reducible (first | exact blA | exact blB | refine blC _ ?_ | refine blD ?_ ?_ _ | refine blE ?_ | refine blF _ ?_ | refine blG ?_ _ | refine blH ?_ | refine blI ?_ ?_ _) | (simp only [World.size_alloc]; omega) | (simp <;> omega))) ?_); (repeat' (first | go_big_quiet_step (fail) | ((refine wpQuiet_guard rfl rfl rfl rfl (fun hg => ?_) (fun hg => ?_)) <;> (fail_if_success (first | guard_hyp hg : true = true | guard_hyp hg : false = false)) <;> (try simp only [decide_eq_true_eq, decide_eq_false_iff_not] at hg) <;> simp only [Act.put, List.setIfInBounds_toArray, List.set_cons_zero, List.set_cons_succ]))); all_goals ((with_reducible refine wpQuiet_nil ?_); intro zq hz))
        go_wp2_with fail
        have hgq : y2.1.grownBy zq.1 none := ⟨zq.2.os, zq.2.tape, zq.2.output, zq.2.size, fun i hi _ => zq.2.block i hi⟩
        have HOT3 := Lib.hid (HOT.out.turn HUS.out hgq (.inl rfl) (.inl rfl))
        have HPS3 := Lib.hid (HPS.out.turn HUS.out hgq (.inl rfl) (.inl rfl))
        have HUS3 := Lib.hid (show OwnS W0 zq.1 (.slice (some ⟨bS, offS, none⟩) s.seen.length cS) s.seen from HUS.out.kept hgq (none_or_ne _))
        exact ⟨⟨k + 1, by omega, by go_num, by rw [HNX.out], by rw [HNX.out], Lib.hid (by rw [HNX.out]; exact HUS3.out), HOT3, Lib.hid (by rw [HNX.out]; exact HPS3.out), ⟨zq.1, y2.2.trans (zq.2.mono y2.2.size)⟩, rfl⟩, by simp [intOf]; omega⟩
      · have HNX := Lib.hid (show runP r l S (k + 1) = ⟨if s.joins then addLast s.out c else s.out ++ [((r, false), [c])], true, s.kept + 1, insC s.seen c⟩ by rw [HST.out]; unfold stepP; rw [if_neg (by simpa using hmem)])
        have HNM := Lib.hid hmem
        clear hmem
        by_cases hqlt : q < s.seen.length
        case' pos =>
          obtain ⟨x, hx⟩ : ∃ x, s.seen[q]? = some x := ⟨_, List.getElem?_eq_getElem hqlt⟩
          have HRS := Lib.hid (Rd.own encPt_len HUS.out)
          obtain ⟨bS, offS, hAS, hbS, hcS⟩ := Rd.op HRS.out q x hx
          have s_0 : y2.1.cell? ⟨bS, offS + q * 2, none⟩ = some (.int .i64 x.1) := hcS q x hx 0 _ rfl
          have s_1 : y2.1.cell? ⟨bS, offS + q * 2 + 1, none⟩ = some (.int .i64 x.2) := hcS q x hx 1 _ rfl
          have hxc : eqC x c = false := by
            cases hb : eqC x c
            · rfl
            · have e := eqC_iff.1 hb; subst e; exact absurd (List.mem_of_getElem? hx) HNM.out
          have he := eqC_run hxc
          have ql2 : (q : Int) < (s.seen.length : Int) := by omega
          clear hcS hx hxc
          subst hAS
          go_wp2_with fail
          ((refine wp_region_kinK (W := (Kin.wd y2)) (by kernel_rfl) (by kernel_rfl) (by repeat (first | with_reducible (first | exact blA | exact blB | refine blC _ ?_ | refine blD ?_ ?_ _ | refine blE ?_ | refine blF _ ?_ | refine blG ?_ _ | refine blH ?_ | refine blI ?_ ?_ _) | (simp only [World.size_alloc]; omega) | (simp <;> omega))) ?_); (repeat' (first | go_big_quiet_step (fail) | ((refine wpQuiet_guard rfl rfl rfl rfl (fun hg => ?_) (fun hg => ?_)) <;> (fail_if_success (first | guard_hyp hg : true = true | guard_hyp hg : false = false)) <;> (try simp only [decide_eq_true_eq, decide_eq_false_iff_not] at hg) <;> simp only [Act.put, List.setIfInBounds_toArray, List.set_cons_zero, List.set_cons_succ]))); all_goals ((with_reducible refine wpQuiet_nil ?_); intro zq hz))
          clear he s_0 s_1 hbS ql2 HRS
          obtain ⟨AS, hAS⟩ : ∃ AS : Option Addr, AS = some ⟨bS, offS, none⟩ := ⟨_, rfl⟩
          rw [← hAS] at HUS HOT HPS hnc ⊢
          clear hAS
        case' neg =>
          have ql2 : ¬ (q : Int) < (s.seen.length : Int) := by omega
          go_wp2_with fail
          ((refine wp_region_kinK (W := (Kin.wd y2)) (by kernel_rfl) (by kernel_rfl) (by repeat (first | with_reducible (first | exact blA | exact blB | refine blC _ ?_ | refine blD ?_ ?_ _ | refine blE ?_ | refine blF _ ?_ | refine blG ?_ _ | refine blH ?_ | refine blI ?_ ?_ _) | (simp only [World.size_alloc]; omega) | (simp <;> omega))) ?_); (repeat' (first | go_big_quiet_step (fail) | ((refine wpQuiet_guard rfl rfl rfl rfl (fun hg => ?_) (fun hg => ?_)) <;> (fail_if_success (first | guard_hyp hg : true = true | guard_hyp hg : false = false)) <;> (try simp only [decide_eq_true_eq, decide_eq_false_iff_not] at hg) <;> simp only [Act.put, List.setIfInBounds_toArray, List.set_cons_zero, List.set_cons_succ]))); all_goals ((with_reducible refine wpQuiet_nil ?_); intro zq hz))
          clear ql2
        all_goals
          have hgq : y2.1.grownBy zq.1 none := ⟨zq.2.os, zq.2.tape, zq.2.output, zq.2.size, fun i hi _ => zq.2.block i hi⟩
          have HOT3 := Lib.hid (HOT.out.turn HUS.out hgq (.inl rfl) (.inl rfl))
          have HPS3 := Lib.hid (HPS.out.turn HUS.out hgq (.inl rfl) (.inl rfl))
          have HUS3 := Lib.hid (show OwnS W0 zq.1 (.slice AS s.seen.length cS) s.seen from HUS.out.kept hgq (none_or_ne _))
          have HBC3 := Lib.hid (HBC.out.grown hgq (by simp))
          obtain ⟨y3, hy3⟩ : ∃ y3 : Kin W0, y3.1 = zq.1 := ⟨⟨zq.1, y2.2.trans (zq.2.mono y2.2.size)⟩, rfl⟩
          rw [← hy3] at HOT3 HPS3 HUS3 HBC3 ⊢
          clear hy3 hgq hz HOT HPS HUS HBC g0 g1 gl
          clear zq
          have mixed : Try.prog.follows .mixedOrders = true := by kernel_rfl
          have hsl2 : s.seen.length + 1 ≤ 9223372036854775807 := by omega
          go_wp2_with (at_builtin; refine wpList_app _ rfl _ _ 22 rfl encPt_len (by decide) oneP W0.heap.size 31 (.agg #[.int .i64 0, .int .i64 0]) 16 infoCell rfl Try.underlying22 _ _ _ _ rfl (HUS3.out.alloc _) _ _ _ rfl (rd_one _ encPt_len _ ((0 : Int), (0 : Int)) _ rfl) ?c1 (by decide) ?c2 ?_; (case c1 => (first | (simp only [List.length_append, List.length_cons, List.length_nil]; omega) | omega | (simp; omega))); (case c2 => exact (by repeat (first | with_reducible exact Nat.le_refl _ | assumption | with_reducible refine le_alloc ?_ _ | with_reducible refine le_drew ?_ | with_reducible refine Kin.le _ ?_ | assumption | omega | (simp only [World.size_alloc]; omega)))); intro v' w1 hown' hg hbel hat'; (have hga : y3.1.grownBy (y3.1.alloc (.cells #[.int .i64 0, .int .i64 0] 31)) none := ⟨rfl, rfl, rfl, (by rw [World.size_alloc]; omega), fun i hi _ => (Below.alloc (Below.refl y3.1.heap.size y3.1) (Nat.le_refl _) _).block i hi⟩; have hown2 : w1.ownsRow W0.heap.size 31 2 v' (s.seen.length + 1) ((s.seen ++ [((0 : Int), (0 : Int))]).flatMap encPt) := (by have := hown'; rwa [List.length_append] at this); obtain ⟨gs, c4, rfl, hgs0, hgs1⟩ := own_head hown2; have hga1 := HUS3.out.alloc (.cells #[.int .i64 0, .int .i64 0] 31); have HOT4 := Lib.hid ((HOT3.out.turn HUS3.out hga (.inl rfl) (.inl rfl)).turn hga1 hg (.inr rfl) hat'); have HPS4 := Lib.hid ((HPS3.out.turn HUS3.out hga (.inl rfl) (.inl rfl)).turn hga1 hg (.inr rfl) hat'); have HBC4 := Lib.hid ((HBC3.out.al _).grown hg (Ne.symm hnc)); have hgl3 := HBC3.out.lt; have hnc4 : gs ≠ gc := (by intro e; rcases hat' with h | h; exact hnc (h.symm.trans (by rw [← e]; rfl)); have h2 : gs = (y3.1.alloc (.cells #[.int .i64 0, .int .i64 0] 31)).heap.size := (by injection h); rw [World.size_alloc] at h2; omega); obtain ⟨y4, hy4⟩ : ∃ y4 : Kin W0, y4.1 = w1 := ⟨⟨w1, HOT4.out.kw⟩, rfl⟩; have HUS4 := Lib.hid hown2; clear hown' hg hbel hat' hown2 hga hga1; rw [← hy4] at HOT4 HPS4 HBC4 HUS4 hgs1; rw [← hy4]; clear hy4))
          have hc4 := own_cap HUS4.out
          have g40 : y4.1.cell? ⟨gc, 0, none⟩ = some (.int .i64 c.1) := HBC4.out.cell 0
          have g41 : y4.1.cell? ⟨gc, 1, none⟩ = some (.int .i64 c.2) := HBC4.out.cell 1
          have gl4 := HBC4.out.lt
          have e1 : IntKind.i64.wrap ((q : Int) + 1) = (q : Int) + 1 := IntWalk.i64_in _ (by omega)
          have e2 : (q : Int) + 1 ≤ (s.seen.length : Int) + 1 := by omega
          have e3 : (0 : Int) ≤ (q : Int) + 1 := by omega
          have e4 : ((q : Int) + 1).toNat = q + 1 := by omega
          have e5 : (q : Int) ≤ (s.seen.length : Int) + 1 := by omega
          have e6 : (s.seen.length : Int) + 1 ≤ (c4 : Int) := by omega
          refine wp_region_held_drew (S := fun w' => Below W0.heap.size W0 w') (by kernel_rfl) (by repeat (first | with_reducible (first | exact blA | exact blB | refine blC _ ?_ | refine blD ?_ ?_ _ | refine blE ?_ | refine blF _ ?_ | refine blG ?_ _ | refine blH ?_ | refine blI ?_ ?_ _) | (simp only [World.size_alloc]; omega) | (simp <;> omega))) (fun hHeld => ?_)
          try simp only [List.size_toArray, List.length_cons, List.length_nil, Nat.zero_add, Nat.reduceAdd, List.replicate, Array.replicate]
          obtain ⟨yd, hyd⟩ : ∃ yd : Kin W0, yd.1 = y4.1.drew := ⟨⟨y4.1.drew, y4.2.drew⟩, rfl⟩
          have hgd : y4.1.grownBy yd.1 none := hyd ▸ ⟨rfl, rfl, rfl, Nat.le_refl _, fun i hi _ => rfl⟩
          have HOTd := Lib.hid (HOT4.out.turn HUS4.out hgd (.inl rfl) (.inl rfl))
          have HPSd := Lib.hid (HPS4.out.turn HUS4.out hgd (.inl rfl) (.inl rfl))
          have HUSd := Lib.hid (HUS4.out.kept hgd (none_or_ne _))
          have HBCd := Lib.hid (HBC4.out.grown hgd (by simp))
          rw [← hyd] at hHeld ⊢
          clear hyd hgd HOT4 HPS4 HUS4 HBC4 g40 g41 gl4
          refine wpAnyH_take (i := 0) (v := ?_) rfl (by kernel_rfl) (by kernel_rfl) (by kernel_rfl) (fun _ _ _ h => h) (Or.inl ⟨by kernel_rfl, ?_⟩) (by assumption) ?_
          rotate_left
          · (intro w' hSw; have s0 := (hSw.cell (p := ⟨bA, offA + k * 2, none⟩) hbA).trans (c_0); go_simp; try with_reducible rfl)
          try simp only [List.getElem_toArray, List.getElem_cons_succ, List.getElem_cons_zero, Act.put, List.setIfInBounds_toArray, List.set_cons_zero, List.set_cons_succ]
          refine wpAnyH_take (i := 1) (v := ?_) rfl (by kernel_rfl) (by kernel_rfl) (by kernel_rfl) (fun _ _ _ h => h) (Or.inl ⟨by kernel_rfl, ?_⟩) (by assumption) ?_
          rotate_left
          · (intro w' hSw; have s0 := (hSw.cell (p := ⟨bA, offA + k * 2, none⟩) hbA).trans (c_0); go_simp; try with_reducible rfl)
          try simp only [List.getElem_toArray, List.getElem_cons_succ, List.getElem_cons_zero, Act.put, List.setIfInBounds_toArray, List.set_cons_zero, List.set_cons_succ]
          refine wpAnyH_take (i := 2) (v := ?_) rfl (by kernel_rfl) (by kernel_rfl) (by kernel_rfl) (fun _ _ _ h => h) (Or.inl ⟨by kernel_rfl, ?_⟩) (by assumption) ?_
          rotate_left
          · (intro w' hSw; have s0 := (hSw.cell (p := ⟨bA, offA + k * 2, none⟩) hbA).trans (c_0); go_simp; try with_reducible rfl)
          try simp only [List.getElem_toArray, List.getElem_cons_succ, List.getElem_cons_zero, Act.put, List.setIfInBounds_toArray, List.set_cons_zero, List.set_cons_succ]
          refine wpAnyH_take (i := 4) (v := ?_) rfl (by kernel_rfl) (by kernel_rfl) (by kernel_rfl) (fun _ _ _ h => h) (Or.inl ⟨by kernel_rfl, ?_⟩) (by assumption) ?_
          rotate_left
          · (intro w' hSw; have s0 := (hSw.cell (p := ⟨bA, offA + k * 2, none⟩) hbA).trans (c_0); go_simp; try with_reducible rfl)
          try simp only [List.getElem_toArray, List.getElem_cons_succ, List.getElem_cons_zero, Act.put, List.setIfInBounds_toArray, List.set_cons_zero, List.set_cons_succ]
          refine wpAnyH_take (i := 5) (v := ?_) rfl (by kernel_rfl) (by kernel_rfl) (by kernel_rfl) (fun _ _ _ h => h) (Or.inl ⟨by kernel_rfl, ?_⟩) (by assumption) ?_
          rotate_left
          · (intro w' hSw; have s0 := (hSw.cell (p := ⟨bA, offA + k * 2, none⟩) hbA).trans (c_0); go_simp; try with_reducible rfl)
          try simp only [List.getElem_toArray, List.getElem_cons_succ, List.getElem_cons_zero, Act.put, List.setIfInBounds_toArray, List.set_cons_zero, List.set_cons_succ]
          refine wpAnyH_take (i := 3) (v := ?_) rfl (by kernel_rfl) (by kernel_rfl) (by kernel_rfl) (fun _ _ _ h => h) (Or.inl ⟨by kernel_rfl, ?_⟩) (by assumption) ?_
          rotate_left
          · (intro w' hSw; have s0 := (hSw.cell (p := ⟨bA, offA + k * 2, none⟩) hbA).trans (c_0); go_simp; try with_reducible rfl)
          try simp only [List.getElem_toArray, List.getElem_cons_succ, List.getElem_cons_zero, Act.put, List.setIfInBounds_toArray, List.set_cons_zero, List.set_cons_succ]
          refine wpAnyH_take (i := 6) (v := ?_) rfl (by kernel_rfl) (by kernel_rfl) (by kernel_rfl) (fun _ _ _ h => h) (Or.inl ⟨by kernel_rfl, ?_⟩) (by assumption) ?_
          rotate_left
          · (intro w' hSw; have s0 := (hSw.cell (p := ⟨bA, offA + k * 2, none⟩) hbA).trans (c_0); go_simp; try with_reducible rfl)
          try simp only [List.getElem_toArray, List.getElem_cons_succ, List.getElem_cons_zero, Act.put, List.setIfInBounds_toArray, List.set_cons_zero, List.set_cons_succ]
          first
          | (
            have hq1 : q < s.seen.length := hqlt
            have e7 : ¬ c4 = q + 1 := by omega
            have e8 : ¬ c4 = q := by omega
            rw [if_neg e7, if_neg e8]
            refine wpAnyH_ready (rs := [7]) (by kernel_rfl) (by simp) (AllReadyH.cons rfl (fun K hK => ?_) AllReadyH.nil)
            refine step_shift encPt_len oneP rfl (.tmp 42) (.tmp 45) 22 22 rfl 31 Try.underlying22 (by kernel_rfl) (q := q) HUSd.out rfl hq1 (by rfl) (by rfl) (by first | rfl | omega) (by first | rfl | omega) (by first | rfl | omega) (by omega) (fun w5 hown5 hg5 => ?_)
            obtain ⟨T5, hT5⟩ : ∃ T : List Cl, s.seen.take (q + 1) ++ s.seen.drop q = T := ⟨_, rfl⟩
            have HT5 := Lib.hid (show T5.set q c = insC s.seen c by rw [← hT5, ins_set hq1]; unfold insC; rw [HQ.out])
            have hT5l : T5.length = s.seen.length + 1 := by rw [← hT5]; simp; omega
            rw [hT5] at hown5
            have HOT5 := Lib.hid (HOTd.out.turn (us' := .slice (some ⟨gs, 0, none⟩) (s.seen.length + 1) c4) HUSd.out hg5 (.inr rfl) (.inl rfl))
            have HPS5 := Lib.hid (HPSd.out.turn (us' := .slice (some ⟨gs, 0, none⟩) (s.seen.length + 1) c4) HUSd.out hg5 (.inr rfl) (.inl rfl))
            have HBC5 := Lib.hid (HBCd.out.grown hg5 (by intro e; injection e with e; exact hnc4 e.symm))
            have HUS5 := Lib.hid hown5
            obtain ⟨y5, hy5⟩ : ∃ y5 : Kin W0, y5.1 = w5 := ⟨⟨w5, HOT5.out.kw⟩, rfl⟩
            rw [← hy5] at HOT5 HPS5 HBC5 HUS5 ⊢
            refine hK.out _ _ y5.2 (fun _ => ?_)
            clear hK hHeld hy5 hown5 hg5 hT5 K HOTd HPSd HBCd HUSd e7 e8
            refine wpAnyH_done (by kernel_rfl) ?_ _)
          | (
            have hq1 : s.seen.length = q := by omega
            generalize (if c4 = q + 1 then some (⟨gs, 0, none⟩ : Addr) else some ⟨gs, (q + 1) * 2, none⟩) = A42
            generalize (if c4 = q then some (⟨gs, 0, none⟩ : Addr) else some ⟨gs, q * 2, none⟩) = A45
            refine wpAnyH_ready (rs := [7]) (by kernel_rfl) (by simp) (AllReadyH.cons rfl (fun K hK => ?_) AllReadyH.nil)
            refine step_copy_none rfl (.tmp 42) (.tmp 45) 22 22 rfl 31 Try.underlying22 (by kernel_rfl) _ _ _ _ _ _ (by rfl) (by rfl) (by rw [hq1, Nat.sub_self]; exact Nat.min_eq_right (Nat.zero_le _)) ?_
            obtain ⟨T5, hT5⟩ : ∃ T : List Cl, s.seen ++ [((0 : Int), (0 : Int))] = T := ⟨_, rfl⟩
            have HT5 := Lib.hid (show T5.set q c = insC s.seen c by rw [← hT5, ← hq1, ins_end]; unfold insC; rw [HQ.out, hq1])
            have hT5l : T5.length = s.seen.length + 1 := by rw [← hT5]; simp
            rw [hT5] at HUSd
            have HOT5 := HOTd
            have HPS5 := HPSd
            have HBC5 := HBCd
            have HUS5 := HUSd
            obtain ⟨y5, hy5⟩ : ∃ y5 : Kin W0, y5.1 = yd.1 := ⟨yd, rfl⟩
            rw [← hy5] at HOT5 HPS5 HBC5 HUS5 ⊢
            refine hK.out _ _ y5.2 (fun _ => ?_)
            clear hK hHeld hy5 hT5 K HOTd HPSd HBCd HUSd hq1
            refine wpAnyH_done (by kernel_rfl) ?_ _)
          obtain ⟨v0, k0⟩ := own_some HUS5.out (q * 2) (by omega)
          obtain ⟨v1, k1⟩ := own_some HUS5.out (q * 2 + 1) (by omega)
          have f0 : y5.1.frozen? ⟨gs, q * 2, none⟩ = false := HUS5.out.frozenAt _
          have f1 : y5.1.frozen? ⟨gs, q * 2 + 1, none⟩ = false := HUS5.out.frozenAt _
          have gs5 : gs < y5.1.heap.size := (HUS5.out.lt gs rfl).2
          have g50 : y5.1.cell? ⟨gc, 0, none⟩ = some (.int .i64 c.1) := HBC5.out.cell 0
          have g51 : y5.1.cell? ⟨gc, 1, none⟩ = some (.int .i64 c.2) := HBC5.out.cell 1
          have gl5 := HBC5.out.lt
          have t50 : y5.1.cell? ⟨w.heap.size, 0, none⟩ = some (.int .i64 r) := HOT5.out.bt.cell 0
          have tl5 := HOT5.out.bt.lt
          have gsw : gs ≠ w.heap.size := fun e => HOT5.out.nt (by rw [← e]; rfl)
          have gws : w.heap.size ≠ gs := Ne.symm gsw
          have e9 : (q : Int) < (s.seen.length : Int) + 1 := by omega
          have ea : q < s.seen.length + 1 := by omega
          have eb : IntKind.i64.wrap ((s.kept : Int) + 1) = (s.kept : Int) + 1 := IntWalk.i64_in _ (by omega)
          obtain ⟨y6, hy6⟩ : ∃ y6 : Kin W0, y6.1 = (y5.1.setCell ⟨gs, q * 2, none⟩ (.int .i64 c.1)).setCell ⟨gs, q * 2 + 1, none⟩ (.int .i64 c.2) := ⟨⟨_, (y5.2.setCell (p := ⟨gs, q * 2, none⟩) (HUS5.out.lt gs rfl).1 _).setCell (p := ⟨gs, q * 2 + 1, none⟩) (HUS5.out.lt gs rfl).1 _⟩, rfl⟩
          have HY6 := Lib.hid hy6
          have HSZ := Lib.hid (show y5.1.heap.size = y6.1.heap.size by rw [hy6]; simp [World.setCell])
          have HUS6 := Lib.hid (show y6.1.ownsRow W0.heap.size 31 2 (.slice (some ⟨gs, 0, none⟩) (s.seen.length + 1) c4) (s.seen.length + 1) ((insC s.seen c).flatMap encPt) by rw [hy6, ← HT5.out]; exact own_set (y := c) encPt_len rfl HUS5.out q ea)
          have HU5 := Lib.hid ((HUS5.out.stored (q * 2) (.int .i64 c.1)).1)
          have HOT6 := Lib.hid (show OthB W0 W1 (.slice AS0 mS0 cS0) w.heap.size #[.int .i64 r, .bool cl, .slice (some ⟨bA, offA, none⟩) n cap] (.slice (some ⟨gs, 0, none⟩) (s.seen.length + 1) c4) y6.1 by rw [hy6]; exact (HOT5.out.turn HUS5.out (grownBy_set (p := ⟨gs, q * 2, none⟩) _) (.inr rfl) (.inl rfl)).turn HU5.out (grownBy_set (p := ⟨gs, q * 2 + 1, none⟩) _) (.inr rfl) (.inl rfl))
          have HPS6 := Lib.hid (show PcsS W1.heap.size y6.1 u6 (.slice (some ⟨gs, 0, none⟩) (s.seen.length + 1) c4) s.out by rw [hy6]; exact (HPS5.out.turn (us' := .slice (some ⟨gs, 0, none⟩) (s.seen.length + 1) c4) HUS5.out (grownBy_set (p := ⟨gs, q * 2, none⟩) _) (.inr rfl) (.inl rfl)).turn HU5.out (grownBy_set (p := ⟨gs, q * 2 + 1, none⟩) _) (.inr rfl) (.inl rfl))
          have HBC6 := Lib.hid (show Blk y6.1 gc 31 #[.int .i64 c.1, .int .i64 c.2] by rw [hy6]; exact (HBC5.out.far (p := ⟨gs, q * 2, none⟩) (fun e => hnc4 e.symm) _).far (p := ⟨gs, q * 2 + 1, none⟩) (fun e => hnc4 e.symm) _)
          have hW01 := HW1.out.size
          have hW16 : W1.heap.size ≤ y6.1.heap.size := HOT6.out.gr.size
          clear hy6 HU5 HUS5 HOT5 HPS5 HBC5 HT5
          cases hj : s.joins
          · rw [hj] at HNX
            obtain ⟨hs9, hown9, hnest9, hap9, hlow9, hsep9⟩ := HPS6.out.heads
            have hhl : hs9.length = s.out.length := hnest9.1
            obtain ⟨AU, cU, rfl⟩ : ∃ AU cU, u6 = .slice AU s.out.length cU := by
              obtain ⟨A', cap', e', _⟩ := RdN.open_ (OwnN.rd encTr_len (show OwnTrs W1.heap.size y6.1 u6 s.out from ⟨hs9, hown9, hnest9, hap9⟩))
              exact ⟨A', cap', e'⟩
            have HLW := Lib.hid hlow9
            have HOW := Lib.hid hown9
            have HNE := Lib.hid hnest9
            have HAP := Lib.hid hap9
            have HSP := Lib.hid hsep9
            have HNX2 := Lib.hid (show (runP r l S (k + 1)).out = s.out ++ [((r, false), [] ++ [c])] by rw [HNX.out]; rfl)
            have w1_ : IntKind.i64.wrap (((s.out.length + 1 : Nat) : Int) - 1) = (s.out.length : Int) := by rw [IntWalk.i64_in _ (by omega)]; omega
            have w2_ : IntKind.i64.wrap ((s.out.length : Int) + 1 - 1) = (s.out.length : Int) := by rw [IntWalk.i64_in _ (by omega)]; omega
            have w3_ : (s.out.length : Int) < (s.out.length : Int) + 1 := by omega
            have w4_ : s.out.length < s.out.length + 1 := by omega
            have w5_ : (s.out.length : Int) + 1 - 1 = (s.out.length : Int) := by omega
            clear hown9 hnest9 hap9 hlow9 hsep9
            go_wp2_with (rw [← HY6.out]; (at_builtin; refine wpList_app _ rfl _ _ 33 rfl encTr_len (by decide) oneTr W1.heap.size 24 (.agg #[.int .i64 0, .bool false, .slice none 0 0]) 40 infoTr rfl Try.underlying33 _ _ _ _ rfl (HOW.out.alloc _) _ _ _ rfl (rd_one _ encTr_len _ ((r, false), (none, 0, 0)) _ rfl HSZ.out) ?c1 (by decide) ?c2 ?_; (case c1 => (first | (simp only [List.length_append, List.length_cons, List.length_nil]; omega) | omega | (simp; omega))); (case c2 => exact (by repeat (first | with_reducible exact Nat.le_refl _ | assumption | with_reducible refine le_alloc ?_ _ | with_reducible refine le_drew ?_ | with_reducible refine Kin.le _ ?_ | assumption | omega | (simp only [World.size_alloc]; omega)))); intro v' w1 hown' hg hbel hat'; (have HX := Lib.hid (show Below y6.1.heap.size y6.1 (y6.1.alloc (.cells #[.int .i64 r, .bool false, .slice none 0 0] 24)) from Below.alloc (Below.refl _ _) (Nat.le_refl _) _); have HL1 := Lib.hid (OwnTrs.push0 (HNE.out.below HX.out) HAP.out hown' hg hat' (Nat.le_trans hW16 HX.out.size)); (obtain ⟨g, cap9, e9', _, _⟩ := HL1.out.shape); (obtain ⟨B9, hB9e⟩ : ∃ B, (y6.1.alloc (.cells #[.int .i64 r, .bool false, .slice none 0 0] 24)).heap.size = B := ⟨_, rfl⟩); have hB9 : B9 ≤ w1.heap.size := (by rw [← hB9e]; exact hg.size); rw [hB9e] at HL1; clear hB9e; subst e9'; have hga : y6.1.grownBy (y6.1.alloc (.cells #[.int .i64 r, .bool false, .slice none 0 0] 24)) none := ⟨rfl, rfl, rfl, HX.out.size, fun i hi _ => HX.out.block i hi⟩; have HOT7 := Lib.hid ((HOT6.out.turn HUS6.out hga (.inl rfl) (.inl rfl)).row hg (fun b hb => (HOW.out.lt b hb).1) hW01); have HUS7 := Lib.hid ((HUS6.out.alloc _).kept hg (own_own_ne HUS6.out HOW.out (by decide))); have HBC7 := Lib.hid ((HBC6.out.al _).grown hg (Ne.symm (own_ne HOW.out HBC6.out (by decide)))); (obtain ⟨y7, hy7⟩ : ∃ y7 : Kin W0, y7.1 = w1 := ⟨⟨w1, HOT7.out.kw⟩, rfl⟩); rw [← hy7] at HL1 HOT7 HUS7 HBC7 hB9; rw [← hy7]; clear hown' hg hbel hat' hga hy7)))
            obtain ⟨h9, hh9⟩ : ∃ h : TrH, ((r, false), (none, 0, 0)) = h := ⟨_, rfl⟩
            rw [hh9] at HL1
            have sep5 : (tsl h9).ownBlock = none ∨ (tsl h9).ownBlock ≠ some gs := by rw [← hh9]; left; rfl
            obtain ⟨x9, hx9e⟩ : ∃ x : Tr, ((r, false), []) = x := ⟨_, rfl⟩
            have hx9 : x9.2.length ≤ 65536 := by rw [← hx9e]; simp
            have HNEW := Lib.hid (show (runP r l S (k + 1)).out = s.out ++ [(x9.1, x9.2 ++ [c])] by rw [HNX2.out, ← hx9e])
            rw [hx9e] at HL1
            clear hh9 hx9e
            have HSP := Lib.hid (show ∀ (i : Nat) (p : TrH) (y : Tr), hs9[i]? = some p → s.out[i]? = some y → y.2 = [] ∨ (tsl p).ownBlock ≠ (Value.slice (some ⟨gs, 0, none⟩) (s.seen.length + 1) c4).ownBlock from fun i p y hp hy => by rcases HSP.out i p y hp hy with h | h | h; exact .inl h; right; rw [h]; simp [Value.ownBlock]; exact .inr h)
            obtain ⟨E9, hE9⟩ : ∃ E, s.out = E := ⟨_, rfl⟩
            obtain ⟨N, hN⟩ : ∃ N, E9.length = N := ⟨_, rfl⟩
            rw [hE9] at HL1 HNEW HLW HSP w1_ w2_ w3_ w4_ w5_ ⊢
            rw [hN] at HL1 w1_ w2_ w3_ w4_ w5_ ⊢
            have HNN := Lib.hid hN
            have HL9 := Lib.hid HL1.out
            clear HL1 hE9 hN
            have hgl9 := HL9.out.own.lt g rfl
            have gl : g < y7.1.heap.size := hgl9.2
            obtain ⟨⟨r9, cl9⟩, T, n9, c9⟩ := h9
            have k3 : y7.1.cell? ⟨g, N * 3 + 2, none⟩ = some (.slice T n9 c9) := by have := HL9.out.cell encTr_len (j := 2) rfl; rw [HNN.out] at this; exact this
            have hlow := HL9.out.low
            have hgb : W1.heap.size ≤ g := hgl9.1
            have cc0 : y7.1.cell? ⟨gc, 0, none⟩ = some (.int .i64 c.1) := HBC7.out.cell 0
            have cc1 : y7.1.cell? ⟨gc, 1, none⟩ = some (.int .i64 c.2) := HBC7.out.cell 1
            have ccl := HBC7.out.lt
            have hgs7 := (HUS7.out.lt gs rfl).2
            have HNG := Lib.hid (show some gs ≠ some g by have := own_own_ne HL9.out.own HUS7.out (by decide); rcases this with h | h; cases h; exact fun e => h e.symm)
            clear v0 v1 k0 k1 f0 f1 gs5 g50 g51 gl5 t50 tl5
            refine wp_region_floatT 7 8 (fun w' => w'.cell? ⟨g, N * 3 + 2, none⟩ = some (.slice T n9 c9)) (by kernel_rfl) (by kernel_rfl) (by kernel_rfl) (fun z_ => (z_.cell gl).trans k3) ?_
            simp only [List.take_succ_cons, List.take_zero, List.drop_succ_cons, List.drop_zero]
            refine @takeS_cons _ _ _ _ _ _ _ ?_ rfl (fun w' hSw => ?_) ?_
            rotate_left
            · ((try dsimp only at hSw); go_simp; try with_reducible rfl)
            try simp only [Act.put, List.setIfInBounds_toArray, List.set_cons_zero, List.set_cons_succ]
            refine @takeS_cons _ _ _ _ _ _ _ ?_ rfl (fun w' hSw => ?_) ?_
            rotate_left
            · ((try dsimp only at hSw); go_simp; try with_reducible rfl)
            try simp only [Act.put, List.setIfInBounds_toArray, List.set_cons_zero, List.set_cons_succ]
            refine @takeS_cons _ _ _ _ _ _ _ ?_ rfl (fun w' hSw => ?_) ?_
            rotate_left
            · ((try dsimp only at hSw); go_simp; try with_reducible rfl)
            try simp only [Act.put, List.setIfInBounds_toArray, List.set_cons_zero, List.set_cons_succ]
            refine @takeS_cons _ _ _ _ _ _ _ ?_ rfl (fun w' hSw => ?_) ?_
            rotate_left
            · ((try dsimp only at hSw); go_simp; try with_reducible rfl)
            try simp only [Act.put, List.setIfInBounds_toArray, List.set_cons_zero, List.set_cons_succ]
            refine @takeS_cons _ _ _ _ _ _ _ ?_ rfl (fun w' hSw => ?_) ?_
            rotate_left
            · ((try dsimp only at hSw); go_simp; try with_reducible rfl)
            try simp only [Act.put, List.setIfInBounds_toArray, List.set_cons_zero, List.set_cons_succ]
            refine @takeS_cons _ _ _ _ _ _ _ ?_ rfl (fun w' hSw => ?_) ?_
            rotate_left
            · ((try dsimp only at hSw); go_simp; try with_reducible rfl)
            try simp only [Act.put, List.setIfInBounds_toArray, List.set_cons_zero, List.set_cons_succ]
            refine @takeS_cons _ _ _ _ _ _ _ ?_ rfl (fun w' hSw => ?_) ?_
            rotate_left
            · ((try dsimp only at hSw); go_simp; try with_reducible rfl)
            try simp only [Act.put, List.setIfInBounds_toArray, List.set_cons_zero, List.set_cons_succ]
            refine takeS_nil ?_
            ((repeat' (first | go_big_quiet_step (fail) | ((refine wpQuiet_guard rfl rfl rfl rfl (fun hg => ?_) (fun hg => ?_)) <;> (fail_if_success (first | guard_hyp hg : true = true | guard_hyp hg : false = false)) <;> (try simp only [decide_eq_true_eq, decide_eq_false_iff_not] at hg) <;> simp only [Act.put, List.setIfInBounds_toArray, List.set_cons_zero, List.set_cons_succ]))); all_goals ((with_reducible refine wpQuiet_nil ?_); intro zq))
            have HB9 := Lib.hid (show Below y7.1.heap.size y7.1 (zq.1.alloc (.cells #[.int .i64 c.1, .int .i64 c.2] 31)) from Below.alloc zq.2 zq.2.size _)
            have HL8 := Lib.hid (HL9.out.below HB9.out)
            have HSR := Lib.hid (rd_one zq.1 encPt_len 31 c _ rfl rfl)
            have ht0 : (zq.1.alloc (.cells #[.int .i64 c.1, .int .i64 c.2] 31)).cell? ⟨g, N * 3 + 2, none⟩ = some (.slice T n9 c9) := (World.cell?_alloc_lt _ _ _ (zq.lt0 gl)).trans ((zq.cell gl).trans k3)
            have hBy : B9 ≤ (zq.1.alloc (.cells #[.int .i64 c.1, .int .i64 c.2] 31)).heap.size := Nat.le_trans hB9 HB9.out.size
            have HIN := Lib.hid (show (zq.1.alloc (.cells #[.int .i64 c.1, .int .i64 c.2] 31)).ownsRow B9 31 2 (.slice T n9 c9) x9.2.length (x9.2.flatMap encPt) from HL8.out.inner)
            have hn9 : n9 ≤ 65536 := by have := own_m HIN.out; omega
            have hgz : y7.1.grownBy (zq.1.alloc (.cells #[.int .i64 c.1, .int .i64 c.2] 31)) none := ⟨HB9.out.os, HB9.out.tape, HB9.out.output, HB9.out.size, fun i hi _ => HB9.out.block i hi⟩
            have HOZ := Lib.hid (HOT7.out.turn (us' := .slice (some ⟨gs, 0, none⟩) (s.seen.length + 1) c4) HUS7.out hgz (.inl rfl) (.inl rfl))
            have HUZ := Lib.hid (HUS7.out.kept hgz (none_or_ne _))
            have HS5 := Lib.hid sep5
            have hgs8 : gs < (zq.1.alloc (.cells #[.int .i64 c.1, .int .i64 c.2] 31)).heap.size := Nat.lt_of_lt_of_le hgs7 HB9.out.size
            clear hgz sep5
            intro K23 hK23
            go_simp
            refine hK23 _ _ (.inr ht0) ?_
            intro K24 hK24
            (skip; (refine step_app _ rfl _ _ 22 rfl encPt_len (by decide) oneP B9 31 (.agg #[.int .i64 0, .int .i64 0]) 16 infoCell rfl Try.underlying22 (.slice T n9 c9) _ _ _ (by first | rfl | simp [Act.eval, Act.put]) (HIN.out) _ _ _ (by first | rfl | simp [Act.eval, Act.put]) (HSR.out) ?c1 (by decide) ?c2 ?_; (case c1 => (first | (simp only [List.length_append, List.length_cons, List.length_nil]; omega) | omega | (simp; omega))); (case c2 => exact (by repeat (first | with_reducible exact Nat.le_refl _ | assumption | with_reducible refine le_alloc ?_ _ | with_reducible refine le_drew ?_ | with_reducible refine Kin.le _ ?_ | assumption | omega | (simp only [World.size_alloc]; omega)))); intro u9 w2 hown9 hg9 hbel9 hat9; ((obtain ⟨T', n', c', rfl⟩ := own_slice hown9); have HKP := HL8.out.keeps (by decide) hg9; have pz : w2.cell? ⟨g, N * 3 + 2, none⟩ = some (.slice T n9 c9) := (HKP.2 _).1.trans ht0; have pf : w2.frozen? ⟨g, N * 3 + 2, none⟩ = false := (HKP.2 _).2; have pl := HKP.1; have HST := Lib.hid (show OwnTL W1.heap.size B9 (w2.setCell ⟨g, E9.length * 3 + 2, none⟩ (.slice T' n' c')) (.slice (some ⟨g, 0, none⟩) (N + 1) cap9) hs9 ((r9, cl9), (T', n', c')) E9 (x9.1, x9.2 ++ [c]) from HL8.out.store (u := .slice T' n' c') (x' := (x9.1, x9.2 ++ [c])) (h' := ((r9, cl9), (T', n', c'))) (j := 2) encTr_len (by decide) hg9 hown9 rfl HL8.out.tg rfl); rw [HNN.out] at HST; have HOT8 := Lib.hid ((HOZ.out.row hg9 (fun b hb => Nat.le_trans hlow (HIN.out.lt b hb).1) hW01).row (grownBy_set (p := ⟨g, N * 3 + 2, none⟩) (.slice T' n' c')) (fun b hb => (by injection hb with hb; subst hb; exact hgb)) hW01); have HUS8 := Lib.hid ((HUZ.out.kept hg9 (.inr (by rcases HS5.out with h | h; intro e; exact absurd (e.trans h) (by simp [Value.ownBlock]); exact fun e => h e.symm))).kept (grownBy_set (p := ⟨g, N * 3 + 2, none⟩) (.slice T' n' c')) (.inr HNG.out)); have HS6 := Lib.hid (show (Value.slice T' n' c').ownBlock = none ∨ (Value.slice T' n' c').ownBlock ≠ some gs from (by rcases hat9 with h | h; rw [h]; exact HS5.out; right; rw [h]; intro e; injection e with e; omega)); clear hown9 hg9 hbel9 hat9 HKP)))
            refine hK24 _ _ (.inr pz) ?_
            intro K25 hK25
            go_simp
            refine hK25 _ _ (.inr pz) ?_
            intro K26 hK26
            go_simp
            refine hK26 _ _ (.inr pz) ?_
            intro K27 hK27
            go_simp
            refine hK27 _ _ (.inl rfl) ?_
            clear hK23 hK24 hK25 hK26 hK27 K23 K24 K25 K26 K27
            refine wpListT_nil ?_
            (try simp only [Exit.then])
            go_wp2_with fail
            exact ⟨⟨k + 1, by omega, by go_num, by rw [HNX.out], by rw [HNX.out]; go_num, Lib.hid (by rw [HNX.out]; show World.ownsRow _ _ _ _ _ (insC s.seen c).length _; rw [insC_len]; exact HUS8.out), HOT8, Lib.hid (.inr ⟨E9, _, hs9, _, B9, HNEW.out, HST.out, HLW.out, HSP.out, HS6.out⟩), ⟨_, HOT8.out.kw⟩, rfl⟩, by simp [intOf]; omega⟩
          · rw [hj] at HNX
            rcases HPS6.out with ⟨h1, _⟩ | ⟨E9, x9, hs9, h9, B9, h1, HO, hlow9, hsep9, sep5⟩
            · exact absurd h1 (HJN.out hj)
            have hx9 : x9.2.length ≤ 65536 := Nat.le_trans (HOC.out x9 (by rw [h1]; simp)) (by omega)
            have HNEW := Lib.hid (show (runP r l S (k + 1)).out = E9 ++ [(x9.1, x9.2 ++ [c])] by rw [HNX.out]; simp only [if_true]; rw [h1, addLast_snoc])
            obtain ⟨g, cap9, e9', _, _⟩ := HO.shape
            rw [h1, List.length_append, List.length_singleton] at hol
            obtain ⟨N, hNe⟩ : ∃ N, E9.length = N := ⟨_, rfl⟩
            have HNN := Lib.hid hNe
            rw [hNe] at e9' hol
            subst e9'
            have HL9 := Lib.hid HO
            have HLW := Lib.hid hlow9
            have HSP := Lib.hid hsep9
            have hB9 := HL9.out.top
            have w1_ : IntKind.i64.wrap (((N + 1 : Nat) : Int) - 1) = (N : Int) := by rw [IntWalk.i64_in _ (by omega)]; omega
            have w2_ : IntKind.i64.wrap ((N : Int) + 1 - 1) = (N : Int) := by rw [IntWalk.i64_in _ (by omega)]; omega
            have w3_ : (N : Int) < (N : Int) + 1 := by omega
            have w4_ : N < N + 1 := by omega
            have w5_ : (N : Int) + 1 - 1 = (N : Int) := by omega
            clear hNe HO h1 hlow9 hsep9
            go_wp2_with fail
            rw [← HY6.out]
            have HOT7 := HOT6
            have HUS7 := HUS6
            have HBC7 := HBC6
            rw [show (tsl h9).ownBlock ≠ (Value.slice (some ⟨gs, 0, none⟩) (s.seen.length + 1) c4).ownBlock ↔ (tsl h9).ownBlock ≠ some gs from Iff.rfl] at sep5
            have hgl9 := HL9.out.own.lt g rfl
            have gl : g < y6.1.heap.size := hgl9.2
            obtain ⟨⟨r9, cl9⟩, T, n9, c9⟩ := h9
            have k3 : y6.1.cell? ⟨g, N * 3 + 2, none⟩ = some (.slice T n9 c9) := by have := HL9.out.cell encTr_len (j := 2) rfl; rw [HNN.out] at this; exact this
            have hlow := HL9.out.low
            have hgb : W1.heap.size ≤ g := hgl9.1
            have cc0 : y6.1.cell? ⟨gc, 0, none⟩ = some (.int .i64 c.1) := HBC7.out.cell 0
            have cc1 : y6.1.cell? ⟨gc, 1, none⟩ = some (.int .i64 c.2) := HBC7.out.cell 1
            have ccl := HBC7.out.lt
            have hgs7 := (HUS7.out.lt gs rfl).2
            have HNG := Lib.hid (show some gs ≠ some g by have := own_own_ne HL9.out.own HUS7.out (by decide); rcases this with h | h; cases h; exact fun e => h e.symm)
            clear v0 v1 k0 k1 f0 f1 gs5 g50 g51 gl5 t50 tl5
            refine wp_region_floatT 7 8 (fun w' => w'.cell? ⟨g, N * 3 + 2, none⟩ = some (.slice T n9 c9)) (by kernel_rfl) (by kernel_rfl) (by kernel_rfl) (fun z_ => (z_.cell gl).trans k3) ?_
            simp only [List.take_succ_cons, List.take_zero, List.drop_succ_cons, List.drop_zero]
            refine @takeS_cons _ _ _ _ _ _ _ ?_ rfl (fun w' hSw => ?_) ?_
            rotate_left
            · ((try dsimp only at hSw); go_simp; try with_reducible rfl)
            try simp only [Act.put, List.setIfInBounds_toArray, List.set_cons_zero, List.set_cons_succ]
            refine @takeS_cons _ _ _ _ _ _ _ ?_ rfl (fun w' hSw => ?_) ?_
            rotate_left
            · ((try dsimp only at hSw); go_simp; try with_reducible rfl)
            try simp only [Act.put, List.setIfInBounds_toArray, List.set_cons_zero, List.set_cons_succ]
            refine @takeS_cons _ _ _ _ _ _ _ ?_ rfl (fun w' hSw => ?_) ?_
            rotate_left
            · ((try dsimp only at hSw); go_simp; try with_reducible rfl)
            try simp only [Act.put, List.setIfInBounds_toArray, List.set_cons_zero, List.set_cons_succ]
            refine @takeS_cons _ _ _ _ _ _ _ ?_ rfl (fun w' hSw => ?_) ?_
            rotate_left
            · ((try dsimp only at hSw); go_simp; try with_reducible rfl)
            try simp only [Act.put, List.setIfInBounds_toArray, List.set_cons_zero, List.set_cons_succ]
            refine @takeS_cons _ _ _ _ _ _ _ ?_ rfl (fun w' hSw => ?_) ?_
            rotate_left
            · ((try dsimp only at hSw); go_simp; try with_reducible rfl)
            try simp only [Act.put, List.setIfInBounds_toArray, List.set_cons_zero, List.set_cons_succ]
            refine @takeS_cons _ _ _ _ _ _ _ ?_ rfl (fun w' hSw => ?_) ?_
            rotate_left
            · ((try dsimp only at hSw); go_simp; try with_reducible rfl)
            try simp only [Act.put, List.setIfInBounds_toArray, List.set_cons_zero, List.set_cons_succ]
            refine @takeS_cons _ _ _ _ _ _ _ ?_ rfl (fun w' hSw => ?_) ?_
            rotate_left
            · ((try dsimp only at hSw); go_simp; try with_reducible rfl)
            try simp only [Act.put, List.setIfInBounds_toArray, List.set_cons_zero, List.set_cons_succ]
            refine takeS_nil ?_
            ((repeat' (first | go_big_quiet_step (fail) | ((refine wpQuiet_guard rfl rfl rfl rfl (fun hg => ?_) (fun hg => ?_)) <;> (fail_if_success (first | guard_hyp hg : true = true | guard_hyp hg : false = false)) <;> (try simp only [decide_eq_true_eq, decide_eq_false_iff_not] at hg) <;> simp only [Act.put, List.setIfInBounds_toArray, List.set_cons_zero, List.set_cons_succ]))); all_goals ((with_reducible refine wpQuiet_nil ?_); intro zq))
            have HB9 := Lib.hid (show Below y6.1.heap.size y6.1 (zq.1.alloc (.cells #[.int .i64 c.1, .int .i64 c.2] 31)) from Below.alloc zq.2 zq.2.size _)
            have HL8 := Lib.hid (HL9.out.below HB9.out)
            have HSR := Lib.hid (rd_one zq.1 encPt_len 31 c _ rfl rfl)
            have ht0 : (zq.1.alloc (.cells #[.int .i64 c.1, .int .i64 c.2] 31)).cell? ⟨g, N * 3 + 2, none⟩ = some (.slice T n9 c9) := (World.cell?_alloc_lt _ _ _ (zq.lt0 gl)).trans ((zq.cell gl).trans k3)
            have hBy : B9 ≤ (zq.1.alloc (.cells #[.int .i64 c.1, .int .i64 c.2] 31)).heap.size := Nat.le_trans hB9 HB9.out.size
            have HIN := Lib.hid (show (zq.1.alloc (.cells #[.int .i64 c.1, .int .i64 c.2] 31)).ownsRow B9 31 2 (.slice T n9 c9) x9.2.length (x9.2.flatMap encPt) from HL8.out.inner)
            have hn9 : n9 ≤ 65536 := by have := own_m HIN.out; omega
            have hgz : y6.1.grownBy (zq.1.alloc (.cells #[.int .i64 c.1, .int .i64 c.2] 31)) none := ⟨HB9.out.os, HB9.out.tape, HB9.out.output, HB9.out.size, fun i hi _ => HB9.out.block i hi⟩
            have HOZ := Lib.hid (HOT7.out.turn (us' := .slice (some ⟨gs, 0, none⟩) (s.seen.length + 1) c4) HUS7.out hgz (.inl rfl) (.inl rfl))
            have HUZ := Lib.hid (HUS7.out.kept hgz (none_or_ne _))
            have HS5 := Lib.hid sep5
            have hgs8 : gs < (zq.1.alloc (.cells #[.int .i64 c.1, .int .i64 c.2] 31)).heap.size := Nat.lt_of_lt_of_le hgs7 HB9.out.size
            clear hgz sep5
            intro K23 hK23
            go_simp
            refine hK23 _ _ (.inr ht0) ?_
            intro K24 hK24
            (skip; (refine step_app _ rfl _ _ 22 rfl encPt_len (by decide) oneP B9 31 (.agg #[.int .i64 0, .int .i64 0]) 16 infoCell rfl Try.underlying22 (.slice T n9 c9) _ _ _ (by first | rfl | simp [Act.eval, Act.put]) (HIN.out) _ _ _ (by first | rfl | simp [Act.eval, Act.put]) (HSR.out) ?c1 (by decide) ?c2 ?_; (case c1 => (first | (simp only [List.length_append, List.length_cons, List.length_nil]; omega) | omega | (simp; omega))); (case c2 => exact (by repeat (first | with_reducible exact Nat.le_refl _ | assumption | with_reducible refine le_alloc ?_ _ | with_reducible refine le_drew ?_ | with_reducible refine Kin.le _ ?_ | assumption | omega | (simp only [World.size_alloc]; omega)))); intro u9 w2 hown9 hg9 hbel9 hat9; ((obtain ⟨T', n', c', rfl⟩ := own_slice hown9); have HKP := HL8.out.keeps (by decide) hg9; have pz : w2.cell? ⟨g, N * 3 + 2, none⟩ = some (.slice T n9 c9) := (HKP.2 _).1.trans ht0; have pf : w2.frozen? ⟨g, N * 3 + 2, none⟩ = false := (HKP.2 _).2; have pl := HKP.1; have HST := Lib.hid (show OwnTL W1.heap.size B9 (w2.setCell ⟨g, E9.length * 3 + 2, none⟩ (.slice T' n' c')) (.slice (some ⟨g, 0, none⟩) (N + 1) cap9) hs9 ((r9, cl9), (T', n', c')) E9 (x9.1, x9.2 ++ [c]) from HL8.out.store (u := .slice T' n' c') (x' := (x9.1, x9.2 ++ [c])) (h' := ((r9, cl9), (T', n', c'))) (j := 2) encTr_len (by decide) hg9 hown9 rfl HL8.out.tg rfl); rw [HNN.out] at HST; have HOT8 := Lib.hid ((HOZ.out.row hg9 (fun b hb => Nat.le_trans hlow (HIN.out.lt b hb).1) hW01).row (grownBy_set (p := ⟨g, N * 3 + 2, none⟩) (.slice T' n' c')) (fun b hb => (by injection hb with hb; subst hb; exact hgb)) hW01); have HUS8 := Lib.hid ((HUZ.out.kept hg9 (.inr (by rcases HS5.out with h | h; intro e; exact absurd (e.trans h) (by simp [Value.ownBlock]); exact fun e => h e.symm))).kept (grownBy_set (p := ⟨g, N * 3 + 2, none⟩) (.slice T' n' c')) (.inr HNG.out)); have HS6 := Lib.hid (show (Value.slice T' n' c').ownBlock = none ∨ (Value.slice T' n' c').ownBlock ≠ some gs from (by rcases hat9 with h | h; rw [h]; exact HS5.out; right; rw [h]; intro e; injection e with e; omega)); clear hown9 hg9 hbel9 hat9 HKP)))
            refine hK24 _ _ (.inr pz) ?_
            intro K25 hK25
            go_simp
            refine hK25 _ _ (.inr pz) ?_
            intro K26 hK26
            go_simp
            refine hK26 _ _ (.inr pz) ?_
            intro K27 hK27
            go_simp
            refine hK27 _ _ (.inl rfl) ?_
            clear hK23 hK24 hK25 hK26 hK27 K23 K24 K25 K26 K27
            refine wpListT_nil ?_
            (try simp only [Exit.then])
            go_wp2_with fail
            exact ⟨⟨k + 1, by omega, by go_num, by rw [HNX.out], by rw [HNX.out]; go_num, Lib.hid (by rw [HNX.out]; show World.ownsRow _ _ _ _ _ (insC s.seen c).length _; rw [insC_len]; exact HUS8.out), HOT8, Lib.hid (.inr ⟨E9, _, hs9, _, B9, HNEW.out, HST.out, HLW.out, HSP.out, HS6.out⟩), ⟨_, HOT8.out.kw⟩, rfl⟩, by simp [intOf]; omega⟩
    · have hkn : k = n := by omega
      subst hkn
      have HGW := Lib.hid (show w.grownBy y.1 (Value.slice AS0 mS0 cS0).ownBlock from ⟨HOT.out.gr.os.trans HBW.out.os, HOT.out.gr.tape.trans HBW.out.tape, HOT.out.gr.output.trans HBW.out.output, Nat.le_trans HBW.out.size HOT.out.gr.size, fun i hi hne => (HOT.out.gr.block i (by omega) hne).trans (HBW.out.block i hi)⟩)
      have HUU := Lib.hid (show u1.ownBlock = (Value.slice AS0 mS0 cS0).ownBlock ∨ ∀ b, u1.ownBlock = some b → w.heap.size ≤ b from HOT.out.hu.imp id (fun h b hb => by have := h b hb; omega))
      obtain ⟨hs9, hown9, hnest9, hap9, hlow9, hsep9⟩ := HPS.out.heads
      have HB5 := Lib.hid HOT.out.bt
      have t50 : y.1.cell? ⟨w.heap.size, 1, none⟩ = some (.bool cl) := HB5.out.cell 1
      have t51 : y.1.cell? ⟨w.heap.size, 2, none⟩ = some (.slice A k cap) := HB5.out.cell 2
      have tl5 := HB5.out.lt
      obtain ⟨i1, i2, i3, i4, i5, i6⟩ := runP_inv r l S S HS0.out (fun _ => Iff.rfl) k (by rw [HL.out]; exact Nat.le_refl _)
      by_cases hkk : (runP r l S k).kept = k
      · have hall : ∀ i < l.length, (keptL S l)[i]? = some true := fun i hi => by
          have e : (keptL S l).take k = keptL S l := by rw [List.take_of_length_le]; rw [keptL_len, HL.out]; exact Nat.le_refl _
          rw [e] at i3
          have ha := all_id.1 (by rw [← i3, hkk, keptL_len, HL.out])
          obtain ⟨b, hb⟩ : ∃ b, (keptL S l)[i]? = some b := ⟨_, List.getElem?_eq_getElem (by rw [keptL_len]; exact hi)⟩
          have := List.all_eq_true.1 ha b (List.mem_of_getElem? hb)
          rw [hb]; simpa using this
        have ho : (runP r l S k).out = [((r, false), l)] := by
          have := pcs_all r l (keptL S l) hall k (by omega) (by rw [HL.out]; exact Nat.le_refl _)
          rw [i1, this, List.take_of_length_le (by rw [HL.out]; exact Nat.le_refl _)]
        have HC := Lib.hid (show closeP cl k (runP r l S k) = [((r, cl), l)] by unfold closeP; rw [if_pos hkk, ho])
        rw [ho] at hnest9 hap9 hlow9 hsep9
        obtain ⟨h9, rfl⟩ : ∃ h, hs9 = [h] := by
          have := hnest9.1
          match hs9, this with
          | [h], _ => exact ⟨h, rfl⟩
        obtain ⟨g, cap9, e9', hg1, hg2⟩ := own_head hown9
        subst e9'
        have HOW := Lib.hid hown9
        have HNE := Lib.hid hnest9
        have HAP := Lib.hid hap9
        have HLW := Lib.hid hlow9
        have HSP := Lib.hid hsep9
        obtain ⟨v1, k1⟩ := own_some hown9 1 (by simp)
        have f1 : y.1.frozen? ⟨g, 1, none⟩ = false := hown9.frozenAt _
        have hkI : ((runP r l S k).kept : Int) = (k : Int) := by omega
        rw [hkI]
        clear hown9 hnest9 hap9 hlow9 hsep9 i1 i2 i3 i4 i5 i6 ho hall hkI hkk
        go_wp2_with fail
        go_ret2
        have hst := (HOW.out.stored 1 (.bool cl)).1
        have htag := (HNE.out.2 0 h9 ((r, false), l) rfl rfl).1
        have hrd := (HNE.out.2 0 h9 ((r, false), l) rfl rfl).2
        have hap0 := HAP.out 0 h9 ((r, false), l) rfl rfl
        have hlow0 := HLW.out 0 h9 ((r, false), l) rfl rfl
        have hsep0 := HSP.out 0 h9 ((r, false), l) rfl rfl
        obtain ⟨⟨r9, cl9⟩, S9⟩ := h9
        have e9 : (r9, cl9) = (r, false) := htag
        injection e9 with e91 e92
        subst e91 e92
        have one : ∀ {α : Type} {a : α} {i : Nat} {p : α}, [a][i]? = some p → p = a := fun {α a i p} h => by
          match i, h with
          | 0, h => simpa using h.symm
          | i + 1, h => simp at h
        have hne := own_own_ne HUS.out HOW.out (by decide)
        exact ⟨_, _, rfl, ⟨[((r9, cl), S9)], own_base hst (by omega),
          by rw [HC.out]; exact ⟨rfl, fun i p y hp hy => by obtain rfl := one hp; obtain rfl := one hy; exact ⟨rfl, hrd.grown (grownBy_set (p := ⟨g, 1, none⟩) _) hap0⟩⟩,
          by rw [HC.out]; exact fun i p y hp hy => (by obtain rfl := one hp; obtain rfl := one hy; exact hlow0.imp id (fun h b hb => by have := h b hb; omega)),
          by rw [HC.out]; exact fun i p y hp hy => (by obtain rfl := one hp; obtain rfl := one hy; exact hap0),
          by rw [HC.out]; exact fun i p y hp hy => (by obtain rfl := one hp; obtain rfl := one hy; exact hsep0)⟩,
          HUS.out.kept (grownBy_set (p := ⟨g, 1, none⟩) _) hne,
          ⟨HGW.out.os, HGW.out.tape, HGW.out.output, by simpa [World.setCell] using HGW.out.size, fun i hi hrow => (Below.heap_setCell _ _ _ _ (show i ≠ g by omega)).trans (HGW.out.block i hi hrow)⟩, HUU.out⟩
      · have HC := Lib.hid (show closeP cl k (runP r l S k) = (runP r l S k).out by unfold closeP; rw [if_neg hkk])
        have hkI : ¬ ((runP r l S k).kept : Int) = (k : Int) := by omega
        have HOW := Lib.hid hown9
        have HNE := Lib.hid hnest9
        have HAP := Lib.hid hap9
        have HLW := Lib.hid hlow9
        have HSP := Lib.hid hsep9
        clear hown9 hnest9 hap9 hlow9 hsep9 i1 i2 i3 i4 i5 i6 hkk
        go_wp2_with fail
        go_ret2
        exact ⟨_, _, rfl, ⟨hs9, own_base HOW.out (by omega), by rw [HC.out]; exact HNE.out, by rw [HC.out]; exact fun i p y hp hy => (HLW.out i p y hp hy).imp id (fun h b hb => by have := h b hb; omega), by rw [HC.out]; exact HAP.out, by rw [HC.out]; exact HSP.out⟩, HUS.out, HGW.out, HUU.out⟩
end Go.Proofs.Ytomndgjnhhchdaa
