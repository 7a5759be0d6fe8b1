/- Lemmas: MapRng RegSameA. -/
import Derived.Deep.RegionHeld
import Derived.Test.YtneelidbgigehaaGreatT09
import Derived.Test.YtneelidbgigehaaGreatT07
import Derived.Test.YtneelidbgigehaaGreatT05
/- A range over a map whose keys are structs of two ints: the map told as a function, and the keys still to come. -/
namespace Go.Proofs.YtneelidbgigehaaGreat
set_option linter.unusedSimpArgs false
set_option linter.unusedVariables false
open Go Go.Maps Go.RowKit
section
variable {P : Program} {K : TypeId}
def RngM (P : Program) (K : TypeId) (w : World) (b r n : Nat) (F : Key → Option Value) (left : Key → Bool) (cnt : Nat) : Prop :=
  ∃ D L, w.ranges P K heldR b r n D L cnt ∧ (∀ c, wfK c → ∀ z, D.atKey (kl c) z = (match F c with | some v => .held v | none => z)) ∧ ∀ c, wfK c → L (kl c) = left c
theorem OwnM.range {w : World} {b n : Nat} {F : Key → Option Value} {t e : TypeId} (h : OwnM P K w b n F) (T : KeyT P K) (ht : P.underlying t = some (.map K e)) :
    ∃ w' cnt, (Instr.range t (.map (some b))).run P w = .ok (.pointer (some ⟨w.heap.size, 0, none⟩)) w' ∧ RngM P K w' b w.heap.size n F (fun c => (F c).isSome) cnt ∧ w.grownBy w' none ∧ w'.heap.size = w.heap.size + 1 := by
  obtain ⟨D, h1, h2⟩ := h
  obtain ⟨w', hrun, r1, r2, r3⟩ := h1.range T.law ht
  exact ⟨w', _, hrun, ⟨D, _, r1, h2, fun c hc => OwnM.has (w := w) (b := b) (n := n) h2 hc⟩, r2, r3⟩
theorem RngM.next {w : World} {b r n cnt : Nat} {F : Key → Option Value} {left : Key → Bool} (h : RngM P K w b r n F left cnt) (T : KeyT P K) (ty : TypeId) :
    (cnt = 0 ∧ (∀ c, wfK c → left c = false) ∧ (Instr.next (.pointer (some ⟨r, 0, none⟩)) false ty).run P w = .ok (.tuple #[.bool false]) w) ∨
    ∃ c v w' cnt', wfK c ∧ left c = true ∧ F c = some v ∧ (Instr.next (.pointer (some ⟨r, 0, none⟩)) false ty).run P w = .ok (.tuple #[.bool true, kv c, v]) w' ∧
      RngM P K w' b r n F (fun d => left d && decide (d ≠ c)) cnt' ∧ cnt' < cnt ∧ w.grownBy w' (some r) ∧ w'.heap.size = w.heap.size ∧ (Instr.entry (.pointer (some ⟨r, 0, none⟩))).run P w' = .ok (.tuple #[kv c, v]) w' := by
  obtain ⟨D, L, h1, h2, h3⟩ := h
  rcases h1.next T.law ty with ⟨h0, hl, hrun⟩ | ⟨key, v, l, y, w', cnt', hkey, hlk, hv, hat, hrun, hrg, hlt, hgr, hsz, hen⟩
  · exact Or.inl ⟨h0, fun c hc => by rw [← h3 c hc]; exact hl _, hrun⟩
  · obtain ⟨c, rfl, hc, rfl⟩ := T.inv key l hkey
    have e := heldR_inv hv
    subst e
    have hF : F c = some v := by
      cases hF : F c with
      | none =>
        have a1 := hat (.held (.bool true))
        have a2 := hat (.held (.bool false))
        rw [h2 c hc, hF] at a1 a2
        rw [← a2] at a1
        injection a1 with a1
        injection a1 with a1
        cases a1
      | some u =>
        have a1 := hat (.held v)
        rw [h2 c hc, hF] at a1
        injection a1 with a1
        rw [a1]
    refine Or.inr ⟨c, v, w', cnt', hc, by rw [← h3 c hc]; exact hlk, hF, hrun, ⟨D, _, hrg, h2, fun d hd => ?_⟩, hlt, hgr, hsz, hen⟩
    show (L (kl d) && !(kl d).sameKey (kl c)) = _
    rw [h3 d hd]
    by_cases hdc : d = c
    · subst hdc; simp [WideAt.sameKey_self (T.isKey hd)]
    · rw [sameKey_ne (fun e => hdc (T.inj hd hc e))]; simp [hdc]
end
end Go.Proofs.YtneelidbgigehaaGreat

/- Equality of regions. (joined: RegSame RegSame2) -/
/- Equality of regions. -/
namespace Go.Proofs.YtneelidbgigehaaGreat
set_option linter.unusedSimpArgs false
set_option linter.unusedVariables false
open Go.RowKit Runs Reg
attribute [local go_sem] Kin.cell Kin.frozen Kin.lt0 Kin.lt1 Kin.lt2 Kin.lt3 run_mkf
theorem take_eq2 {α : Type} {a b : List α} {k : Nat} {r q : α} (hr : a[k]? = some r) (hq : b[k]? = some q) (h : a.take k = b.take k) (e : r = q) : a.take (k + 1) = b.take (k + 1) := by
  rw [List.take_add_one, List.take_add_one, h, hr, hq, e]
end Go.Proofs.YtneelidbgigehaaGreat
/- The chapter's equality of regions. -/
namespace Go.Proofs.YtneelidbgigehaaGreat
set_option linter.unusedSimpArgs false
set_option linter.unusedVariables false
open Go.RowKit Runs Reg
attribute [local go_sem] Kin.cell Kin.frozen Kin.lt0 Kin.lt1 Kin.lt2 Kin.lt3 run_mkf
theorem cut_exit {Q : Exit → Act → World → Prop} {e : Exit} {a : Act} {w : World} (h : ∀ X, X = w → Q e a X) : Q e a w := h w rfl
theorem ne_of_y {a b : List Reg.Row} {k : Nat} {r q : Reg.Row} (hr : a[k]? = some r) (hq : b[k]? = some q) (h : r ≠ q) : false = decide (a = b) := by
  symm
  rw [decide_eq_false_iff_not]
  rintro rfl
  exact h (Option.some.inj (hr.symm.trans hq))
theorem row_ne {r q : Reg.Row} {j : Nat} {e f : Run} (he : r.2[j]? = some e) (hf : q.2[j]? = some f) (h : e ≠ f) : r ≠ q := by
  rintro rfl
  exact h (Option.some.inj (he.symm.trans hf))
theorem Kin.cell2 {w : World} {o1 o2 : Obj} (z : Kin ((w.alloc o1).alloc o2)) {b o : Nat} (h : b < w.heap.size) : z.1.cell? ⟨b, o, none⟩ = w.cell? ⟨b, o, none⟩ := by
  have h1 : b < (w.alloc o1).heap.size := by simp only [World.size_alloc]; omega
  rw [z.cell (by simp only [World.size_alloc]; omega), World.cell?_alloc_lt _ _ _ h1, World.cell?_alloc_lt _ _ _ h]
set_option maxRecDepth 100000 in
set_option maxHeartbeats 8000000 in
theorem same18_any (v u : Value) (a b : List Reg.Row) (w : World) (ha : RdReg w v a) (hb : RdReg w u b) (ba : RBd a) (bb : RBd b) :
    Calls Tryz.prog 11 #[v, u] w fun e w' => e = .returned (.bool (decide (a = b))) ∧ Below w.heap.size w w' := by
  obtain ⟨s, rfl, ha⟩ := ha
  obtain ⟨t, rfl, hb⟩ := hb
  obtain ⟨A, capA, rfl, hcapA, hopA⟩ := rows_open ha
  have HA := Lib.hid hopA
  have HLA := Lib.hid ha
  clear hopA ha
  obtain ⟨B, capB, rfl, hcapB, hopB⟩ := rows_open hb
  have HB := Lib.hid hopB
  have HLB := Lib.hid hb
  clear hopB hb
  have hla := ba.1
  have hlb := bb.1
  have Hba := Lib.hid ba.2
  have Hbb := Lib.hid bb.2
  have heq := run_neqRun
  clear ba bb
  by_cases hl : a.length = b.length
  · have Hl := Lib.hid hl
    have hl2 : a.length ≤ b.length ∧ b.length ≤ a.length := by omega
    have hb0 : (((a.length : Nat) : Int) != (b.length : Int)) = false := by simp; omega
    clear hl
    go_enter Tryz.func11, Tryz.ntmps11
    go_wp2
    go_loopw [5] (fun i wr => ∃ k : Nat, k ≤ a.length ∧ i = .int .i64 k ∧ Hid (a.take k = b.take k) ∧ ∃ z : Kin ((w.alloc (.cells #[.slice A a.length capA] 24)).alloc (.cells #[.slice B b.length capB] 24)), z.1 = wr) (fun i _ => a.length - (intOf i).toNat)
    case atStart => exact ⟨0, Nat.zero_le _, rfl, rfl, ⟨_, Below.refl _ _⟩, rfl⟩
    case round =>
      obtain ⟨k, hk, rfl, hm, z, rfl⟩ := hrel
      by_cases hlt : k < a.length
      · obtain ⟨r, hr⟩ : ∃ el_, (a)[k]? = some el_ := ⟨_, List.getElem?_eq_getElem (by first | exact hlt | omega)⟩
        obtain ⟨bA, offA, ⟨⟩, hbA, hcA⟩ := HA.out (k) _ hr
        have hbA2 : bA < w.heap.size + 1 := by omega
        have HAc := Lib.hid hcA
        clear hcA
        obtain ⟨S, capS, r_0, r_1, hcapS, hrS⟩ := HAc.out (k) r hr
        have HLS := Lib.hid hrS
        have Hr := Lib.hid hr
        clear hr hrS
        obtain ⟨q, hq⟩ : ∃ el_, (b)[k]? = some el_ := ⟨_, List.getElem?_eq_getElem (by first | exact (by omega) | omega)⟩
        obtain ⟨bB, offB, ⟨⟩, hbB, hcB⟩ := HB.out (k) _ hq
        have hbB2 : bB < w.heap.size + 1 := by omega
        have HBc := Lib.hid hcB
        clear hcB
        obtain ⟨T, capT, q_0, q_1, hcapT, hrT⟩ := HBc.out (k) q hq
        have HLT := Lib.hid hrT
        have Hq := Lib.hid hq
        clear hq hrT
        have hltb : k < b.length := by omega
        have b1 := Hba.out r (List.mem_of_getElem? Hr.out)
        have b2 := Hbb.out q (List.mem_of_getElem? Hq.out)
        have hs2 : w.heap.size < w.heap.size + 1 + 1 := by omega
        have hbA3 : bA < w.heap.size + 1 + 1 := by omega
        have hbB3 : bB < w.heap.size + 1 + 1 := by omega
        go_wp2
        have c1 : z.1.cell? ⟨w.heap.size, 0, none⟩ = some (.slice (some ⟨bA, offA, none⟩) a.length capA) := by simp [z.cell, hs2]
        have c2 : z.1.cell? ⟨w.heap.size + 1, 0, none⟩ = some (.slice (some ⟨bB, offB, none⟩) b.length capB) := by simp [z.cell]
        have c3 := (z.cell2 hbA).trans r_0
        have c4 := (z.cell2 hbA).trans r_1
        have c5 := (z.cell2 hbB).trans q_0
        have c6 := (z.cell2 hbB).trans q_1
        clear r_0 r_1 q_0 q_1
        go_region_held (fun w' => w'.cell? ⟨w.heap.size, 0, none⟩ = some (.slice (some ⟨bA, offA, none⟩) a.length capA) ∧ w'.cell? ⟨w.heap.size + 1, 0, none⟩ = some (.slice (some ⟨bB, offB, none⟩) b.length capB) ∧ w'.cell? ⟨bA, offA + k * 2, none⟩ = some (.int .i64 r.1) ∧ w'.cell? ⟨bA, offA + k * 2 + 1, none⟩ = some (.slice S r.2.length capS) ∧ w'.cell? ⟨bB, offB + k * 2, none⟩ = some (.int .i64 q.1) ∧ w'.cell? ⟨bB, offB + k * 2 + 1, none⟩ = some (.slice T q.2.length capT)) (go_keep) (fail)
        · refine cut_exit ?_
          intro X hX
          have hbel : Below z.1.heap.size z.1 X := by rw [hX]; exact gRw
          have hwX : Below w.heap.size w X := Below.trans gRw (hbel.mono (by have := z.2.size; simp only [World.size_alloc] at this; omega))
          have p0 : X.cell? ⟨z.1.heap.size, 0, none⟩ = some (.int .i64 r.1) := by rw [hX]; simp
          have p1 : X.cell? ⟨z.1.heap.size, 1, none⟩ = some (.slice S r.2.length capS) := by rw [hX]; simp
          have q0 : X.cell? ⟨z.1.heap.size + 1, 0, none⟩ = some (.int .i64 q.1) := by rw [hX]; simp
          have q1 : X.cell? ⟨z.1.heap.size + 1, 1, none⟩ = some (.slice T q.2.length capT) := by rw [hX]; simp
          have hX1 : z.1.heap.size < X.heap.size := by rw [hX]; simp; omega
          have hX2 : z.1.heap.size + 1 < X.heap.size := by rw [hX]; simp
          have HRS := Lib.hid (HLS.out.below hwX)
          have HRT := Lib.hid (HLT.out.below hwX)
          clear c1 c2 c3 c4 c5 c6 hX
          have goR : ∀ {D : World}, Below X.heap.size X D → Below w.heap.size w D := fun h => hwX.trans (h.mono hwX.size)
          have goZ : ∀ {D : World}, Below X.heap.size X D → Below ((w.alloc (.cells #[.slice (some ⟨bA, offA, none⟩) a.length capA] 24)).alloc (.cells #[.slice (some ⟨bB, offB, none⟩) b.length capB] 24)).heap.size ((w.alloc (.cells #[.slice (some ⟨bA, offA, none⟩) a.length capA] 24)).alloc (.cells #[.slice (some ⟨bB, offB, none⟩) b.length capB] 24)) D := fun h => z.2.trans ((hbel.trans (h.mono hbel.size)).mono z.2.size)
          by_cases hy : r.1 = q.1
          · by_cases hrl : r.2.length = q.2.length
            · have hb1 : ((r.2.length : Int) != (q.2.length : Int)) = false := by simp; omega
              have hle1 : r.2.length ≤ q.2.length := by omega
              have Hrl := Lib.hid hrl
              clear hrl
              have HS := Lib.hid (Rd.op HRS.out)
              have HLS := Lib.hid HRS.out
              have HT := Lib.hid (Rd.op HRT.out)
              have HLT := Lib.hid HRT.out
              have hb2 : (r.1 != q.1) = false := by simp [hy]
              have Hy := Lib.hid hy
              clear hy
              go_wp2
              go_loopw [8] (fun i wr => ∃ j : Nat, j ≤ r.2.length ∧ i = .int .i64 j ∧ Hid (r.2.take j = q.2.take j) ∧ ∃ y : Kin X, y.1 = wr) (fun i _ => r.2.length - (intOf i).toNat)
              case atStart => exact ⟨0, Nat.zero_le _, rfl, rfl, ⟨X, Below.refl _ _⟩, rfl⟩
              case round =>
                obtain ⟨j, hj, rfl, hm2, y, rfl⟩ := hrel
                by_cases hlt2 : j < r.2.length
                · obtain ⟨e, he⟩ : ∃ el_, (r.2)[j]? = some el_ := ⟨_, List.getElem?_eq_getElem (by first | exact hlt2 | omega)⟩
                  obtain ⟨bS, offS, rfl, hbS, hcS⟩ := HS.out (j) _ he
                  have e_0 : X.cell? ⟨bS, offS + j * 2, none⟩ = some (.int .i64 e.1) := by exact hcS (j) _ he 0 _ rfl
                  have e_1 : X.cell? ⟨bS, offS + j * 2 + 1, none⟩ = some (.int .i64 e.2) := by exact hcS (j) _ he 1 _ rfl
                  have hbS2 : bS < X.heap.size + 1 := by omega
                  have HSc := Lib.hid hcS
                  have He := Lib.hid he
                  clear he hcS
                  obtain ⟨f, hf⟩ : ∃ el_, (q.2)[j]? = some el_ := ⟨_, List.getElem?_eq_getElem (by first | exact (by omega) | omega)⟩
                  obtain ⟨bT, offT, rfl, hbT, hcT⟩ := HT.out (j) _ hf
                  have f_0 : X.cell? ⟨bT, offT + j * 2, none⟩ = some (.int .i64 f.1) := by exact hcT (j) _ hf 0 _ rfl
                  have f_1 : X.cell? ⟨bT, offT + j * 2 + 1, none⟩ = some (.int .i64 f.2) := by exact hcT (j) _ hf 1 _ rfl
                  have hbT2 : bT < X.heap.size + 1 := by omega
                  have HTc := Lib.hid hcT
                  have Hf := Lib.hid hf
                  clear hf hcT
                  have hltq : j < q.2.length := by omega
                  go_wp2
                  ((refine wp_region_kinK (W := X) (by kernel_rfl) (by kernel_rfl) gRw ?_); (repeat' (first | go_big_quiet_step (fail) | ((refine wpQuiet_guard rfl rfl rfl rfl (fun hg => ?_) (fun hg => ?_)) <;> (fail_if_success (first | guard_hyp hg : true = true | guard_hyp hg : false = false)) <;> (try simp only [decide_eq_true_eq, decide_eq_false_iff_not] at hg) <;> simp only [Act.put, List.setIfInBounds_toArray, List.set_cons_zero, List.set_cons_succ]))); all_goals ((with_reducible refine wpQuiet_nil ?_); intro zq hz))
                  go_wp2
                  all_goals first
                    | (go_ret
                       have hne : e ≠ f := by simp_all [eqp_no]
                       exact ⟨ret_bool (ne_of_y Hr.out Hq.out (row_ne He.out Hf.out hne)), goR zq.2⟩)
                    | (go_roundw
                       case rel => exact ⟨j + 1, by omega, by go_num, take_eq2 He.out Hf.out hm2.out (by simp_all [eqp_iff]), zq, rfl⟩
                       case measure => simp [intOf]; omega)
                · have ej : j = r.2.length := by omega
                  have hrq : r = q := Prod.ext Hy.out (by have := hm2.out; rw [ej, List.take_length, Hrl.out, List.take_length] at this; exact this)
                  go_wp2
                  go_roundw
                  case rel => exact ⟨k + 1, by omega, by go_num, take_eq2 Hr.out Hq.out hm.out hrq, ⟨y.1, goZ y.2⟩, rfl⟩
                  case measure => simp [intOf]; omega
            · have hb1 : ((r.2.length : Int) != (q.2.length : Int)) = true := by simp; omega
              go_wp2
              go_ret
              exact ⟨ret_bool (ne_of_y Hr.out Hq.out (fun e => hrl (by rw [e]))), goR (Below.refl _ _)⟩
          · have hb1 : (r.1 != q.1) = true := by simp [hy]
            go_wp2
            go_ret
            exact ⟨ret_bool (ne_of_y Hr.out Hq.out (fun e => hy (by rw [e]))), goR (Below.refl _ _)⟩
        · refine cut_exit ?_
          intro X hX
          have hbel : Below z.1.heap.size z.1 X := by rw [hX]; exact gRw
          have hwX : Below w.heap.size w X := Below.trans gRw (hbel.mono (by have := z.2.size; simp only [World.size_alloc] at this; omega))
          have p0 : X.cell? ⟨z.1.heap.size + 1, 0, none⟩ = some (.int .i64 r.1) := by rw [hX]; simp
          have p1 : X.cell? ⟨z.1.heap.size + 1, 1, none⟩ = some (.slice S r.2.length capS) := by rw [hX]; simp
          have q0 : X.cell? ⟨z.1.heap.size, 0, none⟩ = some (.int .i64 q.1) := by rw [hX]; simp
          have q1 : X.cell? ⟨z.1.heap.size, 1, none⟩ = some (.slice T q.2.length capT) := by rw [hX]; simp
          have hX1 : z.1.heap.size < X.heap.size := by rw [hX]; simp; omega
          have hX2 : z.1.heap.size + 1 < X.heap.size := by rw [hX]; simp
          have HRS := Lib.hid (HLS.out.below hwX)
          have HRT := Lib.hid (HLT.out.below hwX)
          clear c1 c2 c3 c4 c5 c6 hX
          have goR : ∀ {D : World}, Below X.heap.size X D → Below w.heap.size w D := fun h => hwX.trans (h.mono hwX.size)
          have goZ : ∀ {D : World}, Below X.heap.size X D → Below ((w.alloc (.cells #[.slice (some ⟨bA, offA, none⟩) a.length capA] 24)).alloc (.cells #[.slice (some ⟨bB, offB, none⟩) b.length capB] 24)).heap.size ((w.alloc (.cells #[.slice (some ⟨bA, offA, none⟩) a.length capA] 24)).alloc (.cells #[.slice (some ⟨bB, offB, none⟩) b.length capB] 24)) D := fun h => z.2.trans ((hbel.trans (h.mono hbel.size)).mono z.2.size)
          by_cases hy : r.1 = q.1
          · by_cases hrl : r.2.length = q.2.length
            · have hb1 : ((r.2.length : Int) != (q.2.length : Int)) = false := by simp; omega
              have hle1 : r.2.length ≤ q.2.length := by omega
              have Hrl := Lib.hid hrl
              clear hrl
              have HS := Lib.hid (Rd.op HRS.out)
              have HLS := Lib.hid HRS.out
              have HT := Lib.hid (Rd.op HRT.out)
              have HLT := Lib.hid HRT.out
              have hb2 : (r.1 != q.1) = false := by simp [hy]
              have Hy := Lib.hid hy
              clear hy
              go_wp2
              go_loopw [8] (fun i wr => ∃ j : Nat, j ≤ r.2.length ∧ i = .int .i64 j ∧ Hid (r.2.take j = q.2.take j) ∧ ∃ y : Kin X, y.1 = wr) (fun i _ => r.2.length - (intOf i).toNat)
              case atStart => exact ⟨0, Nat.zero_le _, rfl, rfl, ⟨X, Below.refl _ _⟩, rfl⟩
              case round =>
                obtain ⟨j, hj, rfl, hm2, y, rfl⟩ := hrel
                by_cases hlt2 : j < r.2.length
                · obtain ⟨e, he⟩ : ∃ el_, (r.2)[j]? = some el_ := ⟨_, List.getElem?_eq_getElem (by first | exact hlt2 | omega)⟩
                  obtain ⟨bS, offS, rfl, hbS, hcS⟩ := HS.out (j) _ he
                  have e_0 : X.cell? ⟨bS, offS + j * 2, none⟩ = some (.int .i64 e.1) := by exact hcS (j) _ he 0 _ rfl
                  have e_1 : X.cell? ⟨bS, offS + j * 2 + 1, none⟩ = some (.int .i64 e.2) := by exact hcS (j) _ he 1 _ rfl
                  have hbS2 : bS < X.heap.size + 1 := by omega
                  have HSc := Lib.hid hcS
                  have He := Lib.hid he
                  clear he hcS
                  obtain ⟨f, hf⟩ : ∃ el_, (q.2)[j]? = some el_ := ⟨_, List.getElem?_eq_getElem (by first | exact (by omega) | omega)⟩
                  obtain ⟨bT, offT, rfl, hbT, hcT⟩ := HT.out (j) _ hf
                  have f_0 : X.cell? ⟨bT, offT + j * 2, none⟩ = some (.int .i64 f.1) := by exact hcT (j) _ hf 0 _ rfl
                  have f_1 : X.cell? ⟨bT, offT + j * 2 + 1, none⟩ = some (.int .i64 f.2) := by exact hcT (j) _ hf 1 _ rfl
                  have hbT2 : bT < X.heap.size + 1 := by omega
                  have HTc := Lib.hid hcT
                  have Hf := Lib.hid hf
                  clear hf hcT
                  have hltq : j < q.2.length := by omega
                  go_wp2
                  ((refine wp_region_kinK (W := X) (by kernel_rfl) (by kernel_rfl) gRw ?_); (repeat' (first | go_big_quiet_step (fail) | ((refine wpQuiet_guard rfl rfl rfl rfl (fun hg => ?_) (fun hg => ?_)) <;> (fail_if_success (first | guard_hyp hg : true = true | guard_hyp hg : false = false)) <;> (try simp only [decide_eq_true_eq, decide_eq_false_iff_not] at hg) <;> simp only [Act.put, List.setIfInBounds_toArray, List.set_cons_zero, List.set_cons_succ]))); all_goals ((with_reducible refine wpQuiet_nil ?_); intro zq hz))
                  go_wp2
                  all_goals first
                    | (go_ret
                       have hne : e ≠ f := by simp_all [eqp_no]
                       exact ⟨ret_bool (ne_of_y Hr.out Hq.out (row_ne He.out Hf.out hne)), goR zq.2⟩)
                    | (go_roundw
                       case rel => exact ⟨j + 1, by omega, by go_num, take_eq2 He.out Hf.out hm2.out (by simp_all [eqp_iff]), zq, rfl⟩
                       case measure => simp [intOf]; omega)
                · have ej : j = r.2.length := by omega
                  have hrq : r = q := Prod.ext Hy.out (by have := hm2.out; rw [ej, List.take_length, Hrl.out, List.take_length] at this; exact this)
                  go_wp2
                  go_roundw
                  case rel => exact ⟨k + 1, by omega, by go_num, take_eq2 Hr.out Hq.out hm.out hrq, ⟨y.1, goZ y.2⟩, rfl⟩
                  case measure => simp [intOf]; omega
            · have hb1 : ((r.2.length : Int) != (q.2.length : Int)) = true := by simp; omega
              go_wp2
              go_ret
              exact ⟨ret_bool (ne_of_y Hr.out Hq.out (fun e => hrl (by rw [e]))), goR (Below.refl _ _)⟩
          · have hb1 : (r.1 != q.1) = true := by simp [hy]
            go_wp2
            go_ret
            exact ⟨ret_bool (ne_of_y Hr.out Hq.out (fun e => hy (by rw [e]))), goR (Below.refl _ _)⟩
      · go_wp2
        go_ret
        have : k = a.length := by omega
        refine ⟨ret_bool ?_, gRw⟩
        have h3 := hm.out
        rw [this, List.take_length, Hl.out, List.take_length] at h3
        rw [h3]; simp
  · have hl' : ((a.length : Int) != (b.length : Int)) = true := by simp; omega
    go_enter Tryz.func11, Tryz.ntmps11
    go_wp2
    go_ret
    refine ⟨ret_bool ?_, gRw⟩
    symm
    rw [decide_eq_false_iff_not]
    rintro rfl
    exact hl rfl
end Go.Proofs.YtneelidbgigehaaGreat
