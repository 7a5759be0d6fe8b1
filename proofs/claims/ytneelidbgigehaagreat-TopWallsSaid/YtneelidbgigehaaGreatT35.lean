/- Lemmas: WlkA AppFull MorphDil. -/
import Derived.Test.YtneelidbgigehaaGreatT24
import Derived.Test.YtneelidbgigehaaGreatT34
import Derived.Test.YtneelidbgigehaaGreatT26
import Derived.Test.YtneelidbgigehaaGreatT01
import Derived.Test.YtneelidbgigehaaGreatT33
/- A walk along each loop of the boundary: walked. -/
/- A walk along each loop of the boundary: walked. -/
namespace Go.Proofs.YtneelidbgigehaaGreat
set_option linter.unusedSimpArgs false
set_option linter.unusedVariables false
set_option maxRecDepth 100000
open Go Go.Maps Go.RowKit Trc Runs Reg
open Trk (Cl Tr)
attribute [local go_sem] Kin.cell Kin.frozen Kin.lt0 Kin.lt1 Kin.lt2 Kin.lt3 run_mkf
def trW (L : List Leg) : Tr := ((1, true), walkL L)
theorem far_apart {B : Nat} {u v : Value} {W : World} {base size n : Nat} {e : TypeId} {cs : List Value} {l : List Cl} (hu : W.ownsRow base e size u n cs) (hB : W.heap.size ≤ B) {W' : World} (hr : Rd 2 encPt W' v l) (hv : ∀ b, v.ownBlock = some b → B ≤ b) : l = [] ∨ v.ownBlock ≠ u.ownBlock := by
  rcases hr.blk_lt with h | ⟨b, hb, _⟩
  · exact .inl h
  · right
    intro e
    rw [hb] at e
    have h1 := (hu.lt b e.symm).2
    have h2 := hv b hb
    omega
set_option maxHeartbeats 16000000 in
theorem walkT_any (s : Value) (rows : List Reg.Row) (w : World) (h : RdRows w s rows) (hv : VReg rows) (hc : (ckR rows).length ≤ 32768) :
    Calls Tryz.prog 14 #[.agg #[s]] w fun e w' => (∃ u ts, e = .returned u ∧ Wal.WkL rows ts ∧ OwnTrs w.heap.size w' u ts) ∧ Below w.heap.size w w' := by
  obtain ⟨AS, capS, rfl, hcapS, _⟩ := rows_open h
  obtain ⟨nr, hnr⟩ : ∃ nr, rows.length = nr := ⟨_, rfl⟩
  rw [hnr] at h hcapS ⊢
  have HR := Lib.hid h
  have HV := Lib.hid hv
  have HC := Lib.hid hc
  have hc1 : (ckR rows).length ≤ 1000000 := by omega
  clear h hv hc hnr
  go_enter Tryz.func14, Tryz.ntmps14
  go_wp2_with fail
  obtain ⟨W1, hW1⟩ : ∃ W1, w.alloc (.cells #[.slice AS nr capS] 24) = W1 := ⟨_, rfl⟩
  have hb1 : Below w.heap.size w W1 := hW1 ▸ (Below.refl _ _).alloc (Nat.le_refl _) _
  have HR1 := Lib.hid (RdN.below HR.out hb1)
  have HB1 := Lib.hid hb1
  rw [hW1]
  clear hW1 hb1 HR
  (go_at_call 10; (with_reducible refine (Kin.callK (W := W1) gRw (trace_any (.slice AS nr capS) rows _ HR1.out HV.out hc1)).mono ?_); rintro e w' ⟨z2, ⟨u2, os, rfl, htr, hos⟩, hz2, rfl⟩; skip)
  obtain ⟨W2, hW2⟩ : ∃ W2, z2.1 = W2 := ⟨_, rfl⟩
  have hb2 := HB1.out.trans (z2.2.mono HB1.out.size)
  rw [hW2] at hos hb2 ⊢
  have HTR := Lib.hid htr
  obtain ⟨Ls, hLs, hLo, hperm⟩ := Wal.isTr_loops HV.out htr
  obtain ⟨A, capA, rfl, hcapA, hop⟩ := pols_open hos
  obtain ⟨n, hn⟩ : ∃ n, os.length = n := ⟨_, rfl⟩
  have HN := Lib.hid (show Ls.length = n by rw [← hn, hLs, List.length_map])
  have hlen := hperm.length_eq
  have hnb : n ≤ 32768 := by
    have h1 := Wal.flat_count (f := trail) (l := Ls) fun L hL => Wal.trail_pos (hLo L hL)
    have := HC.out
    have := HN.out
    omega
  have HLS := Lib.hid hLs
  have HLO := Lib.hid hLo
  have HPE := Lib.hid hperm
  have HOP := Lib.hid hop
  have HB2 := Lib.hid hb2
  rw [hn] at hcapA ⊢
  clear hW2 hz2 hb2 htr hos hLs hLo hperm hop hlen hn HR1 HB1
  go_wp2_with fail
  go_loopw [3, 10] (fun u i wr => ∃ k : Nat, k ≤ n ∧ i = .int .i64 k ∧ Hid (OwnTrs W2.heap.size wr u ((Ls.take k).map trW)) ∧ ∃ y : Kin W2, y.1 = wr) (fun _ i _ => n - (intOf i).toNat)
  case atStart => exact ⟨0, Nat.zero_le _, rfl, Lib.hid (by simpa using (OwnN.nil)), ⟨W2, Below.refl _ _⟩, rfl⟩
  case round =>
    obtain ⟨k, hk, rfl, HO, y, rfl⟩ := hrel
    obtain ⟨Au, cu, hu⟩ : ∃ Au cu, u3 = .slice Au k cu := by
      obtain ⟨hs0, hu0, hu1, _⟩ := HO.out
      obtain ⟨Au, cu, e⟩ := own_slc hu0
      have hl := hu1.1
      rw [List.length_map, List.length_take, HN.out] at hl
      rw [show hs0.length = k from by omega] at e
      exact ⟨Au, cu, e⟩
    subst hu
    by_cases hlt : k < n
    · obtain ⟨L, hL⟩ : ∃ L, Ls[k]? = some L := ⟨_, List.getElem?_eq_getElem (by rw [HN.out]; exact hlt)⟩
      have ho : os[k]? = some (L.map (·.1)) := by rw [HLS.out, List.getElem?_map, hL]; rfl
      obtain ⟨bA, offA, rfl, hbA, hcA⟩ := HOP.out k _ ho
      obtain ⟨S, cS, o_0, hcS, hrS⟩ := hcA k _ ho
      obtain ⟨m, hm⟩ : ∃ m, (L.map (·.1)).length = m := ⟨_, rfl⟩
      rw [hm] at o_0 hcS hrS
      have HRS := Lib.hid hrS
      have HLK := Lib.hid hL
      have hbA2 : bA < W2.heap.size + 1 := by omega
      have hLm := List.mem_of_getElem? hL
      have hloop := HLO.out L hLm
      have htl : (trail L).length ≤ 32768 := by
        have h1 := Wal.flat_len (f := trail) hLm
        have h2 := HPE.out.length_eq
        have := HC.out
        omega
      have hval := Trc.walkL_val hloop (Wal.cel_ok HV.out) htl
      obtain ⟨q, hq⟩ : ∃ q, (walkL L).length = q := ⟨_, rfl⟩
      have hq1 : q ≤ 65536 := by have := (Trk.tval_len hval.1).2.2; rw [← hq]; exact this
      have HQ := Lib.hid hq
      have HLP := Lib.hid hloop
      have HTL := Lib.hid (show (trail L).length ≤ 400000 by omega)
      clear hcA hrS hL ho hm hLm hloop htl hval hq
      go_wp2_with fail
      obtain ⟨W5, hW5⟩ : ∃ W5, y.1.alloc (.cells #[.slice S m cS] 53) = W5 := ⟨_, rfl⟩
      have hb5 : Below y.1.heap.size y.1 W5 := hW5 ▸ (Below.refl _ _).alloc (Nat.le_refl _) _
      have k5 : Below W2.heap.size W2 W5 := y.2.trans (hb5.mono y.2.size)
      have HO5 := Lib.hid (OwnN.below HO.out hb5)
      have HK5 := Lib.hid k5
      rw [hW5]
      clear hW5 hb5 k5
      (go_at_call 37; (refine (walk_any (cel rows) L (.slice S m cS) W5 (Rd.below HRS.out HK5.out) (Wal.cel_ok HV.out) HLP.out HTL.out).mono ?_); rintro e W6 ⟨⟨v, rfl, hfar, hrd⟩, hb6⟩)
      obtain ⟨A6, c6, rfl, hc6, _⟩ := hrd.open_
      rw [HQ.out] at hfar hrd hc6 ⊢
      obtain ⟨hs, ho1, ho2, ho3⟩ := HO5.out
      have hx6 := far_apart ho1 (Nat.le_refl _) hrd hfar
      have HX6 := Lib.hid hx6
      have HO6 := Lib.hid (own_below ho1 hb6)
      have HN6 := Lib.hid (ho2.below hb6)
      have HA6 := Lib.hid ho3
      have HRD6 := Lib.hid hrd
      have hk6 := HK5.out.trans (hb6.mono HK5.out.size)
      have HK6 := Lib.hid hk6
      have hsz6 := hk6.size
      have hhl : hs.length = k := by rw [ho2.1, List.length_map, List.length_take, HN.out]; omega
      have hhl2 : hs.length ≤ 1000000 := by omega
      clear hfar hrd hb6 ho1 ho2 ho3 hx6 hk6 HO5 HK5 HRS
      have hqi : (q : Int) ≤ 65536 := by omega
      go_wp2_with (at_builtin; refine Shut.out ?_)
      unfold Shut
      refine wpList_app _ rfl _ _ 35 rfl encTr_len (by decide) oneTr (W2.heap.size) 72 (.agg #[.int .i64 0, .bool false, .slice none 0 0]) 40 infoTr rfl Tryz.underlying35 _ _ _ _ rfl (HO6.out.alloc _) _ _ _ rfl (rd_one _ encTr_len _ (((1, true), (A6, q, c6)) : TrH) _ rfl) ?c1 (by decide) ?c2 ?_
      case c1 => (first | (simp only [List.length_append, List.length_cons, List.length_nil]; omega) | omega | (simp; omega))
      case c2 => exact lEw
      intro v1 w10 hown1 hg1 hbel1 hat1
      have g0 : Below W6.heap.size W6 (W6.alloc (.cells #[.int .i64 1, .bool true, .slice A6 q c6] 72)) := (Below.refl _ _).alloc (Nat.le_refl _) _
      have O10 := OwnN.snoc (x := trW L) (HN6.out.below g0) HA6.out hown1 hg1 hat1 (h := (((1, true), (A6, q, c6)) : TrH)) rfl (HRD6.out.below g0) HX6.out
      have HO10 := Lib.hid O10
      have HK10 := Lib.hid ((HK6.out.trans (g0.mono HK6.out.size)).trans hbel1)
      clear g0 O10 hown1 hg1 hbel1 hat1
      go_wp2_with fail
      refine ⟨⟨k + 1, by omega, by go_num, Lib.hid ?_, ⟨w10, HK10.out⟩, rfl⟩, by simp [intOf]; omega⟩
      have := HO10.out
      rw [List.take_add_one, HLK.out, Option.toList_some, List.map_append]
      exact this
    · have hkn : k = n := by omega
      subst hkn
      go_wp2_with fail
      go_ret
      have hO := HO.out
      rw [List.take_of_length_le (by rw [HN.out]; exact Nat.le_refl _)] at hO
      exact ⟨⟨_, _, rfl, ⟨Ls, HLS.out ▸ HTR.out, HLO.out, HPE.out, rfl⟩, OwnN.base_ hO HB2.out.size⟩, HB2.out.trans (y.2.mono HB2.out.size)⟩
end Go.Proofs.YtneelidbgigehaaGreat

/- append onto a slice that is full: a new row, or the slice itself. -/
namespace Go.Proofs.YtneelidbgigehaaGreat
set_option linter.unusedSimpArgs false
set_option linter.unusedVariables false
open Go.RowKit
theorem rd_new {α : Type} {size : Nat} {enc : α → List Value} (hk : ∀ x, (enc x).length = size) (w : World) (e : TypeId) (xs : List α) (cs : Array Value) (rest : List Value) (hc : cs.toList = xs.flatMap enc ++ rest) (cap n : Nat) (hn : n = xs.length) (hcap : n ≤ cap) :
    Rd size enc (w.alloc (.cells cs e)) (.slice (some ⟨w.heap.size, 0, none⟩) n cap) xs := by
  subst hn
  refine ⟨_, _, rfl, hcap, .inr ⟨w.heap.size, 0, rfl, by simp, fun i x hx j u hu => ?_⟩⟩
  have hfl : (xs.flatMap enc)[i * size + j]? = some u := flat_get hk xs i x hx j u hu
  have hcs : cs[i * size + j]? = some u := by
    rw [← Array.getElem?_toList, hc, List.getElem?_append_left (List.getElem?_eq_some_iff.1 hfl).1]
    exact hfl
  unfold World.cell?
  simp only [Nat.zero_add]
  rw [heap_alloc_new]
  simp [hcs]
theorem run_app_full {α : Type} {P : Program} {size : Nat} {enc : α → List Value} (w : World) (hk : ∀ x, (enc x).length = size) (hk0 : 0 < size) (t ty e : TypeId) (z : Value) (bytes : Nat)
    (hinfo : (P.info? e).map (fun i => (i.zero, i.size, i.bytes)) = some (some z, size, bytes)) (hzs : z.cells.size = size) (ht : P.underlying t = some (.slice e))
    (A : Option Addr) (n : Nat) (xs : List α) (hr0 : Rd size enc w (.slice A n n) xs) (B : Option Addr) (m c : Nat) (ys : List α) (hr : Rd size enc w (.slice B m c) ys)
    (hmax : n + m ≤ 1099511627776) (hbytes : bytes ≤ 128) :
    ∃ v' w', (Builtin.append_ #[t, t] ty #[.slice A n n, .slice B m c]).run P w = .ok v' w' ∧ Rd size enc w' v' (xs ++ ys) ∧ Below w.heap.size w w' := by
  obtain ⟨i0, hi, hz0, hz1, hz2⟩ := info_parts hinfo
  obtain ⟨rfl, hr0'⟩ := hr0.flat hk hk0
  obtain ⟨rfl, hr'⟩ := hr.flat hk hk0
  have hmul : (xs.length + ys.length) * bytes ≤ 140737488355328 := Nat.le_trans (Nat.mul_le_mul hmax hbytes) (by decide)
  have hzl : ∀ k, (Builtin.zeroCells z.cells k).toList = (Builtin.zeroCells z.cells k).toList := fun _ => rfl
  by_cases hm : ys.length = 0
  · have hy : ys = [] := List.eq_nil_of_length_eq_zero hm
    subst hy
    refine ⟨.slice A xs.length xs.length, w, ?_, by simpa using hr0, Below.refl _ _⟩
    rcases A with _ | a <;> rcases B with _ | b <;>
      simp [Builtin.append_, run_underlying ht, sizeOf, typeInfo, hi, Builtin.lenOf, Builtin.firstCells, storeCells, loadCells, loadCellsFrom]
  · rcases hr' with hr' | ⟨b', off', rfl, hcy⟩
    · rw [hr'] at hm; simp at hm
    have hly := flat_len hk ys
    rcases A with _ | a
    · skip
      have hx : xs = [] := by
        rcases hr0' with h | ⟨b, off, h, _⟩
        · exact h
        · cases h
      subst hx
      have hrun := run_append_nil (P := P) w t ty e i0 z ht hi hz0 ⟨b', off', none⟩ ys.length c (ys.flatMap enc) (by rw [hz1]; exact hly) hcy (by omega) (by simp at hmax; omega) (by rw [hz2]; simp at hmul; omega)
      refine ⟨_, _, hrun, ?_, (Below.refl _ _).drew.alloc (Nat.le_refl _) _⟩
      have := rd_new hk w.drew e ys ((ys.flatMap enc).toArray ++ Builtin.zeroCells z.cells (grownCap w ys.length 0 e - ys.length)) (Builtin.zeroCells z.cells (grownCap w ys.length 0 e - ys.length)).toList (by simp) (grownCap w ys.length 0 e) ys.length rfl (grownCap_ge w _ _ _)
      simpa using this
    · have hcx : ∀ j u, (xs.flatMap enc)[j]? = some u → w.cell? (a.add j) = some u := by
        rcases hr0' with h | ⟨b2, off2, h, hc⟩
        · subst h; intro j u hu; simp at hu
        · injection h with h; subst h; exact hc
      have hlx := flat_len hk xs
      have hrun := run_append_grow (P := P) w t ty e i0 z ht hi hz0 a xs.length xs.length (xs.flatMap enc) (by rw [hz1]; exact hlx) hcx ⟨b', off', none⟩ ys.length c (ys.flatMap enc) (by rw [hz1]; exact hly) hcy (by omega) (by omega) (by rw [hz2]; exact growslice_fits (by omega) hmul)
      refine ⟨_, _, hrun, ?_, (Below.refl _ _).drew.alloc (Nat.le_refl _) _⟩
      have := rd_new hk w.drew e (xs ++ ys) ((xs.flatMap enc).toArray ++ (ys.flatMap enc).toArray ++ Builtin.zeroCells z.cells (grownCap w (xs.length + ys.length) xs.length e - (xs.length + ys.length))) (Builtin.zeroCells z.cells (grownCap w (xs.length + ys.length) xs.length e - (xs.length + ys.length))).toList (by simp) (grownCap w (xs.length + ys.length) xs.length e) (xs.length + ys.length) (by simp) (grownCap_ge w _ _ _)
      simpa using this
theorem wpList_appfull {α : Type} {P : Program} {size : Nat} {enc : α → List Value} (w : World) {ops : Array Oper} {rest : List Oper} {o : Oper} {a : Act} {Q : Exit → Act → World → Prop} (hgd : o.guard = none) (s x : Operand) (t : TypeId)
    (ho : o.op = .call { callee := .builtin .append, args := #[s, x], argTypes := #[t, t] })
    (hk : ∀ x, (enc x).length = size) (hk0 : 0 < size) (e : TypeId) (z : Value) (bytes : Nat)
    (hinfo : (P.info? e).map (fun i => (i.zero, i.size, i.bytes)) = some (some z, size, bytes)) (hzs : z.cells.size = size) (ht : P.underlying t = some (.slice e))
    (A : Option Addr) (n : Nat) (hs : a.eval s = .slice A n n) (xs : List α) (hr0 : Rd size enc w (.slice A n n) xs) (B : Option Addr) (m c : Nat) (hx : a.eval x = .slice B m c) (ys : List α) (hr : Rd size enc w (.slice B m c) ys)
    (hmax : n + m ≤ 1099511627776) (hbytes : bytes ≤ 128)
    (h : ∀ v' w', Rd size enc w' v' (xs ++ ys) → Below w.heap.size w w' → wpList P ops Q rest (a.put o.dst v') w') : wpList P ops Q (o :: rest) a w := by
  obtain ⟨v', w', hrun, h1, h2⟩ := run_app_full (P := P) w hk hk0 t o.type e z bytes hinfo hzs ht A n xs hr0 B m c ys hr hmax hbytes
  refine wpList_plain hgd fun _ hK => ?_
  unfold Oper.wp execOp
  simp only [ho, resolve, invoke, builtin, Sem.run_bind, Sem.run_pure, Result.andThen_ok, List.map_toArray, List.map_cons, List.map_nil, hs, hx, hrun]
  exact hK _ _ (h v' w' h1 h2)
theorem nestAt_append {H α β : Type} {sl : H → Value} {tag : H → α → Prop} {k2 : Nat} {enc2 : β → List Value} {sub : α → List β} {W : World} {hs hs2 : List H} {xs ys : List α}
    (h1 : NestAt sl tag k2 enc2 sub W hs xs) (h2 : NestAt sl tag k2 enc2 sub W hs2 ys) : NestAt sl tag k2 enc2 sub W (hs ++ hs2) (xs ++ ys) :=
  ⟨by simp [h1.1, h2.1], fun i p y hp hy => by
    rcases Nat.lt_or_ge i hs.length with hlt | hge
    · rw [List.getElem?_append_left hlt] at hp
      rw [List.getElem?_append_left (by rw [← h1.1]; exact hlt)] at hy
      exact h1.2 i p y hp hy
    · rw [List.getElem?_append_right hge] at hp
      rw [List.getElem?_append_right (by rw [← h1.1]; exact hge), ← h1.1] at hy
      exact h2.2 _ p y hp hy⟩
end Go.Proofs.YtneelidbgigehaaGreat

/- What Dilate returns where there is nothing to dilate. -/
namespace Go.Proofs.YtneelidbgigehaaGreat
set_option linter.unusedSimpArgs false
set_option linter.unusedVariables false
open Go.RowKit Runs Reg
attribute [local go_sem] Kin.cell Kin.frozen Kin.lt0 Kin.lt1 Kin.lt2 Kin.lt3 run_mkf
theorem validM_is {b : Bool} (v : Value) (rows : List Reg.Row) (k : Int) (w : World) (h : RdReg w v rows) (hbd : RBd rows) (hb : (reachOk k && rvalid rows) = b) :
    Calls Tryz.prog 69 #[v, .int .i64 k] w fun e w' => e = .returned (.bool b) ∧ Below w.heap.size w w' := by subst hb; exact validM_any v rows k w h hbd
theorem run_mkmap (t : TypeId) (w : World) : (Instr.makeMap t none).run Tryz.prog w = .ok (.map (some w.heap.size)) (w.alloc (.map #[] 0)) := rfl
theorem run_storeF (a : Addr) (m : Mode) (fn : Fn) (first captured : Array Value) (w : World) : (store a (.func fn first captured) m).run Tryz.prog w = stored Tryz.prog w a (.func fn first captured) m := run_store Tryz.prog w a _ m rfl
attribute [local go_sem] run_mkmap run_storeF
/-- runs lie in another block than a map -/
theorem map_far {W : World} {v : Value} {l : List Run} {b n : Nat} {f : Int → Value} (h : Rd 2 encRun W v l) (hm : MapF W b n f) : l = [] ∨ v.ownBlock ≠ some b := by
  obtain ⟨D, ⟨es, clock, hb, _⟩, _⟩ := hm
  obtain ⟨A', cap, rfl, _, h⟩ := h
  rcases h with h | ⟨g, off, rfl, hlt, hcell⟩
  · exact .inl h
  rcases l with _ | ⟨r, l⟩
  · exact .inl rfl
  right
  intro e
  have e : g = b := by simpa [Value.ownBlock] using e
  subst e
  have h0 := hcell 0 r rfl 0 _ rfl
  simp [World.cell?, hb] at h0
theorem rwAt_take {rows : List Reg.Row} (h : VReg rows) {j : Nat} {r : Reg.Row} (hr : rows[j]? = some r) (y : Int) : rwAt (rows.take (j + 1)) y = if y = r.1 then r.2 else rwAt (rows.take j) y := by
  have hs := h.2
  obtain ⟨hj, rfl⟩ := List.getElem?_eq_some_iff.1 hr
  have e : rows.take (j + 1) = rows.take j ++ [rows[j]] := by rw [List.take_add_one, hr]; rfl
  rw [e]
  unfold rwAt
  rw [List.find?_append]
  by_cases hy : y = rows[j].1
  · rw [if_pos hy]
    have : (rows.take j).find? (fun w => w.1 == y) = none := by
      rw [List.find?_eq_none]
      intro w hw
      obtain ⟨i, hi, rfl⟩ := List.getElem_of_mem hw
      have hi2 : i < j := by simp at hi; omega
      have := List.pairwise_iff_getElem.1 hs i j (by omega) hj hi2
      simp [List.getElem_take, hy]
      omega
    rw [this, hy]
    simp
  · rw [if_neg hy]
    have : ([rows[j]] : List Reg.Row).find? (fun w => w.1 == y) = none := by simp; omega
    rw [this]
    simp
end Go.Proofs.YtneelidbgigehaaGreat
