/- Parts of the proof, joined: Contract of the reference: Apart. Conditions: a tidy graph; The law TypesApart returns true. Conditions: a tidy graph, lengths below 2^20. -/
import Derived.Test.YtldnjnnhfeobdaaGreatDoorB12
import Derived.Test.YtldnjnnhfeobdaaGreatDoorB13
import Derived.Test.YtldnjnnhfeobdaaGreatDoorB10
import Derived.Test.YtldnjnnhfeobdaaGreatDoorB8
namespace Go.Proofs.YtldnjnnhfeobdaaGreatDoor
set_option linter.all false
set_option linter.unusedSimpArgs false
set_option linter.unusedVariables false
open Go.RowKit Go.Shelf

theorem Own.one {α : Type} {F : Nat → Prop} {E : Elt α} {w : World} {base : Nat} {e : TypeId} {y : α} {news : List Value} (hb : base ≤ w.heap.size) (hy : E.rel F w y news) : Own F E (w.alloc (.cells news.toArray e)) base e (.slice (some ⟨w.heap.size, 0, none⟩) 1 1) [y] := by
  have hl := E.len _ _ _ _ hy
  refine ⟨[news], rfl, ⟨by simp [hl], .inr ⟨w.heap.size, 1, news.toArray, rfl, hb, heap_alloc_self _ _, Nat.le_refl _, by simp [maxLen], by simp [hl], by simp [hl, List.take_of_length_le]⟩⟩, fun i x r h1 h2 => ?_⟩
  cases i with
  | zero =>
    simp at h1 h2
    subst h1 h2
    refine E.mono _ _ _ _ _ _ (fun b _ hlt => Below.block ((Ext.refl w).alloc (.cells news.toArray e)) b hlt) (fun b hb hlt => ⟨hb, ?_⟩) hy
    simp [Value.ownBlock]
    omega
  | succ i => simp at h1
theorem Own.at {α : Type} {F : Nat → Prop} {E : Elt α} {w : World} {base : Nat} {e : TypeId} {v : Value} {xs : List α} {i : Nat} {x : α} (h : Own F E w base e v xs) (hi : xs[i]? = some x) :
    ∃ g cap r, v = .slice (some ⟨g, 0, none⟩) xs.length cap ∧ xs.length ≤ cap ∧ E.rel (fun b => F b ∧ some b ≠ v.ownBlock) w x r ∧ ∀ j u, r[j]? = some u → w.cell? ⟨g, i * E.k + j, none⟩ = some u := by
  obtain ⟨rows, hl, ho, hr⟩ := h
  have hk : ∀ r ∈ rows, r.length = E.k := by
    intro r hm
    obtain ⟨i, hi, rfl⟩ := List.mem_iff_getElem.1 hm
    exact E.len _ _ _ _ (hr i (xs[i]'(by omega)) rows[i] (List.getElem?_eq_getElem (by omega)) (List.getElem?_eq_getElem hi))
  have hlt : i < xs.length := (List.getElem?_eq_some_iff.1 hi).1
  rcases ho.2 with ⟨rfl, h0⟩ | ⟨g, cap, cur, rfl, hg, hrest⟩
  · omega
  · have hrow : rows[i]? = some (rows[i]'(by omega)) := List.getElem?_eq_getElem (by omega)
    refine ⟨g, cap, rows[i]'(by omega), rfl, hrest.2.1, hr i x _ hi hrow, fun j u hj => ?_⟩
    have hc := ho.cells (g := g) rfl (i * E.k + j) u (flatten_get rows hk i j _ u hrow hj)
    have ha : (⟨g, 0, none⟩ : Addr).add (i * E.k + j) = ⟨g, i * E.k + j, none⟩ := by unfold Addr.add; split <;> simp_all
    rwa [ha] at hc
theorem owns_ext {w w' : World} {base k n : Nat} {e : TypeId} {v : Value} {xs : List Value} (h : w.ownsRow base e k v n xs) (hx : Ext w w') : w'.ownsRow base e k v n xs :=
  h.kept (row := none) ⟨Below.os hx, Below.tape hx, Below.output hx, Below.size hx, fun k hk _ => Below.block hx k hk⟩ (by cases v.ownBlock <;> simp)
theorem pushN_len1 (way : List Nat) : ∀ ps k s o, (pushN way k ps s o).1.length ≤ s.length + ps.length
  | [], k, s, o => by simp [pushN]
  | p :: ps, k, s, o => by
    unfold pushN
    split
    · have := pushN_len1 way ps (k + 1) s o; simp; omega
    · have := pushN_len1 way ps (k + 1) (s ++ [p]) (o ++ [(p, way ++ [k])]); simp at this ⊢; omega
theorem Sl.natF {F : Nat → Prop} {w : World} {v : Value} {ns : List Nat} (h : SlF F intE w v (ns.map fun (n : Nat) => (n : Int))) : ∃ A cap, v = .slice A ns.length cap ∧
    ∀ i, i < ns.length → ∃ b off, A = some ⟨b, off, none⟩ ∧ F b ∧ w.cell? ⟨b, off + i, none⟩ = some (.int .i64 (ns.getD i 0 : Nat)) := by
  obtain ⟨A, cap, e, h⟩ := h
  rw [List.length_map] at e
  refine ⟨A, cap, e, fun i hi => ?_⟩
  obtain ⟨b, off, cs, hA, ⟨hF, _⟩, rfl, hc⟩ := h i (ns.getD i 0 : Nat) (by simp [List.getElem?_map, List.getD_eq_getElem?_getD, List.getElem?_eq_getElem hi])
  exact ⟨b, off, hA, hF, by simpa [intE] using hc 0 _ rfl⟩
theorem cell_kept {W W1 : World} {row : Option Nat} (hg : W.grownBy W1 row) {b o : Nat} {v : Value} (hc : W.cell? ⟨b, o, none⟩ = some v) (hne : some b ≠ row) : W1.cell? ⟨b, o, none⟩ = some v :=
  (World.cell?_of_block (hg.block b (cell_lt hc) hne)).trans hc
theorem flat_single : ∀ xs : List Int, (xs.map fun x => [Value.int .i64 x]).flatten = xs.map (Value.int .i64)
  | [] => rfl
  | x :: xs => by rw [List.map_cons, List.flatten_cons, flat_single xs]; rfl
theorem own_int_row {F : Nat → Prop} {w : World} {base : Nat} {v : Value} {xs : List Int} (h : Own F intE w base 3 v xs) : w.ownsRow base 3 1 v xs.length (xs.map (Value.int .i64)) := by
  obtain ⟨rows, hl, ho, hr⟩ := h
  have e : rows.flatten = xs.map (Value.int .i64) := by
    have : rows = xs.map fun x => [Value.int .i64 x] := by
      refine List.ext_getElem? fun i => ?_
      by_cases hi : i < xs.length
      · have h1 : rows[i]? = some (rows[i]'(by omega)) := List.getElem?_eq_getElem (by omega)
        have h2 := hr i _ _ (List.getElem?_eq_getElem hi) h1
        have h3 : rows[i]'(by omega) = [Value.int .i64 xs[i]] := h2
        rw [h1, h3, List.getElem?_map, List.getElem?_eq_getElem hi]; rfl
      · rw [List.getElem?_eq_none (by omega), List.getElem?_eq_none (by simp; omega)]
    rw [this]
    exact flat_single xs
  rw [← e]
  exact ho
set_option maxRecDepth 100000 in
set_option maxHeartbeats 32000000 in
theorem rapart_any (w : World) (gv : Value) (g : Graph) (a b : Int) (hg : Sl tyE w gv g) (hT : Tidy g) :
    Calls Tryz.prog 16 #[gv, .int .i64 a, .int .i64 b] w (ApartPost w (apartG g a b) (errG g [a, b])) := by
  have hop := rchecked_any (w.alloc (.cells #[.int .i64 a, .int .i64 b] 3)) gv _ g [a, b] (hg.mono ((Ext.refl w).alloc _)) hT (lit_ints w [a, b] 2 rfl) (by simp)
  have hn := hT.len
  have hty : ∀ i, i < g.length → TySmall (getT g i) := fun i hi => (hT.ty _ (getT_mem hi)).1
  obtain ⟨A, cap, rfl, hs⟩ := hg.ty
  have Hs := Lib.hid hs
  have Hty := Lib.hid hty
  clear hs hty
  unfold apartG
  by_cases h0 : errG g [a, b] = 0
  · rw [if_pos h0]
    rw [h0] at hop ⊢
    obtain ⟨hW, hab⟩ := errG_zero h0
    obtain ⟨a0, a1⟩ := hab a (by simp)
    obtain ⟨b0, b1⟩ := hab b (by simp)
    obtain ⟨i, rfl⟩ := Int.eq_ofNat_of_zero_le a0
    obtain ⟨j, rfl⟩ := Int.eq_ofNat_of_zero_le b0
    rw [Int.toNat_natCast, Int.toNat_natCast]
    have hi : i < g.length := by omega
    have hj : j < g.length := by omega
    have hsr := Srch.bare (wayN_srch hW.abs hi hj)
    have hinv := RInvA.init (ag := agN g) (rf := refsN g) hi hj
    generalize wayN (agN g) (refsN g) g.length i j = res at hsr ⊢
    have HI := Lib.hid hinv
    have Hsr := Lib.hid hsr
    have Hop := Lib.hid hop
    have HW := Lib.hid hW
    have Hrl := Lib.hid (fun (i : Nat) (hi : i < g.length) => (refsN_length g i).symm ▸ (hW.fine (getT_mem hi)).refs_le)
    clear hop hg hT h0 hab hW a0 a1 b0 b1 hsr hinv
    go_enter Tryz.func16, Tryz.ntmps16
    go_wp2_with fail
    refine Hop.out.mono ?_
    rintro e w1 ⟨rfl, hx1⟩
    have hxa := ((Ext.refl w).alloc (.cells #[.int .i64 i, .int .i64 j] 3)).trans hx1
    have Hst0 : Hid (SSt w ([] ++ [((i, j), [])]) [] (.slice (some ⟨w1.heap.size, 0, none⟩) 1 1) (.slice none 0 0) (w1.alloc (.cells #[.int .i64 (i : Int), .int .i64 (j : Int), .slice none 0 0] 88))) := by
      refine ⟨hxa.alloc _, ?_, Own.nil _ _ _ _ _, fun b _ e => by cases e⟩
      exact Own.one (E := spotE) (news := [.int .i64 (i : Int), .int .i64 (j : Int), .slice none 0 0]) (y := ((i, j), [])) hxa.size ⟨_, rfl, SlF.nil _ _ _⟩
    clear hx1 hxa
    go_wp2_with fail
    generalize w1.alloc (.cells #[.int .i64 (i : Int), .int .i64 (j : Int), .slice none 0 0] 88) = w2 at Hst0 ⊢
    generalize w1.heap.size = b2 at Hst0 ⊢
    go_loopw [10, 11, 12] (fun u10 u11 u12 wr => ∃ (dn o : List Spot) (S : List (Nat × Nat)), u12 = .int .i64 dn.length ∧ Hid (SSt w (dn ++ o) S u10 u11 wr) ∧ Hid (RInvA g.length (agN g) (refsN g) dn o S) ∧ Hid (Srch (agN g) (refsN g) S o res)) (fun _ _ u12 _ => 160002 - (intOf u12).toNat)
    case atStart => exact ⟨[], _, _, rfl, Hst0, HI, Hsr⟩
    case round =>
      clear Hst0 HI Hsr hi hj
      obtain ⟨dn, o, S, rfl, Hst, HI, Hsr⟩ := hrel
      obtain ⟨hbt, hbs⟩ := HI.out.bound HW.out.len
      obtain ⟨wo, rfl⟩ : ∃ wo : World, wo = wr := ⟨_, rfl⟩
      cases o with
      | nil =>
        have hres : res = none := by have := Hsr.out; cases this; rfl
        obtain ⟨At, ct, et⟩ := Hst.out.todo.len
        rw [List.append_nil] at et
        subst et
        have i1 : ¬ (dn.length : Int) < (dn.length : Int) := by omega
        subst hres
        clear hbt hbs
        go_wp2_with fail
        go_ret3
        exact ⟨_, rfl, Sl.nil _ _, Hst.out.ext⟩
      | cons x o =>
        obtain ⟨gq, capq, r, eT, hcq, hrel, hcell⟩ := Hst.out.todo.at (i := dn.length) (x := x) (by simp)
        obtain ⟨vw, rfl, hvw⟩ := hrel
        have c0 := hcell 0 _ rfl
        have c1 := hcell 1 _ rfl
        have c2 := hcell 2 _ rfl
        simp only [spotE, Nat.add_zero] at c0 c1 c2
        obtain ⟨hp, hq⟩ := HI.out.rng x (by simp)
        obtain ⟨NT, hNT⟩ : ∃ NT, (dn ++ x :: o).length = NT := ⟨_, rfl⟩
        have hlt : dn.length < NT := by rw [← hNT]; simp
        have hNT2 : NT ≤ 160001 := by rw [← hNT]; exact hbt
        have HNT := Lib.hid hNT
        rw [hNT] at eT
        subst eT
        have Hvw : Hid (SlF (Off (.slice (some ⟨gq, 0, none⟩) NT capq) u11) intE wo vw (x.2.map fun (n : Nat) => (n : Int))) := hvw.mono (fun _ _ _ => rfl) (fun b hb _ => ⟨hb.2, hb.1⟩)
        obtain ⟨Aw, cw, ew⟩ := hvw.any.len
        rw [List.length_map] at ew
        subst ew
        have i0 : (0 : Int) ≤ (dn.length : Int) := by omega
        have i1 : (dn.length : Int) < (NT : Int) := by omega
        have lq := cell_lt c0
        have hcq' : NT ≤ capq := by rw [hNT] at hcq; exact hcq
        have Hwl := Lib.hid (HI.out.le x (by simp))
        have Hbt := Lib.hid hbt
        have Hbs := Lib.hid hbs
        clear hvw hcell hcq hNT hbt hbs
        obtain ⟨⟨p, q⟩, way⟩ := x
        simp only [] at c0 c1 c2 hp hq Hvw Hwl HNT
        obtain ⟨gb, go, pvp, pvm, pvo, eAp, hatp, hofp⟩ := Hs.out p hp
        subst eAp
        obtain ⟨gb', go', qvp, qvm, qvo, eAq, hatq, hofq⟩ := Hs.out q hq
        cases eAq
        rw [← getT_lt hp] at hatp hofp
        rw [← getT_lt hq] at hatq hofq
        have Hagr := Lib.hid (fun w' (hx' : Ext w w') => ragree_any w' (getT g p) (getT g q) _ _ _ _ _ _ (Hty.out p hp) (Hty.out q hq) (hofp.mono hx') (hofq.mono hx'))
        have Hrp := Lib.hid (fun w' (hx' : Ext w w') => rrefs_any w' g.length (getT g p) _ _ _ (hofp.mono hx') (HW.out.fine (getT_mem hp)))
        have Hrq := Lib.hid (fun w' (hx' : Ext w w') => rrefs_any w' g.length (getT g q) _ _ _ (hofq.mono hx') (HW.out.fine (getT_mem hq)))
        rw [refsL_nat HW.out hp] at Hrp
        rw [refsL_nat HW.out hq] at Hrq
        have Had := Lib.hid (show agN g p q = agreeT (getT g p) (getT g q) from rfl)
        have HG := Lib.hid HW.out.abs
        generalize getT g p = s at *
        generalize getT g q = t at *
        obtain ⟨P1, p1, e1⟩ := hofp.parts.len
        obtain ⟨P2, p2, e2⟩ := hofp.methods.len
        obtain ⟨P3, p3, e3⟩ := hofp.overs.len
        subst e1 e2 e3
        obtain ⟨Q1, q1, e1⟩ := hofq.parts.len
        obtain ⟨Q2, q2, e2⟩ := hofq.methods.len
        obtain ⟨Q3, q3, e3⟩ := hofq.overs.len
        subst e1 e2 e3
        have HatP := Lib.hid hatp
        have HatQ := Lib.hid hatq
        have ip0 : (0 : Int) ≤ (p : Int) := by omega
        have ip1 : (p : Int) < (g.length : Int) := by omega
        have iq0 : (0 : Int) ≤ (q : Int) := by omega
        have iq1 : (q : Int) < (g.length : Int) := by omega
        have HrlP := Lib.hid (Hrl.out p hp)
        have HrlQ := Lib.hid (Hrl.out q hq)
        clear hatp hatq hofp hofq
        have hbx0 := heap_alloc_self wo (.cells #[.int .i64 (p : Int), .int .i64 (q : Int), .slice Aw way.length cw] 88)
        have Hbx0 := Lib.hid hbx0
        have hxa : Ext wo (wo.alloc (.cells #[.int .i64 (p : Int), .int .i64 (q : Int), .slice Aw way.length cw] 88)) := (Ext.refl wo).alloc _
        have Hxa := Lib.hid hxa
        have Hbl : Hid (w.heap.size ≤ wo.heap.size ∧ Off (.slice (some ⟨gq, 0, none⟩) NT capq) u11 wo.heap.size) := by
          refine ⟨Hst.out.ext.size, fun e => ?_, fun e => ?_⟩
          · have := (Hst.out.todo.lt _ e.symm).2; omega
          · have := (Hst.out.seen.lt _ e.symm).2; omega
        clear hbx0 hxa
        go_wp2_with fail
        generalize wo.alloc (.cells #[.int .i64 (p : Int), .int .i64 (q : Int), .slice Aw way.length cw] 88) = wb at Hxa Hbx0 ⊢
        generalize wo.heap.size = bx at Hbx0 Hbl ⊢
        clear c0 c1 c2 lq
        have Hxb := Lib.hid (Hst.out.ext.trans Hxa.out)
        obtain ⟨d0, d1, d2, d3, d4, d5, d6, d7, d8, d9⟩ := HatP.out.mono Hxb.out
        obtain ⟨f0, f1, f2, f3, f4, f5, f6, f7, f8, f9⟩ := HatQ.out.mono Hxb.out
        have ld := cell_lt d0
        have k0 := heap_cell Hbx0.out 0 _ rfl
        have k1 := heap_cell Hbx0.out 1 _ rfl
        have k2 := heap_cell Hbx0.out 2 _ rfl
        have lk := cell_lt k0
        cases ha : agN g p q with
        | false =>
          as_aux_lemma =>
            have hres : res = some way := by
              have h := Hsr.out
              cases h with
              | hit _ _ _ h => rfl
              | go _ _ _ _ h => rw [show agN g p q = true from h] at ha; cases ha
            subst hres
            rw [← Had.out, ha] at Hagr
            clear ha HI Hsr
            refine wp_region_X (by kernel_rfl) (by kernel_rfl) (fun w3 => Ext wb w3) ((Ext.refl _).drew) ?_
            refine X_want rfl ?_
            refine X_val (v := ?_) (fun w1 hC => ?_) ?_
            rotate_left
            · go_simp
              (first | done | exact rfl)
            simp only [Act.put, List.setIfInBounds_toArray, List.set_cons_zero, List.set_cons_succ]
            refine X_want rfl ?_
            refine X_val (v := ?_) (fun w1 hC => ?_) ?_
            rotate_left
            · go_simp
              (first | done | exact rfl)
            simp only [Act.put, List.setIfInBounds_toArray, List.set_cons_zero, List.set_cons_succ]
            refine X_want rfl ?_
            refine X_val (v := ?_) (fun w1 hC => ?_) ?_
            rotate_left
            · have q_d0 := hC.cell d0
              have q_d1 := hC.cell d1
              have q_d2 := hC.cell d2
              have q_d3 := hC.cell d3
              have q_d4 := hC.cell d4
              have q_d5 := hC.cell d5
              have q_d6 := hC.cell d6
              have q_d7 := hC.cell d7
              have q_d8 := hC.cell d8
              have q_d9 := hC.cell d9
              have q_f0 := hC.cell f0
              have q_f1 := hC.cell f1
              have q_f2 := hC.cell f2
              have q_f3 := hC.cell f3
              have q_f4 := hC.cell f4
              have q_f5 := hC.cell f5
              have q_f6 := hC.cell f6
              have q_f7 := hC.cell f7
              have q_f8 := hC.cell f8
              have q_f9 := hC.cell f9
              have q_k0 := hC.cell k0
              have q_k1 := hC.cell k1
              go_simp
              (first | done | exact rfl)
            simp only [Act.put, List.setIfInBounds_toArray, List.set_cons_zero, List.set_cons_succ]
            refine X_want rfl ?_
            refine X_val (v := ?_) (fun w1 hC => ?_) ?_
            rotate_left
            · go_simp
              (first | done | exact rfl)
            simp only [Act.put, List.setIfInBounds_toArray, List.set_cons_zero, List.set_cons_succ]
            refine X_want rfl ?_
            refine X_val (v := ?_) (fun w1 hC => ?_) ?_
            rotate_left
            · have q_d0 := hC.cell d0
              have q_d1 := hC.cell d1
              have q_d2 := hC.cell d2
              have q_d3 := hC.cell d3
              have q_d4 := hC.cell d4
              have q_d5 := hC.cell d5
              have q_d6 := hC.cell d6
              have q_d7 := hC.cell d7
              have q_d8 := hC.cell d8
              have q_d9 := hC.cell d9
              have q_f0 := hC.cell f0
              have q_f1 := hC.cell f1
              have q_f2 := hC.cell f2
              have q_f3 := hC.cell f3
              have q_f4 := hC.cell f4
              have q_f5 := hC.cell f5
              have q_f6 := hC.cell f6
              have q_f7 := hC.cell f7
              have q_f8 := hC.cell f8
              have q_f9 := hC.cell f9
              have q_k0 := hC.cell k0
              have q_k1 := hC.cell k1
              go_simp
              (first | done | exact rfl)
            simp only [Act.put, List.setIfInBounds_toArray, List.set_cons_zero, List.set_cons_succ]
            refine X_want rfl ?_
            refine X_val (v := ?_) (fun w1 hC => ?_) ?_
            rotate_left
            · go_simp
              (first | done | exact rfl)
            simp only [Act.put, List.setIfInBounds_toArray, List.set_cons_zero, List.set_cons_succ]
            refine X_want rfl ?_
            refine X_val (v := ?_) (fun w1 hC => ?_) ?_
            rotate_left
            · go_simp
              (first | done | exact rfl)
            simp only [Act.put, List.setIfInBounds_toArray, List.set_cons_zero, List.set_cons_succ]
            refine X_want rfl ?_
            refine X_val (v := ?_) (fun w1 hC => ?_) ?_
            rotate_left
            · have q_d0 := hC.cell d0
              have q_d1 := hC.cell d1
              have q_d2 := hC.cell d2
              have q_d3 := hC.cell d3
              have q_d4 := hC.cell d4
              have q_d5 := hC.cell d5
              have q_d6 := hC.cell d6
              have q_d7 := hC.cell d7
              have q_d8 := hC.cell d8
              have q_d9 := hC.cell d9
              have q_f0 := hC.cell f0
              have q_f1 := hC.cell f1
              have q_f2 := hC.cell f2
              have q_f3 := hC.cell f3
              have q_f4 := hC.cell f4
              have q_f5 := hC.cell f5
              have q_f6 := hC.cell f6
              have q_f7 := hC.cell f7
              have q_f8 := hC.cell f8
              have q_f9 := hC.cell f9
              have q_k0 := hC.cell k0
              have q_k1 := hC.cell k1
              go_simp
              (first | done | exact rfl)
            simp only [Act.put, List.setIfInBounds_toArray, List.set_cons_zero, List.set_cons_succ]
            refine X_want rfl ?_
            refine X_val (v := ?_) (fun w1 hC => ?_) ?_
            rotate_left
            · go_simp
              (first | done | exact rfl)
            simp only [Act.put, List.setIfInBounds_toArray, List.set_cons_zero, List.set_cons_succ]
            refine X_want rfl ?_
            refine X_val (v := ?_) (fun w1 hC => ?_) ?_
            rotate_left
            · have q_d0 := hC.cell d0
              have q_d1 := hC.cell d1
              have q_d2 := hC.cell d2
              have q_d3 := hC.cell d3
              have q_d4 := hC.cell d4
              have q_d5 := hC.cell d5
              have q_d6 := hC.cell d6
              have q_d7 := hC.cell d7
              have q_d8 := hC.cell d8
              have q_d9 := hC.cell d9
              have q_f0 := hC.cell f0
              have q_f1 := hC.cell f1
              have q_f2 := hC.cell f2
              have q_f3 := hC.cell f3
              have q_f4 := hC.cell f4
              have q_f5 := hC.cell f5
              have q_f6 := hC.cell f6
              have q_f7 := hC.cell f7
              have q_f8 := hC.cell f8
              have q_f9 := hC.cell f9
              have q_k0 := hC.cell k0
              have q_k1 := hC.cell k1
              go_simp
              (first | done | exact rfl)
            simp only [Act.put, List.setIfInBounds_toArray, List.set_cons_zero, List.set_cons_succ]
            refine X_want rfl ?_
            refine X_call (v := .bool false) (f := 41) (args := #[.agg #[.int .u8 s.kind, .int .i64 s.low, .int .i64 s.high, .bool s.branded, .string s.brand, .string s.opaq, .int .i64 s.super, .slice P1 s.parts.length p1, .slice P2 s.methods.length p2, .slice P3 s.overs.length p3], .agg #[.int .u8 t.kind, .int .i64 t.low, .int .i64 t.high, .bool t.branded, .string t.brand, .string t.opaq, .int .i64 t.super, .slice Q1 t.parts.length q1, .slice Q2 t.methods.length q2, .slice Q3 t.overs.length q3]]) (fun w1 => ?_) (fun w1 hC => (Hagr.out w1 (Hxb.out.trans hC)).mono fun e w2 ⟨he, hx⟩ => ⟨he, hC.trans hx⟩) ?_
            · go_simp
            simp only [Act.put, List.setIfInBounds_toArray, List.set_cons_zero, List.set_cons_succ]
            refine X_want rfl ?_
            refine X_val (v := ?_) (fun w1 hC => ?_) ?_
            rotate_left
            · go_simp
              (first | done | exact rfl)
            simp only [Act.put, List.setIfInBounds_toArray, List.set_cons_zero, List.set_cons_succ]
            refine wpQuiet_nil ?_
            intro w3 hxd
            replace k2 := hxd.cell k2
            replace lk := cell_lt k2
            clear d0 d1 d2 d3 d4 d5 d6 d7 d8 d9 ld f0 f1 f2 f3 f4 f5 f6 f7 f8 f9 k0 k1
            go_wp2_with fail
            go_ret3
            exact ⟨_, rfl, (Hvw.out.ext (Hxa.out.trans hxd)).any, Hxb.out.trans hxd⟩
        | true =>
          have hI2 := HI.out.step HG.out
          have hS2 : Srch (agN g) (refsN g) (pushN way 0 (kidsN (refsN g) (p, q)) S o).1 (pushN way 0 (kidsN (refsN g) (p, q)) S o).2 res := by
            have h := Hsr.out
            cases h with
            | hit _ _ _ h => rw [show agN g p q = false from h] at ha; cases ha
            | go _ _ _ _ _ h => exact h
          have HI2 := Lib.hid hI2
          have HS2 := Lib.hid hS2
          have Hlen := Lib.hid (HG.out.len p q hp hq ha)
          rw [← Had.out, ha] at Hagr
          clear ha HI Hsr hI2 hS2
          refine wp_region_X (by kernel_rfl) (by kernel_rfl) (fun w3 => Ext wb w3) ((Ext.refl _).drew) ?_
          refine X_want rfl ?_
          refine X_val (v := ?_) (fun w1 hC => ?_) ?_
          rotate_left
          · go_simp
            (first | done | exact rfl)
          simp only [Act.put, List.setIfInBounds_toArray, List.set_cons_zero, List.set_cons_succ]
          refine X_want rfl ?_
          refine X_val (v := ?_) (fun w1 hC => ?_) ?_
          rotate_left
          · go_simp
            (first | done | exact rfl)
          simp only [Act.put, List.setIfInBounds_toArray, List.set_cons_zero, List.set_cons_succ]
          refine X_want rfl ?_
          refine X_val (v := ?_) (fun w1 hC => ?_) ?_
          rotate_left
          · have q_d0 := hC.cell d0
            have q_d1 := hC.cell d1
            have q_d2 := hC.cell d2
            have q_d3 := hC.cell d3
            have q_d4 := hC.cell d4
            have q_d5 := hC.cell d5
            have q_d6 := hC.cell d6
            have q_d7 := hC.cell d7
            have q_d8 := hC.cell d8
            have q_d9 := hC.cell d9
            have q_f0 := hC.cell f0
            have q_f1 := hC.cell f1
            have q_f2 := hC.cell f2
            have q_f3 := hC.cell f3
            have q_f4 := hC.cell f4
            have q_f5 := hC.cell f5
            have q_f6 := hC.cell f6
            have q_f7 := hC.cell f7
            have q_f8 := hC.cell f8
            have q_f9 := hC.cell f9
            have q_k0 := hC.cell k0
            have q_k1 := hC.cell k1
            go_simp
            (first | done | exact rfl)
          simp only [Act.put, List.setIfInBounds_toArray, List.set_cons_zero, List.set_cons_succ]
          refine X_want rfl ?_
          refine X_val (v := ?_) (fun w1 hC => ?_) ?_
          rotate_left
          · go_simp
            (first | done | exact rfl)
          simp only [Act.put, List.setIfInBounds_toArray, List.set_cons_zero, List.set_cons_succ]
          refine X_want rfl ?_
          refine X_val (v := ?_) (fun w1 hC => ?_) ?_
          rotate_left
          · have q_d0 := hC.cell d0
            have q_d1 := hC.cell d1
            have q_d2 := hC.cell d2
            have q_d3 := hC.cell d3
            have q_d4 := hC.cell d4
            have q_d5 := hC.cell d5
            have q_d6 := hC.cell d6
            have q_d7 := hC.cell d7
            have q_d8 := hC.cell d8
            have q_d9 := hC.cell d9
            have q_f0 := hC.cell f0
            have q_f1 := hC.cell f1
            have q_f2 := hC.cell f2
            have q_f3 := hC.cell f3
            have q_f4 := hC.cell f4
            have q_f5 := hC.cell f5
            have q_f6 := hC.cell f6
            have q_f7 := hC.cell f7
            have q_f8 := hC.cell f8
            have q_f9 := hC.cell f9
            have q_k0 := hC.cell k0
            have q_k1 := hC.cell k1
            go_simp
            (first | done | exact rfl)
          simp only [Act.put, List.setIfInBounds_toArray, List.set_cons_zero, List.set_cons_succ]
          refine X_want rfl ?_
          refine X_val (v := ?_) (fun w1 hC => ?_) ?_
          rotate_left
          · go_simp
            (first | done | exact rfl)
          simp only [Act.put, List.setIfInBounds_toArray, List.set_cons_zero, List.set_cons_succ]
          refine X_want rfl ?_
          refine X_val (v := ?_) (fun w1 hC => ?_) ?_
          rotate_left
          · go_simp
            (first | done | exact rfl)
          simp only [Act.put, List.setIfInBounds_toArray, List.set_cons_zero, List.set_cons_succ]
          refine X_want rfl ?_
          refine X_val (v := ?_) (fun w1 hC => ?_) ?_
          rotate_left
          · have q_d0 := hC.cell d0
            have q_d1 := hC.cell d1
            have q_d2 := hC.cell d2
            have q_d3 := hC.cell d3
            have q_d4 := hC.cell d4
            have q_d5 := hC.cell d5
            have q_d6 := hC.cell d6
            have q_d7 := hC.cell d7
            have q_d8 := hC.cell d8
            have q_d9 := hC.cell d9
            have q_f0 := hC.cell f0
            have q_f1 := hC.cell f1
            have q_f2 := hC.cell f2
            have q_f3 := hC.cell f3
            have q_f4 := hC.cell f4
            have q_f5 := hC.cell f5
            have q_f6 := hC.cell f6
            have q_f7 := hC.cell f7
            have q_f8 := hC.cell f8
            have q_f9 := hC.cell f9
            have q_k0 := hC.cell k0
            have q_k1 := hC.cell k1
            go_simp
            (first | done | exact rfl)
          simp only [Act.put, List.setIfInBounds_toArray, List.set_cons_zero, List.set_cons_succ]
          refine X_want rfl ?_
          refine X_val (v := ?_) (fun w1 hC => ?_) ?_
          rotate_left
          · go_simp
            (first | done | exact rfl)
          simp only [Act.put, List.setIfInBounds_toArray, List.set_cons_zero, List.set_cons_succ]
          refine X_want rfl ?_
          refine X_val (v := ?_) (fun w1 hC => ?_) ?_
          rotate_left
          · have q_d0 := hC.cell d0
            have q_d1 := hC.cell d1
            have q_d2 := hC.cell d2
            have q_d3 := hC.cell d3
            have q_d4 := hC.cell d4
            have q_d5 := hC.cell d5
            have q_d6 := hC.cell d6
            have q_d7 := hC.cell d7
            have q_d8 := hC.cell d8
            have q_d9 := hC.cell d9
            have q_f0 := hC.cell f0
            have q_f1 := hC.cell f1
            have q_f2 := hC.cell f2
            have q_f3 := hC.cell f3
            have q_f4 := hC.cell f4
            have q_f5 := hC.cell f5
            have q_f6 := hC.cell f6
            have q_f7 := hC.cell f7
            have q_f8 := hC.cell f8
            have q_f9 := hC.cell f9
            have q_k0 := hC.cell k0
            have q_k1 := hC.cell k1
            go_simp
            (first | done | exact rfl)
          simp only [Act.put, List.setIfInBounds_toArray, List.set_cons_zero, List.set_cons_succ]
          refine X_want rfl ?_
          refine X_call (v := .bool true) (f := 41) (args := #[.agg #[.int .u8 s.kind, .int .i64 s.low, .int .i64 s.high, .bool s.branded, .string s.brand, .string s.opaq, .int .i64 s.super, .slice P1 s.parts.length p1, .slice P2 s.methods.length p2, .slice P3 s.overs.length p3], .agg #[.int .u8 t.kind, .int .i64 t.low, .int .i64 t.high, .bool t.branded, .string t.brand, .string t.opaq, .int .i64 t.super, .slice Q1 t.parts.length q1, .slice Q2 t.methods.length q2, .slice Q3 t.overs.length q3]]) (fun w1 => ?_) (fun w1 hC => (Hagr.out w1 (Hxb.out.trans hC)).mono fun e w2 ⟨he, hx⟩ => ⟨he, hC.trans hx⟩) ?_
          · go_simp
          simp only [Act.put, List.setIfInBounds_toArray, List.set_cons_zero, List.set_cons_succ]
          refine X_want rfl ?_
          refine X_val (v := ?_) (fun w1 hC => ?_) ?_
          rotate_left
          · go_simp
            (first | done | exact rfl)
          simp only [Act.put, List.setIfInBounds_toArray, List.set_cons_zero, List.set_cons_succ]
          refine wpQuiet_nil ?_
          intro w3 hxd
          have Hx3 := Lib.hid (Hxa.out.trans hxd)
          have Hbx3 := Lib.hid (hxd.heap Hbx0.out)
          clear d0 d1 d2 d3 d4 d5 d6 d7 d8 d9 ld f0 f1 f2 f3 f4 f5 f6 f7 f8 f9 k0 k1 k2 lk hxd
          have k0 := heap_cell Hbx3.out 0 _ rfl
          have k1 := heap_cell Hbx3.out 1 _ rfl
          have lk := cell_lt k0
          obtain ⟨d0, d1, d2, d3, d4, d5, d6, d7, d8, d9⟩ := HatP.out.mono (Hst.out.ext.trans Hx3.out)
          have ld := cell_lt d0
          go_wp2_with fail
          refine (Hrp.out _ (Hst.out.ext.trans Hx3.out)).mono ?_
          rintro e w4 ⟨va, rfl, hva, hx4⟩
          have Hx4 := Lib.hid (Hx3.out.trans hx4)
          have Hbx4 := Lib.hid (hx4.heap Hbx3.out)
          have Hva := Lib.hid hva
          obtain ⟨Aa, ca, ea⟩ := hva.any.len
          rw [List.length_map] at ea
          subst ea
          clear d0 d1 d2 d3 d4 d5 d6 d7 d8 d9 ld hva hx4 k0 k1 lk
          have k0 := heap_cell Hbx4.out 0 _ rfl
          have k1 := heap_cell Hbx4.out 1 _ rfl
          have lk := cell_lt k0
          obtain ⟨f0, f1, f2, f3, f4, f5, f6, f7, f8, f9⟩ := HatQ.out.mono (Hst.out.ext.trans Hx4.out)
          have lf := cell_lt f0
          go_wp2_with fail
          refine (Hrq.out _ (Hst.out.ext.trans Hx4.out)).mono ?_
          rintro e w5 ⟨vb, rfl, hvb, hx5⟩
          obtain ⟨Ab, cbb, eb⟩ := hvb.any.len
          rw [List.length_map] at eb
          subst eb
          have hst5 : USt w bx ((p, q), way) (refsN g p) (refsN g q) (.slice Aw way.length cw) (.slice Aa (refsN g p).length ca) (.slice Ab (refsN g q).length cbb) (dn ++ ((p, q), way) :: o) S (.slice (some ⟨gq, 0, none⟩) NT capq) u11 w5 := by
            have hx := Hx4.out.trans hx5
            have hlt1 := fun b e => (Hst.out.todo.lt b e).2
            have hlt2 := fun b e => (Hst.out.seen.lt b e).2
            have hs3 := Hx3.out.size
            have hs4 := Hx4.out.size
            have hne : ∀ b : Nat, wo.heap.size ≤ b → Off (.slice (some ⟨gq, 0, none⟩) NT capq) u11 b := fun b hb => ⟨fun e => by have := hlt1 b e.symm; omega, fun e => by have := hlt2 b e.symm; omega⟩
            refine ⟨Hst.out.later hx, hx5.heap Hbx4.out, Hvw.out.ext hx, ?_, ?_, Hbl.out⟩
            · exact (Hva.out.ext hx5).mono (fun _ _ _ => rfl) (fun b hb _ => hne b (by unfold New at hb; omega))
            · exact hvb.mono (fun _ _ _ => rfl) (fun b hb _ => hne b (by unfold New at hb; omega))
          have Hst5 := Lib.hid hst5
          clear hst5 hvb hx5 f0 f1 f2 f3 f4 f5 f6 f7 f8 f9 lf k0 k1 lk Hva Hx3 Hx4 Hbx3 Hbx4 Hbx0 Hbl Hxa Hxb Hvw
          go_wp2_with fail
          have hrl : (refsN g p).length ≤ 65 := HrlP.out
          have hkl : (kidsN (refsN g) (p, q)).length = (refsN g p).length := by unfold kidsN; rw [List.length_zip]; have h := Hlen.out; show min (refsN g p).length (refsN g q).length = (refsN g p).length; rw [← h]; exact Nat.min_self _
          have Hkl := Lib.hid hkl
          clear hkl
          go_loopw [10, 11, 16] (fun v10 v11 u wr2 => ∃ k : Nat, k ≤ (refsN g p).length ∧ u = .int .i64 k ∧ Hid (USt w bx ((p, q), way) (refsN g p) (refsN g q) (.slice Aw way.length cw) (.slice Aa (refsN g p).length ca) (.slice Ab (refsN g q).length cbb) (dn ++ ((p, q), way) :: (pushN way 0 ((kidsN (refsN g) (p, q)).take k) S o).2) (pushN way 0 ((kidsN (refsN g) (p, q)).take k) S o).1 v10 v11 wr2)) (fun _ _ u _ => (refsN g p).length - (intOf u).toNat)
          case atStart => exact ⟨0, by omega, rfl, Hst5⟩
          case round =>
            clear Hst5
            obtain ⟨k, hk, rfl, Hb⟩ := hrel
            by_cases hlt : k < (refsN g p).length
            · have hk2 : k < (kidsN (refsN g) (p, q)).length := by rw [Hkl.out]; exact hlt
              have hlq : k < (refsN g q).length := by have := Hlen.out; omega
              have hpk : (kidsN (refsN g) (p, q))[k] = ((refsN g p).getD k 0, (refsN g q).getD k 0) := by
                simp [kidsN, List.getD_eq_getElem?_getD, List.getElem?_eq_getElem hlt, List.getElem?_eq_getElem hlq]
              have hstep := pushN_snoc way (kidsN (refsN g) (p, q))[k] ((kidsN (refsN g) (p, q)).take k) 0 S o
              rw [take_one _ k hk2, List.length_take, Nat.min_eq_left (by omega), Nat.zero_add, hpk] at hstep
              obtain ⟨Aa', ca', ea, hsa⟩ := Sl.natF Hb.out.la
              obtain ⟨Ab', cb', eb, hsb⟩ := Sl.natF Hb.out.lb
              obtain ⟨ba, oa, rfl, offa, ka⟩ := hsa k hlt
              obtain ⟨bb, ob, rfl, offb, kb⟩ := hsb k hlq
              simp only [Value.slice.injEq] at ea eb
              obtain ⟨rfl, _, rfl⟩ := ea
              obtain ⟨rfl, _, rfl⟩ := eb
              have la := cell_lt ka
              have lb := cell_lt kb
              have hlen1 := pushN_len1 way ((kidsN (refsN g) (p, q)).take k) 0 S o
              have hlen2 := pushN_len way ((kidsN (refsN g) (p, q)).take k) 0 S o
              rw [List.length_take] at hlen1 hlen2
              generalize hso : pushN way 0 ((kidsN (refsN g) (p, q)).take k) S o = so at Hb hstep hlen1 hlen2 ⊢
              obtain ⟨sk, ok⟩ := so
              have Hso := Lib.hid hso
              clear hso
              simp only [] at Hb hstep hlen1 hlen2
              generalize (refsN g p).getD k 0 = ra at *
              generalize (refsN g q).getD k 0 = rb at *
              have hk0 : (0 : Int) ≤ (k : Int) := by omega
              have hk1 : (k : Int) < ((refsN g p).length : Int) := by omega
              have hk3 : (k : Int) < ((refsN g q).length : Int) := by omega
              have hskl : sk.length ≤ 160065 := by have := Hbs.out; omega
              have hTl : (dn ++ ((p, q), way) :: ok).length ≤ 160066 := by have h := Hbt.out; simp at h ⊢; omega
              have hwl : way.length ≤ 160001 := by have h := Hbt.out; have h2 := Hwl.out; simp at h; omega
              obtain ⟨As, cs, es⟩ := Hb.out.st.seen.len
              rw [List.length_map] at es
              have hpd := fun n => paired_any (wr.drewN n) u11 (sk.map castP) (ra : Int) (rb : Int) (((Hb.out.st.seen.sl (fun _ _ => trivial)).any).mono ((Ext.refl _).drewN n)) (by rw [List.length_map]; omega)
              rw [show decide (((ra : Int), (rb : Int)) ∈ sk.map castP) = decide ((ra, rb) ∈ sk) from decide_eq_decide.2 (castP_mem (p := (ra, rb)))] at hpd
              subst es
              have Hpd := Lib.hid hpd
              clear hsa hsb hpk hpd hlen1 hlen2
              by_cases hin : (ra, rb) ∈ sk
              · rw [if_pos hin] at hstep
                rw [decide_eq_true hin] at Hpd
                have Hstep := Lib.hid hstep
                clear hstep hin
                go_wp2_with fail
                go_quiet ((go_at_call 58; exact Calls.quiet_of_same (Hpd.out _)))
                go_wp2_with fail
                go_roundw
                case rel => exact ⟨k + 1, by omega, by go_num, by rw [Hstep.out]; exact Lib.hid (Hb.out.later ((Ext.refl _).drewN _))⟩
                case measure => simp [intOf]; omega
              · rw [if_neg hin] at hstep
                rw [decide_eq_false hin] at Hpd
                have Hstep := Lib.hid hstep
                clear hstep hin
                go_wp2_with fail
                go_quiet ((go_at_call 58; exact Calls.quiet_of_same (Hpd.out _)))
                go_wp2_with fail
                generalize hwq : wr.drewN _ = wq
                have hxq : Ext wr wq := by rw [← hwq]; exact (Ext.refl _).drewN _
                have Hbq := Lib.hid (Hb.out.later hxq)
                replace ka := hxq.cell ka
                replace kb := hxq.cell kb
                clear hwq
                have HS := Lib.hid (show ∀ w', Ext wq w' → w'.cell? ⟨ba, oa + k, none⟩ = some (.int .i64 (ra : Int)) ∧ w'.cell? ⟨bb, ob + k, none⟩ = some (.int .i64 (rb : Int)) from fun w' h => ⟨h.cell ka, h.cell kb⟩)
                obtain ⟨rows, hrl2, hown, hrr⟩ := Hbq.out.st.seen
                rw [List.length_map] at hown
                obtain ⟨i61, z61, hi61, hz61, hs61, hb61, hc61⟩ := slice56.info
                have hbase : w.heap.size ≤ wq.heap.size := Hbq.out.st.ext.size
                have Hrl2 := Lib.hid hrl2
                have Hown := Lib.hid hown
                have Hrr := Lib.hid hrr
                have Hi61 := Lib.hid hi61
                have Hz61 := Lib.hid hz61
                have Hs61 := Lib.hid hs61
                have Hb61 := Lib.hid hb61
                have Hc61 := Lib.hid hc61
                have Hoff := Lib.hid (show Off u10 (.slice As sk.length cs) ba ∧ Off u10 (.slice As sk.length cs) bb from ⟨offa, offb⟩)
                have Hka := Lib.hid ka
                have Hkb := Lib.hid kb
                clear hrl2 hown hrr hi61 hz61 hs61 hb61 hc61 Hpd Hb ka kb la lb offa offb hxq
                go_region_held3 (fun w' => w'.cell? ⟨ba, oa + k, none⟩ = some (.int .i64 (ra : Int)) ∧ w'.cell? ⟨bb, ob + k, none⟩ = some (.int .i64 (rb : Int)))
                  (first | exact HS.out _ (Ext.refl _).drew | exact HS.out _ ((Ext.refl _).drew.alloc _) | exact hS5)
                  ((refine step_append_own (by rfl) _ _ 56 (by rfl) w.heap.size 2 61 i61 z61 16 Tryz.underlying56 Hi61.out Hz61.out Hs61.out Hb61.out Hc61.out (by decide) _ _ rows.flatten (by rfl) (owns_ext Hown.out ((Ext.refl wq).drew.alloc _)) (by simp; omega) ⟨wq.heap.size, 0, none⟩ 1 [.int .i64 (ra : Int), .int .i64 (rb : Int)] (by rfl) (by rfl) (World.news_of_block (cs := #[.int .i64 (ra : Int), .int .i64 (rb : Int)]) (t := 61) (fr := (0, 0)) (heap_alloc_new wq.drew _)) (by simp [Value.oneCell']) (by simp only [maxLen]; omega) (by omega) ?_; intro v5 w6 hq6 hg6 hat6; have hS5 : w6.cell? ⟨ba, oa + k, none⟩ = some (.int .i64 (ra : Int)) ∧ w6.cell? ⟨bb, ob + k, none⟩ = some (.int .i64 (rb : Int)) := ⟨cell_kept hg6 (((Ext.refl wq).drew.alloc _).cell Hka.out) Hoff.out.1.2, cell_kept hg6 (((Ext.refl wq).drew.alloc _).cell Hkb.out) Hoff.out.2.2⟩))
                all_goals
                  have hb6 := Hbq.out.see (p := (ra, rb)) Hrl2.out Hrr.out ((Ext.refl wq).drew.alloc _) (by rw [List.length_map]; exact hq6) hg6 hat6
                  have Hb6 := Lib.hid hb6
                  have hS6 := hS5
                  clear hS5 hq6 hg6 hat6 hb6
                  have kx2 := heap_cell Hb6.out.box 2 _ rfl
                  have lx2 := cell_lt kx2
                  have Hway := Lib.hid ((Hb6.out.way.any).mono ((Ext.refl w6).alloc (.cells #[] 3)))
                  go_wp2_with (at_builtin; refine own_append_any (F := Any) intE flat_int w6.heap.size rfl (.tmp 95) (.tmp 97) 24 3 8 rfl slice24 _ _ [] (way.map fun (n : Nat) => (n : Int)) rfl rfl (Own.made _ _ _ _ _ (Nat.le_refl _)) Hway.out (by simp) (by simp; omega) (by decide) ?_; intro v7 w7 hown7 hg7)
                  have hx7 : Ext w6 w7 := Below.grown ((Ext.refl w6).alloc _) hg7 (by simp) (fun k hk => by cases hk; exact Nat.le_refl _)
                  have hrow7 := own_int_row hown7
                  rw [List.nil_append, List.length_map] at hrow7
                  have Hrow7 := Lib.hid hrow7
                  have Hx7 := Lib.hid hx7
                  have hka6 := (show w6.cell? ⟨ba, oa + k, none⟩ = some (.int .i64 (ra : Int)) ∧ w6.cell? ⟨bb, ob + k, none⟩ = some (.int .i64 (rb : Int)) from ⟨hS6.1, hS6.2⟩)
                  have HS7 := Lib.hid (show ∀ w', Ext w6 w' → w'.cell? ⟨ba, oa + k, none⟩ = some (.int .i64 (ra : Int)) ∧ w'.cell? ⟨bb, ob + k, none⟩ = some (.int .i64 (rb : Int)) from fun w' h => ⟨h.cell hka6.1, h.cell hka6.2⟩)
                  obtain ⟨rowsT, hrlT, hownT, hrrT⟩ := Hb6.out.st.todo
                  obtain ⟨i3, hi3, hz3, hs3, hb3⟩ := info_parts infoI
                  obtain ⟨i88, z88, hi88, hz88, hs88, hb88, hc88⟩ := slice89.info
                  have hbase6 : w.heap.size ≤ w6.heap.size := Hb6.out.st.ext.size
                  have HrlT := Lib.hid hrlT
                  have HownT := Lib.hid hownT
                  have HrrT := Lib.hid hrrT
                  have Hi3 := Lib.hid hi3
                  have Hz3 := Lib.hid hz3
                  have Hs3 := Lib.hid hs3
                  have Hb3 := Lib.hid hb3
                  have Hi88 := Lib.hid hi88
                  have Hz88 := Lib.hid hz88
                  have Hs88 := Lib.hid hs88
                  have Hb88 := Lib.hid hb88
                  have Hc88 := Lib.hid hc88
                  have Hka6 := Lib.hid hka6
                  clear hrlT hownT hrrT hi3 hz3 hs3 hb3 hi88 hz88 hs88 hb88 hc88 hown7 hg7 hrow7 hx7 kx2 lx2 hka6 hS6
                  go_region_held3 (fun w' => w'.cell? ⟨ba, oa + k, none⟩ = some (.int .i64 (ra : Int)) ∧ w'.cell? ⟨bb, ob + k, none⟩ = some (.int .i64 (rb : Int)))
                    (first | exact HS7.out _ (Hx7.out.drew) | exact HS7.out _ ((Hx7.out.drew).alloc _) | exact HS7.out _ hx8 | exact HS7.out _ (hx8.alloc _) | exact hS9)
                    (first
                      | (refine step_append_own (by rfl) _ _ 24 (by rfl) w6.heap.size 1 3 i3 (.int .i64 0) 8 Tryz.underlying24 Hi3.out Hz3.out Hs3.out Hb3.out rfl (by decide) _ _ ((way.map fun (n : Nat) => (n : Int)).map (Value.int .i64)) (by rfl) (owns_ext Hrow7.out ((Ext.refl w7).drew.alloc _)) (by have := Hx7.out.size; simp; omega) ⟨w7.heap.size, 0, none⟩ 1 [.int .i64 (k : Int)] (by rfl) (by rfl) (World.news_of_block (cs := #[.int .i64 (k : Int)]) (t := 3) (fr := (0, 0)) (heap_alloc_new w7.drew _)) (by simp [Value.oneCell']) (by simp only [maxLen]; omega) (by omega) ?_; intro v8 w8 hq8 hg8 hat8; obtain ⟨g9, c9, rfl⟩ := ownsRow_succ hq8; have hx8 : Ext w6 w8 := Below.grown ((Hx7.out.drew).alloc (.cells #[.int .i64 (k : Int)] 3)) hg8 (by have := Hx7.out.size; simp; omega) (fun k hk => (World.ownsRow.lt Hrow7.out k hk).1))
                      | (refine step_append_own (by rfl) _ _ 89 (by rfl) w.heap.size 3 88 i88 z88 40 Tryz.underlying89 Hi88.out Hz88.out Hs88.out Hb88.out Hc88.out (by decide) _ _ rowsT.flatten (by rfl) (owns_ext HownT.out (hx8.alloc _)) (by have := hx8.size; simp; omega) ⟨w8.heap.size, 0, none⟩ 1 [.int .i64 (ra : Int), .int .i64 (rb : Int), .slice (some ⟨g9, 0, none⟩) (way.length + 1) c9] (by rfl) (by rfl) (World.news_of_block (cs := #[.int .i64 (ra : Int), .int .i64 (rb : Int), .slice (some ⟨g9, 0, none⟩) (way.length + 1) c9]) (t := 88) (fr := (0, 0)) (heap_alloc_new w8 _)) (by simp [Value.oneCell']) (by simp only [maxLen]; omega) (by omega) ?_; intro v9 w9 hq9 hg9 hat9; have hS9 : w9.cell? ⟨ba, oa + k, none⟩ = some (.int .i64 (ra : Int)) ∧ w9.cell? ⟨bb, ob + k, none⟩ = some (.int .i64 (rb : Int)) := ⟨cell_kept hg9 ((hx8.alloc _).cell Hka6.out.1) Hoff.out.1.1, cell_kept hg9 ((hx8.alloc _).cell Hka6.out.2) Hoff.out.2.1⟩))
                  all_goals
                    have hv1 : SlF (New w6) intE w8 (.slice (some ⟨g9, 0, none⟩) (way.length + 1) c9) ((way ++ [k]).map fun (n : Nat) => (n : Int)) :=
                      ownsRow_sl (w := w6) (xs := (way ++ [k]).map fun (n : Nat) => (n : Int)) (by simpa using hq8)
                    have hb9 := Hb6.out.push (p := (ra, rb)) (way := way ++ [k]) HrlT.out HrrT.out (hx8.alloc _) (hv1.ext ((Ext.refl w8).alloc _)) hq9 hg9 hat9
                    rw [show (dn ++ ((p, q), way) :: ok) ++ [((ra, rb), way ++ [k])] = dn ++ ((p, q), way) :: (ok ++ [((ra, rb), way ++ [k])]) by simp] at hb9
                    have Hb9 := Lib.hid hb9
                    clear hb9 hv1 hS9 hq8 hg8 hat8 hq9 hg9 hat9 hx8
                    go_wp2_with fail
                    go_roundw
                    case rel => exact ⟨k + 1, by omega, by go_num, by rw [Hstep.out]; exact Hb9⟩
                    case measure => simp [intOf]; omega
            · have hke : (kidsN (refsN g) (p, q)).take k = kidsN (refsN g) (p, q) := List.take_of_length_le (by rw [Hkl.out]; omega)
              rw [hke] at Hb
              have i1 : ¬ (k : Int) < ((refsN g p).length : Int) := by omega
              clear hke
              have HI3 : Hid (RInvA g.length (agN g) (refsN g) (dn ++ [((p, q), way)]) (pushN way 0 (kidsN (refsN g) (p, q)) S o).2 (pushN way 0 (kidsN (refsN g) (p, q)) S o).1) := HI2
              have hst := Hb.out.st
              rw [show dn ++ ((p, q), way) :: (pushN way 0 (kidsN (refsN g) (p, q)) S o).2 = (dn ++ [((p, q), way)]) ++ (pushN way 0 (kidsN (refsN g) (p, q)) S o).2 by simp] at hst
              have Hst2 := Lib.hid hst
              clear hst HI2 Hb
              generalize (pushN way 0 (kidsN (refsN g) (p, q)) S o).1 = S2 at Hst2 HI3 HS2
              generalize (pushN way 0 (kidsN (refsN g) (p, q)) S o).2 = o2 at Hst2 HI3 HS2
              go_wp2_with fail
              go_roundw
              case rel => exact ⟨dn ++ [((p, q), way)], o2, S2, by rw [List.length_append, List.length_singleton]; go_num, Hst2, HI3, HS2⟩
              case measure => simp [intOf]; omega
  · rw [if_neg h0]
    have hne : (errG g [a, b] != 0) = true := by simpa using h0
    generalize errG g [a, b] = er at hop hne ⊢
    have Hop := Lib.hid hop
    clear hop hg hT h0
    go_enter Tryz.func16, Tryz.ntmps16
    go_wp2_with fail
    refine Hop.out.mono ?_
    rintro e w1 ⟨rfl, hx1⟩
    go_wp2_with fail
    go_ret3
    exact ⟨_, rfl, Sl.nil _ _, ((Ext.refl w).alloc _).trans hx1⟩
end Go.Proofs.YtldnjnnhfeobdaaGreatDoor
/- The law TypesApart returns true. Conditions: a tidy graph, lengths below 2^20. -/
namespace Go.Proofs.YtldnjnnhfeobdaaGreatDoor
set_option linter.all false
set_option linter.unusedSimpArgs false
set_option linter.unusedVariables false
open Go.RowKit Go.Shelf

theorem apart_len (g : Graph) (a b : Int) : ((apartG g a b).getD []).length ≤ 160000 := by
  unfold apartG
  split
  · rename_i h
    obtain ⟨hW, hab⟩ := errG_zero h
    cases hw : wayN (agN g) (refsN g) g.length a.toNat b.toNat with
    | none => simp
    | some u =>
      have h1 := hab a (by simp)
      have h2 := hab b (by simp)
      exact wayN_len hW (by omega) (by omega) hw
  · simp
set_option maxRecDepth 100000 in
set_option maxHeartbeats 8000000 in
theorem apart_law (w : World) (gv v : Value) (g : Graph) (a b : Int) (way : List Int) (hg : Sl tyE w gv g) (hT : Tidy g) (hG : Glob w) (hv : Sl intE w v way) (hwn : way.length ≤ 1048576) :
    Calls Tryz.prog 3 #[gv, .int .i64 a, .int .i64 b, v] w (Ret w (.bool true)) := by
  have Hli := Lib.hid (light_any w gv g hg hT)
  have Hal := Lib.hid (fun w' (hx : Ext w w') => alive_any w' (hG.mono hx))
  have Hap := Lib.hid (fun w' (hx : Ext w w') => apart_any w' gv g a b (hg.mono hx) hT (hG.mono hx))
  have Hra := Lib.hid (fun w' (hx : Ext w w') => rapart_any w' gv g a b (hg.mono hx) hT)
  have Hca := Lib.hid (fun w' (hx : Ext w w') => checkApart_any w' gv v g a b way (hg.mono hx) hT (hG.mono hx) (hv.mono hx) hwn)
  have Hrc := Lib.hid (fun w' (hx : Ext w w') => rcheckApart_any w' gv v g a b way (hg.mono hx) hT (hv.mono hx) hwn)
  have Hlen := Lib.hid (apart_len g a b)
  obtain ⟨A, cap, eg⟩ := hg.len
  obtain ⟨Aw, cw, ew⟩ := hv.len
  subst eg ew
  have hn := hT.len
  clear hg hT hG hv
  cases hl : lightG g with
  | false =>
    rw [hl] at Hli
    go_enter Tryz.func3, Tryz.ntmps3
    go_wp2_with fail
    refine Hli.out.mono ?_
    rintro e w1 ⟨rfl, hx1⟩
    go_wp2_with fail
    refine (Hal.out _ hx1).mono ?_
    rintro e w2 ⟨rfl, hx2⟩
    go_wp2_with fail
    go_ret
    exact ⟨rfl, hx1.trans hx2⟩
  | true =>
    rw [hl] at Hli
    by_cases h60 : 60 < way.length
    · have q : (60 : Int) < (way.length : Int) := by omega
      go_enter Tryz.func3, Tryz.ntmps3
      go_wp2_with fail
      refine Hli.out.mono ?_
      rintro e w1 ⟨rfl, hx1⟩
      go_wp2_with fail
      refine (Hal.out _ hx1).mono ?_
      rintro e w2 ⟨rfl, hx2⟩
      go_wp2_with fail
      go_ret
      exact ⟨rfl, hx1.trans hx2⟩
    · have q : ¬ (60 : Int) < (way.length : Int) := by omega
      go_enter Tryz.func3, Tryz.ntmps3
      go_wp2_with fail
      refine Hli.out.mono ?_
      rintro e w1 ⟨rfl, hx1⟩
      go_wp2_with fail
      refine (Hap.out _ hx1).mono ?_
      rintro e w2 ⟨vx, rfl, hvx, hx2⟩
      have Hx2 := Lib.hid (hx1.trans hx2)
      have Hvx := Lib.hid hvx
      clear hx1 hx2 hvx
      go_wp2_with fail
      refine (Hra.out _ Hx2.out).mono ?_
      rintro e w3 ⟨vy, rfl, hvy, hx3⟩
      have Hx3 := Lib.hid (Hx2.out.trans hx3)
      replace Hvx := Lib.hid (Hvx.out.mono hx3)
      have Hvy := Lib.hid hvy
      clear hx3 hvy
      go_wp2_with fail
      refine (Hca.out _ Hx3.out).mono ?_
      rintro e w4 ⟨rfl, hx4⟩
      have Hx4 := Lib.hid (Hx3.out.trans hx4)
      replace Hvx := Lib.hid (Hvx.out.mono hx4)
      replace Hvy := Lib.hid (Hvy.out.mono hx4)
      clear hx4
      go_wp2_with fail
      refine (Hrc.out _ Hx4.out).mono ?_
      rintro e w5 ⟨rfl, hx5⟩
      have Hx5 := Lib.hid (Hx4.out.trans hx5)
      replace Hvx := Lib.hid (Hvx.out.mono hx5)
      replace Hvy := Lib.hid (Hvy.out.mono hx5)
      clear hx5
      generalize checkApartG g a b way = ck at *
      generalize errG g [a, b] = er at *
      generalize apartG g a b = r at *
      generalize hr : r.isSome = rs at *
      clear hr
      go_wp2_with fail
      refine (Hal.out _ Hx5.out).mono ?_
      rintro e w6 ⟨rfl, hx6⟩
      have Hx6 := Lib.hid (Hx5.out.trans hx6)
      have hsi := sameInts_any w6 _ _ _ _ (Hvx.out.mono hx6) (Hvy.out.mono hx6) (by rw [List.length_map]; have := Hlen.out; omega) (by rw [List.length_map]; have := Hlen.out; omega)
      rw [decide_eq_true rfl] at hsi
      have Hsi := Lib.hid hsi
      clear hx6 hsi
      cases ck <;> cases rs
      all_goals
        go_wp2_with fail
        refine Hsi.out.mono ?_
        rintro e w7 ⟨rfl, hx7⟩
        go_wp2_with fail
        go_ret
        exact ⟨rfl, Hx6.out.trans hx7⟩
end Go.Proofs.YtldnjnnhfeobdaaGreatDoor
